/- slices.MinFunc over the jobs that are due. -/
import Derived.Test.YtdlpdpelhkgnlaaGreatDoorEnxa
import Derived.Test.YtdlpdpelhkgnlaaGreatDoorEqb
import Derived.Test.YtdlpdpelhkgnlaaGreatDoorEcopy
namespace Go.Proofs.YtdlpdpelhkgnlaaGreatDoor
open Go Go.RowKit Go.Shelf Go.Sort
attribute [local go_sem] bneI

theorem fibox {W : World} {b : Nat} {x : FiP} {t : TypeId} (h : W.heap[b]? = some (.cells (firE x).toArray t (0, 0))) :
    W.cell? ⟨b, 0, none⟩ = some (.int .i64 x.1) ∧ W.cell? ⟨b, 1, none⟩ = some (.string ⟨x.2.dom.toArray⟩) ∧ W.cell? ⟨b, 2, none⟩ = some (.int .i64 x.2.tries) ∧ W.cell? ⟨b, 3, none⟩ = some (.int .i64 x.2.due) := by
  refine ⟨?_, ?_, ?_, ?_⟩ <;> simp [World.cell?, h, firE]
def zeroFi : FiP := (0, ⟨[], 0, 0⟩)
structure MinAt (w : World) (m : FiP) (wr : World) : Prop where
  below : Below w.heap.size w wr
  res : wr.heap[w.heap.size]? = some (.cells (firE zeroFi).toArray 85 (0, 0))
  box : wr.heap[w.heap.size + 1]? = some (.cells (firE m).toArray 85 (0, 0))
theorem MinAt.keep {w wr W : World} {m : FiP} (h : MinAt w m wr) (hb : Below wr.heap.size wr W) : MinAt w m W :=
  ⟨h.below.trans (hb.mono h.below.size), (hb.block _ (lt_of_cells h.res)).trans h.res, (hb.block _ (lt_of_cells h.box)).trans h.box⟩
theorem set4 {W : World} {b : Nat} {x y : FiP} {t : TypeId} (h : W.heap[b]? = some (.cells (firE x).toArray t (0, 0))) :
    ((((W.setCell ⟨b, 0, none⟩ (.int .i64 y.1)).setCell ⟨b, 1, none⟩ (.string ⟨y.2.dom.toArray⟩)).setCell ⟨b, 2, none⟩ (.int .i64 y.2.tries)).setCell ⟨b, 3, none⟩ (.int .i64 y.2.due)).heap[b]? = some (.cells (firE y).toArray t (0, 0)) := by
  have h := heap_setE (off := 3) (v := .int .i64 y.2.due) (heap_setE (off := 2) (v := .int .i64 y.2.tries) (heap_setE (off := 1) (v := .string ⟨y.2.dom.toArray⟩) (heap_setE (off := 0) (v := .int .i64 y.1) h)))
  unfold firE at h ⊢
  simp only [List.setIfInBounds_toArray, List.set_cons_succ, List.set_cons_zero] at h
  exact h
theorem set4_other {W : World} {b k : Nat} (v0 v1 v2 v3 : Value) (h : k ≠ b) : ((((W.setCell ⟨b, 0, none⟩ v0).setCell ⟨b, 1, none⟩ v1).setCell ⟨b, 2, none⟩ v2).setCell ⟨b, 3, none⟩ v3).heap[k]? = W.heap[k]? := by
  have s : ∀ (W : World) (o : Nat) (u : Value), (W.setCell ⟨b, o, none⟩ u).heap[k]? = W.heap[k]? := fun W o u => Below.heap_setCell _ _ _ k (fun e => h e)
  simp only [s]
theorem set4_below {n : Nat} {W1 W : World} {b : Nat} (h : Below n W1 W) (hb : n ≤ b) (v0 v1 v2 v3 : Value) : Below n W1 ((((W.setCell ⟨b, 0, none⟩ v0).setCell ⟨b, 1, none⟩ v1).setCell ⟨b, 2, none⟩ v2).setCell ⟨b, 3, none⟩ v3) :=
  (((h.setCell (p := ⟨b, 0, none⟩) hb _).setCell (p := ⟨b, 1, none⟩) hb _).setCell (p := ⟨b, 2, none⟩) hb _).setCell (p := ⟨b, 3, none⟩) hb _
theorem MinAt.set {w wr : World} {m : FiP} (h : MinAt w m wr) (y : FiP) : MinAt w y ((((wr.setCell ⟨w.heap.size + 1, 0, none⟩ (.int .i64 y.1)).setCell ⟨w.heap.size + 1, 1, none⟩ (.string ⟨y.2.dom.toArray⟩)).setCell ⟨w.heap.size + 1, 2, none⟩ (.int .i64 y.2.tries)).setCell ⟨w.heap.size + 1, 3, none⟩ (.int .i64 y.2.due)) :=
  ⟨set4_below h.below (by omega) _ _ _ _, by rw [set4_other _ _ _ _ (by omega)]; exact h.res, set4 h.box⟩
theorem enterNext1 : ∀ args w, (callFunc 53 args).run Tryz.prog w = .ok (.enter 53 args) w := enters_of Tryz.func53 (by kernel_rfl) rfl
set_option maxRecDepth 100000 in
set_option maxHeartbeats 4000000 in
theorem minFi_any (x : FiP) (r : List FiP) (v : Value) (w : World) (hv : RowK 4 firE w v (x :: r)) (hn : (x :: r).length ≤ 1000000000000) :
    Calls Tryz.prog 52 #[v, .func (.func 53) #[] #[]] w fun e w' => e = .returned (.agg (firE (minFi x r)).toArray) ∧ Below w.heap.size w w' := by
  obtain ⟨p, c, rfl, -⟩ := hv.sh
  obtain ⟨l, hl⟩ : ∃ l, l = x :: r := ⟨_, rfl⟩
  have hl0 : 0 < l.length := by rw [hl]; simp
  have hx : l[0]? = some x := by rw [hl]; rfl
  have hd : l.drop 1 = r := by rw [hl]; rfl
  rw [← hl] at hv hn ⊢
  obtain ⟨b, o, rfl, hc⟩ := hv.at 0 hl0
  have c0' : w.cell? ⟨b, o, none⟩ = some (.int .i64 x.1) := by
    have := hc 0 hl0 0 _ rfl
    have e : l[0] = x := by rw [List.getElem?_eq_getElem hl0] at hx; injection hx
    rw [e] at this
    simpa using this
  have c1' : w.cell? ⟨b, o + 1, none⟩ = some (.string ⟨x.2.dom.toArray⟩) := by
    have := hc 0 hl0 1 _ rfl
    have e : l[0] = x := by rw [List.getElem?_eq_getElem hl0] at hx; injection hx
    rw [e] at this
    simpa using this
  have c2' : w.cell? ⟨b, o + 2, none⟩ = some (.int .i64 x.2.tries) := by
    have := hc 0 hl0 2 _ rfl
    have e : l[0] = x := by rw [List.getElem?_eq_getElem hl0] at hx; injection hx
    rw [e] at this
    simpa using this
  have c3' : w.cell? ⟨b, o + 3, none⟩ = some (.int .i64 x.2.due) := by
    have := hc 0 hl0 3 _ rfl
    have e : l[0] = x := by rw [List.getElem?_eq_getElem hl0] at hx; injection hx
    rw [e] at this
    simpa using this
  have hB : Below w.heap.size w (w.alloc (.cells (firE zeroFi).toArray 85)) := (Below.refl _ _).alloc (Nat.le_refl _) _
  have b0 := (hB.cell (p := ⟨_, _, none⟩) (cell_lt c0')).trans c0'
  have b1 := (hB.cell (p := ⟨_, _, none⟩) (cell_lt c1')).trans c1'
  have b2 := (hB.cell (p := ⟨_, _, none⟩) (cell_lt c2')).trans c2'
  have b3 := (hB.cell (p := ⟨_, _, none⟩) (cell_lt c3')).trans c3'
  unfold firE zeroFi at b0 b1 b2 b3
  have HV := Lib.hid (And.intro hv (And.intro hd hl))
  have hl1 : ¬ (l.length : Int) < 1 := by omega
  have hl2 : (0 : Int) < (l.length : Int) := by omega
  clear hv hd hl hc hx c0' c1' c2' c3' hB
  go_enter Tryz.func52, Tryz.ntmps52
  go_upto_region 4 with (fail)
  have hM0 : MinAt w x ((w.alloc (.cells #[.int .i64 0, .string ⟨#[]⟩, .int .i64 0, .int .i64 0] 85)).alloc (.cells #[.int .i64 x.1, .string ⟨x.2.dom.toArray⟩, .int .i64 x.2.tries, .int .i64 x.2.due] 85)) :=
    ⟨((Below.refl _ w).alloc (Nat.le_refl _) _).alloc (by simp) _, (ha_ne (by simp)).trans (ha_eq rfl), ha_eq (by simp)⟩
  generalize hW0 : World.alloc (World.alloc w _) _ = W0 at hM0 ⊢
  have HM0 := Lib.hid hM0
  clear hW0 hM0 b0 b1 b2 b3 hl1 hl2
  go_wp2_with fail
  go_loopw [6] (fun s6 wr => ∃ (i : Nat) (m : FiP), s6 = .int .i64 (i : Int) ∧ i ≤ l.length ∧ minFi m (l.drop i) = minFi x r ∧ MinAt w m wr) (fun s6 _ => l.length - natI s6)
  case atStart => exact ⟨1, x, rfl, hl0, by rw [HV.out.2.1], HM0.out⟩
  case round =>
    obtain ⟨i, m, rfl, hi, hmi, hM⟩ := hrel
    have HM := Lib.hid (And.intro hmi hM)
    clear hmi hM
    by_cases hlast : i < l.length
    · have hli : (i : Int) < (l.length : Int) := by omega
      have hw1 : wrap64 ((i : Int) + 1) = (i : Int) + 1 := by unfold wrap64; omega
      obtain ⟨b', o', e, hc⟩ := (HV.out.1.below HM.out.2.below).at i hlast
      cases e
      obtain ⟨y, hy⟩ : ∃ y, l[i]? = some y := ⟨_, List.getElem?_eq_getElem hlast⟩
      have hyi : l[i] = y := by rw [List.getElem?_eq_getElem hlast] at hy; injection hy
      have hc' := hc i hlast
      rw [hyi] at hc'
      have y0 : wr.cell? ⟨b, o + i * 4, none⟩ = some (.int .i64 y.1) := hc' 0 _ rfl
      have y1 : wr.cell? ⟨b, o + i * 4 + 1, none⟩ = some (.string ⟨y.2.dom.toArray⟩) := hc' 1 _ rfl
      have y2 : wr.cell? ⟨b, o + i * 4 + 2, none⟩ = some (.int .i64 y.2.tries) := hc' 2 _ rfl
      have y3 : wr.cell? ⟨b, o + i * 4 + 3, none⟩ = some (.int .i64 y.2.due) := hc' 3 _ rfl
      have hdr : l.drop i = y :: l.drop (i + 1) := by rw [List.drop_eq_getElem_cons hlast, hyi]
      have hnx : minFi (if cmpFi y m < 0 then y else m) (l.drop (i + 1)) = minFi x r := by rw [← HM.out.1, hdr]; rfl
      obtain ⟨m0, m1, m2, m3⟩ := fibox HM.out.2.box
      have q0 := BW.cell y0
      have q1 := BW.cell y1
      have q2 := BW.cell y2
      have q3 := BW.cell y3
      have r0 := BW.cell m0
      have r1 := BW.cell m1
      have r2 := BW.cell m2
      have r3 := BW.cell m3
      have hS := BW.calls (w := wr) (fun W _ => next1_any y m W)
      have HY := Lib.hid (And.intro hnx (And.intro y0 (And.intro y1 (And.intro y2 y3))))
      clear hc hc' hdr hnx y0 y1 y2 y3 m0 m1 m2 m3 hy hyi
      unfold firE at hS
      go_upto_region 7 with (fail)
      refine wp_region_quiet_below (by kernel_rfl) (by kernel_rfl) ?_
      repeat (go_big_quiet_step (exact hS _))
      refine wpQuiet_nil ?_
      rintro W5 ⟨⟨W5, hB5⟩, rfl⟩
      have H5 := Lib.hid (HM.out.2.keep hB5)
      have y0 := (hB5.cell (p := ⟨_, _, none⟩) (cell_lt HY.out.2.1)).trans HY.out.2.1
      have y1 := (hB5.cell (p := ⟨_, _, none⟩) (cell_lt HY.out.2.2.1)).trans HY.out.2.2.1
      have y2 := (hB5.cell (p := ⟨_, _, none⟩) (cell_lt HY.out.2.2.2.1)).trans HY.out.2.2.2.1
      have y3 := (hB5.cell (p := ⟨_, _, none⟩) (cell_lt HY.out.2.2.2.2)).trans HY.out.2.2.2.2
      clear q0 q1 q2 q3 r0 r1 r2 r3 hS hB5
      by_cases hcm : cmpFi y m < 0
      · have hnx := HY.out.1
        rw [if_pos hcm] at hnx
        have HN := Lib.hid hnx
        obtain ⟨m0, m1, m2, m3⟩ := fibox H5.out.box
        have hbx := H5.out.box
        have f0 := efroz hbx 0
        have f1 := efroz hbx 1
        have f2 := efroz hbx 2
        have f3 := efroz hbx 3
        have HS := Lib.hid (H5.out.set y)
        clear hnx hbx
        go_wp2
        go_roundw
        case rel => exact ⟨i + 1, y, by simp [hw1], by omega, HN.out, HS.out⟩
        case measure => simp [natI, hw1]; omega
      · have hnx := HY.out.1
        rw [if_neg hcm] at hnx
        have HN := Lib.hid hnx
        clear hnx y0 y1 y2 y3
        go_wp2
        go_roundw
        case rel => exact ⟨i + 1, m, by simp [hw1], by omega, HN.out, H5.out⟩
        case measure => simp [natI, hw1]; omega
    · have hli : ¬ (i : Int) < (l.length : Int) := by omega
      have hdr : l.drop i = [] := List.drop_eq_nil_of_le (by omega)
      have hme : m = minFi x r := by have := HM.out.1; rw [hdr] at this; exact this
      have HE := Lib.hid hme
      obtain ⟨m0, m1, m2, m3⟩ := fibox HM.out.2.box
      have hbx := HM.out.2.res
      unfold firE zeroFi at hbx
      have f0 := efroz hbx 0
      have f1 := efroz hbx 1
      have f2 := efroz hbx 2
      have f3 := efroz hbx 3
      obtain ⟨z0, z1, z2, z3⟩ := fibox HM.out.2.res
      clear hdr hme hbx
      go_wp2
      have hb4 := set4 (y := m) HM.out.2.res
      have hB4 := set4_below HM.out.2.below (Nat.le_refl w.heap.size) (.int .i64 m.1) (.string ⟨m.2.dom.toArray⟩) (.int .i64 m.2.tries) (.int .i64 m.2.due)
      clear m0 m1 m2 m3 f0 f1 f2 f3 z0 z1 z2 z3
      generalize hW9 : World.setCell (World.setCell (World.setCell (World.setCell wr _ _) _ _) _ _) _ _ = W9 at hb4 hB4 ⊢
      clear hW9
      obtain ⟨t0, t1, t2, t3⟩ := fibox hb4
      refine bodyPost_ret (v := .agg (firE m).toArray) (by simp [results, Tryz.results52, go_sem, t0, t1, t2, t3, firE]) rfl ⟨by rw [HE.out], hB4⟩
end Go.Proofs.YtdlpdpelhkgnlaaGreatDoor

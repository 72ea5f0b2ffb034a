/- entry.Copy. -/
import Derived.Test.YtdlpdpelhkgnlaaGreatDoorMd
import Derived.Deep.RegionWith
namespace Go.Proofs.YtdlpdpelhkgnlaaGreatDoor
open Go Go.RowKit Go.Shelf Go.Sort
attribute [local go_sem] bneI

theorem heap_setE {W : World} {b off : Nat} {cs : Array Value} {t : TypeId} {f : Nat × Nat} {v : Value} (h : W.heap[b]? = some (.cells cs t f)) : (W.setCell ⟨b, off, none⟩ v).heap[b]? = some (.cells (cs.setIfInBounds off v) t f) := by
  simp [World.setCell, Array.getElem?_modify, h]
/-- What Copy hands back: an entry in rows of its own. -/
structure OwnE (w : World) (base : Nat) (x : EntP) (sv fv jv : Value) : Prop where
  rc : w.ownsRow base 57 2 sv x.mail.rcpts.length (x.mail.rcpts.flatMap rcE)
  fa : w.ownsRow base 42 2 fv x.fates.length (x.fates.flatMap faE)
  jo : w.ownsRow base 40 3 jv x.jobs.length (x.jobs.flatMap joE)
theorem OwnE.set {w : World} {base : Nat} {x : EntP} {sv fv jv : Value} (h : OwnE w base x sv fv jv) {a : Addr} (ha : a.block < base) (u : Value) : OwnE (w.setCell a u) base x sv fv jv := ⟨ownsRow_setCell_below h.rc ha u, ownsRow_setCell_below h.fa ha u, ownsRow_setCell_below h.jo ha u⟩
theorem OwnE.less {w : World} {a base : Nat} {x : EntP} {sv fv jv : Value} (h : OwnE w base x sv fv jv) (ha : a ≤ base) : OwnE w a x sv fv jv := ⟨ownsRow_less h.rc ha, ownsRow_less h.fa ha, ownsRow_less h.jo ha⟩
theorem efroz {W : World} {b : Nat} {cs : Array Value} {t : TypeId} (h : W.heap[b]? = some (.cells cs t (0, 0))) (k : Nat) : W.frozen? ⟨b, k, none⟩ = false := by simp [World.frozen?, h]
theorem onceH {p q : Prop} (h : p) (f : RowKit.Hid p → q) : q := f (Lib.hid h)
def zeroC : Array Value := #[.int .i64 0, .int .i64 0, .string ⟨#[]⟩, .slice none 0 0, .bool false, .string ⟨#[]⟩, .string ⟨#[]⟩, .bool false, .slice none 0 0, .slice none 0 0]
/-- What the three clones and the three stores leave. -/
structure CopyEnd (w W : World) (x : EntP) (sv fv jv : Value) : Prop where
  below : Below w.heap.size w W
  box : W.heap[w.heap.size]? = some (.cells (entC x sv fv jv).toArray 32 (0, 0))
  zero : W.heap[w.heap.size + 1]? = some (.cells zeroC 32 (0, 0))
  own : OwnE W (w.heap.size + 2) x sv fv jv
theorem copy_leaf {w W w3 w4 w5 : World} {x : EntP} {sv fv jv s0 f0 j0 : Value} (hB : Below w.heap.size w W) (hsz : W.heap.size = w.heap.size + 2)
    (e5 : w5.heap[w.heap.size]? = some (.cells (entC x s0 f0 j0).toArray 32 (0, 0))) (z5 : w5.heap[w.heap.size + 1]? = some (.cells zeroC 32 (0, 0)))
    (ho3 : w3.ownsRow W.drew.heap.size 57 2 sv x.mail.rcpts.length (x.mail.rcpts.flatMap rcE)) (hb4 : Below w3.heap.size w3 w4)
    (ho4 : w4.ownsRow w3.heap.size 42 2 fv x.fates.length (x.fates.flatMap faE)) (hb5 : Below w4.heap.size w4 w5)
    (ho5 : w5.ownsRow w4.heap.size 40 3 jv x.jobs.length (x.jobs.flatMap joE)) (h3 : Below W.heap.size W w3) (h4 : Below W.heap.size W w4) (h5 : Below W.heap.size W w5) :
    CopyEnd w (((w5.setCell ⟨w.heap.size, 3, none⟩ sv).setCell ⟨w.heap.size, 8, none⟩ fv).setCell ⟨w.heap.size, 9, none⟩ jv) x sv fv jv := by
  have s3 := h3.size
  have s4 := h4.size
  have hne : w.heap.size + 1 ≠ w.heap.size := by omega
  refine ⟨(((hB.trans (h5.mono hB.size)).setCell (Nat.le_refl _) _).setCell (Nat.le_refl _) _).setCell (Nat.le_refl _) _, heap_setE (heap_setE (heap_setE e5)), ?_, ?_, ?_, ?_⟩
  · exact (Below.heap_setCell _ _ _ _ hne).trans ((Below.heap_setCell _ _ _ _ hne).trans ((Below.heap_setCell _ _ _ _ hne).trans z5))
  · have h := (ho3.kept (grownBy_of_below hb4 none) (Classical.em _)).kept (grownBy_of_below hb5 none) (Classical.em _)
    have hlt : w.heap.size < W.drew.heap.size := by show w.heap.size < W.heap.size; omega
    exact ownsRow_less (ownsRow_setCell_below (ownsRow_setCell_below (ownsRow_setCell_below h hlt _) hlt _) hlt _) (by first | omega | (show _ ≤ W.heap.size; omega))
  · have h := ho4.kept (grownBy_of_below hb5 none) (Classical.em _)
    have hlt : w.heap.size < w3.heap.size := by omega
    exact ownsRow_less (ownsRow_setCell_below (ownsRow_setCell_below (ownsRow_setCell_below h hlt _) hlt _) hlt _) (by first | omega | (show _ ≤ W.heap.size; omega))
  · have hlt : w.heap.size < w4.heap.size := by omega
    exact ownsRow_less (ownsRow_setCell_below (ownsRow_setCell_below (ownsRow_setCell_below ho5 hlt _) hlt _) hlt _) (by first | omega | (show _ ≤ W.heap.size; omega))
def CopyPost (w : World) (x : EntP) (e : Ending) (w' : World) : Prop := ∃ sv fv jv, e = .returned (entV x sv fv jv) ∧ OwnE w' w.heap.size x sv fv jv
set_option maxRecDepth 100000 in
set_option maxHeartbeats 4000000 in
theorem copyE_any (x : EntP) (sv fv jv : Value) (w : World) (hx : EntAt w x sv fv jv) (hs : ShortE x) :
    Calls Tryz.prog 25 #[entV x sv fv jv] w fun e w' => CopyPost w x e w' ∧ Below w.heap.size w w' := by
  obtain ⟨p, c, rfl, -⟩ := hx.rc.sh
  obtain ⟨q, d, rfl, -⟩ := hx.fa.sh
  obtain ⟨r, rr, rfl, -⟩ := hx.jo.sh
  unfold entV
  unfold entC
  have HX := Lib.hid (And.intro hx hs)
  clear hx hs
  go_enter Tryz.func25, Tryz.ntmps25
  go_upto_region 1 with (fail)
  generalize hW : World.alloc (World.alloc _ _) _ = W
  have hB : Below w.heap.size w W := by rw [← hW]; exact ((Below.refl _ _).alloc (Nat.le_refl _) _).alloc (by simp) _
  have hsz : W.heap.size = w.heap.size + 2 := by rw [← hW]; simp
  have hb : W.heap[w.heap.size]? = some (.cells (entC x (.slice p x.mail.rcpts.length c) (.slice q x.fates.length d) (.slice r x.jobs.length rr)).toArray 32 (0, 0)) := by rw [← hW]; exact (ha_ne (by simp)).trans (ha_eq rfl)
  have hz := ha_eq (w := (w.alloc (.cells (entC x (.slice p x.mail.rcpts.length c) (.slice q x.fates.length d) (.slice r x.jobs.length rr)).toArray 32))) (k := w.heap.size + 1) (o := .cells #[.int .i64 0, .int .i64 0, .string ⟨#[]⟩, .slice none 0 0, .bool false, .string ⟨#[]⟩, .string ⟨#[]⟩, .bool false, .slice none 0 0, .slice none 0 0] 32) (by simp)
  unfold entC at hb hz
  obtain ⟨-, -, -, x3, -, -, -, -, x8, x9⟩ := eboxAll hb
  rw [hW] at hz
  have hz1 := hz
  have hB0 : Below W.heap.size W W.drew := below_drew W
  have hC1 := fun V (hV : Below W.heap.size W V) => cloneRcpt_any x.mail.rcpts _ V (((HX.out.1.below hB).below hV).rc) HX.out.2.mail.rcpts
  have hC2 := fun V (hV : Below W.heap.size W V) => cloneFate_any x.fates _ V (((HX.out.1.below hB).below hV).fa) HX.out.2.fates
  have hC3 := fun V (hV : Below W.heap.size W V) => cloneJob_any x.jobs _ V (((HX.out.1.below hB).below hV).jo) HX.out.2.jobs
  have keep := fun V (hV : Below W.heap.size W V) (k : Nat) (u : Value) (h : W.cell? ⟨w.heap.size, k, none⟩ = some u) => (hV.cell (p := ⟨w.heap.size, k, none⟩) (cell_lt h)).trans h
  have hbk := fun V (hV : Below W.heap.size W V) => (hV.block w.heap.size (by omega)).trans hb
  have hzk := fun V (hV : Below W.heap.size W V) => (hV.block (w.heap.size + 1) (by omega)).trans hz1
  have y3 := keep _ hB0 _ _ x3
  have y8 := keep _ hB0 _ _ x8
  have y9 := keep _ hB0 _ _ x9
  have HC := Lib.hid (And.intro hB (And.intro hsz (And.intro hB0 (And.intro hC1 (And.intro hC2 (And.intro hC3 (And.intro keep (And.intro hbk (And.intro hzk (And.intro x3 (And.intro x8 x9)))))))))))
  clear hB hsz hb hz hz1 hB0 hC1 hC2 hC3 keep hbk hzk x3 x8 x9 hW
  apply onceH
  case f =>
   intro hfin
   go_region_with ((first
     | (go_at_call 73
        refine (HC.out.2.2.2.1 _ HC.out.2.2.1).mono ?_
        rintro e w3 ⟨v3, rfl, ho3, hb3⟩
        obtain ⟨p3, c3, hv3⟩ := own_shape ho3
        subst hv3
        have hB3 : Below W.heap.size W w3 := HC.out.2.2.1.trans hb3
        have k8 := HC.out.2.2.2.2.2.2.1 _ hB3 _ _ HC.out.2.2.2.2.2.2.2.2.2.2.1
        have k9 := HC.out.2.2.2.2.2.2.1 _ hB3 _ _ HC.out.2.2.2.2.2.2.2.2.2.2.2)
     | (go_at_call 74
        refine (HC.out.2.2.2.2.1 _ hB3).mono ?_
        rintro e w4 ⟨v4, rfl, ho4, hb4⟩
        obtain ⟨p4, c4, hv4⟩ := own_shape ho4
        subst hv4
        have hB4 : Below W.heap.size W w4 := hB3.trans (hb4.mono hB3.size)
        have l9 := HC.out.2.2.2.2.2.2.1 _ hB4 _ _ HC.out.2.2.2.2.2.2.2.2.2.2.2)
     | (go_at_call 75
        refine (HC.out.2.2.2.2.2.1 _ hB4).mono ?_
        rintro e w5 ⟨v5, rfl, ho5, hb5⟩
        obtain ⟨p5, c5, hv5⟩ := own_shape ho5
        subst hv5
        have hB5 : Below W.heap.size W w5 := hB4.trans (hb5.mono hB4.size)
        have e5 := HC.out.2.2.2.2.2.2.2.1 _ hB5
        have e6 := heap_setE (off := 3) (v := .slice p3 x.mail.rcpts.length c3) e5
        have e7 := heap_setE (off := 8) (v := .slice p4 x.fates.length c4) e6
        have m3 : w5.cell? ⟨w.heap.size, 3, none⟩ = some (.slice p x.mail.rcpts.length c) := by simp [World.cell?, e5]
        have n3 : w5.frozen? ⟨w.heap.size, 3, none⟩ = false := by simp [World.frozen?, e5]
        have m8 : (w5.setCell ⟨w.heap.size, 3, none⟩ (.slice p3 x.mail.rcpts.length c3)).cell? ⟨w.heap.size, 8, none⟩ = some (.slice q x.fates.length d) := by simp [World.cell?, e6]
        have n8 : (w5.setCell ⟨w.heap.size, 3, none⟩ (.slice p3 x.mail.rcpts.length c3)).frozen? ⟨w.heap.size, 8, none⟩ = false := by simp [World.frozen?, e6]
        have m9 : ((w5.setCell ⟨w.heap.size, 3, none⟩ (.slice p3 x.mail.rcpts.length c3)).setCell ⟨w.heap.size, 8, none⟩ (.slice p4 x.fates.length c4)).cell? ⟨w.heap.size, 9, none⟩ = some (.slice r x.jobs.length rr) := by simp [World.cell?, e7]
        have n9 : ((w5.setCell ⟨w.heap.size, 3, none⟩ (.slice p3 x.mail.rcpts.length c3)).setCell ⟨w.heap.size, 8, none⟩ (.slice p4 x.fates.length c4)).frozen? ⟨w.heap.size, 9, none⟩ = false := by simp [World.frozen?, e7]
        have H5 := Lib.hid (And.intro hB5 (And.intro e5 (And.intro e6 e7)))
        clear e5 e6 e7)))
   all_goals (have hL := copy_leaf HC.out.1 HC.out.2.1 H5.out.2.1 (HC.out.2.2.2.2.2.2.2.2.1 _ H5.out.1) ho3 hb4 ho4 hb5 ho5 hB3 hB4 H5.out.1)
   all_goals (generalize hW6 : World.setCell _ _ _ = W6 at hL ⊢)
   all_goals (clear hW6 m3 n3 m8 n8 m9 n9 H5 ho3 hb3 hB3 k8 k9 ho4 hb4 hB4 l9 ho5 hb5 hB5)
   all_goals (revert p3 c3 p4 c4 p5 c5 W6)
   all_goals exact hfin.out
  case h =>
    intro p3 c3 p4 c4 p5 c5 W6 hL
    have hbx := hL.box
    have hzx := hL.zero
    have HZ := Lib.hid hL
    clear hL
    unfold entC at hbx
    unfold zeroC at hzx
    obtain ⟨g0, g1, g2, g3, g4, g5, g6, g7, g8, g9⟩ := eboxAll hbx
    obtain ⟨z0, z1, z2, z3, z4, z5, z6, z7, z8, z9⟩ := eboxAll hzx
    have f0 := efroz hzx 0
    have f1 := efroz hzx 1
    have f2 := efroz hzx 2
    have f3 := efroz hzx 3
    have f4 := efroz hzx 4
    have f5 := efroz hzx 5
    have f6 := efroz hzx 6
    have f7 := efroz hzx 7
    have f8 := efroz hzx 8
    have f9 := efroz hzx 9
    clear hbx hzx
    go_wp2
    have hb7 := heap_setE (off := 9) (v := .slice p5 x.jobs.length c5) (heap_setE (off := 8) (v := .slice p4 x.fates.length c4) (heap_setE (off := 7) (v := .bool x.plain) (heap_setE (off := 6) (v := .string ⟨x.mail.text.toArray⟩) (heap_setE (off := 5) (v := .string ⟨x.mail.envid.toArray⟩) (heap_setE (off := 4) (v := .bool x.mail.req) (heap_setE (off := 3) (v := .slice p3 x.mail.rcpts.length c3) (heap_setE (off := 2) (v := .string ⟨x.mail.sender.toArray⟩) (heap_setE (off := 1) (v := .int .i64 x.at_) (heap_setE (off := 0) (v := .int .i64 x.id) HZ.out.zero)))))))))
    have hle : w.heap.size ≤ w.heap.size + 1 := by omega
    have hlt : w.heap.size + 1 < w.heap.size + 2 := by omega
    have hB7 := ((((((((((HZ.out.below.setCell (p := ⟨w.heap.size + 1, 0, none⟩) hle (.int .i64 x.id)).setCell (p := ⟨w.heap.size + 1, 1, none⟩) hle (.int .i64 x.at_)).setCell (p := ⟨w.heap.size + 1, 2, none⟩) hle (.string ⟨x.mail.sender.toArray⟩)).setCell (p := ⟨w.heap.size + 1, 3, none⟩) hle (.slice p3 x.mail.rcpts.length c3)).setCell (p := ⟨w.heap.size + 1, 4, none⟩) hle (.bool x.mail.req)).setCell (p := ⟨w.heap.size + 1, 5, none⟩) hle (.string ⟨x.mail.envid.toArray⟩)).setCell (p := ⟨w.heap.size + 1, 6, none⟩) hle (.string ⟨x.mail.text.toArray⟩)).setCell (p := ⟨w.heap.size + 1, 7, none⟩) hle (.bool x.plain)).setCell (p := ⟨w.heap.size + 1, 8, none⟩) hle (.slice p4 x.fates.length c4)).setCell (p := ⟨w.heap.size + 1, 9, none⟩) hle (.slice p5 x.jobs.length c5))
    have ho7 := ((((((((((HZ.out.own.set (a := ⟨w.heap.size + 1, 0, none⟩) hlt (.int .i64 x.id)).set (a := ⟨w.heap.size + 1, 1, none⟩) hlt (.int .i64 x.at_)).set (a := ⟨w.heap.size + 1, 2, none⟩) hlt (.string ⟨x.mail.sender.toArray⟩)).set (a := ⟨w.heap.size + 1, 3, none⟩) hlt (.slice p3 x.mail.rcpts.length c3)).set (a := ⟨w.heap.size + 1, 4, none⟩) hlt (.bool x.mail.req)).set (a := ⟨w.heap.size + 1, 5, none⟩) hlt (.string ⟨x.mail.envid.toArray⟩)).set (a := ⟨w.heap.size + 1, 6, none⟩) hlt (.string ⟨x.mail.text.toArray⟩)).set (a := ⟨w.heap.size + 1, 7, none⟩) hlt (.bool x.plain)).set (a := ⟨w.heap.size + 1, 8, none⟩) hlt (.slice p4 x.fates.length c4)).set (a := ⟨w.heap.size + 1, 9, none⟩) hlt (.slice p5 x.jobs.length c5))
    clear z0 z1 z2 z3 z4 z5 z6 z7 z8 z9 f0 f1 f2 f3 f4 f5 f6 f7 f8 f9 g0 g1 g2 g3 g4 g5 g6 g7 g8 g9
    generalize hW7 : World.setCell (World.setCell (World.setCell (World.setCell (World.setCell (World.setCell (World.setCell (World.setCell (World.setCell (World.setCell W6 _ _) _ _) _ _) _ _) _ _) _ _) _ _) _ _) _ _) _ _ = W7 at hb7 hB7 ho7 ⊢
    clear hW7
    simp only [zeroC, List.setIfInBounds_toArray, List.set_cons_succ, List.set_cons_zero] at hb7
    obtain ⟨t0, t1, t2, t3, t4, t5, t6, t7, t8, t9⟩ := eboxAll hb7
    clear hb7
    refine bodyPost_ret (v := entV x (.slice p3 x.mail.rcpts.length c3) (.slice p4 x.fates.length c4) (.slice p5 x.jobs.length c5)) (by simp [results, Tryz.results25, go_sem, t0, t1, t2, t3, t4, t5, t6, t7, t8, t9, entV, entC]) rfl ⟨⟨_, _, _, rfl, ho7.less (by omega)⟩, hB7⟩
end Go.Proofs.YtdlpdpelhkgnlaaGreatDoor

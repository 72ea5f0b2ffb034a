/- entry.Next. -/
import Derived.Test.YtdlpdpelhkgnlaaGreatDoorEnxm
import Derived.Test.YtdlpdpelhkgnlaaGreatDoorElarge
import Derived.Test.YtdlpdpelhkgnlaaGreatDoorEown
namespace Go.Proofs.YtdlpdpelhkgnlaaGreatDoor
open Go Go.RowKit Go.Shelf Go.Sort
attribute [local go_sem] bneI

theorem infoFi : (Tryz.prog.info? 85).map (fun i => (i.zero, i.size, i.bytes)) = some (some (.agg #[.int .i64 0, .string ⟨#[]⟩, .int .i64 0, .int .i64 0]), 4, 40) := by kernel_rfl
/-- The dues of an entry's first jobs. -/
def duesP (x : EntP) (now : Int) (k : Nat) : List FiP := ((x.jobs.take k).filter fun j => decide (j.due ≤ now) && decide (waitsM x j.dom ≠ [])).map fun j => (x.id, j)
theorem duesP_succ (x : EntP) (now : Int) (k : Nat) (j : JoP) (h : x.jobs[k]? = some j) : duesP x now (k + 1) = duesP x now k ++ (if decide (j.due ≤ now) && decide (waitsM x j.dom ≠ []) then [(x.id, j)] else []) := by
  have hk := (List.getElem?_eq_some_iff.1 h)
  obtain ⟨hk, e⟩ := hk
  unfold duesP
  rw [List.take_succ_eq_append_getElem hk, List.filter_append, List.map_append, e]
  congr 1
  by_cases c : (decide (j.due ≤ now) && decide (waitsM x j.dom ≠ [])) = true
  · rw [if_pos c]; simp only [List.filter_cons, c]; rfl
  · rw [if_neg c]; simp only [List.filter_cons, c]; rfl
theorem duesP_all (x : EntP) (now : Int) : duesP x now x.jobs.length = duesOf x now := by
  unfold duesP duesOf
  rw [List.take_length]
theorem duesP_len (x : EntP) (now : Int) (k : Nat) : (duesP x now k).length ≤ k := by
  unfold duesP
  rw [List.length_map]
  exact Nat.le_trans (List.length_filter_le _ _) (by rw [List.length_take]; exact Nat.min_le_left _ _)
theorem allDue_succ (l : List EntP) (now : Int) (i : Nat) (x : EntP) (h : l[i]? = some x) : allDue (l.take (i + 1)) now = allDue (l.take i) now ++ duesOf x now := by
  obtain ⟨hi, e⟩ := List.getElem?_eq_some_iff.1 h
  unfold allDue
  rw [List.take_succ_eq_append_getElem hi, List.flatMap_append, e]
  simp
theorem allDue_len (now : Int) (B : Nat) : ∀ (l : List EntP), (∀ x ∈ l, x.jobs.length ≤ B) → (allDue l now).length ≤ l.length * B
  | [], _ => by simp [allDue]
  | x :: l, h => by
    have ih := allDue_len now B l fun y hy => h y (List.mem_cons_of_mem _ hy)
    have h1 := h x List.mem_cons_self
    have h2 : (duesOf x now).length ≤ x.jobs.length := by rw [← duesP_all]; exact duesP_len _ _ _
    unfold allDue at ih ⊢
    rw [List.flatMap_cons, List.length_append, List.length_cons, Nat.succ_mul]
    omega
theorem own_ne_box {W : World} {base b : Nat} {T S : TypeId} {k n : Nat} {v : Value} {xs cs : List Value} (h : W.ownsRow base T k v n xs) (hb : W.heap[b]? = some (.cells cs.toArray S (0, 0))) (hT : T ≠ S) : v.ownBlock ≠ some b := by
  rcases h.2 with ⟨rfl, _⟩ | ⟨g, cap, cur, rfl, _, hg, _⟩
  · simp [Value.ownBlock]
  · intro e
    have : g = b := by simpa [Value.ownBlock] using e
    subst this
    rw [hg] at hb
    injection hb with hb
    injection hb with _ hb _
    exact hT hb
/-- What was gathered. -/
structure NxAt (w : World) (acc : List FiP) (av : Value) (wr : World) : Prop where
  own : wr.ownsRow w.heap.size 85 4 av acc.length (acc.flatMap firE)
  below : Below w.heap.size w wr
structure NxIn (w : World) (x : EntP) (sv fv jv : Value) (bx : Nat) (acc : List FiP) (av : Value) (wr : World) : Prop where
  at_ : NxAt w acc av wr
  box : wr.heap[bx]? = some (.cells (entC x sv fv jv).toArray 32 (0, 0))
theorem NxAt.keep {w wr W : World} {acc : List FiP} {av : Value} (h : NxAt w acc av wr) (hb : Below wr.heap.size wr W) : NxAt w acc av W := ⟨h.own.kept (grownBy_of_below hb none) (Classical.em _), h.below.trans (hb.mono h.below.size)⟩
theorem NxIn.keep {w wr W : World} {x : EntP} {sv fv jv : Value} {bx : Nat} {acc : List FiP} {av : Value} (h : NxIn w x sv fv jv bx acc av wr) (hb : Below wr.heap.size wr W) : NxIn w x sv fv jv bx acc av W := ⟨h.at_.keep hb, (hb.block _ (lt_of_cells h.box)).trans h.box⟩
def NextPost (l : List EntP) (now : Int) (e : Ending) : Prop := (∃ m, nextN l now = some m ∧ e = .returned (.tuple #[.int .i64 m.1, .string ⟨m.2.dom.toArray⟩, .bool true])) ∨ (nextN l now = none ∧ e = .returned (.tuple #[.int .i64 0, .string ⟨#[]⟩, .bool false]))
set_option maxRecDepth 100000 in
set_option maxHeartbeats 8000000 in
theorem next_any (l : List EntP) (p0 : Option Addr) (b o c : Nat) (now : Int) (w : World) (hp0 : l ≠ [] → p0 = some ⟨b, o, none⟩) (hx : EntsAt w b o l) (hs : ∀ x ∈ l, ShortE x) (hj : ∀ x ∈ l, x.jobs.length ≤ 2000) (hn : l.length ≤ 1000) (hE : Env w) :
    Calls Tryz.prog 17 #[.slice p0 l.length c, .int .i64 now] w fun e w' => NextPost l now e ∧ Below w.heap.size w w' := by
  obtain ⟨i0, hi0, hz0, hz1, hz2⟩ := info_parts infoFi
  have HX := Lib.hid (And.intro hx (And.intro hs (And.intro hj (And.intro hn hE))))
  have HP0 := Lib.hid hp0
  clear hx hs hj hE hp0
  go_enter Tryz.func17, Tryz.ntmps17
  go_wp2_with fail
  go_loopw [7, 15] (fun s7 s15 wr => ∃ (i : Nat), s15 = .int .i64 (i : Int) ∧ i ≤ l.length ∧ NxAt w (allDue (l.take i) now) s7 wr) (fun _ s15 _ => l.length - natI s15)
  case atStart => exact ⟨0, rfl, Nat.zero_le _, ⟨⟨rfl, .inl ⟨rfl, rfl⟩⟩, Below.refl _ _⟩⟩
  case round =>
    obtain ⟨i, rfl, hi, hN⟩ := hrel
    have HN := Lib.hid hN
    clear hN
    by_cases hlast : i < l.length
    · have hli : (i : Int) < (l.length : Int) := by omega
      have hpe := HP0.out (fun e => by rw [e] at hlast; simp at hlast)
      subst hpe
      obtain ⟨x, hxe⟩ : ∃ x, l[i]? = some x := ⟨_, List.getElem?_eq_getElem hlast⟩
      obtain ⟨sv, fv, jv, hEA, hcw⟩ := HX.out.1.ent hxe (Below.refl _ _)
      have hcs : ∀ (j : Nat) (u : Value), (entC x sv fv jv)[j]? = some u → wr.cell? ⟨b, o + i * 10 + j, none⟩ = some u := fun j u h => (HN.out.below.cell (p := ⟨_, _, none⟩) (cell_lt (hcw j u h))).trans (hcw j u h)
      clear hcw
      have hxm : x ∈ l := List.mem_of_getElem? hxe
      have HXE := Lib.hid (And.intro hxe (And.intro (HX.out.2.1 x hxm) (And.intro (HX.out.2.2.1 x hxm) hlast)))
      obtain ⟨p1, c1, rfl, -⟩ := hEA.rc.sh
      obtain ⟨p2, c2, rfl, -⟩ := hEA.fa.sh
      obtain ⟨p3, c3, rfl, -⟩ := hEA.jo.sh
      have k0 : wr.cell? ⟨b, o + i * 10, none⟩ = some (.int .i64 x.id) := hcs 0 _ rfl
      have k1 : wr.cell? ⟨b, o + i * 10 + 1, none⟩ = some (.int .i64 x.at_) := hcs 1 _ rfl
      have k2 : wr.cell? ⟨b, o + i * 10 + 2, none⟩ = some (.string ⟨x.mail.sender.toArray⟩) := hcs 2 _ rfl
      have k3 : wr.cell? ⟨b, o + i * 10 + 3, none⟩ = some (.slice p1 x.mail.rcpts.length c1) := hcs 3 _ rfl
      have k4 : wr.cell? ⟨b, o + i * 10 + 4, none⟩ = some (.bool x.mail.req) := hcs 4 _ rfl
      have k5 : wr.cell? ⟨b, o + i * 10 + 5, none⟩ = some (.string ⟨x.mail.envid.toArray⟩) := hcs 5 _ rfl
      have k6 : wr.cell? ⟨b, o + i * 10 + 6, none⟩ = some (.string ⟨x.mail.text.toArray⟩) := hcs 6 _ rfl
      have k7 : wr.cell? ⟨b, o + i * 10 + 7, none⟩ = some (.bool x.plain) := hcs 7 _ rfl
      have k8 : wr.cell? ⟨b, o + i * 10 + 8, none⟩ = some (.slice p2 x.fates.length c2) := hcs 8 _ rfl
      have k9 : wr.cell? ⟨b, o + i * 10 + 9, none⟩ = some (.slice p3 x.jobs.length c3) := hcs 9 _ rfl
      clear hcs hxe hxm hlast
      have HEA := Lib.hid hEA
      clear hEA
      go_upto_region 5 with (fail)
      have hIn : NxIn w x (.slice p1 x.mail.rcpts.length c1) (.slice p2 x.fates.length c2) (.slice p3 x.jobs.length c3) wr.heap.size (allDue (l.take i) now ++ duesP x now 0) u7 (wr.alloc (.cells (entC x (.slice p1 x.mail.rcpts.length c1) (.slice p2 x.fates.length c2) (.slice p3 x.jobs.length c3)).toArray 32)) := by
        have e : allDue (l.take i) now ++ duesP x now 0 = allDue (l.take i) now := by simp [duesP]
        rw [e]
        exact ⟨HN.out.keep ((Below.refl _ _).alloc (Nat.le_refl _) _), ha_eq rfl⟩
      unfold entC at hIn
      generalize hW2 : World.alloc wr _ = w2 at hIn ⊢
      obtain ⟨bx, hbx⟩ : ∃ bx, bx = wr.heap.size := ⟨_, rfl⟩
      rw [← hbx] at hIn ⊢
      have HI0 := Lib.hid hIn
      obtain ⟨-, -, -, -, -, -, -, -, -, x9⟩ := eboxAll hIn.box
      have hjn := HXE.out.2.2.1
      clear hW2 hIn k0 k1 k2 k3 k4 k5 k6 k7 k8 k9 hbx
      go_wp2_with fail
      clear x9
      go_loopw [7, 22] (fun s7 s22 wq => ∃ (k : Nat), s22 = .int .i64 (k : Int) ∧ k ≤ x.jobs.length ∧ NxIn w x (.slice p1 x.mail.rcpts.length c1) (.slice p2 x.fates.length c2) (.slice p3 x.jobs.length c3) bx (allDue (l.take i) now ++ duesP x now k) s7 wq) (fun _ s22 _ => x.jobs.length - natI s22)
      case atStart => exact ⟨0, rfl, Nat.zero_le _, HI0.out⟩
      case round =>
        obtain ⟨k, rfl, hk, hI⟩ := hrel
        have HI := Lib.hid hI
        clear hI
        by_cases hkl : k < x.jobs.length
        · have hkli : (k : Int) < (x.jobs.length : Int) := by omega
          have hw1 : wrap64 ((k : Int) + 1) = (k : Int) + 1 := by unfold wrap64; omega
          have hE2 := HEA.out.below HI.out.at_.below
          obtain ⟨b3, o3, rfl, hc⟩ := hE2.jo.at k hkl
          obtain ⟨j, hj⟩ : ∃ j, x.jobs[k]? = some j := ⟨_, List.getElem?_eq_getElem hkl⟩
          have hji : x.jobs[k] = j := by rw [List.getElem?_eq_getElem hkl] at hj; injection hj
          have hc' := hc k hkl
          rw [hji] at hc'
          have y0 : wr.cell? ⟨b3, o3 + k * 3, none⟩ = some (.string ⟨j.dom.toArray⟩) := hc' 0 _ rfl
          have y1 : wr.cell? ⟨b3, o3 + k * 3 + 1, none⟩ = some (.int .i64 j.tries) := hc' 1 _ rfl
          have y2 : wr.cell? ⟨b3, o3 + k * 3 + 2, none⟩ = some (.int .i64 j.due) := hc' 2 _ rfl
          have hsu := duesP_succ x now k j hj
          clear hc hc' hE2 hj hji
          go_upto_region 8 with (fail)
          have hI3 := HI.out.keep ((Below.refl _ wr).alloc (Nat.le_refl _) (.cells (joE j).toArray 40)) (W := wr.alloc (.cells (joE j).toArray 40))
          have hj3 : (wr.alloc (.cells (joE j).toArray 40)).heap[wr.heap.size]? = some (.cells (joE j).toArray 40 (0, 0)) := ha_eq rfl
          unfold joE at hI3 hj3
          generalize hW3 : World.alloc wr _ = w3 at hI3 hj3 ⊢
          obtain ⟨jx, hjx⟩ : ∃ jx, jx = wr.heap.size := ⟨_, rfl⟩
          rw [← hjx] at hj3 ⊢
          have HI3 := Lib.hid (And.intro hI3 hj3)
          have hlt3 : w.heap.size ≤ wr.heap.size := HI.out.at_.below.size
          obtain ⟨z0, z1, z2⟩ := jbox hj3
          clear hW3 hI3 hj3 y0 y1 y2 hjx hlt3
          by_cases hdue : j.due ≤ now
          · have hbx3 := HI3.out.1.box
            unfold entC at hbx3
            obtain ⟨x0, x1, x2, x3, x4, x5, x6, x7, x8, x9⟩ := eboxAll hbx3
            have hWt := waits_any x j.dom _ _ _ w3 (HEA.out.below HI3.out.1.at_.below) HXE.out.2.1 (HX.out.2.2.2.2.keep HI3.out.1.at_.below)
            unfold entV entC at hWt
            clear hbx3
            go_wp2_with fail
            refine hWt.mono ?_
            rintro e w4 ⟨⟨wv, rfl, hwo⟩, hb4⟩
            clear hWt x0 x1 x2 x3 x4 x5 x6 x7 x8 x9 z0 z1 z2
            obtain ⟨wp, wc, rfl⟩ := own_shape hwo
            have H4 := Lib.hid (And.intro (HI3.out.1.keep hb4) ((hb4.block _ (lt_of_cells HI3.out.2)).trans HI3.out.2))
            clear hwo hb4
            by_cases hwe : waitsM x j.dom = []
            · have hsu2 : duesP x now (k + 1) = duesP x now k := by rw [hsu]; simp [hwe]
              have hI5 := H4.out.1
              rw [← hsu2] at hI5
              have H5 := Lib.hid hI5
              rw [hwe]
              clear hsu hsu2 hI5 hwe
              go_wp2
              go_roundw
              case rel => exact ⟨k + 1, by simp [hw1], hkl, H5.out⟩
              case measure => simp [natI, hw1]; omega
            · have hsu2 : duesP x now (k + 1) = duesP x now k ++ [(x.id, j)] := by rw [hsu]; simp [hwe, hdue]
              have hpos : 0 < (waitsM x j.dom).length := List.length_pos_iff.2 hwe
              have hposi : (0 : Int) < ((waitsM x j.dom).length : Int) := by omega
              have HS2 := Lib.hid hsu2
              obtain ⟨n, hn9⟩ : ∃ n, n = (waitsM x j.dom).length := ⟨_, rfl⟩
              rw [← hn9] at hpos hposi ⊢
              clear hsu hsu2 hwe hn9
              go_upto_region 9 with (fail)
              have hbx4 := H4.out.1.box
              unfold entC at hbx4
              obtain ⟨x0, -⟩ := eboxAll hbx4
              obtain ⟨z0, z1, z2⟩ := jbox H4.out.2
              have hle : (allDue (l.take i) now ++ duesP x now k).length ≤ 3000000 := by
                have h1 := allDue_len now 2000 (l.take i) (fun y hy => HX.out.2.2.1 y (List.mem_of_mem_take hy))
                have h2 := duesP_len x now k
                rw [List.length_take] at h1
                rw [List.length_append]
                have h3 : min i l.length * 2000 ≤ 1000 * 2000 := Nat.mul_le_mul_right _ (by omega)
                omega
              have HLE := Lib.hid hle
              clear hbx4 hle
              go_wp2_with (at_builtin; refine Bx.h ?_)
              refine ⟨?_⟩
              refine wpList_append_own _ rfl _ _ 83 rfl w.heap.size 85 i0 (.agg #[.int .i64 0, .string ⟨#[]⟩, .int .i64 0, .int .i64 0]) 4 40 Tryz.underlying83 hi0 hz0 hz1 hz2 rfl (by decide) _ _ _ rfl (H4.out.1.at_.own.alloc _) ⟨w4.heap.size, 0, none⟩ 1 1 [.int .i64 x.id, .string ⟨j.dom.toArray⟩, .int .i64 j.tries, .int .i64 j.due] rfl rfl (cell_list (cs := [.int .i64 x.id, .string ⟨j.dom.toArray⟩, .int .i64 j.tries, .int .i64 j.due]) rfl) (by simp [Value.oneCell']) (by have := HLE.out; unfold maxLen; omega) (by have := HLE.out; omega) (by have h1 := H4.out.1.at_.below.size; simp; omega) ?_
              intro v' w5 hown5 hgrow5 hnil5
              have hg : w4.grownBy w5 u7.ownBlock := World.grownBy.trans (World.grownBy_alloc _ _ _) hgrow5
              have hB5 := H4.out.1.at_.below.grown hg H4.out.1.at_.below.size (fun q e => (H4.out.1.at_.own.lt q e).1)
              have hbx5 : w5.heap[bx]? = some (.cells (entC x (.slice p1 x.mail.rcpts.length c1) (.slice p2 x.fates.length c2) (.slice (some ⟨b3, o3, none⟩) x.jobs.length c3)).toArray 32 (0, 0)) := (hg.block bx (lt_of_cells H4.out.1.box) (fun e => own_ne_box H4.out.1.at_.own H4.out.1.box (by decide) e.symm)).trans H4.out.1.box
              have hm : (allDue (l.take i) now ++ duesP x now k).flatMap firE ++ [.int .i64 x.id, .string ⟨j.dom.toArray⟩, .int .i64 j.tries, .int .i64 j.due] = (allDue (l.take i) now ++ duesP x now (k + 1)).flatMap firE := by rw [HS2.out, ← List.append_assoc, List.flatMap_append (ys := [(x.id, j)])]; rfl
              have hl : (allDue (l.take i) now ++ duesP x now k).length + 1 = (allDue (l.take i) now ++ duesP x now (k + 1)).length := by rw [HS2.out]; simp; omega
              rw [hm, hl] at hown5
              have HZ := Lib.hid (show NxIn w x _ _ _ bx _ v' w5 from ⟨⟨hown5, hB5⟩, hbx5⟩)
              clear hown5 hgrow5 hnil5 hg hB5 hbx5 hm hl x0 z0 z1 z2
              go_wp2
              go_roundw
              case rel => exact ⟨k + 1, by simp [hw1], hkl, HZ.out⟩
              case measure => simp [natI, hw1]; omega
          · have hsu2 : duesP x now (k + 1) = duesP x now k := by rw [hsu]; simp [hdue]
            have hI5 := HI3.out.1
            rw [← hsu2] at hI5
            have H5 := Lib.hid hI5
            clear hsu hsu2 hI5
            go_wp2
            go_roundw
            case rel => exact ⟨k + 1, by simp [hw1], hkl, H5.out⟩
            case measure => simp [natI, hw1]; omega
        · have hkli : ¬ (k : Int) < (x.jobs.length : Int) := by omega
          have hw1 : wrap64 ((i : Int) + 1) = (i : Int) + 1 := by unfold wrap64; omega
          have hke : k = x.jobs.length := by omega
          have hnx := HI.out.at_
          rw [hke, duesP_all, ← allDue_succ l now i x HXE.out.1] at hnx
          have HN2 := Lib.hid hnx
          clear hnx hke hk hkl
          go_wp2
          go_roundw
          case rel => exact ⟨i + 1, by simp [hw1], HXE.out.2.2.2, HN2.out⟩
          case measure => have := HXE.out.2.2.2; simp [natI, hw1]; omega
    · have hli : ¬ (i : Int) < (l.length : Int) := by omega
      have hN := HN.out
      rw [List.take_of_length_le (by omega)] at hN
      have HN := Lib.hid hN
      obtain ⟨p, n, c7, rfl⟩ := own_shape hN.own
      clear hN
      cases hal : allDue l now with
      | nil =>
        rw [hal] at HN
        have hnx : nextN l now = none := by unfold nextN; rw [hal]
        have HNX := Lib.hid hnx
        clear hal hnx
        go_wp2
        refine bodyPost_ret (v := .tuple #[.int .i64 0, .string ⟨#[]⟩, .bool false]) (by simp [results, Tryz.results17, go_sem]) rfl ⟨.inr ⟨HNX.out, rfl⟩, HN.out.below⟩
      | cons y r =>
        rw [hal] at HN
        have hnx : nextN l now = some (minFi y r) := by unfold nextN; rw [hal]
        have HNX := Lib.hid hnx
        have hlen : (y :: r).length ≤ 3000000 := by
          rw [← hal]
          have h1 := allDue_len now 2000 l HX.out.2.2.1
          have h3 : l.length * 2000 ≤ 1000 * 2000 := Nat.mul_le_mul_right _ hn
          omega
        have hMn := minFi_any y r _ wr (own_rowK (k := 4) (enc := firE) (fun _ => rfl) HN.out.own) (by omega)
        have hl1 : ¬ (((r.length + 1 : Nat) : Int)) = 0 := by omega
        clear hal hnx hlen
        go_wp2_with fail
        refine hMn.mono ?_
        rintro e w7 ⟨rfl, hb7⟩
        have H7 := Lib.hid (HN.out.below.trans (hb7.mono HN.out.below.size))
        clear hMn hb7
        obtain ⟨m, hm⟩ : ∃ m, m = minFi y r := ⟨_, rfl⟩
        rw [← hm] at HNX ⊢
        clear hm
        unfold firE
        go_upto_region 15 with (fail)
        have hb8 : Below w7.heap.size w7 (w7.alloc (.cells #[.int .i64 m.1, .string ⟨m.2.dom.toArray⟩, .int .i64 m.2.tries, .int .i64 m.2.due] 85)) := (Below.refl _ _).alloc (Nat.le_refl _) _
        have hx8 : (w7.alloc (.cells #[.int .i64 m.1, .string ⟨m.2.dom.toArray⟩, .int .i64 m.2.tries, .int .i64 m.2.due] 85)).heap[w7.heap.size]? = some (.cells (firE m).toArray 85 (0, 0)) := ha_eq rfl
        generalize hW8 : World.alloc w7 _ = w8 at hb8 hx8 ⊢
        obtain ⟨z0, z1, z2, z3⟩ := fibox hx8
        have H8 := Lib.hid (H7.out.trans (hb8.mono H7.out.size))
        obtain ⟨fx, hfx⟩ : ∃ fx, fx = w7.heap.size := ⟨_, rfl⟩
        rw [← hfx] at z0 z1 z2 z3 ⊢
        clear hW8 hb8 hx8 hfx
        go_quiet (fail)
        go_wp2
        refine bodyPost_ret (v := .tuple #[.int .i64 m.1, .string ⟨m.2.dom.toArray⟩, .bool true]) (by simp [results, Tryz.results17, go_sem]) rfl ⟨.inl ⟨m, HNX.out, rfl⟩, H8.out.trans ((below_drewN (Below.refl _ _) _).mono H8.out.size)⟩
end Go.Proofs.YtdlpdpelhkgnlaaGreatDoor

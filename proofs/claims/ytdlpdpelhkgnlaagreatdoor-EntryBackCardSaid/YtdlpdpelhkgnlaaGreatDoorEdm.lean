/- entry.Decode. -/
import Derived.Test.YtdlpdpelhkgnlaaGreatDoorEdl
import Derived.Test.YtdlpdpelhkgnlaaGreatDoorEown
import Derived.Laws.EntriesVeiled
namespace Go.Proofs.YtdlpdpelhkgnlaaGreatDoor
open Go Go.RowKit Go.Shelf Go.Sort
attribute [local go_sem] bneI

def DecPost (s : Bytes) (w : World) (e : Ending) (w' : World) : Prop :=
  Below w.heap.size w w' ∧ ((decB s = none ∧ e = .returned (.tuple #[entV zeroN (.slice none 0 0) (.slice none 0 0) (.slice none 0 0), .int .i64 4])) ∨
    ∃ x sv fv jv, decB s = some x ∧ e = .returned (.tuple #[entV x sv fv jv, .int .i64 0]) ∧ OwnE w' w.heap.size x sv fv jv)
theorem dec_start (s : Bytes) (w w1 : World) (hw : w1 = w.alloc (.cells zeroC 32)) : DecAt none w1 (w.heap.size + 1) (w.heap.size + 1 + 1 + 1) (w.heap.size + 1 + 1) zeroN ⟨s, false⟩ (.slice none 0 0) (.slice none 0 0) (.slice none 0 0)
    (((w1.alloc (.cells zeroC 32)).alloc (.cells #[.string ⟨s.toArray⟩, .bool false] 103)).alloc (.cells #[.pointer (some ⟨w.heap.size + 1 + 1, 0, none⟩)] 101)) := by
  have z : ∀ (W : World) (o : Obj), (W.alloc o).heap.size = W.heap.size + 1 := fun W o => by show (W.heap.push o).size = _; exact Array.size_push _
  have z1 : w1.heap.size = w.heap.size + 1 := by rw [hw, z]
  refine ⟨?_, by omega, by omega, by omega, ?_, ?_, ?_, ?_, own_zero⟩
  · exact (((Below.refl _ w1).alloc (Nat.le_refl _) _).alloc (by rw [z]; omega) _).alloc (by rw [z, z]; omega) _
  · rw [ha_ne (by rw [z, z]; omega), ha_ne (by rw [z]; omega)]
    exact ha_eq (by omega)
  · exact ha_eq (by rw [z, z]; omega)
  · rw [ha_ne (by rw [z, z]; omega)]
    exact ha_eq (by rw [z]; omega)
  · intro k v e
    cases e
theorem rdText_val (r : Rd) : (rdText r).1.length ≤ r.s.length := by
  have h := rdNum_len r.s.length r
  unfold rdText
  split
  · exact Nat.zero_le _
  · dsimp only
    rw [List.length_take]
    omega
theorem rdMany_mem {α : Type} (one : Rd → α × Rd) (hl : ∀ r, (one r).2.s.length ≤ r.s.length) (n : Nat) (P : α → Prop) (h : ∀ r, r.s.length ≤ n → P (one r).1) (k : Nat) (r : Rd) (hr : r.s.length ≤ n) : ∀ q ∈ (rdMany one k r).1, P q := by
  induction k generalizing r with
  | zero => intro q hq; cases hq
  | succ k ih =>
    intro q hq
    rcases List.mem_cons.1 (show q ∈ (one r).1 :: (rdMany one k (one r).2).1 from hq) with rfl | hq
    · exact h r hr
    · exact ih _ (Nat.le_trans (hl r) hr) q hq
theorem short_dec (s : Bytes) (hs : s.length ≤ 1000000) : ShortE (rdEnt ⟨s, false⟩).1 := by
  have l1 := rdNum_len 1099511627776 ⟨s, false⟩
  unfold rdEnt
  dsimp only at l1 ⊢
  generalize rdNum 1099511627776 ⟨s, false⟩ = q1 at l1 ⊢
  have l2 := rdNum_len 1099511627776 q1.2
  generalize rdNum 1099511627776 q1.2 = q2 at l2 ⊢
  have l3 := rdText_len q2.2
  have v3 := rdText_val q2.2
  generalize rdText q2.2 = q3 at l3 v3 ⊢
  have l4 := rdYes_len q3.2
  generalize rdYes q3.2 = q4 at l4 ⊢
  have l5 := rdText_len q4.2
  have v5 := rdText_val q4.2
  generalize rdText q4.2 = q5 at l5 v5 ⊢
  have l6 := rdText_len q5.2
  have v6 := rdText_val q5.2
  generalize rdText q5.2 = q6 at l6 v6 ⊢
  have l7 : (rdEach rdRf 4 q6.2).2.s.length ≤ q6.2.s.length := Nat.le_trans (rdMany_less rdRf rdRf_len _ _) (rdNum_len 4 q6.2)
  have n7 : (rdEach rdRf 4 q6.2).1.length = (rdNum 4 q6.2).1 := rdMany_cnt _ _ _
  have k7 := num_le 4 q6.2
  have m7 : ∀ q ∈ (rdEach rdRf 4 q6.2).1, q.1.1.length ≤ 1000000 ∧ q.2.1 ≤ 2 ∧ q.2.2.length ≤ 1000000 := rdMany_mem rdRf rdRf_len 1000000 _ (fun r hr => by
    have a1 := rdText_val r
    have a2 := rdText_len r
    have a3 := rdYes_len (rdText r).2
    have a4 := rdNum_len 2 (rdYes (rdText r).2).2
    have a5 := rdText_val (rdNum 2 (rdYes (rdText r).2).2).2
    refine ⟨?_, num_le 2 (rdYes (rdText r).2).2, ?_⟩
    · show (rdText r).1.length ≤ _
      omega
    · show (rdText (rdNum 2 (rdYes (rdText r).2).2).2).1.length ≤ _
      omega) _ _ (by have := rdNum_len 4 q6.2; omega)
  generalize rdEach rdRf 4 q6.2 = q7 at l7 n7 m7 ⊢
  have n8 : (rdEach rdJob 4 q7.2).1.length = (rdNum 4 q7.2).1 := rdMany_cnt _ _ _
  have k8 := num_le 4 q7.2
  have m8 : ∀ j ∈ (rdEach rdJob 4 q7.2).1, j.dom.length ≤ 1000000 := rdMany_mem rdJob rdJob_len 1000000 _ (fun r hr => by
    have a1 := rdText_val r
    show (rdText r).1.length ≤ _
    omega) _ _ (by have := rdNum_len 4 q7.2; omega)
  generalize rdEach rdJob 4 q7.2 = q8 at n8 m8 ⊢
  refine ⟨⟨by show q3.1.length ≤ _; omega, by show q5.1.length ≤ _; omega, by show q6.1.length ≤ _; omega, ?_, ?_⟩, ?_, by show q8.1.length ≤ _; omega, ?_, ?_, m8⟩
  · show (q7.1.map _).length ≤ _
    rw [List.length_map]
    omega
  · intro r hr
    obtain ⟨q, hq, rfl⟩ := List.mem_map.1 hr
    exact (m7 q hq).1
  · show (q7.1.map _).length ≤ _
    rw [List.length_map]
    omega
  · intro f hf
    obtain ⟨q, hq, rfl⟩ := List.mem_map.1 hf
    have := (m7 q hq).2.1
    omega
  · intro f hf
    obtain ⟨q, hq, rfl⟩ := List.mem_map.1 hf
    exact (m7 q hq).2.2
set_option maxRecDepth 100000 in
set_option maxHeartbeats 16000000 in
theorem decode_any (s : Bytes) (w : World) (hE : Env8 w) (hs : s.length ≤ 100000000) (hSh : ShortE (rdEnt ⟨s, false⟩).1) :
    Calls Tryz.prog 21 #[.string ⟨s.toArray⟩] w (DecPost s w) := by
  obtain ⟨n1, r1, e1⟩ : ∃ n r, rdNum 1099511627776 ⟨s, false⟩ = (n, r) := ⟨_, _, rfl⟩
  obtain ⟨n2, r2, e2⟩ : ∃ n r, rdNum 1099511627776 r1 = (n, r) := ⟨_, _, rfl⟩
  obtain ⟨t1, r3, e3⟩ : ∃ n r, rdText r2 = (n, r) := ⟨_, _, rfl⟩
  obtain ⟨yy, r4, e4⟩ : ∃ n r, rdYes r3 = (n, r) := ⟨_, _, rfl⟩
  obtain ⟨t2, r5, e5⟩ : ∃ n r, rdText r4 = (n, r) := ⟨_, _, rfl⟩
  obtain ⟨t3, r6, e6⟩ : ∃ n r, rdText r5 = (n, r) := ⟨_, _, rfl⟩
  obtain ⟨g, r7, e7⟩ : ∃ n r, rdEach rdRf 4 r6 = (n, r) := ⟨_, _, rfl⟩
  obtain ⟨j, r8, e8⟩ : ∃ n r, rdEach rdJob 4 r7 = (n, r) := ⟨_, _, rfl⟩
  have l1 := rdNum_len 1099511627776 ⟨s, false⟩
  have l2 := rdNum_len 1099511627776 r1
  have l3 := rdText_len r2
  have l4 := rdYes_len r3
  have l5 := rdText_len r4
  have l6 := rdText_len r5
  have l7 : (rdEach rdRf 4 r6).2.s.length ≤ r6.s.length := Nat.le_trans (rdMany_less rdRf rdRf_len _ _) (rdNum_len 4 r6)
  rw [e1] at l1
  rw [e2] at l2
  rw [e3] at l3
  rw [e4] at l4
  rw [e5] at l5
  rw [e6] at l6
  rw [e7] at l7
  have lt3 : t3.length ≤ 1000000 := by
    have h := hSh.mail.text
    unfold rdEnt at h
    simp only [e1, e2, e3, e4, e5, e6] at h
    exact h
  dsimp only at l1 l2 l3 l4 l5 l6 l7
  obtain ⟨w1, hw1⟩ : ∃ w1, w1 = w.alloc (.cells zeroC 32) := ⟨_, rfl⟩
  have hB1 : Below w.heap.size w w1 := by rw [hw1]; exact (Below.refl _ _).alloc (Nat.le_refl _) _
  replace hE := hE.keep hB1
  have hb1 : w1.heap[w.heap.size]? = some (.cells zeroC 32 (0, 0)) := by rw [hw1]; exact ha_eq rfl
  have HB1 := Lib.hid hb1
  clear hb1
  have hN1 : ∀ {fx eb pb x sv fv jv} W, DecAt fx w1 eb pb (w.heap.size + 1 + 1) x ⟨s, false⟩ sv fv jv W → Calls Tryz.prog 62 #[.pointer (some ⟨w.heap.size + 1 + 1, 0, none⟩), .int .i64 1099511627776] W (RdPost w1 (w.heap.size + 1 + 1) (.int .i64 (n1 : Int)) r1 W) := by
    intro fx eb pb x sv fv jv W hD
    have h := rnum_any w1 _ ⟨s, false⟩ 1099511627776 W hD.rdAt hE (by dsimp only; omega) (by decide)
    rw [e1] at h
    exact h
  have hN2 : ∀ {fx eb pb x sv fv jv} W, DecAt fx w1 eb pb (w.heap.size + 1 + 1) x r1 sv fv jv W → Calls Tryz.prog 62 #[.pointer (some ⟨w.heap.size + 1 + 1, 0, none⟩), .int .i64 1099511627776] W (RdPost w1 (w.heap.size + 1 + 1) (.int .i64 (n2 : Int)) r2 W) := by
    intro fx eb pb x sv fv jv W hD
    have h := rnum_any w1 _ r1 1099511627776 W hD.rdAt hE (by omega) (by decide)
    rw [e2] at h
    exact h
  have hT1 : ∀ {fx eb pb x sv fv jv} W, DecAt fx w1 eb pb (w.heap.size + 1 + 1) x r2 sv fv jv W → Calls Tryz.prog 63 #[.pointer (some ⟨w.heap.size + 1 + 1, 0, none⟩)] W (RdPost w1 (w.heap.size + 1 + 1) (.string ⟨t1.toArray⟩) r3 W) := by
    intro fx eb pb x sv fv jv W hD
    have h := rtext_any w1 _ r2 W hD.rdAt hE (by omega)
    rw [e3] at h
    exact h
  have hY : ∀ {fx eb pb x sv fv jv} W, DecAt fx w1 eb pb (w.heap.size + 1 + 1) x r3 sv fv jv W → Calls Tryz.prog 64 #[.pointer (some ⟨w.heap.size + 1 + 1, 0, none⟩)] W (RdPost w1 (w.heap.size + 1 + 1) (.bool yy) r4 W) := by
    intro fx eb pb x sv fv jv W hD
    have h := ryes_any w1 _ r3 W hD.rdAt hE (by omega)
    rw [e4] at h
    exact h
  have hT2 : ∀ {fx eb pb x sv fv jv} W, DecAt fx w1 eb pb (w.heap.size + 1 + 1) x r4 sv fv jv W → Calls Tryz.prog 63 #[.pointer (some ⟨w.heap.size + 1 + 1, 0, none⟩)] W (RdPost w1 (w.heap.size + 1 + 1) (.string ⟨t2.toArray⟩) r5 W) := by
    intro fx eb pb x sv fv jv W hD
    have h := rtext_any w1 _ r4 W hD.rdAt hE (by omega)
    rw [e5] at h
    exact h
  have hT3 : ∀ {fx eb pb x sv fv jv} W, DecAt fx w1 eb pb (w.heap.size + 1 + 1) x r5 sv fv jv W → Calls Tryz.prog 63 #[.pointer (some ⟨w.heap.size + 1 + 1, 0, none⟩)] W (RdPost w1 (w.heap.size + 1 + 1) (.string ⟨t3.toArray⟩) r6 W) := by
    intro fx eb pb x sv fv jv W hD
    have h := rtext_any w1 _ r5 W hD.rdAt hE (by omega)
    rw [e6] at h
    exact h
  have h0 := dec_start s w w1 hw1
  have HL := Lib.hid (And.intro lt3 (And.intro hB1 hSh))
  clear lt3 hB1
  have HX := Lib.hid (And.intro (And.intro e1 (And.intro e2 (And.intro e3 (And.intro e4 (And.intro e5 (And.intro e6 (And.intro e7 e8))))))) (And.intro hE (show r6.s.length ≤ 100000000 ∧ r7.s.length ≤ 100000000 from ⟨by omega, by omega⟩)))
  clear e1 e2 e3 e4 e5 e6 e7 e8 l1 l2 l3 l4 l5 l6 l7 hE
  unfold zeroC at h0 hw1
  clear hs hSh
  go_enter Tryz.func21, Tryz.ntmps21
  go_upto_region 3 with (fail)
  rw [← hw1]
  clear hw1
  have aD0 := h0.keep (below_drew _)
  refine wp_region_held_drew (S := fun W => W.cell? ⟨w.heap.size + 1 + 1 + 1, 0, none⟩ = some (.pointer (some ⟨w.heap.size + 1 + 1, 0, none⟩))) (by kernel_rfl) aD0.p (fun hHeld => ?_)
  refine wpAnyH_take (i := 0) (oi := ?oiz1) (v := ?vz1) ?h1z1 (by kernel_rfl) (by kernel_rfl) (by kernel_rfl) ?h2z1 ?hyz1 (by assumption) ?restz1
  case h1z1 => first | rfl | (simp only [List.getElem?_toArray, List.getElem?_cons_succ, List.getElem?_cons_zero]; try rfl)
  case h2z1 => exact fun _ _ _ h => h
  case hyz1 => (refine Or.inl ⟨by rfl, ?_⟩; intro w hSw; (try dsimp only at hSw); go_simp; (try with_reducible rfl))
  try simp only [Act.put, List.setIfInBounds_toArray]
  refine wpAnyH_take (i := 2) (oi := ?oiz2) (v := ?vz2) ?h1z2 (by kernel_rfl) (by kernel_rfl) (by kernel_rfl) ?h2z2 ?hyz2 (by assumption) ?restz2
  case h1z2 => first | rfl | (simp only [List.getElem?_toArray, List.getElem?_cons_succ, List.getElem?_cons_zero]; try rfl)
  case h2z2 => exact fun _ _ _ h => h
  case hyz2 => (refine Or.inl ⟨by rfl, ?_⟩; intro w hSw; (try dsimp only at hSw); go_simp; (try with_reducible rfl))
  try simp only [Act.put]
  refine wpAnyH_ready (rs := [1]) (by kernel_rfl) (by simp) ?_
  refine (AllReadyH.cons (o := ?oiz8) ?h1z8 (fun K hK => ?restz8) AllReadyH.nil)
  case h1z8 => first | rfl | (simp only [List.getElem?_toArray, List.getElem?_cons_succ, List.getElem?_cons_zero]; try rfl)
  case restz8 =>
    go_simp
    go_at_call 62
    refine (hN1 _ aD0).mono ?_
    rintro e aw1 ⟨rfl, hR, hg⟩
    have aD1 := aD0.reads hg hR
    clear hR hg
    refine hK.out _ _ aD1.p (fun hHeld => ?_)
    clear hK K
    try simp only [Act.put, List.setIfInBounds_toArray, List.set_cons_zero, List.set_cons_succ]
    refine wpAnyH_take (i := 4) (oi := ?oiz3) (v := ?vz3) ?h1z3 (by kernel_rfl) (by kernel_rfl) (by kernel_rfl) ?h2z3 ?hyz3 (by assumption) ?restz3
    case h1z3 => first | rfl | (simp only [List.getElem?_toArray, List.getElem?_cons_succ, List.getElem?_cons_zero]; try rfl)
    case h2z3 => exact fun _ _ _ h => h
    case hyz3 => (refine Or.inl ⟨by rfl, ?_⟩; intro w hSw; (try dsimp only at hSw); go_simp; (try with_reducible rfl))
    try simp only [Act.put, List.setIfInBounds_toArray]
    refine wpAnyH_ready (rs := [3]) (by kernel_rfl) (by simp) ?_
    refine (AllReadyH.cons (o := ?oiz7) ?h1z7 (fun K hK => ?restz7) AllReadyH.nil)
    case h1z7 => first | rfl | (simp only [List.getElem?_toArray, List.getElem?_cons_succ, List.getElem?_cons_zero]; try rfl)
    case restz7 =>
      go_simp
      go_at_call 62
      refine (hN2 _ aD1).mono ?_
      rintro e aw2 ⟨rfl, hR, hg⟩
      have aD2 := aD1.reads hg hR
      clear hR hg
      refine hK.out _ _ aD2.p (fun hHeld => ?_)
      clear hK K
      try simp only [Act.put, List.setIfInBounds_toArray, List.set_cons_zero, List.set_cons_succ]
      refine wpAnyH_ready (rs := [5]) (by kernel_rfl) (by simp) ?_
      refine (AllReadyH.cons (o := ?oiz6) ?h1z6 (fun K hK => ?restz6) AllReadyH.nil)
      case h1z6 => first | rfl | (simp only [List.getElem?_toArray, List.getElem?_cons_succ, List.getElem?_cons_zero]; try rfl)
      case restz6 =>
        have y0 := aD2.c0 0 rfl
        have f0 := aD2.fz 0
        go_simp
        have aD3 := aD2.store (x' := ⟨(n1 : Int), 0, ⟨[], [], false, [], []⟩, false, [], []⟩) 0 (.int .i64 (n1 : Int)) rfl rfl rfl rfl
        clear y0 f0
        refine hK.out _ _ aD3.p (fun hHeld => ?_)
        clear hK K
        try simp only [Act.put, List.setIfInBounds_toArray, List.set_cons_zero, List.set_cons_succ]
        refine wpAnyH_take (i := 6) (oi := ?oiz4) (v := ?vz4) ?h1z4 (by kernel_rfl) (by kernel_rfl) (by kernel_rfl) ?h2z4 ?hyz4 (by assumption) ?restz4
        case h1z4 => first | rfl | (simp only [List.getElem?_toArray, List.getElem?_cons_succ, List.getElem?_cons_zero]; try rfl)
        case h2z4 => exact fun _ _ _ h => h
        case hyz4 => (refine Or.inl ⟨by rfl, ?_⟩; intro w hSw; (try dsimp only at hSw); go_simp; (try with_reducible rfl))
        try simp only [Act.put, List.setIfInBounds_toArray]
        refine wpAnyH_ready (rs := [7]) (by kernel_rfl) (by simp) ?_
        refine (AllReadyH.cons (o := ?oiz5) ?h1z5 (fun K hK => ?restz5) AllReadyH.nil)
        case h1z5 => first | rfl | (simp only [List.getElem?_toArray, List.getElem?_cons_succ, List.getElem?_cons_zero]; try rfl)
        case restz5 =>
          have y1 := aD3.c0 1 rfl
          have f1 := aD3.fz 1
          go_simp
          have aD4 := aD3.store (x' := ⟨(n1 : Int), (n2 : Int), ⟨[], [], false, [], []⟩, false, [], []⟩) 1 (.int .i64 (n2 : Int)) rfl rfl rfl rfl
          clear y1 f1
          refine hK.out _ _ aD4.p (fun hHeld => ?_)
          clear hK K
          try simp only [Act.put, List.setIfInBounds_toArray, List.set_cons_zero, List.set_cons_succ]
          refine wpAnyH_done (by kernel_rfl) ?_ _
          have hZ := aD4
          clear hHeld aD0 aD1 aD2 aD3 aD4
          revert hZ
          generalize World.setCell _ _ _ = wZ
          intro hZ
          clear hN1 hN2
          go_upto_region 4 with (fail)
          have bD0 := hZ.keep (below_drew _)
          refine wp_region_held_drew (S := fun W => W.cell? ⟨w.heap.size + 1 + 1 + 1, 0, none⟩ = some (.pointer (some ⟨w.heap.size + 1 + 1, 0, none⟩))) (by kernel_rfl) bD0.p (fun hHeld => ?_)
          refine wpAnyH_take (i := 0) (oi := ?oiz9) (v := ?vz9) ?h1z9 (by kernel_rfl) (by kernel_rfl) (by kernel_rfl) ?h2z9 ?hyz9 (by assumption) ?restz9
          case h1z9 => first | rfl | (simp only [List.getElem?_toArray, List.getElem?_cons_succ, List.getElem?_cons_zero]; try rfl)
          case h2z9 => exact fun _ _ _ h => h
          case hyz9 => (refine Or.inl ⟨by rfl, ?_⟩; intro w hSw; (try dsimp only at hSw); go_simp; (try with_reducible rfl))
          try simp only [Act.put, List.setIfInBounds_toArray]
          refine wpAnyH_take (i := 2) (oi := ?oiz10) (v := ?vz10) ?h1z10 (by kernel_rfl) (by kernel_rfl) (by kernel_rfl) ?h2z10 ?hyz10 (by assumption) ?restz10
          case h1z10 => first | rfl | (simp only [List.getElem?_toArray, List.getElem?_cons_succ, List.getElem?_cons_zero]; try rfl)
          case h2z10 => exact fun _ _ _ h => h
          case hyz10 => (refine Or.inl ⟨by rfl, ?_⟩; intro w hSw; (try dsimp only at hSw); go_simp; (try with_reducible rfl))
          try simp only [Act.put]
          refine wpAnyH_ready (rs := [1]) (by kernel_rfl) (by simp) ?_
          refine (AllReadyH.cons (o := ?oiz18) ?h1z18 (fun K hK => ?restz18) AllReadyH.nil)
          case h1z18 => first | rfl | (simp only [List.getElem?_toArray, List.getElem?_cons_succ, List.getElem?_cons_zero]; try rfl)
          case restz18 =>
            go_simp
            go_at_call 63
            refine (hT1 _ bD0).mono ?_
            rintro e bw1 ⟨rfl, hR, hg⟩
            have bD1 := bD0.reads hg hR
            clear hR hg
            refine hK.out _ _ bD1.p (fun hHeld => ?_)
            clear hK K
            try simp only [Act.put, List.setIfInBounds_toArray, List.set_cons_zero, List.set_cons_succ]
            refine wpAnyH_take (i := 4) (oi := ?oiz11) (v := ?vz11) ?h1z11 (by kernel_rfl) (by kernel_rfl) (by kernel_rfl) ?h2z11 ?hyz11 (by assumption) ?restz11
            case h1z11 => first | rfl | (simp only [List.getElem?_toArray, List.getElem?_cons_succ, List.getElem?_cons_zero]; try rfl)
            case h2z11 => exact fun _ _ _ h => h
            case hyz11 => (refine Or.inl ⟨by rfl, ?_⟩; intro w hSw; (try dsimp only at hSw); go_simp; (try with_reducible rfl))
            try simp only [Act.put, List.setIfInBounds_toArray]
            refine wpAnyH_take (i := 5) (oi := ?oiz12) (v := ?vz12) ?h1z12 (by kernel_rfl) (by kernel_rfl) (by kernel_rfl) ?h2z12 ?hyz12 (by assumption) ?restz12
            case h1z12 => first | rfl | (simp only [List.getElem?_toArray, List.getElem?_cons_succ, List.getElem?_cons_zero]; try rfl)
            case h2z12 => exact fun _ _ _ h => h
            case hyz12 => (refine Or.inl ⟨by rfl, ?_⟩; intro w hSw; (try dsimp only at hSw); go_simp; (try with_reducible rfl))
            try simp only [Act.put]
            refine wpAnyH_ready (rs := [3]) (by kernel_rfl) (by simp) ?_
            refine (AllReadyH.cons (o := ?oiz17) ?h1z17 (fun K hK => ?restz17) AllReadyH.nil)
            case h1z17 => first | rfl | (simp only [List.getElem?_toArray, List.getElem?_cons_succ, List.getElem?_cons_zero]; try rfl)
            case restz17 =>
              go_simp
              go_at_call 64
              refine (hY _ bD1).mono ?_
              rintro e bw2 ⟨rfl, hR, hg⟩
              have bD2 := bD1.reads hg hR
              clear hR hg
              refine hK.out _ _ bD2.p (fun hHeld => ?_)
              clear hK K
              try simp only [Act.put, List.setIfInBounds_toArray, List.set_cons_zero, List.set_cons_succ]
              refine wpAnyH_ready (rs := [6]) (by kernel_rfl) (by simp) ?_
              refine (AllReadyH.cons (o := ?oiz16) ?h1z16 (fun K hK => ?restz16) AllReadyH.nil)
              case h1z16 => first | rfl | (simp only [List.getElem?_toArray, List.getElem?_cons_succ, List.getElem?_cons_zero]; try rfl)
              case restz16 =>
                have y2 := bD2.c0 2 rfl
                have f2 := bD2.fz 2
                go_simp
                have bD3 := bD2.store (x' := ⟨(n1 : Int), (n2 : Int), ⟨t1, [], false, [], []⟩, false, [], []⟩) 2 (.string ⟨t1.toArray⟩) rfl rfl rfl rfl
                clear y2 f2
                refine hK.out _ _ bD3.p (fun hHeld => ?_)
                clear hK K
                try simp only [Act.put, List.setIfInBounds_toArray, List.set_cons_zero, List.set_cons_succ]
                refine wpAnyH_take (i := 7) (oi := ?oiz13) (v := ?vz13) ?h1z13 (by kernel_rfl) (by kernel_rfl) (by kernel_rfl) ?h2z13 ?hyz13 (by assumption) ?restz13
                case h1z13 => first | rfl | (simp only [List.getElem?_toArray, List.getElem?_cons_succ, List.getElem?_cons_zero]; try rfl)
                case h2z13 => exact fun _ _ _ h => h
                case hyz13 => (refine Or.inl ⟨by rfl, ?_⟩; intro w hSw; (try dsimp only at hSw); go_simp; (try with_reducible rfl))
                try simp only [Act.put, List.setIfInBounds_toArray]
                refine wpAnyH_take (i := 8) (oi := ?oiz14) (v := ?vz14) ?h1z14 (by kernel_rfl) (by kernel_rfl) (by kernel_rfl) ?h2z14 ?hyz14 (by assumption) ?restz14
                case h1z14 => first | rfl | (simp only [List.getElem?_toArray, List.getElem?_cons_succ, List.getElem?_cons_zero]; try rfl)
                case h2z14 => exact fun _ _ _ h => h
                case hyz14 => (refine Or.inl ⟨by rfl, ?_⟩; intro w hSw; (try dsimp only at hSw); go_simp; (try with_reducible rfl))
                try simp only [Act.put]
                refine wpAnyH_ready (rs := [9]) (by kernel_rfl) (by simp) ?_
                refine (AllReadyH.cons (o := ?oiz15) ?h1z15 (fun K hK => ?restz15) AllReadyH.nil)
                case h1z15 => first | rfl | (simp only [List.getElem?_toArray, List.getElem?_cons_succ, List.getElem?_cons_zero]; try rfl)
                case restz15 =>
                  have y4 := bD3.c0 4 rfl
                  have f4 := bD3.fz 4
                  go_simp
                  have bD4 := bD3.store (x' := ⟨(n1 : Int), (n2 : Int), ⟨t1, [], yy, [], []⟩, false, [], []⟩) 4 (.bool yy) rfl rfl rfl rfl
                  clear y4 f4
                  refine hK.out _ _ bD4.p (fun hHeld => ?_)
                  clear hK K
                  try simp only [Act.put, List.setIfInBounds_toArray, List.set_cons_zero, List.set_cons_succ]
                  refine wpAnyH_done (by kernel_rfl) ?_ _
                  have hZ := bD4
                  clear hHeld bD0 bD1 bD2 bD3 bD4
                  revert hZ
                  generalize World.setCell _ _ _ = wZ
                  intro hZ
                  clear hT1 hY
                  go_upto_region 5 with (fail)
                  have cD0 := hZ.keep (below_drew _)
                  refine wp_region_held_drew (S := fun W => W.cell? ⟨w.heap.size + 1 + 1 + 1, 0, none⟩ = some (.pointer (some ⟨w.heap.size + 1 + 1, 0, none⟩))) (by kernel_rfl) cD0.p (fun hHeld => ?_)
                  refine wpAnyH_take (i := 0) (oi := ?oiz19) (v := ?vz19) ?h1z19 (by kernel_rfl) (by kernel_rfl) (by kernel_rfl) ?h2z19 ?hyz19 (by assumption) ?restz19
                  case h1z19 => first | rfl | (simp only [List.getElem?_toArray, List.getElem?_cons_succ, List.getElem?_cons_zero]; try rfl)
                  case h2z19 => exact fun _ _ _ h => h
                  case hyz19 => (refine Or.inl ⟨by rfl, ?_⟩; intro w hSw; (try dsimp only at hSw); go_simp; (try with_reducible rfl))
                  try simp only [Act.put, List.setIfInBounds_toArray]
                  refine wpAnyH_take (i := 2) (oi := ?oiz20) (v := ?vz20) ?h1z20 (by kernel_rfl) (by kernel_rfl) (by kernel_rfl) ?h2z20 ?hyz20 (by assumption) ?restz20
                  case h1z20 => first | rfl | (simp only [List.getElem?_toArray, List.getElem?_cons_succ, List.getElem?_cons_zero]; try rfl)
                  case h2z20 => exact fun _ _ _ h => h
                  case hyz20 => (refine Or.inl ⟨by rfl, ?_⟩; intro w hSw; (try dsimp only at hSw); go_simp; (try with_reducible rfl))
                  try simp only [Act.put]
                  refine wpAnyH_ready (rs := [1]) (by kernel_rfl) (by simp) ?_
                  refine (AllReadyH.cons (o := ?oiz28) ?h1z28 (fun K hK => ?restz28) AllReadyH.nil)
                  case h1z28 => first | rfl | (simp only [List.getElem?_toArray, List.getElem?_cons_succ, List.getElem?_cons_zero]; try rfl)
                  case restz28 =>
                    go_simp
                    go_at_call 63
                    refine (hT2 _ cD0).mono ?_
                    rintro e cw1 ⟨rfl, hR, hg⟩
                    have cD1 := cD0.reads hg hR
                    clear hR hg
                    refine hK.out _ _ cD1.p (fun hHeld => ?_)
                    clear hK K
                    try simp only [Act.put, List.setIfInBounds_toArray, List.set_cons_zero, List.set_cons_succ]
                    refine wpAnyH_take (i := 4) (oi := ?oiz21) (v := ?vz21) ?h1z21 (by kernel_rfl) (by kernel_rfl) (by kernel_rfl) ?h2z21 ?hyz21 (by assumption) ?restz21
                    case h1z21 => first | rfl | (simp only [List.getElem?_toArray, List.getElem?_cons_succ, List.getElem?_cons_zero]; try rfl)
                    case h2z21 => exact fun _ _ _ h => h
                    case hyz21 => (refine Or.inl ⟨by rfl, ?_⟩; intro w hSw; (try dsimp only at hSw); go_simp; (try with_reducible rfl))
                    try simp only [Act.put, List.setIfInBounds_toArray]
                    refine wpAnyH_take (i := 5) (oi := ?oiz22) (v := ?vz22) ?h1z22 (by kernel_rfl) (by kernel_rfl) (by kernel_rfl) ?h2z22 ?hyz22 (by assumption) ?restz22
                    case h1z22 => first | rfl | (simp only [List.getElem?_toArray, List.getElem?_cons_succ, List.getElem?_cons_zero]; try rfl)
                    case h2z22 => exact fun _ _ _ h => h
                    case hyz22 => (refine Or.inl ⟨by rfl, ?_⟩; intro w hSw; (try dsimp only at hSw); go_simp; (try with_reducible rfl))
                    try simp only [Act.put]
                    refine wpAnyH_ready (rs := [3]) (by kernel_rfl) (by simp) ?_
                    refine (AllReadyH.cons (o := ?oiz27) ?h1z27 (fun K hK => ?restz27) AllReadyH.nil)
                    case h1z27 => first | rfl | (simp only [List.getElem?_toArray, List.getElem?_cons_succ, List.getElem?_cons_zero]; try rfl)
                    case restz27 =>
                      go_simp
                      go_at_call 63
                      refine (hT3 _ cD1).mono ?_
                      rintro e cw2 ⟨rfl, hR, hg⟩
                      have cD2 := cD1.reads hg hR
                      clear hR hg
                      refine hK.out _ _ cD2.p (fun hHeld => ?_)
                      clear hK K
                      try simp only [Act.put, List.setIfInBounds_toArray, List.set_cons_zero, List.set_cons_succ]
                      refine wpAnyH_ready (rs := [6]) (by kernel_rfl) (by simp) ?_
                      refine (AllReadyH.cons (o := ?oiz26) ?h1z26 (fun K hK => ?restz26) AllReadyH.nil)
                      case h1z26 => first | rfl | (simp only [List.getElem?_toArray, List.getElem?_cons_succ, List.getElem?_cons_zero]; try rfl)
                      case restz26 =>
                        have y5 := cD2.c0 5 rfl
                        have f5 := cD2.fz 5
                        go_simp
                        have cD3 := cD2.store (x' := ⟨(n1 : Int), (n2 : Int), ⟨t1, [], yy, t2, []⟩, false, [], []⟩) 5 (.string ⟨t2.toArray⟩) rfl rfl rfl rfl
                        clear y5 f5
                        refine hK.out _ _ cD3.p (fun hHeld => ?_)
                        clear hK K
                        try simp only [Act.put, List.setIfInBounds_toArray, List.set_cons_zero, List.set_cons_succ]
                        refine wpAnyH_take (i := 7) (oi := ?oiz23) (v := ?vz23) ?h1z23 (by kernel_rfl) (by kernel_rfl) (by kernel_rfl) ?h2z23 ?hyz23 (by assumption) ?restz23
                        case h1z23 => first | rfl | (simp only [List.getElem?_toArray, List.getElem?_cons_succ, List.getElem?_cons_zero]; try rfl)
                        case h2z23 => exact fun _ _ _ h => h
                        case hyz23 => (refine Or.inl ⟨by rfl, ?_⟩; intro w hSw; (try dsimp only at hSw); go_simp; (try with_reducible rfl))
                        try simp only [Act.put, List.setIfInBounds_toArray]
                        refine wpAnyH_take (i := 8) (oi := ?oiz24) (v := ?vz24) ?h1z24 (by kernel_rfl) (by kernel_rfl) (by kernel_rfl) ?h2z24 ?hyz24 (by assumption) ?restz24
                        case h1z24 => first | rfl | (simp only [List.getElem?_toArray, List.getElem?_cons_succ, List.getElem?_cons_zero]; try rfl)
                        case h2z24 => exact fun _ _ _ h => h
                        case hyz24 => (refine Or.inl ⟨by rfl, ?_⟩; intro w hSw; (try dsimp only at hSw); go_simp; (try with_reducible rfl))
                        try simp only [Act.put]
                        refine wpAnyH_ready (rs := [9]) (by kernel_rfl) (by simp) ?_
                        refine (AllReadyH.cons (o := ?oiz25) ?h1z25 (fun K hK => ?restz25) AllReadyH.nil)
                        case h1z25 => first | rfl | (simp only [List.getElem?_toArray, List.getElem?_cons_succ, List.getElem?_cons_zero]; try rfl)
                        case restz25 =>
                          have y6 := cD3.c0 6 rfl
                          have f6 := cD3.fz 6
                          go_simp
                          have cD4 := cD3.store (x' := ⟨(n1 : Int), (n2 : Int), ⟨t1, [], yy, t2, t3⟩, false, [], []⟩) 6 (.string ⟨t3.toArray⟩) rfl rfl rfl rfl
                          clear y6 f6
                          refine hK.out _ _ cD4.p (fun hHeld => ?_)
                          clear hK K
                          try simp only [Act.put, List.setIfInBounds_toArray, List.set_cons_zero, List.set_cons_succ]
                          refine wpAnyH_done (by kernel_rfl) ?_ _
                          have hZ := cD4
                          clear hHeld cD0 cD1 cD2 cD3 cD4
                          revert hZ
                          generalize World.setCell _ _ _ = wZ
                          intro hZ
                          clear hT2 hT3
                          go_upto_region 6 with (fail)
                          obtain ⟨w6, hw6⟩ : ∃ w6, w6 = wZ.alloc (.cells #[fnRf (w.heap.size + 1) (w.heap.size + 1 + 1 + 1)] 105) := ⟨_, rfl⟩
                          have hA := hZ.fixed (W' := w6) (by rw [hw6]; exact (Below.refl _ _).alloc (Nat.le_refl _) _) (k := wZ.heap.size) (v := fnRf (w.heap.size + 1) (w.heap.size + 1 + 1 + 1)) (by rw [hw6]; exact ha_eq rfl)
                          unfold fnRf at hw6
                          clear hZ
                          have HA := Lib.hid hA
                          clear hA
                          go_upto_region 7 with (fail)
                          rw [← hw6]
                          clear hw6
                          have hA := HA.out
                          generalize wZ.heap.size = fb at hA ⊢
                          clear HA
                          obtain ⟨⟨-, -, -, -, -, -, e7, -⟩, hE, l6, -⟩ := HX.out
                          have hC := rfs_any _ _ _ _ fb _ r6 _ _ _ w6 hA hE (by omega) rfl rfl
                          rw [e7] at hC
                          dsimp only at hC
                          have hp6 := hA.p
                          clear e7 hE l6 hA
                          go_wp2_with fail
                          refine hC.mono ?_
                          rintro e w7 ⟨rfl, sv, fv, h7⟩
                          clear hp6 hC
                          obtain ⟨⟨-, -, -, -, -, -, -, e8⟩, hE, -, l7⟩ := HX.out
                          have hC := jos_any _ _ _ _ _ _ r7 _ _ _ w7 h7 hE (by omega) rfl
                          rw [e8] at hC
                          dsimp only at hC
                          have hp7 := h7.p
                          clear e8 hE l7 h7
                          go_wp2_with fail
                          refine hC.mono ?_
                          rintro e w8 ⟨rfl, jv, h8⟩
                          clear hp7 hC
                          obtain ⟨RR, hRR⟩ : ∃ RR, RR = g.map (·.1) := ⟨_, rfl⟩
                          obtain ⟨FF, hFF⟩ : ∃ FF, FF = g.map (·.2) := ⟨_, rfl⟩
                          replace h8 : DecAt (some (fb, fnRf (w.heap.size + 1) (w.heap.size + 1 + 1 + 1))) w1 (w.heap.size + 1) (w.heap.size + 1 + 1 + 1) (w.heap.size + 1 + 1) ⟨(n1 : Int), (n2 : Int), ⟨t1, RR, yy, t2, t3⟩, false, FF, j⟩ r8 sv fv jv w8 := by
                            rw [hRR, hFF]
                            simpa [addRfs, addJos] using h8
                          have HG := Lib.hid (And.intro hRR hFF)
                          clear hRR hFF
                          obtain ⟨p1, c1, rfl⟩ := own_shape h8.own.rc
                          obtain ⟨p2, c2, rfl⟩ := own_shape h8.own.fa
                          obtain ⟨p3, c3, rfl⟩ := own_shape h8.own.jo
                          have hC := plainE_any ⟨t1, RR, yy, t2, t3⟩ (.slice p1 RR.length c1) w8 HL.out.1 (HX.out.2.1.keep h8.below).env.glob
                          unfold mailV mailC at hC
                          dsimp only at hC
                          have y2 := h8.c0 2 (v := .string ⟨t1.toArray⟩) rfl
                          have y3 := h8.c0 3 (v := .slice p1 RR.length c1) rfl
                          have y4 := h8.c0 4 (v := .bool yy) rfl
                          have y5 := h8.c0 5 (v := .string ⟨t2.toArray⟩) rfl
                          have y6 := h8.c0 6 (v := .string ⟨t3.toArray⟩) rfl
                          have H8 := Lib.hid h8
                          clear h8
                          go_wp2_with fail
                          refine hC.mono ?_
                          rintro e w9 ⟨rfl, hB⟩
                          clear hC y2 y3 y4 y5 y6
                          have h9 := H8.out.keep hB
                          clear hB H8
                          have y7 := h9.c0 7 (v := .bool false) rfl
                          have f7 := h9.fz 7
                          have H9 := Lib.hid h9
                          clear h9
                          generalize hpl : plainM ⟨t1, RR, yy, t2, t3⟩ = pl
                          have HP := Lib.hid hpl
                          clear hpl
                          go_upto_region 10 with (fail)
                          have h10 := H9.out.store (x' := ⟨(n1 : Int), (n2 : Int), ⟨t1, RR, yy, t2, t3⟩, pl, FF, j⟩) 7 (.bool pl) rfl rfl rfl rfl
                          clear y7 f7 H9
                          revert h10
                          generalize World.setCell _ _ _ = w10
                          intro h10
                          have HR := Lib.hid (show rdEnt ⟨s, false⟩ = (⟨(n1 : Int), (n2 : Int), ⟨t1, RR, yy, t2, t3⟩, pl, FF, j⟩, r8) by
                            obtain ⟨e1, e2, e3, e4, e5, e6, e7, e8⟩ := HX.out.1
                            have hp := HP.out
                            rw [HG.out.1] at hp
                            rw [HG.out.1, HG.out.2, ← hp]
                            unfold rdEnt
                            simp only [e1, e2, e3, e4, e5, e6, e7, e8])
                          clear HG HP
                          obtain ⟨xx, hxx⟩ : ∃ xx : EntP, xx = ⟨(n1 : Int), (n2 : Int), ⟨t1, RR, yy, t2, t3⟩, pl, FF, j⟩ := ⟨_, rfl⟩
                          have hM := may_any ⟨(n1 : Int), (n2 : Int), ⟨t1, RR, yy, t2, t3⟩, pl, FF, j⟩ _ _ _ w10 h10.own.at (by have h := HL.out.2.2; rw [HR.out] at h; exact h) (HX.out.2.1.keep h10.below).env
                          rw [← hxx] at HR hM
                          generalize hmm : mayN xx = mm at hM
                          rw [hxx] at hM
                          unfold entV entC at hM
                          dsimp only at hM
                          obtain ⟨rs, rb⟩ := r8
                          have HF := Lib.hid (show decB s = if (rb || (decide (rs ≠ []) || !mm)) = true then none else some xx by
                            unfold decB
                            rw [HR.out, ← hmm]
                            dsimp only
                            by_cases h : rb = true ∨ rs ≠ [] ∨ mayN xx = false
                            · rw [if_pos h, if_pos (by simpa using h)]
                            · rw [if_neg h, if_neg (by simpa using h)])
                          have HXX := Lib.hid hxx
                          clear hxx hmm HR
                          have hp10 := h10.p
                          obtain ⟨q0, q1⟩ := rdbox h10.rd
                          have he10 := h10.ent
                          unfold entC at he10
                          dsimp only at he10
                          obtain ⟨y0, y1, y2, y3, y4, y5, y6, y7, y8, y9⟩ := eboxAll he10
                          have H10 := Lib.hid h10
                          clear h10 he10
                          go_cut [58] (fun s58 w' => s58 = .bool (rb || (decide (rs ≠ []) || !mm)) ∧ Below w10.heap.size w10 w')
                          case first =>
                            cases rb with
                            | true =>
                              clear hM
                              go_wp2
                              go_meet
                              case rel => exact ⟨rfl, Below.refl _ _⟩
                            | false =>
                              cases rs with
                              | cons c rs =>
                                clear hM
                                go_wp2
                                go_meet
                                case rel => exact ⟨by simp, Below.refl _ _⟩
                              | nil =>
                                go_wp2_with fail
                                refine hM.mono ?_
                                rintro e w11 ⟨rfl, hB⟩
                                have HB := Lib.hid hB
                                clear hM hB
                                go_wp2
                                go_meet
                                case rel => exact ⟨by simp, HB.out⟩
                          case rest =>
                            obtain ⟨rfl, hB⟩ := hcut
                            clear hM hp10 q0 q1 y0 y1 y2 y3 y4 y5 y6 y7 y8 y9
                            have h11 := H10.out.keep hB
                            have HB1' := Lib.hid ((h11.below.block _ (lt_of_cells HB1.out)).trans HB1.out)
                            have HT := Lib.hid (HL.out.2.1.trans (h11.below.mono HL.out.2.1.size))
                            have he11 := h11.ent
                            have H11 := Lib.hid h11
                            clear hB h11 H10 HB1
                            have hzx := HB1'.out
                            unfold zeroC at hzx
                            obtain ⟨g0, g1, g2, g3, g4, g5, g6, g7, g8, g9⟩ := eboxAll hzx
                            have f0 := efroz hzx 0
                            have f1 := efroz hzx 1
                            have f2 := efroz hzx 2
                            have f3 := efroz hzx 3
                            have f4 := efroz hzx 4
                            have f5 := efroz hzx 5
                            have f6 := efroz hzx 6
                            have f7 := efroz hzx 7
                            have f8 := efroz hzx 8
                            have f9 := efroz hzx 9
                            clear hzx
                            generalize hq : (rb || (decide (rs ≠ []) || !mm)) = q at HF ⊢
                            clear hq
                            cases q with
                            | true =>
                              clear he11
                              go_wp2
                              clear g0 g1 g2 g3 g4 g5 g6 g7 g8 g9 f0 f1 f2 f3 f4 f5 f6 f7 f8 f9
                              have hb0 := HB1'.out
                              have hB7 := setAll_below HT.out (show w.heap.size ≤ w.heap.size by omega) (.int .i64 0) (.int .i64 0) (.string ⟨#[]⟩) (.slice none 0 0) (.bool false) (.string ⟨#[]⟩) (.string ⟨#[]⟩) (.bool false) (.slice none 0 0) (.slice none 0 0)
                              unfold zeroC at hb0
                              have hb7 := setAll_box hb0 (.int .i64 0) (.int .i64 0) (.string ⟨#[]⟩) (.slice none 0 0) (.bool false) (.string ⟨#[]⟩) (.string ⟨#[]⟩) (.bool false) (.slice none 0 0) (.slice none 0 0)
                              clear hb0
                              unfold setAll at hb7 hB7
                              generalize hW7 : World.setCell (World.setCell (World.setCell (World.setCell (World.setCell (World.setCell (World.setCell (World.setCell (World.setCell (World.setCell _ _ _) _ _) _ _) _ _) _ _) _ _) _ _) _ _) _ _) _ _ = W7 at hb7 hB7 ⊢
                              clear hW7
                              obtain ⟨u0, u1, u2, u3, u4, u5, u6, u7, u8, u9⟩ := eboxAll hb7
                              clear hb7
                              refine bodyPost_ret (v := .tuple #[entV zeroN (.slice none 0 0) (.slice none 0 0) (.slice none 0 0), .int .i64 4]) (by simp [results, Tryz.results21, go_sem, u0, u1, u2, u3, u4, u5, u6, u7, u8, u9, entV, entC, zeroN]) rfl ⟨hB7, .inl ⟨by rw [HF.out]; rfl, rfl⟩⟩
                            | false =>
                              unfold entC at he11
                              dsimp only at he11
                              obtain ⟨y0, y1, y2, y3, y4, y5, y6, y7, y8, y9⟩ := eboxAll he11
                              clear he11
                              go_wp2
                              clear g0 g1 g2 g3 g4 g5 g6 g7 g8 g9 f0 f1 f2 f3 f4 f5 f6 f7 f8 f9 y0 y1 y2 y3 y4 y5 y6 y7 y8 y9
                              have hb0 := HB1'.out
                              have hB7 := setAll_below HT.out (show w.heap.size ≤ w.heap.size by omega) (.int .i64 (n1 : Int)) (.int .i64 (n2 : Int)) (.string ⟨t1.toArray⟩) (.slice p1 RR.length c1) (.bool yy) (.string ⟨t2.toArray⟩) (.string ⟨t3.toArray⟩) (.bool pl) (.slice p2 FF.length c2) (.slice p3 j.length c3)
                              have hle : w.heap.size ≤ w1.heap.size := HL.out.2.1.size
                              have hown := H11.out.own
                              have ho7 : OwnE (setAll wc w.heap.size (.int .i64 (n1 : Int)) (.int .i64 (n2 : Int)) (.string ⟨t1.toArray⟩) (.slice p1 RR.length c1) (.bool yy) (.string ⟨t2.toArray⟩) (.string ⟨t3.toArray⟩) (.bool pl) (.slice p2 FF.length c2) (.slice p3 j.length c3)) w.heap.size xx (.slice p1 RR.length c1) (.slice p2 FF.length c2) (.slice p3 j.length c3) := by
                                rw [HXX.out]
                                exact ⟨ownsRow_less (own_set hown.rc HB1'.out (by decide) _ _ _ _ _ _ _ _ _ _) hle, ownsRow_less (own_set hown.fa HB1'.out (by decide) _ _ _ _ _ _ _ _ _ _) hle, ownsRow_less (own_set hown.jo HB1'.out (by decide) _ _ _ _ _ _ _ _ _ _) hle⟩
                              unfold zeroC at hb0
                              have hb7 := setAll_box hb0 (.int .i64 (n1 : Int)) (.int .i64 (n2 : Int)) (.string ⟨t1.toArray⟩) (.slice p1 RR.length c1) (.bool yy) (.string ⟨t2.toArray⟩) (.string ⟨t3.toArray⟩) (.bool pl) (.slice p2 FF.length c2) (.slice p3 j.length c3)
                              clear hb0 hown
                              unfold setAll at hb7 hB7 ho7
                              generalize hW7 : World.setCell (World.setCell (World.setCell (World.setCell (World.setCell (World.setCell (World.setCell (World.setCell (World.setCell (World.setCell _ _ _) _ _) _ _) _ _) _ _) _ _) _ _) _ _) _ _) _ _ = W7 at hb7 hB7 ho7 ⊢
                              clear hW7
                              obtain ⟨u0, u1, u2, u3, u4, u5, u6, u7, u8, u9⟩ := eboxAll hb7
                              clear hb7
                              refine bodyPost_ret (v := .tuple #[entV ⟨(n1 : Int), (n2 : Int), ⟨t1, RR, yy, t2, t3⟩, pl, FF, j⟩ (.slice p1 RR.length c1) (.slice p2 FF.length c2) (.slice p3 j.length c3), .int .i64 0]) (by simp [results, Tryz.results21, go_sem, u0, u1, u2, u3, u4, u5, u6, u7, u8, u9, entV, entC]) rfl ⟨hB7, .inr ⟨xx, _, _, _, by rw [HF.out]; rfl, by rw [HXX.out], ho7⟩⟩
end Go.Proofs.YtdlpdpelhkgnlaaGreatDoor

/- The contracts of package tally: May. -/
import Derived.Test.YthhcigmdocldnaaDoorTallyA
namespace Go.Proofs.YthhcigmdocldnaaDoor
open Go Go.RowKit Go.Shelf Go.Sort

def mayTab (t : Int) : Int := if t = 1 then 255 else if t = 2 then 1855 else if t = 3 then 63 else 0
/-- The table of what a type may have, as the program lays it. -/
def MayT (w : World) : Prop := ∀ i : Nat, i < 4 → w.cell? ⟨0, i, none⟩ = some (.int .u16 (mayTab i))
def kindB (t what : Int) : Bool := if t = 1 then decide (what ≤ 7) else if t = 2 then decide (what ≤ 5) || (decide (8 ≤ what) && decide (what ≤ 10)) else if t = 3 then decide (what ≤ 5) else false

theorem bits_fin : ∀ t : Fin 4, ∀ n : Fin 11, (bits BinOp.and IntKind.u16 (mayTab (t.val : Int) / 2 ^ n.val) 1 == 1) = kindB (t.val : Int) (n.val : Int) := by decide
theorem bits_kind (t : Nat) (what : Int) (ht : t < 4) (h0 : 0 ≤ what) (h1 : what < 11) : (bits BinOp.and IntKind.u16 (mayTab t / 2 ^ what.toNat) 1 == 1) = kindB t what := by
  obtain ⟨n, rfl⟩ := Int.eq_ofNat_of_zero_le h0
  exact bits_fin ⟨t, ht⟩ ⟨n, by omega⟩
theorem kindB_t {t what : Int} (h : ¬ t < 4) : kindB t what = false := by
  have h1 : ¬ t = 1 := by omega
  have h2 : ¬ t = 2 := by omega
  have h3 : ¬ t = 3 := by omega
  simp [kindB, h1, h2, h3]
theorem kindB_w {t what : Int} (h : ¬ what < 11) : kindB t what = false := by
  have a : ¬ what ≤ 7 := by omega
  have b : ¬ what ≤ 5 := by omega
  have c : ¬ what ≤ 10 := by omega
  simp [kindB, a, b, c]

set_option maxRecDepth 100000 in
set_option maxHeartbeats 400000 in
theorem tallyMay_yes (d : ByteArray) (t : Nat) (what : Int) (w : World) (hs : d.size ≤ maxLen) (hg : Glob w) (hm : MayT w) (ht : t < 4) (h0 : 0 ≤ what) (h1 : what < 11) (hk : kindB t what = true) :
    Calls Tryd.prog 24 #[.agg #[.string d, .int .u8 (t : Int), .int .u8 what]] w fun e w' => e = .returned (.bool (mayB d.data.toList)) ∧ Below w.heap.size w w' := by
  go_enter Tryd.func24, Tryd.ntmps24
  go_wp2_with fail
  obtain ⟨W, hW⟩ : ∃ W, W = w.alloc (.cells #[.string d, .int .u8 t, .int .u8 what] 34) := ⟨_, rfl⟩
  rw [← hW]
  have c0 : W.drew.cell? ⟨w.heap.size, 0, none⟩ = some (.string d) := by rw [hW]; simp [go_sem]
  have c1 : W.drew.cell? ⟨w.heap.size, 1, none⟩ = some (.int .u8 t) := by rw [hW]; simp [go_sem]
  have c2 : W.drew.cell? ⟨w.heap.size, 2, none⟩ = some (.int .u8 what) := by rw [hW]; simp [go_sem]
  have hmt := hm t ht
  have hB : Below w.heap.size w W.drew := by rw [hW]; exact ((Below.refl _ w).alloc (Nat.le_refl _) _).drew
  have c3 : W.drew.cell? ⟨0, t, none⟩ = some (.int .u16 (mayTab t)) := (hB.cell (p := ⟨0, t, none⟩) (cell_lt hmt)).trans hmt
  have hgl : Glob W.drew := hg.below hB (by obtain ⟨m, hm⟩ := hg; exact cell_lt hm)
  refine wp_region_still_tail 23 (by kernel_rfl) (by kernel_rfl) ?_
  simp only [List.take_succ_cons, List.take_zero, List.drop_succ_cons, List.drop_zero]
  show wpStill Tryd.prog _ W.drew (fun a' => wpList _ _ _ _ a' W.drew) _ _
  obtain ⟨W1, hW1⟩ : ∃ W1, W1 = W.drew := ⟨_, rfl⟩
  rw [← hW1] at c0 c1 c2 c3 hB hgl ⊢
  have e6 := bits_kind t what ht h0 h1
  rw [hk] at e6
  clear hW1 hW hmt hm hg hk
  generalize mayTab t = M at c3 e6
  have e1 : IntKind.i64.wrap (t : Int) = (t : Int) := IntWalk.i64_in _ (by omega)
  have e2 : decide ((t : Int) < 4) = true := by simp; omega
  have e3 : decide (what < 11) = true := by simp; omega
  have e5 : (t : Int) < 4 := by omega
  repeat still_step
  refine wpStill_nil ?_
  clear e1 e2 e3 e6
  go_wp2_with fail
  refine (nameMay_any d W1 hs hgl).mono ?_
  rintro e w' ⟨rfl, hB2⟩
  go_wp2
  go_ret
  exact ⟨rfl, hB.trans (hB2.mono hB.size)⟩

set_option maxRecDepth 100000 in
set_option maxHeartbeats 400000 in
theorem tallyMay_no1 (d : ByteArray) (t : Nat) (what : Int) (w : World) (hm : MayT w) (h4 : t < 4) (h0 : 0 ≤ what) (h1 : what < 11) (hk : kindB t what = false) :
    Calls Tryd.prog 24 #[.agg #[.string d, .int .u8 (t : Int), .int .u8 what]] w fun e w' => e = .returned (.bool false) ∧ Below w.heap.size w w' := by
  go_enter Tryd.func24, Tryd.ntmps24
  go_wp2_with fail
  obtain ⟨W, hW⟩ : ∃ W, W = w.alloc (.cells #[.string d, .int .u8 t, .int .u8 what] 34) := ⟨_, rfl⟩
  rw [← hW]
  have c0 : W.drew.cell? ⟨w.heap.size, 0, none⟩ = some (.string d) := by rw [hW]; simp [go_sem]
  have c1 : W.drew.cell? ⟨w.heap.size, 1, none⟩ = some (.int .u8 t) := by rw [hW]; simp [go_sem]
  have c2 : W.drew.cell? ⟨w.heap.size, 2, none⟩ = some (.int .u8 what) := by rw [hW]; simp [go_sem]
  have hmt := hm t h4
  have hB : Below w.heap.size w W.drew := by rw [hW]; exact ((Below.refl _ w).alloc (Nat.le_refl _) _).drew
  have c3 : W.drew.cell? ⟨0, t, none⟩ = some (.int .u16 (mayTab t)) := (hB.cell (p := ⟨0, t, none⟩) (cell_lt hmt)).trans hmt
  refine wp_region_still_tail 23 (by kernel_rfl) (by kernel_rfl) ?_
  simp only [List.take_succ_cons, List.take_zero, List.drop_succ_cons, List.drop_zero]
  show wpStill Tryd.prog _ W.drew (fun a' => wpList _ _ _ _ a' W.drew) _ _
  obtain ⟨W1, hW1⟩ : ∃ W1, W1 = W.drew := ⟨_, rfl⟩
  rw [← hW1] at c0 c1 c2 c3 hB ⊢
  have e6 := bits_kind t what h4 h0 h1
  rw [hk] at e6
  clear hW1 hW hmt hm hk
  generalize mayTab t = M at c3 e6
  have e1 : IntKind.i64.wrap (t : Int) = (t : Int) := IntWalk.i64_in _ (by omega)
  have e2 : decide ((t : Int) < 4) = true := by simp; omega
  have e3 : decide (what < 11) = true := by simp; omega
  have e5 : (t : Int) < 4 := by omega
  repeat still_step
  refine wpStill_nil ?_
  go_wp2
  go_ret
  exact ⟨rfl, hB⟩
theorem below_drewN' {B : Nat} {a w : World} (h : Below B a w) (n : Nat) : Below B a (w.drewN n) := ⟨h.os, h.tape, h.output, h.size, h.block⟩
set_option maxRecDepth 100000 in
set_option maxHeartbeats 400000 in
theorem tallyMay_no2 (d : ByteArray) (t : Nat) (what : Int) (w : World) (h4 : t < 4) (h1 : ¬ what < 11) :
    Calls Tryd.prog 24 #[.agg #[.string d, .int .u8 (t : Int), .int .u8 what]] w fun e w' => e = .returned (.bool false) ∧ Below w.heap.size w w' := by
  have e1 : IntKind.i64.wrap (t : Int) = (t : Int) := IntWalk.i64_in _ (by omega)
  have e2 : decide ((t : Int) < 4) = true := by simp; omega
  have e3 : decide (what < 11) = false := by simp; omega
  go_enter Tryd.func24, Tryd.ntmps24
  go_wp2_with fail
  go_quiet (fail)
  go_wp2
  go_ret
  exact ⟨rfl, below_drewN' ((Below.refl _ w).alloc (Nat.le_refl _) _) _⟩
set_option maxRecDepth 100000 in
set_option maxHeartbeats 400000 in
theorem tallyMay_no3 (d : ByteArray) (t : Nat) (what : Int) (w : World) (ht : t < 256) (h4 : ¬ t < 4) :
    Calls Tryd.prog 24 #[.agg #[.string d, .int .u8 (t : Int), .int .u8 what]] w fun e w' => e = .returned (.bool false) ∧ Below w.heap.size w w' := by
  have e1 : IntKind.i64.wrap (t : Int) = (t : Int) := IntWalk.i64_in _ (by omega)
  have e2 : decide ((t : Int) < 4) = false := by simp; omega
  go_enter Tryd.func24, Tryd.ntmps24
  go_wp2_with fail
  go_quiet (fail)
  go_wp2
  go_ret
  exact ⟨rfl, below_drewN' ((Below.refl _ w).alloc (Nat.le_refl _) _) _⟩
/-- tally.May, whatever the result. -/
theorem tallyMay_any (d : ByteArray) (t : Nat) (what : Int) (w : World) (hs : d.size ≤ maxLen) (hg : Glob w) (hm : MayT w) (ht : t < 256) (h0 : 0 ≤ what) :
    Calls Tryd.prog 24 #[.agg #[.string d, .int .u8 (t : Int), .int .u8 what]] w fun e w' => e = .returned (.bool (kindB t what && mayB d.data.toList)) ∧ Below w.heap.size w w' := by
  cases hk : kindB t what
  · by_cases h4 : t < 4
    · by_cases h1 : what < 11
      · exact tallyMay_no1 d t what w hm h4 h0 h1 hk
      · exact tallyMay_no2 d t what w h4 h1
    · exact tallyMay_no3 d t what w ht h4
  · have h4 : t < 4 := by
      rcases Nat.lt_or_ge t 4 with h | h
      · exact h
      · rw [kindB_t (by omega)] at hk; cases hk
    have h1 : what < 11 := by
      rcases Int.lt_or_le what 11 with h | h
      · exact h
      · rw [kindB_w (by omega)] at hk; cases hk
    exact tallyMay_yes d t what w hs hg hm h4 h0 h1 hk
end Go.Proofs.YthhcigmdocldnaaDoor

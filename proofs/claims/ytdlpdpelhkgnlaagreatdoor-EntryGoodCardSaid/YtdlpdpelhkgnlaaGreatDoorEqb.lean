/- Regions of reads and of calls that lay blocks; entry.wrong. -/
import Derived.Test.YtdlpdpelhkgnlaaGreatDoorEword
import Derived.BigQuiet
namespace Go.Proofs.YtdlpdpelhkgnlaaGreatDoor
open Go Go.RowKit Go.Shelf Go.Sort
attribute [local go_sem] bneI

/-- A world that keeps all that lay in w. -/
structure BW (w : World) where
  v : World
  h : Below w.heap.size w v
instance (w : World) : Inhabited (BW w) := ⟨⟨w, Below.refl _ _⟩⟩
theorem wp_region_quiet_below {P : Program} {id : Nat} {Q : Exit → Act → World → Prop} {a : Act} {w : World} {l : List Oper} (hm : P.follows .mixedOrders = true) (hB : Region.lexB .any l.toArray = true)
    (h : wpQuiet P l.toArray (fun w' => ∃ p : BW w, w' = p.v) (fun a' => ∀ w', (∃ p : BW w, w' = p.v) → Q .normal a' w') l a) : (Code.region id l.toArray true).wp P Q a w :=
  wp_region_quiet (C := fun w' => ∃ p : BW w, w' = p.v) hm hB ⟨⟨w.drew, ⟨rfl, rfl, rfl, Nat.le_refl _, fun _ _ => rfl⟩⟩, rfl⟩ (by simpa using h)
theorem BW.calls {P : Program} {f : FuncId} {args : Array Value} {v : Value} {w : World} (h : ∀ W, Below w.heap.size w W → Calls P f args W fun e w' => e = .returned v ∧ Below W.heap.size W w') (q : BW w) : Calls P f args q.v fun e w'' => e = .returned v ∧ ∃ q' : BW w, w'' = q'.v :=
  (h q.v q.h).mono fun _ w'' hh => ⟨hh.1, ⟨w'', q.h.trans (hh.2.mono q.h.size)⟩, rfl⟩
theorem BW.cell {w : World} {a : Addr} {u : Value} (h : w.cell? a = some u) (q : BW w) : q.v.cell? a = some u := (q.h.cell (p := a) (cell_lt h)).trans h

theorem wrong_yes (f : FaP) (h : wrongB f = true) : 2 < f.1 ∨ (¬ 2 < f.1 ∧ wordB f.2 ≠ f.2) ∨ (¬ 2 < f.1 ∧ wordB f.2 = f.2 ∧ f.1 ≠ 2 ∧ f.2 ≠ []) := by
  unfold wrongB at h
  simp only [Bool.or_eq_true, Bool.and_eq_true, decide_eq_true_eq] at h
  by_cases h1 : 2 < f.1
  · exact .inl h1
  · by_cases h2 : wordB f.2 = f.2
    · rcases h with h | h | h
      · exact absurd h h1
      · exact absurd h2 h
      · exact .inr (.inr ⟨h1, h2, h⟩)
    · exact .inr (.inl ⟨h1, h2⟩)
theorem wrong_no (f : FaP) (h : wrongB f = false) : ¬ 2 < f.1 ∧ wordB f.2 = f.2 ∧ (f.1 = 2 ∨ (f.1 ≠ 2 ∧ f.2 = [])) := by
  unfold wrongB at h
  simp only [Bool.or_eq_false_iff, Bool.and_eq_false_iff, decide_eq_false_iff_not, ne_eq, Decidable.not_not] at h
  refine ⟨h.1, h.2.1, ?_⟩
  by_cases h2 : f.1 = 2
  · exact .inl h2
  · exact .inr ⟨h2, by rcases h.2.2 with h | h; exact absurd h h2; exact h⟩
set_option maxRecDepth 100000 in
set_option maxHeartbeats 4000000 in
theorem wrong_any (f : FaP) (w : World) (hs : f.2.length ≤ maxLen) : Calls Tryz.prog 34 (#[.agg (faE f).toArray] ++ #[]) w fun e w' => e = .returned (.bool (wrongB f)) ∧ Below w.heap.size w w' := by
  obtain ⟨st, tx⟩ := f
  have hW := fun W => word_any tx W hs
  have hyes := wrong_yes (st, tx)
  have hnot := wrong_no (st, tx)
  unfold faE
  dsimp only at hs hyes hnot ⊢
  obtain ⟨W1, hW1⟩ : ∃ W1, W1 = (w.alloc (.cells #[.int .u8 (st : Int), .string ⟨tx.toArray⟩] 42)) := ⟨_, rfl⟩
  have hB1 : Below w.heap.size w W1 := by rw [hW1]; exact (Below.refl _ w).alloc (Nat.le_refl _) _
  have hb1 : W1.heap[w.heap.size]? = some (.cells #[.int .u8 (st : Int), .string ⟨tx.toArray⟩] 42 (0, 0)) := by rw [hW1]; exact ha_eq rfl
  have x0 : W1.cell? ⟨w.heap.size, 0, none⟩ = some (.int .u8 (st : Int)) := by simp [World.cell?, hb1]
  have x1 : W1.cell? ⟨w.heap.size, 1, none⟩ = some (.string ⟨tx.toArray⟩) := by simp [World.cell?, hb1]
  have hx0 := BW.cell x0
  have hx1 := BW.cell x1
  have hWq := BW.calls (w := W1) (fun W _ => hW W)
  have HB := Lib.hid hB1
  clear hB1 hb1 x0 x1 hs hW
  have hfin : ∀ (r : Bool) (W : World), (∃ p : BW W1, W = p.v) → Below w.heap.size w W := fun _ W hp => by
    obtain ⟨p, rfl⟩ := hp
    exact HB.out.trans (p.h.mono HB.out.size)
  have HF := Lib.hid hfin
  clear hfin
  generalize wordB tx = u at *
  cases hr : wrongB (st, tx) with
  | true =>
    rcases hyes hr with h1 | ⟨h1, h2⟩ | ⟨h1, h2, h3, h4⟩
    · have e1 : (2 : Int) < (st : Int) := by omega
      clear hyes hnot hr h1
      go_enter Tryz.func34, Tryz.ntmps34
      go_upto_region 1 with (fail)
      rw [← hW1]
      clear hW1
      refine wp_region_quiet_below (by kernel_rfl) (by kernel_rfl) ?_
      repeat (go_big_quiet_step (exact hWq _))
      refine wpQuiet_nil ?_
      intro w5 hw'
      have H5 := Lib.hid (HF.out true w5 hw')
      clear hw' hx0 hx1 hWq
      go_wp2
      refine bodyPost_ret (v := .bool true) (by simp [results, Tryz.results34, go_sem]) rfl ⟨rfl, H5.out⟩
    · have e1 : ¬ (2 : Int) < (st : Int) := by omega
      have e2 : (u == tx) = false := by simpa using h2
      clear hyes hnot hr h1 h2
      go_enter Tryz.func34, Tryz.ntmps34
      go_upto_region 1 with (fail)
      rw [← hW1]
      clear hW1
      refine wp_region_quiet_below (by kernel_rfl) (by kernel_rfl) ?_
      repeat (go_big_quiet_step (exact hWq _))
      refine wpQuiet_nil ?_
      intro w5 hw'
      have H5 := Lib.hid (HF.out true w5 hw')
      clear hw' hx0 hx1 hWq
      go_wp2
      refine bodyPost_ret (v := .bool true) (by simp [results, Tryz.results34, go_sem]) rfl ⟨rfl, H5.out⟩
    · have e1 : ¬ (2 : Int) < (st : Int) := by omega
      subst h2
      have e3 : ((st : Int) == 2) = false := by simp; omega
      have e4 : decide ((st : Int) = 2) = false := by simp; omega
      have e5 : (u == []) = false := by simpa using h4
      have e6 : u.isEmpty = false := by simpa using h4
      clear hyes hnot hr h1 h3
      go_enter Tryz.func34, Tryz.ntmps34
      go_upto_region 1 with (fail)
      rw [← hW1]
      clear hW1
      refine wp_region_quiet_below (by kernel_rfl) (by kernel_rfl) ?_
      repeat (go_big_quiet_step (exact hWq _))
      refine wpQuiet_nil ?_
      intro w5 hw'
      have H5 := Lib.hid (HF.out true w5 hw')
      clear hw' hx0 hx1 hWq
      go_wp2
      refine bodyPost_ret (v := .bool true) (by simp [results, Tryz.results34, go_sem]) rfl ⟨rfl, H5.out⟩
  | false =>
    obtain ⟨h1, h2, h3⟩ := hnot hr
    have e1 : ¬ (2 : Int) < (st : Int) := by omega
    subst h2
    rcases h3 with h3 | ⟨h3, h4⟩
    · have e3 : ((st : Int) == 2) = true := by simp; omega
      have e4 : decide ((st : Int) = 2) = true := by simp; omega
      clear hyes hnot hr h1 h3
      go_enter Tryz.func34, Tryz.ntmps34
      go_upto_region 1 with (fail)
      rw [← hW1]
      clear hW1
      refine wp_region_quiet_below (by kernel_rfl) (by kernel_rfl) ?_
      repeat (go_big_quiet_step (exact hWq _))
      refine wpQuiet_nil ?_
      intro w5 hw'
      have H5 := Lib.hid (HF.out true w5 hw')
      clear hw' hx0 hx1 hWq
      go_wp2
      refine bodyPost_ret (v := .bool false) (by simp [results, Tryz.results34, go_sem]) rfl ⟨rfl, H5.out⟩
    · have e3 : ((st : Int) == 2) = false := by simp; omega
      have e4 : decide ((st : Int) = 2) = false := by simp; omega
      subst h4
      clear hyes hnot hr h1 h3
      go_enter Tryz.func34, Tryz.ntmps34
      go_upto_region 1 with (fail)
      rw [← hW1]
      clear hW1
      refine wp_region_quiet_below (by kernel_rfl) (by kernel_rfl) ?_
      repeat (go_big_quiet_step (exact hWq _))
      refine wpQuiet_nil ?_
      intro w5 hw'
      have H5 := Lib.hid (HF.out true w5 hw')
      clear hw' hx0 hx1 hWq
      go_wp2
      refine bodyPost_ret (v := .bool false) (by simp [results, Tryz.results34, go_sem]) rfl ⟨rfl, H5.out⟩
end Go.Proofs.YtdlpdpelhkgnlaaGreatDoor

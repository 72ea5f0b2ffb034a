/- The contracts of package tally: New, May and the comparison of places. -/
import Derived.Test.YthhcigmdocldnaaDoorProg
import Derived.Test.YthhcigmdocldnaaDoorNameB
import Derived.Test.YthhcigmdocldnaaDoorMap
import Derived.LoopTactic
import Derived.Outline
import Derived.Lib.Hide
import Derived.BigQuiet
import Derived.Deep.QuietTactic
import Derived.Deep.RegionWith
import Derived.Deep.RegionHeld3
import Derived.RegionTactic
import Derived.Sort.Grow
import Derived.BigRegion
import Derived.StillTailTactics
import Derived.WalkLawsBesides
import Derived.WalkSpells
namespace Go.Proofs.YthhcigmdocldnaaDoor
open Go Go.RowKit Go.Shelf Go.Sort

set_option maxHeartbeats 400000 in
theorem tallyNew_bad (n : Int) (w : World) (h : n < 1 ∨ 8 < n) :
    Calls Tryd.prog 11 #[.int .i64 n] w fun e w' => e = .returned (.tuple #[.pointer none, .int .i64 1]) ∧ w = w' := by
  by_cases h1 : n < 1
  · go_enter Tryd.func11, Tryd.ntmps11
    go_wp2
    go_ret2
    exact ⟨rfl, rfl⟩
  · have h2 : 8 < n := by omega
    go_enter Tryd.func11, Tryd.ntmps11
    go_wp2
    go_ret2
    exact ⟨rfl, rfl⟩
set_option maxHeartbeats 400000 in
theorem tallyNew_good (n : Int) (w : World) (h1 : 1 ≤ n) (h2 : n ≤ 8) :
    Calls Tryd.prog 11 #[.int .i64 n] w fun e w' => e = .returned (.tuple #[.pointer (some ⟨w.heap.size + 1, 0, none⟩), .int .i64 0]) ∧
      (w.alloc (.map #[] 0)).alloc (.cells #[.int .i64 n, .map (some w.heap.size)] 74) = w' := by
  have hmm := @run_makeMap Tryd.prog
  go_enter Tryd.func11, Tryd.ntmps11
  go_wp2
  go_ret2
  exact ⟨rfl, rfl⟩
set_option maxHeartbeats 400000 in
theorem nameCompare_any (a b : ByteArray) (w : World) :
    Calls Tryd.prog 41 #[.string a, .string b] w fun e w' => e = .returned (.int .i64 (Lib.compareBytes a.data.toList b.data.toList)) ∧ w = w' := by
  go_enter Tryd.func41, Tryd.ntmps41
  go_wp2_with fail
  refine (Tryd.strings_Compare a b w).mono ?_
  rintro e w' ⟨rfl, rfl⟩
  go_wp2
  go_ret
  exact ⟨rfl, rfl⟩
theorem grow3 (w : World) (A B C : Obj) : (((w.alloc A).alloc B).drew).alloc C = grow (w.drewN 1) #[A, B, C] := by
  have h : grow (grow (grow (w.drewN 1) #[A]) #[B]) #[C] = grow (w.drewN 1) #[A, B, C] := by rw [grow_grow, grow_grow]; rfl
  rw [← h, alloc_eq_grow, alloc_eq_grow, alloc_eq_grow]
  rfl
theorem flipC {P : Program} {f : FuncId} {args : Array Value} {w : World} {v : Value} (h : Calls P f args w fun e w' => e = .returned v ∧ w = w') : Calls P f args w fun e w' => e = .returned v ∧ w' = w :=
  h.mono fun _ _ ⟨a, b⟩ => ⟨a, b.symm⟩
def orI (x y : Int) : Int := if x = 0 then y else x
theorem orI_zero (y : Int) : orI 0 y = y := rfl
theorem orI_ne {x y : Int} (h : ¬ x = 0) : orI x y = x := if_neg h
theorem ret_int {k : IntKind} {a b : Int} (h : a = b) : Ending.returned (.int k a) = .returned (.int k b) := by rw [h]
def cmpInt (j k : Int) : Int := if j < k then -1 else if k < j then 1 else 0
set_option maxHeartbeats 400000 in
theorem isNaN8_any (j : Int) (w : World) : Calls Tryd.prog 74 #[.int .u8 j] w fun e w' => e = .returned (.bool false) ∧ w = w' := by
  go_enter Tryd.func74, Tryd.ntmps74
  go_wp2
  go_ret
  exact ⟨by simp, rfl⟩
set_option maxHeartbeats 400000 in
theorem cmp8_any (j k : Int) (w : World) : Calls Tryd.prog 60 #[.int .u8 j, .int .u8 k] w fun e w' => e = .returned (.int .i64 (cmpInt j k)) ∧ w = w' := by
  have hn := fun j => isNaN8_any j w
  rcases Int.lt_trichotomy j k with h | h | h
  · have e : cmpInt j k = -1 := by simp [cmpInt, h]
    rw [e]; clear e
    go_enter Tryd.func60, Tryd.ntmps60
    go_wp2_with (go_at_call 74; refine (hn _).mono ?_; rintro e w' ⟨rfl, rfl⟩)
    go_ret
    exact ⟨rfl, rfl⟩
  · subst h
    have e : cmpInt j j = 0 := by simp [cmpInt]
    rw [e]; clear e
    go_enter Tryd.func60, Tryd.ntmps60
    go_wp2_with (go_at_call 74; refine (hn _).mono ?_; rintro e w' ⟨rfl, rfl⟩)
    go_ret
    exact ⟨rfl, rfl⟩
  · have h' : ¬ j < k := by omega
    have e : cmpInt j k = 1 := by simp [cmpInt, h, h']
    rw [e]; clear e
    go_enter Tryd.func60, Tryd.ntmps60
    go_wp2_with (go_at_call 74; refine (hn _).mono ?_; rintro e w' ⟨rfl, rfl⟩)
    go_ret
    exact ⟨rfl, rfl⟩
set_option maxHeartbeats 400000 in
/-- cmp.Or of two numbers. -/
theorem or2_any (x y : Int) (b off c : Nat) (w : World) (h0 : w.cell? ⟨b, off, none⟩ = some (.int .i64 x)) (h1 : w.cell? ⟨b, off + 1, none⟩ = some (.int .i64 y)) :
    Calls Tryd.prog 59 #[.slice (some ⟨b, off, none⟩) 2 c] w fun e w' => e = .returned (.int .i64 (orI x y)) ∧ w = w' := by
  go_enter Tryd.func59, Tryd.ntmps59
  go_wp2
  go_loop [5, 8] (fun _ i => (i = .int .i64 (0 : Nat)) ∨ (i = .int .i64 (1 : Nat) ∧ x = 0) ∨ (i = .int .i64 (2 : Nat) ∧ x = 0 ∧ y = 0)) (fun _ i => 2 - (intOf i).toNat)
  case atStart => exact .inl rfl
  case round =>
    rcases hrel with rfl | ⟨rfl, rfl⟩ | ⟨rfl, rfl, rfl⟩
    · by_cases hx : x = 0
      · subst hx
        go_wp2
        exact ⟨.inr (.inl ⟨rfl, trivial⟩), by simp [intOf]⟩
      · have hx' : (x != 0) = true := by simpa using hx
        go_wp2
        go_ret
        exact ⟨ret_int (orI_ne hx).symm, rfl⟩
    · by_cases hy : y = 0
      · subst hy
        go_wp2
        exact ⟨.inr (.inr ⟨rfl, trivial, trivial⟩), by simp [intOf]⟩
      · have hy' : (y != 0) = true := by simpa using hy
        go_wp2
        go_ret
        exact ⟨ret_int (orI_zero y).symm, rfl⟩
    · go_wp2
      go_ret
      exact ⟨ret_int (orI_zero 0).symm, rfl⟩
set_option maxRecDepth 100000 in
set_option maxHeartbeats 400000 in
theorem ahead_any (a b : ByteArray) (j k : Int) (w : World) :
    Calls Tryd.prog 38 #[.agg #[.string a, .int .u8 j], .agg #[.string b, .int .u8 k]] w fun e w' => e = .returned (.int .i64 (orI (Lib.compareBytes a.data.toList b.data.toList) (cmpInt j k))) ∧ ∃ os, w' = grow (w.drewN 1) os := by
  go_enter Tryd.func38, Tryd.ntmps38
  go_wp2_with fail
  obtain ⟨W, hW⟩ : ∃ W, W = ((w.alloc (.cells #[.string a, .int .u8 j] 78)).alloc (.cells #[.string b, .int .u8 k] 78)) := ⟨_, rfl⟩
  rw [← hW]
  have c0 : W.drew.cell? ⟨w.heap.size, 0, none⟩ = some (.string a) := by rw [hW]; simp [go_sem]
  have c1 : W.drew.cell? ⟨w.heap.size, 1, none⟩ = some (.int .u8 j) := by rw [hW]; simp [go_sem]
  have c2 : W.drew.cell? ⟨w.heap.size + 1, 0, none⟩ = some (.string b) := by rw [hW]; simp [go_sem]
  have c3 : W.drew.cell? ⟨w.heap.size + 1, 1, none⟩ = some (.int .u8 k) := by rw [hW]; simp [go_sem]
  refine wp_region_still_tail 10 (by kernel_rfl) (by kernel_rfl) ?_
  simp only [List.take_succ_cons, List.take_zero, List.drop_succ_cons, List.drop_zero]
  show wpStill Tryd.prog _ W.drew (fun a' => wpList _ _ _ _ a' W.drew) _ _
  obtain ⟨W1, hW1⟩ : ∃ W1, W1 = W.drew := ⟨_, rfl⟩
  rw [← hW1] at c0 c1 c2 c3 ⊢
  have HS := Lib.hid (And.intro hW1 hW)
  clear hW1 hW
  repeat still_step
  still_call (flipC (nameCompare_any a b W1))
  repeat still_step
  still_call (flipC (cmp8_any j k W1))
  repeat still_step
  refine wpStill_nil ?_
  go_wp2_with fail
  refine (or2_any (Lib.compareBytes a.data.toList b.data.toList) (cmpInt j k) _ 0 _ _ (by simp [go_sem]) (by simp [go_sem])).mono ?_
  rintro e w' ⟨rfl, rfl⟩
  go_wp2
  go_ret
  refine ⟨rfl, ?_⟩
  rw [HS.out.1, HS.out.2]
  exact ⟨_, grow3 w _ _ _⟩
end Go.Proofs.YthhcigmdocldnaaDoor

/- entry.stands, clock. -/
import Derived.Test.YtdlpdpelhkgnlaaGreatDoorMd
namespace Go.Proofs.YtdlpdpelhkgnlaaGreatDoor
open Go Go.RowKit Go.Shelf Go.Sort
attribute [local go_sem] bneI

def standsB (c : UInt8) : Bool := decide (32 ≤ c.toNat) && decide (c.toNat ≤ 126)
def clockB (n : Int) : Bool := decide (0 ≤ n) && decide (n ≤ 1099511627776)
set_option maxRecDepth 100000 in
theorem stands_any (c : UInt8) (w : World) : Calls Tryz.prog 80 #[.int .u8 (c.toNat : Int)] w fun e w' => e = .returned (.bool (standsB c)) ∧ Below w.heap.size w w' := by
  by_cases h1 : 32 ≤ c.toNat
  · by_cases h2 : c.toNat ≤ 126
    · have hs : standsB c = true := by simp [standsB, h1, h2]
      have e1 : (32 : Int) ≤ (c.toNat : Int) := by omega
      have e2 : (c.toNat : Int) ≤ 126 := by omega
      rw [hs]
      clear hs h1 h2
      go_enter Tryz.func80, Tryz.ntmps80
      go_wp2
      refine bodyPost_ret (v := .bool true) (by simp [results, Tryz.results80, go_sem]) rfl ⟨rfl, Below.refl _ _⟩
    · have hs : standsB c = false := by simp [standsB]; omega
      have e1 : (32 : Int) ≤ (c.toNat : Int) := by omega
      have e2 : ¬ (c.toNat : Int) ≤ 126 := by omega
      rw [hs]
      clear hs h1 h2
      go_enter Tryz.func80, Tryz.ntmps80
      go_wp2
      refine bodyPost_ret (v := .bool false) (by simp [results, Tryz.results80, go_sem]) rfl ⟨rfl, Below.refl _ _⟩
  · have hs : standsB c = false := by simp [standsB, h1]
    have e1 : ¬ (32 : Int) ≤ (c.toNat : Int) := by omega
    rw [hs]
    clear hs h1
    go_enter Tryz.func80, Tryz.ntmps80
    go_wp2
    refine bodyPost_ret (v := .bool false) (by simp [results, Tryz.results80, go_sem]) rfl ⟨rfl, Below.refl _ _⟩
set_option maxRecDepth 100000 in
theorem word1_any (c : UInt8) (w : World) : Calls Tryz.prog 79 #[.int .u8 (c.toNat : Int)] w fun e w' => e = .returned (.bool (!standsB c)) ∧ Below w.heap.size w w' := by
  have hS := stands_any c w
  go_enter Tryz.func79, Tryz.ntmps79
  go_wp2_with fail
  refine hS.mono ?_
  rintro e w1 ⟨rfl, hB⟩
  have HB := Lib.hid hB
  clear hS hB
  go_wp2
  refine bodyPost_ret (v := .bool (!standsB c)) (by simp [results, Tryz.results79, go_sem]) rfl ⟨rfl, HB.out⟩
set_option maxRecDepth 100000 in
theorem clock_any (n : Int) (w : World) : Calls Tryz.prog 32 #[.int .i64 n] w fun e w' => e = .returned (.bool (clockB n)) ∧ Below w.heap.size w w' := by
  by_cases e1 : (0 : Int) ≤ n
  · by_cases e2 : n ≤ 1099511627776
    · have hs : clockB n = true := by simp [clockB, e1, e2]
      rw [hs]
      clear hs
      go_enter Tryz.func32, Tryz.ntmps32
      go_wp2
      refine bodyPost_ret (v := .bool true) (by simp [results, Tryz.results32, go_sem]) rfl ⟨rfl, Below.refl _ _⟩
    · have hs : clockB n = false := by simp [clockB, e2]
      rw [hs]
      clear hs
      go_enter Tryz.func32, Tryz.ntmps32
      go_wp2
      refine bodyPost_ret (v := .bool false) (by simp [results, Tryz.results32, go_sem]) rfl ⟨rfl, Below.refl _ _⟩
  · have hs : clockB n = false := by simp [clockB, e1]
    rw [hs]
    clear hs
    go_enter Tryz.func32, Tryz.ntmps32
    go_wp2
    refine bodyPost_ret (v := .bool false) (by simp [results, Tryz.results32, go_sem]) rfl ⟨rfl, Below.refl _ _⟩
end Go.Proofs.YtdlpdpelhkgnlaaGreatDoor

/- Nobody's tally: the methods at nil. -/
import Derived.Test.YthhcigmdocldnaaDoorRefH
namespace Go.Proofs.YthhcigmdocldnaaDoor
open Go Go.RowKit Go.Shelf Go.Sort

set_option maxRecDepth 100000 in
theorem clear_nil (w : World) : Calls Tryd.prog 20 #[.pointer none] w fun e w' => e = .returned (.tuple #[]) ∧ w = w' := by
  go_enter Tryd.func20, Tryd.ntmps20
  go_wp2
  go_end0
  exact ⟨rfl, rfl⟩
set_option maxRecDepth 100000 in
theorem copy_nil (w : World) : Calls Tryd.prog 21 #[.pointer none] w fun e w' => e = .returned (.pointer none) ∧ w = w' := by
  go_enter Tryd.func21, Tryd.ntmps21
  go_wp2
  refine bodyPost_ret (v := .pointer none) (by simp [results, Tryd.results21, go_sem]) rfl ⟨rfl, rfl⟩
set_option maxRecDepth 100000 in
theorem rows_nil (w : World) : Calls Tryd.prog 12 #[.pointer none] w fun e w' => e = .returned (.slice none 0 0) ∧ w = w' := by
  go_enter Tryd.func12, Tryd.ntmps12
  go_wp2
  refine bodyPost_ret (v := .slice none 0 0) (by simp [results, Tryd.results12, go_sem]) rfl ⟨rfl, rfl⟩
set_option maxRecDepth 100000 in
theorem domains_nil (w : World) : Calls Tryd.prog 13 #[.pointer none] w fun e w' => e = .returned (.slice none 0 0) ∧ w = w' := by
  go_enter Tryd.func13, Tryd.ntmps13
  go_wp2
  refine bodyPost_ret (v := .slice none 0 0) (by simp [results, Tryd.results13, go_sem]) rfl ⟨rfl, rfl⟩
set_option maxRecDepth 100000 in
theorem all_nil (w : World) : Calls Tryd.prog 18 #[.pointer none] w fun e w' => e = .returned (.int .i64 0) ∧ w = w' := by
  have hR := rows_nil w
  go_enter Tryd.func18, Tryd.ntmps18
  go_wp2_with fail
  refine hR.mono ?_
  rintro e w' ⟨rfl, rfl⟩
  clear hR
  go_wp2_with fail
  go_loopw [3, 11] (fun sv iv wr => sv = .int .i64 0 ∧ iv = .int .i64 0 ∧ wr = w) (fun _ _ _ => 0)
  case atStart => exact ⟨rfl, rfl, rfl⟩
  case round =>
    obtain ⟨rfl, rfl, rfl⟩ := hrel
    go_wp2
    refine bodyPost_ret (v := .int .i64 0) (by simp [results, Tryd.results18, go_sem]) rfl ⟨rfl, rfl⟩
set_option maxRecDepth 100000 in
theorem add_nil (x y z : Value) (w : World) : Calls Tryd.prog 14 #[.pointer none, .agg #[x, y, z]] w fun e w' => e = .returned (.int .i64 2) ∧ Below w.heap.size w w' := by
  go_enter Tryd.func14, Tryd.ntmps14
  go_wp2
  refine bodyPost_ret (v := .int .i64 2) (by simp [results, Tryd.results14, go_sem]) rfl ⟨rfl, (Below.refl _ w).alloc (Nat.le_refl _) _⟩
set_option maxRecDepth 100000 in
theorem of_bad (n : Int) (v : Value) (w : World) (h : n < 1 ∨ 8 < n) : Calls Tryd.prog 27 #[.int .i64 n, v] w fun e w' => e = .returned (.tuple #[.pointer none, .int .i64 1]) ∧ w = w' := by
  have hN := tallyNew_bad n w h
  clear h
  go_enter Tryd.func27, Tryd.ntmps27
  go_wp2_with fail
  refine hN.mono ?_
  rintro e w' ⟨rfl, rfl⟩
  clear hN
  go_wp2
  refine bodyPost_ret (v := .tuple #[.pointer none, .int .i64 1]) (by simp [results, Tryd.results27, go_sem]) rfl ⟨rfl, rfl⟩
end Go.Proofs.YthhcigmdocldnaaDoor

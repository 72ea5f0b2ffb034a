/- The words of types and of what a result was: the program's and the document's. -/
import Derived.Test.YthhcigmdocldnaaDoorRefA
import Derived.Test.YthhcigmdocldnaaDoorTallyC
namespace Go.Proofs.YthhcigmdocldnaaDoor
open Go Go.RowKit Go.Shelf Go.Sort

def typeW (n : Nat) : ByteArray := if n = 1 then ⟨#[116, 108, 115, 97]⟩ else if n = 2 then ⟨#[115, 116, 115]⟩ else if n = 3 then ⟨#[110, 111, 45, 112, 111, 108, 105, 99, 121, 45, 102, 111, 117, 110, 100]⟩ else ⟨#[]⟩
def whatW (n : Nat) : ByteArray := if n = 1 then ⟨#[115, 116, 97, 114, 116, 116, 108, 115, 45, 110, 111, 116, 45, 115, 117, 112, 112, 111, 114, 116, 101, 100]⟩ else if n = 2 then ⟨#[118, 97, 108, 105, 100, 97, 116, 105, 111, 110, 45, 102, 97, 105, 108, 117, 114, 101]⟩ else if n = 3 then ⟨#[99, 101, 114, 116, 105, 102, 105, 99, 97, 116, 101, 45, 101, 120, 112, 105, 114, 101, 100]⟩ else if n = 4 then ⟨#[99, 101, 114, 116, 105, 102, 105, 99, 97, 116, 101, 45, 104, 111, 115, 116, 45, 109, 105, 115, 109, 97, 116, 99, 104]⟩ else if n = 5 then ⟨#[99, 101, 114, 116, 105, 102, 105, 99, 97, 116, 101, 45, 110, 111, 116, 45, 116, 114, 117, 115, 116, 101, 100]⟩ else if n = 6 then ⟨#[100, 110, 115, 115, 101, 99, 45, 105, 110, 118, 97, 108, 105, 100]⟩ else if n = 7 then ⟨#[116, 108, 115, 97, 45, 105, 110, 118, 97, 108, 105, 100]⟩ else if n = 8 then ⟨#[115, 116, 115, 45, 112, 111, 108, 105, 99, 121, 45, 102, 101, 116, 99, 104, 45, 101, 114, 114, 111, 114]⟩ else if n = 9 then ⟨#[115, 116, 115, 45, 112, 111, 108, 105, 99, 121, 45, 105, 110, 118, 97, 108, 105, 100]⟩ else if n = 10 then ⟨#[115, 116, 115, 45, 119, 101, 98, 112, 107, 105, 45, 105, 110, 118, 97, 108, 105, 100]⟩ else ⟨#[]⟩

set_option maxRecDepth 100000 in
set_option maxHeartbeats 1000000 in
theorem type_any (n : Nat) (hn : n < 256) (w : World) :
    Calls Tryd.prog 30 #[.int .u8 (n : Int)] w fun e w' => e = .returned (.string (typeW n)) ∧ Below w.heap.size w w' := by
  by_cases hk : n < 4
  · have hc : n = 0 ∨ n = 1 ∨ n = 2 ∨ n = 3 := by omega
    rcases hc with rfl | rfl | rfl | rfl
    · go_enter Tryd.func30, Tryd.ntmps30
      go_wp2
      refine bodyPost_ret (v := .string (typeW 0)) (by simp [results, Tryd.results30, go_sem, typeW]) rfl ⟨rfl, ?_⟩
      exact (Below.refl _ w).alloc (Nat.le_refl _) _
    · go_enter Tryd.func30, Tryd.ntmps30
      go_wp2
      refine bodyPost_ret (v := .string (typeW 1)) (by simp [results, Tryd.results30, go_sem, typeW]) rfl ⟨rfl, ?_⟩
      exact (Below.refl _ w).alloc (Nat.le_refl _) _
    · go_enter Tryd.func30, Tryd.ntmps30
      go_wp2
      refine bodyPost_ret (v := .string (typeW 2)) (by simp [results, Tryd.results30, go_sem, typeW]) rfl ⟨rfl, ?_⟩
      exact (Below.refl _ w).alloc (Nat.le_refl _) _
    · go_enter Tryd.func30, Tryd.ntmps30
      go_wp2
      refine bodyPost_ret (v := .string (typeW 3)) (by simp [results, Tryd.results30, go_sem, typeW]) rfl ⟨rfl, ?_⟩
      exact (Below.refl _ w).alloc (Nat.le_refl _) _
  · have m : ¬ n = 1 ∧ ¬ n = 2 ∧ ¬ n = 3 := by omega
    go_enter Tryd.func30, Tryd.ntmps30
    have hki : (4 : Int) ≤ (n : Int) := by omega
    have hni : ¬ (n : Int) < (4 : Int) := by omega
    go_wp2
    refine bodyPost_ret (v := .string (typeW n)) (by simp [results, Tryd.results30, go_sem, typeW, m]) rfl ⟨rfl, ?_⟩
    exact (Below.refl _ w).alloc (Nat.le_refl _) _

set_option maxRecDepth 100000 in
set_option maxHeartbeats 1000000 in
theorem what_any (n : Nat) (hn : n < 256) (w : World) :
    Calls Tryd.prog 29 #[.int .u8 (n : Int)] w fun e w' => e = .returned (.string (whatW n)) ∧ Below w.heap.size w w' := by
  by_cases hk : n < 11
  · have hc : n = 0 ∨ n = 1 ∨ n = 2 ∨ n = 3 ∨ n = 4 ∨ n = 5 ∨ n = 6 ∨ n = 7 ∨ n = 8 ∨ n = 9 ∨ n = 10 := by omega
    rcases hc with rfl | rfl | rfl | rfl | rfl | rfl | rfl | rfl | rfl | rfl | rfl
    · go_enter Tryd.func29, Tryd.ntmps29
      go_wp2
      refine bodyPost_ret (v := .string (whatW 0)) (by simp [results, Tryd.results29, go_sem, whatW]) rfl ⟨rfl, ?_⟩
      exact (Below.refl _ w).alloc (Nat.le_refl _) _
    · go_enter Tryd.func29, Tryd.ntmps29
      go_wp2
      refine bodyPost_ret (v := .string (whatW 1)) (by simp [results, Tryd.results29, go_sem, whatW]) rfl ⟨rfl, ?_⟩
      exact (Below.refl _ w).alloc (Nat.le_refl _) _
    · go_enter Tryd.func29, Tryd.ntmps29
      go_wp2
      refine bodyPost_ret (v := .string (whatW 2)) (by simp [results, Tryd.results29, go_sem, whatW]) rfl ⟨rfl, ?_⟩
      exact (Below.refl _ w).alloc (Nat.le_refl _) _
    · go_enter Tryd.func29, Tryd.ntmps29
      go_wp2
      refine bodyPost_ret (v := .string (whatW 3)) (by simp [results, Tryd.results29, go_sem, whatW]) rfl ⟨rfl, ?_⟩
      exact (Below.refl _ w).alloc (Nat.le_refl _) _
    · go_enter Tryd.func29, Tryd.ntmps29
      go_wp2
      refine bodyPost_ret (v := .string (whatW 4)) (by simp [results, Tryd.results29, go_sem, whatW]) rfl ⟨rfl, ?_⟩
      exact (Below.refl _ w).alloc (Nat.le_refl _) _
    · go_enter Tryd.func29, Tryd.ntmps29
      go_wp2
      refine bodyPost_ret (v := .string (whatW 5)) (by simp [results, Tryd.results29, go_sem, whatW]) rfl ⟨rfl, ?_⟩
      exact (Below.refl _ w).alloc (Nat.le_refl _) _
    · go_enter Tryd.func29, Tryd.ntmps29
      go_wp2
      refine bodyPost_ret (v := .string (whatW 6)) (by simp [results, Tryd.results29, go_sem, whatW]) rfl ⟨rfl, ?_⟩
      exact (Below.refl _ w).alloc (Nat.le_refl _) _
    · go_enter Tryd.func29, Tryd.ntmps29
      go_wp2
      refine bodyPost_ret (v := .string (whatW 7)) (by simp [results, Tryd.results29, go_sem, whatW]) rfl ⟨rfl, ?_⟩
      exact (Below.refl _ w).alloc (Nat.le_refl _) _
    · go_enter Tryd.func29, Tryd.ntmps29
      go_wp2
      refine bodyPost_ret (v := .string (whatW 8)) (by simp [results, Tryd.results29, go_sem, whatW]) rfl ⟨rfl, ?_⟩
      exact (Below.refl _ w).alloc (Nat.le_refl _) _
    · go_enter Tryd.func29, Tryd.ntmps29
      go_wp2
      refine bodyPost_ret (v := .string (whatW 9)) (by simp [results, Tryd.results29, go_sem, whatW]) rfl ⟨rfl, ?_⟩
      exact (Below.refl _ w).alloc (Nat.le_refl _) _
    · go_enter Tryd.func29, Tryd.ntmps29
      go_wp2
      refine bodyPost_ret (v := .string (whatW 10)) (by simp [results, Tryd.results29, go_sem, whatW]) rfl ⟨rfl, ?_⟩
      exact (Below.refl _ w).alloc (Nat.le_refl _) _
  · have m : ¬ n = 1 ∧ ¬ n = 2 ∧ ¬ n = 3 ∧ ¬ n = 4 ∧ ¬ n = 5 ∧ ¬ n = 6 ∧ ¬ n = 7 ∧ ¬ n = 8 ∧ ¬ n = 9 ∧ ¬ n = 10 := by omega
    go_enter Tryd.func29, Tryd.ntmps29
    have hki : (11 : Int) ≤ (n : Int) := by omega
    have hni : ¬ (n : Int) < (11 : Int) := by omega
    go_wp2
    refine bodyPost_ret (v := .string (whatW n)) (by simp [results, Tryd.results29, go_sem, whatW, m]) rfl ⟨rfl, ?_⟩
    exact (Below.refl _ w).alloc (Nat.le_refl _) _

set_option maxRecDepth 100000 in
set_option maxHeartbeats 1000000 in
theorem refType_any (n : Nat) (hn : n < 256) (w : World) :
    Calls Tryd.prog 33 #[.int .u8 (n : Int)] w fun e w' => e = .returned (.string (typeW n)) ∧ Below w.heap.size w w' := by
  by_cases hk : n < 4
  · have hc : n = 0 ∨ n = 1 ∨ n = 2 ∨ n = 3 := by omega
    rcases hc with rfl | rfl | rfl | rfl
    · go_enter Tryd.func33, Tryd.ntmps33
      go_wp2
      refine bodyPost_ret (v := .string (typeW 0)) (by simp [results, Tryd.results33, go_sem, typeW]) rfl ⟨rfl, ?_⟩
      exact (Below.refl _ w).alloc (Nat.le_refl _) _
    · go_enter Tryd.func33, Tryd.ntmps33
      go_wp2
      refine bodyPost_ret (v := .string (typeW 1)) (by simp [results, Tryd.results33, go_sem, typeW]) rfl ⟨rfl, ?_⟩
      exact (Below.refl _ w).alloc (Nat.le_refl _) _
    · go_enter Tryd.func33, Tryd.ntmps33
      go_wp2
      refine bodyPost_ret (v := .string (typeW 2)) (by simp [results, Tryd.results33, go_sem, typeW]) rfl ⟨rfl, ?_⟩
      exact (Below.refl _ w).alloc (Nat.le_refl _) _
    · go_enter Tryd.func33, Tryd.ntmps33
      go_wp2
      refine bodyPost_ret (v := .string (typeW 3)) (by simp [results, Tryd.results33, go_sem, typeW]) rfl ⟨rfl, ?_⟩
      exact (Below.refl _ w).alloc (Nat.le_refl _) _
  · have m : ¬ n = 1 ∧ ¬ n = 2 ∧ ¬ n = 3 := by omega
    go_enter Tryd.func33, Tryd.ntmps33
    have hki : (4 : Int) ≤ (n : Int) := by omega
    have hni : ¬ (n : Int) < (4 : Int) := by omega
    go_wp2
    refine bodyPost_ret (v := .string (typeW n)) (by simp [results, Tryd.results33, go_sem, typeW, m]) rfl ⟨rfl, ?_⟩
    exact (Below.refl _ w).alloc (Nat.le_refl _) _

set_option maxRecDepth 100000 in
set_option maxHeartbeats 1000000 in
theorem refWhat_any (n : Nat) (hn : n < 256) (w : World) :
    Calls Tryd.prog 34 #[.int .u8 (n : Int)] w fun e w' => e = .returned (.string (whatW n)) ∧ Below w.heap.size w w' := by
  by_cases hk : n < 11
  · have hc : n = 0 ∨ n = 1 ∨ n = 2 ∨ n = 3 ∨ n = 4 ∨ n = 5 ∨ n = 6 ∨ n = 7 ∨ n = 8 ∨ n = 9 ∨ n = 10 := by omega
    rcases hc with rfl | rfl | rfl | rfl | rfl | rfl | rfl | rfl | rfl | rfl | rfl
    · go_enter Tryd.func34, Tryd.ntmps34
      go_wp2
      refine bodyPost_ret (v := .string (whatW 0)) (by simp [results, Tryd.results34, go_sem, whatW]) rfl ⟨rfl, ?_⟩
      exact (Below.refl _ w).alloc (Nat.le_refl _) _
    · go_enter Tryd.func34, Tryd.ntmps34
      go_wp2
      refine bodyPost_ret (v := .string (whatW 1)) (by simp [results, Tryd.results34, go_sem, whatW]) rfl ⟨rfl, ?_⟩
      exact (Below.refl _ w).alloc (Nat.le_refl _) _
    · go_enter Tryd.func34, Tryd.ntmps34
      go_wp2
      refine bodyPost_ret (v := .string (whatW 2)) (by simp [results, Tryd.results34, go_sem, whatW]) rfl ⟨rfl, ?_⟩
      exact (Below.refl _ w).alloc (Nat.le_refl _) _
    · go_enter Tryd.func34, Tryd.ntmps34
      go_wp2
      refine bodyPost_ret (v := .string (whatW 3)) (by simp [results, Tryd.results34, go_sem, whatW]) rfl ⟨rfl, ?_⟩
      exact (Below.refl _ w).alloc (Nat.le_refl _) _
    · go_enter Tryd.func34, Tryd.ntmps34
      go_wp2
      refine bodyPost_ret (v := .string (whatW 4)) (by simp [results, Tryd.results34, go_sem, whatW]) rfl ⟨rfl, ?_⟩
      exact (Below.refl _ w).alloc (Nat.le_refl _) _
    · go_enter Tryd.func34, Tryd.ntmps34
      go_wp2
      refine bodyPost_ret (v := .string (whatW 5)) (by simp [results, Tryd.results34, go_sem, whatW]) rfl ⟨rfl, ?_⟩
      exact (Below.refl _ w).alloc (Nat.le_refl _) _
    · go_enter Tryd.func34, Tryd.ntmps34
      go_wp2
      refine bodyPost_ret (v := .string (whatW 6)) (by simp [results, Tryd.results34, go_sem, whatW]) rfl ⟨rfl, ?_⟩
      exact (Below.refl _ w).alloc (Nat.le_refl _) _
    · go_enter Tryd.func34, Tryd.ntmps34
      go_wp2
      refine bodyPost_ret (v := .string (whatW 7)) (by simp [results, Tryd.results34, go_sem, whatW]) rfl ⟨rfl, ?_⟩
      exact (Below.refl _ w).alloc (Nat.le_refl _) _
    · go_enter Tryd.func34, Tryd.ntmps34
      go_wp2
      refine bodyPost_ret (v := .string (whatW 8)) (by simp [results, Tryd.results34, go_sem, whatW]) rfl ⟨rfl, ?_⟩
      exact (Below.refl _ w).alloc (Nat.le_refl _) _
    · go_enter Tryd.func34, Tryd.ntmps34
      go_wp2
      refine bodyPost_ret (v := .string (whatW 9)) (by simp [results, Tryd.results34, go_sem, whatW]) rfl ⟨rfl, ?_⟩
      exact (Below.refl _ w).alloc (Nat.le_refl _) _
    · go_enter Tryd.func34, Tryd.ntmps34
      go_wp2
      refine bodyPost_ret (v := .string (whatW 10)) (by simp [results, Tryd.results34, go_sem, whatW]) rfl ⟨rfl, ?_⟩
      exact (Below.refl _ w).alloc (Nat.le_refl _) _
  · have m : ¬ n = 1 ∧ ¬ n = 2 ∧ ¬ n = 3 ∧ ¬ n = 4 ∧ ¬ n = 5 ∧ ¬ n = 6 ∧ ¬ n = 7 ∧ ¬ n = 8 ∧ ¬ n = 9 ∧ ¬ n = 10 := by omega
    go_enter Tryd.func34, Tryd.ntmps34
    have hki : (11 : Int) ≤ (n : Int) := by omega
    have hni : ¬ (n : Int) < (11 : Int) := by omega
    go_wp2
    refine bodyPost_ret (v := .string (whatW n)) (by simp [results, Tryd.results34, go_sem, whatW, m]) rfl ⟨rfl, ?_⟩
    exact (Below.refl _ w).alloc (Nat.le_refl _) _
end Go.Proofs.YthhcigmdocldnaaDoor

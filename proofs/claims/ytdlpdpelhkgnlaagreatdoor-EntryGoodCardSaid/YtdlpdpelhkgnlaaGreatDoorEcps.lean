/- The laws' own helper: copies (of one letter). -/
import Derived.Test.YtdlpdpelhkgnlaaGreatDoorEwr
namespace Go.Proofs.YtdlpdpelhkgnlaaGreatDoor
open Go Go.RowKit Go.Shelf Go.Sort
attribute [local go_sem] bneI

set_option maxRecDepth 100000 in
set_option maxHeartbeats 4000000 in
theorem copies_any (c : UInt8) (n : Nat) (hn : n ≤ 1000000) (w : World) :
    Calls Tryz.prog 20 #[.string ⟨#[c]⟩, .int .i64 (n : Int)] w fun e w' => e = .returned (.string ⟨(List.replicate n c).toArray⟩) ∧ Below w.heap.size w w' := by
  go_enter Tryz.func20, Tryz.ntmps20
  go_wp2_with fail
  go_loopw [5, 6] (fun s5 s6 wr => ∃ (i : Nat) (r : Bytes), s5 = .string ⟨r.toArray⟩ ∧ s6 = .int .i64 (i : Int) ∧ i ≤ n ∧ r = List.replicate i c ∧ Below w.heap.size w wr) (fun _ s6 _ => n - natI s6)
  case atStart => exact ⟨0, [], rfl, rfl, Nat.zero_le _, rfl, Below.refl _ _⟩
  case round =>
    obtain ⟨i, r, rfl, rfl, hi, hr, hB⟩ := hrel
    have hrl : r.length = i := by rw [hr]; simp
    have HR := Lib.hid (And.intro hr hB)
    clear hr hB
    by_cases hlast : i < n
    · have hli : (i : Int) < (n : Int) := by omega
      have hcat := cat_bytes r [c]
      have hil2 : ¬ 9223372036854775807 < r.length + 1 := by omega
      have hw1 : wrap64 ((i : Int) + 1) = (i : Int) + 1 := by unfold wrap64; omega
      clear hrl
      go_wp2
      go_roundw
      case rel => exact ⟨i + 1, r ++ [c], by simp, by simp, by omega, by rw [HR.out.1, List.replicate_succ'], HR.out.2⟩
      case measure => simp [natI]; omega
    · have hli : ¬ (i : Int) < (n : Int) := by omega
      have hie : i = n := by omega
      subst hie
      clear hrl
      go_wp2
      refine bodyPost_ret (v := .string ⟨r.toArray⟩) (by simp [results, Tryz.results20, go_sem]) rfl ⟨by rw [HR.out.1]; simp, HR.out.2⟩
end Go.Proofs.YtdlpdpelhkgnlaaGreatDoor

/- The document's id. -/
import Derived.Test.YtojhledbfaninaaGreatCid
namespace Go.Proofs.YtojhledbfaninaaGreat
open Go Go.RowKit Go.Shelf

set_option maxRecDepth 100000 in
set_option maxHeartbeats 1000000 in
theorem refId_any (s : ByteArray) (w : World) (hs : s.size ≤ maxLen) :
    Calls Tryz.prog 47 #[.string s] w fun e w' => e = .returned (.bool (idB s.data.toList)) ∧ Below w.heap.size w w' := by
  unfold maxLen at hs
  go_enter Tryz.func47, Tryz.ntmps47
  go_wp2_with fail
  go_loopw [3] (fun iv wr => ∃ i : Nat, iv = .int .i64 (i : Int) ∧ i ≤ s.size ∧ (s.data.toList.take i).all alnum = true ∧ wr = w) (fun iv _ => s.size - natI iv)
  case atStart => exact ⟨0, rfl, Nat.zero_le _, rfl, rfl⟩
  case round =>
    obtain ⟨i, rfl, hi, hd, rfl⟩ := hrel
    by_cases hlast : i < s.size
    · have hli : (i : Int) < (s.size : Int) := by omega
      have hk : i < s.data.toList.length := by simpa using hlast
      have hst : (s.data.toList.take (i + 1)).all alnum = alnum s[i] := by rw [snoc_all _ _ _ hk, bs_get s i hlast, hd, Bool.true_and]
      have hno : alnum s[i] = false → idB s.data.toList = false := fun h => by
        have : s.data.toList.all alnum = false := by
          rw [List.all_eq_false]
          exact ⟨s[i], List.mem_of_getElem (h := hk) (bs_get s i hlast), by simp [h]⟩
        simp [idB, this]
      rw [alnum_int] at hst hno
      have HD := Lib.hid (And.intro hst hno)
      clear hd hst hno
      have hlt := s[i].toNat_lt
      by_cases h1 : (97 : Int) ≤ (s[i].toNat : Int)
      · by_cases h2 : (s[i].toNat : Int) ≤ 122
        · skip
          have hN : (List.take (i + 1) s.data.toList).all alnum = true := by rw [HD.out.1]; simp; omega
          have HN := Lib.hid hN
          clear hN
          go_wp2
          go_roundw
          case rel => exact ⟨i + 1, by simp, by omega, HN.out, by first | rfl | trivial⟩
          case measure => simp [natI]; omega
        · have h3 : (65 : Int) ≤ (s[i].toNat : Int) := by omega
          have h4 : ¬ (s[i].toNat : Int) ≤ 90 := by omega
          have h5 : (48 : Int) ≤ (s[i].toNat : Int) := by omega
          have h6 : ¬ (s[i].toNat : Int) ≤ 57 := by omega
          have HN := Lib.hid (HD.out.2 (by simp; omega))
          go_wp2
          refine bodyPost_ret (v := .bool false) (by simp [results, Tryz.results47, go_sem]) rfl ⟨by rw [HN.out], Below.refl _ _⟩
      · by_cases h3 : (65 : Int) ≤ (s[i].toNat : Int)
        · by_cases h4 : (s[i].toNat : Int) ≤ 90
          · skip
            have hN : (List.take (i + 1) s.data.toList).all alnum = true := by rw [HD.out.1]; simp; omega
            have HN := Lib.hid hN
            clear hN
            go_wp2
            go_roundw
            case rel => exact ⟨i + 1, by simp, by omega, HN.out, by first | rfl | trivial⟩
            case measure => simp [natI]; omega
          · have h5 : (48 : Int) ≤ (s[i].toNat : Int) := by omega
            have h6 : ¬ (s[i].toNat : Int) ≤ 57 := by omega
            have HN := Lib.hid (HD.out.2 (by simp; omega))
            go_wp2
            refine bodyPost_ret (v := .bool false) (by simp [results, Tryz.results47, go_sem]) rfl ⟨by rw [HN.out], Below.refl _ _⟩
        · by_cases h5 : (48 : Int) ≤ (s[i].toNat : Int)
          · by_cases h6 : (s[i].toNat : Int) ≤ 57
            · skip
              have hN : (List.take (i + 1) s.data.toList).all alnum = true := by rw [HD.out.1]; simp; omega
              have HN := Lib.hid hN
              clear hN
              go_wp2
              go_roundw
              case rel => exact ⟨i + 1, by simp, by omega, HN.out, by first | rfl | trivial⟩
              case measure => simp [natI]; omega
            · skip
              have HN := Lib.hid (HD.out.2 (by simp; omega))
              go_wp2
              refine bodyPost_ret (v := .bool false) (by simp [results, Tryz.results47, go_sem]) rfl ⟨by rw [HN.out], Below.refl _ _⟩
          · skip
            have HN := Lib.hid (HD.out.2 (by simp; omega))
            go_wp2
            refine bodyPost_ret (v := .bool false) (by simp [results, Tryz.results47, go_sem]) rfl ⟨by rw [HN.out], Below.refl _ _⟩
    · have hli : ¬ (i : Int) < (s.size : Int) := by omega
      obtain rfl : i = s.size := by omega
      have e : s.data.toList.take s.size = s.data.toList := List.take_of_length_le (by simp)
      rw [e] at hd
      have hid : idB s.data.toList = (decide (1 ≤ s.size) && decide (s.size ≤ 32)) := by unfold idB; rw [hd]; simp
      have HN := Lib.hid hid
      clear hid hd e
      by_cases h1 : 1 ≤ s.size
      · have h1i : (1 : Int) ≤ (s.size : Int) := by omega
        by_cases h32 : s.size ≤ 32
        · have h32i : (s.size : Int) ≤ 32 := by omega
          go_wp2
          refine bodyPost_ret (v := .bool true) (by simp [results, Tryz.results47, go_sem]) rfl ⟨by rw [HN.out, decide_eq_true h32, decide_eq_true h1]; rfl, Below.refl _ _⟩
        · have h32i : ¬ (s.size : Int) ≤ 32 := by omega
          go_wp2
          refine bodyPost_ret (v := .bool false) (by simp [results, Tryz.results47, go_sem]) rfl ⟨by rw [HN.out, decide_eq_false h32]; simp, Below.refl _ _⟩
      · have h1i : ¬ (1 : Int) ≤ (s.size : Int) := by omega
        go_wp2
        refine bodyPost_ret (v := .bool false) (by simp [results, Tryz.results47, go_sem]) rfl ⟨by rw [HN.out, decide_eq_false h1]; simp, Below.refl _ _⟩
end Go.Proofs.YtojhledbfaninaaGreat

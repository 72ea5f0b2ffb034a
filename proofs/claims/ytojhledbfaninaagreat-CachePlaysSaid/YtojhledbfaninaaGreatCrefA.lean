/- The document's own functions on names: digit, letter, digits, label. -/
import Derived.Test.YtojhledbfaninaaGreatNameA
import Derived.Test.YtojhledbfaninaaGreatCmay
namespace Go.Proofs.YtojhledbfaninaaGreat
open Go Go.RowKit Go.Shelf
attribute [local go_sem] bneI
theorem beqB_ne {a b : ByteArray} (h : ¬ a = b) : (a == b) = false := by
  obtain ⟨a⟩ := a
  obtain ⟨b⟩ := b
  show (a == b) = false
  exact beq_eq_false_iff_ne.2 fun e => h (by rw [e])

set_option maxRecDepth 100000 in
theorem refDigit_any (x : UInt8) (w : World) : Calls Tryz.prog 73 #[.int .u8 (x.toNat : Int)] w fun e w' => e = .returned (.bool (isDig x)) ∧ w = w' := by
  have hx := x.toNat_lt
  generalize hn : x.toNat = n at *
  have hd : isDig x = (decide (48 ≤ n) && decide (n ≤ 57)) := by rw [← hn]; rfl
  rw [hd]
  clear hd hn
  go_enter Tryz.func73, Tryz.ntmps73
  by_cases h1 : 48 ≤ n
  · have h1i : (48 : Int) ≤ (n : Int) := by omega
    by_cases h2 : n ≤ 57
    · have h2i : (n : Int) ≤ 57 := by omega
      go_wp2
      refine bodyPost_ret (v := .bool true) (by simp [results, Tryz.results73, go_sem]) rfl ⟨by simp [h1, h2], rfl⟩
    · have h2i : ¬ (n : Int) ≤ 57 := by omega
      go_wp2
      refine bodyPost_ret (v := .bool false) (by simp [results, Tryz.results73, go_sem]) rfl ⟨by simp, rfl⟩
  · have h1i : ¬ (48 : Int) ≤ (n : Int) := by omega
    go_wp2
    refine bodyPost_ret (v := .bool false) (by simp [results, Tryz.results73, go_sem]) rfl ⟨by simp, rfl⟩

set_option maxRecDepth 100000 in
theorem refLetter_any (x : UInt8) (w : World) : Calls Tryz.prog 74 #[.int .u8 (x.toNat : Int)] w fun e w' => e = .returned (.bool (isLow x)) ∧ w = w' := by
  have hx := x.toNat_lt
  generalize hn : x.toNat = n at *
  have hd : isLow x = (decide (97 ≤ n) && decide (n ≤ 122)) := by rw [← hn]; rfl
  rw [hd]
  clear hd hn
  go_enter Tryz.func74, Tryz.ntmps74
  by_cases h1 : 97 ≤ n
  · have h1i : (97 : Int) ≤ (n : Int) := by omega
    by_cases h2 : n ≤ 122
    · have h2i : (n : Int) ≤ 122 := by omega
      go_wp2
      refine bodyPost_ret (v := .bool true) (by simp [results, Tryz.results74, go_sem]) rfl ⟨by simp [h1, h2], rfl⟩
    · have h2i : ¬ (n : Int) ≤ 122 := by omega
      go_wp2
      refine bodyPost_ret (v := .bool false) (by simp [results, Tryz.results74, go_sem]) rfl ⟨by simp, rfl⟩
  · have h1i : ¬ (97 : Int) ≤ (n : Int) := by omega
    go_wp2
    refine bodyPost_ret (v := .bool false) (by simp [results, Tryz.results74, go_sem]) rfl ⟨by simp, rfl⟩


set_option maxRecDepth 100000 in
theorem refDigits_any (s : ByteArray) (w : World) (hs : s.size ≤ maxLen) : Calls Tryz.prog 63 #[.string s] w fun e w' => e = .returned (.bool (digB s.data.toList)) ∧ w = w' := by
  unfold maxLen at hs
  go_enter Tryz.func63, Tryz.ntmps63
  go_wp2_with fail
  go_loopw [3] (fun iv wr => ∃ i : Nat, iv = .int .i64 (i : Int) ∧ i ≤ s.size ∧ digB (s.data.toList.take i) = true ∧ wr = w) (fun iv _ => s.size - natI iv)
  case atStart => exact ⟨0, rfl, Nat.zero_le _, rfl, rfl⟩
  case round =>
    obtain ⟨i, rfl, hi, hd, rfl⟩ := hrel
    by_cases hlast : i < s.size
    · have hli : (i : Int) < (s.size : Int) := by omega
      have hk : i < s.data.toList.length := by simpa using hlast
      have hst : digB (s.data.toList.take (i + 1)) = (digB (s.data.toList.take i) && isDig s[i]) := by
        unfold digB
        rw [snoc_all _ _ _ hk, bs_get s i hlast]
      rw [hd, Bool.true_and] at hst
      have hmem : s[i] ∈ s.data.toList := List.mem_of_getElem (h := hk) (bs_get s i hlast)
      have hno : isDig s[i] = false → digB s.data.toList = false := by
        intro h
        unfold digB
        rw [List.all_eq_false]
        exact ⟨s[i], hmem, by simp [h]⟩
      have hD := refDigit_any s[i] wr
      have HD := Lib.hid (And.intro hst hno)
      clear hd hst hno hmem
      go_wp2_with fail
      refine hD.mono ?_
      rintro e w' ⟨rfl, rfl⟩
      cases hx : isDig s[i]
      · have HN := Lib.hid (HD.out.2 hx)
        go_wp2
        refine bodyPost_ret (v := .bool false) (by simp [results, Tryz.results63, go_sem]) rfl ⟨by rw [HN.out], rfl⟩
      · have HN := Lib.hid (HD.out.1.trans hx)
        go_wp2
        go_roundw
        case rel => exact ⟨i + 1, by simp, by omega, HN.out, by first | rfl | trivial⟩
        case measure => simp [natI]; omega
    · have hli : ¬ (i : Int) < (s.size : Int) := by omega
      obtain rfl : i = s.size := by omega
      rw [List.take_of_length_le (by simp)] at hd
      have HD := Lib.hid hd
      clear hd
      go_wp2
      refine bodyPost_ret (v := .bool true) (by simp [results, Tryz.results63, go_sem]) rfl ⟨by rw [HD.out], rfl⟩

set_option maxRecDepth 100000 in
set_option maxHeartbeats 1000000 in
theorem refLabel_any (s : ByteArray) (w : World) (hs : s.size ≤ maxLen) : Calls Tryz.prog 64 #[.string s] w fun e w' => e = .returned (.bool (labB s.data.toList)) ∧ w = w' := by
  unfold maxLen at hs
  go_enter Tryz.func64, Tryz.ntmps64
  by_cases h1 : 1 ≤ s.size
  · by_cases h2 : s.size ≤ 63
    · have h0i : ((s.size : Int) == 0) = false := beq_eq_false_iff_ne.2 (by omega)
      have h63 : ¬ (63 : Int) < (s.size : Int) := by omega
      have hpos : (0 : Int) < (s.size : Int) := by omega
      have hlt : (s.size : Int) - 1 < (s.size : Int) := by omega
      by_cases h3 : (s[0].toNat : Int) = 45
      · have HN := Lib.hid (lab_no3 (by omega) h3)
        go_wp2
        refine bodyPost_ret (v := .bool false) (by simp [results, Tryz.results64, go_sem]) rfl ⟨by rw [HN.out], rfl⟩
      · have h3b : ((s[0].toNat : Int) == 45) = false := beq_eq_false_iff_ne.2 h3
        by_cases h4 : (s[s.size - 1].toNat : Int) = 45
        · have HN := Lib.hid (lab_no4 (by omega) h4)
          go_wp2
          refine bodyPost_ret (v := .bool false) (by simp [results, Tryz.results64, go_sem]) rfl ⟨by rw [HN.out], rfl⟩
        · have h4b : ((s[s.size - 1].toNat : Int) == 45) = false := beq_eq_false_iff_ne.2 h4
          go_wp2_with fail
          have H34 := Lib.hid (And.intro h3 h4)
          clear h3b h4b h3 h4 h0i h63
          go_loopw [3] (fun iv wr => ∃ i : Nat, iv = .int .i64 (i : Int) ∧ i ≤ s.size ∧ chB (s.data.toList.take i) = true ∧ wr = w) (fun iv _ => s.size - natI iv)
          case atStart => exact ⟨0, rfl, Nat.zero_le _, rfl, rfl⟩
          case round =>
            obtain ⟨i, rfl, hi, hd, rfl⟩ := hrel
            by_cases hlast : i < s.size
            · have hli : (i : Int) < (s.size : Int) := by omega
              have hk : i < s.data.toList.length := by simpa using hlast
              have hst : chB (s.data.toList.take (i + 1)) = (chB (s.data.toList.take i) && okCh s[i]) := by
                unfold chB
                rw [snoc_all _ _ _ hk, bs_get s i hlast]
              rw [hd, Bool.true_and] at hst
              have hno : okCh s[i] = false → labB s.data.toList = false := fun h => lab_no5 hlast h
              have hD := refDigit_any s[i] wr
              have hL := refLetter_any s[i] wr
              have HD := Lib.hid (And.intro hst hno)
              have hok : okCh s[i] = (isDig s[i] || isLow s[i] || s[i].toNat == 45) := rfl
              clear hd hst hno
              go_wp2_with fail
              refine hD.mono ?_
              rintro e w' ⟨rfl, rfl⟩
              cases hx : isDig s[i]
              · rw [hx] at hok
                go_wp2_with fail
                refine hL.mono ?_
                rintro e w' ⟨rfl, rfl⟩
                cases hy : isLow s[i]
                · rw [hy] at hok
                  by_cases h5 : (s[i].toNat : Int) = 45
                  · have h5n : s[i].toNat = 45 := by omega
                    rw [h5n] at hok
                    have HN := Lib.hid (HD.out.1.trans hok)
                    clear hok h5n
                    go_wp2
                    go_roundw
                    case rel => exact ⟨i + 1, by simp, by omega, HN.out, by first | rfl | trivial⟩
                    case measure => simp [natI]; omega
                  · have h5n : ¬ s[i].toNat = 45 := by omega
                    have h5b : decide ((s[i].toNat : Int) = 45) = false := decide_eq_false h5
                    have HN := Lib.hid (HD.out.2 (by rw [hok]; simpa using h5n))
                    clear hok h5 h5n
                    go_wp2
                    refine bodyPost_ret (v := .bool false) (by simp [results, Tryz.results64, go_sem]) rfl ⟨by rw [HN.out], rfl⟩
                · rw [hy] at hok
                  have HN := Lib.hid (HD.out.1.trans hok)
                  clear hok
                  go_wp2
                  go_roundw
                  case rel => exact ⟨i + 1, by simp, by omega, by rw [HN.out]; rfl, by first | rfl | trivial⟩
                  case measure => simp [natI]; omega
              · rw [hx] at hok
                have HN := Lib.hid (HD.out.1.trans hok)
                clear hok
                go_wp2
                go_roundw
                case rel => exact ⟨i + 1, by simp, by omega, by rw [HN.out]; rfl, by first | rfl | trivial⟩
                case measure => simp [natI]; omega
            · have hli : ¬ (i : Int) < (s.size : Int) := by omega
              obtain rfl : i = s.size := by omega
              have HN := Lib.hid (lab_yes h1 (Nat.le_refl _) h2 (Nat.lt_irrefl _) hd H34.out.1 H34.out.2).1
              clear hd
              go_wp2
              refine bodyPost_ret (v := .bool true) (by simp [results, Tryz.results64, go_sem]) rfl ⟨by rw [HN.out], rfl⟩
    · have HN := Lib.hid (lab_no2 (s := s) (by omega))
      have h0i : ((s.size : Int) == 0) = false := beq_eq_false_iff_ne.2 (by omega)
      have h63 : (63 : Int) < (s.size : Int) := by omega
      go_wp2
      refine bodyPost_ret (v := .bool false) (by simp [results, Tryz.results64, go_sem]) rfl ⟨by rw [HN.out], rfl⟩
  · have HN := Lib.hid (lab_no1 (s := s) h1)
    have h0i : (s.size : Int) = 0 := by omega
    go_wp2
    refine bodyPost_ret (v := .bool false) (by simp [results, Tryz.results64, go_sem]) rfl ⟨by rw [HN.out], rfl⟩
end Go.Proofs.YtojhledbfaninaaGreat

/- The document's own function Compare on names. -/
import Derived.Test.YthhcigmdocldnaaDoorRefA
import Derived.Test.YthhcigmdocldnaaDoorCmp
import Derived.WalkSmall
namespace Go.Proofs.YthhcigmdocldnaaDoor
open Go Go.RowKit Go.Shelf

theorem cmp_lt {x y : UInt8} (h : (x.toNat : Int) < (y.toNat : Int)) (us vs : Bytes) : cmpB (x :: us) (y :: vs) = -1 := by
  have h1 : x < y := UInt8.lt_iff_toNat_lt.2 (by omega)
  simp [cmpB, Lib.compareBytes, h1]
theorem cmp_gt {x y : UInt8} (h : (y.toNat : Int) < (x.toNat : Int)) (us vs : Bytes) : cmpB (x :: us) (y :: vs) = 1 := by
  have h1 : y < x := UInt8.lt_iff_toNat_lt.2 (by omega)
  have h2 : ¬ x < y := fun e => by have := UInt8.lt_iff_toNat_lt.1 e; omega
  simp [cmpB, Lib.compareBytes, h1, h2]
theorem cmp_same {x y : UInt8} (h : (x.toNat : Int) = (y.toNat : Int)) (us vs : Bytes) : cmpB (x :: us) (y :: vs) = cmpB us vs := by
  have h1 : ¬ y < x := fun e => by have := UInt8.lt_iff_toNat_lt.1 e; omega
  have h2 : ¬ x < y := fun e => by have := UInt8.lt_iff_toNat_lt.1 e; omega
  simp [cmpB, Lib.compareBytes, h1, h2]

def CmpPost (a b : ByteArray) (w : World) (e : Ending) (w' : World) : Prop := e = .returned (.int .i64 (cmpB a.data.toList b.data.toList)) ∧ ∃ m, w' = w.drewN m

set_option maxRecDepth 100000 in
set_option maxHeartbeats 1000000 in
theorem refCompare_any (a b : ByteArray) (w : World) (ha : a.size ≤ maxLen) (_hb : b.size ≤ maxLen) : Calls Tryd.prog 55 #[.string a, .string b] w (CmpPost a b w) := by
  unfold maxLen at ha
  go_enter Tryd.func55, Tryd.ntmps55
  go_wp2_with fail
  go_loopw [5] (fun iv wr => ∃ i m : Nat, iv = .int .i64 (i : Int) ∧ i ≤ a.size ∧ i ≤ b.size ∧ cmpB a.data.toList b.data.toList = cmpB (a.data.toList.drop i) (b.data.toList.drop i) ∧ wr = w.drewN m) (fun iv _ => a.size - natI iv)
  case atStart => exact ⟨0, 0, rfl, Nat.zero_le _, Nat.zero_le _, rfl, rfl⟩
  case round =>
    obtain ⟨i, m, rfl, hi, hj, hd, rfl⟩ := hrel
    by_cases h1 : i < a.size
    · have h1i : decide ((i : Int) < (a.size : Int)) = true := decide_eq_true (by omega)
      have h1x : (i : Int) < (a.size : Int) := by omega
      have ek : i < a.data.toList.length := by simpa using h1
      by_cases h2 : i < b.size
      · have h2i : decide ((i : Int) < (b.size : Int)) = true := decide_eq_true (by omega)
        have h2x : (i : Int) < (b.size : Int) := by omega
        have el : i < b.data.toList.length := by simpa using h2
        rw [List.drop_eq_getElem_cons ek, List.drop_eq_getElem_cons el, bs_get a i h1, bs_get b i h2] at hd
        by_cases h3 : (a[i].toNat : Int) = (b[i].toNat : Int)
        · have h3b : decide ((a[i].toNat : Int) = (b[i].toNat : Int)) = true := decide_eq_true h3
          rw [cmp_same h3] at hd
          have HD := Lib.hid hd
          clear hd
          go_wp2_with fail
          go_quiet (fail)
          go_wp2
          go_roundw
          case rel => exact ⟨i + 1, _, by simp, by omega, by omega, HD.out, by first | rfl | exact World.drewN_drewN _ _ _⟩
          case measure => simp [natI]; omega
        · have h3b : decide ((a[i].toNat : Int) = (b[i].toNat : Int)) = false := decide_eq_false h3
          by_cases h4 : (a[i].toNat : Int) < (b[i].toNat : Int)
          · rw [cmp_lt h4] at hd
            have h4b : decide ((a[i].toNat : Int) < (b[i].toNat : Int)) = true := decide_eq_true h4
            have HD := Lib.hid hd
            clear hd
            go_wp2_with fail
            go_quiet (fail)
            go_wp2_with fail
            go_quiet (fail)
            go_wp2
            refine bodyPost_ret (v := .int .i64 (-1)) (by simp [results, Tryd.results55, go_sem]) rfl ⟨by rw [HD.out], _, by first | rfl | exact World.drewN_drewN _ _ _ | exact (congrArg (fun x => World.drewN x _) (World.drewN_drewN _ _ _)).trans (World.drewN_drewN _ _ _)⟩
          · have h4g : (b[i].toNat : Int) < (a[i].toNat : Int) := by omega
            rw [cmp_gt h4g] at hd
            have h4b : decide ((a[i].toNat : Int) < (b[i].toNat : Int)) = false := decide_eq_false h4
            have HD := Lib.hid hd
            clear hd
            go_wp2_with fail
            go_quiet (fail)
            go_wp2_with fail
            go_quiet (fail)
            go_wp2
            refine bodyPost_ret (v := .int .i64 1) (by simp [results, Tryd.results55, go_sem]) rfl ⟨by rw [HD.out], _, by first | rfl | exact World.drewN_drewN _ _ _ | exact (congrArg (fun x => World.drewN x _) (World.drewN_drewN _ _ _)).trans (World.drewN_drewN _ _ _)⟩
      · have h2i : decide ((i : Int) < (b.size : Int)) = false := decide_eq_false (by omega)
        have hz : (b.size : Int) < (a.size : Int) := by omega
        have hr : cmpB a.data.toList b.data.toList = 1 := by
          rw [hd, List.drop_eq_getElem_cons ek, List.drop_of_length_le (show b.data.toList.length ≤ i by simp; omega)]
          rfl
        have HR := Lib.hid hr
        clear hd hr
        go_wp2
        refine bodyPost_ret (v := .int .i64 1) (by simp [results, Tryd.results55, go_sem]) rfl ⟨by rw [HR.out], _, rfl⟩
    · have h1i : decide ((i : Int) < (a.size : Int)) = false := decide_eq_false (by omega)
      obtain rfl : i = a.size := by omega
      rw [List.drop_of_length_le (show a.data.toList.length ≤ a.size by simp)] at hd
      by_cases h5 : a.size < b.size
      · have h5i : (a.size : Int) < (b.size : Int) := by omega
        have hr : cmpB a.data.toList b.data.toList = -1 := by
          rw [hd, List.drop_eq_getElem_cons (show a.size < b.data.toList.length by simpa using h5)]
          rfl
        have HR := Lib.hid hr
        clear hd hr
        go_wp2
        refine bodyPost_ret (v := .int .i64 (-1)) (by simp [results, Tryd.results55, go_sem]) rfl ⟨by rw [HR.out], _, rfl⟩
      · have h5i : ¬ (a.size : Int) < (b.size : Int) := by omega
        have h6i : ¬ (b.size : Int) < (a.size : Int) := by omega
        have hr : cmpB a.data.toList b.data.toList = 0 := by
          rw [hd, List.drop_of_length_le (show b.data.toList.length ≤ a.size by simp; omega)]
          rfl
        have HR := Lib.hid hr
        clear hd hr
        go_wp2
        refine bodyPost_ret (v := .int .i64 0) (by simp [results, Tryd.results55, go_sem]) rfl ⟨by rw [HR.out], _, rfl⟩
end Go.Proofs.YthhcigmdocldnaaDoor

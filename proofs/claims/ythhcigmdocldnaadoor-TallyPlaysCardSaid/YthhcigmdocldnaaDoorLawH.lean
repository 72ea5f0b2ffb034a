/- The law's own function long: it says besides that the texts are short. -/
import Derived.Test.YthhcigmdocldnaaDoorLawA
namespace Go.Proofs.YthhcigmdocldnaaDoor
open Go Go.RowKit

def LongPost2 (w : World) (rs : List ((List UInt8 × Nat) × Nat)) (e : Ending) (w' : World) : Prop := ∃ b m, e = .returned (.bool b) ∧ (b = false → rs.length < 134 ∧ ∀ j (hj : j < rs.length), rs[j].1.1.length < 4000) ∧ w' = w.drewN m

set_option maxRecDepth 100000 in
set_option maxHeartbeats 1000000 in
theorem long_any2 (w : World) (v : Value) (rs : List ((List UInt8 × Nat) × Nat)) (h : ResAt w v rs) :
    Calls Tryd.prog 9 #[v] w (LongPost2 w rs) := by
  have hsh : ∃ p c, v = .slice p rs.length c := by
    rcases h with ⟨rfl, rfl⟩ | ⟨a, cap, rfl, _⟩
    · exact ⟨none, 0, rfl⟩
    · exact ⟨_, _, rfl⟩
  obtain ⟨p, c, rfl⟩ := hsh
  have HH := Lib.hid h
  clear h
  go_enter Tryd.func9, Tryd.ntmps9
  go_wp2_with fail
  go_loopw [3, 4] (fun nv iv wr => ∃ i k m : Nat, iv = .int .i64 (i : Int) ∧ nv = .int .i64 (k : Int) ∧ i ≤ rs.length ∧ 30 * i ≤ k ∧ (k < 8030) ∧ (k < 4000 → ∀ j (hj : j < rs.length), j < i → rs[j].1.1.length < 4000) ∧ wr = w.drewN m)
    (fun _ iv _ => rs.length - intOf iv)
  case atStart => exact ⟨0, 0, 0, rfl, rfl, Nat.zero_le _, Nat.le_refl _, by omega, fun _ _ _ h => absurd h (Nat.not_lt_zero _), rfl⟩
  case round =>
    obtain ⟨i, k, m, rfl, rfl, hi, hk, hk2, hall, rfl⟩ := hrel
    have HALL := Lib.hid hall
    clear hall
    by_cases hlast : i < rs.length
    · have hli : decide ((i : Int) < (rs.length : Int)) = true := decide_eq_true (by omega)
      by_cases hk4 : k < 4000
      · have hki : (k : Int) < 4000 := by omega
        have h := HH.out
        rcases h with ⟨_, h0⟩ | ⟨a, cap, he, hcap, hcells⟩
        · rw [h0] at hlast; simp at hlast
        · injection he with e1 _ e3
          subst e1; subst e3
          have c0 := (hcells i hlast).1
          have HC := Lib.hid hcells
          clear hcells
          have hsz : (⟨rs[i].1.1.toArray⟩ : ByteArray).size = rs[i].1.1.length := rfl
          generalize (⟨rs[i].1.1.toArray⟩ : ByteArray) = sd at c0 hsz
          have HSZ := Lib.hid hsz
          clear hsz
          by_cases hz : sd.size < 4000
          · have hzi : (sd.size : Int) < 4000 := by omega
            go_wp2
            go_roundw
            case rel => exact ⟨i + 1, k + 30 + sd.size, m, by simp, by simp, by omega, by omega, by omega, fun _ j hj hji => by
              by_cases e : j = i
              · subst e; rw [← HSZ.out]; exact hz
              · exact HALL.out hk4 j hj (by omega), rfl⟩
            case measure => simp [intOf]; omega
          · have hzi : ¬ (sd.size : Int) < 4000 := by omega
            go_wp2
            go_roundw
            case rel => exact ⟨i + 1, k + 30 + 4000, m, by simp, by simp, by omega, by omega, by omega, fun h => by omega, rfl⟩
            case measure => simp [intOf]; omega
      · have hki : ¬ (k : Int) < 4000 := by omega
        go_wp2
        refine bodyPost_ret (v := .bool true) (by simp [results, Tryd.results9, go_sem]) rfl ⟨true, m, rfl, fun h => (by cases h), rfl⟩
    · have hli : decide ((i : Int) < (rs.length : Int)) = false := decide_eq_false (by omega)
      obtain rfl : i = rs.length := by omega
      go_wp2
      refine bodyPost_ret (v := .bool (decide (4000 ≤ (k : Int)))) (by simp [results, Tryd.results9, go_sem]) rfl ⟨_, m, rfl, fun h => ?_, rfl⟩
      have h4 := of_decide_eq_false h
      exact ⟨by omega, fun j hj => HALL.out (by omega) j hj hj⟩

end Go.Proofs.YthhcigmdocldnaaDoor

/- The law's own functions long and many: the walks. -/
import Derived.Test.YthhcigmdocldnaaDoorSameA
import Derived.Deep.Slices
import Derived.WalkSmall
namespace Go.Proofs.YthhcigmdocldnaaDoor
open Go Go.RowKit

/-- Results lie in memory. -/
def ResAt (w : World) (v : Value) (rs : List ((List UInt8 × Nat) × Nat)) : Prop :=
  (v = .slice none 0 0 ∧ rs = []) ∨ ∃ a cap, v = .slice (some a) rs.length cap ∧ rs.length ≤ cap ∧ ∀ i (h : i < rs.length),
    w.cell? (a.add (i * 3)) = some (.string ⟨rs[i].1.1.toArray⟩) ∧ w.cell? (a.add (i * 3 + 1)) = some (.int .u8 (rs[i].1.2 : Int)) ∧ w.cell? (a.add (i * 3 + 2)) = some (.int .u8 (rs[i].2 : Int))

def LongPost (w : World) (n : Nat) (e : Ending) (w' : World) : Prop := ∃ b m, e = .returned (.bool b) ∧ (b = false → n < 134) ∧ w' = w.drewN m

set_option maxRecDepth 100000 in
set_option maxHeartbeats 1000000 in
theorem long_any (w : World) (v : Value) (rs : List ((List UInt8 × Nat) × Nat)) (h : ResAt w v rs) :
    Calls Tryd.prog 9 #[v] w (LongPost w rs.length) := by
  have hsh : ∃ p c, v = .slice p rs.length c := by
    rcases h with ⟨rfl, rfl⟩ | ⟨a, cap, rfl, _⟩
    · exact ⟨none, 0, rfl⟩
    · exact ⟨_, _, rfl⟩
  obtain ⟨p, c, rfl⟩ := hsh
  have HH := Lib.hid h
  clear h
  go_enter Tryd.func9, Tryd.ntmps9
  go_wp2_with fail
  go_loopw [3, 4] (fun nv iv wr => ∃ i k m : Nat, iv = .int .i64 (i : Int) ∧ nv = .int .i64 (k : Int) ∧ i ≤ rs.length ∧ 30 * i ≤ k ∧ (k < 8030) ∧ wr = w.drewN m)
    (fun _ iv _ => rs.length - intOf iv)
  case atStart => exact ⟨0, 0, 0, rfl, rfl, Nat.zero_le _, Nat.le_refl _, by omega, rfl⟩
  case round =>
    obtain ⟨i, k, m, rfl, rfl, hi, hk, hk2, rfl⟩ := hrel
    by_cases hlast : i < rs.length
    · have hli : decide ((i : Int) < (rs.length : Int)) = true := decide_eq_true (by omega)
      by_cases hk4 : k < 4000
      · have hki : (k : Int) < 4000 := by omega
        have h := HH.out
        rcases h with ⟨_, h0⟩ | ⟨a, cap, he, hcap, hcells⟩
        · rw [h0] at hlast; simp at hlast
        · injection he with e1 _ e3
          subst e1; subst e3
          have c0 := (hcells i hlast).1
          have HC := Lib.hid hcells
          clear hcells
          generalize (⟨rs[i].1.1.toArray⟩ : ByteArray) = sd at c0
          by_cases hz : sd.size < 4000
          · have hzi : (sd.size : Int) < 4000 := by omega
            go_wp2
            go_roundw
            case rel => exact ⟨i + 1, k + 30 + sd.size, m, by simp, by simp, by omega, by omega, by omega, rfl⟩
            case measure => simp [intOf]; omega
          · have hzi : ¬ (sd.size : Int) < 4000 := by omega
            go_wp2
            go_roundw
            case rel => exact ⟨i + 1, k + 30 + 4000, m, by simp, by simp, by omega, by omega, by omega, rfl⟩
            case measure => simp [intOf]; omega
      · have hki : ¬ (k : Int) < 4000 := by omega
        go_wp2
        refine bodyPost_ret (v := .bool true) (by simp [results, Tryd.results9, go_sem]) rfl ⟨true, m, rfl, fun h => (by cases h), rfl⟩
    · have hli : decide ((i : Int) < (rs.length : Int)) = false := decide_eq_false (by omega)
      obtain rfl : i = rs.length := by omega
      go_wp2
      refine bodyPost_ret (v := .bool (decide (4000 ≤ (k : Int)))) (by simp [results, Tryd.results9, go_sem]) rfl ⟨_, m, rfl, fun h => ?_, rfl⟩
      have := of_decide_eq_false h
      omega

theorem add_block (a : Addr) (n : Nat) : (a.add n).block = a.block := by
  unfold Addr.add; split <;> rfl
theorem eq_result (w : World) (a b : ByteArray) (t u x y : Int) : (binOp .eql 34 (.agg #[.string a, .int .u8 t, .int .u8 x]) (.agg #[.string b, .int .u8 u, .int .u8 y])).run Tryd.prog w = .ok (.bool (decide (a = b ∧ t = u ∧ x = y))) w := by
  have u3 := Tryd.underlying9
  have u4 := Tryd.underlying5
  have hS : Tryd.prog.underlying 34 = some (.struct (Tryd.prog.fieldsOf 34)) := by kernel_rfl
  have hp : Tryd.prog.stoodInHeld 34 = false := by kernel_rfl
  rw [run_eql_struct, show (10000 : Nat) = 9999 + 1 from rfl, run_equalIn_agg w 9999 34 _ _ hS hp]
  simp only [Program.fieldsOf, Tryd.underlying34]
  go_simp
  by_cases h1 : a = b
  · by_cases h2 : t = u <;> by_cases h3 : x = y <;> simp [h1, h2, h3]
  · have h1' : ¬ a.toList = b.toList := by
      rw [ByteArray.toList_eq, ByteArray.toList_eq]
      intro e
      apply h1
      obtain ⟨⟨a⟩⟩ := a
      obtain ⟨⟨b⟩⟩ := b
      simpa using e
    simp [h1, h1']
theorem eq_result_t (w : World) {a b : ByteArray} {t u x y : Int} (h : a = b ∧ t = u ∧ x = y) : (binOp .eql 34 (.agg #[.string a, .int .u8 t, .int .u8 x]) (.agg #[.string b, .int .u8 u, .int .u8 y])).run Tryd.prog w = .ok (.bool true) w := by
  rw [eq_result, decide_eq_true h]
theorem eq_result_f (w : World) {a b : ByteArray} {t u x y : Int} (h : ¬ (a = b ∧ t = u ∧ x = y)) : (binOp .eql 34 (.agg #[.string a, .int .u8 t, .int .u8 x]) (.agg #[.string b, .int .u8 u, .int .u8 y])).run Tryd.prog w = .ok (.bool false) w := by
  rw [eq_result, decide_eq_false h]
/-- How many of the results are r. -/
def manyR (rs : List ((List UInt8 × Nat) × Nat)) (r : (List UInt8 × Nat) × Nat) : Nat := rs.countP fun y => decide (y = r)
theorem manyR_succ (rs : List ((List UInt8 × Nat) × Nat)) (r : (List UInt8 × Nat) × Nat) {i : Nat} (h : i < rs.length) : manyR (rs.take (i + 1)) r = manyR (rs.take i) r + if rs[i] = r then 1 else 0 := by
  unfold manyR
  rw [List.take_succ_eq_append_getElem h, List.countP_append]
  by_cases e : rs[i] = r <;> simp [e]
theorem manyR_le (rs : List ((List UInt8 × Nat) × Nat)) (r : (List UInt8 × Nat) × Nat) : manyR rs r ≤ rs.length := List.countP_le_length


set_option maxRecDepth 100000 in
set_option maxHeartbeats 1000000 in
theorem many_any (w : World) (v : Value) (rs : List ((List UInt8 × Nat) × Nat)) (r : (List UInt8 × Nat) × Nat) (h : ResAt w v rs) (hmax : rs.length ≤ 1000000) (hb : ∀ a n c, v = .slice (some a) n c → a.block < w.heap.size) :
    Calls Tryd.prog 17 #[v, .agg #[.string ⟨r.1.1.toArray⟩, .int .u8 (r.1.2 : Int), .int .u8 (r.2 : Int)]] w fun e w' => e = .returned (.int .i64 (manyR rs r : Int)) ∧ Below w.heap.size w w' := by
  have hsh : ∃ p c, v = .slice p rs.length c := by
    rcases h with ⟨rfl, rfl⟩ | ⟨a, cap, rfl, _⟩
    · exact ⟨none, 0, rfl⟩
    · exact ⟨_, _, rfl⟩
  obtain ⟨p, c, rfl⟩ := hsh
  have HH := Lib.hid (And.intro h hb)
  clear h hb
  obtain ⟨⟨d, t⟩, x⟩ := r
  dsimp only
  generalize hds : (⟨d.toArray⟩ : ByteArray) = ds
  go_enter Tryd.func17, Tryd.ntmps17
  go_wp2_with fail
  go_loopw [5, 6] (fun nv iv wr => ∃ i m : Nat, iv = .int .i64 (i : Int) ∧ nv = .int .i64 (manyR (rs.take i) ((d, t), x) : Int) ∧ i ≤ rs.length ∧ wr = (World.alloc w (.cells #[.string ds, .int .u8 (t : Int), .int .u8 (x : Int)] 34)).drewN m)
    (fun _ iv _ => rs.length - intOf iv)
  case atStart => exact ⟨0, 0, rfl, rfl, Nat.zero_le _, rfl⟩
  case round =>
    obtain ⟨i, m, rfl, rfl, hi, rfl⟩ := hrel
    by_cases hlast : i < rs.length
    · have hli : (i : Int) < (rs.length : Int) := by omega
      obtain ⟨h, hb⟩ := HH.out
      rcases h with ⟨_, h0⟩ | ⟨a, cap, he, hcap, hcells⟩
      · rw [h0] at hlast; simp at hlast
      · injection he with e1 _ e3
        subst e1; subst e3
        have hba : a.block < w.heap.size := hb a _ _ rfl
        have hA : ∀ k v, w.cell? (a.add k) = some v → (World.alloc w (.cells #[.string ds, .int .u8 (t : Int), .int .u8 (x : Int)] 34)).cell? (a.add k) = some v := by
          intro k v hv
          exact (((Below.refl _ w).alloc (Nat.le_refl _) _).cell (by rw [add_block]; exact hba)).trans hv
        have c0 := hA _ _ (hcells i hlast).1
        have c1 := hA _ _ (hcells i hlast).2.1
        have c2 := hA _ _ (hcells i hlast).2.2
        rw [← Deep.add_add] at c1 c2
        obtain ⟨Ab, Ao, As, hAd⟩ : ∃ b o s, a.add (i * 3) = ⟨b, o, s⟩ := ⟨_, _, _, rfl⟩
        rw [hAd] at c0 c1 c2
        simp [Addr.add] at c1 c2
        clear hA hcells hb
        have hms := manyR_succ rs ((d, t), x) hlast
        have hml := manyR_le (rs.take i) ((d, t), x)
        have hml2 : manyR (rs.take i) ((d, t), x) ≤ 1000000 := Nat.le_trans hml (by simp; omega)
        clear hml
        generalize rs[i] = ri at c0 c1 c2 hms
        obtain ⟨⟨rd, rt⟩, rx⟩ := ri
        dsimp only at c0 c1 c2
        have k3 : Tryd.prog.eqGuardType Tryd.prog.depth 34 = false := by kernel_rfl
        generalize manyR (rs.take i) ((d, t), x) = k at *
        by_cases heq : ((rd, rt), rx) = ((d, t), x)
        · injection heq with h1 h3
          injection h1 with h1 h2
          subst h1 h2 h3
          rw [if_pos rfl] at hms
          have hrun := fun w' => eq_result_t w' (t := (rt : Int)) (x := (rx : Int)) (And.intro hds (And.intro rfl rfl))
          have HM := Lib.hid (And.intro hms hds)
          clear hms hds
          generalize (⟨rd.toArray⟩ : ByteArray) = rb at c0 hrun
          have hk : (k : Int) < 1000001 := by omega
          go_wp2_with fail
          go_quiet (fail)
          go_wp2
          go_roundw
          case rel => exact ⟨i + 1, _, by simp, by rw [HM.out.1]; simp, by omega, by first | rfl | exact World.drewN_drewN _ _ _⟩
          case measure => simp [intOf]; omega
        · rw [if_neg heq] at hms
          have hd : ¬ ((⟨rd.toArray⟩ : ByteArray) = ds ∧ (rt : Int) = (t : Int) ∧ (rx : Int) = (x : Int)) := by
            rintro ⟨e1, e2, e3⟩
            apply heq
            rw [← hds] at e1
            injection e1 with e1
            have e1 : rd = d := by simpa using congrArg Array.toList e1
            rw [e1, show rt = t by omega, show rx = x by omega]
          have hrun := fun w' => eq_result_f w' hd
          clear hd
          have HM := Lib.hid hms
          clear hms heq
          generalize (⟨rd.toArray⟩ : ByteArray) = rb at c0 hrun
          go_wp2_with fail
          go_quiet (fail)
          go_wp2
          go_roundw
          case rel => exact ⟨i + 1, _, by simp, by rw [HM.out]; simp, by omega, by first | rfl | exact World.drewN_drewN _ _ _⟩
          case measure => simp [intOf]; omega
    · have hli : ¬ (i : Int) < (rs.length : Int) := by omega
      obtain rfl : i = rs.length := by omega
      rw [List.take_of_length_le (Nat.le_refl _)]
      go_wp2
      refine bodyPost_ret (v := .int .i64 (manyR rs ((d, t), x) : Int)) (by simp [results, Tryd.results17, go_sem]) rfl ⟨rfl, ?_⟩
      exact below_drewN ((Below.refl _ w).alloc (Nat.le_refl _) _) m
end Go.Proofs.YthhcigmdocldnaaDoor

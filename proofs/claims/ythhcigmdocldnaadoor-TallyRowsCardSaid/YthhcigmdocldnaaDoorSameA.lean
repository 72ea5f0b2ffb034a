/- The document's own function Same at rows: the walk. -/
import Derived.Test.YthhcigmdocldnaaDoorProg
import Derived.WalkKit
import Derived.LoopTactic
import Derived.Outline
import Derived.Lib.Hide
import Derived.Deep.QuietTactic
import Derived.BigQuiet
import Derived.Laws.StructEq
namespace Go.Proofs.YthhcigmdocldnaaDoor
open Go Go.RowKit

theorem bneI (a b : Int) : (a != b) = !decide (a = b) := by
  by_cases h : a = b <;> simp [h]
attribute [go_sem] bneI
theorem beqB_ne {a b : ByteArray} (h : ¬ a = b) : (a == b) = false := by
  obtain ⟨a⟩ := a
  obtain ⟨b⟩ := b
  show (a == b) = false
  exact beq_eq_false_iff_ne.2 fun e => h (by rw [e])
/-- What Same answers, and what it leaves. -/
def SamePost (w : World) (n : Nat) (R : Nat → Prop) (e : Ending) (w' : World) : Prop := ∃ b m, e = .returned (.bool b) ∧ (b = true ↔ ∀ i, i < n → R i) ∧ w' = w.drewN m
def intOf : Value → Nat | .int _ n => n.toNat | _ => 0
/-- Two rows are alike. -/
def RowEq (s s' : Nat → ByteArray) (t t' q q' : Nat → Int) (z z' : Nat → Nat → Int) (i : Nat) : Prop := s i = s' i ∧ t i = t' i ∧ q i = q' i ∧ ∀ k, k < 10 → z i k = z' i k

set_option maxRecDepth 100000 in
set_option maxHeartbeats 2000000 in
theorem same_core (w : World) (p p' : Option Addr) (g g' c c' n : Nat) (s s' : Nat → ByteArray) (t t' : Nat → Int) (q q' : Nat → Int) (g2 g2' cp cp' : Nat → Nat) (z z' : Nat → Nat → Int)
   (hp : 0 < n → p = some ⟨g, 0, none⟩) (hp' : 0 < n → p' = some ⟨g', 0, none⟩)
   (x0 : ∀ i, i < n → w.cell? ⟨g, i * 4, none⟩ = some (.string (s i)))
   (x1 : ∀ i, i < n → w.cell? ⟨g, i * 4 + 1, none⟩ = some (.int .u8 (t i)))
   (x2 : ∀ i, i < n → w.cell? ⟨g, i * 4 + 2, none⟩ = some (.int .i64 (q i)))
   (x3 : ∀ i, i < n → w.cell? ⟨g, i * 4 + 3, none⟩ = some (.slice (some ⟨g2 i, 0, none⟩) 10 (cp i)))
   (x4 : ∀ i, i < n → ∀ k, k < 10 → w.cell? ⟨g2 i, k, none⟩ = some (.int .i64 (z i k)))
   (y0 : ∀ i, i < n → w.cell? ⟨g', i * 4, none⟩ = some (.string (s' i)))
   (y1 : ∀ i, i < n → w.cell? ⟨g', i * 4 + 1, none⟩ = some (.int .u8 (t' i)))
   (y2 : ∀ i, i < n → w.cell? ⟨g', i * 4 + 2, none⟩ = some (.int .i64 (q' i)))
   (y3 : ∀ i, i < n → w.cell? ⟨g', i * 4 + 3, none⟩ = some (.slice (some ⟨g2' i, 0, none⟩) 10 (cp' i)))
   (y4 : ∀ i, i < n → ∀ k, k < 10 → w.cell? ⟨g2' i, k, none⟩ = some (.int .i64 (z' i k)))
   (hc : n ≤ c) (hc' : n ≤ c') (hn : n ≤ 1000000) :
    Calls Tryd.prog 15 #[.slice p n c, .slice p' n c'] w (SamePost w n (RowEq s s' t t' q q' z z')) := by
  have HX := Lib.hid (And.intro hp (And.intro hp' (And.intro x0 (And.intro x1 (And.intro x2 (And.intro x3 (And.intro x4 (And.intro y0 (And.intro y1 (And.intro y2 (And.intro y3 y4)))))))))))
  clear hp hp' x0 x1 x2 x3 x4 y0 y1 y2 y3 y4
  go_enter Tryd.func15, Tryd.ntmps15
  go_wp2_with fail
  go_loopw [5] (fun iv wr => ∃ i m : Nat, iv = .int .i64 (i : Int) ∧ i ≤ n ∧ (∀ j, j < i → RowEq s s' t t' q q' z z' j) ∧ wr = w.drewN m)
      (fun iv _ => n - intOf iv)
  case atStart => exact ⟨0, 0, rfl, Nat.zero_le _, fun _ h => absurd h (Nat.not_lt_zero _), rfl⟩
  case round =>
    obtain ⟨i, m, rfl, hi, hal, rfl⟩ := hrel
    by_cases hlast : i < n
    · have hli : (i : Int) < (n : Int) := by omega
      obtain ⟨hp, hp', x0, x1, x2, x3, x4, y0, y1, y2, y3, y4⟩ := HX.out
      obtain rfl := hp (by omega)
      obtain rfl := hp' (by omega)
      have z0 := x0 i hlast
      have z1 := x1 i hlast
      have z2 := x2 i hlast
      have z3 := x3 i hlast
      have v0 := y0 i hlast
      have v1 := y1 i hlast
      have v2 := y2 i hlast
      have v3 := y3 i hlast
      have hno : ¬ RowEq s s' t t' q q' z z' i → ¬ ∀ i, i < n → RowEq s s' t t' q q' z z' i := fun h hh => h (hh i hlast)
      have HN := Lib.hid (And.intro hno (And.intro hal (And.intro (x4 i hlast) (y4 i hlast))))
      clear x0 x1 x2 x3 x4 y0 y1 y2 y3 y4 hno hal hp hp'
      by_cases e1 : s i = s' i
      · by_cases e2 : t i = t' i
        · by_cases e3 : q i = q' i
          · rw [← e1] at v0
            rw [← e2] at v1
            rw [← e3] at v2
            have HE := Lib.hid (And.intro e1 (And.intro e2 e3))
            clear e1 e2 e3
            generalize s i = sa at z0 v0
            generalize t i = ta at z1 v1
            generalize q i = qa at z2 v2
            have f : (sa.toList == sa.toList) = true := beq_self_eq_true _
            go_wp2_with fail
            go_quiet (fail)
            go_wp2_with fail
            clear z0 z1 z2 v0 v1 v2 f
            go_loopw [6] (fun kv wr => ∃ k m : Nat, kv = .int .i64 (k : Int) ∧ k ≤ 10 ∧ (∀ j, j < k → z i j = z' i j) ∧ wr = w.drewN m)
              (fun kv _ => 10 - intOf kv)
            case atStart => exact ⟨0, _, rfl, Nat.zero_le _, fun _ h => absurd h (Nat.not_lt_zero _), by first | rfl | exact World.drewN_drewN _ _ _⟩
            case round =>
              obtain ⟨k, m2, rfl, hk, hkk, rfl⟩ := hrel
              by_cases hk1 : k < 10
              · have hki : (k : Int) < (10 : Int) := by omega
                have c1 := HN.out.2.2.1 k hk1
                have c2 := HN.out.2.2.2 k hk1
                by_cases e4 : z i k = z' i k
                · have hkk' : ∀ j, j < k + 1 → z i j = z' i j := by
                    intro j hj
                    by_cases hjk : j = k
                    · rw [hjk, e4]
                    · exact hkk j (by omega)
                  have HK := Lib.hid hkk'
                  clear hkk hkk'
                  rw [← e4] at c2
                  clear e4
                  generalize z i k = za at c1 c2
                  go_wp2_with fail
                  go_quiet (fail)
                  go_wp2
                  go_roundw
                  case rel => exact ⟨k + 1, _, by simp, by omega, HK.out, by first | rfl | exact World.drewN_drewN _ _ _⟩
                  case measure => simp [intOf]; omega
                · have e4' : decide (z i k = z' i k) = false := decide_eq_false e4
                  have HK := Lib.hid e4
                  clear hkk e4
                  generalize hza : z i k = za at c1 e4'
                  generalize hzb : z' i k = zb at c2 e4'
                  go_wp2_with fail
                  go_quiet (fail)
                  go_wp2
                  refine bodyPost_ret (v := .bool false) (by simp [results, Tryd.results15, go_sem]) rfl ⟨false, _, rfl, ⟨fun h => (by cases h), fun h => ?_⟩, by first | rfl | exact World.drewN_drewN _ _ _⟩
                  exact absurd h (HN.out.1 fun hr => HK.out (hr.2.2.2 k hk1))
              · obtain rfl : k = 10 := by omega
                have hki : ¬ ((10 : Nat) : Int) < (10 : Int) := by omega
                have hnx : ∀ j, j < i + 1 → RowEq s s' t t' q q' z z' j := by
                  intro j hj
                  by_cases hji : j = i
                  · rw [hji]; exact ⟨HE.out.1, HE.out.2.1, HE.out.2.2, hkk⟩
                  · exact HN.out.2.1 j (by omega)
                have HK := Lib.hid hnx
                clear hkk hnx
                go_wp2
                go_roundw
                case rel => exact ⟨i + 1, _, by simp, by omega, HK.out, by first | rfl | exact World.drewN_drewN _ _ _⟩
                case measure => simp [intOf]; omega
          · rw [← e1] at v0
            rw [← e2] at v1
            have e3' : decide (q i = q' i) = false := decide_eq_false e3
            have HE := Lib.hid e3
            clear e1 e2 e3
            generalize s i = sa at z0 v0
            generalize t i = ta at z1 v1
            generalize hqa : q i = qa at z2 e3'
            generalize hqb : q' i = qb at v2 e3'
            have f : (sa.toList == sa.toList) = true := beq_self_eq_true _
            clear hqa hqb
            go_wp2_with fail
            go_quiet (fail)
            go_wp2
            refine bodyPost_ret (v := .bool false) (by simp [results, Tryd.results15, go_sem]) rfl ⟨false, _, rfl, ⟨fun h => (by cases h), fun h => ?_⟩, by first | rfl | exact World.drewN_drewN _ _ _⟩
            exact absurd h (HN.out.1 fun hr => HE.out hr.2.2.1)
        · rw [← e1] at v0
          have e2' : decide (t i = t' i) = false := decide_eq_false e2
          have HE := Lib.hid e2
          clear e1 e2
          generalize s i = sa at z0 v0
          generalize hta : t i = ta at z1 e2'
          generalize htb : t' i = tb at v1 e2'
          have f : (sa.toList == sa.toList) = true := beq_self_eq_true _
          clear hta htb
          go_wp2_with fail
          go_quiet (fail)
          go_wp2
          refine bodyPost_ret (v := .bool false) (by simp [results, Tryd.results15, go_sem]) rfl ⟨false, _, rfl, ⟨fun h => (by cases h), fun h => ?_⟩, by first | rfl | exact World.drewN_drewN _ _ _⟩
          exact absurd h (HN.out.1 fun hr => HE.out hr.2.1)
      · have e1' : ((s i).toList == (s' i).toList) = false := by
          rw [← beq_toListBytes]
          exact beqB_ne e1
        have HE := Lib.hid e1
        clear e1
        generalize hsa : s i = sa at z0 e1'
        generalize hsb : s' i = sb at v0 e1'
        clear hsa hsb
        go_wp2_with fail
        go_quiet (fail)
        go_wp2
        refine bodyPost_ret (v := .bool false) (by simp [results, Tryd.results15, go_sem]) rfl ⟨false, _, rfl, ⟨fun h => (by cases h), fun h => ?_⟩, by first | rfl | exact World.drewN_drewN _ _ _⟩
        exact absurd h (HN.out.1 fun hr => HE.out hr.1)
    · have hli : ¬ (i : Int) < (n : Int) := by omega
      obtain rfl : i = n := by omega
      have HE := Lib.hid hal
      clear hal
      go_wp2
      refine bodyPost_ret (v := .bool true) (by simp [results, Tryd.results15, go_sem]) rfl ⟨true, _, rfl, ⟨fun _ => HE.out, fun _ => rfl⟩, rfl⟩
end Go.Proofs.YthhcigmdocldnaaDoor

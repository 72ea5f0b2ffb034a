/- entry.Next$1: how two jobs that are due stand. -/
import Derived.Test.YtdlpdpelhkgnlaaGreatDoorEnxp
import Derived.Test.YtdlpdpelhkgnlaaGreatDoorMd
import Derived.StillTailTactics
import Derived.StillTail
namespace Go.Proofs.YtdlpdpelhkgnlaaGreatDoor
open Go Go.RowKit Go.Shelf Go.Sort
attribute [local go_sem] bneI

theorem flipW {P : Program} {f : FuncId} {args : Array Value} {w : World} {v : Value} (h : Calls P f args w fun e w' => e = .returned v ∧ w = w') : Calls P f args w fun e w' => e = .returned v ∧ w' = w := h.mono fun _ _ ⟨a, b⟩ => ⟨a, b.symm⟩
set_option maxHeartbeats 400000 in
theorem isNaNs_any (s : Bytes) (w : World) : Calls Tryz.prog 90 #[.string ⟨s.toArray⟩] w fun e w' => e = .returned (.bool false) ∧ w = w' := by
  go_enter Tryz.func90, Tryz.ntmps90
  go_wp2
  go_ret
  exact ⟨by simp, rfl⟩
theorem cmpB_cases : ∀ a b : Bytes, (cmpB a b = -1 ∧ Op.bytesLess a b = true) ∨ (cmpB a b = 0 ∧ a = b ∧ Op.bytesLess a b = false) ∨ (cmpB a b = 1 ∧ Op.bytesLess a b = false ∧ a ≠ b)
  | [], [] => .inr (.inl ⟨rfl, rfl, rfl⟩)
  | [], _ :: _ => .inl ⟨rfl, rfl⟩
  | _ :: _, [] => .inr (.inr ⟨rfl, rfl, by simp⟩)
  | x :: a, y :: b => by
    unfold cmpB Lib.compareBytes Op.bytesLess
    by_cases h : x < y
    · exact .inl ⟨if_pos h, by simp [h]⟩
    · by_cases h2 : y < x
      · refine .inr (.inr ⟨by rw [if_neg h, if_pos h2], ?_, fun e => ?_⟩)
        · have : (x == y) = false := beq_eq_false_iff_ne.2 fun e => by subst e; exact absurd h2 (by simp)
          simp [h, this]
        · injection e with e _
          subst e
          exact absurd h2 (by simp)
      · have e : x = y := UInt8.le_antisymm (UInt8.not_lt.1 h2) (UInt8.not_lt.1 h)
        subst e
        rw [if_neg h, if_neg h2]
        rcases cmpB_cases a b with ⟨h3, h4⟩ | ⟨h3, h4, h5⟩ | ⟨h3, h4, h5⟩
        · exact .inl ⟨h3, by simp [h4]⟩
        · exact .inr (.inl ⟨h3, by rw [h4], by simp [h5]⟩)
        · exact .inr (.inr ⟨h3, by simp [h4], fun e => h5 (by injection e)⟩)
set_option maxHeartbeats 400000 in
theorem cmpS_any (a b : Bytes) (w : World) : Calls Tryz.prog 56 #[.string ⟨a.toArray⟩, .string ⟨b.toArray⟩] w fun e w' => e = .returned (.int .i64 (cmpB a b)) ∧ w = w' := by
  have hn := fun j => isNaNs_any j w
  rcases cmpB_cases a b with ⟨e, h⟩ | ⟨e, h, h2⟩ | ⟨e, h, h2⟩
  · rw [e]; clear e
    go_enter Tryz.func56, Tryz.ntmps56
    go_wp2_with (go_at_call 90; refine (hn _).mono ?_; rintro e w' ⟨rfl, rfl⟩)
    go_ret
    exact ⟨rfl, rfl⟩
  · rw [e]; clear e
    subst h
    go_enter Tryz.func56, Tryz.ntmps56
    go_wp2_with (go_at_call 90; refine (hn _).mono ?_; rintro e w' ⟨rfl, rfl⟩)
    go_ret
    exact ⟨rfl, rfl⟩
  · rw [e]; clear e
    have h3 : (a == b) = false := by simpa using h2
    go_enter Tryz.func56, Tryz.ntmps56
    go_wp2_with (go_at_call 90; refine (hn _).mono ?_; rintro e w' ⟨rfl, rfl⟩)
    go_ret
    exact ⟨rfl, rfl⟩
set_option maxHeartbeats 400000 in
theorem isNaNi_any (j : Int) (w : World) : Calls Tryz.prog 89 #[.int .i64 j] w fun e w' => e = .returned (.bool false) ∧ w = w' := by
  go_enter Tryz.func89, Tryz.ntmps89
  go_wp2
  go_ret
  exact ⟨by simp, rfl⟩
set_option maxHeartbeats 400000 in
theorem cmpInt_any (j k : Int) (w : World) : Calls Tryz.prog 55 #[.int .i64 j, .int .i64 k] w fun e w' => e = .returned (.int .i64 (cmpI j k)) ∧ w = w' := by
  have hn := fun j => isNaNi_any j w
  rcases cmpI_is j k with ⟨e, h⟩ | ⟨e, h⟩ | ⟨e, h⟩
  · rw [e]; clear e
    go_enter Tryz.func55, Tryz.ntmps55
    go_wp2_with (go_at_call 89; refine (hn _).mono ?_; rintro e w' ⟨rfl, rfl⟩)
    go_ret
    exact ⟨rfl, rfl⟩
  · rw [e]; clear e
    subst h
    go_enter Tryz.func55, Tryz.ntmps55
    go_wp2_with (go_at_call 89; refine (hn _).mono ?_; rintro e w' ⟨rfl, rfl⟩)
    go_ret
    exact ⟨rfl, rfl⟩
  · rw [e]; clear e
    have h2 : ¬ j < k := by omega
    go_enter Tryz.func55, Tryz.ntmps55
    go_wp2_with (go_at_call 89; refine (hn _).mono ?_; rintro e w' ⟨rfl, rfl⟩)
    go_ret
    exact ⟨rfl, rfl⟩
theorem ret_int64 {a b : Int} (h : a = b) : Ending.returned (.int .i64 a) = .returned (.int .i64 b) := by rw [h]
def orOf (x y z : Int) : Int := if x ≠ 0 then x else if y ≠ 0 then y else z
set_option maxHeartbeats 400000 in
/-- cmp.Or of three numbers. -/
theorem or3_any (x y z : Int) (b off c : Nat) (w : World) (h0 : w.cell? ⟨b, off, none⟩ = some (.int .i64 x)) (h1 : w.cell? ⟨b, off + 1, none⟩ = some (.int .i64 y)) (h2 : w.cell? ⟨b, off + 2, none⟩ = some (.int .i64 z)) :
    Calls Tryz.prog 54 #[.slice (some ⟨b, off, none⟩) 3 c] w fun e w' => e = .returned (.int .i64 (orOf x y z)) ∧ w = w' := by
  go_enter Tryz.func54, Tryz.ntmps54
  go_wp2
  go_loop [5, 8] (fun _ i => (i = .int .i64 (0 : Nat)) ∨ (i = .int .i64 (1 : Nat) ∧ x = 0) ∨ (i = .int .i64 (2 : Nat) ∧ x = 0 ∧ y = 0) ∨ (i = .int .i64 (3 : Nat) ∧ x = 0 ∧ y = 0 ∧ z = 0)) (fun _ i => 3 - natI i)
  case atStart => exact .inl rfl
  case round =>
    rcases hrel with rfl | ⟨rfl, rfl⟩ | ⟨rfl, rfl, rfl⟩ | ⟨rfl, rfl, rfl, rfl⟩
    · by_cases hx : x = 0
      · subst hx
        go_wp2
        exact ⟨.inr (.inl ⟨rfl, trivial⟩), by simp [natI]⟩
      · have hx' : (x != 0) = true := by simpa using hx
        go_wp2
        go_ret
        exact ⟨ret_int64 (by simp [orOf, hx]), rfl⟩
    · by_cases hy : y = 0
      · subst hy
        go_wp2
        exact ⟨.inr (.inr (.inl ⟨rfl, trivial, trivial⟩)), by simp [natI]⟩
      · have hy' : (y != 0) = true := by simpa using hy
        go_wp2
        go_ret
        exact ⟨ret_int64 (by simp [orOf, hy]), rfl⟩
    · by_cases hz : z = 0
      · subst hz
        go_wp2
        exact ⟨.inr (.inr (.inr ⟨rfl, trivial, trivial, trivial⟩)), by simp [natI]⟩
      · have hz' : (z != 0) = true := by simpa using hz
        go_wp2
        go_ret
        exact ⟨ret_int64 (by simp [orOf]), rfl⟩
    · go_wp2
      go_ret
      exact ⟨ret_int64 (by simp [orOf]), rfl⟩
def firE (x : FiP) : List Value := [.int .i64 x.1, .string ⟨x.2.dom.toArray⟩, .int .i64 x.2.tries, .int .i64 x.2.due]
theorem cmpFi_or (a b : FiP) : cmpFi a b = orOf (cmpI a.2.due b.2.due) (cmpI a.1 b.1) (cmpB a.2.dom b.2.dom) := rfl
set_option maxRecDepth 100000 in
set_option maxHeartbeats 1000000 in
theorem next1_any (a b : FiP) (w : World) :
    Calls Tryz.prog 53 #[.agg (firE a).toArray, .agg (firE b).toArray] w fun e w' => e = .returned (.int .i64 (cmpFi a b)) ∧ Below w.heap.size w w' := by
  obtain ⟨i, d, t, u⟩ := a
  obtain ⟨j, f, s, v⟩ := b
  rw [cmpFi_or]
  unfold firE
  dsimp only
  go_enter Tryz.func53, Tryz.ntmps53
  go_wp2_with fail
  obtain ⟨W, hW⟩ : ∃ W, W = ((w.alloc (.cells #[.int .i64 i, .string ⟨d.toArray⟩, .int .i64 t, .int .i64 u] 85)).alloc (.cells #[.int .i64 j, .string ⟨f.toArray⟩, .int .i64 s, .int .i64 v] 85)) := ⟨_, rfl⟩
  rw [← hW]
  have c0 : W.drew.cell? ⟨w.heap.size, 0, none⟩ = some (.int .i64 i) := by rw [hW]; simp [go_sem]
  have c1 : W.drew.cell? ⟨w.heap.size, 1, none⟩ = some (.string ⟨d.toArray⟩) := by rw [hW]; simp [go_sem]
  have c3 : W.drew.cell? ⟨w.heap.size, 3, none⟩ = some (.int .i64 u) := by rw [hW]; simp [go_sem]
  have e0 : W.drew.cell? ⟨w.heap.size + 1, 0, none⟩ = some (.int .i64 j) := by rw [hW]; simp [go_sem]
  have e1 : W.drew.cell? ⟨w.heap.size + 1, 1, none⟩ = some (.string ⟨f.toArray⟩) := by rw [hW]; simp [go_sem]
  have e3 : W.drew.cell? ⟨w.heap.size + 1, 3, none⟩ = some (.int .i64 v) := by rw [hW]; simp [go_sem]
  have hB : Below w.heap.size w W := by rw [hW]; exact ((Below.refl _ w).alloc (Nat.le_refl _) _).alloc (by simp) _
  have HB := Lib.hid hB
  clear hW hB
  refine wp_region_still_tail 19 (by kernel_rfl) (by kernel_rfl) ?_
  simp only [List.take_succ_cons, List.take_zero, List.drop_succ_cons, List.drop_zero]
  show wpStill Tryz.prog _ W.drew (fun a' => wpList _ _ _ _ a' W.drew) _ _
  have HB1 := Lib.hid (show Below w.heap.size w W.drew from HB.out.trans ((below_drew W).mono HB.out.size))
  clear HB
  generalize W.drew = W1 at *
  repeat still_step
  still_call (flipW (cmpInt_any u v W1))
  repeat still_step
  still_call (flipW (cmpInt_any i j W1))
  repeat still_step
  still_call (flipW (cmpS_any d f W1))
  repeat still_step
  refine wpStill_nil ?_
  go_wp2_with fail
  refine (or3_any (cmpI u v) (cmpI i j) (cmpB d f) _ 0 _ _ (by simp [go_sem]) (by simp [go_sem]) (by simp [go_sem])).mono ?_
  rintro e w' ⟨rfl, rfl⟩
  go_wp2
  go_ret
  exact ⟨rfl, HB1.out.alloc HB1.out.size _⟩
end Go.Proofs.YtdlpdpelhkgnlaaGreatDoor

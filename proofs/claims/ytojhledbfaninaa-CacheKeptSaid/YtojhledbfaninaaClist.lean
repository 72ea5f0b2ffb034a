/- The order of entries: cmp.Compare of texts, the two orders. -/
import Derived.Test.YtojhledbfaninaaCown
import Derived.Sort.Grow
import Derived.StillTailTactics
import Derived.Shelf.SlSortCmp.WholeK
namespace Go.Proofs.Ytojhledbfaninaa
open Go Go.RowKit Go.Shelf Go.Sort

theorem less_cmp : ∀ a b : Bytes, Op.bytesLess a b = decide (cmpB a b < 0)
  | [], [] => by simp [Op.bytesLess, cmpB, Lib.compareBytes]
  | [], _ :: _ => by simp [Op.bytesLess, cmpB, Lib.compareBytes]
  | _ :: _, [] => by simp [Op.bytesLess, cmpB, Lib.compareBytes]
  | x :: a, y :: b => by
    have ih := less_cmp a b
    unfold cmpB at ih ⊢
    unfold Op.bytesLess Lib.compareBytes
    by_cases h1 : x < y
    · simp [h1]
    · by_cases h2 : y < x
      · have : x ≠ y := fun e => by subst e; exact absurd h2 (UInt8.lt_irrefl _)
        simp [h1, h2, this]
      · have e : x = y := UInt8.le_antisymm (UInt8.not_lt.1 h2) (UInt8.not_lt.1 h1)
        subst e
        simp [h1, ih]
theorem less_str (a b : ByteArray) : Op.bytesLess a.toList b.toList = decide (cmpB a.data.toList b.data.toList < 0) := by
  rw [ByteArray.toList_eq, ByteArray.toList_eq, less_cmp]
theorem cmpB_sign (a b : Bytes) : cmpB a b = -1 ∨ cmpB a b = 0 ∨ cmpB a b = 1 := by
  unfold cmpB
  induction a generalizing b with
  | nil => cases b <;> simp [Lib.compareBytes]
  | cons x a ih =>
    cases b with
    | nil => simp [Lib.compareBytes]
    | cons y b =>
      unfold Lib.compareBytes
      by_cases h1 : x < y
      · simp [h1]
      · by_cases h2 : y < x
        · simp [h1, h2]
        · simp only [h1, h2, if_false]; exact ih b
set_option maxHeartbeats 400000 in
theorem cmpS_any (a b : ByteArray) (w : World) : Calls Try.prog 49 #[.string a, .string b] w fun e w' => e = .returned (.int .i64 (cmpB a.data.toList b.data.toList)) ∧ w = w' := by
  have hn := fun j => isNaNS_any j w
  have hl := less_str a b
  rcases cmpB_sign a.data.toList b.data.toList with h | h | h
  · rw [h] at hl ⊢
    have hl' : Op.bytesLess a.toList b.toList = true := by rw [hl]; decide
    clear hl h
    go_enter Try.func49, Try.ntmps49
    go_wp2_with (go_at_call 66; refine (hn _).mono ?_; rintro e w' ⟨rfl, rfl⟩)
    go_ret
    exact ⟨rfl, rfl⟩
  · rw [h] at hl ⊢
    have hl' : Op.bytesLess a.toList b.toList = false := by rw [hl]; decide
    have he : (a.toList == b.toList) = true := by rw [ByteArray.toList_eq, ByteArray.toList_eq, cmpB_eq h]; simp
    clear hl h
    go_enter Try.func49, Try.ntmps49
    go_wp2_with (go_at_call 66; refine (hn _).mono ?_; rintro e w' ⟨rfl, rfl⟩)
    go_ret
    exact ⟨rfl, rfl⟩
  · rw [h] at hl ⊢
    have hl' : Op.bytesLess a.toList b.toList = false := by rw [hl]; decide
    have he : (a.toList == b.toList) = false := by
      rw [ByteArray.toList_eq, ByteArray.toList_eq]
      cases hb : (a.data.toList == b.data.toList) with
      | false => rfl
      | true => rw [eq_of_beq hb, cmpB_self] at h; cases h
    clear hl h
    go_enter Try.func49, Try.ntmps49
    go_wp2_with (go_at_call 66; refine (hn _).mono ?_; rintro e w' ⟨rfl, rfl⟩)
    go_ret
    exact ⟨rfl, rfl⟩
theorem ret_int {k : IntKind} {a b : Int} (h : a = b) : Ending.returned (.int k a) = .returned (.int k b) := by rw [h]
set_option maxHeartbeats 400000 in
/-- cmp.Or of two numbers. -/
theorem or2_any (x y : Int) (b off c : Nat) (w : World) (h0 : w.cell? ⟨b, off, none⟩ = some (.int .i64 x)) (h1 : w.cell? ⟨b, off + 1, none⟩ = some (.int .i64 y)) :
    Calls Try.prog 47 #[.slice (some ⟨b, off, none⟩) 2 c] w fun e w' => e = .returned (.int .i64 (orI x y)) ∧ w = w' := by
  have hz : ∀ z : Int, orI 0 z = z := fun z => rfl
  go_enter Try.func47, Try.ntmps47
  go_wp2
  go_loop [5, 8] (fun _ i => (i = .int .i64 (0 : Nat)) ∨ (i = .int .i64 (1 : Nat) ∧ x = 0) ∨ (i = .int .i64 (2 : Nat) ∧ x = 0 ∧ y = 0)) (fun _ i => 2 - natI i)
  case atStart => exact .inl rfl
  case round =>
    rcases hrel with rfl | ⟨rfl, rfl⟩ | ⟨rfl, rfl, rfl⟩
    · by_cases hx : x = 0
      · subst hx
        go_wp2
        exact ⟨.inr (.inl ⟨rfl, trivial⟩), by simp [natI]⟩
      · have hx' : (x != 0) = true := by simpa using hx
        have HO := Lib.hid (show orI x y = x from if_neg hx)
        clear hx
        go_wp2
        go_ret
        exact ⟨ret_int HO.out.symm, rfl⟩
    · by_cases hy : y = 0
      · subst hy
        go_wp2
        exact ⟨.inr (.inr ⟨rfl, trivial, trivial⟩), by simp [natI]⟩
      · have hy' : (y != 0) = true := by simpa using hy
        have HO := Lib.hid (hz y)
        clear hy hz
        go_wp2
        go_ret
        exact ⟨ret_int HO.out.symm, rfl⟩
    · have HO := Lib.hid (hz 0)
      clear hz
      go_wp2
      go_ret
      exact ⟨ret_int HO.out.symm, rfl⟩

theorem grow2 (w : World) (A B : Obj) : (w.alloc A).alloc B = grow (w.drewN 0) #[A, B] := by
  have h : grow (grow (w.drewN 0) #[A]) #[B] = grow (w.drewN 0) #[A, B] := by rw [grow_grow]; rfl
  rw [← h, alloc_eq_grow, alloc_eq_grow]
  rfl
theorem grow3 (w : World) (A B C : Obj) : (((w.alloc A).alloc B).drew).alloc C = grow (w.drewN 1) #[A, B, C] := by
  have h : grow (grow (grow (w.drewN 1) #[A]) #[B]) #[C] = grow (w.drewN 1) #[A, B, C] := by rw [grow_grow, grow_grow]; rfl
  rw [← h, alloc_eq_grow, alloc_eq_grow, alloc_eq_grow]
  rfl
theorem flipC {P : Program} {f : FuncId} {args : Array Value} {w : World} {v : Value} (h : Calls P f args w fun e w' => e = .returned v ∧ w = w') : Calls P f args w fun e w' => e = .returned v ∧ w' = w :=
  h.mono fun _ _ ⟨a, b⟩ => ⟨a, b.symm⟩
/-- The cells of an entry's box. -/
def ebox (x : EM) : Obj := .cells (ecells x).toArray 27
set_option maxRecDepth 100000 in
set_option maxHeartbeats 400000 in
/-- The order of the list: by domains. -/
theorem byDom_any (x y : EM) (w : World) :
    Calls Try.prog 52 #[evp x, evp y] w fun e w' => e = .returned (.int .i64 (cmpB x.1.dom y.1.dom)) ∧ ∃ os, w' = grow (w.drewN 0) os := by
  obtain ⟨⟨d, i, m, mx, age, unt⟩, p, n, c⟩ := x
  obtain ⟨⟨d2, i2, m2, mx2, age2, unt2⟩, p2, n2, c2⟩ := y
  dsimp only
  rw [lit_ev, lit_ev]
  have hS := fun W : World => cmpS_any ⟨d.toArray⟩ ⟨d2.toArray⟩ W
  have e1 : (⟨d.toArray⟩ : ByteArray).data.toList = d := rfl
  have e2 : (⟨d2.toArray⟩ : ByteArray).data.toList = d2 := rfl
  rw [e1, e2] at hS
  clear e1 e2
  obtain ⟨W, hW⟩ : ∃ W, W = ((w.alloc (.cells #[.string ⟨d.toArray⟩, .string ⟨i.toArray⟩, .int .u8 (m : Int), .slice p n c, .int .i64 age, .int .i64 unt] 27)).alloc (.cells #[.string ⟨d2.toArray⟩, .string ⟨i2.toArray⟩, .int .u8 (m2 : Int), .slice p2 n2 c2, .int .i64 age2, .int .i64 unt2] 27)) := ⟨_, rfl⟩
  have a0 : W.cell? ⟨w.heap.size, 0, none⟩ = some (.string ⟨d.toArray⟩) := by rw [hW]; simp [go_sem]
  have b0 : W.cell? ⟨w.heap.size + 1, 0, none⟩ = some (.string ⟨d2.toArray⟩) := by rw [hW]; simp [go_sem]
  have hg : W = grow (w.drewN 0) #[_, _] := hW.trans (grow2 w _ _)
  generalize cmpB d d2 = r at hS ⊢
  have hSW := hS W
  go_enter Try.func52, Try.ntmps52
  go_wp2_with fail
  rw [← hW]
  have HG := Lib.hid hg
  clear hW hS hg
  refine hSW.mono ?_
  rintro e w' ⟨rfl, rfl⟩
  go_wp2
  refine bodyPost_ret (v := .int .i64 r) (by simp [results, Try.results52, go_sem]) rfl ⟨rfl, _, HG.out⟩
set_option maxRecDepth 100000 in
set_option maxHeartbeats 400000 in
/-- The order of those that go: by their ends, then by domains. -/
theorem byEnd_any (x y : EM) (w : World) :
    Calls Try.prog 46 #[evp x, evp y] w fun e w' => e = .returned (.int .i64 (cmpE x.1 y.1)) ∧ ∃ os, w' = grow (w.drewN 1) os := by
  obtain ⟨⟨d, i, m, mx, age, unt⟩, p, n, c⟩ := x
  obtain ⟨⟨d2, i2, m2, mx2, age2, unt2⟩, p2, n2, c2⟩ := y
  rw [lit_ev, lit_ev]
  show Calls _ _ _ _ fun e w' => e = .returned (.int .i64 (orI (cmpI unt unt2) (cmpB d d2))) ∧ ∃ os, w' = grow (w.drewN 1) os
  have hS := fun W : World => cmpS_any ⟨d.toArray⟩ ⟨d2.toArray⟩ W
  have hI : ∀ W : World, Calls Try.prog 48 #[.int .i64 unt, .int .i64 unt2] W fun e w' => e = .returned (.int .i64 (cmpI unt unt2)) ∧ w' = W := fun W => Try.cmp_Compare_int unt unt2 W
  have e1 : (⟨d.toArray⟩ : ByteArray).data.toList = d := rfl
  have e2 : (⟨d2.toArray⟩ : ByteArray).data.toList = d2 := rfl
  rw [e1, e2] at hS
  clear e1 e2
  go_enter Try.func46, Try.ntmps46
  go_wp2_with fail
  obtain ⟨W, hW⟩ : ∃ W, W = ((w.alloc (.cells #[.string ⟨d.toArray⟩, .string ⟨i.toArray⟩, .int .u8 (m : Int), .slice p n c, .int .i64 age, .int .i64 unt] 27)).alloc (.cells #[.string ⟨d2.toArray⟩, .string ⟨i2.toArray⟩, .int .u8 (m2 : Int), .slice p2 n2 c2, .int .i64 age2, .int .i64 unt2] 27)) := ⟨_, rfl⟩
  rw [← hW]
  have a0 : W.drew.cell? ⟨w.heap.size, 0, none⟩ = some (.string ⟨d.toArray⟩) := by rw [hW]; simp [go_sem]
  have a5 : W.drew.cell? ⟨w.heap.size, 5, none⟩ = some (.int .i64 unt) := by rw [hW]; simp [go_sem]
  have b0 : W.drew.cell? ⟨w.heap.size + 1, 0, none⟩ = some (.string ⟨d2.toArray⟩) := by rw [hW]; simp [go_sem]
  have b5 : W.drew.cell? ⟨w.heap.size + 1, 5, none⟩ = some (.int .i64 unt2) := by rw [hW]; simp [go_sem]
  refine wp_region_still_tail 10 (by kernel_rfl) (by kernel_rfl) ?_
  simp only [List.take_succ_cons, List.take_zero, List.drop_succ_cons, List.drop_zero]
  show wpStill Try.prog _ W.drew (fun a' => wpList _ _ _ _ a' W.drew) _ _
  obtain ⟨W1, hW1⟩ : ∃ W1, W1 = W.drew := ⟨_, rfl⟩
  rw [← hW1] at a0 a5 b0 b5 ⊢
  have HS := Lib.hid (And.intro hW1 hW)
  clear hW1 hW
  repeat still_step
  still_call (hI W1)
  repeat still_step
  still_call (flipC (hS W1))
  repeat still_step
  refine wpStill_nil ?_
  go_wp2_with fail
  refine (or2_any (cmpI unt unt2) (cmpB d d2) _ 0 _ _ (by simp [go_sem]) (by simp [go_sem])).mono ?_
  rintro e w' ⟨rfl, rfl⟩
  go_wp2
  go_ret
  refine ⟨rfl, ?_⟩
  rw [HS.out.1, HS.out.2]
  exact ⟨_, grow3 w _ _ _⟩
end Go.Proofs.Ytojhledbfaninaa

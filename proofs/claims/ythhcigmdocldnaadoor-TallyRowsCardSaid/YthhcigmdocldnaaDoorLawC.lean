/- The laws' own function awake: it answers true. -/
import Derived.Test.YthhcigmdocldnaaDoorLawB
namespace Go.Proofs.YthhcigmdocldnaaDoor
open Go Go.RowKit Go.Shelf Go.Sort

def aB : Bytes := [97, 46, 98]
def cD : Bytes := [99, 46, 100]
def l1 : Ent := [((aB, 2), [1, 0, 0, 0, 0, 0, 0, 0, 0, 0, 0])]
def l2 : Ent := [((aB, 2), [1, 0, 0, 1, 0, 0, 0, 0, 0, 0, 0])]
theorem aw1 : addB 1 [] aB 2 0 = 0 := by decide
theorem aw2 : addB 1 l1 aB 2 3 = 0 := by decide
theorem aw3 : addB 1 l2 cD 1 0 = 41 := by decide
theorem aw4 : addB 1 l2 aB 1 8 = 4 := by decide
theorem as1 : addS 1 [] aB 2 0 = l1 := by decide
theorem as2 : addS 1 l1 aB 2 3 = l2 := by decide
theorem as3 : addS 1 l2 cD 1 0 = l2 := by decide
theorem as4 : addS 1 l2 aB 1 8 = l2 := by decide
theorem ac1 : accS 1 [] [] ((aB, 2), 0) = [((aB, 2), 0)] := by decide
theorem ac2 : accS 1 l1 [((aB, 2), 0)] ((aB, 2), 3) = [((aB, 2), 0), ((aB, 2), 3)] := by decide
theorem ac3 : accS 1 l2 [((aB, 2), 0), ((aB, 2), 3)] ((cD, 1), 0) = [((aB, 2), 0), ((aB, 2), 3)] := by decide
theorem ac4 : accS 1 l2 [((aB, 2), 0), ((aB, 2), 3)] ((aB, 1), 8) = [((aB, 2), 0), ((aB, 2), 3)] := by decide
theorem rw2 {ps : List (Bytes × Nat)} (h : Places l2 ps) : rowsOf l2 ps = l2 := by
  have : ps = [(aB, 2)] := List.perm_singleton.1 h.perm
  rw [this]; decide
theorem RowsT.zero {T : TypeId} {W : World} {base : Nat} {v : Value} {xs : Ent} (h : RowsT T W base v xs) : RowsT T W 0 v xs := by
  obtain ⟨vs, hl, hf, ho, h'⟩ := h
  refine ⟨vs, hl, fun i h1 h2 => (hf i h1 h2).base (Nat.zero_le _), ho, ?_⟩
  rcases h' with h' | ⟨g, cap, cur, e, _, rest⟩
  · exact .inl h'
  · exact .inr ⟨g, cap, cur, e, Nat.zero_le _, rest⟩
theorem RowsT.below {T : TypeId} {W W' : World} {base : Nat} {v : Value} {xs : Ent} (h : RowsT T W base v xs) (hb : Below W.heap.size W W') : RowsT T W' base v xs := by
  obtain ⟨vs, hl, hf, ho⟩ := h
  exact ⟨vs, hl, fun i h1 h2 => (hf i h1 h2).kept (grownBy_of_below hb none) (fun r e => by cases e), own_below ho hb⟩

set_option maxRecDepth 100000 in
set_option maxHeartbeats 1000000 in
theorem awake_any (w : World) (hg : Glob w) (hm : MayT w) :
    Calls Tryd.prog 10 #[] w fun e w' => e = .returned (.bool true) ∧ Below w.heap.size w w' := by
  have hS := Sess.start hg hm
  have hN := new_step hS 1 (by omega) (by omega)
  go_enter Tryd.func10, Tryd.ntmps10
  go_wp2_with fail
  refine hN.mono ?_
  rintro e w1 ⟨rfl, hT, hB⟩
  have hS1 := hS.next hB
  have hA := add_step hS1 hT ((aB, 2), 0) (by decide) (by decide) (by decide) (by decide)
  clear hN hS hT hB hg hm hS1
  obtain ⟨b, hb⟩ : ∃ b, b = w.heap.size + 1 := ⟨_, rfl⟩
  obtain ⟨bm, hbm⟩ : ∃ bm, bm = w.heap.size := ⟨_, rfl⟩
  rw [← hb, ← hbm, aw1, as1, ac1] at hA
  rw [← hb]
  clear hb hbm
  go_wp2_with fail
  refine hA.mono ?_
  rintro e w2 ⟨rfl, hS, hT, -⟩
  have hA2 := add_step hS hT ((aB, 2), 3) (by decide) (by decide) (by decide) (by decide)
  rw [aw2, as2, ac2] at hA2
  clear hA hS hT
  go_wp2_with fail
  refine hA2.mono ?_
  rintro e w3 ⟨rfl, hS, hT, -⟩
  have hA3 := add_step hS hT ((cD, 1), 0) (by decide) (by decide) (by decide) (by decide)
  rw [aw3, as3, ac3] at hA3
  clear hA2 hS hT
  go_wp2_with fail
  refine hA3.mono ?_
  rintro e w4 ⟨rfl, hS, hT, -⟩
  have hA4 := add_step hS hT ((aB, 1), 8) (by decide) (by decide) (by decide) (by decide)
  rw [aw4, as4, ac4] at hA4
  clear hA3 hS hT
  go_wp2_with fail
  refine hA4.mono ?_
  rintro e w5 ⟨rfl, hS, hT, -⟩
  have hR := rows_step hT (by decide)
  have HS := Lib.hid (And.intro hS hT)
  clear hA4 hS hT
  go_wp2_with fail
  refine hR.mono ?_
  rintro e w6 ⟨v, ps, rfl, hP, hRo, hB6⟩
  rw [rw2 hP] at hRo
  have hTo := told_any w5.heap.size v l2 w6 hRo (by decide) hB6.size
  have HS6 := Lib.hid (And.intro (HS.out.1.next hB6) (HS.out.2.next hB6))
  clear hR hRo hB6 HS hP
  go_wp2_with fail
  refine hTo.mono ?_
  rintro e w7 ⟨v', rfl, hRT, hB7⟩
  have HS7 := Lib.hid (And.intro (HS6.out.1.next hB7) (And.intro (HS6.out.2.next hB7) hRT))
  clear hTo hB7 hRT HS6
  go_wp2_with fail
  obtain ⟨W8, hW8⟩ : ∃ W8, W8 = (w7.alloc (.cells #[.int .i64 0, .int .i64 0, .int .i64 1, .int .i64 0, .int .i64 0, .int .i64 0, .int .i64 0, .int .i64 0, .int .i64 0, .int .i64 0] 3)).alloc (.cells #[.string ⟨#[97, 46, 98]⟩, .int .u8 2, .int .i64 1, .slice (some ⟨w7.heap.size, 0, none⟩) 10 10] 71) := ⟨_, rfl⟩
  rw [← hW8]
  have hB8 : Below w7.heap.size w7 W8 := by
    rw [hW8]
    exact ((Below.refl _ w7).alloc (Nat.le_refl _) _).alloc (by simp) _
  have hL : RowsT 71 W8 0 (.slice (some ⟨w7.heap.size + 1, 0, none⟩) 1 1) l2 := by
    refine ⟨[.slice (some ⟨w7.heap.size, 0, none⟩) 10 10], rfl, ?_, rfl, .inr ⟨w7.heap.size + 1, 1, _, rfl, Nat.zero_le _, by rw [hW8]; exact ha_eq (by simp), Nat.le_refl _, by decide, rfl, rfl⟩⟩
    intro i h1 h2
    have : i = 0 := by simp [l2] at h1; exact h1
    subst this
    exact ⟨w7.heap.size, 10, _, rfl, Nat.zero_le _, by rw [hW8]; exact (ha_ne (by simp)).trans (ha_eq rfl), Nat.le_refl _, by decide, rfl, rfl⟩
  have hSa := same_any 0 v' _ l2 l2 W8 ((HS7.out.2.2.below hB8).zero) hL (by decide) (by decide) (by decide) (by decide)
  have HS8 := Lib.hid (And.intro (HS7.out.1.next hB8) (HS7.out.2.1.next hB8))
  clear HS7 hW8 hB8 hL
  refine hSa.mono ?_
  rintro e w9 ⟨rfl, hB9⟩
  have hS9 := HS8.out.1.next hB9
  have hAl := all_step (HS8.out.2.next hB9) (by decide)
  clear HS8 hSa hB9
  rw [decide_eq_true rfl]
  go_wp2_with fail
  refine hAl.mono ?_
  rintro e w10 ⟨rfl, hB10⟩
  have HS10 := Lib.hid (hS9.next hB10)
  clear hAl hS9 hB10
  simp only [List.length_cons, List.length_nil]
  go_wp2
  refine bodyPost_ret (v := .bool true) (by simp [results, Tryd.results10, go_sem]) rfl ⟨rfl, HS10.out.below⟩
end Go.Proofs.YthhcigmdocldnaaDoor

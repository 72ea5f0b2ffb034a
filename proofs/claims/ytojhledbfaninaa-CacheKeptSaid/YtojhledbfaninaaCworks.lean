/- The law's examples, walked. -/
import Derived.Test.YtojhledbfaninaaCworka
namespace Go.Proofs.Ytojhledbfaninaa
open Go Go.RowKit Go.Shelf Go.Sort
attribute [local go_sem] bneI

theorem fit_ex (d : Bytes) (m : Nat) (u : Int) (h : d.length ≤ 100) : FitE ⟨d, [49], m, [starB], 10, u⟩ := by
  refine ⟨Nat.le_trans h (by unfold maxLen; omega), by unfold maxLen; simp, fun t ht => ?_⟩
  rw [List.mem_singleton] at ht
  subst ht
  unfold maxLen starB
  simp
theorem few_ex {d : Bytes} {m : Nat} {u : Int} : FewE [exE d m u] := by
  intro p hp
  rw [List.mem_singleton] at hp
  subst hp
  show 1 ≤ 1000000
  omega
theorem glob_learn {W W' : World} {b bm : Nat} {most : Int} {L : List PE} (hg : Glob W) (h : CacheIs W Any b bm most L) (hgr : W.grownBy W' (some bm)) : Glob W' := by
  obtain ⟨m, hm⟩ := hg
  obtain ⟨l, hc, _⟩ := h
  obtain ⟨o, ho, hoc⟩ := hc.isMap
  exact ⟨m, cell_grown hgr hm (fun e => by injection e with e; exact map_ne ho hoc hm e)⟩

set_option maxRecDepth 100000 in
set_option maxHeartbeats 8000000 in
theorem works_any (w : World) (hg : Glob w) : Calls Try.prog 8 #[] w fun e w' => e = .returned (.bool true) ∧ Below w.heap.size w w' := by
  have hN1 := new_is 1 w Any (by decide) (by decide)
  go_enter Try.func8, Try.ntmps8
  go_wp2_with fail
  refine hN1.mono ?_
  rintro e w1 ⟨rfl, hb1, hc1, hs1⟩
  clear hN1
  go_wp2_with fail
  refine (new_is 1 w1 Any (by decide) (by decide)).mono ?_
  rintro e w2 ⟨rfl, hb2, hc2, hs2⟩
  have hT : Two w w2 1 (w.heap.size + 1) w.heap.size (w1.heap.size + 1) w1.heap.size [] [] := ⟨hb1.trans (hb2.mono hb1.size), hc1.below hb2, hc2, by omega, Nat.le_refl _, hb1.size⟩
  have HT := Lib.hid (And.intro hT (hg.keep hT.below))
  clear hT hb1 hc1 hs1 hb2 hc2 hs2
  go_wp2_with fail
  refine (some_any 3 10 w2).mono ?_
  rintro e w3 ⟨rfl, hmx, hbS⟩
  have HS := Lib.hid (And.intro hmx (And.intro (HT.out.1.step hbS) (HT.out.2.keep hbS)))
  clear hmx hbS HT
  have hL := learn_any (w.heap.size + 1) w.heap.size 1 Any _ [] w3 HS.out.2.1.c (by decide) [97, 46, 98] [49] 3 (some ⟨w2.heap.size + 1, 0, none⟩, 1, 1) [starB] 10 0 HS.out.1 (fit_ex [97, 46, 98] 3 0 (by decide)) HS.out.2.2
  unfold pcl shV at hL
  dsimp only at hL
  go_wp2_with fail
  refine hL.mono ?_
  rintro e w4 hP
  clear hL
  have hv : e = .returned (.int .i64 0) := by rw [hP.1]; exact ret_int (congrArg Int.ofNat ex1.1)
  subst hv
  have hT := HS.out.2.1.learn1 hP
  have hT2 : Two w w4 1 (w.heap.size + 1) w.heap.size (w1.heap.size + 1) w1.heap.size [exE [97, 46, 98] 3 10] [] := by
    have e1 : learnS 1 [] ⟨[97, 46, 98], [49], 3, [starB], 10, 0⟩ = [exE [97, 46, 98] 3 10] := ex1.2
    rw [e1] at hT
    exact hT
  have HT := Lib.hid (And.intro hT2 (glob_learn HS.out.2.2 HS.out.2.1.c hP.2.2))
  clear hT hT2 hP HS
  go_wp2_with fail
  refine (some_any 2 10 w4).mono ?_
  rintro e w5 ⟨rfl, hmx, hbS⟩
  have HS := Lib.hid (And.intro hmx (And.intro (HT.out.1.step hbS) (HT.out.2.keep hbS)))
  clear hmx hbS HT
  have hL := learn_any (w1.heap.size + 1) w1.heap.size 1 Any _ [] w5 HS.out.2.1.d (by decide) [97, 46, 98] [49] 2 (some ⟨w4.heap.size + 1, 0, none⟩, 1, 1) [starB] 10 0 HS.out.1 (fit_ex [97, 46, 98] 2 0 (by decide)) HS.out.2.2
  unfold pcl shV at hL
  dsimp only at hL
  go_wp2_with fail
  refine hL.mono ?_
  rintro e w6 hP
  clear hL
  have hv : e = .returned (.int .i64 0) := by rw [hP.1]; exact ret_int (congrArg Int.ofNat ex2.1)
  subst hv
  have hT := HS.out.2.1.learn2 hP
  have hT2 : Two w w6 1 (w.heap.size + 1) w.heap.size (w1.heap.size + 1) w1.heap.size [exE [97, 46, 98] 3 10] [exE [97, 46, 98] 2 10] := by
    have e1 : learnS 1 [] ⟨[97, 46, 98], [49], 2, [starB], 10, 0⟩ = [exE [97, 46, 98] 2 10] := ex2.2
    rw [e1] at hT
    exact hT
  have HT := Lib.hid (And.intro hT2 (glob_learn HS.out.2.2 HS.out.2.1.d hP.2.2))
  clear hT hT2 hP HS
  have hO := of_any (w.heap.size + 1) w.heap.size 1 Any [exE [97, 46, 98] 3 10] w6 HT.out.1.c few_ex [97, 46, 98] 9
  rw [ex3.1] at hO
  go_wp2_with fail
  refine hO.mono ?_
  rintro e w7 ⟨hP, hbO⟩
  clear hO
  have HT := Lib.hid (And.intro (HT.out.1.step hbO) (HT.out.2.keep hbO))
  clear hbO
  obtain ⟨y, rfl⟩ : ∃ y : EM, e = .returned (.tuple #[evp y, .bool true]) := by
    rcases hP with ⟨h, _⟩ | ⟨y, _, rfl, _⟩
    · cases h
    · exact ⟨y, rfl⟩
  obtain ⟨⟨d1, i1, k1, m1, a1, u1⟩, q1, n1, cc1⟩ := y
  rw [lit_ev]
  clear hP
  go_upto_region 6 with (fail)
  generalize hwb : World.alloc _ _ = w8
  have hbb : Below w7.heap.size w7 w8 := by rw [← hwb]; exact (Below.refl _ _).alloc (Nat.le_refl _) _
  have HT := Lib.hid (And.intro (HT.out.1.step hbb) (HT.out.2.keep hbb))
  clear hbb hwb
  have hO := of_any (w.heap.size + 1) w.heap.size 1 Any [exE [97, 46, 98] 3 10] w8 HT.out.1.c few_ex [97, 46, 98] 10
  rw [ex3.2] at hO
  go_wp2_with fail
  refine hO.mono ?_
  rintro e w9 ⟨hP, hbO⟩
  clear hO
  have HT := Lib.hid (And.intro (HT.out.1.step hbO) (HT.out.2.keep hbO))
  clear hbO
  obtain rfl : e = .returned (.tuple #[evp zeroM, .bool false]) := by
    rcases hP with ⟨_, rfl⟩ | ⟨y, h, _⟩
    · rfl
    · cases h
  unfold zeroM
  rw [lit_ev]
  clear hP
  go_upto_region 7 with (fail)
  generalize hwb : World.alloc _ _ = w10
  have hbb : Below w9.heap.size w9 w10 := by rw [← hwb]; exact (Below.refl _ _).alloc (Nat.le_refl _) _
  have HT := Lib.hid (And.intro (HT.out.1.step hbb) (HT.out.2.keep hbb))
  clear hbb hwb
  go_wp2_with fail
  refine (some_any 3 10 w10).mono ?_
  rintro e w11 ⟨rfl, hmx, hbS⟩
  have HS := Lib.hid (And.intro hmx (And.intro (HT.out.1.step hbS) (HT.out.2.keep hbS)))
  clear hmx hbS HT
  have hL := learn_any (w.heap.size + 1) w.heap.size 1 Any _ [exE [97, 46, 98] 3 10] w11 HS.out.2.1.c (by decide) [99, 46, 100] [49] 3 (some ⟨w10.heap.size + 1, 0, none⟩, 1, 1) [starB] 10 9 HS.out.1 (fit_ex [99, 46, 100] 3 9 (by decide)) HS.out.2.2
  unfold pcl shV at hL
  dsimp only at hL
  go_wp2_with fail
  refine hL.mono ?_
  rintro e w12 hP
  clear hL
  have hv : e = .returned (.int .i64 41) := by rw [hP.1]; exact ret_int (congrArg Int.ofNat ex4.1)
  subst hv
  have hT := HS.out.2.1.learn1 hP
  have hT2 : Two w w12 1 (w.heap.size + 1) w.heap.size (w1.heap.size + 1) w1.heap.size [exE [97, 46, 98] 3 10] [exE [97, 46, 98] 2 10] := by
    have e1 : learnS 1 [exE [97, 46, 98] 3 10] ⟨[99, 46, 100], [49], 3, [starB], 10, 9⟩ = [exE [97, 46, 98] 3 10] := ex4.2
    rw [e1] at hT
    exact hT
  have HT := Lib.hid (And.intro hT2 (glob_learn HS.out.2.2 HS.out.2.1.c hP.2.2))
  clear hT hT2 hP HS
  go_wp2_with fail
  refine (some_any 3 10 w12).mono ?_
  rintro e w13 ⟨rfl, hmx, hbS⟩
  have HS := Lib.hid (And.intro hmx (And.intro (HT.out.1.step hbS) (HT.out.2.keep hbS)))
  clear hmx hbS HT
  have hL := learn_any (w1.heap.size + 1) w1.heap.size 1 Any _ [exE [97, 46, 98] 2 10] w13 HS.out.2.1.d (by decide) [99, 46, 100] [49] 3 (some ⟨w12.heap.size + 1, 0, none⟩, 1, 1) [starB] 10 9 HS.out.1 (fit_ex [99, 46, 100] 3 9 (by decide)) HS.out.2.2
  unfold pcl shV at hL
  dsimp only at hL
  go_wp2_with fail
  refine hL.mono ?_
  rintro e w14 hP
  clear hL
  have hv : e = .returned (.int .i64 0) := by rw [hP.1]; exact ret_int (congrArg Int.ofNat ex5.1)
  subst hv
  have hT := HS.out.2.1.learn2 hP
  have hT2 : Two w w14 1 (w.heap.size + 1) w.heap.size (w1.heap.size + 1) w1.heap.size [exE [97, 46, 98] 3 10] [exE [99, 46, 100] 3 19] := by
    have e1 : learnS 1 [exE [97, 46, 98] 2 10] ⟨[99, 46, 100], [49], 3, [starB], 10, 9⟩ = [exE [99, 46, 100] 3 19] := ex5.2
    rw [e1] at hT
    exact hT
  have HT := Lib.hid (And.intro hT2 (glob_learn HS.out.2.2 HS.out.2.1.d hP.2.2))
  clear hT hT2 hP HS
  go_wp2_with fail
  refine (some_any 3 10 w14).mono ?_
  rintro e w15 ⟨rfl, hmx, hbS⟩
  have HS := Lib.hid (And.intro hmx (And.intro (HT.out.1.step hbS) (HT.out.2.keep hbS)))
  clear hmx hbS HT
  have hL := learn_any (w.heap.size + 1) w.heap.size 1 Any _ [exE [97, 46, 98] 3 10] w15 HS.out.2.1.c (by decide) [99, 46, 100] [49] 3 (some ⟨w14.heap.size + 1, 0, none⟩, 1, 1) [starB] 10 10 HS.out.1 (fit_ex [99, 46, 100] 3 10 (by decide)) HS.out.2.2
  unfold pcl shV at hL
  dsimp only at hL
  go_wp2_with fail
  refine hL.mono ?_
  rintro e w16 hP
  clear hL
  have hv : e = .returned (.int .i64 0) := by rw [hP.1]; exact ret_int (congrArg Int.ofNat ex6.1)
  subst hv
  have hT := HS.out.2.1.learn1 hP
  have hT2 : Two w w16 1 (w.heap.size + 1) w.heap.size (w1.heap.size + 1) w1.heap.size [exE [99, 46, 100] 3 20] [exE [99, 46, 100] 3 19] := by
    have e1 : learnS 1 [exE [97, 46, 98] 3 10] ⟨[99, 46, 100], [49], 3, [starB], 10, 10⟩ = [exE [99, 46, 100] 3 20] := ex6.2
    rw [e1] at hT
    exact hT
  have HT := Lib.hid (And.intro hT2 (glob_learn HS.out.2.2 HS.out.2.1.c hP.2.2))
  clear hT hT2 hP HS
  have hO := of_any (w.heap.size + 1) w.heap.size 1 Any [exE [99, 46, 100] 3 20] w16 HT.out.1.c few_ex [97, 46, 98] 0
  rw [ex7] at hO
  go_wp2_with fail
  refine hO.mono ?_
  rintro e w17 ⟨hP, hbO⟩
  clear hO
  have HT := Lib.hid (And.intro (HT.out.1.step hbO) (HT.out.2.keep hbO))
  clear hbO
  obtain rfl : e = .returned (.tuple #[evp zeroM, .bool false]) := by
    rcases hP with ⟨_, rfl⟩ | ⟨y, h, _⟩
    · rfl
    · cases h
  unfold zeroM
  rw [lit_ev]
  clear hP
  go_upto_region 10 with (fail)
  generalize hwb : World.alloc _ _ = w18
  have hbb : Below w17.heap.size w17 w18 := by rw [← hwb]; exact (Below.refl _ _).alloc (Nat.le_refl _) _
  have HT := Lib.hid (And.intro (HT.out.1.step hbb) (HT.out.2.keep hbb))
  clear hbb hwb
  have hA := all_any (w.heap.size + 1) w.heap.size 1 Any [exE [99, 46, 100] 3 20] w18 HT.out.1.c (by decide) few_ex
  go_wp2_with fail
  refine hA.mono ?_
  rintro e w19 ⟨⟨v, zs, rfl, hmap, hown, htx⟩, hbA⟩
  obtain ⟨pa, ca, rfl⟩ := hown.row.sh
  have hz : zs.length = 1 := by have := congrArg List.length hmap; simpa using this
  rw [hz]
  have HT := Lib.hid (And.intro (HT.out.1.step hbA) (HT.out.2.keep hbA))
  clear hA hmap hown htx hbA hz
  have hA := all_any (w1.heap.size + 1) w1.heap.size 1 Any [exE [99, 46, 100] 3 19] w19 HT.out.1.d (by decide) few_ex
  go_wp2_with fail
  refine hA.mono ?_
  rintro e w20 ⟨⟨v, zs, rfl, hmap, hown, htx⟩, hbA⟩
  obtain ⟨pa, ca, rfl⟩ := hown.row.sh
  have hz : zs.length = 1 := by have := congrArg List.length hmap; simpa using this
  rw [hz]
  have HT := Lib.hid (And.intro (HT.out.1.step hbA) (HT.out.2.keep hbA))
  clear hA hmap hown htx hbA hz
  go_wp2
  refine bodyPost_ret (v := .bool true) (by simp [results, Try.results8, go_sem]) rfl ⟨rfl, HT.out.1.below⟩
end Go.Proofs.Ytojhledbfaninaa

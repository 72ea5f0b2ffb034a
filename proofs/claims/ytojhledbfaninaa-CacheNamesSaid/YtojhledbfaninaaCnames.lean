/- CacheNames, walked. Printed by wip/tools/gen_names.py. -/
import Derived.Test.YtojhledbfaninaaCnama
namespace Go.Proofs.Ytojhledbfaninaa
open Go Go.RowKit Go.Shelf Go.Sort
attribute [local go_sem] bneI

set_option maxRecDepth 100000 in
set_option maxHeartbeats 16000000 in
theorem names_any (w : World) (hg : Glob w) : Calls Try.prog 3 #[] w fun e w' => e = .returned (.bool true) ∧ Below w.heap.size w w' := by
  have H := Lib.hid hg
  clear hg
  have hO := of_nil ⟨#[97, 46, 98]⟩ 0 w
  go_enter Try.func3, Try.ntmps3
  go_wp2_with fail
  refine hO.mono ?_
  rintro e w1 ⟨rfl, hb⟩
  clear hO
  unfold zeroM
  rw [lit_ev]
  have HB := Lib.hid hb
  clear hb
  go_upto_region 3 with (fail)
  generalize hwb : World.alloc _ _ = w2
  have hb : Below w.heap.size w w2 := by rw [← hwb]; exact HB.out.alloc HB.out.size _
  have HB := Lib.hid hb
  clear hwb hb
  have hW := works_any w2 (H.out.keep HB.out)
  go_wp2_with fail
  refine hW.mono ?_
  rintro e w3 ⟨rfl, hb⟩
  have HB := Lib.hid (HB.out.trans (hb.mono HB.out.size))
  clear hW hb
  have hS := some_any 1 1 w3
  go_wp2_with fail
  refine hS.mono ?_
  rintro e w4 ⟨rfl, _, hb⟩
  have HB := Lib.hid (HB.out.trans (hb.mono HB.out.size))
  clear hS hb
  have hL := learn_nil ⟨#[97, 46, 98]⟩ ⟨#[49]⟩ 1 (some ⟨w3.heap.size + 1, 0, none⟩, 1, 1) 1 0 w4
  dsimp only at hL
  go_wp2_with fail
  refine hL.mono ?_
  rintro e w5 ⟨rfl, hb⟩
  have HB := Lib.hid (HB.out.trans (hb.mono HB.out.size))
  clear hL hb
  have hA := all_nil w5
  have hC := copy_nil w5
  go_wp2_with fail
  refine hA.mono ?_
  rintro e w6 ⟨rfl, rfl⟩
  clear hA
  go_wp2_with fail
  refine hC.mono ?_
  rintro e w6 ⟨rfl, rfl⟩
  clear hC
  go_wp2_with fail
  obtain ⟨W4, hW4⟩ : ∃ W4, W4 = w5.alloc (.cells #[.int .i64 0, .int .i64 (-1), .int .i64 9] 3) := ⟨_, rfl⟩
  rw [← hW4]
  obtain ⟨g4, hg4⟩ : ∃ g, g = w5.heap.size := ⟨_, rfl⟩
  rw [← hg4]
  have hH4 : W4.heap[g4]? = some (.cells #[.int .i64 0, .int .i64 (-1), .int .i64 9] 3 (0, 0)) := by rw [hW4, hg4]; exact ha_eq rfl
  have hB4 : Below w.heap.size w W4 := by rw [hW4]; exact HB.out.alloc HB.out.size _
  have H4 := Lib.hid (And.intro hH4 hB4)
  clear hW4 hg4 hH4 hB4 HB
  go_loopw [62] (fun iv wr => ∃ i : Nat, iv = .int .i64 (i : Int) ∧ i ≤ 3 ∧ Below W4.heap.size W4 wr)
    (fun iv _ => 3 - natI iv)
  case atStart => exact ⟨0, rfl, by omega, Below.refl _ _⟩
  case round =>
    obtain ⟨i, rfl, hi, hB⟩ := hrel
    by_cases hlast : i < 3
    · have hli : (i : Int) < 3 := by omega
      have hHr := (hB.block _ (Array.getElem?_eq_some_iff.1 H4.out.1).1).trans H4.out.1
      obtain ⟨n, c0, hbad⟩ : ∃ n : Int, wr.cell? ⟨g4, i, none⟩ = some (.int .i64 n) ∧ (n < 1 ∨ 8 < n) := by
        have hi' : i = 0 ∨ i = 1 ∨ i = 2 := by omega
        rcases hi' with rfl | rfl | rfl
        · exact ⟨0, by simp [World.cell?, hHr], by omega⟩
        · exact ⟨-1, by simp [World.cell?, hHr], by omega⟩
        · exact ⟨9, by simp [World.cell?, hHr], by omega⟩
      have hN := new_bad n wr hbad
      have hO := load_any n (.slice none 0 0) [] Any wr (.inl ⟨rfl, none, 0, rfl⟩) (fun x hx => by cases hx) (fun x hx => by cases hx) (by simp) (H.out.keep (H4.out.2.trans (hB.mono H4.out.2.size)))
      have HL := Lib.hid (nl0 hbad)
      have HB := Lib.hid hB
      clear hHr hbad hB
      go_wp2_with fail
      refine hN.mono ?_
      rintro e w5 ⟨rfl, rfl⟩
      clear hN
      go_wp2_with fail
      refine hO.mono ?_
      rintro e w5 ⟨hP, hb⟩
      obtain rfl := load_no hP HL.out (by decide)
      have HB := Lib.hid (HB.out.trans (hb.mono HB.out.size))
      clear hO hP hb
      go_wp2
      go_roundw
      case rel => exact ⟨i + 1, by simp, by omega, HB.out⟩
      case measure => simp [natI]; omega
    · have hli : ¬ (i : Int) < 3 := by omega
      have HB := Lib.hid (H4.out.2.trans (hB.mono H4.out.2.size))
      clear hB hi hlast H4
      generalize hww : wr = w6 at *
      clear hww

      have hN := new_is 3 w6 Any (by decide) (by decide)
      go_wp2_with fail
      refine hN.mono ?_
      rintro e w7 ⟨rfl, hb, hc, hs⟩
      have h1 : One w w7 (w6.heap.size + 1) w6.heap.size 3 [] := ⟨HB.out.trans (hb.mono HB.out.size), H.out.keep (HB.out.trans (hb.mono HB.out.size)), hc, HB.out.size⟩
      have HT := Lib.hid h1
      clear hN hb hc hs h1 HB
      have hS := some_any 3 10 w7
      go_wp2_with fail
      refine hS.mono ?_
      rintro e w8 ⟨rfl, hmx, hb⟩
      have HT := Lib.hid (And.intro (HT.out.step hb) (hmx.mono anyB))
      clear hS hmx hb
      go_upto_region 15 with (fail)
      obtain ⟨w9, hw9⟩ : ∃ w9, w9 = w8.alloc (.cells #[.int .u8 3, .slice (some ⟨w7.heap.size + 1, 0, none⟩) 1 1, .int .i64 10] 25) := ⟨_, rfl⟩
      rw [← hw9]
      have hb : Below w8.heap.size w8 w9 := by rw [hw9]; exact (Below.refl _ _).alloc (Nat.le_refl _) _
      have hx : w9.heap[w8.heap.size]? = some (.cells #[.int .u8 3, .slice (some ⟨w7.heap.size + 1, 0, none⟩) 1 1, .int .i64 10] 25 (0, 0)) := by rw [hw9]; exact ha_eq rfl
      have hp : Pol w9 w8.heap.size (w7.heap.size + 1) := ⟨by simp [World.cell?, hx], by simp [World.cell?, hx], by simp [World.cell?, hx], HT.out.2.below hb⟩
      have HT := Lib.hid (And.intro (HT.out.1.step hb) hp)
      clear hw9 hb hx hp
      have p0 := HT.out.2.p0
      have p1 := HT.out.2.p1
      have p2 := HT.out.2.p2
      have hL := learn_any (w6.heap.size + 1) w6.heap.size 3 Any _ [] w9 HT.out.1.c (by decide) dAB [49] 3 (some ⟨w7.heap.size + 1, 0, none⟩, 1, 1) [starB] 10 (-1) HT.out.2.px (fit_star dAB [49] 3 10 (-1) (by decide) (by decide)) HT.out.1.glob
      unfold pcl shV at hL
      dsimp only at hL
      go_wp2_with fail
      refine hL.mono ?_
      rintro e w10 hP
      clear hL p0 p1 p2
      obtain rfl := learn_out hP na1
      have hT := HT.out.1.learn hP
      have hp := HT.out.2.learn HT.out.1 hP
      rw [show learnS 3 [] ⟨dAB, [49], 3, [starB], 10, -1⟩ = [] from (na1).2] at hT
      have HT := Lib.hid (And.intro hT hp)
      clear hT hp hP
      have p0 := HT.out.2.p0
      have p1 := HT.out.2.p1
      have p2 := HT.out.2.p2
      have hL := learn_any (w6.heap.size + 1) w6.heap.size 3 Any _ [] w10 HT.out.1.c (by decide) dAB [49] 3 (some ⟨w7.heap.size + 1, 0, none⟩, 1, 1) [starB] 10 (1099511627777) HT.out.2.px (fit_star dAB [49] 3 10 (1099511627777) (by decide) (by decide)) HT.out.1.glob
      unfold pcl shV at hL
      dsimp only at hL
      go_wp2_with fail
      refine hL.mono ?_
      rintro e w11 hP
      clear hL p0 p1 p2
      obtain rfl := learn_out hP na2
      have hT := HT.out.1.learn hP
      have hp := HT.out.2.learn HT.out.1 hP
      rw [show learnS 3 [] ⟨dAB, [49], 3, [starB], 10, 1099511627777⟩ = [] from (na2).2] at hT
      have HT := Lib.hid (And.intro hT hp)
      clear hT hp hP
      have p0 := HT.out.2.p0
      have p1 := HT.out.2.p1
      have p2 := HT.out.2.p2
      have hL := learn_any (w6.heap.size + 1) w6.heap.size 3 Any _ [] w11 HT.out.1.c (by decide) [65, 46, 98] [49] 3 (some ⟨w7.heap.size + 1, 0, none⟩, 1, 1) [starB] 10 (0) HT.out.2.px (fit_star [65, 46, 98] [49] 3 10 (0) (by decide) (by decide)) HT.out.1.glob
      unfold pcl shV at hL
      dsimp only at hL
      go_wp2_with fail
      refine hL.mono ?_
      rintro e w12 hP
      clear hL p0 p1 p2
      obtain rfl := learn_out hP na3
      have hT := HT.out.1.learn hP
      have hp := HT.out.2.learn HT.out.1 hP
      rw [show learnS 3 [] ⟨[65, 46, 98], [49], 3, [starB], 10, 0⟩ = [] from (na3).2] at hT
      have HT := Lib.hid (And.intro hT hp)
      clear hT hp hP
      have p0 := HT.out.2.p0
      have p1 := HT.out.2.p1
      have p2 := HT.out.2.p2
      have hL := learn_any (w6.heap.size + 1) w6.heap.size 3 Any _ [] w12 HT.out.1.c (by decide) dAB [] 3 (some ⟨w7.heap.size + 1, 0, none⟩, 1, 1) [starB] 10 (0) HT.out.2.px (fit_star dAB [] 3 10 (0) (by decide) (by decide)) HT.out.1.glob
      unfold pcl shV at hL
      dsimp only at hL
      go_wp2_with fail
      refine hL.mono ?_
      rintro e w13 hP
      clear hL p0 p1 p2
      obtain rfl := learn_out hP na4
      have hT := HT.out.1.learn hP
      have hp := HT.out.2.learn HT.out.1 hP
      rw [show learnS 3 [] ⟨dAB, [], 3, [starB], 10, 0⟩ = [] from (na4).2] at hT
      have HT := Lib.hid (And.intro hT hp)
      clear hT hp hP
      have p0 := HT.out.2.p0
      have p1 := HT.out.2.p1
      have p2 := HT.out.2.p2
      have hL := learn_any (w6.heap.size + 1) w6.heap.size 3 Any _ [] w13 HT.out.1.c (by decide) dAB [49, 45] 3 (some ⟨w7.heap.size + 1, 0, none⟩, 1, 1) [starB] 10 (0) HT.out.2.px (fit_star dAB [49, 45] 3 10 (0) (by decide) (by decide)) HT.out.1.glob
      unfold pcl shV at hL
      dsimp only at hL
      go_wp2_with fail
      refine hL.mono ?_
      rintro e w14 hP
      clear hL p0 p1 p2
      obtain rfl := learn_out hP na5
      have hT := HT.out.1.learn hP
      have hp := HT.out.2.learn HT.out.1 hP
      rw [show learnS 3 [] ⟨dAB, [49, 45], 3, [starB], 10, 0⟩ = [] from (na5).2] at hT
      have HT := Lib.hid (And.intro hT hp)
      clear hT hp hP
      have p0 := HT.out.2.p0
      have p1 := HT.out.2.p1
      have p2 := HT.out.2.p2
      have hL := learn_any (w6.heap.size + 1) w6.heap.size 3 Any _ [] w14 HT.out.1.c (by decide) dAB i33 3 (some ⟨w7.heap.size + 1, 0, none⟩, 1, 1) [starB] 10 (0) HT.out.2.px (fit_star dAB i33 3 10 (0) (by decide) (by decide)) HT.out.1.glob
      unfold pcl shV at hL
      dsimp only at hL
      go_wp2_with fail
      refine hL.mono ?_
      rintro e w15 hP
      clear hL p0 p1 p2
      obtain rfl := learn_out hP na6
      have hT := HT.out.1.learn hP
      have hp := HT.out.2.learn HT.out.1 hP
      rw [show learnS 3 [] ⟨dAB, i33, 3, [starB], 10, 0⟩ = [] from (na6).2] at hT
      have HT := Lib.hid (And.intro hT hp)
      clear hT hp hP
      have hL := learn_any (w6.heap.size + 1) w6.heap.size 3 Any _ [] w15 HT.out.1.c (by decide) dAB [49] 0 (none, 0, 0) [] 0 (0) (mx_none w15) (fit_none dAB [49] 0 0 (0) (by decide) (by decide)) HT.out.1.glob
      unfold pcl shV at hL
      dsimp only at hL
      go_wp2_with fail
      refine hL.mono ?_
      rintro e w16 hP
      clear hL
      obtain rfl := learn_out hP na7
      have hT := HT.out.1.learn hP
      have hp := HT.out.2.learn HT.out.1 hP
      rw [show learnS 3 [] ⟨dAB, [49], 0, [], 0, 0⟩ = [] from (na7).2] at hT
      have HT := Lib.hid (And.intro hT hp)
      clear hT hp hP
      have hA := all_any (w6.heap.size + 1) w6.heap.size 3 Any [] w16 HT.out.1.c (by decide) (few_of rfl)
      go_wp2_with fail
      refine hA.mono ?_
      rintro e w17 ⟨⟨v, zs, rfl, hmap, hown, htx⟩, hb⟩
      clear hA
      have HT := Lib.hid (And.intro (HT.out.1.step hb) (HT.out.2.step hb))
      obtain ⟨pa, ca, rfl⟩ := hown.row.sh
      obtain rfl : zs = [] := by simpa using hmap
      rw [List.length_nil]
      clear hmap hown htx hb
      have p0 := HT.out.2.p0
      have p1 := HT.out.2.p1
      have p2 := HT.out.2.p2
      have hL := learn_any (w6.heap.size + 1) w6.heap.size 3 Any _ [] w17 HT.out.1.c (by decide) dEX [49] 3 (some ⟨w7.heap.size + 1, 0, none⟩, 1, 1) [starB] 10 (0) HT.out.2.px (fit_star dEX [49] 3 10 (0) (by decide) (by decide)) HT.out.1.glob
      unfold pcl shV at hL
      dsimp only at hL
      go_wp2_with fail
      refine hL.mono ?_
      rintro e w18 hP
      clear hL p0 p1 p2
      obtain rfl := learn_out hP nb1
      have hT := HT.out.1.learn hP
      have hp := HT.out.2.learn HT.out.1 hP
      rw [show learnS 3 [] ⟨dEX, [49], 3, [starB], 10, 0⟩ = [nE dEX [49] 3 10 10] from (nb1).2] at hT
      have HT := Lib.hid (And.intro hT hp)
      clear hT hp hP
      have hS := some_any 2 30 w18
      go_wp2_with fail
      refine hS.mono ?_
      rintro e w19 ⟨rfl, hmx, hb⟩
      have HT := Lib.hid (And.intro (HT.out.1.step hb) (HT.out.2.step hb))
      have HM := Lib.hid hmx
      clear hS hmx hb
      have hL := learn_any (w6.heap.size + 1) w6.heap.size 3 Any _ [nE dEX [49] 3 10 10] w19 HT.out.1.c (by decide) dTX [49] 2 (some ⟨w18.heap.size + 1, 0, none⟩, 1, 1) [starB] 30 (0) HM.out (fit_star dTX [49] 2 30 (0) (by decide) (by decide)) HT.out.1.glob
      unfold pcl shV at hL
      dsimp only at hL
      go_wp2_with fail
      refine hL.mono ?_
      rintro e w20 hP
      clear hL
      obtain rfl := learn_out hP nb2
      have hT := HT.out.1.learn hP
      have hp := HT.out.2.learn HT.out.1 hP
      rw [show learnS 3 [nE dEX [49] 3 10 10] ⟨dTX, [49], 2, [starB], 30, 0⟩ = [nE dEX [49] 3 10 10, nE dTX [49] 2 30 30] from (nb2).2] at hT
      have HT := Lib.hid (And.intro hT hp)
      clear hT hp hP
      have hS := some_any 1 20 w20
      go_wp2_with fail
      refine hS.mono ?_
      rintro e w21 ⟨rfl, hmx, hb⟩
      have HT := Lib.hid (And.intro (HT.out.1.step hb) (HT.out.2.step hb))
      have HM := Lib.hid hmx
      clear hS hmx hb
      have hL := learn_any (w6.heap.size + 1) w6.heap.size 3 Any _ [nE dEX [49] 3 10 10, nE dTX [49] 2 30 30] w21 HT.out.1.c (by decide) dNX [49] 1 (some ⟨w20.heap.size + 1, 0, none⟩, 1, 1) [starB] 20 (0) HM.out (fit_star dNX [49] 1 20 (0) (by decide) (by decide)) HT.out.1.glob
      unfold pcl shV at hL
      dsimp only at hL
      go_wp2_with fail
      refine hL.mono ?_
      rintro e w22 hP
      clear hL
      obtain rfl := learn_out hP nb3
      have hT := HT.out.1.learn hP
      have hp := HT.out.2.learn HT.out.1 hP
      rw [show learnS 3 [nE dEX [49] 3 10 10, nE dTX [49] 2 30 30] ⟨dNX, [49], 1, [starB], 20, 0⟩ = [nE dEX [49] 3 10 10, nE dNX [49] 1 20 20, nE dTX [49] 2 30 30] from (nb3).2] at hT
      have HT := Lib.hid (And.intro hT hp)
      clear hT hp hP
      have hC := copyC_any (w6.heap.size + 1) w6.heap.size 3 Any [nE dEX [49] 3 10 10, nE dNX [49] 1 20 20, nE dTX [49] 2 30 30] w22 HT.out.1.c
      go_wp2_with fail
      refine hC.mono ?_
      rintro e w23 ⟨b2, m2, rfl, hm2, hb2, hc2, hb⟩
      clear hC
      have HN := Lib.hid (Nat.lt_of_lt_of_le (show w6.heap.size < w22.heap.size by obtain ⟨l, hc, _⟩ := HT.out.1.c; obtain ⟨ob, hob, _⟩ := hc.isMap; exact (Array.getElem?_eq_some_iff.1 hob).1) hm2)
      have h2 : One w w23 b2 m2 3 [nE dEX [49] 3 10 10, nE dNX [49] 1 20 20, nE dTX [49] 2 30 30] := ⟨(HT.out.1.step hb).below, (HT.out.1.step hb).glob, hc2, Nat.le_trans HT.out.1.below.size hm2⟩
      have HT := Lib.hid (And.intro (HT.out.1.step hb) (And.intro h2 (HT.out.2.step hb)))
      clear hm2 hb2 hc2 hb h2
      have p0 := HT.out.2.2.p0
      have p1 := HT.out.2.2.p1
      have p2 := HT.out.2.2.p2
      have hL := learn_any (w6.heap.size + 1) w6.heap.size 3 Any _ [nE dEX [49] 3 10 10, nE dNX [49] 1 20 20, nE dTX [49] 2 30 30] w23 HT.out.1.c (by decide) dZX [49] 3 (some ⟨w7.heap.size + 1, 0, none⟩, 1, 1) [starB] 10 (9) HT.out.2.2.px (fit_star dZX [49] 3 10 (9) (by decide) (by decide)) HT.out.1.glob
      unfold pcl shV at hL
      dsimp only at hL
      go_wp2_with fail
      refine hL.mono ?_
      rintro e w24 hP
      clear hL p0 p1 p2
      obtain rfl := learn_out hP nb4
      have hT := HT.out.1.learn hP
      have hp := HT.out.2.2.learn HT.out.1 hP
      rw [show learnS 3 [nE dEX [49] 3 10 10, nE dNX [49] 1 20 20, nE dTX [49] 2 30 30] ⟨dZX, [49], 3, [starB], 10, 9⟩ = [nE dEX [49] 3 10 10, nE dTX [49] 2 30 30, nE dZX [49] 3 10 19] from (nb4).2] at hT
      have ho := HT.out.2.1.other HT.out.1 hP (Nat.ne_of_lt HN.out)
      have HT := Lib.hid (And.intro hT (And.intro ho hp))
      clear hT ho hp hP
      have p0 := HT.out.2.2.p0
      have p1 := HT.out.2.2.p1
      have p2 := HT.out.2.2.p2
      have hL := learn_any b2 m2 3 Any _ [nE dEX [49] 3 10 10, nE dNX [49] 1 20 20, nE dTX [49] 2 30 30] w24 HT.out.2.1.c (by decide) dZX [49] 3 (some ⟨w7.heap.size + 1, 0, none⟩, 1, 1) [starB] 10 (10) HT.out.2.2.px (fit_star dZX [49] 3 10 (10) (by decide) (by decide)) HT.out.2.1.glob
      unfold pcl shV at hL
      dsimp only at hL
      go_wp2_with fail
      refine hL.mono ?_
      rintro e w25 hP
      clear hL p0 p1 p2
      obtain rfl := learn_out hP nb5
      have hT := HT.out.2.1.learn hP
      have hp := HT.out.2.2.learn HT.out.2.1 hP
      rw [show learnS 3 [nE dEX [49] 3 10 10, nE dNX [49] 1 20 20, nE dTX [49] 2 30 30] ⟨dZX, [49], 3, [starB], 10, 10⟩ = [nE dNX [49] 1 20 20, nE dTX [49] 2 30 30, nE dZX [49] 3 10 20] from (nb5).2] at hT
      have ho := HT.out.1.other HT.out.2.1 hP (Nat.ne_of_gt HN.out)
      have HT := Lib.hid (And.intro ho (And.intro hT hp))
      clear hT ho hp hP
      have hA := all_any (w6.heap.size + 1) w6.heap.size 3 Any [nE dEX [49] 3 10 10, nE dTX [49] 2 30 30, nE dZX [49] 3 10 19] w25 HT.out.1.c (by decide) (few_of rfl)
      go_wp2_with fail
      refine hA.mono ?_
      rintro e w26 ⟨⟨v, zs, rfl, hmap, hown, htx⟩, hb⟩
      clear hA
      have HT := Lib.hid (And.intro (HT.out.1.step hb) (And.intro (HT.out.2.1.step hb) (HT.out.2.2.step hb)))
      obtain ⟨gA, cA, rfl, _, _, hcell⟩ := hown.cells hmap (by decide)
      obtain ⟨dA0, uA0⟩ := hcell 0 (by decide)
      obtain ⟨dA1, uA1⟩ := hcell 1 (by decide)
      obtain ⟨dA2, uA2⟩ := hcell 2 (by decide)
      simp only [List.getElem_cons_zero, List.getElem_cons_succ, nE, str, Nat.zero_mul, Nat.one_mul, Nat.zero_add, Nat.reduceMul, Nat.reduceAdd] at dA0 dA1 dA2 uA0 uA1 uA2
      have HDA := Lib.hid (And.intro dA0 (And.intro dA1 (And.intro dA2 uA2)))
      clear hmap hown htx hcell uA0 uA1 uA2 dA0 dA1 dA2
      clear hb
      have hA := all_any b2 m2 3 Any [nE dNX [49] 1 20 20, nE dTX [49] 2 30 30, nE dZX [49] 3 10 20] w26 HT.out.2.1.c (by decide) (few_of rfl)
      go_wp2_with fail
      refine hA.mono ?_
      rintro e w27 ⟨⟨v, zs, rfl, hmap, hown, htx⟩, hb⟩
      clear hA
      have HT := Lib.hid (And.intro (HT.out.1.step hb) (And.intro (HT.out.2.1.step hb) (HT.out.2.2.step hb)))
      have HDA := Lib.hid (And.intro (below_keep hb _ _ HDA.out.1) (And.intro (below_keep hb _ _ HDA.out.2.1) (And.intro (below_keep hb _ _ HDA.out.2.2.1) (below_keep hb _ _ HDA.out.2.2.2))))
      obtain ⟨gB, cB, rfl, _, _, hcell⟩ := hown.cells hmap (by decide)
      obtain ⟨dB0, uB0⟩ := hcell 0 (by decide)
      obtain ⟨dB1, uB1⟩ := hcell 1 (by decide)
      obtain ⟨dB2, uB2⟩ := hcell 2 (by decide)
      simp only [List.getElem_cons_zero, List.getElem_cons_succ, nE, str, Nat.zero_mul, Nat.one_mul, Nat.zero_add, Nat.reduceMul, Nat.reduceAdd] at dB0 dB1 dB2 uB0 uB1 uB2
      have HDB := Lib.hid (And.intro dB0 (And.intro dB1 (And.intro dB2 uB2)))
      clear hmap hown htx hcell uB0 uB1 uB2 dB0 dB1 dB2
      clear hb
      obtain ⟨a0, a1, a2, a3⟩ := HDA.out
      obtain ⟨e0, e1, e2, _⟩ := HDB.out
      clear HDA HDB
      have hN := new_is 2 w27 Any (by decide) (by decide)
      go_wp2_with fail
      refine hN.mono ?_
      rintro e w28 ⟨rfl, hb, hc, hs⟩
      have h1 : One w w28 (w27.heap.size + 1) w27.heap.size 2 [] := ⟨(HT.out.1.step hb).below, (HT.out.1.step hb).glob, hc, HT.out.1.below.size⟩
      have HT := Lib.hid (And.intro h1 (HT.out.2.2.step hb))
      clear hN hb hc hs h1 HN a0 a1 a2 a3 e0 e1 e2
      have hS := some_any 2 5 w28
      go_wp2_with fail
      refine hS.mono ?_
      rintro e w29 ⟨rfl, hmx, hb⟩
      have HT := Lib.hid (And.intro (HT.out.1.step hb) (HT.out.2.step hb))
      have HM := Lib.hid hmx
      clear hS hmx hb
      have hL := learn_any (w27.heap.size + 1) w27.heap.size 2 Any _ [] w29 HT.out.1.c (by decide) dBX [49] 2 (some ⟨w28.heap.size + 1, 0, none⟩, 1, 1) [starB] 5 (0) HM.out (fit_star dBX [49] 2 5 (0) (by decide) (by decide)) HT.out.1.glob
      unfold pcl shV at hL
      dsimp only at hL
      go_wp2_with fail
      refine hL.mono ?_
      rintro e w30 hP
      clear hL
      obtain rfl := learn_out hP nc1
      have hT := HT.out.1.learn hP
      have hp := HT.out.2.learn HT.out.1 hP
      rw [show learnS 2 [] ⟨dBX, [49], 2, [starB], 5, 0⟩ = [nE dBX [49] 2 5 5] from (nc1).2] at hT
      have HT := Lib.hid (And.intro hT hp)
      clear hT hp hP
      have hS := some_any 2 5 w30
      go_wp2_with fail
      refine hS.mono ?_
      rintro e w31 ⟨rfl, hmx, hb⟩
      have HT := Lib.hid (And.intro (HT.out.1.step hb) (HT.out.2.step hb))
      have HM := Lib.hid hmx
      clear hS hmx hb
      have hL := learn_any (w27.heap.size + 1) w27.heap.size 2 Any _ [nE dBX [49] 2 5 5] w31 HT.out.1.c (by decide) dAX [49] 2 (some ⟨w30.heap.size + 1, 0, none⟩, 1, 1) [starB] 5 (0) HM.out (fit_star dAX [49] 2 5 (0) (by decide) (by decide)) HT.out.1.glob
      unfold pcl shV at hL
      dsimp only at hL
      go_wp2_with fail
      refine hL.mono ?_
      rintro e w32 hP
      clear hL
      obtain rfl := learn_out hP nc2
      have hT := HT.out.1.learn hP
      have hp := HT.out.2.learn HT.out.1 hP
      rw [show learnS 2 [nE dBX [49] 2 5 5] ⟨dAX, [49], 2, [starB], 5, 0⟩ = [nE dAX [49] 2 5 5, nE dBX [49] 2 5 5] from (nc2).2] at hT
      have HT := Lib.hid (And.intro hT hp)
      clear hT hp hP
      have p0 := HT.out.2.p0
      have p1 := HT.out.2.p1
      have p2 := HT.out.2.p2
      have hL := learn_any (w27.heap.size + 1) w27.heap.size 2 Any _ [nE dAX [49] 2 5 5, nE dBX [49] 2 5 5] w32 HT.out.1.c (by decide) dCX [49] 3 (some ⟨w7.heap.size + 1, 0, none⟩, 1, 1) [starB] 10 (1) HT.out.2.px (fit_star dCX [49] 3 10 (1) (by decide) (by decide)) HT.out.1.glob
      unfold pcl shV at hL
      dsimp only at hL
      go_wp2_with fail
      refine hL.mono ?_
      rintro e w33 hP
      clear hL p0 p1 p2
      obtain rfl := learn_out hP nc3
      have hT := HT.out.1.learn hP
      have hp := HT.out.2.learn HT.out.1 hP
      rw [show learnS 2 [nE dAX [49] 2 5 5, nE dBX [49] 2 5 5] ⟨dCX, [49], 3, [starB], 10, 1⟩ = [nE dBX [49] 2 5 5, nE dCX [49] 3 10 11] from (nc3).2] at hT
      have HT := Lib.hid (And.intro hT hp)
      clear hT hp hP
      have hA := all_any (w27.heap.size + 1) w27.heap.size 2 Any [nE dBX [49] 2 5 5, nE dCX [49] 3 10 11] w33 HT.out.1.c (by decide) (few_of rfl)
      go_wp2_with fail
      refine hA.mono ?_
      rintro e w34 ⟨⟨v, zs, rfl, hmap, hown, htx⟩, hb⟩
      clear hA
      have HT := Lib.hid (And.intro (HT.out.1.step hb) (HT.out.2.step hb))
      obtain ⟨gA, cA, rfl, _, _, hcell⟩ := hown.cells hmap (by decide)
      obtain ⟨d0, _⟩ := hcell 0 (by decide)
      simp only [List.getElem_cons_zero, nE, str, Nat.zero_mul] at d0
      clear hmap hown htx hcell hb
      have p0 := HT.out.2.p0
      have p1 := HT.out.2.p1
      have p2 := HT.out.2.p2
      have hL := learn_any (w27.heap.size + 1) w27.heap.size 2 Any _ [nE dBX [49] 2 5 5, nE dCX [49] 3 10 11] w34 HT.out.1.c (by decide) dBX [50] 3 (some ⟨w7.heap.size + 1, 0, none⟩, 1, 1) [starB] 10 (2) HT.out.2.px (fit_star dBX [50] 3 10 (2) (by decide) (by decide)) HT.out.1.glob
      unfold pcl shV at hL
      dsimp only at hL
      go_wp2_with fail
      refine hL.mono ?_
      rintro e w35 hP
      clear hL p0 p1 p2
      obtain rfl := learn_out hP nc4
      have hT := HT.out.1.learn hP
      have hp := HT.out.2.learn HT.out.1 hP
      rw [show learnS 2 [nE dBX [49] 2 5 5, nE dCX [49] 3 10 11] ⟨dBX, [50], 3, [starB], 10, 2⟩ = [nE dBX [50] 3 10 12, nE dCX [49] 3 10 11] from (nc4).2] at hT
      have HT := Lib.hid (And.intro hT hp)
      clear hT hp hP
      clear d0
      have p0 := HT.out.2.p0
      have p1 := HT.out.2.p1
      have p2 := HT.out.2.p2
      have hL := learn_any (w27.heap.size + 1) w27.heap.size 2 Any _ [nE dBX [50] 3 10 12, nE dCX [49] 3 10 11] w35 HT.out.1.c (by decide) dDX [49] 3 (some ⟨w7.heap.size + 1, 0, none⟩, 1, 1) [starB] 10 (3) HT.out.2.px (fit_star dDX [49] 3 10 (3) (by decide) (by decide)) HT.out.1.glob
      unfold pcl shV at hL
      dsimp only at hL
      go_wp2_with fail
      refine hL.mono ?_
      rintro e w36 hP
      clear hL p0 p1 p2
      obtain rfl := learn_out hP nc5
      have hT := HT.out.1.learn hP
      have hp := HT.out.2.learn HT.out.1 hP
      rw [show learnS 2 [nE dBX [50] 3 10 12, nE dCX [49] 3 10 11] ⟨dDX, [49], 3, [starB], 10, 3⟩ = [nE dBX [50] 3 10 12, nE dCX [49] 3 10 11] from (nc5).2] at hT
      have HT := Lib.hid (And.intro hT hp)
      clear hT hp hP
      have hS := some_any 1 0 w36
      go_wp2_with fail
      refine hS.mono ?_
      rintro e w37 ⟨rfl, hmx, hb⟩
      have HT := Lib.hid (And.intro (HT.out.1.step hb) (HT.out.2.step hb))
      have HM := Lib.hid hmx
      clear hS hmx hb
      have hL := learn_any (w27.heap.size + 1) w27.heap.size 2 Any _ [nE dBX [50] 3 10 12, nE dCX [49] 3 10 11] w37 HT.out.1.c (by decide) dCX [57] 1 (some ⟨w36.heap.size + 1, 0, none⟩, 1, 1) [starB] 0 (3) HM.out (fit_star dCX [57] 1 0 (3) (by decide) (by decide)) HT.out.1.glob
      unfold pcl shV at hL
      dsimp only at hL
      go_wp2_with fail
      refine hL.mono ?_
      rintro e w38 hP
      clear hL
      obtain rfl := learn_out hP nc6
      have hT := HT.out.1.learn hP
      have hp := HT.out.2.learn HT.out.1 hP
      rw [show learnS 2 [nE dBX [50] 3 10 12, nE dCX [49] 3 10 11] ⟨dCX, [57], 1, [starB], 0, 3⟩ = [nE dBX [50] 3 10 12, nE dCX [57] 1 0 3] from (nc6).2] at hT
      have HT := Lib.hid (And.intro hT hp)
      clear hT hp hP
      have hO := of_any (w27.heap.size + 1) w27.heap.size 2 Any [nE dBX [50] 3 10 12, nE dCX [57] 1 0 3] w38 HT.out.1.c (few_of rfl) dBX 11
      rw [nd1] at hO
      go_wp2_with fail
      refine hO.mono ?_
      rintro e w39 ⟨hP, hb⟩
      clear hO
      have HT := Lib.hid (And.intro (HT.out.1.step hb) (HT.out.2.step hb))
      clear hb
      obtain ⟨s, rfl⟩ : ∃ s : SH, e = .returned (.tuple #[evp (nE dBX [50] 3 10 12, s), .bool true]) := by
        rcases hP with ⟨h, _⟩ | ⟨y, h, rfl, _⟩
        · cases h
        · obtain ⟨y1, y2⟩ := y
          injection h with h
          dsimp only at h
          subst h
          exact ⟨y2, rfl⟩
      obtain ⟨q1, n1, k1⟩ := s
      unfold nE
      rw [lit_ev]
      clear hP
      go_upto_region 32 with (fail)
      obtain ⟨w40, hwb⟩ : ∃ W, W = w39.alloc (.cells #[.string ⟨#[98, 46, 120]⟩, .string ⟨#[50]⟩, .int .u8 3, .slice q1 n1 k1, .int .i64 10, .int .i64 12] 27) := ⟨_, rfl⟩
      have hbx : w40.heap[w39.heap.size]? = some (.cells #[.string ⟨#[98, 46, 120]⟩, .string ⟨#[50]⟩, .int .u8 3, .slice q1 n1 k1, .int .i64 10, .int .i64 12] 27 (0, 0)) := by rw [hwb]; exact ha_eq rfl
      have hb : Below w39.heap.size w39 w40 := by rw [hwb]; exact (Below.refl _ _).alloc (Nat.le_refl _) _
      first
        | rw [← hwb]
        | (rw [show World.alloc _ _ = w40 from hwb.symm])
      obtain ⟨_, x1, _, _, _, x5⟩ := box6 hbx
      have HX := Lib.hid (And.intro x1 x5)
      have HT := Lib.hid (And.intro (HT.out.1.step hb) (HT.out.2.step hb))
      clear hwb hbx hb x1 x5
      have hO := of_any (w27.heap.size + 1) w27.heap.size 2 Any [nE dBX [50] 3 10 12, nE dCX [57] 1 0 3] w40 HT.out.1.c (few_of rfl) dCX 3
      rw [nd2] at hO
      go_wp2_with fail
      refine hO.mono ?_
      rintro e w41 ⟨hP, hb⟩
      clear hO
      have HT := Lib.hid (And.intro (HT.out.1.step hb) (HT.out.2.step hb))
      have HX := Lib.hid (And.intro (below_keep hb _ _ HX.out.1) (below_keep hb _ _ HX.out.2))
      clear hb
      obtain rfl : e = .returned (.tuple #[evp zeroM, .bool false]) := by
        rcases hP with ⟨_, rfl⟩ | ⟨y, h, _⟩
        · rfl
        · cases h
      unfold zeroM
      rw [lit_ev]
      clear hP
      go_upto_region 33 with (fail)
      generalize hwb : World.alloc _ _ = w42
      have hb : Below w41.heap.size w41 w42 := by rw [← hwb]; exact (Below.refl _ _).alloc (Nat.le_refl _) _
      have HT := Lib.hid (And.intro (HT.out.1.step hb) (HT.out.2.step hb))
      have HX := Lib.hid (And.intro (below_keep hb _ _ HX.out.1) (below_keep hb _ _ HX.out.2))
      clear hb hwb
      have hA := all_any (w27.heap.size + 1) w27.heap.size 2 Any [nE dBX [50] 3 10 12, nE dCX [57] 1 0 3] w42 HT.out.1.c (by decide) (few_of rfl)
      go_wp2_with fail
      refine hA.mono ?_
      rintro e w43 ⟨⟨v, zs, rfl, hmap, hown, htx⟩, hb⟩
      clear hA
      obtain ⟨gA, cA, rfl, hgA, hrow, _⟩ := hown.cells hmap (by decide)
      have HA := Lib.hid (And.intro hb (And.intro hgA (And.intro HT.out.1.below HX.out)))
      have HG := Lib.hid (And.intro (HT.out.1.step hb).below (HT.out.1.step hb).glob)
      obtain ⟨x, zs, rfl⟩ : ∃ x t, zs = x :: t := by cases zs with | nil => simp at hmap | cons x t => exact ⟨x, t, rfl⟩
      obtain ⟨y, zs, rfl⟩ : ∃ x t, zs = x :: t := by cases zs with | nil => simp at hmap | cons x t => exact ⟨x, t, rfl⟩
      obtain ⟨x1, px, nx, cx⟩ := x
      obtain ⟨y1, py, ny, cy⟩ := y
      obtain ⟨rfl, rfl, rfl⟩ : x1 = nE dBX [50] 3 10 12 ∧ y1 = nE dCX [57] 1 0 3 ∧ zs = [] := by simpa using hmap
      have hx := (htx _ (List.mem_cons_self)).mono (B' := Any) anyB
      have hy := (htx _ (List.mem_cons_of_mem _ List.mem_cons_self)).mono (B' := Any) anyB
      dsimp only at hx hy
      have HR := Lib.hid (And.intro hrow (And.intro hx hy))
      clear hmap hown htx hb hgA hrow hx hy HT HX
      have hL := load_any 1 (.slice (some ⟨gA, 0, none⟩) 2 cA) [((nE dBX [50] 3 10 12, px, nx, cx) : EM), ((nE dCX [57] 1 0 3, py, ny, cy) : EM)] Any w43 (OwnRow.row (base := 0) (.inr ⟨by simp, gA, cA, rfl, Nat.zero_le _, HR.out.1⟩)) (TextsE.two HR.out.2.1 HR.out.2.2) (by
        intro z hz
        simp only [List.mem_cons, List.not_mem_nil, or_false] at hz
        rcases hz with rfl | rfl <;> exact fit_star _ _ _ _ _ (by decide) (by decide)) (by simp) HG.out.2
      go_wp2_with fail
      refine hL.mono ?_
      rintro e w44 ⟨hP, hb⟩
      clear hL
      obtain rfl := load_no hP nl1 (by decide)
      have HK := Lib.hid hb
      clear hP hb
      go_upto_region 35 with (fail)
      have hr2 := HR.out.1.below HK.out (ERow.lt HR.out.1 (by simp))
      have f0 := (hr2.cell (i := 0) (k := 0) (by simp) rfl).1
      have f1 := (hr2.cell (i := 0) (k := 1) (by simp) rfl).1
      have f2 := (hr2.cell (i := 0) (k := 2) (by simp) rfl).1
      have f3 := (hr2.cell (i := 0) (k := 3) (by simp) rfl).1
      have f4 := (hr2.cell (i := 0) (k := 4) (by simp) rfl).1
      have f5 := (hr2.cell (i := 0) (k := 5) (by simp) rfl).1
      have f6 := (hr2.cell (i := 1) (k := 0) (by simp) rfl).1
      have f7 := (hr2.cell (i := 1) (k := 1) (by simp) rfl).1
      have f8 := (hr2.cell (i := 1) (k := 2) (by simp) rfl).1
      have f9 := (hr2.cell (i := 1) (k := 3) (by simp) rfl).1
      have f10 := (hr2.cell (i := 1) (k := 4) (by simp) rfl).1
      have f11 := (hr2.cell (i := 1) (k := 5) (by simp) rfl).1
      simp only [nE, str, shV, Nat.zero_mul, Nat.one_mul, Nat.zero_add, Nat.reduceAdd, List.getElem_cons_zero, List.getElem_cons_succ] at f0 f1 f2 f3 f4 f5 f6 f7 f8 f9 f10 f11
      have hbO : Below w44.heap.size w44 (w44.drew.alloc (.cells (ecells ((nE dCX [57] 1 0 3, py, ny, cy) : EM) ++ ecells ((nE dBX [50] 3 10 12, px, nx, cx) : EM)).toArray 27)) := (below_drew w44).alloc (Nat.le_refl _) _
      have hL := load_any 2 (.slice (some ⟨w44.heap.size, 0, none⟩) 2 2) [((nE dCX [57] 1 0 3, py, ny, cy) : EM), ((nE dBX [50] 3 10 12, px, nx, cx) : EM)] Any (w44.drew.alloc (.cells (ecells ((nE dCX [57] 1 0 3, py, ny, cy) : EM) ++ ecells ((nE dBX [50] 3 10 12, px, nx, cx) : EM)).toArray 27)) (rowE_two w44.drew _ _ _) (TextsE.two (MxAt.below (MxAt.below HR.out.2.2 HK.out) hbO) (MxAt.below (MxAt.below HR.out.2.1 HK.out) hbO)) (by
        intro z hz
        simp only [List.mem_cons, List.not_mem_nil, or_false] at hz
        rcases hz with rfl | rfl <;> exact fit_star _ _ _ _ _ (by decide) (by decide)) (by simp) ((HG.out.2.keep HK.out).keep hbO)
      simp only [ecells, nE, str, shV, List.cons_append, List.nil_append] at hL hbO
      have hS0 : ∀ W' : World, (∀ a v, w44.cell? a = some v → W'.cell? a = some v) → (W'.cell? ⟨gA, 0, none⟩ = some (.string ⟨#[98, 46, 120]⟩) ∧ W'.cell? ⟨gA, 1, none⟩ = some (.string ⟨#[50]⟩) ∧ W'.cell? ⟨gA, 2, none⟩ = some (.int .u8 3) ∧ W'.cell? ⟨gA, 3, none⟩ = some (.slice px nx cx) ∧ W'.cell? ⟨gA, 4, none⟩ = some (.int .i64 10) ∧ W'.cell? ⟨gA, 5, none⟩ = some (.int .i64 12) ∧ W'.cell? ⟨gA, 6, none⟩ = some (.string ⟨#[99, 46, 120]⟩) ∧ W'.cell? ⟨gA, 7, none⟩ = some (.string ⟨#[57]⟩) ∧ W'.cell? ⟨gA, 8, none⟩ = some (.int .u8 1) ∧ W'.cell? ⟨gA, 9, none⟩ = some (.slice py ny cy) ∧ W'.cell? ⟨gA, 10, none⟩ = some (.int .i64 0) ∧ W'.cell? ⟨gA, 11, none⟩ = some (.int .i64 3)) := fun W' hk => ⟨hk _ _ f0, hk _ _ f1, hk _ _ f2, hk _ _ f3, hk _ _ f4, hk _ _ f5, hk _ _ f6, hk _ _ f7, hk _ _ f8, hk _ _ f9, hk _ _ f10, hk _ _ f11⟩
      have hS1 := hS0 w44.drew (fun _ _ h => h)
      have hS2 := hS0 _ (below_keep hbO)
      clear hr2 f0 f1 f2 f3 f4 f5 f6 f7 f8 f9 f10 f11
      go_region_held3 (fun W' => W'.cell? ⟨gA, 0, none⟩ = some (.string ⟨#[98, 46, 120]⟩) ∧ W'.cell? ⟨gA, 1, none⟩ = some (.string ⟨#[50]⟩) ∧ W'.cell? ⟨gA, 2, none⟩ = some (.int .u8 3) ∧ W'.cell? ⟨gA, 3, none⟩ = some (.slice px nx cx) ∧ W'.cell? ⟨gA, 4, none⟩ = some (.int .i64 10) ∧ W'.cell? ⟨gA, 5, none⟩ = some (.int .i64 12) ∧ W'.cell? ⟨gA, 6, none⟩ = some (.string ⟨#[99, 46, 120]⟩) ∧ W'.cell? ⟨gA, 7, none⟩ = some (.string ⟨#[57]⟩) ∧ W'.cell? ⟨gA, 8, none⟩ = some (.int .u8 1) ∧ W'.cell? ⟨gA, 9, none⟩ = some (.slice py ny cy) ∧ W'.cell? ⟨gA, 10, none⟩ = some (.int .i64 0) ∧ W'.cell? ⟨gA, 11, none⟩ = some (.int .i64 3))
        ((first | with_reducible exact hS5 | exact hS1 | exact hS2 | go_keep))
        ((go_at_call 14; refine hL.mono ?_; rintro e w45 ⟨hP, hb⟩; obtain rfl := load_no hP nl2 (by decide); have hS5 := hS0 w45 (fun a v h => below_keep hb _ _ (below_keep hbO _ _ h))))
      have HK := Lib.hid ((HK.out.trans (hbO.mono HK.out.size)).trans (hb.mono (by have h1 := HK.out.size; have h2 := hbO.size; omega)))
      clear hL hS0 hS1 hS2 hS5 hP hb hbO
      go_upto_region 36 with (fail)
      have hr2 := HR.out.1.below HK.out (ERow.lt HR.out.1 (by simp))
      have f0 := (hr2.cell (i := 0) (k := 0) (by simp) rfl).1
      have f1 := (hr2.cell (i := 0) (k := 1) (by simp) rfl).1
      have f2 := (hr2.cell (i := 0) (k := 2) (by simp) rfl).1
      have f3 := (hr2.cell (i := 0) (k := 3) (by simp) rfl).1
      have f4 := (hr2.cell (i := 0) (k := 4) (by simp) rfl).1
      have f5 := (hr2.cell (i := 0) (k := 5) (by simp) rfl).1
      have f6 := (hr2.cell (i := 1) (k := 0) (by simp) rfl).1
      have f7 := (hr2.cell (i := 1) (k := 1) (by simp) rfl).1
      have f8 := (hr2.cell (i := 1) (k := 2) (by simp) rfl).1
      have f9 := (hr2.cell (i := 1) (k := 3) (by simp) rfl).1
      have f10 := (hr2.cell (i := 1) (k := 4) (by simp) rfl).1
      have f11 := (hr2.cell (i := 1) (k := 5) (by simp) rfl).1
      simp only [nE, str, shV, Nat.zero_mul, Nat.one_mul, Nat.zero_add, Nat.reduceAdd, List.getElem_cons_zero, List.getElem_cons_succ] at f0 f1 f2 f3 f4 f5 f6 f7 f8 f9 f10 f11
      have hbO : Below w45.heap.size w45 (w45.drew.alloc (.cells (ecells ((nE dBX [50] 3 10 12, px, nx, cx) : EM) ++ ecells ((nE dBX [50] 3 10 12, px, nx, cx) : EM)).toArray 27)) := (below_drew w45).alloc (Nat.le_refl _) _
      have hL := load_any 2 (.slice (some ⟨w45.heap.size, 0, none⟩) 2 2) [((nE dBX [50] 3 10 12, px, nx, cx) : EM), ((nE dBX [50] 3 10 12, px, nx, cx) : EM)] Any (w45.drew.alloc (.cells (ecells ((nE dBX [50] 3 10 12, px, nx, cx) : EM) ++ ecells ((nE dBX [50] 3 10 12, px, nx, cx) : EM)).toArray 27)) (rowE_two w45.drew _ _ _) (TextsE.two (MxAt.below (MxAt.below HR.out.2.1 HK.out) hbO) (MxAt.below (MxAt.below HR.out.2.1 HK.out) hbO)) (by
        intro z hz
        simp only [List.mem_cons, List.not_mem_nil, or_false] at hz
        rcases hz with rfl | rfl <;> exact fit_star _ _ _ _ _ (by decide) (by decide)) (by simp) ((HG.out.2.keep HK.out).keep hbO)
      simp only [ecells, nE, str, shV, List.cons_append, List.nil_append] at hL hbO
      have hS0 : ∀ W' : World, (∀ a v, w45.cell? a = some v → W'.cell? a = some v) → (W'.cell? ⟨gA, 0, none⟩ = some (.string ⟨#[98, 46, 120]⟩) ∧ W'.cell? ⟨gA, 1, none⟩ = some (.string ⟨#[50]⟩) ∧ W'.cell? ⟨gA, 2, none⟩ = some (.int .u8 3) ∧ W'.cell? ⟨gA, 3, none⟩ = some (.slice px nx cx) ∧ W'.cell? ⟨gA, 4, none⟩ = some (.int .i64 10) ∧ W'.cell? ⟨gA, 5, none⟩ = some (.int .i64 12) ∧ W'.cell? ⟨gA, 6, none⟩ = some (.string ⟨#[99, 46, 120]⟩) ∧ W'.cell? ⟨gA, 7, none⟩ = some (.string ⟨#[57]⟩) ∧ W'.cell? ⟨gA, 8, none⟩ = some (.int .u8 1) ∧ W'.cell? ⟨gA, 9, none⟩ = some (.slice py ny cy) ∧ W'.cell? ⟨gA, 10, none⟩ = some (.int .i64 0) ∧ W'.cell? ⟨gA, 11, none⟩ = some (.int .i64 3)) := fun W' hk => ⟨hk _ _ f0, hk _ _ f1, hk _ _ f2, hk _ _ f3, hk _ _ f4, hk _ _ f5, hk _ _ f6, hk _ _ f7, hk _ _ f8, hk _ _ f9, hk _ _ f10, hk _ _ f11⟩
      have hS1 := hS0 w45.drew (fun _ _ h => h)
      have hS2 := hS0 _ (below_keep hbO)
      clear hr2 f0 f1 f2 f3 f4 f5 f6 f7 f8 f9 f10 f11
      go_region_held3 (fun W' => W'.cell? ⟨gA, 0, none⟩ = some (.string ⟨#[98, 46, 120]⟩) ∧ W'.cell? ⟨gA, 1, none⟩ = some (.string ⟨#[50]⟩) ∧ W'.cell? ⟨gA, 2, none⟩ = some (.int .u8 3) ∧ W'.cell? ⟨gA, 3, none⟩ = some (.slice px nx cx) ∧ W'.cell? ⟨gA, 4, none⟩ = some (.int .i64 10) ∧ W'.cell? ⟨gA, 5, none⟩ = some (.int .i64 12) ∧ W'.cell? ⟨gA, 6, none⟩ = some (.string ⟨#[99, 46, 120]⟩) ∧ W'.cell? ⟨gA, 7, none⟩ = some (.string ⟨#[57]⟩) ∧ W'.cell? ⟨gA, 8, none⟩ = some (.int .u8 1) ∧ W'.cell? ⟨gA, 9, none⟩ = some (.slice py ny cy) ∧ W'.cell? ⟨gA, 10, none⟩ = some (.int .i64 0) ∧ W'.cell? ⟨gA, 11, none⟩ = some (.int .i64 3))
        ((first | with_reducible exact hS5 | exact hS1 | exact hS2 | go_keep))
        ((go_at_call 14; refine hL.mono ?_; rintro e w46 ⟨hP, hb⟩; obtain rfl := load_no hP nl3 (by decide); have hS5 := hS0 w46 (fun a v h => below_keep hb _ _ (below_keep hbO _ _ h))))
      have HK := Lib.hid ((HK.out.trans (hbO.mono HK.out.size)).trans (hb.mono (by have h1 := HK.out.size; have h2 := hbO.size; omega)))
      clear hL hS0 hS1 hS2 hS5 hP hb hbO
      go_upto_region 37 with (fail)
      have hr2 := HR.out.1.below HK.out (ERow.lt HR.out.1 (by simp))
      obtain ⟨f5, z5⟩ := hr2.cell (i := 0) (k := 5) (by simp) rfl
      simp only [nE, Nat.zero_mul, Nat.zero_add, List.getElem_cons_zero] at f5 z5
      have hbW : Below w42.heap.size w42 (w46.setCell ⟨gA, 5, none⟩ (.int .i64 (-1))) := (HA.out.1.trans (HK.out.mono HA.out.1.size)).setCell HA.out.2.1 _
      have hrow : RowE (w46.setCell ⟨gA, 5, none⟩ (.int .i64 (-1))) (.slice (some ⟨gA, 0, none⟩) 2 cA) [((nE dBX [50] 3 10 (-1), px, nx, cx) : EM), ((nE dCX [57] 1 0 3, py, ny, cy) : EM)] := by
        refine .inr ⟨by simp, gA, 0, cA, rfl, fun i hi k u hu => ?_⟩
        have hk : k < 6 := by
          have := (List.getElem?_eq_some_iff.1 hu).1
          simpa [ecells_len] using this
        by_cases hs : 0 + i * 6 + k = 5
        · obtain ⟨rfl, rfl⟩ : i = 0 ∧ k = 5 := by omega
          rw [hs]
          obtain rfl : Value.int .i64 (-1) = u := by simpa [ecells, nE] using hu
          exact World.cell?_setCell_same _ _ _ f5
        · rw [World.cell?_setCell_other _ _ _ _ (fun e => hs (by injection e with _ e; exact e.symm))]
          have hi2 : i < 2 := by simpa using hi
          have := (hr2.cell (i := i) (k := k) (v := u) (by simpa using hi2) (by
            match i, hi2, k, hk with
            | 0, _, 0, _ => exact hu
            | 0, _, 1, _ => exact hu
            | 0, _, 2, _ => exact hu
            | 0, _, 3, _ => exact hu
            | 0, _, 4, _ => exact hu
            | 0, _, 5, _ => exact absurd rfl hs
            | 1, _, _, _ => exact hu)).1
          rw [Nat.zero_add]
          exact this
      have hne : gA ≠ 0 := by
        have h1 := H.out.lt
        have h2 := HA.out.2.1
        have h3 := HA.out.2.2.1.size
        omega
      have hL := load_any 2 (.slice (some ⟨gA, 0, none⟩) 2 cA) [((nE dBX [50] 3 10 (-1), px, nx, cx) : EM), ((nE dCX [57] 1 0 3, py, ny, cy) : EM)] Any (w46.setCell ⟨gA, 5, none⟩ (.int .i64 (-1))) hrow (TextsE.two (MxAt.poke (MxAt.below HR.out.2.1 HK.out) f5) (MxAt.poke (MxAt.below HR.out.2.2 HK.out) f5)) (by
        intro z hz
        simp only [List.mem_cons, List.not_mem_nil, or_false] at hz
        rcases hz with rfl | rfl <;> exact fit_star _ _ _ _ _ (by decide) (by decide)) (by simp) (by
          obtain ⟨q, hq⟩ := HG.out.2
          have hq2 := below_keep HK.out _ _ hq
          exact ⟨q, by rw [World.cell?_setCell_other _ _ _ _ (fun e => hne (by injection e))]; exact hq2⟩)
      have HW := Lib.hid hbW
      clear hr2 hrow hbW HR hne
      go_upto_region 38 with (fail)
      obtain ⟨w47, hwc⟩ : ∃ W, W = w46.setCell ⟨gA, 5, none⟩ (.int .i64 (-1)) := ⟨_, rfl⟩
      rw [← hwc] at hL HW ⊢
      clear hwc f5 z5
      go_wp2_with fail
      refine hL.mono ?_
      rintro e w48 ⟨hP, hb⟩
      clear hL
      obtain rfl := load_no hP nl4 (by decide)
      have hB := HW.out.trans (hb.mono HW.out.size)
      obtain ⟨x1, x5⟩ := HA.out.2.2.2
      have x1 := below_keep hB _ _ x1
      have x5 := below_keep hB _ _ x5
      have HZ := Lib.hid (HA.out.2.2.1.trans (hB.mono HA.out.2.2.1.size))
      clear hP hb hB HA HK HG HW
      go_wp2
      refine bodyPost_ret (v := .bool true) (by simp [results, Try.results3, go_sem]) rfl ⟨rfl, HZ.out⟩
end Go.Proofs.Ytojhledbfaninaa

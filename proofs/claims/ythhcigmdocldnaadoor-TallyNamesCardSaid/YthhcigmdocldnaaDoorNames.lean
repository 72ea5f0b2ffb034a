/- TallyNames: the walk. -/
import Derived.Test.YthhcigmdocldnaaDoorNamesA
import Derived.Test.YthhcigmdocldnaaDoorNil
import Derived.Test.YthhcigmdocldnaaDoorWords
import Derived.Test.YthhcigmdocldnaaDoorRefJ
import Derived.Test.YthhcigmdocldnaaDoorLawC
import Derived.Deep.CutRange
namespace Go.Proofs.YthhcigmdocldnaaDoor
open Go Go.RowKit Go.Shelf Go.Sort

set_option maxRecDepth 100000 in
set_option maxHeartbeats 8000000 in
theorem names_any (w₀ : World) (hg : Glob w₀) (hm : MayT w₀) :
    Calls Tryd.prog 7 #[] w₀ fun e w' => e = .returned (.bool true) ∧ Below w₀.heap.size w₀ w' := by
  have hC := clear_nil w₀
  have hA := awake_any w₀ hg hm
  have HG := Lib.hid (And.intro hg hm)
  clear hg hm
  go_enter Tryd.func7, Tryd.ntmps7
  go_wp2_with fail
  refine hC.mono ?_
  rintro e w1 ⟨rfl, rfl⟩
  clear hC
  go_wp2_with fail
  refine hA.mono ?_
  rintro e w1 ⟨rfl, hB1⟩
  have H1 := Lib.hid hB1
  have hN := add_nil (.string ⟨#[97]⟩) (.int .u8 1) (.int .u8 0) w1
  clear hA hB1
  go_wp2_with fail
  refine hN.mono ?_
  rintro e w2 ⟨rfl, hB2⟩
  have H2 := Lib.hid (H1.out.trans (Below.less hB2 H1.out.size))
  have hR := rows_nil w2
  have hD := domains_nil w2
  have hL := all_nil w2
  have hP := copy_nil w2
  clear hN hB2 H1
  go_wp2_with fail
  refine hR.mono ?_
  rintro e w3 ⟨rfl, rfl⟩
  clear hR
  go_wp2_with fail
  refine hD.mono ?_
  rintro e w3 ⟨rfl, rfl⟩
  clear hD
  go_wp2_with fail
  refine hL.mono ?_
  rintro e w3 ⟨rfl, rfl⟩
  clear hL
  go_wp2_with fail
  refine hP.mono ?_
  rintro e w3 ⟨rfl, rfl⟩
  clear hP
  go_wp2_with fail
  obtain ⟨W4, hW4⟩ : ∃ W4, W4 = w2.alloc (.cells #[.int .i64 0, .int .i64 (-1), .int .i64 9] 3) := ⟨_, rfl⟩
  rw [← hW4]
  obtain ⟨g4, hg4⟩ : ∃ g, g = w2.heap.size := ⟨_, rfl⟩
  rw [← hg4]
  have hH4 : W4.heap[g4]? = some (.cells #[.int .i64 0, .int .i64 (-1), .int .i64 9] 3 (0, 0)) := by rw [hW4, hg4]; exact ha_eq rfl
  have hB4 : Below w₀.heap.size w₀ W4 := by rw [hW4]; exact H2.out.alloc H2.out.size _
  have H4 := Lib.hid (And.intro hH4 hB4)
  clear hW4 hg4 hH4 hB4 H2
  go_loopw [64] (fun iv wr => ∃ i : Nat, iv = .int .i64 (i : Int) ∧ i ≤ 3 ∧ Below W4.heap.size W4 wr)
    (fun iv _ => 3 - natOf iv)
  case atStart => exact ⟨0, rfl, by omega, Below.refl _ _⟩
  case round =>
    obtain ⟨i, rfl, hi, hB⟩ := hrel
    by_cases hlast : i < 3
    · have hli : (i : Int) < 3 := by omega
      have hHr := (hB.block _ (Array.getElem?_eq_some_iff.1 H4.out.1).1).trans H4.out.1
      obtain ⟨n, c0, hbad⟩ : ∃ n : Int, wr.cell? ⟨g4, i, none⟩ = some (.int .i64 n) ∧ (n < 1 ∨ 8 < n) := by
        have hi' : i = 0 ∨ i = 1 ∨ i = 2 := by omega
        rcases hi' with rfl | rfl | rfl
        · exact ⟨0, by simp [World.cell?, hHr], by omega⟩
        · exact ⟨-1, by simp [World.cell?, hHr], by omega⟩
        · exact ⟨9, by simp [World.cell?, hHr], by omega⟩
      have hN := tallyNew_bad n wr hbad
      have hO := of_bad n (.slice none 0 0) wr hbad
      have HB := Lib.hid hB
      clear hHr hbad hB
      go_wp2_with fail
      refine hN.mono ?_
      rintro e w5 ⟨rfl, rfl⟩
      clear hN
      go_wp2_with fail
      refine hO.mono ?_
      rintro e w5 ⟨rfl, rfl⟩
      clear hO
      go_wp2
      go_roundw
      case rel => exact ⟨i + 1, by simp, by omega, HB.out⟩
      case measure => simp [natOf]; omega
    · have hli : ¬ (i : Int) < 3 := by omega
      have HB := Lib.hid (H4.out.2.trans (Below.less hB H4.out.2.size))
      clear hB hi hlast H4
      go_wp2_with fail
      obtain ⟨W6, hW6⟩ : ∃ W6, W6 = (wr.alloc (.cells #[.int .u8 0, .int .u8 1, .int .u8 2, .int .u8 3, .int .u8 4, .int .u8 5, .int .u8 6, .int .u8 7, .int .u8 8, .int .u8 9, .int .u8 10] 5)).alloc (.cells #[.string ⟨#[]⟩, .string ⟨#[115, 116, 97, 114, 116, 116, 108, 115, 45, 110, 111, 116, 45, 115, 117, 112, 112, 111, 114, 116, 101, 100]⟩, .string ⟨#[118, 97, 108, 105, 100, 97, 116, 105, 111, 110, 45, 102, 97, 105, 108, 117, 114, 101]⟩, .string ⟨#[99, 101, 114, 116, 105, 102, 105, 99, 97, 116, 101, 45, 101, 120, 112, 105, 114, 101, 100]⟩, .string ⟨#[99, 101, 114, 116, 105, 102, 105, 99, 97, 116, 101, 45, 104, 111, 115, 116, 45, 109, 105, 115, 109, 97, 116, 99, 104]⟩, .string ⟨#[99, 101, 114, 116, 105, 102, 105, 99, 97, 116, 101, 45, 110, 111, 116, 45, 116, 114, 117, 115, 116, 101, 100]⟩, .string ⟨#[100, 110, 115, 115, 101, 99, 45, 105, 110, 118, 97, 108, 105, 100]⟩, .string ⟨#[116, 108, 115, 97, 45, 105, 110, 118, 97, 108, 105, 100]⟩, .string ⟨#[115, 116, 115, 45, 112, 111, 108, 105, 99, 121, 45, 102, 101, 116, 99, 104, 45, 101, 114, 114, 111, 114]⟩, .string ⟨#[115, 116, 115, 45, 112, 111, 108, 105, 99, 121, 45, 105, 110, 118, 97, 108, 105, 100]⟩, .string ⟨#[115, 116, 115, 45, 119, 101, 98, 112, 107, 105, 45, 105, 110, 118, 97, 108, 105, 100]⟩] 9) := ⟨_, rfl⟩
      rw [← hW6]
      obtain ⟨g6, hg6⟩ : ∃ g, g = wr.heap.size := ⟨_, rfl⟩
      have hH6 : W6.heap[g6]? = some (.cells #[.int .u8 0, .int .u8 1, .int .u8 2, .int .u8 3, .int .u8 4, .int .u8 5, .int .u8 6, .int .u8 7, .int .u8 8, .int .u8 9, .int .u8 10] 5 (0, 0)) := by rw [hW6, hg6]; exact (ha_ne (by simp)).trans (ha_eq rfl)
      have hH7 : W6.heap[g6 + 1]? = some (.cells #[.string ⟨#[]⟩, .string ⟨#[115, 116, 97, 114, 116, 116, 108, 115, 45, 110, 111, 116, 45, 115, 117, 112, 112, 111, 114, 116, 101, 100]⟩, .string ⟨#[118, 97, 108, 105, 100, 97, 116, 105, 111, 110, 45, 102, 97, 105, 108, 117, 114, 101]⟩, .string ⟨#[99, 101, 114, 116, 105, 102, 105, 99, 97, 116, 101, 45, 101, 120, 112, 105, 114, 101, 100]⟩, .string ⟨#[99, 101, 114, 116, 105, 102, 105, 99, 97, 116, 101, 45, 104, 111, 115, 116, 45, 109, 105, 115, 109, 97, 116, 99, 104]⟩, .string ⟨#[99, 101, 114, 116, 105, 102, 105, 99, 97, 116, 101, 45, 110, 111, 116, 45, 116, 114, 117, 115, 116, 101, 100]⟩, .string ⟨#[100, 110, 115, 115, 101, 99, 45, 105, 110, 118, 97, 108, 105, 100]⟩, .string ⟨#[116, 108, 115, 97, 45, 105, 110, 118, 97, 108, 105, 100]⟩, .string ⟨#[115, 116, 115, 45, 112, 111, 108, 105, 99, 121, 45, 102, 101, 116, 99, 104, 45, 101, 114, 114, 111, 114]⟩, .string ⟨#[115, 116, 115, 45, 112, 111, 108, 105, 99, 121, 45, 105, 110, 118, 97, 108, 105, 100]⟩, .string ⟨#[115, 116, 115, 45, 119, 101, 98, 112, 107, 105, 45, 105, 110, 118, 97, 108, 105, 100]⟩] 9 (0, 0)) := by rw [hW6, hg6]; exact ha_eq (by simp)
      have hB6 : Below w₀.heap.size w₀ W6 := by rw [hW6]; exact (HB.out.alloc HB.out.size _).alloc (by have := HB.out.size; simp; omega) _
      have hcl6 : ∀ i : Nat, i < 11 → W6.cell? ⟨g6, i, none⟩ = some (.int .u8 (i : Int)) ∧ W6.cell? ⟨g6 + 1, i, none⟩ = some (.string (whatW i)) := by
        intro i hi
        have hi' : i = 0 ∨ i = 1 ∨ i = 2 ∨ i = 3 ∨ i = 4 ∨ i = 5 ∨ i = 6 ∨ i = 7 ∨ i = 8 ∨ i = 9 ∨ i = 10 := by omega
        rcases hi' with rfl | rfl | rfl | rfl | rfl | rfl | rfl | rfl | rfl | rfl | rfl <;> exact ⟨by simp [World.cell?, hH6], by simp [World.cell?, hH7, whatW]⟩
      have hl6 := (Array.getElem?_eq_some_iff.1 hH6).1
      have hl7 := (Array.getElem?_eq_some_iff.1 hH7).1
      rw [← hg6]
      have H6 := Lib.hid (And.intro hcl6 (And.intro hB6 (And.intro hl6 hl7)))
      clear hW6 hg6 hH6 hH7 hB6 HB hcl6 hl6 hl7
      go_wp2_with fail
      go_loopw [10] (fun iv wr => ∃ i : Nat, iv = .int .i64 (i : Int) ∧ i ≤ 11 ∧ Below W6.heap.size W6 wr)
        (fun iv _ => 11 - natOf iv)
      case atStart => exact ⟨0, rfl, by omega, Below.refl _ _⟩
      case round =>
        obtain ⟨i, rfl, hi, hB⟩ := hrel
        by_cases hlast : i < 11
        · have hli : (i : Int) < 11 := by omega
          have c0 : wr.cell? ⟨g6, i, none⟩ = some (.int .u8 (i : Int)) := (hB.cell (p := ⟨g6, i, none⟩) H6.out.2.2.1).trans (H6.out.1 i hlast).1
          have c1 : wr.cell? ⟨g6 + 1, i, none⟩ = some (.string (whatW i)) := (hB.cell (p := ⟨g6 + 1, i, none⟩) H6.out.2.2.2).trans (H6.out.1 i hlast).2
          have hW := fun W => what_any i (by omega) W
          have hw8 : IntKind.u8.wrap (i : Int) = (i : Int) := by rw [IntKind.wrap_u8]; omega
          have hw64 : IntKind.i64.wrap (i : Int) = (i : Int) := by rw [IntKind.wrap_i64]; omega
          have hl1 : g6 < wr.heap.size := Nat.lt_of_lt_of_le H6.out.2.2.1 hB.size
          have hl2 : g6 + 1 < wr.heap.size := Nat.lt_of_lt_of_le H6.out.2.2.2 hB.size
          have HB := Lib.hid hB
          clear hB
          generalize whatW i = s at c1 hW
          have f : (s.toList == s.toList) = true := beq_self_eq_true _
          go_wp2_with fail
          go_region_held3 (fun W' => W'.cell? ⟨g6, i, none⟩ = some (.int .u8 (i : Int)) ∧ W'.cell? ⟨g6 + 1, i, none⟩ = some (.string s))
            ((first | with_reducible exact kk | exact ⟨c0, c1⟩))
            ((go_at_call 29; refine (hW _).mono ?_; rintro e w7 ⟨rfl, hB7⟩; have kk : w7.cell? ⟨g6, i, none⟩ = some (.int .u8 (i : Int)) ∧ w7.cell? ⟨g6 + 1, i, none⟩ = some (.string s) := ⟨(hB7.cell (p := ⟨g6, i, none⟩) hl1).trans c0, (hB7.cell (p := ⟨g6 + 1, i, none⟩) hl2).trans c1⟩))
          have HB7 := Lib.hid (HB.out.trans (Below.less (show Below wr.heap.size wr w7 from ⟨hB7.os, hB7.tape, hB7.output, hB7.size, hB7.block⟩) HB.out.size))
          clear hB7 kk c0 c1 hW f
          go_wp2
          go_roundw
          case rel => exact ⟨i + 1, by simp, by omega, HB7.out⟩
          case measure => simp [natOf]; omega
        · have hli : ¬ (i : Int) < 11 := by omega
          have HTp := Lib.hid (H6.out.2.1.trans (Below.less hB H6.out.2.1.size))
          obtain ⟨w6, hw6⟩ : ∃ w6, w6 = wr := ⟨_, rfl⟩
          rw [← hw6] at HTp ⊢
          clear hB hi hlast H6 hw6
          have hT0 : Calls Tryd.prog 30 #[.int .u8 0] w6 fun e w' => e = .returned (.string ⟨#[]⟩) ∧ Below w6.heap.size w6 w' := type_any 0 (by decide) w6
          go_wp2_with fail
          refine hT0.mono ?_
          rintro e wt0 ⟨rfl, hBt0⟩
          have HT0 := Lib.hid (HTp.out.trans (Below.less hBt0 HTp.out.size))
          clear hT0 hBt0 HTp
          have hT1 : Calls Tryd.prog 30 #[.int .u8 1] wt0 fun e w' => e = .returned (.string ⟨#[116, 108, 115, 97]⟩) ∧ Below wt0.heap.size wt0 w' := type_any 1 (by decide) wt0
          go_wp2_with fail
          refine hT1.mono ?_
          rintro e wt1 ⟨rfl, hBt1⟩
          have HT1 := Lib.hid (HT0.out.trans (Below.less hBt1 HT0.out.size))
          clear hT1 hBt1 HT0
          have hT2 : Calls Tryd.prog 30 #[.int .u8 2] wt1 fun e w' => e = .returned (.string ⟨#[115, 116, 115]⟩) ∧ Below wt1.heap.size wt1 w' := type_any 2 (by decide) wt1
          go_wp2_with fail
          refine hT2.mono ?_
          rintro e wt2 ⟨rfl, hBt2⟩
          have HT2 := Lib.hid (HT1.out.trans (Below.less hBt2 HT1.out.size))
          clear hT2 hBt2 HT1
          have hT3 : Calls Tryd.prog 30 #[.int .u8 3] wt2 fun e w' => e = .returned (.string ⟨#[110, 111, 45, 112, 111, 108, 105, 99, 121, 45, 102, 111, 117, 110, 100]⟩) ∧ Below wt2.heap.size wt2 w' := type_any 3 (by decide) wt2
          go_wp2_with fail
          refine hT3.mono ?_
          rintro e wt3 ⟨rfl, hBt3⟩
          have HT3 := Lib.hid (HT2.out.trans (Below.less hBt3 HT2.out.size))
          clear hT3 hBt3 HT2
          have hT4 : Calls Tryd.prog 30 #[.int .u8 4] wt3 fun e w' => e = .returned (.string ⟨#[]⟩) ∧ Below wt3.heap.size wt3 w' := type_any 4 (by decide) wt3
          go_wp2_with fail
          refine hT4.mono ?_
          rintro e wt4 ⟨rfl, hBt4⟩
          have HT4 := Lib.hid (HT3.out.trans (Below.less hBt4 HT3.out.size))
          clear hT4 hBt4 HT3
          have hT5 : Calls Tryd.prog 29 #[.int .u8 11] wt4 fun e w' => e = .returned (.string ⟨#[]⟩) ∧ Below wt4.heap.size wt4 w' := what_any 11 (by decide) wt4
          go_wp2_with fail
          refine hT5.mono ?_
          rintro e wt5 ⟨rfl, hBt5⟩
          have HT5 := Lib.hid (HT4.out.trans (Below.less hBt5 HT4.out.size))
          clear hT5 hBt5 HT4
          have hT6 : Calls Tryd.prog 30 #[.int .u8 255] wt5 fun e w' => e = .returned (.string ⟨#[]⟩) ∧ Below wt5.heap.size wt5 w' := type_any 255 (by decide) wt5
          go_wp2_with fail
          refine hT6.mono ?_
          rintro e wt6 ⟨rfl, hBt6⟩
          have HT6 := Lib.hid (HT5.out.trans (Below.less hBt6 HT5.out.size))
          clear hT6 hBt6 HT5
          go_wp2_with fail
          go_loopw [11] (fun kv wr => ∃ k : Nat, kv = .int .u8 (k : Int) ∧ k ≤ 5 ∧ Below w₀.heap.size w₀ wr)
            (fun kv _ => 5 - natOf kv)
          case atStart => exact ⟨0, rfl, by omega, HT6.out⟩
          case round =>
            obtain ⟨k, rfl, hk, hB⟩ := hrel
            by_cases hkl : k < 5
            · have hki : (k : Int) < 5 := by omega
              have HBk := Lib.hid hB
              clear hB
              go_wp2_with fail
              go_loopw [12] (fun xv wr => ∃ x : Nat, xv = .int .u8 (x : Int) ∧ x ≤ 12 ∧ Below w₀.heap.size w₀ wr)
                (fun xv _ => 12 - natOf xv)
              case atStart => exact ⟨0, rfl, by omega, HBk.out⟩
              case round =>
                obtain ⟨x, rfl, hx, hB⟩ := hrel
                by_cases hxl : x < 12
                · have hxi : (x : Int) < 12 := by omega
                  have HBx := Lib.hid hB
                  clear hB
                  go_upto_region 28 with (fail)
                  go_cut [11, 12, 13] from 154 to 189 (fun s11 s12 s13 w' => s11 = .int .u8 (k : Int) ∧ s12 = .int .u8 (x : Int) ∧ s13 = .bool (kindB (k : Int) (x : Int)) ∧ w' = wr)
                  case first =>
                    by_cases a1 : (1 : Int) ≤ (k : Int)
                    · by_cases a2 : (k : Int) ≤ 3
                      · by_cases a3 : (x : Int) ≤ 5
                        · skip
                          have hkb : kindB (k : Int) (x : Int) = true := by unfold kindB; (repeat' split) <;> simp <;> omega
                          have HKB := Lib.hid hkb
                          clear hkb
                          go_wp2
                          go_meet
                          case rel => exact ⟨rfl, rfl, by rw [HKB.out], rfl⟩
                        · by_cases a4 : (k : Int) = 1
                          · have d4 : ((k : Int) == 1) = true := by rw [a4]; rfl
                            have d5 : ((k : Int) == 2) = false := by rw [a4]; rfl
                            have HA4 := Lib.hid a4
                            clear a4
                            by_cases a6 : (x : Int) ≤ 7
                            · skip
                              have hkb : kindB (k : Int) (x : Int) = true := by (have hh := HA4.out); unfold kindB; (repeat' split) <;> simp <;> omega
                              have HKB := Lib.hid hkb
                              clear hkb
                              go_wp2
                              go_meet
                              case rel => exact ⟨rfl, rfl, by rw [HKB.out], rfl⟩
                            · skip
                              have hkb : kindB (k : Int) (x : Int) = false := by (have hh := HA4.out); unfold kindB; (repeat' split) <;> simp <;> omega
                              have HKB := Lib.hid hkb
                              clear hkb
                              go_wp2
                              go_meet
                              case rel => exact ⟨rfl, rfl, by rw [HKB.out], rfl⟩
                          · have d4 : ((k : Int) == 1) = false := by simpa using a4
                            by_cases a5 : (k : Int) = 2
                            · have d5 : ((k : Int) == 2) = true := by rw [a5]; rfl
                              have HA4 := Lib.hid a5
                              clear a5
                              by_cases a7 : (8 : Int) ≤ (x : Int)
                              · by_cases a8 : (x : Int) ≤ 10
                                · skip
                                  have hkb : kindB (k : Int) (x : Int) = true := by (have hh := HA4.out); unfold kindB; (repeat' split) <;> simp <;> omega
                                  have HKB := Lib.hid hkb
                                  clear hkb
                                  go_wp2
                                  go_meet
                                  case rel => exact ⟨rfl, rfl, by rw [HKB.out], rfl⟩
                                · skip
                                  have hkb : kindB (k : Int) (x : Int) = false := by (have hh := HA4.out); unfold kindB; (repeat' split) <;> simp <;> omega
                                  have HKB := Lib.hid hkb
                                  clear hkb
                                  go_wp2
                                  go_meet
                                  case rel => exact ⟨rfl, rfl, by rw [HKB.out], rfl⟩
                              · skip
                                have hkb : kindB (k : Int) (x : Int) = false := by (have hh := HA4.out); unfold kindB; (repeat' split) <;> simp <;> omega
                                have HKB := Lib.hid hkb
                                clear hkb
                                go_wp2
                                go_meet
                                case rel => exact ⟨rfl, rfl, by rw [HKB.out], rfl⟩
                            · skip
                              have hkb : kindB (k : Int) (x : Int) = false := by unfold kindB; (repeat' split) <;> simp <;> omega
                              have HKB := Lib.hid hkb
                              clear hkb
                              go_wp2
                              go_meet
                              case rel => exact ⟨rfl, rfl, by rw [HKB.out], rfl⟩
                      · skip
                        have hkb : kindB (k : Int) (x : Int) = false := by unfold kindB; (repeat' split) <;> simp <;> omega
                        have HKB := Lib.hid hkb
                        clear hkb
                        go_wp2
                        go_meet
                        case rel => exact ⟨rfl, rfl, by rw [HKB.out], rfl⟩
                    · skip
                      have hkb : kindB (k : Int) (x : Int) = false := by unfold kindB; (repeat' split) <;> simp <;> omega
                      have HKB := Lib.hid hkb
                      clear hkb
                      go_wp2
                      go_meet
                      case rel => exact ⟨rfl, rfl, by rw [HKB.out], rfl⟩
                  case rest =>
                    obtain ⟨rfl, rfl, rfl, rfl⟩ := hcut
                    have hS : Sess w₀ wc := ⟨HBx.out, HG.out.1, HG.out.2⟩
                    have hM := tallyMay_any ⟨#[97]⟩ k (x : Int) wc (by decide) hS.glob hS.mayt (by omega) (by omega)
                    have hma : mayB (⟨#[97]⟩ : ByteArray).data.toList = true := by decide
                    rw [hma, Bool.and_true] at hM
                    have hw8 : IntKind.u8.wrap ((x : Int) + 1) = (x : Int) + 1 := by rw [IntKind.wrap_u8]; omega
                    clear hS hma
                    generalize kindB (k : Int) (x : Int) = kb at *
                    go_wp2_with fail
                    refine hM.mono ?_
                    rintro e w7 ⟨rfl, hB7⟩
                    have HB7 := Lib.hid (HBx.out.trans (Below.less hB7 HBx.out.size))
                    clear hM hB7
                    cases kb
                    · go_wp2
                      go_roundw
                      case rel => exact ⟨x + 1, by simp, by omega, HB7.out⟩
                      case measure => simp [natOf]; omega
                    · go_wp2
                      go_roundw
                      case rel => exact ⟨x + 1, by simp, by omega, HB7.out⟩
                      case measure => simp [natOf]; omega
                · have hxi : ¬ (x : Int) < 12 := by omega
                  have hw8 : IntKind.u8.wrap ((k : Int) + 1) = (k : Int) + 1 := by rw [IntKind.wrap_u8]; omega
                  have HBx := Lib.hid hB
                  clear hB
                  go_wp2
                  go_roundw
                  case rel => exact ⟨k + 1, by simp, by omega, HBx.out⟩
                  case measure => simp [natOf]; omega
            · have hki : ¬ (k : Int) < 5 := by omega
              have HBk := Lib.hid hB
              obtain ⟨v1, hv1⟩ : ∃ v, v = wr := ⟨_, rfl⟩
              rw [← hv1] at HBk ⊢
              clear hB hk hkl hv1 HT6
              go_wp2_with fail
              have hS1 : Sess w₀ v1 := ⟨HBk.out, HG.out.1, HG.out.2⟩
              have hM1 : Calls Tryd.prog 24 #[.agg #[.string ⟨#[65]⟩, .int .u8 1, .int .u8 0]] v1 fun e w' => e = .returned (.bool false) ∧ Below v1.heap.size v1 w' := tallyMay_any ⟨#[65]⟩ 1 0 v1 (by decide) hS1.glob hS1.mayt (by decide) (by decide)
              clear hS1
              go_wp2_with fail
              refine hM1.mono ?_
              rintro e v2 ⟨rfl, hB2⟩
              have hS2 : Sess w₀ v2 := ⟨HBk.out.trans (Below.less hB2 HBk.out.size), HG.out.1, HG.out.2⟩
              have hM2 : Calls Tryd.prog 24 #[.agg #[.string ⟨#[]⟩, .int .u8 1, .int .u8 0]] v2 fun e w' => e = .returned (.bool false) ∧ Below v2.heap.size v2 w' := tallyMay_any ⟨#[]⟩ 1 0 v2 (by decide) hS2.glob hS2.mayt (by decide) (by decide)
              have HS2 := Lib.hid hS2
              clear hM1 hB2 hS2 HBk
              go_wp2_with fail
              refine hM2.mono ?_
              rintro e v3 ⟨rfl, hB3⟩
              have hS3 := HS2.out.next hB3
              have hM3 : Calls Tryd.prog 24 #[.agg #[.string ⟨#[97]⟩, .int .u8 1, .int .u8 255]] v3 fun e w' => e = .returned (.bool false) ∧ Below v3.heap.size v3 w' := tallyMay_any ⟨#[97]⟩ 1 255 v3 (by decide) hS3.glob hS3.mayt (by decide) (by decide)
              have HS3 := Lib.hid hS3
              clear hM2 hB3 hS3 HS2
              go_wp2_with fail
              refine hM3.mono ?_
              rintro e v4 ⟨rfl, hB4⟩
              have HS4 := Lib.hid (HS3.out.next hB4)
              clear hM3 hB4 HS3
              have hmk := run_ten
              go_wp2_with fail
              obtain ⟨W9, hW9⟩ : ∃ W9, W9 = (((v4.alloc (.cells #[.int .i64 0, .int .i64 0, .int .i64 0, .int .i64 0, .int .i64 0, .int .i64 0, .int .i64 0, .int .i64 0, .int .i64 0, .int .i64 0] 3)).alloc (.cells #[.int .i64 0, .int .i64 0, .int .i64 0, .int .i64 0, .int .i64 0, .int .i64 1, .int .i64 0, .int .i64 0, .int .i64 0, .int .i64 0] 3)).alloc (.cells #[.int .i64 (-1), .int .i64 0, .int .i64 0, .int .i64 0, .int .i64 0, .int .i64 0, .int .i64 0, .int .i64 0, .int .i64 0, .int .i64 0] 3)).alloc (.cells #[.string ⟨#[97]⟩, .int .u8 1, .int .i64 1, .slice none 0 0, .string ⟨#[97]⟩, .int .u8 1, .int .i64 0, .slice (some ⟨v4.heap.size, 0, none⟩) 10 10, .string ⟨#[97]⟩, .int .u8 2, .int .i64 0, .slice (some ⟨v4.heap.size + 1, 0, none⟩) 10 10, .string ⟨#[97]⟩, .int .u8 1, .int .i64 1, .slice (some ⟨v4.heap.size + 1 + 1, 0, none⟩) 10 10, .string ⟨#[97]⟩, .int .u8 1, .int .i64 (-1), .slice (some ⟨v4.heap.size + 1, 0, none⟩) 10 10, .string ⟨#[97]⟩, .int .u8 0, .int .i64 1, .slice (some ⟨v4.heap.size, 0, none⟩) 10 10, .string ⟨#[97]⟩, .int .u8 4, .int .i64 1, .slice (some ⟨v4.heap.size, 0, none⟩) 10 10, .string ⟨#[65]⟩, .int .u8 1, .int .i64 1, .slice (some ⟨v4.heap.size, 0, none⟩) 10 10] 41) := ⟨_, rfl⟩
              rw [← hW9]
              obtain ⟨gz, hgz⟩ : ∃ g, g = v4.heap.size := ⟨_, rfl⟩
              obtain ⟨gb, hgb⟩ : ∃ g, g = v4.heap.size + 1 := ⟨_, rfl⟩
              obtain ⟨gl, hgl⟩ : ∃ g, g = v4.heap.size + 1 + 1 := ⟨_, rfl⟩
              obtain ⟨gr, hgr⟩ : ∃ g, g = v4.heap.size + 1 + 1 + 1 := ⟨_, rfl⟩
              have hhz : W9.heap[gz]? = some (.cells #[.int .i64 0, .int .i64 0, .int .i64 0, .int .i64 0, .int .i64 0, .int .i64 0, .int .i64 0, .int .i64 0, .int .i64 0, .int .i64 0] 3 (0, 0)) := by rw [hW9, hgz]; exact (ha_ne (by simp <;> omega)).trans ((ha_ne (by simp <;> omega)).trans ((ha_ne (by simp)).trans (ha_eq rfl)))
              have hhb : W9.heap[gb]? = some (.cells #[.int .i64 0, .int .i64 0, .int .i64 0, .int .i64 0, .int .i64 0, .int .i64 1, .int .i64 0, .int .i64 0, .int .i64 0, .int .i64 0] 3 (0, 0)) := by rw [hW9, hgb]; exact (ha_ne (by simp <;> omega)).trans ((ha_ne (by simp)).trans (ha_eq (by simp)))
              have hhl : W9.heap[gl]? = some (.cells #[.int .i64 (-1), .int .i64 0, .int .i64 0, .int .i64 0, .int .i64 0, .int .i64 0, .int .i64 0, .int .i64 0, .int .i64 0, .int .i64 0] 3 (0, 0)) := by rw [hW9, hgl]; exact (ha_ne (by simp)).trans (ha_eq (by simp))
              have hh9 : W9.heap[gr]? = some (.cells #[.string ⟨#[97]⟩, .int .u8 1, .int .i64 1, .slice none 0 0, .string ⟨#[97]⟩, .int .u8 1, .int .i64 0, .slice (some ⟨gz, 0, none⟩) 10 10, .string ⟨#[97]⟩, .int .u8 2, .int .i64 0, .slice (some ⟨gb, 0, none⟩) 10 10, .string ⟨#[97]⟩, .int .u8 1, .int .i64 1, .slice (some ⟨gl, 0, none⟩) 10 10, .string ⟨#[97]⟩, .int .u8 1, .int .i64 (-1), .slice (some ⟨gb, 0, none⟩) 10 10, .string ⟨#[97]⟩, .int .u8 0, .int .i64 1, .slice (some ⟨gz, 0, none⟩) 10 10, .string ⟨#[97]⟩, .int .u8 4, .int .i64 1, .slice (some ⟨gz, 0, none⟩) 10 10, .string ⟨#[65]⟩, .int .u8 1, .int .i64 1, .slice (some ⟨gz, 0, none⟩) 10 10] 41 (0, 0)) := by rw [hW9, hgr, hgz, hgb, hgl]; exact ha_eq (by simp)
              have hS9 : Sess w₀ W9 := by
                rw [hW9]
                exact HS4.out.next ((((Below.refl _ v4).alloc (Nat.le_refl _) _).alloc (by simp) _).alloc (by simp <;> omega) _ |>.alloc (by simp <;> omega) _)
              rw [← hgr, ← hgl, ← hgb, ← hgz]
              have HS9 := Lib.hid (And.intro hS9 (And.intro hhz (And.intro hhb (And.intro hhl hh9))))
              clear hW9 hgz hgb hgl hgr hhz hhb hhl hh9 hS9 HS4 hmk
              go_loopw [224] (fun iv wr => ∃ i : Nat, iv = .int .i64 (i : Int) ∧ i ≤ 8 ∧ Below W9.heap.size W9 wr)
                (fun iv _ => 8 - natOf iv)
              case atStart => exact ⟨0, rfl, by omega, Below.refl _ _⟩
              case round =>
                obtain ⟨i, rfl, hi, hB⟩ := hrel
                by_cases hlast : i < 8
                · have hli : (i : Int) < 8 := by omega
                  obtain ⟨d, t, g, fl, fp, fc, x0, x1, x2, x3, hF, hrB, hdl, ht, hfl⟩ : ∃ (d : Bytes) (t : Nat) (g : Int) (fl : List Int) (fp : Option Addr) (fc : Nat), W9.cell? ⟨gr, i * 4, none⟩ = some (.string ⟨d.toArray⟩) ∧ W9.cell? ⟨gr, i * 4 + 1, none⟩ = some (.int .u8 (t : Int)) ∧ W9.cell? ⟨gr, i * 4 + 2, none⟩ = some (.int .i64 g) ∧ W9.cell? ⟨gr, i * 4 + 3, none⟩ = some (.slice fp fl.length fc) ∧ RowIn W9 W9.heap.size (.slice fp fl.length fc) fl.length (fl.map (Value.int .i64)) ∧ rowB d t (g :: fl) = false ∧ d.length ≤ 10 ∧ t < 256 ∧ fl.length ≤ 10 := by
                    have hh9 := HS9.out.2.2.2.2
                    have hRz : RowIn W9 W9.heap.size (.slice (some ⟨gz, 0, none⟩) 10 10) 10 (zer10.map (Value.int .i64)) := .inr ⟨_, _, rfl, (Array.getElem?_eq_some_iff.1 HS9.out.2.1).1, World.news_of_block HS9.out.2.1⟩
                    have hRb : RowIn W9 W9.heap.size (.slice (some ⟨gb, 0, none⟩) 10 10) 10 (bad10.map (Value.int .i64)) := .inr ⟨_, _, rfl, (Array.getElem?_eq_some_iff.1 HS9.out.2.2.1).1, World.news_of_block HS9.out.2.2.1⟩
                    have hRl : RowIn W9 W9.heap.size (.slice (some ⟨gl, 0, none⟩) 10 10) 10 (less10.map (Value.int .i64)) := .inr ⟨_, _, rfl, (Array.getElem?_eq_some_iff.1 HS9.out.2.2.2.1).1, World.news_of_block HS9.out.2.2.2.1⟩
                    have hi' : i = 0 ∨ i = 1 ∨ i = 2 ∨ i = 3 ∨ i = 4 ∨ i = 5 ∨ i = 6 ∨ i = 7 := by omega
                    rcases hi' with rfl | rfl | rfl | rfl | rfl | rfl | rfl | rfl
                    · exact ⟨[97], 1, 1, [], none, 0, by simp [World.cell?, hh9], by simp [World.cell?, hh9], by simp [World.cell?, hh9], by simp [World.cell?, hh9], .inl ⟨rfl, rfl, rfl⟩, by decide, by decide, by decide, by decide⟩
                    · exact ⟨[97], 1, 0, zer10, some ⟨gz, 0, none⟩, 10, by simp [World.cell?, hh9], by simp [World.cell?, hh9], by simp [World.cell?, hh9], by simp [World.cell?, hh9, zer10], hRz, by decide, by decide, by decide, by decide⟩
                    · exact ⟨[97], 2, 0, bad10, some ⟨gb, 0, none⟩, 10, by simp [World.cell?, hh9], by simp [World.cell?, hh9], by simp [World.cell?, hh9], by simp [World.cell?, hh9, bad10], hRb, by decide, by decide, by decide, by decide⟩
                    · exact ⟨[97], 1, 1, less10, some ⟨gl, 0, none⟩, 10, by simp [World.cell?, hh9], by simp [World.cell?, hh9], by simp [World.cell?, hh9], by simp [World.cell?, hh9, less10], hRl, by decide, by decide, by decide, by decide⟩
                    · exact ⟨[97], 1, -1, bad10, some ⟨gb, 0, none⟩, 10, by simp [World.cell?, hh9], by simp [World.cell?, hh9], by simp [World.cell?, hh9], by simp [World.cell?, hh9, bad10], hRb, by decide, by decide, by decide, by decide⟩
                    · exact ⟨[97], 0, 1, zer10, some ⟨gz, 0, none⟩, 10, by simp [World.cell?, hh9], by simp [World.cell?, hh9], by simp [World.cell?, hh9], by simp [World.cell?, hh9, zer10], hRz, by decide, by decide, by decide, by decide⟩
                    · exact ⟨[97], 4, 1, zer10, some ⟨gz, 0, none⟩, 10, by simp [World.cell?, hh9], by simp [World.cell?, hh9], by simp [World.cell?, hh9], by simp [World.cell?, hh9, zer10], hRz, by decide, by decide, by decide, by decide⟩
                    · exact ⟨[65], 1, 1, zer10, some ⟨gz, 0, none⟩, 10, by simp [World.cell?, hh9], by simp [World.cell?, hh9], by simp [World.cell?, hh9], by simp [World.cell?, hh9, zer10], hRz, by decide, by decide, by decide, by decide⟩
                  have hgl : gr < W9.heap.size := cell_lt x0
                  have y0 := (hB.cell (p := ⟨gr, i * 4, none⟩) hgl).trans x0
                  have y1 := (hB.cell (p := ⟨gr, i * 4 + 1, none⟩) hgl).trans x1
                  have y2 := (hB.cell (p := ⟨gr, i * 4 + 2, none⟩) hgl).trans x2
                  have y3 := (hB.cell (p := ⟨gr, i * 4 + 3, none⟩) hgl).trans x3
                  have HX := Lib.hid (And.intro hB (And.intro hF (And.intro hrB (And.intro hdl (And.intro ht hfl)))))
                  clear x0 x1 x2 x3 hgl hB hF hrB hdl ht hfl
                  go_wp2_with fail
                  obtain ⟨W10, hW10⟩ : ∃ W10, W10 = (wr.alloc (.cells #[.string ⟨d.toArray⟩, .int .u8 (t : Int), .int .i64 g, .slice fp fl.length fc] 41)).alloc (.cells #[.string ⟨d.toArray⟩, .int .u8 (t : Int), .int .i64 g, .slice fp fl.length fc] 41) := ⟨_, rfl⟩
                  rw [← hW10]
                  have hB10 : Below wr.heap.size wr W10 := by rw [hW10]; exact ((Below.refl _ _).alloc (Nat.le_refl _) _).alloc (by simp) _
                  have hh10 : W10.heap[wr.heap.size + 1]? = some (.cells #[.string ⟨d.toArray⟩, .int .u8 (t : Int), .int .i64 g, .slice fp fl.length fc] 41 (0, 0)) := by rw [hW10]; exact ha_eq (by simp)
                  have hB910 : Below W9.heap.size W9 W10 := HX.out.1.trans (Below.less hB10 HX.out.1.size)
                  have hS10 := HS9.out.1.next hB910
                  have hF10 := (HX.out.2.1.below hB910).mono hB910.size
                  have hRG : RowsG W10 (.slice (some ⟨wr.heap.size + 1, 0, none⟩) 1 1) [((d, t), g :: fl)] := rowsG_of hh10 rfl (fun q hq => by
                    obtain rfl : q = 0 := by simp at hq; exact hq
                    exact ⟨_, rfl, rfl, rfl, rfl, hF10, by simp⟩) (fun x hx => by
                    rw [List.mem_singleton.1 hx]
                    exact ⟨Nat.le_trans HX.out.2.2.2.1 (by decide), HX.out.2.2.2.2.1⟩)
                  have hOf := of_no (names := 3) hRG (fun h => by
                    have := h.rows _ (List.mem_singleton.2 rfl)
                    rw [HX.out.2.2.1] at this
                    cases this) (by decide) (by decide) (by simp) (fun x hx => by
                    rw [List.mem_singleton.1 hx]
                    have := HX.out.2.2.2.2.2
                    simp
                    omega) hS10.glob hS10.mayt
                  have HB10 := Lib.hid hB910
                  clear hW10 hB10 hh10 hB910 hS10 hF10 hRG y0 y1 y2 y3
                  refine hOf.mono ?_
                  rintro e w11 ⟨rfl, hB11⟩
                  have HB11 := Lib.hid (HB10.out.trans (Below.less hB11 HB10.out.size))
                  clear hOf hB11 HB10
                  go_wp2
                  go_roundw
                  case rel => exact ⟨i + 1, by simp, by omega, HB11.out⟩
                  case measure => simp [natOf]; omega
                · have hli : ¬ (i : Int) < 8 := by omega
                  have hK : KeepZB w₀ wr gz gb := KeepZB.next ⟨HS9.out.1, HS9.out.2.1, HS9.out.2.2.1⟩ hB
                  have HKa := Lib.hid hK
                  obtain ⟨wq, hwq⟩ : ∃ w, w = wr := ⟨_, rfl⟩
                  rw [← hwq] at HKa ⊢
                  clear hK hB hi hlast hwq HS9
                  go_upto_region 48 with (fail)
                  obtain ⟨y1, hy1⟩ : ∃ X, X = ((wq.alloc (.cells #[.string ⟨#[98]⟩, .int .u8 2, .int .i64 1, .slice (some ⟨gz, 0, none⟩) 10 10] 41)).alloc (.cells #[.string ⟨#[98]⟩, .int .u8 1, .int .i64 0, .slice (some ⟨gb, 0, none⟩) 10 10] 41)).alloc (.cells #[.string ⟨#[99]⟩, .int .u8 1, .int .i64 4, .slice (some ⟨gb, 0, none⟩) 10 10] 41) := ⟨_, rfl⟩
                  rw [← hy1]
                  obtain ⟨g1, hg1⟩ : ∃ g, g = wq.heap.size := ⟨_, rfl⟩
                  have hN1 : KeepN w₀ y1 gz gb g1 := ⟨by rw [hy1]; exact HKa.out.next (((Below.refl _ wq).alloc (Nat.le_refl _) _).alloc (by simp) _ |>.alloc (by simp <;> omega) _), by rw [hy1, hg1]; exact (ha_ne (by simp <;> omega)).trans ((ha_ne (by simp)).trans (ha_eq rfl)), by rw [hy1, hg1]; exact (ha_ne (by simp)).trans (ha_eq (by simp)), by rw [hy1, hg1]; exact ha_eq (by simp)⟩
                  have e1 : g1 + 1 + 1 = g1 + 2 := rfl
                  rw [← hg1]
                  have HN1 := Lib.hid hN1
                  clear hN1 hy1 hg1 HKa e1
                  obtain ⟨k0, k1, k2, k3, k4, k5, k6, k7, k8, k9, k10, k11⟩ := HN1.out.cells
                  go_wp2_with fail
                  obtain ⟨X1, hX1⟩ : ∃ X, X = y1.alloc (.cells #[.string ⟨#[98]⟩, .int .u8 2, .int .i64 1, .slice (some ⟨gz, 0, none⟩) 10 10, .string ⟨#[98]⟩, .int .u8 1, .int .i64 0, .slice (some ⟨gb, 0, none⟩) 10 10] 41) := ⟨_, rfl⟩
                  rw [← hX1]
                  have hBX1 : Below y1.heap.size y1 X1 := by rw [hX1]; exact (Below.refl _ _).alloc (Nat.le_refl _) _
                  have hXh1 : X1.heap[y1.heap.size]? = some (.cells #[.string ⟨#[98]⟩, .int .u8 2, .int .i64 1, .slice (some ⟨gz, 0, none⟩) 10 10, .string ⟨#[98]⟩, .int .u8 1, .int .i64 0, .slice (some ⟨gb, 0, none⟩) 10 10] 41 (0, 0)) := by rw [hX1]; exact ha_eq rfl
                  have hK1 := HN1.out.next hBX1
                  have hZ := hK1.zb.rz
                  have hBd := hK1.zb.rb
                  have hRG1 : RowsG X1 (.slice (some ⟨y1.heap.size, 0, none⟩) 2 2) [rowOne, rowTwo] := rowsG_of hXh1 rfl (fun q hq => by match q, hq with | 0, _ => exact ⟨_, rfl, rfl, rfl, rfl, hZ, List.cons_ne_nil _ _⟩ | 1, _ => exact ⟨_, rfl, rfl, rfl, rfl, hBd, List.cons_ne_nil _ _⟩) (by decide)
                  have hOf1 := of_no (names := 3) hRG1 rows_no1 (by decide) (by decide) (by decide) (by decide) hK1.zb.sess.glob hK1.zb.sess.mayt
                  have HKb1 := Lib.hid (And.intro hK1 hBX1)
                  clear hX1 hBX1 hXh1 hK1 hZ hBd hRG1 k0 k1 k2 k3 k4 k5 k6 k7 k8 k9 k10 k11
                  refine hOf1.mono ?_
                  rintro e y2 ⟨rfl, hB⟩
                  have HN2 := Lib.hid (HKb1.out.1.next hB)
                  clear hOf1 hB HKb1 HN1
                  obtain ⟨k0, k1, k2, k3, k4, k5, k6, k7, k8, k9, k10, k11⟩ := HN2.out.cells
                  go_wp2_with fail
                  obtain ⟨X2, hX2⟩ : ∃ X, X = y2.alloc (.cells #[.string ⟨#[98]⟩, .int .u8 2, .int .i64 1, .slice (some ⟨gz, 0, none⟩) 10 10, .string ⟨#[98]⟩, .int .u8 2, .int .i64 1, .slice (some ⟨gz, 0, none⟩) 10 10] 41) := ⟨_, rfl⟩
                  rw [← hX2]
                  have hBX2 : Below y2.heap.size y2 X2 := by rw [hX2]; exact (Below.refl _ _).alloc (Nat.le_refl _) _
                  have hXh2 : X2.heap[y2.heap.size]? = some (.cells #[.string ⟨#[98]⟩, .int .u8 2, .int .i64 1, .slice (some ⟨gz, 0, none⟩) 10 10, .string ⟨#[98]⟩, .int .u8 2, .int .i64 1, .slice (some ⟨gz, 0, none⟩) 10 10] 41 (0, 0)) := by rw [hX2]; exact ha_eq rfl
                  have hK2 := HN2.out.next hBX2
                  have hZ := hK2.zb.rz
                  have hBd := hK2.zb.rb
                  have hRG2 : RowsG X2 (.slice (some ⟨y2.heap.size, 0, none⟩) 2 2) [rowOne, rowOne] := rowsG_of hXh2 rfl (fun q hq => by match q, hq with | 0, _ => exact ⟨_, rfl, rfl, rfl, rfl, hZ, List.cons_ne_nil _ _⟩ | 1, _ => exact ⟨_, rfl, rfl, rfl, rfl, hZ, List.cons_ne_nil _ _⟩) (by decide)
                  have hOf2 := of_no (names := 3) hRG2 rows_no2 (by decide) (by decide) (by decide) (by decide) hK2.zb.sess.glob hK2.zb.sess.mayt
                  have HKb2 := Lib.hid (And.intro hK2 hBX2)
                  clear hX2 hBX2 hXh2 hK2 hZ hBd hRG2 k0 k1 k2 k3 k4 k5 k6 k7 k8 k9 k10 k11
                  refine hOf2.mono ?_
                  rintro e y3 ⟨rfl, hB⟩
                  have HN3 := Lib.hid (HKb2.out.1.next hB)
                  clear hOf2 hB HKb2 HN2
                  obtain ⟨k0, k1, k2, k3, k4, k5, k6, k7, k8, k9, k10, k11⟩ := HN3.out.cells
                  go_wp2_with fail
                  obtain ⟨X3, hX3⟩ : ∃ X, X = y3.alloc (.cells #[.string ⟨#[98]⟩, .int .u8 1, .int .i64 0, .slice (some ⟨gb, 0, none⟩) 10 10, .string ⟨#[98]⟩, .int .u8 2, .int .i64 1, .slice (some ⟨gz, 0, none⟩) 10 10, .string ⟨#[99]⟩, .int .u8 1, .int .i64 4, .slice (some ⟨gb, 0, none⟩) 10 10] 41) := ⟨_, rfl⟩
                  rw [← hX3]
                  have hBX3 : Below y3.heap.size y3 X3 := by rw [hX3]; exact (Below.refl _ _).alloc (Nat.le_refl _) _
                  have hXh3 : X3.heap[y3.heap.size]? = some (.cells #[.string ⟨#[98]⟩, .int .u8 1, .int .i64 0, .slice (some ⟨gb, 0, none⟩) 10 10, .string ⟨#[98]⟩, .int .u8 2, .int .i64 1, .slice (some ⟨gz, 0, none⟩) 10 10, .string ⟨#[99]⟩, .int .u8 1, .int .i64 4, .slice (some ⟨gb, 0, none⟩) 10 10] 41 (0, 0)) := by rw [hX3]; exact ha_eq rfl
                  have hK3 := HN3.out.next hBX3
                  have hZ := hK3.zb.rz
                  have hBd := hK3.zb.rb
                  have hRG3 : RowsG X3 (.slice (some ⟨y3.heap.size, 0, none⟩) 3 3) [rowTwo, rowOne, rowThree] := rowsG_of hXh3 rfl (fun q hq => by match q, hq with | 0, _ => exact ⟨_, rfl, rfl, rfl, rfl, hBd, List.cons_ne_nil _ _⟩ | 1, _ => exact ⟨_, rfl, rfl, rfl, rfl, hZ, List.cons_ne_nil _ _⟩ | 2, _ => exact ⟨_, rfl, rfl, rfl, rfl, hBd, List.cons_ne_nil _ _⟩) (by decide)
                  have hOf3 := of_full (names := 1) hRG3 rows_ok (by rw [rows_doms]; decide) (by decide) (by decide) (by decide) (by decide) hK3.zb.sess.glob hK3.zb.sess.mayt
                  have HKb3 := Lib.hid (And.intro hK3 hBX3)
                  clear hX3 hBX3 hXh3 hK3 hZ hBd hRG3 k0 k1 k2 k3 k4 k5 k6 k7 k8 k9 k10 k11
                  refine hOf3.mono ?_
                  rintro e y4 ⟨rfl, hB⟩
                  have HN4 := Lib.hid (HKb3.out.1.next hB)
                  clear hOf3 hB HKb3 HN3
                  obtain ⟨k0, k1, k2, k3, k4, k5, k6, k7, k8, k9, k10, k11⟩ := HN4.out.cells
                  go_wp2_with fail
                  obtain ⟨X4, hX4⟩ : ∃ X, X = y4.alloc (.cells #[.string ⟨#[98]⟩, .int .u8 1, .int .i64 0, .slice (some ⟨gb, 0, none⟩) 10 10, .string ⟨#[98]⟩, .int .u8 2, .int .i64 1, .slice (some ⟨gz, 0, none⟩) 10 10, .string ⟨#[99]⟩, .int .u8 1, .int .i64 4, .slice (some ⟨gb, 0, none⟩) 10 10] 41) := ⟨_, rfl⟩
                  rw [← hX4]
                  have hBX4 : Below y4.heap.size y4 X4 := by rw [hX4]; exact (Below.refl _ _).alloc (Nat.le_refl _) _
                  have hXh4 : X4.heap[y4.heap.size]? = some (.cells #[.string ⟨#[98]⟩, .int .u8 1, .int .i64 0, .slice (some ⟨gb, 0, none⟩) 10 10, .string ⟨#[98]⟩, .int .u8 2, .int .i64 1, .slice (some ⟨gz, 0, none⟩) 10 10, .string ⟨#[99]⟩, .int .u8 1, .int .i64 4, .slice (some ⟨gb, 0, none⟩) 10 10] 41 (0, 0)) := by rw [hX4]; exact ha_eq rfl
                  have hK4 := HN4.out.next hBX4
                  have hZ := hK4.zb.rz
                  have hBd := hK4.zb.rb
                  have hRG4 : RowsG X4 (.slice (some ⟨y4.heap.size, 0, none⟩) 3 3) [rowTwo, rowOne, rowThree] := rowsG_of hXh4 rfl (fun q hq => by match q, hq with | 0, _ => exact ⟨_, rfl, rfl, rfl, rfl, hBd, List.cons_ne_nil _ _⟩ | 1, _ => exact ⟨_, rfl, rfl, rfl, rfl, hZ, List.cons_ne_nil _ _⟩ | 2, _ => exact ⟨_, rfl, rfl, rfl, rfl, hBd, List.cons_ne_nil _ _⟩) (by decide)
                  have hOf4 := of_yes (names := 2) hRG4 rows_ok (by rw [rows_doms]; decide) (by decide) (by decide) (by decide) (by decide) hK4.zb.sess.glob hK4.zb.sess.mayt
                  have HKb4 := Lib.hid (And.intro hK4 hBX4)
                  clear hX4 hBX4 hXh4 hK4 hZ hBd hRG4 k0 k1 k2 k3 k4 k5 k6 k7 k8 k9 k10 k11
                  refine hOf4.mono ?_
                  rintro e y5 ⟨rfl, hT5, hB5⟩
                  obtain ⟨b1, hb1⟩ : ∃ b, b = X4.heap.size + 1 := ⟨_, rfl⟩
                  obtain ⟨bm1, hbm1⟩ : ∃ b, b = X4.heap.size := ⟨_, rfl⟩
                  have hS5 := HKb4.out.1.zb.sess.next hB5
                  have hTal : Tal w₀ y5 b1 bm1 2 [rowTwo, rowOne, rowThree] accN := ⟨by rw [hb1, hbm1]; exact hT5, inv_names, by rw [hbm1]; exact HKb4.out.1.zb.sess.size, by omega⟩
                  rw [← hb1]
                  have HT5 := Lib.hid (And.intro hS5 hTal)
                  clear hOf4 hT5 hB5 HKb4 HN4 hS5 hTal hb1 hbm1
                  have hA1 : Calls Tryd.prog 18 #[.pointer (some ⟨b1, 0, none⟩)] y5 fun e w' => e = .returned (.int .i64 7) ∧ Below y5.heap.size y5 w' := all_step HT5.out.2 (by decide)
                  go_wp2_with fail
                  refine hA1.mono ?_
                  rintro e y6 ⟨rfl, hB6⟩
                  have hT6 := HT5.out.2.next hB6
                  have hS6 := HT5.out.1.next hB6
                  have hD := domains_any' b1 bm1 2 _ y6 hT6.at_ (by decide)
                  rw [rows_doms] at hD
                  have HT6 := Lib.hid (And.intro hS6 hT6)
                  clear hA1 hB6 hT6 hS6 HT5
                  go_wp2_with fail
                  refine hD.mono ?_
                  rintro e y7 ⟨vd, rfl, hO, hB7⟩
                  obtain ⟨pd, cd, rfl⟩ := own_shape2 hO
                  have HT7 := Lib.hid (And.intro (HT6.out.1.next hB7) (And.intro (HT6.out.2.next hB7) hO))
                  clear hD hB7 hO HT6
                  go_wp2_with fail
                  obtain ⟨Y8, hY8⟩ : ∃ Y, Y = y7.alloc (.cells #[.string ⟨#[98]⟩, .string ⟨#[99]⟩] 9) := ⟨_, rfl⟩
                  rw [← hY8]
                  have hB8 : Below y7.heap.size y7 Y8 := by rw [hY8]; exact (Below.refl _ _).alloc (Nat.le_refl _) _
                  have hO8 : Y8.ownsRow 0 9 1 (.slice (some ⟨y7.heap.size, 0, none⟩) 2 2) ([[98], [99]] : List Bytes).length (([[98], [99]] : List Bytes).map str) := ⟨rfl, .inr ⟨y7.heap.size, 2, #[.string ⟨#[98]⟩, .string ⟨#[99]⟩], rfl, Nat.zero_le _, by rw [hY8]; exact ha_eq rfl, by decide, by decide, rfl, rfl⟩⟩
                  have hQ : Calls Tryd.prog 31 #[.slice pd 2 cd, .slice (some ⟨y7.heap.size, 0, none⟩) 2 2] Y8 fun e w' => e = .returned (.bool true) ∧ Below Y8.heap.size Y8 w' := by
                    refine (refStrs_any Y8 _ 0 (.slice pd 2 cd) (.slice (some ⟨y7.heap.size, 0, none⟩) 2 2) [[98], [99]] [[98], [99]] (own_below HT7.out.2.2 hB8) hO8 (by decide)).mono ?_
                    rintro e w' ⟨m, rfl, rfl⟩
                    exact ⟨by rw [decide_eq_true rfl], below_drewN (Below.refl _ _) _⟩
                  have HT8 := Lib.hid (And.intro (HT7.out.1.next hB8) (HT7.out.2.1.next hB8))
                  clear hY8 hB8 hO8 HT7
                  refine hQ.mono ?_
                  rintro e y9 ⟨rfl, hB9⟩
                  have hS9 := HT8.out.1.next hB9
                  have hT9 := HT8.out.2.next hB9
                  have hAd : Calls Tryd.prog 14 #[.pointer (some ⟨b1, 0, none⟩), .agg #[.string ⟨#[100]⟩, .int .u8 1, .int .u8 0]] y9 fun e w' => e = .returned (.int .i64 41) ∧ Sess w₀ w' ∧ Tal w₀ w' b1 bm1 2 [rowTwo, rowOne, rowThree] accN := by
                    refine (add_step hS9 hT9 (([100], 1), 0) (by decide) (by decide) (by decide) (by decide)).mono ?_
                    rintro e w' ⟨he, hs, ht, _⟩
                    have e1 : addS 2 [rowTwo, rowOne, rowThree] [100] 1 0 = [rowTwo, rowOne, rowThree] := by unfold addS; rw [add_full]; rfl
                    have e2 : accS 2 [rowTwo, rowOne, rowThree] accN (([100], 1), 0) = accN := by unfold accS; dsimp only; rw [add_full]; rfl
                    dsimp only at he ht
                    rw [add_full] at he
                    rw [e1, e2] at ht
                    exact ⟨he, hs, ht⟩
                  clear hQ hB9 HT8 hS9 hT9
                  go_wp2_with fail
                  refine hAd.mono ?_
                  rintro e y10 ⟨rfl, hS10, hT10⟩
                  have hAc : Calls Tryd.prog 14 #[.pointer (some ⟨b1, 0, none⟩), .agg #[.string ⟨#[99]⟩, .int .u8 3, .int .u8 0]] y10 fun e w' => e = .returned (.int .i64 0) ∧ Sess w₀ w' ∧ Tal w₀ w' b1 bm1 2 (addS 2 [rowTwo, rowOne, rowThree] [99] 3 0) (accN ++ [(([99], 3), 0)]) := by
                    refine (add_step hS10 hT10 (([99], 3), 0) (by decide) (by decide) (by decide) (by decide)).mono ?_
                    rintro e w' ⟨he, hs, ht, _⟩
                    have e2 : accS 2 [rowTwo, rowOne, rowThree] accN (([99], 3), 0) = accN ++ [(([99], 3), 0)] := by unfold accS; dsimp only; rw [add_good]; rfl
                    dsimp only at he ht
                    rw [add_good] at he
                    rw [e2] at ht
                    exact ⟨he, hs, ht⟩
                  clear hAd hS10 hT10
                  go_wp2_with fail
                  refine hAc.mono ?_
                  rintro e y11 ⟨rfl, hS11, hT11⟩
                  have hA2 : Calls Tryd.prog 18 #[.pointer (some ⟨b1, 0, none⟩)] y11 fun e w' => e = .returned (.int .i64 8) ∧ Below y11.heap.size y11 w' := all_step hT11 (by decide)
                  have HS11 := Lib.hid hS11
                  clear hAc hS11 hT11
                  go_wp2_with fail
                  refine hA2.mono ?_
                  rintro e y12 ⟨rfl, hB12⟩
                  have HB := Lib.hid (HS11.out.next hB12).below
                  clear hA2 hB12
                  go_wp2
                  refine bodyPost_ret (v := .bool true) (by simp [results, Tryd.results7, go_sem]) rfl ⟨rfl, HB.out⟩
end Go.Proofs.YthhcigmdocldnaaDoor

/- The laws' own helper: works. -/
import Derived.Test.YtdlpdpelhkgnlaaGreatDoorEsome
import Derived.Test.YtdlpdpelhkgnlaaGreatDoorEown
import Derived.Test.YtdlpdpelhkgnlaaGreatDoorEend
import Derived.Test.YtdlpdpelhkgnlaaGreatDoorEenw
import Derived.Test.YtdlpdpelhkgnlaaGreatDoorEbad
namespace Go.Proofs.YtdlpdpelhkgnlaaGreatDoor
open Go Go.RowKit Go.Shelf Go.Sort
attribute [local go_sem] bneI

def failL : List FaP := [(2, [110, 111])]
def endS : EntP := (endN someX [100, 46, 101] failL 160).1
theorem end_some : endN someX [100, 46, 101] failL 160 = (endS, 0) := by decide +kernel
theorem enc_some : encB someX = [55, 58, 49, 48, 48, 58, 53, 58, 97, 64, 98, 46, 99, 48, 58, 48, 58, 48, 58, 49, 58, 53, 58, 120, 64, 100, 46, 101, 48, 58, 48, 58, 48, 58, 49, 58, 51, 58, 100, 46, 101, 48, 58, 49, 48, 48, 58] := by decide +kernel
theorem may_some : mayN someX = true := by decide +kernel
theorem set_end : settledB endS = true := by decide +kernel
theorem bad_end : badM endS = [0] := by decide +kernel
theorem word_ab : wordB [97, 13, 98] = [97, 98] := by decide +kernel
theorem short_some : ShortE someX := ⟨someShort, by decide +kernel, by decide +kernel, by decide +kernel, by decide +kernel, by decide +kernel⟩
theorem short_end : ShortE endS := ⟨⟨by decide +kernel, by decide +kernel, by decide +kernel, by decide +kernel, by decide +kernel⟩, by decide +kernel, by decide +kernel, by decide +kernel, by decide +kernel, by decide +kernel⟩
theorem tries_some : ∀ j ∈ someX.jobs, -9223372036854775808 ≤ j.tries ∧ j.tries ≤ 9223372036854775807 := by decide +kernel
theorem fail_row {W : World} {b : Nat} (h : W.heap[b]? = some (.cells #[.int .u8 2, .string ⟨#[110, 111]⟩] 42 (0, 0))) : RowK 2 faE W (.slice (some ⟨b, 0, none⟩) 1 1) failL := by
  refine ⟨some ⟨b, 0, none⟩, 1, rfl, Nat.le_refl _, fun _ => ⟨b, 0, rfl, fun i hi j u hu => ?_⟩⟩
  have hi0 : i = 0 := by
    have : failL.length = 1 := rfl
    omega
  subst hi0
  have hu2 : ([.int .u8 2, .string ⟨#[110, 111]⟩] : List Value)[j]? = some u := hu
  simp only [World.cell?, h]
  show (#[Value.int .u8 2, Value.string ⟨#[110, 111]⟩] : Array Value)[0 + 0 * 2 + j]? = some u
  rw [show 0 + 0 * 2 + j = j by omega, ← Array.getElem?_toList]
  exact hu2
theorem zero_row {W : World} {b : Nat} (h : W.heap[b]? = some (.cells #[.int .i64 0] 3 (0, 0))) : RowK 1 naE W (.slice (some ⟨b, 0, none⟩) 1 1) [0] := by
  refine ⟨some ⟨b, 0, none⟩, 1, rfl, Nat.le_refl _, fun _ => ⟨b, 0, rfl, fun i hi j u hu => ?_⟩⟩
  have hi0 : i = 0 := by simpa using hi
  subst hi0
  have hu2 : ([.int .i64 0] : List Value)[j]? = some u := hu
  simp only [World.cell?, h]
  show (#[Value.int .i64 0] : Array Value)[0 + 0 * 1 + j]? = some u
  rw [show 0 + 0 * 1 + j = j by omega, ← Array.getElem?_toList]
  exact hu2
set_option maxRecDepth 100000 in
set_option maxHeartbeats 4000000 in
theorem works_any (w : World) (hE : Env w) : Calls Tryz.prog 8 #[] w fun e w' => e = .returned (.bool true) ∧ Below w.heap.size w w' := by
  have hS1 := some_any w hE
  have HE := Lib.hid hE
  clear hE
  go_enter Tryz.func8, Tryz.ntmps8
  go_wp2_with fail
  refine hS1.mono ?_
  rintro e w1 ⟨⟨sv, fv, jv, rfl, ho⟩, hb1⟩
  have hEn := encode_any someX sv fv jv w1 ho.at short_some (HE.out.keep hb1)
  have H1 := Lib.hid hb1
  clear hS1 ho hb1
  go_wp2_with fail
  refine hEn.mono ?_
  rintro e w2 ⟨hp, hb2⟩
  obtain rfl : e = .returned (.tuple #[.string ⟨(encB someX).toArray⟩, .int .i64 0]) := by
    rcases hp with ⟨-, h⟩ | ⟨h, -⟩
    · exact h
    · exact absurd h (by rw [may_some]; decide)
  clear hp
  have H2 := Lib.hid (H1.out.trans (hb2.mono H1.out.size))
  rw [enc_some]
  clear hEn hb2
  have hS2 := some_any w2 (HE.out.keep H2.out)
  go_wp2_with fail
  refine hS2.mono ?_
  rintro e w3 ⟨⟨sv, fv, jv, rfl, ho⟩, hb3⟩
  have H3 := Lib.hid (H2.out.trans (hb3.mono H2.out.size))
  have HO := Lib.hid ho
  clear hS2 ho hb3
  go_wp2_with fail
  generalize hw4 : World.alloc _ _ = w4
  have hb4 : Below w3.heap.size w3 w4 := by rw [← hw4]; exact (Below.refl _ _).alloc (Nat.le_refl _) _
  have hx4 : w4.heap[w3.heap.size]? = some (.cells #[.int .u8 2, .string ⟨#[110, 111]⟩] 42 (0, 0)) := by rw [← hw4]; exact ha_eq rfl
  have H4 := Lib.hid (H3.out.trans (hb4.mono H3.out.size))
  have hEd := end_any someX [100, 46, 101] failL 160 sv fv jv _ w4 (HO.out.at.below hb4) short_some (fail_row hx4) (by decide +kernel) (by decide +kernel) tries_some (HE.out.keep H4.out)
  clear hw4 hb4 hx4
  refine hEd.mono ?_
  rintro e w5 ⟨⟨sv5, fv5, jv5, rfl, ho5⟩, hb5⟩
  clear hEd
  rw [end_some] at ho5 ⊢
  have H5 := Lib.hid (H4.out.trans (hb5.mono H4.out.size))
  clear hb5
  obtain ⟨p1, c1, rfl⟩ := own_shape ho5.rc
  obtain ⟨p2, c2, rfl⟩ := own_shape ho5.fa
  obtain ⟨p3, c3, rfl⟩ := own_shape ho5.jo
  have HO5 := Lib.hid ho5
  clear ho5
  unfold entV entC
  go_upto_region 3 with (fail)
  generalize hw6 : World.alloc _ _ = w6
  have hb6 : Below w5.heap.size w5 w6 := by rw [← hw6]; exact (Below.refl _ _).alloc (Nat.le_refl _) _
  have hx6 : w6.heap[w5.heap.size]? = some (.cells (entC endS (.slice p1 endS.mail.rcpts.length c1) (.slice p2 endS.fates.length c2) (.slice p3 endS.jobs.length c3)).toArray 32 (0, 0)) := by rw [← hw6]; exact ha_eq rfl
  have H6 := Lib.hid (H5.out.trans (hb6.mono H5.out.size))
  have hA6 := HO5.out.at.below hb6
  have hSt := settled_any endS _ _ _ w6 hA6 short_end
  have HA6 := Lib.hid (And.intro hA6 hx6)
  unfold entV entC at hSt
  unfold entC at hx6
  obtain ⟨y0, y1, y2, y3, y4, y5, y6, y7, y8, y9⟩ := eboxAll hx6
  clear hw6 hb6 hA6 hx6
  go_wp2_with fail
  refine hSt.mono ?_
  rintro e w7 ⟨rfl, hb7⟩
  rw [set_end]
  clear hSt y0 y1 y2 y3 y4 y5 y6 y7 y8 y9
  have H7 := Lib.hid (H6.out.trans (hb7.mono H6.out.size))
  have hx7 := (hb7.block _ (lt_of_cells HA6.out.2)).trans HA6.out.2
  have hBd := bad_any endS _ _ _ w7 (HA6.out.1.below hb7) short_end
  unfold entV entC at hBd
  unfold entC at hx7
  obtain ⟨y0, y1, y2, y3, y4, y5, y6, y7, y8, y9⟩ := eboxAll hx7
  clear hb7 hx7
  go_wp2_with fail
  refine hBd.mono ?_
  rintro e w8 ⟨⟨v, rfl, ho⟩, hb8⟩
  rw [bad_end] at ho
  clear hBd y0 y1 y2 y3 y4 y5 y6 y7 y8 y9
  have H8 := Lib.hid (H7.out.trans (hb8.mono H7.out.size))
  have HO8 := Lib.hid ho
  clear hb8 ho
  go_wp2_with fail
  generalize hw9 : World.alloc _ _ = w9
  have hb9 : Below w8.heap.size w8 w9 := by rw [← hw9]; exact (Below.refl _ _).alloc (Nat.le_refl _) _
  have hx9 : w9.heap[w8.heap.size]? = some (.cells #[.int .i64 0] 3 (0, 0)) := by rw [← hw9]; exact ha_eq rfl
  have hIn := ints_any [0] [0] v _ w9 ((own_nat HO8.out).below hb9) (zero_row hx9) (by decide)
  have H9 := Lib.hid (H8.out.trans (hb9.mono H8.out.size))
  clear hw9 hb9 hx9
  refine hIn.mono ?_
  rintro e w10 ⟨rfl, hb10⟩
  clear hIn
  have H10 := Lib.hid (H9.out.trans (hb10.mono H9.out.size))
  clear hb10
  have hWd := word_any [97, 13, 98] w10 (by decide)
  rw [word_ab] at hWd
  go_wp2_with fail
  refine hWd.mono ?_
  rintro e w11 ⟨rfl, hb11⟩
  clear hWd
  have H11 := Lib.hid (H10.out.trans (hb11.mono H10.out.size))
  clear hb11
  go_wp2
  refine bodyPost_ret (v := .bool true) (by simp [results, Tryz.results8, go_sem]) rfl ⟨rfl, H11.out⟩
end Go.Proofs.YtdlpdpelhkgnlaaGreatDoor

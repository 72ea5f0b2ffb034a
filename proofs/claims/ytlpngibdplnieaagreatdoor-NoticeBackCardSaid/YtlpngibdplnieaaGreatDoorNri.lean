/- notice.lines, as read calls it. -/
import Derived.Test.YtlpngibdplnieaaGreatDoorMp
import Derived.Deep.RegionHeld3
namespace Go.Proofs.YtlpngibdplnieaaGreatDoor
open Go Go.RowKit Go.Shelf Go.Sort
attribute [local go_sem] bneI

def LinesPost (w0 : World) (z : Nat) (s : Bytes) (e : Ending) (w' : World) : Prop := (∃ fv st, linesR s = some st ∧ e = .returned (.tuple #[]) ∧ RdL w0 z fv st w') ∨ (linesR s = none ∧ e = .panicked PC ∧ ∃ fv st, RdL w0 z fv st w')
def restLen (z : Nat) (w : World) : Nat := match w.cell? ⟨z, 0, none⟩ with
  | some (.string b) => b.size
  | _ => 0
theorem RdL.restLen {w0 : World} {z : Nat} {fv : Value} {st : RdS} {W : World} (h : RdL w0 z fv st W) : restLen z W = st.rest.length := by
  have hb := h.bs
  unfold Go.Proofs.YtlpngibdplnieaaGreatDoor.restLen
  simp [World.cell?, hb]
  rfl
set_option linter.unusedSimpArgs false in
set_option linter.unusedVariables false in
set_option maxRecDepth 1000000 in
set_option maxHeartbeats 16000000 in
theorem linesR_any (w0 : World) (z : Nat) (s : Bytes) (w : World) (hz : z + 5 = w.heap.size) (h : RdL w0 z (.slice none 0 0) (startR s) (w.alloc (.cells #[sheetRV z] 172))) (hg : Glob w0) (hsl : s.length ≤ 1000000) :
    Calls Tryz.prog 81 #[.pointer (some ⟨z + 1, 0, none⟩), .pointer (some ⟨z + 2, 0, none⟩), .pointer (some ⟨z + 3, 0, none⟩), sheetRV z, .func (.func 143) #[] #[.pointer (some ⟨z, 0, none⟩)]] w fun e w' => LinesPost w0 z s e w' := by
  unfold sheetRV at h ⊢
  obtain ⟨w1, hw1⟩ : ∃ w1, w1 = w.alloc (.cells #[.func (.func 140) #[] #[.pointer (some ⟨z, 0, none⟩)]] 172) := ⟨_, rfl⟩
  rw [← hw1] at h
  have Hw1 := Lib.hid (And.intro (show linesR s = kH headP (startR s) from rfl) h)
  have HG := Lib.hid hg
  have HSL := Lib.hid hsl
  clear h hg hsl
  unfold headP at Hw1
  go_enter Tryz.func81, Tryz.ntmps81
  go_upto_region 1 with (fail)
  rw [← hw1, ← hz]
  clear hw1 hz
  go_upto_region 2 with (fail)
  have y8 : w1.cell? ⟨z + 5, 0, none⟩ = some (.func (.func 140) #[] #[.pointer (some ⟨z, 0, none⟩)]) := by have h := Hw1.out.2.b8; unfold sheetRV at h; simp [World.cell?, h]
  have q8 := BW.cell y8
  refine wp_region_quiet_tail (C := fun w' => ∃ p : BW w1, w' = p.v) 4 (by kernel_rfl) (by kernel_rfl) ⟨⟨w1.drew, ⟨rfl, rfl, rfl, Nat.le_refl _, fun _ _ => rfl⟩⟩, rfl⟩ ?_
  simp only [List.take_succ_cons, List.take_zero, List.drop_succ_cons, List.drop_zero]
  repeat (go_big_quiet_step (fail))
  refine wpQuiet_nil ?_
  rintro w2q ⟨⟨w2q, hB5⟩, rfl⟩
  have hS := Hw1.out.2.keep hB5
  clear q8 y8
  have hC := hS.sheet_host [70, 114, 111, 109, 58, 32, 60, 112, 111, 115, 116, 109, 97, 115, 116, 101, 114, 64] [62] HG.out
  have hrun : Sem.run Tryz.prog (callFunc 140 (#[.string ⟨#[70, 114, 111, 109, 58, 32, 60, 112, 111, 115, 116, 109, 97, 115, 116, 101, 114, 64]⟩, .pointer (some ⟨z + 1, 1, none⟩), .string ⟨#[62]⟩] ++ #[.pointer (some ⟨z, 0, none⟩)])) w2q = .ok (.enter 140 (#[.string ⟨#[70, 114, 111, 109, 58, 32, 60, 112, 111, 115, 116, 109, 97, 115, 116, 101, 114, 64]⟩, .pointer (some ⟨z + 1, 1, none⟩), .string ⟨#[62]⟩] ++ #[.pointer (some ⟨z, 0, none⟩)])) w2q := enterSheetR _ _
  clear hS
  go_wp2_with fail
  refine hC.mono ?_
  rintro e w2 (⟨st2, ho, rfl, h⟩ | ⟨ho, rfl, st2, h⟩)
  rotate_left
  · exact ⟨rfl, .inr ⟨by rw [Hw1.out.1]; exact kH_none ho, rfl, _, _, h⟩⟩
  have Hw2 := Lib.hid (And.intro (Hw1.out.1.trans (kH_some ho)) h)
  clear hC hrun h ho hB5
  generalize st2 = stw2 at *
  clear Hw1
  go_upto_region 3 with (fail)
  have y8 : w2.cell? ⟨z + 5, 0, none⟩ = some (.func (.func 140) #[] #[.pointer (some ⟨z, 0, none⟩)]) := by have h := Hw2.out.2.b8; unfold sheetRV at h; simp [World.cell?, h]
  have q8 := BW.cell y8
  refine wp_region_quiet_tail (C := fun w' => ∃ p : BW w2, w' = p.v) 4 (by kernel_rfl) (by kernel_rfl) ⟨⟨w2.drew, ⟨rfl, rfl, rfl, Nat.le_refl _, fun _ _ => rfl⟩⟩, rfl⟩ ?_
  simp only [List.take_succ_cons, List.take_zero, List.drop_succ_cons, List.drop_zero]
  repeat (go_big_quiet_step (fail))
  refine wpQuiet_nil ?_
  rintro w3q ⟨⟨w3q, hB5⟩, rfl⟩
  have hS := Hw2.out.2.keep hB5
  clear q8 y8
  have hC := hS.sheet_dest [84, 111, 58, 32, 60] [62] HG.out
  have hrun : Sem.run Tryz.prog (callFunc 140 (#[.string ⟨#[84, 111, 58, 32, 60]⟩, .pointer (some ⟨z + 1, 2, none⟩), .string ⟨#[62]⟩] ++ #[.pointer (some ⟨z, 0, none⟩)])) w3q = .ok (.enter 140 (#[.string ⟨#[84, 111, 58, 32, 60]⟩, .pointer (some ⟨z + 1, 2, none⟩), .string ⟨#[62]⟩] ++ #[.pointer (some ⟨z, 0, none⟩)])) w3q := enterSheetR _ _
  clear hS
  go_wp2_with fail
  refine hC.mono ?_
  rintro e w3 (⟨st2, ho, rfl, h⟩ | ⟨ho, rfl, st2, h⟩)
  rotate_left
  · exact ⟨rfl, .inr ⟨by rw [Hw2.out.1]; exact kH_none ho, rfl, _, _, h⟩⟩
  have Hw3 := Lib.hid (And.intro (Hw2.out.1.trans (kH_some ho)) h)
  clear hC hrun h ho hB5
  generalize st2 = stw3 at *
  clear Hw2
  go_upto_region 4 with (fail)
  have hS := Hw3.out.2.keep (W' := (w3.alloc (.cells #[.string ⟨#[83, 117, 98, 106, 101, 99, 116, 58, 32, 85, 110, 100, 101, 108, 105, 118, 101, 114, 101, 100, 32, 109, 97, 105, 108]⟩, .string ⟨#[65, 117, 116, 111, 45, 83, 117, 98, 109, 105, 116, 116, 101, 100, 58, 32, 97, 117, 116, 111, 45, 114, 101, 112, 108, 105, 101, 100]⟩, .string ⟨#[77, 73, 77, 69, 45, 86, 101, 114, 115, 105, 111, 110, 58, 32, 49, 46, 48]⟩] 9))) ((Below.refl _ _).alloc (Nat.le_refl _) _)
  have hC := hS.plainR HG.out w3.heap.size [[83, 117, 98, 106, 101, 99, 116, 58, 32, 85, 110, 100, 101, 108, 105, 118, 101, 114, 101, 100, 32, 109, 97, 105, 108], [65, 117, 116, 111, 45, 83, 117, 98, 109, 105, 116, 116, 101, 100, 58, 32, 97, 117, 116, 111, 45, 114, 101, 112, 108, 105, 101, 100], [77, 73, 77, 69, 45, 86, 101, 114, 115, 105, 111, 110, 58, 32, 49, 46, 48]] 3 (ha_eq rfl) (lt_of_cells Hw3.out.2.b8) (by decide)
  have hrun : Sem.run Tryz.prog (callFunc 126 (#[.slice (some ⟨w3.heap.size, 0, none⟩) 3 3] ++ #[.pointer (some ⟨z + 5, 0, none⟩)])) (w3.alloc (.cells #[.string ⟨#[83, 117, 98, 106, 101, 99, 116, 58, 32, 85, 110, 100, 101, 108, 105, 118, 101, 114, 101, 100, 32, 109, 97, 105, 108]⟩, .string ⟨#[65, 117, 116, 111, 45, 83, 117, 98, 109, 105, 116, 116, 101, 100, 58, 32, 97, 117, 116, 111, 45, 114, 101, 112, 108, 105, 101, 100]⟩, .string ⟨#[77, 73, 77, 69, 45, 86, 101, 114, 115, 105, 111, 110, 58, 32, 49, 46, 48]⟩] 9)) = .ok (.enter 126 (#[.slice (some ⟨w3.heap.size, 0, none⟩) 3 3] ++ #[.pointer (some ⟨z + 5, 0, none⟩)])) (w3.alloc (.cells #[.string ⟨#[83, 117, 98, 106, 101, 99, 116, 58, 32, 85, 110, 100, 101, 108, 105, 118, 101, 114, 101, 100, 32, 109, 97, 105, 108]⟩, .string ⟨#[65, 117, 116, 111, 45, 83, 117, 98, 109, 105, 116, 116, 101, 100, 58, 32, 97, 117, 116, 111, 45, 114, 101, 112, 108, 105, 101, 100]⟩, .string ⟨#[77, 73, 77, 69, 45, 86, 101, 114, 115, 105, 111, 110, 58, 32, 49, 46, 48]⟩] 9)) := enterPlain _ _
  clear hS
  go_wp2_with fail
  refine hC.mono ?_
  rintro e w4 (⟨st2, ho, rfl, h⟩ | ⟨ho, rfl, st2, h⟩)
  rotate_left
  · exact ⟨rfl, .inr ⟨by rw [Hw3.out.1]; exact kH_none ho, rfl, _, _, h⟩⟩
  have Hw4 := Lib.hid (And.intro (Hw3.out.1.trans (kH_some ho)) h)
  clear hC hrun h ho
  generalize st2 = stw4 at *
  clear Hw3
  go_upto_region 5 with (fail)
  have y8 : w4.cell? ⟨z + 5, 0, none⟩ = some (.func (.func 140) #[] #[.pointer (some ⟨z, 0, none⟩)]) := by have h := Hw4.out.2.b8; unfold sheetRV at h; simp [World.cell?, h]
  have hS := Hw4.out.2
  have hC := hS.sheet_id (67 :: 111 :: 110 :: 116 :: 101 :: 110 :: 116 :: 45 :: 84 :: 121 :: 112 :: 101 :: 58 :: 32 :: 109 :: 117 :: 108 :: 116 :: 105 :: 112 :: 97 :: 114 :: 116 :: 47 :: 114 :: 101 :: 112 :: 111 :: 114 :: 116 :: 59 :: 32 :: 114 :: 101 :: 112 :: 111 :: 114 :: 116 :: 45 :: 116 :: 121 :: 112 :: 101 :: 61 :: 100 :: 101 :: 108 :: 105 :: 118 :: 101 :: 114 :: 121 :: 45 :: 115 :: 116 :: 97 :: 116 :: 117 :: 115 :: 59 :: 32 :: 98 :: 111 :: 117 :: 110 :: 100 :: 97 :: 114 :: 121 :: 61 :: 34 :: 110 :: 45 :: []) [34] HG.out
  have hrun : Sem.run Tryz.prog (callFunc 140 (#[.string ⟨(67 :: 111 :: 110 :: 116 :: 101 :: 110 :: 116 :: 45 :: 84 :: 121 :: 112 :: 101 :: 58 :: 32 :: 109 :: 117 :: 108 :: 116 :: 105 :: 112 :: 97 :: 114 :: 116 :: 47 :: 114 :: 101 :: 112 :: 111 :: 114 :: 116 :: 59 :: 32 :: 114 :: 101 :: 112 :: 111 :: 114 :: 116 :: 45 :: 116 :: 121 :: 112 :: 101 :: 61 :: 100 :: 101 :: 108 :: 105 :: 118 :: 101 :: 114 :: 121 :: 45 :: 115 :: 116 :: 97 :: 116 :: 117 :: 115 :: 59 :: 32 :: 98 :: 111 :: 117 :: 110 :: 100 :: 97 :: 114 :: 121 :: 61 :: 34 :: 110 :: 45 :: []).toArray⟩, .pointer (some ⟨z + 2, 0, none⟩), .string ⟨#[34]⟩] ++ #[.pointer (some ⟨z, 0, none⟩)])) w4 = .ok (.enter 140 (#[.string ⟨(67 :: 111 :: 110 :: 116 :: 101 :: 110 :: 116 :: 45 :: 84 :: 121 :: 112 :: 101 :: 58 :: 32 :: 109 :: 117 :: 108 :: 116 :: 105 :: 112 :: 97 :: 114 :: 116 :: 47 :: 114 :: 101 :: 112 :: 111 :: 114 :: 116 :: 59 :: 32 :: 114 :: 101 :: 112 :: 111 :: 114 :: 116 :: 45 :: 116 :: 121 :: 112 :: 101 :: 61 :: 100 :: 101 :: 108 :: 105 :: 118 :: 101 :: 114 :: 121 :: 45 :: 115 :: 116 :: 97 :: 116 :: 117 :: 115 :: 59 :: 32 :: 98 :: 111 :: 117 :: 110 :: 100 :: 97 :: 114 :: 121 :: 61 :: 34 :: 110 :: 45 :: []).toArray⟩, .pointer (some ⟨z + 2, 0, none⟩), .string ⟨#[34]⟩] ++ #[.pointer (some ⟨z, 0, none⟩)])) w4 := enterSheetR _ _
  clear hS
  go_wp2_with fail
  refine hC.mono ?_
  rintro e w5 (⟨st2, ho, rfl, h⟩ | ⟨ho, rfl, st2, h⟩)
  rotate_left
  · exact ⟨rfl, .inr ⟨by rw [Hw4.out.1]; exact kH_none ho, rfl, _, _, h⟩⟩
  have Hw5 := Lib.hid (And.intro (Hw4.out.1.trans (kH_some ho)) h)
  clear hC hrun h ho y8
  generalize st2 = stw5 at *
  clear Hw4
  go_upto_region 6 with (fail)
  have hS := Hw5.out.2.keep (W' := (w5.alloc (.cells #[.string ⟨#[]⟩] 9))) ((Below.refl _ _).alloc (Nat.le_refl _) _)
  have hC := hS.plainR HG.out w5.heap.size [[]] 1 (ha_eq rfl) (lt_of_cells Hw5.out.2.b8) (by decide)
  have hrun : Sem.run Tryz.prog (callFunc 126 (#[.slice (some ⟨w5.heap.size, 0, none⟩) 1 1] ++ #[.pointer (some ⟨z + 5, 0, none⟩)])) (w5.alloc (.cells #[.string ⟨#[]⟩] 9)) = .ok (.enter 126 (#[.slice (some ⟨w5.heap.size, 0, none⟩) 1 1] ++ #[.pointer (some ⟨z + 5, 0, none⟩)])) (w5.alloc (.cells #[.string ⟨#[]⟩] 9)) := enterPlain _ _
  clear hS
  go_wp2_with fail
  refine hC.mono ?_
  rintro e w6 (⟨st2, ho, rfl, h⟩ | ⟨ho, rfl, st2, h⟩)
  rotate_left
  · exact ⟨rfl, .inr ⟨by rw [Hw5.out.1]; exact kH_none ho, rfl, _, _, h⟩⟩
  have Hw6 := Lib.hid (And.intro (Hw5.out.1.trans (kH_some ho)) h)
  clear hC hrun h ho
  generalize st2 = stw6 at *
  clear Hw5
  go_upto_region 7 with (fail)
  have y8 : w6.cell? ⟨z + 5, 0, none⟩ = some (.func (.func 140) #[] #[.pointer (some ⟨z, 0, none⟩)]) := by have h := Hw6.out.2.b8; unfold sheetRV at h; simp [World.cell?, h]
  have hS := Hw6.out.2
  have hC := hS.sheet_id [45, 45, 110, 45] [] HG.out
  have hrun : Sem.run Tryz.prog (callFunc 140 (#[.string ⟨#[45, 45, 110, 45]⟩, .pointer (some ⟨z + 2, 0, none⟩), .string ⟨#[]⟩] ++ #[.pointer (some ⟨z, 0, none⟩)])) w6 = .ok (.enter 140 (#[.string ⟨#[45, 45, 110, 45]⟩, .pointer (some ⟨z + 2, 0, none⟩), .string ⟨#[]⟩] ++ #[.pointer (some ⟨z, 0, none⟩)])) w6 := enterSheetR _ _
  clear hS
  go_wp2_with fail
  refine hC.mono ?_
  rintro e w7 (⟨st2, ho, rfl, h⟩ | ⟨ho, rfl, st2, h⟩)
  rotate_left
  · exact ⟨rfl, .inr ⟨by rw [Hw6.out.1]; exact kH_none ho, rfl, _, _, h⟩⟩
  have Hw7 := Lib.hid (And.intro (Hw6.out.1.trans (kH_some ho)) h)
  clear hC hrun h ho y8
  generalize st2 = stw7 at *
  clear Hw6
  go_upto_region 8 with (fail)
  have hS := Hw7.out.2.keep (W' := (w7.alloc (.cells #[.string ⟨#[67, 111, 110, 116, 101, 110, 116, 45, 84, 121, 112, 101, 58, 32, 116, 101, 120, 116, 47, 112, 108, 97, 105, 110]⟩, .string ⟨#[]⟩, .string ⟨(83 :: 111 :: 109 :: 101 :: 32 :: 114 :: 101 :: 99 :: 105 :: 112 :: 105 :: 101 :: 110 :: 116 :: 115 :: 32 :: 104 :: 97 :: 118 :: 101 :: 32 :: 110 :: 111 :: 116 :: 32 :: 103 :: 111 :: 116 :: 32 :: 116 :: 104 :: 105 :: 115 :: 32 :: 109 :: 97 :: 105 :: 108 :: 59 :: 32 :: 119 :: 104 :: 105 :: 99 :: 104 :: 44 :: 32 :: 97 :: 110 :: 100 :: 32 :: 119 :: 104 :: 121 :: 44 :: 32 :: 115 :: 116 :: 97 :: 110 :: 100 :: 115 :: 32 :: 98 :: 101 :: 108 :: 111 :: 119 :: 46 :: []).toArray⟩] 9))) ((Below.refl _ _).alloc (Nat.le_refl _) _)
  have hC := hS.plainR HG.out w7.heap.size [[67, 111, 110, 116, 101, 110, 116, 45, 84, 121, 112, 101, 58, 32, 116, 101, 120, 116, 47, 112, 108, 97, 105, 110], [], (83 :: 111 :: 109 :: 101 :: 32 :: 114 :: 101 :: 99 :: 105 :: 112 :: 105 :: 101 :: 110 :: 116 :: 115 :: 32 :: 104 :: 97 :: 118 :: 101 :: 32 :: 110 :: 111 :: 116 :: 32 :: 103 :: 111 :: 116 :: 32 :: 116 :: 104 :: 105 :: 115 :: 32 :: 109 :: 97 :: 105 :: 108 :: 59 :: 32 :: 119 :: 104 :: 105 :: 99 :: 104 :: 44 :: 32 :: 97 :: 110 :: 100 :: 32 :: 119 :: 104 :: 121 :: 44 :: 32 :: 115 :: 116 :: 97 :: 110 :: 100 :: 115 :: 32 :: 98 :: 101 :: 108 :: 111 :: 119 :: 46 :: [])] 3 (ha_eq rfl) (lt_of_cells Hw7.out.2.b8) (by decide)
  have hrun : Sem.run Tryz.prog (callFunc 126 (#[.slice (some ⟨w7.heap.size, 0, none⟩) 3 3] ++ #[.pointer (some ⟨z + 5, 0, none⟩)])) (w7.alloc (.cells #[.string ⟨#[67, 111, 110, 116, 101, 110, 116, 45, 84, 121, 112, 101, 58, 32, 116, 101, 120, 116, 47, 112, 108, 97, 105, 110]⟩, .string ⟨#[]⟩, .string ⟨(83 :: 111 :: 109 :: 101 :: 32 :: 114 :: 101 :: 99 :: 105 :: 112 :: 105 :: 101 :: 110 :: 116 :: 115 :: 32 :: 104 :: 97 :: 118 :: 101 :: 32 :: 110 :: 111 :: 116 :: 32 :: 103 :: 111 :: 116 :: 32 :: 116 :: 104 :: 105 :: 115 :: 32 :: 109 :: 97 :: 105 :: 108 :: 59 :: 32 :: 119 :: 104 :: 105 :: 99 :: 104 :: 44 :: 32 :: 97 :: 110 :: 100 :: 32 :: 119 :: 104 :: 121 :: 44 :: 32 :: 115 :: 116 :: 97 :: 110 :: 100 :: 115 :: 32 :: 98 :: 101 :: 108 :: 111 :: 119 :: 46 :: []).toArray⟩] 9)) = .ok (.enter 126 (#[.slice (some ⟨w7.heap.size, 0, none⟩) 3 3] ++ #[.pointer (some ⟨z + 5, 0, none⟩)])) (w7.alloc (.cells #[.string ⟨#[67, 111, 110, 116, 101, 110, 116, 45, 84, 121, 112, 101, 58, 32, 116, 101, 120, 116, 47, 112, 108, 97, 105, 110]⟩, .string ⟨#[]⟩, .string ⟨(83 :: 111 :: 109 :: 101 :: 32 :: 114 :: 101 :: 99 :: 105 :: 112 :: 105 :: 101 :: 110 :: 116 :: 115 :: 32 :: 104 :: 97 :: 118 :: 101 :: 32 :: 110 :: 111 :: 116 :: 32 :: 103 :: 111 :: 116 :: 32 :: 116 :: 104 :: 105 :: 115 :: 32 :: 109 :: 97 :: 105 :: 108 :: 59 :: 32 :: 119 :: 104 :: 105 :: 99 :: 104 :: 44 :: 32 :: 97 :: 110 :: 100 :: 32 :: 119 :: 104 :: 121 :: 44 :: 32 :: 115 :: 116 :: 97 :: 110 :: 100 :: 115 :: 32 :: 98 :: 101 :: 108 :: 111 :: 119 :: 46 :: []).toArray⟩] 9)) := enterPlain _ _
  clear hS
  go_wp2_with fail
  refine hC.mono ?_
  rintro e w8 (⟨st2, ho, rfl, h⟩ | ⟨ho, rfl, st2, h⟩)
  rotate_left
  · exact ⟨rfl, .inr ⟨by rw [Hw7.out.1]; exact kH_none ho, rfl, _, _, h⟩⟩
  have Hw8 := Lib.hid (And.intro (Hw7.out.1.trans (kH_some ho)) h)
  clear hC hrun h ho
  generalize st2 = stw8 at *
  clear Hw7
  go_upto_region 9 with (fail)
  have y8 : w8.cell? ⟨z + 5, 0, none⟩ = some (.func (.func 140) #[] #[.pointer (some ⟨z, 0, none⟩)]) := by have h := Hw8.out.2.b8; unfold sheetRV at h; simp [World.cell?, h]
  have hS := Hw8.out.2
  have hC := hS.sheet_id [45, 45, 110, 45] [] HG.out
  have hrun : Sem.run Tryz.prog (callFunc 140 (#[.string ⟨#[45, 45, 110, 45]⟩, .pointer (some ⟨z + 2, 0, none⟩), .string ⟨#[]⟩] ++ #[.pointer (some ⟨z, 0, none⟩)])) w8 = .ok (.enter 140 (#[.string ⟨#[45, 45, 110, 45]⟩, .pointer (some ⟨z + 2, 0, none⟩), .string ⟨#[]⟩] ++ #[.pointer (some ⟨z, 0, none⟩)])) w8 := enterSheetR _ _
  clear hS
  go_wp2_with fail
  refine hC.mono ?_
  rintro e w9 (⟨st2, ho, rfl, h⟩ | ⟨ho, rfl, st2, h⟩)
  rotate_left
  · exact ⟨rfl, .inr ⟨by rw [Hw8.out.1]; exact kH_none ho, rfl, _, _, h⟩⟩
  have Hw9 := Lib.hid (And.intro (Hw8.out.1.trans (kH_some ho)) h)
  clear hC hrun h ho y8
  generalize st2 = stw9 at *
  clear Hw8
  go_upto_region 10 with (fail)
  have hS := Hw9.out.2.keep (W' := (w9.alloc (.cells #[.string ⟨#[67, 111, 110, 116, 101, 110, 116, 45, 84, 121, 112, 101, 58, 32, 109, 101, 115, 115, 97, 103, 101, 47, 100, 101, 108, 105, 118, 101, 114, 121, 45, 115, 116, 97, 116, 117, 115]⟩, .string ⟨#[]⟩] 9))) ((Below.refl _ _).alloc (Nat.le_refl _) _)
  have hC := hS.plainR HG.out w9.heap.size [[67, 111, 110, 116, 101, 110, 116, 45, 84, 121, 112, 101, 58, 32, 109, 101, 115, 115, 97, 103, 101, 47, 100, 101, 108, 105, 118, 101, 114, 121, 45, 115, 116, 97, 116, 117, 115], []] 2 (ha_eq rfl) (lt_of_cells Hw9.out.2.b8) (by decide)
  have hrun : Sem.run Tryz.prog (callFunc 126 (#[.slice (some ⟨w9.heap.size, 0, none⟩) 2 2] ++ #[.pointer (some ⟨z + 5, 0, none⟩)])) (w9.alloc (.cells #[.string ⟨#[67, 111, 110, 116, 101, 110, 116, 45, 84, 121, 112, 101, 58, 32, 109, 101, 115, 115, 97, 103, 101, 47, 100, 101, 108, 105, 118, 101, 114, 121, 45, 115, 116, 97, 116, 117, 115]⟩, .string ⟨#[]⟩] 9)) = .ok (.enter 126 (#[.slice (some ⟨w9.heap.size, 0, none⟩) 2 2] ++ #[.pointer (some ⟨z + 5, 0, none⟩)])) (w9.alloc (.cells #[.string ⟨#[67, 111, 110, 116, 101, 110, 116, 45, 84, 121, 112, 101, 58, 32, 109, 101, 115, 115, 97, 103, 101, 47, 100, 101, 108, 105, 118, 101, 114, 121, 45, 115, 116, 97, 116, 117, 115]⟩, .string ⟨#[]⟩] 9)) := enterPlain _ _
  clear hS
  go_wp2_with fail
  refine hC.mono ?_
  rintro e w10 (⟨st2, ho, rfl, h⟩ | ⟨ho, rfl, st2, h⟩)
  rotate_left
  · exact ⟨rfl, .inr ⟨by rw [Hw9.out.1]; exact kH_none ho, rfl, _, _, h⟩⟩
  have Hw10 := Lib.hid (And.intro (Hw9.out.1.trans (kH_some ho)) h)
  clear hC hrun h ho
  generalize st2 = stw10 at *
  clear Hw9
  go_upto_region 11 with (fail)
  have y8 : w10.cell? ⟨z + 5, 0, none⟩ = some (.func (.func 140) #[] #[.pointer (some ⟨z, 0, none⟩)]) := by have h := Hw10.out.2.b8; unfold sheetRV at h; simp [World.cell?, h]
  have q8 := BW.cell y8
  refine wp_region_quiet_tail (C := fun w' => ∃ p : BW w10, w' = p.v) 4 (by kernel_rfl) (by kernel_rfl) ⟨⟨w10.drew, ⟨rfl, rfl, rfl, Nat.le_refl _, fun _ _ => rfl⟩⟩, rfl⟩ ?_
  simp only [List.take_succ_cons, List.take_zero, List.drop_succ_cons, List.drop_zero]
  repeat (go_big_quiet_step (fail))
  refine wpQuiet_nil ?_
  rintro w11q ⟨⟨w11q, hB5⟩, rfl⟩
  have hS := Hw10.out.2.keep hB5
  clear q8 y8
  have hC := hS.sheet_host [82, 101, 112, 111, 114, 116, 105, 110, 103, 45, 77, 84, 65, 58, 32, 100, 110, 115, 59, 32] [] HG.out
  have hrun : Sem.run Tryz.prog (callFunc 140 (#[.string ⟨#[82, 101, 112, 111, 114, 116, 105, 110, 103, 45, 77, 84, 65, 58, 32, 100, 110, 115, 59, 32]⟩, .pointer (some ⟨z + 1, 1, none⟩), .string ⟨#[]⟩] ++ #[.pointer (some ⟨z, 0, none⟩)])) w11q = .ok (.enter 140 (#[.string ⟨#[82, 101, 112, 111, 114, 116, 105, 110, 103, 45, 77, 84, 65, 58, 32, 100, 110, 115, 59, 32]⟩, .pointer (some ⟨z + 1, 1, none⟩), .string ⟨#[]⟩] ++ #[.pointer (some ⟨z, 0, none⟩)])) w11q := enterSheetR _ _
  clear hS
  go_wp2_with fail
  refine hC.mono ?_
  rintro e w11 (⟨st2, ho, rfl, h⟩ | ⟨ho, rfl, st2, h⟩)
  rotate_left
  · exact ⟨rfl, .inr ⟨by rw [Hw10.out.1]; exact kH_none ho, rfl, _, _, h⟩⟩
  have Hw11 := Lib.hid (And.intro (Hw10.out.1.trans (kH_some ho)) h)
  clear hC hrun h ho hB5
  generalize st2 = stw11 at *
  clear Hw10
  rw [kH_nil] at Hw11
  go_upto_region 12 with (fail)
  have hC := moreR_any z [79, 114, 105, 103, 105, 110, 97, 108, 45, 69, 110, 118, 101, 108, 111, 112, 101, 45, 73, 100, 58, 32] stw11.rest w11 Hw11.out.2.bs
  obtain ⟨mo, hmo⟩ : ∃ mo, mo = moreR [79, 114, 105, 103, 105, 110, 97, 108, 45, 69, 110, 118, 101, 108, 111, 112, 101, 45, 73, 100, 58, 32] stw11.rest := ⟨_, rfl⟩
  rw [← hmo] at hC
  have HMO := Lib.hid hmo
  have hrun : Sem.run Tryz.prog (callFunc 143 (#[.string ⟨#[79, 114, 105, 103, 105, 110, 97, 108, 45, 69, 110, 118, 101, 108, 111, 112, 101, 45, 73, 100, 58, 32]⟩] ++ #[.pointer (some ⟨z, 0, none⟩)])) w11 = .ok (.enter 143 (#[.string ⟨#[79, 114, 105, 103, 105, 110, 97, 108, 45, 69, 110, 118, 101, 108, 111, 112, 101, 45, 73, 100, 58, 32]⟩] ++ #[.pointer (some ⟨z, 0, none⟩)])) w11 := enterMoreR _ _
  clear hmo
  go_wp2_with fail
  refine hC.mono ?_
  rintro e w20 ⟨rfl, hw20⟩
  subst hw20
  clear hC hrun
  go_upto_if 51 with (fail)
  go_cut [] from 52 to 56 (fun w' => ∃ st, linesR s = kA st ∧ RdL w0 z (.slice none 0 0) st w')
  case first =>
    cases mo with
    | false =>
      have HH := Lib.hid (And.intro (Hw11.out.1.trans (kE_no HMO.out.symm)) Hw11.out.2)
      go_wp2
      go_meet
      case rel => exact ⟨_, HH.out⟩
    | true =>
      go_upto_region 13 with (fail)
      have y8 : w20.cell? ⟨z + 5, 0, none⟩ = some (.func (.func 140) #[] #[.pointer (some ⟨z, 0, none⟩)]) := by have h := Hw11.out.2.b8; unfold sheetRV at h; simp [World.cell?, h]
      have q8 := BW.cell y8
      refine wp_region_quiet_tail (C := fun w' => ∃ p : BW w20, w' = p.v) 4 (by kernel_rfl) (by kernel_rfl) ⟨⟨w20.drew, ⟨rfl, rfl, rfl, Nat.le_refl _, fun _ _ => rfl⟩⟩, rfl⟩ ?_
      simp only [List.take_succ_cons, List.take_zero, List.drop_succ_cons, List.drop_zero]
      repeat (go_big_quiet_step (fail))
      refine wpQuiet_nil ?_
      rintro w21q ⟨⟨w21q, hB5⟩, rfl⟩
      have hS := Hw11.out.2.keep hB5
      clear q8 y8
      have hC := hS.sheet_envid [79, 114, 105, 103, 105, 110, 97, 108, 45, 69, 110, 118, 101, 108, 111, 112, 101, 45, 73, 100, 58, 32] [] HG.out
      have hrun : Sem.run Tryz.prog (callFunc 140 (#[.string ⟨#[79, 114, 105, 103, 105, 110, 97, 108, 45, 69, 110, 118, 101, 108, 111, 112, 101, 45, 73, 100, 58, 32]⟩, .pointer (some ⟨z + 1, 3, none⟩), .string ⟨#[]⟩] ++ #[.pointer (some ⟨z, 0, none⟩)])) w21q = .ok (.enter 140 (#[.string ⟨#[79, 114, 105, 103, 105, 110, 97, 108, 45, 69, 110, 118, 101, 108, 111, 112, 101, 45, 73, 100, 58, 32]⟩, .pointer (some ⟨z + 1, 3, none⟩), .string ⟨#[]⟩] ++ #[.pointer (some ⟨z, 0, none⟩)])) w21q := enterSheetR _ _
      clear hS
      go_wp2_with fail
      refine hC.mono ?_
      rintro e w21 (⟨st2, ho, rfl, h⟩ | ⟨ho, rfl, st2, h⟩)
      rotate_left
      · exact ⟨rfl, .inr ⟨by rw [Hw11.out.1]; exact kE_bad HMO.out.symm ho, rfl, _, _, h⟩⟩
      have Hw21 := Lib.hid (And.intro (Hw11.out.1.trans (kE_yes HMO.out.symm ho)) h)
      clear hC hrun h ho hB5
      generalize st2 = stw21 at *
      go_wp2
      go_meet
      case rel => exact ⟨_, Hw21.out⟩
  case rest =>
    obtain ⟨stc, hst⟩ := hcut
    have Hwc := Lib.hid hst
    clear hst Hw11 HMO
    go_upto_region 14 with (fail)
    have y8 : wc.cell? ⟨z + 5, 0, none⟩ = some (.func (.func 140) #[] #[.pointer (some ⟨z, 0, none⟩)]) := by have h := Hwc.out.2.b8; unfold sheetRV at h; simp [World.cell?, h]
    have hS := Hwc.out.2
    have hC := hS.sheet_at [65, 114, 114, 105, 118, 97, 108, 45, 84, 105, 109, 101, 58, 32] [] HG.out
    have hrun : Sem.run Tryz.prog (callFunc 140 (#[.string ⟨#[65, 114, 114, 105, 118, 97, 108, 45, 84, 105, 109, 101, 58, 32]⟩, .pointer (some ⟨z + 3, 0, none⟩), .string ⟨#[]⟩] ++ #[.pointer (some ⟨z, 0, none⟩)])) wc = .ok (.enter 140 (#[.string ⟨#[65, 114, 114, 105, 118, 97, 108, 45, 84, 105, 109, 101, 58, 32]⟩, .pointer (some ⟨z + 3, 0, none⟩), .string ⟨#[]⟩] ++ #[.pointer (some ⟨z, 0, none⟩)])) wc := enterSheetR _ _
    clear hS
    go_wp2_with fail
    refine hC.mono ?_
    rintro e w22 (⟨st2, ho, rfl, h⟩ | ⟨ho, rfl, st2, h⟩)
    rotate_left
    · exact ⟨rfl, .inr ⟨by rw [Hwc.out.1]; exact kA_none ho, rfl, _, _, h⟩⟩
    have Hw22 := Lib.hid (And.intro (Hwc.out.1.trans (kA_some ho)) h)
    clear hC hrun h ho y8
    generalize st2 = stw22 at *
    go_wp2_with fail
    go_loopw [11] (fun s11 wr => ∃ (fv : Value) (st : RdS) (k : Nat), s11 = .int .i64 (st.n.failed.length : Int) ∧ linesR s = kL k st ∧ st.rest.length ≤ k ∧ st.n.failed.length * 2 + st.rest.length ≤ 1000000 ∧ RdL w0 z fv st wr) (fun _ wr => restLen z wr)
    case atStart =>
      have hR := Hw22.out.2
      have hf0 : stw22.n.failed = [] := by
        have h := hR.own
        rcases h.2 with ⟨-, h2⟩ | ⟨g, cap, cur, h2, _⟩
        · exact List.eq_nil_of_length_eq_zero h2
        · cases h2
      exact ⟨.slice none 0 0, stw22, stw22.rest.length, by rw [hf0]; rfl, Hw22.out.1, Nat.le_refl _, by rw [hf0]; have := hR.ok.rest; simpa using this, hR⟩
    case round =>
      obtain ⟨fv, st, k, rfl, heq, hk, hcn, hR⟩ := hrel
      have hC := moreR_any z [] st.rest wr hR.bs
      obtain ⟨mo, hmo⟩ : ∃ mo, mo = moreR [] st.rest := ⟨_, rfl⟩
      rw [← hmo] at hC
      have HMO := Lib.hid hmo
      have hrun : Sem.run Tryz.prog (callFunc 143 (#[.string ⟨#[]⟩] ++ #[.pointer (some ⟨z, 0, none⟩)])) wr = .ok (.enter 143 (#[.string ⟨#[]⟩] ++ #[.pointer (some ⟨z, 0, none⟩)])) wr := enterMoreR _ _
      have HQ := Lib.hid (And.intro heq (And.intro hk (And.intro hcn hR)))
      clear hmo heq hk hcn hR
      go_wp2_with fail
      refine hC.mono ?_
      rintro e w30 ⟨rfl, hw30⟩
      subst hw30
      clear hC hrun
      cases mo with
      | true =>
        have hml := more_len HMO.out.symm
        obtain ⟨k', hk'⟩ : ∃ k', k = k' + 1 := ⟨k - 1, by have := HQ.out.2.1; omega⟩
        have hq0 := HQ.out.1
        rw [hk', kL_more HMO.out.symm] at hq0
        have hkl : st.rest.length ≤ k' + 1 := by have := HQ.out.2.1; omega
        have HQ0 := Lib.hid (And.intro hq0 hkl)
        clear hq0 hkl hml hk'
        obtain ⟨fs, hfs⟩ : ∃ fs, fs = st.n.failed := ⟨_, rfl⟩
        obtain ⟨pp, cc, hpc⟩ := own_shape HQ.out.2.2.2.own
        subst hpc
        have HFS := Lib.hid hfs
        have hno := HQ.out.2.2.2.no
        unfold notC at hno
        rw [← hfs] at hno ⊢
        obtain ⟨-, -, -, -, -, x5⟩ := nobox hno
        clear hno hfs
        go_upto_region 19 with (fail)
        obtain ⟨i0, hi0, hz0, hz1, hz2⟩ := info_parts infoFl
        have hal : Below w30.heap.size w30 (w30.alloc (.cells #[.string ⟨#[]⟩, .string ⟨#[]⟩, .string ⟨#[]⟩] 55)) := (Below.refl _ _).alloc (Nat.le_refl _) _
        have x5b := (hal.cell (p := ⟨_, _, none⟩) (cell_lt x5)).trans x5
        have hown : (w30.alloc (.cells #[.string ⟨#[]⟩, .string ⟨#[]⟩, .string ⟨#[]⟩] 55)).ownsRow (z + 6) 55 3 (.slice pp fs.length cc) fs.length (fs.flatMap flE) := by
          have h := HQ.out.2.2.2.own.kept (World.grownBy_alloc w30 (.cells #[.string ⟨#[]⟩, .string ⟨#[]⟩, .string ⟨#[]⟩] 55) none) (Classical.em _)
          rw [← HFS.out] at h
          exact h
        have hnews : RowIn (w30.alloc (.cells #[.string ⟨#[]⟩, .string ⟨#[]⟩, .string ⟨#[]⟩] 55)) (w30.heap.size + 1) (.slice (some ⟨w30.heap.size, 0, none⟩) 1 1) 1 (flE emptyF) := .inr ⟨⟨w30.heap.size, 0, none⟩, 1, rfl, fun _ => Nat.lt_succ_self _, fun j u hu => by
          have hx : (w30.alloc (.cells #[.string ⟨#[]⟩, .string ⟨#[]⟩, .string ⟨#[]⟩] 55)).heap[w30.heap.size]? = some (.cells #[.string ⟨#[]⟩, .string ⟨#[]⟩, .string ⟨#[]⟩] 55 (0, 0)) := ha_eq rfl
          have ha : Addr.add ⟨w30.heap.size, 0, none⟩ j = ⟨w30.heap.size, j, none⟩ := by simp [Addr.add]; try (intro h; omega)
          rw [ha]
          simp only [World.cell?, hx]
          rw [← Array.getElem?_toList]
          exact hu⟩
        have hcn := HQ.out.2.2.1
        rw [← HFS.out] at hcn
        have hb3 := lt_of_cells HQ.out.2.2.2.b8
        go_wp2_with (at_builtin; refine Bx.h ?_)
        refine ⟨?_⟩
        refine wpList_append_any (P := Tryz.prog) rfl _ _ 32 rfl (z + 6) 55 i0 (.agg #[.string ⟨#[]⟩, .string ⟨#[]⟩, .string ⟨#[]⟩]) 3 48 Tryz.underlying32 hi0 hz0 hz1 hz2 rfl (by decide) (.slice pp fs.length cc) fs.length (fs.flatMap flE) rfl hown _ _ 1 (flE emptyF) rfl hnews rfl (by simp [flE, Value.oneCell']) (by unfold maxLen; omega) (by omega) (by have := hal.size; omega) ?_
        intro v' w31 ho hgr hkb hbl
        obtain ⟨g, cap, hv⟩ := own_pos ho (by omega)
        subst hv
        have hgrow := HQ.out.2.2.2.grow (o := .cells #[.string ⟨#[]⟩, .string ⟨#[]⟩, .string ⟨#[]⟩] 55) HQ.out.2.2.1 (by rw [← HFS.out]; exact ho) (by rw [← HFS.out]; exact hgr) HG.out
        have hx1 : w31.cell? ⟨z + 1, 5, none⟩ = some (.slice pp fs.length cc) ∧ w31.frozen? ⟨z + 1, 5, none⟩ = false := by
          have hno := HQ.out.2.2.2.no
          rw [← HFS.out] at hno
          have h1 := (hal.block _ (lt_of_cells hno)).trans hno
          have hne : some (z + 1) ≠ (Value.slice pp fs.length cc).ownBlock := fun e => by have := hkb _ e.symm; omega
          have h2 : w31.heap[z + 1]? = _ := (hgr.block (z + 1) (lt_of_cells h1) (fun e => hne (by rw [e]))).trans h1
          unfold notC at h2
          obtain ⟨-, -, -, -, -, h5⟩ := nobox h2
          exact ⟨h5, by simp [World.frozen?, h2]⟩
        obtain ⟨y5, z5⟩ := hx1
        have HGR := Lib.hid hgrow
        clear hgrow hown hnews x5 x5b hal ho hgr hkb hbl hcn hb3
        go_upto_region 20 with (fail)
        clear y5 z5
        generalize hw32 : World.setCell w31 _ _ = w32 at HGR ⊢
        clear hw32
        have Hw32 := Lib.hid (show linesR s = kF failP k' (moreF st) ∧ (moreF st).n.failed = fs ++ [emptyF] ∧ RdL w0 z (.slice (some ⟨g, 0, none⟩) (fs.length + 1) cap) (moreF st) w32 from ⟨HQ0.out.1, by rw [HFS.out]; rfl, HGR.out⟩)
        unfold failP at Hw32
        have hno := HGR.out.no
        unfold notC at hno
        obtain ⟨-, -, -, -, -, x5⟩ := nobox hno
        have hli : (fs.length : Int) < ((fs.length + 1 : Nat) : Int) := by omega
        have hli2 : (fs.length : Int) < (fs.length : Int) + 1 := by omega
        clear hno
        go_upto_region 21 with (fail)
        clear x5 hli hli2
        generalize hst : moreF st = stw32 at *
        have HR0 := Lib.hid (show stw32.rest.length = st.rest.length by rw [← hst]; rfl)
        clear hst HGR
        have hS := Hw32.out.2.2.keep (W' := (w32.alloc (.cells #[.string ⟨#[]⟩] 9))) ((Below.refl _ _).alloc (Nat.le_refl _) _)
        have hC := hS.plainR HG.out w32.heap.size [[]] 1 (ha_eq rfl) (lt_of_cells Hw32.out.2.2.b8) (by decide)
        have hrun : Sem.run Tryz.prog (callFunc 126 (#[.slice (some ⟨w32.heap.size, 0, none⟩) 1 1] ++ #[.pointer (some ⟨z + 5, 0, none⟩)])) (w32.alloc (.cells #[.string ⟨#[]⟩] 9)) = .ok (.enter 126 (#[.slice (some ⟨w32.heap.size, 0, none⟩) 1 1] ++ #[.pointer (some ⟨z + 5, 0, none⟩)])) (w32.alloc (.cells #[.string ⟨#[]⟩] 9)) := enterPlain _ _
        clear hS
        go_wp2_with fail
        refine hC.mono ?_
        rintro e w33 (⟨st2, ho, rfl, h⟩ | ⟨ho, rfl, st2, h⟩)
        rotate_left
        · exact ⟨rfl, .inr ⟨by rw [Hw32.out.1]; exact kF_none ho, rfl, _, _, h⟩⟩
        have hf2 := (runP_ba ho).trans Hw32.out.2.1
        have hl2 := runP_bar ho
        rw [HR0.out] at hl2
        have Hw33 := Lib.hid (And.intro (Hw32.out.1.trans (kF_some ho)) (And.intro hf2 (And.intro h hl2)))
        clear hf2 hl2
        clear hC hrun h ho
        generalize st2 = stw33 at *
        clear Hw32
        go_upto_region 22 with (fail)
        have y8 : w33.cell? ⟨z + 5, 0, none⟩ = some (.func (.func 140) #[] #[.pointer (some ⟨z, 0, none⟩)]) := by have h := Hw33.out.2.2.1.b8; unfold sheetRV at h; simp [World.cell?, h]
        have q8 := BW.cell y8
        refine wp_region_quiet_tail (C := fun w' => ∃ p : BW w33, w' = p.v) 4 (by kernel_rfl) (by kernel_rfl) ⟨⟨w33.drew, ⟨rfl, rfl, rfl, Nat.le_refl _, fun _ _ => rfl⟩⟩, rfl⟩ ?_
        simp only [List.take_succ_cons, List.take_zero, List.drop_succ_cons, List.drop_zero]
        repeat (go_big_quiet_step (fail))
        refine wpQuiet_nil ?_
        rintro w34q ⟨⟨w34q, hB5⟩, rfl⟩
        have hS := Hw33.out.2.2.1.keep hB5
        clear q8 y8
        have hC := RdL.sheet_fdest Hw33.out.2.1 hS [70, 105, 110, 97, 108, 45, 82, 101, 99, 105, 112, 105, 101, 110, 116, 58, 32, 114, 102, 99, 56, 50, 50, 59, 32] [] HG.out
        have hrun : Sem.run Tryz.prog (callFunc 140 (#[.string ⟨#[70, 105, 110, 97, 108, 45, 82, 101, 99, 105, 112, 105, 101, 110, 116, 58, 32, 114, 102, 99, 56, 50, 50, 59, 32]⟩, .pointer (some ⟨g, fs.length * 3 + 0, none⟩), .string ⟨#[]⟩] ++ #[.pointer (some ⟨z, 0, none⟩)])) w34q = .ok (.enter 140 (#[.string ⟨#[70, 105, 110, 97, 108, 45, 82, 101, 99, 105, 112, 105, 101, 110, 116, 58, 32, 114, 102, 99, 56, 50, 50, 59, 32]⟩, .pointer (some ⟨g, fs.length * 3 + 0, none⟩), .string ⟨#[]⟩] ++ #[.pointer (some ⟨z, 0, none⟩)])) w34q := enterSheetR _ _
        clear hS
        go_wp2_with fail
        refine hC.mono ?_
        rintro e w34 (⟨st2, ho, rfl, h⟩ | ⟨ho, rfl, st2, h⟩)
        rotate_left
        · exact ⟨rfl, .inr ⟨by rw [Hw33.out.1]; exact kF_none (runP_fdestN ho), rfl, _, _, h⟩⟩
        obtain ⟨hr2, f2, hf2⟩ := runP_fdest Hw33.out.2.1 ho
        have hl2 := (runP_len hr2).1
        have Hw34 := Lib.hid (And.intro (Hw33.out.1.trans (kF_some hr2)) (And.intro hf2 (And.intro h (Nat.le_trans (Nat.add_le_add_right hl2 2) Hw33.out.2.2.2))))
        clear hf2 hl2 hr2
        clear hC hrun h ho hB5
        generalize st2 = stw34 at *
        clear Hw33
        go_upto_region 23 with (fail)
        have hS := Hw34.out.2.2.1.keep (W' := (w34.alloc (.cells #[.string ⟨#[65, 99, 116, 105, 111, 110, 58, 32, 102, 97, 105, 108, 101, 100]⟩] 9))) ((Below.refl _ _).alloc (Nat.le_refl _) _)
        have hC := hS.plainR HG.out w34.heap.size [[65, 99, 116, 105, 111, 110, 58, 32, 102, 97, 105, 108, 101, 100]] 1 (ha_eq rfl) (lt_of_cells Hw34.out.2.2.1.b8) (by decide)
        have hrun : Sem.run Tryz.prog (callFunc 126 (#[.slice (some ⟨w34.heap.size, 0, none⟩) 1 1] ++ #[.pointer (some ⟨z + 5, 0, none⟩)])) (w34.alloc (.cells #[.string ⟨#[65, 99, 116, 105, 111, 110, 58, 32, 102, 97, 105, 108, 101, 100]⟩] 9)) = .ok (.enter 126 (#[.slice (some ⟨w34.heap.size, 0, none⟩) 1 1] ++ #[.pointer (some ⟨z + 5, 0, none⟩)])) (w34.alloc (.cells #[.string ⟨#[65, 99, 116, 105, 111, 110, 58, 32, 102, 97, 105, 108, 101, 100]⟩] 9)) := enterPlain _ _
        clear hS
        go_wp2_with fail
        refine hC.mono ?_
        rintro e w35 (⟨st2, ho, rfl, h⟩ | ⟨ho, rfl, st2, h⟩)
        rotate_left
        · exact ⟨rfl, .inr ⟨by rw [Hw34.out.1]; exact kF_none ho, rfl, _, _, h⟩⟩
        have ho2 : runP (.ba [[65, 99, 116, 105, 111, 110, 58, 32, 102, 97, 105, 108, 101, 100]]) stw34 = some st2 := ho
        have hf2 := (runP_ba ho).trans Hw34.out.2.1
        have hl2 := (runP_len ho2).1
        clear ho2
        have Hw35 := Lib.hid (And.intro (Hw34.out.1.trans (kF_some ho)) (And.intro hf2 (And.intro h (Nat.le_trans (Nat.add_le_add_right hl2 2) Hw34.out.2.2.2))))
        clear hf2 hl2
        clear hC hrun h ho
        generalize st2 = stw35 at *
        clear Hw34
        go_upto_region 24 with (fail)
        have y8 : w35.cell? ⟨z + 5, 0, none⟩ = some (.func (.func 140) #[] #[.pointer (some ⟨z, 0, none⟩)]) := by have h := Hw35.out.2.2.1.b8; unfold sheetRV at h; simp [World.cell?, h]
        have q8 := BW.cell y8
        refine wp_region_quiet_tail (C := fun w' => ∃ p : BW w35, w' = p.v) 4 (by kernel_rfl) (by kernel_rfl) ⟨⟨w35.drew, ⟨rfl, rfl, rfl, Nat.le_refl _, fun _ _ => rfl⟩⟩, rfl⟩ ?_
        simp only [List.take_succ_cons, List.take_zero, List.drop_succ_cons, List.drop_zero]
        repeat (go_big_quiet_step (fail))
        refine wpQuiet_nil ?_
        rintro w36q ⟨⟨w36q, hB5⟩, rfl⟩
        have hS := Hw35.out.2.2.1.keep hB5
        clear q8 y8
        have hC := RdL.sheet_fstatus Hw35.out.2.1 hS [83, 116, 97, 116, 117, 115, 58, 32] [] HG.out
        have hrun : Sem.run Tryz.prog (callFunc 140 (#[.string ⟨#[83, 116, 97, 116, 117, 115, 58, 32]⟩, .pointer (some ⟨g, fs.length * 3 + 1, none⟩), .string ⟨#[]⟩] ++ #[.pointer (some ⟨z, 0, none⟩)])) w36q = .ok (.enter 140 (#[.string ⟨#[83, 116, 97, 116, 117, 115, 58, 32]⟩, .pointer (some ⟨g, fs.length * 3 + 1, none⟩), .string ⟨#[]⟩] ++ #[.pointer (some ⟨z, 0, none⟩)])) w36q := enterSheetR _ _
        clear hS
        go_wp2_with fail
        refine hC.mono ?_
        rintro e w36 (⟨st2, ho, rfl, h⟩ | ⟨ho, rfl, st2, h⟩)
        rotate_left
        · exact ⟨rfl, .inr ⟨by rw [Hw35.out.1]; exact kF_none (runP_fstatusN ho), rfl, _, _, h⟩⟩
        obtain ⟨hr2, f2, hf2⟩ := runP_fstatus Hw35.out.2.1 ho
        have hl2 := (runP_len hr2).1
        have Hw36 := Lib.hid (And.intro (Hw35.out.1.trans (kF_some hr2)) (And.intro hf2 (And.intro h (Nat.le_trans (Nat.add_le_add_right hl2 2) Hw35.out.2.2.2))))
        clear hf2 hl2 hr2
        clear hC hrun h ho hB5
        generalize st2 = stw36 at *
        clear Hw35
        go_upto_region 25 with (fail)
        have y8 : w36.cell? ⟨z + 5, 0, none⟩ = some (.func (.func 140) #[] #[.pointer (some ⟨z, 0, none⟩)]) := by have h := Hw36.out.2.2.1.b8; unfold sheetRV at h; simp [World.cell?, h]
        have q8 := BW.cell y8
        refine wp_region_quiet_tail (C := fun w' => ∃ p : BW w36, w' = p.v) 4 (by kernel_rfl) (by kernel_rfl) ⟨⟨w36.drew, ⟨rfl, rfl, rfl, Nat.le_refl _, fun _ _ => rfl⟩⟩, rfl⟩ ?_
        simp only [List.take_succ_cons, List.take_zero, List.drop_succ_cons, List.drop_zero]
        repeat (go_big_quiet_step (fail))
        refine wpQuiet_nil ?_
        rintro w37q ⟨⟨w37q, hB5⟩, rfl⟩
        have hS := Hw36.out.2.2.1.keep hB5
        clear q8 y8
        have hC := RdL.sheet_ftext Hw36.out.2.1 hS [68, 105, 97, 103, 110, 111, 115, 116, 105, 99, 45, 67, 111, 100, 101, 58, 32, 115, 109, 116, 112, 59, 32] [] HG.out
        have hrun : Sem.run Tryz.prog (callFunc 140 (#[.string ⟨#[68, 105, 97, 103, 110, 111, 115, 116, 105, 99, 45, 67, 111, 100, 101, 58, 32, 115, 109, 116, 112, 59, 32]⟩, .pointer (some ⟨g, fs.length * 3 + 2, none⟩), .string ⟨#[]⟩] ++ #[.pointer (some ⟨z, 0, none⟩)])) w37q = .ok (.enter 140 (#[.string ⟨#[68, 105, 97, 103, 110, 111, 115, 116, 105, 99, 45, 67, 111, 100, 101, 58, 32, 115, 109, 116, 112, 59, 32]⟩, .pointer (some ⟨g, fs.length * 3 + 2, none⟩), .string ⟨#[]⟩] ++ #[.pointer (some ⟨z, 0, none⟩)])) w37q := enterSheetR _ _
        clear hS
        go_wp2_with fail
        refine hC.mono ?_
        rintro e w37 (⟨st2, ho, rfl, h⟩ | ⟨ho, rfl, st2, h⟩)
        rotate_left
        · exact ⟨rfl, .inr ⟨by rw [Hw36.out.1]; exact kF_none (runP_ftextN ho), rfl, _, _, h⟩⟩
        obtain ⟨hr2, f2, hf2⟩ := runP_ftext Hw36.out.2.1 ho
        have hl2 := (runP_len hr2).1
        have Hw37 := Lib.hid (And.intro (Hw36.out.1.trans (kF_some hr2)) (And.intro hf2 (And.intro h (Nat.le_trans (Nat.add_le_add_right hl2 2) Hw36.out.2.2.2))))
        clear hf2 hl2 hr2
        clear hC hrun h ho hB5
        generalize st2 = stw37 at *
        clear Hw36
        rw [kF_nil] at Hw37
        have hrl := Hw37.out.2.2.1.restLen
        have hlen : stw37.n.failed.length = fs.length + 1 := by rw [Hw37.out.2.1, len1]
        have hHR := HQ.out.2.2.2.restLen
        have hl := Hw37.out.2.2.2
        have hcn := HQ.out.2.2.1
        have hfl : st.n.failed.length = fs.length := by rw [HFS.out]
        have hw1 : wrap64 ((fs.length : Int) + 1) = (fs.length : Int) + 1 := by unfold wrap64; omega
        have HZ := Lib.hid (And.intro hrl (And.intro hlen (And.intro hHR (And.intro hl (And.intro hcn hfl)))))
        clear hrl hlen hHR hl hcn hfl
        go_wp2
        go_roundw
        case rel => exact ⟨_, stw37, k', by rw [HZ.out.2.1]; simp [hw1], Hw37.out.1, by have := HZ.out.2.2.2.1; have := HQ0.out.2; omega, by have := HZ.out.2.1; have := HZ.out.2.2.2.1; have := HZ.out.2.2.2.2.1; have := HZ.out.2.2.2.2.2; omega, Hw37.out.2.2.1⟩
        case measure => rw [HZ.out.1, HZ.out.2.2.1]; have := HZ.out.2.2.2.1; omega
      | false =>
        have HQ1 := Lib.hid (And.intro (HQ.out.1.trans (kL_done HMO.out.symm)) HQ.out.2.2.2)
        clear HQ HMO
        go_upto_region 26 with (fail)
        have y8 : w30.cell? ⟨z + 5, 0, none⟩ = some (.func (.func 140) #[] #[.pointer (some ⟨z, 0, none⟩)]) := by have h := HQ1.out.2.b8; unfold sheetRV at h; simp [World.cell?, h]
        have hS := HQ1.out.2
        have hC := hS.sheet_id [45, 45, 110, 45] [45, 45] HG.out
        have hrun : Sem.run Tryz.prog (callFunc 140 (#[.string ⟨#[45, 45, 110, 45]⟩, .pointer (some ⟨z + 2, 0, none⟩), .string ⟨#[45, 45]⟩] ++ #[.pointer (some ⟨z, 0, none⟩)])) w30 = .ok (.enter 140 (#[.string ⟨#[45, 45, 110, 45]⟩, .pointer (some ⟨z + 2, 0, none⟩), .string ⟨#[45, 45]⟩] ++ #[.pointer (some ⟨z, 0, none⟩)])) w30 := enterSheetR _ _
        clear hS
        go_wp2_with fail
        refine hC.mono ?_
        rintro e w40 (⟨st2, ho, rfl, h⟩ | ⟨ho, rfl, st2, h⟩)
        rotate_left
        · exact ⟨rfl, .inr ⟨by rw [HQ1.out.1]; exact ho, rfl, _, _, h⟩⟩
        have Hw40 := Lib.hid (And.intro (HQ1.out.1.trans (ho)) h)
        clear hC hrun h ho y8
        generalize st2 = stw40 at *
        go_wp2
        go_end0
        exact .inl ⟨_, _, Hw40.out.1, rfl, Hw40.out.2⟩
end Go.Proofs.YtlpngibdplnieaaGreatDoor

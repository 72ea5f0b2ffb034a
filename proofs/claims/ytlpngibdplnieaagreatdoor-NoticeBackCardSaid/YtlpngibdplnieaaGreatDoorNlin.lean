/- notice.lines, as Text calls it. -/
import Derived.Test.YtlpngibdplnieaaGreatDoorMi
import Derived.Deep.RegionHeld3
namespace Go.Proofs.YtlpngibdplnieaaGreatDoor
open Go Go.RowKit Go.Shelf Go.Sort
attribute [local go_sem] bneI

set_option maxRecDepth 1000000
def pc0 (n : NotP) : Bytes := lineB [70, 114, 111, 109, 58, 32, 60, 112, 111, 115, 116, 109, 97, 115, 116, 101, 114, 64] n.host [62]
def pc1 (n : NotP) : Bytes := lineB [84, 111, 58, 32, 60] n.dest [62]
def pc2  : Bytes := barB [[83, 117, 98, 106, 101, 99, 116, 58, 32, 85, 110, 100, 101, 108, 105, 118, 101, 114, 101, 100, 32, 109, 97, 105, 108], [65, 117, 116, 111, 45, 83, 117, 98, 109, 105, 116, 116, 101, 100, 58, 32, 97, 117, 116, 111, 45, 114, 101, 112, 108, 105, 101, 100], [77, 73, 77, 69, 45, 86, 101, 114, 115, 105, 111, 110, 58, 32, 49, 46, 48]]
def pc3 (ids : Bytes) : Bytes := lineB (67 :: 111 :: 110 :: 116 :: 101 :: 110 :: 116 :: 45 :: 84 :: 121 :: 112 :: 101 :: 58 :: 32 :: 109 :: 117 :: 108 :: 116 :: 105 :: 112 :: 97 :: 114 :: 116 :: 47 :: 114 :: 101 :: 112 :: 111 :: 114 :: 116 :: 59 :: 32 :: 114 :: 101 :: 112 :: 111 :: 114 :: 116 :: 45 :: 116 :: 121 :: 112 :: 101 :: 61 :: 100 :: 101 :: 108 :: 105 :: 118 :: 101 :: 114 :: 121 :: 45 :: 115 :: 116 :: 97 :: 116 :: 117 :: 115 :: 59 :: 32 :: 98 :: 111 :: 117 :: 110 :: 100 :: 97 :: 114 :: 121 :: 61 :: 34 :: 110 :: 45 :: []) ids [34]
def pc4  : Bytes := barB [[]]
def pc5 (ids : Bytes) : Bytes := lineB [45, 45, 110, 45] ids []
def pc6  : Bytes := barB [[67, 111, 110, 116, 101, 110, 116, 45, 84, 121, 112, 101, 58, 32, 116, 101, 120, 116, 47, 112, 108, 97, 105, 110], [], (83 :: 111 :: 109 :: 101 :: 32 :: 114 :: 101 :: 99 :: 105 :: 112 :: 105 :: 101 :: 110 :: 116 :: 115 :: 32 :: 104 :: 97 :: 118 :: 101 :: 32 :: 110 :: 111 :: 116 :: 32 :: 103 :: 111 :: 116 :: 32 :: 116 :: 104 :: 105 :: 115 :: 32 :: 109 :: 97 :: 105 :: 108 :: 59 :: 32 :: 119 :: 104 :: 105 :: 99 :: 104 :: 44 :: 32 :: 97 :: 110 :: 100 :: 32 :: 119 :: 104 :: 121 :: 44 :: 32 :: 115 :: 116 :: 97 :: 110 :: 100 :: 115 :: 32 :: 98 :: 101 :: 108 :: 111 :: 119 :: 46 :: [])]
def pc7 (ids : Bytes) : Bytes := lineB [45, 45, 110, 45] ids []
def pc8  : Bytes := barB [[67, 111, 110, 116, 101, 110, 116, 45, 84, 121, 112, 101, 58, 32, 109, 101, 115, 115, 97, 103, 101, 47, 100, 101, 108, 105, 118, 101, 114, 121, 45, 115, 116, 97, 116, 117, 115], []]
def pc9 (n : NotP) : Bytes := lineB [82, 101, 112, 111, 114, 116, 105, 110, 103, 45, 77, 84, 65, 58, 32, 100, 110, 115, 59, 32] n.host []
def pc10  : Bytes := barB [[]]
def pc11 (f : FlP) : Bytes := lineB [70, 105, 110, 97, 108, 45, 82, 101, 99, 105, 112, 105, 101, 110, 116, 58, 32, 114, 102, 99, 56, 50, 50, 59, 32] f.dest []
def pc12  : Bytes := barB [[65, 99, 116, 105, 111, 110, 58, 32, 102, 97, 105, 108, 101, 100]]
def pc13 (f : FlP) : Bytes := lineB [83, 116, 97, 116, 117, 115, 58, 32] f.status []
def pc14 (f : FlP) : Bytes := lineB [68, 105, 97, 103, 110, 111, 115, 116, 105, 99, 45, 67, 111, 100, 101, 58, 32, 115, 109, 116, 112, 59, 32] f.text []
/-- A notice's text: what stands ahead, each failure, the whole. -/
def headB (n : NotP) (ids : Bytes) : Bytes := ([] : Bytes) ++ pc0 n ++ pc1 n ++ pc2 ++ pc3 ids ++ pc4 ++ pc5 ids ++ pc6 ++ pc7 ids ++ pc8 ++ pc9 n
def pcE (n : NotP) : Bytes := lineB [79, 114, 105, 103, 105, 110, 97, 108, 45, 69, 110, 118, 101, 108, 111, 112, 101, 45, 73, 100, 58, 32] n.envid []
def head2B (n : NotP) (ids : Bytes) : Bytes := if n.envid = [] then headB n ids else headB n ids ++ pcE n
def pcA (ats : Bytes) : Bytes := lineB [65, 114, 114, 105, 118, 97, 108, 45, 84, 105, 109, 101, 58, 32] ats []
def head3B (n : NotP) (ids ats : Bytes) : Bytes := head2B n ids ++ pcA ats
def failB (f : FlP) : Bytes := pc10 ++ pc11 f ++ pc12 ++ pc13 f ++ pc14 f
def pcZ (ids : Bytes) : Bytes := lineB [45, 45, 110, 45] ids [45, 45]
def noteB (n : NotP) (ids ats : Bytes) : Bytes := head3B n ids ats ++ n.failed.flatMap failB ++ pcZ ids
theorem fails_succ {fs : List FlP} {i : Nat} {f : FlP} (h : fs[i]? = some f) : (fs.take (i + 1)).flatMap failB = (fs.take i).flatMap failB ++ failB f := by
  obtain ⟨hi, rfl⟩ := List.getElem?_eq_some_iff.1 h
  rw [List.take_succ_eq_append_getElem hi, List.flatMap_append]
  simp
theorem TxL.more {w0 : World} {q : TxP} {n : NotP} {fv : Value} {ids ats l : Bytes} {k k' : Nat} {left : Int} {w : World} (h : TxL w0 q n fv ids ats l k left w) (hk : k ≤ k') : TxL w0 q n fv ids ats l k' left w :=
  ⟨h.bd, h.box, h.id, h.at_, h.lf, h.s8, h.rows, h.nn, h.nl, h.ge, Nat.le_trans h.len (Nat.mul_le_mul_right _ hk)⟩
set_option linter.unusedSimpArgs false in
set_option maxRecDepth 1000000 in
set_option maxHeartbeats 16000000 in
theorem linesN_any (w0 : World) (q : TxP) (n : NotP) (cap : Nat) (ids ats : Bytes) (w : World) (h8 : q.b8 = w.heap.size) (h : TxL w0 q n (.slice (some ⟨q.g, 0, none⟩) n.failed.length cap) ids ats [] 0 (n.failed.length : Int) (w.alloc (.cells #[sheetV q.b] 172)))
    (hs : ShortN n) (hho : n.host.length ≤ 1000000) (hn4 : n.failed.length ≤ 4) (hids : ids.length ≤ 1000000) (hats : ats.length ≤ 1000000) :
    Calls Tryz.prog 81 #[.pointer (some ⟨q.bn, 0, none⟩), .pointer (some ⟨q.bi, 0, none⟩), .pointer (some ⟨q.ba, 0, none⟩), sheetV q.b, .func (.func 84) #[] #[.pointer (some ⟨q.bn, 0, none⟩), .pointer (some ⟨q.bl, 0, none⟩)]] w fun e w' =>
      e = .returned (.tuple #[]) ∧ ∃ left, TxL w0 q n (.slice (some ⟨q.g, 0, none⟩) n.failed.length cap) ids ats (noteB n ids ats) 60 left w' := by
  unfold sheetV at h ⊢
  obtain ⟨w1, hw1⟩ : ∃ w1, w1 = w.alloc (.cells #[.func (.func 82) #[] #[.pointer (some ⟨q.b, 0, none⟩)]] 172) := ⟨_, rfl⟩
  rw [← hw1] at h
  have Hw1 := Lib.hid h
  clear h
  go_enter Tryz.func81, Tryz.ntmps81
  go_upto_region 1 with (fail)
  rw [← hw1, ← h8]
  clear hw1 h8
  go_upto_region 2 with (fail)
  have y8 : w1.cell? ⟨q.b8, 0, none⟩ = some (.func (.func 82) #[] #[.pointer (some ⟨q.b, 0, none⟩)]) := by have := Hw1.out.s8; unfold sheetV at this; simp [World.cell?, this]
  have q8 := BW.cell y8
  refine wp_region_quiet_tail (C := fun w' => ∃ p : BW w1, w' = p.v) 4 (by kernel_rfl) (by kernel_rfl) ⟨⟨w1.drew, ⟨rfl, rfl, rfl, Nat.le_refl _, fun _ _ => rfl⟩⟩, rfl⟩ ?_
  simp only [List.take_succ_cons, List.take_zero, List.drop_succ_cons, List.drop_zero]
  repeat (go_big_quiet_step (fail))
  refine wpQuiet_nil ?_
  rintro w2q ⟨⟨w2q, hB5⟩, rfl⟩
  have hS := Hw1.out.keep hB5
  clear q8 y8
  have hC := hS.sheet [70, 114, 111, 109, 58, 32, 60, 112, 111, 115, 116, 109, 97, 115, 116, 101, 114, 64] [62] n.host (.pointer (some ⟨q.bn, 1, none⟩)) hS.told_host (by decide) hho (by decide)
  have hrun : Sem.run Tryz.prog (callFunc 82 (#[.string ⟨#[70, 114, 111, 109, 58, 32, 60, 112, 111, 115, 116, 109, 97, 115, 116, 101, 114, 64]⟩, .pointer (some ⟨q.bn, 1, none⟩), .string ⟨#[62]⟩] ++ #[.pointer (some ⟨q.b, 0, none⟩)])) w2q = .ok (.enter 82 (#[.string ⟨#[70, 114, 111, 109, 58, 32, 60, 112, 111, 115, 116, 109, 97, 115, 116, 101, 114, 64]⟩, .pointer (some ⟨q.bn, 1, none⟩), .string ⟨#[62]⟩] ++ #[.pointer (some ⟨q.b, 0, none⟩)])) w2q := enterSheet _ _
  clear hS
  go_wp2_with fail
  refine hC.mono ?_
  rintro e w2 ⟨rfl, h⟩
  have Hw2 := Lib.hid h
  clear hC hrun h hB5
  go_upto_region 3 with (fail)
  have y8 : w2.cell? ⟨q.b8, 0, none⟩ = some (.func (.func 82) #[] #[.pointer (some ⟨q.b, 0, none⟩)]) := by have := Hw2.out.s8; unfold sheetV at this; simp [World.cell?, this]
  have q8 := BW.cell y8
  refine wp_region_quiet_tail (C := fun w' => ∃ p : BW w2, w' = p.v) 4 (by kernel_rfl) (by kernel_rfl) ⟨⟨w2.drew, ⟨rfl, rfl, rfl, Nat.le_refl _, fun _ _ => rfl⟩⟩, rfl⟩ ?_
  simp only [List.take_succ_cons, List.take_zero, List.drop_succ_cons, List.drop_zero]
  repeat (go_big_quiet_step (fail))
  refine wpQuiet_nil ?_
  rintro w3q ⟨⟨w3q, hB5⟩, rfl⟩
  have hS := Hw2.out.keep hB5
  clear q8 y8
  have hC := hS.sheet [84, 111, 58, 32, 60] [62] n.dest (.pointer (some ⟨q.bn, 2, none⟩)) hS.told_dest (by decide) hs.dest (by decide)
  have hrun : Sem.run Tryz.prog (callFunc 82 (#[.string ⟨#[84, 111, 58, 32, 60]⟩, .pointer (some ⟨q.bn, 2, none⟩), .string ⟨#[62]⟩] ++ #[.pointer (some ⟨q.b, 0, none⟩)])) w3q = .ok (.enter 82 (#[.string ⟨#[84, 111, 58, 32, 60]⟩, .pointer (some ⟨q.bn, 2, none⟩), .string ⟨#[62]⟩] ++ #[.pointer (some ⟨q.b, 0, none⟩)])) w3q := enterSheet _ _
  clear hS
  go_wp2_with fail
  refine hC.mono ?_
  rintro e w3 ⟨rfl, h⟩
  have Hw3 := Lib.hid h
  clear hC hrun h hB5
  go_upto_region 4 with (fail)
  have hC := Hw3.out.plain [[83, 117, 98, 106, 101, 99, 116, 58, 32, 85, 110, 100, 101, 108, 105, 118, 101, 114, 101, 100, 32, 109, 97, 105, 108], [65, 117, 116, 111, 45, 83, 117, 98, 109, 105, 116, 116, 101, 100, 58, 32, 97, 117, 116, 111, 45, 114, 101, 112, 108, 105, 101, 100], [77, 73, 77, 69, 45, 86, 101, 114, 115, 105, 111, 110, 58, 32, 49, 46, 48]] (by decide) (by decide) (by decide)
  have hA : w3.alloc (.cells (([[83, 117, 98, 106, 101, 99, 116, 58, 32, 85, 110, 100, 101, 108, 105, 118, 101, 114, 101, 100, 32, 109, 97, 105, 108], [65, 117, 116, 111, 45, 83, 117, 98, 109, 105, 116, 116, 101, 100, 58, 32, 97, 117, 116, 111, 45, 114, 101, 112, 108, 105, 101, 100], [77, 73, 77, 69, 45, 86, 101, 114, 115, 105, 111, 110, 58, 32, 49, 46, 48]] : List Bytes).map str).toArray 9) = w3.alloc (.cells #[.string ⟨#[83, 117, 98, 106, 101, 99, 116, 58, 32, 85, 110, 100, 101, 108, 105, 118, 101, 114, 101, 100, 32, 109, 97, 105, 108]⟩, .string ⟨#[65, 117, 116, 111, 45, 83, 117, 98, 109, 105, 116, 116, 101, 100, 58, 32, 97, 117, 116, 111, 45, 114, 101, 112, 108, 105, 101, 100]⟩, .string ⟨#[77, 73, 77, 69, 45, 86, 101, 114, 115, 105, 111, 110, 58, 32, 49, 46, 48]⟩] 9) := rfl
  rw [hA] at hC
  clear hA
  have hrun : Sem.run Tryz.prog (callFunc 126 (#[.slice (some ⟨w3.heap.size, 0, none⟩) 3 3] ++ #[.pointer (some ⟨q.b8, 0, none⟩)])) (w3.alloc (.cells #[.string ⟨#[83, 117, 98, 106, 101, 99, 116, 58, 32, 85, 110, 100, 101, 108, 105, 118, 101, 114, 101, 100, 32, 109, 97, 105, 108]⟩, .string ⟨#[65, 117, 116, 111, 45, 83, 117, 98, 109, 105, 116, 116, 101, 100, 58, 32, 97, 117, 116, 111, 45, 114, 101, 112, 108, 105, 101, 100]⟩, .string ⟨#[77, 73, 77, 69, 45, 86, 101, 114, 115, 105, 111, 110, 58, 32, 49, 46, 48]⟩] 9)) = .ok (.enter 126 (#[.slice (some ⟨w3.heap.size, 0, none⟩) 3 3] ++ #[.pointer (some ⟨q.b8, 0, none⟩)])) (w3.alloc (.cells #[.string ⟨#[83, 117, 98, 106, 101, 99, 116, 58, 32, 85, 110, 100, 101, 108, 105, 118, 101, 114, 101, 100, 32, 109, 97, 105, 108]⟩, .string ⟨#[65, 117, 116, 111, 45, 83, 117, 98, 109, 105, 116, 116, 101, 100, 58, 32, 97, 117, 116, 111, 45, 114, 101, 112, 108, 105, 101, 100]⟩, .string ⟨#[77, 73, 77, 69, 45, 86, 101, 114, 115, 105, 111, 110, 58, 32, 49, 46, 48]⟩] 9)) := enterPlain _ _
  go_wp2_with fail
  refine hC.mono ?_
  rintro e w4 ⟨rfl, h⟩
  have Hw4 := Lib.hid h
  clear hC hrun h
  go_upto_region 5 with (fail)
  have y8 : w4.cell? ⟨q.b8, 0, none⟩ = some (.func (.func 82) #[] #[.pointer (some ⟨q.b, 0, none⟩)]) := by have := Hw4.out.s8; unfold sheetV at this; simp [World.cell?, this]
  have hS := Hw4.out
  have hC := hS.sheet (67 :: 111 :: 110 :: 116 :: 101 :: 110 :: 116 :: 45 :: 84 :: 121 :: 112 :: 101 :: 58 :: 32 :: 109 :: 117 :: 108 :: 116 :: 105 :: 112 :: 97 :: 114 :: 116 :: 47 :: 114 :: 101 :: 112 :: 111 :: 114 :: 116 :: 59 :: 32 :: 114 :: 101 :: 112 :: 111 :: 114 :: 116 :: 45 :: 116 :: 121 :: 112 :: 101 :: 61 :: 100 :: 101 :: 108 :: 105 :: 118 :: 101 :: 114 :: 121 :: 45 :: 115 :: 116 :: 97 :: 116 :: 117 :: 115 :: 59 :: 32 :: 98 :: 111 :: 117 :: 110 :: 100 :: 97 :: 114 :: 121 :: 61 :: 34 :: 110 :: 45 :: []) [34] ids (.pointer (some ⟨q.bi, 0, none⟩)) hS.told_id (by decide) hids (by decide)
  have hrun : Sem.run Tryz.prog (callFunc 82 (#[.string ⟨(67 :: 111 :: 110 :: 116 :: 101 :: 110 :: 116 :: 45 :: 84 :: 121 :: 112 :: 101 :: 58 :: 32 :: 109 :: 117 :: 108 :: 116 :: 105 :: 112 :: 97 :: 114 :: 116 :: 47 :: 114 :: 101 :: 112 :: 111 :: 114 :: 116 :: 59 :: 32 :: 114 :: 101 :: 112 :: 111 :: 114 :: 116 :: 45 :: 116 :: 121 :: 112 :: 101 :: 61 :: 100 :: 101 :: 108 :: 105 :: 118 :: 101 :: 114 :: 121 :: 45 :: 115 :: 116 :: 97 :: 116 :: 117 :: 115 :: 59 :: 32 :: 98 :: 111 :: 117 :: 110 :: 100 :: 97 :: 114 :: 121 :: 61 :: 34 :: 110 :: 45 :: []).toArray⟩, .pointer (some ⟨q.bi, 0, none⟩), .string ⟨#[34]⟩] ++ #[.pointer (some ⟨q.b, 0, none⟩)])) w4 = .ok (.enter 82 (#[.string ⟨(67 :: 111 :: 110 :: 116 :: 101 :: 110 :: 116 :: 45 :: 84 :: 121 :: 112 :: 101 :: 58 :: 32 :: 109 :: 117 :: 108 :: 116 :: 105 :: 112 :: 97 :: 114 :: 116 :: 47 :: 114 :: 101 :: 112 :: 111 :: 114 :: 116 :: 59 :: 32 :: 114 :: 101 :: 112 :: 111 :: 114 :: 116 :: 45 :: 116 :: 121 :: 112 :: 101 :: 61 :: 100 :: 101 :: 108 :: 105 :: 118 :: 101 :: 114 :: 121 :: 45 :: 115 :: 116 :: 97 :: 116 :: 117 :: 115 :: 59 :: 32 :: 98 :: 111 :: 117 :: 110 :: 100 :: 97 :: 114 :: 121 :: 61 :: 34 :: 110 :: 45 :: []).toArray⟩, .pointer (some ⟨q.bi, 0, none⟩), .string ⟨#[34]⟩] ++ #[.pointer (some ⟨q.b, 0, none⟩)])) w4 := enterSheet _ _
  clear hS
  go_wp2_with fail
  refine hC.mono ?_
  rintro e w5 ⟨rfl, h⟩
  have Hw5 := Lib.hid h
  clear hC hrun h y8
  go_upto_region 6 with (fail)
  have hC := Hw5.out.plain [[]] (by decide) (by decide) (by decide)
  have hA : w5.alloc (.cells (([[]] : List Bytes).map str).toArray 9) = w5.alloc (.cells #[.string ⟨#[]⟩] 9) := rfl
  rw [hA] at hC
  clear hA
  have hrun : Sem.run Tryz.prog (callFunc 126 (#[.slice (some ⟨w5.heap.size, 0, none⟩) 1 1] ++ #[.pointer (some ⟨q.b8, 0, none⟩)])) (w5.alloc (.cells #[.string ⟨#[]⟩] 9)) = .ok (.enter 126 (#[.slice (some ⟨w5.heap.size, 0, none⟩) 1 1] ++ #[.pointer (some ⟨q.b8, 0, none⟩)])) (w5.alloc (.cells #[.string ⟨#[]⟩] 9)) := enterPlain _ _
  go_wp2_with fail
  refine hC.mono ?_
  rintro e w6 ⟨rfl, h⟩
  have Hw6 := Lib.hid h
  clear hC hrun h
  go_upto_region 7 with (fail)
  have y8 : w6.cell? ⟨q.b8, 0, none⟩ = some (.func (.func 82) #[] #[.pointer (some ⟨q.b, 0, none⟩)]) := by have := Hw6.out.s8; unfold sheetV at this; simp [World.cell?, this]
  have hS := Hw6.out
  have hC := hS.sheet [45, 45, 110, 45] [] ids (.pointer (some ⟨q.bi, 0, none⟩)) hS.told_id (by decide) hids (by decide)
  have hrun : Sem.run Tryz.prog (callFunc 82 (#[.string ⟨#[45, 45, 110, 45]⟩, .pointer (some ⟨q.bi, 0, none⟩), .string ⟨#[]⟩] ++ #[.pointer (some ⟨q.b, 0, none⟩)])) w6 = .ok (.enter 82 (#[.string ⟨#[45, 45, 110, 45]⟩, .pointer (some ⟨q.bi, 0, none⟩), .string ⟨#[]⟩] ++ #[.pointer (some ⟨q.b, 0, none⟩)])) w6 := enterSheet _ _
  clear hS
  go_wp2_with fail
  refine hC.mono ?_
  rintro e w7 ⟨rfl, h⟩
  have Hw7 := Lib.hid h
  clear hC hrun h y8
  go_upto_region 8 with (fail)
  have hC := Hw7.out.plain [[67, 111, 110, 116, 101, 110, 116, 45, 84, 121, 112, 101, 58, 32, 116, 101, 120, 116, 47, 112, 108, 97, 105, 110], [], (83 :: 111 :: 109 :: 101 :: 32 :: 114 :: 101 :: 99 :: 105 :: 112 :: 105 :: 101 :: 110 :: 116 :: 115 :: 32 :: 104 :: 97 :: 118 :: 101 :: 32 :: 110 :: 111 :: 116 :: 32 :: 103 :: 111 :: 116 :: 32 :: 116 :: 104 :: 105 :: 115 :: 32 :: 109 :: 97 :: 105 :: 108 :: 59 :: 32 :: 119 :: 104 :: 105 :: 99 :: 104 :: 44 :: 32 :: 97 :: 110 :: 100 :: 32 :: 119 :: 104 :: 121 :: 44 :: 32 :: 115 :: 116 :: 97 :: 110 :: 100 :: 115 :: 32 :: 98 :: 101 :: 108 :: 111 :: 119 :: 46 :: [])] (by decide) (by decide) (by decide)
  have hA : w7.alloc (.cells (([[67, 111, 110, 116, 101, 110, 116, 45, 84, 121, 112, 101, 58, 32, 116, 101, 120, 116, 47, 112, 108, 97, 105, 110], [], (83 :: 111 :: 109 :: 101 :: 32 :: 114 :: 101 :: 99 :: 105 :: 112 :: 105 :: 101 :: 110 :: 116 :: 115 :: 32 :: 104 :: 97 :: 118 :: 101 :: 32 :: 110 :: 111 :: 116 :: 32 :: 103 :: 111 :: 116 :: 32 :: 116 :: 104 :: 105 :: 115 :: 32 :: 109 :: 97 :: 105 :: 108 :: 59 :: 32 :: 119 :: 104 :: 105 :: 99 :: 104 :: 44 :: 32 :: 97 :: 110 :: 100 :: 32 :: 119 :: 104 :: 121 :: 44 :: 32 :: 115 :: 116 :: 97 :: 110 :: 100 :: 115 :: 32 :: 98 :: 101 :: 108 :: 111 :: 119 :: 46 :: [])] : List Bytes).map str).toArray 9) = w7.alloc (.cells #[.string ⟨#[67, 111, 110, 116, 101, 110, 116, 45, 84, 121, 112, 101, 58, 32, 116, 101, 120, 116, 47, 112, 108, 97, 105, 110]⟩, .string ⟨#[]⟩, .string ⟨(83 :: 111 :: 109 :: 101 :: 32 :: 114 :: 101 :: 99 :: 105 :: 112 :: 105 :: 101 :: 110 :: 116 :: 115 :: 32 :: 104 :: 97 :: 118 :: 101 :: 32 :: 110 :: 111 :: 116 :: 32 :: 103 :: 111 :: 116 :: 32 :: 116 :: 104 :: 105 :: 115 :: 32 :: 109 :: 97 :: 105 :: 108 :: 59 :: 32 :: 119 :: 104 :: 105 :: 99 :: 104 :: 44 :: 32 :: 97 :: 110 :: 100 :: 32 :: 119 :: 104 :: 121 :: 44 :: 32 :: 115 :: 116 :: 97 :: 110 :: 100 :: 115 :: 32 :: 98 :: 101 :: 108 :: 111 :: 119 :: 46 :: []).toArray⟩] 9) := rfl
  rw [hA] at hC
  clear hA
  have hrun : Sem.run Tryz.prog (callFunc 126 (#[.slice (some ⟨w7.heap.size, 0, none⟩) 3 3] ++ #[.pointer (some ⟨q.b8, 0, none⟩)])) (w7.alloc (.cells #[.string ⟨#[67, 111, 110, 116, 101, 110, 116, 45, 84, 121, 112, 101, 58, 32, 116, 101, 120, 116, 47, 112, 108, 97, 105, 110]⟩, .string ⟨#[]⟩, .string ⟨(83 :: 111 :: 109 :: 101 :: 32 :: 114 :: 101 :: 99 :: 105 :: 112 :: 105 :: 101 :: 110 :: 116 :: 115 :: 32 :: 104 :: 97 :: 118 :: 101 :: 32 :: 110 :: 111 :: 116 :: 32 :: 103 :: 111 :: 116 :: 32 :: 116 :: 104 :: 105 :: 115 :: 32 :: 109 :: 97 :: 105 :: 108 :: 59 :: 32 :: 119 :: 104 :: 105 :: 99 :: 104 :: 44 :: 32 :: 97 :: 110 :: 100 :: 32 :: 119 :: 104 :: 121 :: 44 :: 32 :: 115 :: 116 :: 97 :: 110 :: 100 :: 115 :: 32 :: 98 :: 101 :: 108 :: 111 :: 119 :: 46 :: []).toArray⟩] 9)) = .ok (.enter 126 (#[.slice (some ⟨w7.heap.size, 0, none⟩) 3 3] ++ #[.pointer (some ⟨q.b8, 0, none⟩)])) (w7.alloc (.cells #[.string ⟨#[67, 111, 110, 116, 101, 110, 116, 45, 84, 121, 112, 101, 58, 32, 116, 101, 120, 116, 47, 112, 108, 97, 105, 110]⟩, .string ⟨#[]⟩, .string ⟨(83 :: 111 :: 109 :: 101 :: 32 :: 114 :: 101 :: 99 :: 105 :: 112 :: 105 :: 101 :: 110 :: 116 :: 115 :: 32 :: 104 :: 97 :: 118 :: 101 :: 32 :: 110 :: 111 :: 116 :: 32 :: 103 :: 111 :: 116 :: 32 :: 116 :: 104 :: 105 :: 115 :: 32 :: 109 :: 97 :: 105 :: 108 :: 59 :: 32 :: 119 :: 104 :: 105 :: 99 :: 104 :: 44 :: 32 :: 97 :: 110 :: 100 :: 32 :: 119 :: 104 :: 121 :: 44 :: 32 :: 115 :: 116 :: 97 :: 110 :: 100 :: 115 :: 32 :: 98 :: 101 :: 108 :: 111 :: 119 :: 46 :: []).toArray⟩] 9)) := enterPlain _ _
  go_wp2_with fail
  refine hC.mono ?_
  rintro e w8 ⟨rfl, h⟩
  have Hw8 := Lib.hid h
  clear hC hrun h
  go_upto_region 9 with (fail)
  have y8 : w8.cell? ⟨q.b8, 0, none⟩ = some (.func (.func 82) #[] #[.pointer (some ⟨q.b, 0, none⟩)]) := by have := Hw8.out.s8; unfold sheetV at this; simp [World.cell?, this]
  have hS := Hw8.out
  have hC := hS.sheet [45, 45, 110, 45] [] ids (.pointer (some ⟨q.bi, 0, none⟩)) hS.told_id (by decide) hids (by decide)
  have hrun : Sem.run Tryz.prog (callFunc 82 (#[.string ⟨#[45, 45, 110, 45]⟩, .pointer (some ⟨q.bi, 0, none⟩), .string ⟨#[]⟩] ++ #[.pointer (some ⟨q.b, 0, none⟩)])) w8 = .ok (.enter 82 (#[.string ⟨#[45, 45, 110, 45]⟩, .pointer (some ⟨q.bi, 0, none⟩), .string ⟨#[]⟩] ++ #[.pointer (some ⟨q.b, 0, none⟩)])) w8 := enterSheet _ _
  clear hS
  go_wp2_with fail
  refine hC.mono ?_
  rintro e w9 ⟨rfl, h⟩
  have Hw9 := Lib.hid h
  clear hC hrun h y8
  go_upto_region 10 with (fail)
  have hC := Hw9.out.plain [[67, 111, 110, 116, 101, 110, 116, 45, 84, 121, 112, 101, 58, 32, 109, 101, 115, 115, 97, 103, 101, 47, 100, 101, 108, 105, 118, 101, 114, 121, 45, 115, 116, 97, 116, 117, 115], []] (by decide) (by decide) (by decide)
  have hA : w9.alloc (.cells (([[67, 111, 110, 116, 101, 110, 116, 45, 84, 121, 112, 101, 58, 32, 109, 101, 115, 115, 97, 103, 101, 47, 100, 101, 108, 105, 118, 101, 114, 121, 45, 115, 116, 97, 116, 117, 115], []] : List Bytes).map str).toArray 9) = w9.alloc (.cells #[.string ⟨#[67, 111, 110, 116, 101, 110, 116, 45, 84, 121, 112, 101, 58, 32, 109, 101, 115, 115, 97, 103, 101, 47, 100, 101, 108, 105, 118, 101, 114, 121, 45, 115, 116, 97, 116, 117, 115]⟩, .string ⟨#[]⟩] 9) := rfl
  rw [hA] at hC
  clear hA
  have hrun : Sem.run Tryz.prog (callFunc 126 (#[.slice (some ⟨w9.heap.size, 0, none⟩) 2 2] ++ #[.pointer (some ⟨q.b8, 0, none⟩)])) (w9.alloc (.cells #[.string ⟨#[67, 111, 110, 116, 101, 110, 116, 45, 84, 121, 112, 101, 58, 32, 109, 101, 115, 115, 97, 103, 101, 47, 100, 101, 108, 105, 118, 101, 114, 121, 45, 115, 116, 97, 116, 117, 115]⟩, .string ⟨#[]⟩] 9)) = .ok (.enter 126 (#[.slice (some ⟨w9.heap.size, 0, none⟩) 2 2] ++ #[.pointer (some ⟨q.b8, 0, none⟩)])) (w9.alloc (.cells #[.string ⟨#[67, 111, 110, 116, 101, 110, 116, 45, 84, 121, 112, 101, 58, 32, 109, 101, 115, 115, 97, 103, 101, 47, 100, 101, 108, 105, 118, 101, 114, 121, 45, 115, 116, 97, 116, 117, 115]⟩, .string ⟨#[]⟩] 9)) := enterPlain _ _
  go_wp2_with fail
  refine hC.mono ?_
  rintro e w10 ⟨rfl, h⟩
  have Hw10 := Lib.hid h
  clear hC hrun h
  go_upto_region 11 with (fail)
  have y8 : w10.cell? ⟨q.b8, 0, none⟩ = some (.func (.func 82) #[] #[.pointer (some ⟨q.b, 0, none⟩)]) := by have := Hw10.out.s8; unfold sheetV at this; simp [World.cell?, this]
  have q8 := BW.cell y8
  refine wp_region_quiet_tail (C := fun w' => ∃ p : BW w10, w' = p.v) 4 (by kernel_rfl) (by kernel_rfl) ⟨⟨w10.drew, ⟨rfl, rfl, rfl, Nat.le_refl _, fun _ _ => rfl⟩⟩, rfl⟩ ?_
  simp only [List.take_succ_cons, List.take_zero, List.drop_succ_cons, List.drop_zero]
  repeat (go_big_quiet_step (fail))
  refine wpQuiet_nil ?_
  rintro w11q ⟨⟨w11q, hB5⟩, rfl⟩
  have hS := Hw10.out.keep hB5
  clear q8 y8
  have hC := hS.sheet [82, 101, 112, 111, 114, 116, 105, 110, 103, 45, 77, 84, 65, 58, 32, 100, 110, 115, 59, 32] [] n.host (.pointer (some ⟨q.bn, 1, none⟩)) hS.told_host (by decide) hho (by decide)
  have hrun : Sem.run Tryz.prog (callFunc 82 (#[.string ⟨#[82, 101, 112, 111, 114, 116, 105, 110, 103, 45, 77, 84, 65, 58, 32, 100, 110, 115, 59, 32]⟩, .pointer (some ⟨q.bn, 1, none⟩), .string ⟨#[]⟩] ++ #[.pointer (some ⟨q.b, 0, none⟩)])) w11q = .ok (.enter 82 (#[.string ⟨#[82, 101, 112, 111, 114, 116, 105, 110, 103, 45, 77, 84, 65, 58, 32, 100, 110, 115, 59, 32]⟩, .pointer (some ⟨q.bn, 1, none⟩), .string ⟨#[]⟩] ++ #[.pointer (some ⟨q.b, 0, none⟩)])) w11q := enterSheet _ _
  clear hS
  go_wp2_with fail
  refine hC.mono ?_
  rintro e w11 ⟨rfl, h⟩
  have Hw11 := Lib.hid h
  clear hC hrun h hB5
  have Hhd := Lib.hid (show TxL w0 q n (.slice (some ⟨q.g, 0, none⟩) n.failed.length cap) ids ats (headB n ids) 10 (n.failed.length : Int) w11 from Hw11.out)
  clear Hw1 Hw2 Hw3 Hw4 Hw5 Hw6 Hw7 Hw8 Hw9 Hw10 Hw11
  go_upto_region 12 with (fail)
  have hC := Hhd.out.moreE [79, 114, 105, 103, 105, 110, 97, 108, 45, 69, 110, 118, 101, 108, 111, 112, 101, 45, 73, 100, 58, 32] (by decide)
  obtain ⟨ev, hev⟩ : ∃ ev : Bool, ev = decide (n.envid ≠ []) := ⟨_, rfl⟩
  rw [← hev] at hC
  have HEV := Lib.hid hev
  clear hev
  have hrun : Sem.run Tryz.prog (callFunc 84 (#[.string ⟨#[79, 114, 105, 103, 105, 110, 97, 108, 45, 69, 110, 118, 101, 108, 111, 112, 101, 45, 73, 100, 58, 32]⟩] ++ #[.pointer (some ⟨q.bn, 0, none⟩), .pointer (some ⟨q.bl, 0, none⟩)])) w11 = .ok (.enter 84 (#[.string ⟨#[79, 114, 105, 103, 105, 110, 97, 108, 45, 69, 110, 118, 101, 108, 111, 112, 101, 45, 73, 100, 58, 32]⟩] ++ #[.pointer (some ⟨q.bn, 0, none⟩), .pointer (some ⟨q.bl, 0, none⟩)])) w11 := enterMore _ _
  go_wp2_with fail
  refine hC.mono ?_
  rintro e w20 ⟨rfl, h⟩
  have H20 := Lib.hid h
  clear hC hrun h Hhd
  go_upto_if 51 with (fail)
  go_cut [] from 52 to 56 (fun w' => TxL w0 q n (.slice (some ⟨q.g, 0, none⟩) n.failed.length cap) ids ats (head2B n ids) 11 (n.failed.length : Int) w')
  case first =>
    cases ev with
    | false =>
      have he : n.envid = [] := by have := HEV.out; simpa using this
      have hb : head2B n ids = headB n ids := by unfold head2B; rw [if_pos he]
      have HH := Lib.hid (show TxL w0 q n (.slice (some ⟨q.g, 0, none⟩) n.failed.length cap) ids ats (head2B n ids) 11 (n.failed.length : Int) w20 by rw [hb]; exact H20.out.more (by decide))
      clear he hb
      go_wp2
      go_meet
      case rel => exact HH.out
    | true =>
      have he : ¬ n.envid = [] := by have := HEV.out; simpa using this
      have hb : head2B n ids = headB n ids ++ pcE n := by unfold head2B; rw [if_neg he]
      have HHB := Lib.hid hb
      clear he hb
      go_upto_region 13 with (fail)
      have y8 : w20.cell? ⟨q.b8, 0, none⟩ = some (.func (.func 82) #[] #[.pointer (some ⟨q.b, 0, none⟩)]) := by have := H20.out.s8; unfold sheetV at this; simp [World.cell?, this]
      have q8 := BW.cell y8
      refine wp_region_quiet_tail (C := fun w' => ∃ p : BW w20, w' = p.v) 4 (by kernel_rfl) (by kernel_rfl) ⟨⟨w20.drew, ⟨rfl, rfl, rfl, Nat.le_refl _, fun _ _ => rfl⟩⟩, rfl⟩ ?_
      simp only [List.take_succ_cons, List.take_zero, List.drop_succ_cons, List.drop_zero]
      repeat (go_big_quiet_step (fail))
      refine wpQuiet_nil ?_
      rintro w21q ⟨⟨w21q, hB5⟩, rfl⟩
      have hS := H20.out.keep hB5
      clear q8 y8
      have hC := hS.sheet [79, 114, 105, 103, 105, 110, 97, 108, 45, 69, 110, 118, 101, 108, 111, 112, 101, 45, 73, 100, 58, 32] [] n.envid (.pointer (some ⟨q.bn, 3, none⟩)) hS.told_envid (by decide) hs.envid (by decide)
      have hrun : Sem.run Tryz.prog (callFunc 82 (#[.string ⟨#[79, 114, 105, 103, 105, 110, 97, 108, 45, 69, 110, 118, 101, 108, 111, 112, 101, 45, 73, 100, 58, 32]⟩, .pointer (some ⟨q.bn, 3, none⟩), .string ⟨#[]⟩] ++ #[.pointer (some ⟨q.b, 0, none⟩)])) w21q = .ok (.enter 82 (#[.string ⟨#[79, 114, 105, 103, 105, 110, 97, 108, 45, 69, 110, 118, 101, 108, 111, 112, 101, 45, 73, 100, 58, 32]⟩, .pointer (some ⟨q.bn, 3, none⟩), .string ⟨#[]⟩] ++ #[.pointer (some ⟨q.b, 0, none⟩)])) w21q := enterSheet _ _
      clear hS
      go_wp2_with fail
      refine hC.mono ?_
      rintro e w21 ⟨rfl, h⟩
      have Hw21 := Lib.hid h
      clear hC hrun h hB5
      go_wp2
      go_meet
      case rel => rw [HHB.out]; exact Hw21.out
  case rest =>
    have Hwc := Lib.hid hcut
    clear hcut H20
    go_upto_region 14 with (fail)
    have y8 : wc.cell? ⟨q.b8, 0, none⟩ = some (.func (.func 82) #[] #[.pointer (some ⟨q.b, 0, none⟩)]) := by have := Hwc.out.s8; unfold sheetV at this; simp [World.cell?, this]
    have hS := Hwc.out
    have hC := hS.sheet [65, 114, 114, 105, 118, 97, 108, 45, 84, 105, 109, 101, 58, 32] [] ats (.pointer (some ⟨q.ba, 0, none⟩)) hS.told_at (by decide) hats (by decide)
    have hrun : Sem.run Tryz.prog (callFunc 82 (#[.string ⟨#[65, 114, 114, 105, 118, 97, 108, 45, 84, 105, 109, 101, 58, 32]⟩, .pointer (some ⟨q.ba, 0, none⟩), .string ⟨#[]⟩] ++ #[.pointer (some ⟨q.b, 0, none⟩)])) wc = .ok (.enter 82 (#[.string ⟨#[65, 114, 114, 105, 118, 97, 108, 45, 84, 105, 109, 101, 58, 32]⟩, .pointer (some ⟨q.ba, 0, none⟩), .string ⟨#[]⟩] ++ #[.pointer (some ⟨q.b, 0, none⟩)])) wc := enterSheet _ _
    clear hS
    go_wp2_with fail
    refine hC.mono ?_
    rintro e w22 ⟨rfl, h⟩
    have Hw22 := Lib.hid h
    clear hC hrun h y8
    have Hh3 := Lib.hid (show TxL w0 q n (.slice (some ⟨q.g, 0, none⟩) n.failed.length cap) ids ats (head3B n ids ats) 12 (n.failed.length : Int) w22 from Hw22.out)
    clear Hw22 Hwc
    go_wp2_with fail
    go_loopw [11] (fun s11 wr => ∃ i : Nat, s11 = .int .i64 (i : Int) ∧ i ≤ n.failed.length ∧ TxL w0 q n (.slice (some ⟨q.g, 0, none⟩) n.failed.length cap) ids ats (head3B n ids ats ++ (n.failed.take i).flatMap failB) (12 + 5 * i) ((n.failed.length : Int) - (i : Int)) wr) (fun s11 _ => n.failed.length - natI s11)
    case atStart => exact ⟨0, rfl, Nat.zero_le _, by simpa using Hh3.out⟩
    case round =>
      obtain ⟨i, rfl, hi, hS⟩ := hrel
      have hC := hS.moreL (by omega) (by omega)
      have hrun : Sem.run Tryz.prog (callFunc 84 (#[.string ⟨#[]⟩] ++ #[.pointer (some ⟨q.bn, 0, none⟩), .pointer (some ⟨q.bl, 0, none⟩)])) wr = .ok (.enter 84 (#[.string ⟨#[]⟩] ++ #[.pointer (some ⟨q.bn, 0, none⟩), .pointer (some ⟨q.bl, 0, none⟩)])) wr := enterMore _ _
      clear hS
      go_wp2_with fail
      refine hC.mono ?_
      rintro e w30 ⟨rfl, h⟩
      have Hw30 := Lib.hid h
      clear hC hrun h
      by_cases hlast : i < n.failed.length
      · have hd : decide ((1 : Int) ≤ (n.failed.length : Int) - (i : Int)) = true := decide_eq_true (by omega)
        rw [hd]
        have hli : (i : Int) < (n.failed.length : Int) := by omega
        have hie : ((i : Int) == (n.failed.length : Int)) = false := by simp; omega
        have hie2 : decide ((i : Int) = (n.failed.length : Int)) = false := by simp; omega
        have hie3 : decide (i = n.failed.length) = false := by simp; omega
        have hw1 : wrap64 ((i : Int) + 1) = (i : Int) + 1 := by unfold wrap64; omega
        obtain ⟨f, hf⟩ : ∃ f, n.failed[i]? = some f := ⟨_, List.getElem?_eq_getElem hlast⟩
        have HI := Lib.hid hf
        have hff := hs.each f (List.mem_of_getElem? hf)
        have hbx := Hw30.out.box
        unfold notC at hbx
        obtain ⟨-, -, -, -, -, x5⟩ := nobox hbx
        clear hd hf hbx
        go_upto_region 21 with (fail)
        clear x5
        have hC := Hw30.out.plain [[]] (by decide) (by decide) (by omega)
        have hA : w30.alloc (.cells (([[]] : List Bytes).map str).toArray 9) = w30.alloc (.cells #[.string ⟨#[]⟩] 9) := rfl
        rw [hA] at hC
        clear hA
        have hrun : Sem.run Tryz.prog (callFunc 126 (#[.slice (some ⟨w30.heap.size, 0, none⟩) 1 1] ++ #[.pointer (some ⟨q.b8, 0, none⟩)])) (w30.alloc (.cells #[.string ⟨#[]⟩] 9)) = .ok (.enter 126 (#[.slice (some ⟨w30.heap.size, 0, none⟩) 1 1] ++ #[.pointer (some ⟨q.b8, 0, none⟩)])) (w30.alloc (.cells #[.string ⟨#[]⟩] 9)) := enterPlain _ _
        go_wp2_with fail
        refine hC.mono ?_
        rintro e w31 ⟨rfl, h⟩
        have Hw31 := Lib.hid h
        clear hC hrun h
        go_upto_region 22 with (fail)
        have y8 : w31.cell? ⟨q.b8, 0, none⟩ = some (.func (.func 82) #[] #[.pointer (some ⟨q.b, 0, none⟩)]) := by have := Hw31.out.s8; unfold sheetV at this; simp [World.cell?, this]
        have q8 := BW.cell y8
        refine wp_region_quiet_tail (C := fun w' => ∃ p : BW w31, w' = p.v) 4 (by kernel_rfl) (by kernel_rfl) ⟨⟨w31.drew, ⟨rfl, rfl, rfl, Nat.le_refl _, fun _ _ => rfl⟩⟩, rfl⟩ ?_
        simp only [List.take_succ_cons, List.take_zero, List.drop_succ_cons, List.drop_zero]
        repeat (go_big_quiet_step (fail))
        refine wpQuiet_nil ?_
        rintro w32q ⟨⟨w32q, hB5⟩, rfl⟩
        have hS := Hw31.out.keep hB5
        clear q8 y8
        have hC := hS.sheet [70, 105, 110, 97, 108, 45, 82, 101, 99, 105, 112, 105, 101, 110, 116, 58, 32, 114, 102, 99, 56, 50, 50, 59, 32] [] f.dest (.pointer (some ⟨q.g, i * 3, none⟩)) (hS.told_f HI.out).1 (by decide) hff.dest (by omega)
        have hrun : Sem.run Tryz.prog (callFunc 82 (#[.string ⟨#[70, 105, 110, 97, 108, 45, 82, 101, 99, 105, 112, 105, 101, 110, 116, 58, 32, 114, 102, 99, 56, 50, 50, 59, 32]⟩, .pointer (some ⟨q.g, i * 3, none⟩), .string ⟨#[]⟩] ++ #[.pointer (some ⟨q.b, 0, none⟩)])) w32q = .ok (.enter 82 (#[.string ⟨#[70, 105, 110, 97, 108, 45, 82, 101, 99, 105, 112, 105, 101, 110, 116, 58, 32, 114, 102, 99, 56, 50, 50, 59, 32]⟩, .pointer (some ⟨q.g, i * 3, none⟩), .string ⟨#[]⟩] ++ #[.pointer (some ⟨q.b, 0, none⟩)])) w32q := enterSheet _ _
        clear hS
        go_wp2_with fail
        refine hC.mono ?_
        rintro e w32 ⟨rfl, h⟩
        have Hw32 := Lib.hid h
        clear hC hrun h hB5
        go_upto_region 23 with (fail)
        have hC := Hw32.out.plain [[65, 99, 116, 105, 111, 110, 58, 32, 102, 97, 105, 108, 101, 100]] (by decide) (by decide) (by omega)
        have hA : w32.alloc (.cells (([[65, 99, 116, 105, 111, 110, 58, 32, 102, 97, 105, 108, 101, 100]] : List Bytes).map str).toArray 9) = w32.alloc (.cells #[.string ⟨#[65, 99, 116, 105, 111, 110, 58, 32, 102, 97, 105, 108, 101, 100]⟩] 9) := rfl
        rw [hA] at hC
        clear hA
        have hrun : Sem.run Tryz.prog (callFunc 126 (#[.slice (some ⟨w32.heap.size, 0, none⟩) 1 1] ++ #[.pointer (some ⟨q.b8, 0, none⟩)])) (w32.alloc (.cells #[.string ⟨#[65, 99, 116, 105, 111, 110, 58, 32, 102, 97, 105, 108, 101, 100]⟩] 9)) = .ok (.enter 126 (#[.slice (some ⟨w32.heap.size, 0, none⟩) 1 1] ++ #[.pointer (some ⟨q.b8, 0, none⟩)])) (w32.alloc (.cells #[.string ⟨#[65, 99, 116, 105, 111, 110, 58, 32, 102, 97, 105, 108, 101, 100]⟩] 9)) := enterPlain _ _
        go_wp2_with fail
        refine hC.mono ?_
        rintro e w33 ⟨rfl, h⟩
        have Hw33 := Lib.hid h
        clear hC hrun h
        go_upto_region 24 with (fail)
        have y8 : w33.cell? ⟨q.b8, 0, none⟩ = some (.func (.func 82) #[] #[.pointer (some ⟨q.b, 0, none⟩)]) := by have := Hw33.out.s8; unfold sheetV at this; simp [World.cell?, this]
        have q8 := BW.cell y8
        refine wp_region_quiet_tail (C := fun w' => ∃ p : BW w33, w' = p.v) 4 (by kernel_rfl) (by kernel_rfl) ⟨⟨w33.drew, ⟨rfl, rfl, rfl, Nat.le_refl _, fun _ _ => rfl⟩⟩, rfl⟩ ?_
        simp only [List.take_succ_cons, List.take_zero, List.drop_succ_cons, List.drop_zero]
        repeat (go_big_quiet_step (fail))
        refine wpQuiet_nil ?_
        rintro w34q ⟨⟨w34q, hB5⟩, rfl⟩
        have hS := Hw33.out.keep hB5
        clear q8 y8
        have hC := hS.sheet [83, 116, 97, 116, 117, 115, 58, 32] [] f.status (.pointer (some ⟨q.g, i * 3 + 1, none⟩)) (hS.told_f HI.out).2.1 (by decide) hff.status (by omega)
        have hrun : Sem.run Tryz.prog (callFunc 82 (#[.string ⟨#[83, 116, 97, 116, 117, 115, 58, 32]⟩, .pointer (some ⟨q.g, i * 3 + 1, none⟩), .string ⟨#[]⟩] ++ #[.pointer (some ⟨q.b, 0, none⟩)])) w34q = .ok (.enter 82 (#[.string ⟨#[83, 116, 97, 116, 117, 115, 58, 32]⟩, .pointer (some ⟨q.g, i * 3 + 1, none⟩), .string ⟨#[]⟩] ++ #[.pointer (some ⟨q.b, 0, none⟩)])) w34q := enterSheet _ _
        clear hS
        go_wp2_with fail
        refine hC.mono ?_
        rintro e w34 ⟨rfl, h⟩
        have Hw34 := Lib.hid h
        clear hC hrun h hB5
        go_upto_region 25 with (fail)
        have y8 : w34.cell? ⟨q.b8, 0, none⟩ = some (.func (.func 82) #[] #[.pointer (some ⟨q.b, 0, none⟩)]) := by have := Hw34.out.s8; unfold sheetV at this; simp [World.cell?, this]
        have q8 := BW.cell y8
        refine wp_region_quiet_tail (C := fun w' => ∃ p : BW w34, w' = p.v) 4 (by kernel_rfl) (by kernel_rfl) ⟨⟨w34.drew, ⟨rfl, rfl, rfl, Nat.le_refl _, fun _ _ => rfl⟩⟩, rfl⟩ ?_
        simp only [List.take_succ_cons, List.take_zero, List.drop_succ_cons, List.drop_zero]
        repeat (go_big_quiet_step (fail))
        refine wpQuiet_nil ?_
        rintro w35q ⟨⟨w35q, hB5⟩, rfl⟩
        have hS := Hw34.out.keep hB5
        clear q8 y8
        have hC := hS.sheet [68, 105, 97, 103, 110, 111, 115, 116, 105, 99, 45, 67, 111, 100, 101, 58, 32, 115, 109, 116, 112, 59, 32] [] f.text (.pointer (some ⟨q.g, i * 3 + 2, none⟩)) (hS.told_f HI.out).2.2 (by decide) hff.text (by omega)
        have hrun : Sem.run Tryz.prog (callFunc 82 (#[.string ⟨#[68, 105, 97, 103, 110, 111, 115, 116, 105, 99, 45, 67, 111, 100, 101, 58, 32, 115, 109, 116, 112, 59, 32]⟩, .pointer (some ⟨q.g, i * 3 + 2, none⟩), .string ⟨#[]⟩] ++ #[.pointer (some ⟨q.b, 0, none⟩)])) w35q = .ok (.enter 82 (#[.string ⟨#[68, 105, 97, 103, 110, 111, 115, 116, 105, 99, 45, 67, 111, 100, 101, 58, 32, 115, 109, 116, 112, 59, 32]⟩, .pointer (some ⟨q.g, i * 3 + 2, none⟩), .string ⟨#[]⟩] ++ #[.pointer (some ⟨q.b, 0, none⟩)])) w35q := enterSheet _ _
        clear hS
        go_wp2_with fail
        refine hC.mono ?_
        rintro e w35 ⟨rfl, h⟩
        have Hw35 := Lib.hid h
        clear hC hrun h hB5
        have hZ : TxL w0 q n (.slice (some ⟨q.g, 0, none⟩) n.failed.length cap) ids ats (head3B n ids ats ++ (n.failed.take (i + 1)).flatMap failB) (12 + 5 * (i + 1)) ((n.failed.length : Int) - ((i + 1 : Nat) : Int)) w35 := by
          have h := Hw35.out
          have e : head3B n ids ats ++ (n.failed.take (i + 1)).flatMap failB = head3B n ids ats ++ (n.failed.take i).flatMap failB ++ barB [[]] ++ lineB [70, 105, 110, 97, 108, 45, 82, 101, 99, 105, 112, 105, 101, 110, 116, 58, 32, 114, 102, 99, 56, 50, 50, 59, 32] f.dest [] ++ barB [[65, 99, 116, 105, 111, 110, 58, 32, 102, 97, 105, 108, 101, 100]] ++ lineB [83, 116, 97, 116, 117, 115, 58, 32] f.status [] ++ lineB [68, 105, 97, 103, 110, 111, 115, 116, 105, 99, 45, 67, 111, 100, 101, 58, 32, 115, 109, 116, 112, 59, 32] f.text [] := by
            rw [fails_succ HI.out]
            unfold failB pc10 pc11 pc12 pc13 pc14
            simp only [List.append_assoc]
          rw [e, show (n.failed.length : Int) - ((i + 1 : Nat) : Int) = (n.failed.length : Int) - (i : Int) - 1 by omega]
          exact h
        have HZ := Lib.hid hZ
        clear hZ hff
        go_wp2
        go_roundw
        case rel => exact ⟨i + 1, by simp, hlast, HZ.out⟩
        case measure => simp [natI]; omega
      · have hd : decide ((1 : Int) ≤ (n.failed.length : Int) - (i : Int)) = false := decide_eq_false (by omega)
        rw [hd]
        have hie : i = n.failed.length := by omega
        have HIE := Lib.hid hie
        have hi4 : 12 + 5 * i ≤ 40 := by omega
        clear hd hie hlast
        go_upto_region 26 with (fail)
        have y8 : w30.cell? ⟨q.b8, 0, none⟩ = some (.func (.func 82) #[] #[.pointer (some ⟨q.b, 0, none⟩)]) := by have := Hw30.out.s8; unfold sheetV at this; simp [World.cell?, this]
        have hS := Hw30.out
        have hC := hS.sheet [45, 45, 110, 45] [45, 45] ids (.pointer (some ⟨q.bi, 0, none⟩)) hS.told_id (by decide) hids (by omega)
        have hrun : Sem.run Tryz.prog (callFunc 82 (#[.string ⟨#[45, 45, 110, 45]⟩, .pointer (some ⟨q.bi, 0, none⟩), .string ⟨#[45, 45]⟩] ++ #[.pointer (some ⟨q.b, 0, none⟩)])) w30 = .ok (.enter 82 (#[.string ⟨#[45, 45, 110, 45]⟩, .pointer (some ⟨q.bi, 0, none⟩), .string ⟨#[45, 45]⟩] ++ #[.pointer (some ⟨q.b, 0, none⟩)])) w30 := enterSheet _ _
        clear hS
        go_wp2_with fail
        refine hC.mono ?_
        rintro e w40 ⟨rfl, h⟩
        have Hw40 := Lib.hid h
        clear hC hrun h y8
        go_wp2
        go_end0
        refine ⟨rfl, (n.failed.length : Int) - (i : Int) - 1, TxL.more (k := 12 + 5 * i + 1) ?_ (by omega)⟩
        have e : noteB n ids ats = head3B n ids ats ++ (n.failed.take i).flatMap failB ++ pcZ ids := by
          rw [HIE.out, List.take_of_length_le (Nat.le_refl _)]
          rfl
        rw [e]
        exact Hw40.out
end Go.Proofs.YtlpngibdplnieaaGreatDoor

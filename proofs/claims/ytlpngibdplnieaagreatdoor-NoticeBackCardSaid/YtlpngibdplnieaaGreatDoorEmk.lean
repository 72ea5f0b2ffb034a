/- entry.Make. -/
import Derived.Test.YtlpngibdplnieaaGreatDoorMg
namespace Go.Proofs.YtlpngibdplnieaaGreatDoor
open Go Go.RowKit Go.Shelf Go.Sort
attribute [local go_sem] bneI
set_option maxRecDepth 100000 in
set_option maxHeartbeats 16000000 in
theorem make_any (id at_ : Int) (m : MailP) (sv : Value) (w : World) (hr : RowK 2 rcE w sv m.rcpts) (hs : ShortM m) (hE : Env w) :
    Calls Tryz.prog 46 #[.int .i64 id, .int .i64 at_, mailV m sv] w fun e w' => CopyPost w (makeN id at_ m) e w' ∧ Below w.heap.size w w' := by
  obtain ⟨p, c, rfl, -⟩ := hr.sh
  obtain ⟨W1, hW1⟩ : ∃ W1, W1 = (w.alloc (.cells (mailC m (.slice p m.rcpts.length c)).toArray 24)).alloc (.cells zeroC 28) := ⟨_, rfl⟩
  have hB1 : Below w.heap.size w W1 := by rw [hW1]; exact ((Below.refl _ w).alloc (Nat.le_refl _) _).alloc (by simp) _
  have hb1 : W1.heap[w.heap.size]? = some (.cells (mailC m (.slice p m.rcpts.length c)).toArray 24 (0, 0)) := by rw [hW1]; exact (ha_ne (by simp)).trans (ha_eq rfl)
  have hb2 : W1.heap[w.heap.size + 1]? = some (.cells zeroC 28 (0, 0)) := by rw [hW1]; exact ha_eq (by simp)
  have hsz : W1.heap.size = w.heap.size + 2 := by rw [hW1]; simp
  have hP := fun W (hW : Below W1.heap.size W1 W) => plainE_any m (.slice p m.rcpts.length c) W hs.text ((hE.keep hB1).keep hW).glob
  have hCp := fun W (hW : Below W1.heap.size W1 W) fv (hfa : RowK 2 faE W fv (List.replicate m.rcpts.length ((0, []) : FaP))) => copyE_any (preN id at_ m) (.slice p m.rcpts.length c) fv (.slice none 0 0) W ⟨(hr.below hB1).below hW, hfa, RowK.nil⟩ (shortPre hs)
  unfold entV preN entC at hCp
  dsimp only at hCp
  have hMk := fun W => make_run m.rcpts.length W hs.rcpts
  unfold mailV at hP ⊢
  unfold mailC at hW1 hb1 hP ⊢
  obtain ⟨x0, x1, x2, x3, x4⟩ := mbox hb1
  go_enter Tryz.func46, Tryz.ntmps46
  go_upto_region 1 with (fail)
  unfold zeroC at hW1
  rw [← hW1]
  have hS0 : ∀ W, Below W1.heap.size W1 W → W.cell? ⟨w.heap.size, 0, none⟩ = some (.string ⟨m.sender.toArray⟩) ∧ W.cell? ⟨w.heap.size, 1, none⟩ = some (.slice p m.rcpts.length c) ∧ W.cell? ⟨w.heap.size, 2, none⟩ = some (.bool m.req) ∧ W.cell? ⟨w.heap.size, 3, none⟩ = some (.string ⟨m.envid.toArray⟩) ∧ W.cell? ⟨w.heap.size, 4, none⟩ = some (.string ⟨m.text.toArray⟩) := fun W hb => ⟨(hb.cell (p := ⟨_, _, none⟩) (cell_lt x0)).trans x0, (hb.cell (p := ⟨_, _, none⟩) (cell_lt x1)).trans x1, (hb.cell (p := ⟨_, _, none⟩) (cell_lt x2)).trans x2, (hb.cell (p := ⟨_, _, none⟩) (cell_lt x3)).trans x3, (hb.cell (p := ⟨_, _, none⟩) (cell_lt x4)).trans x4⟩
  have hs1 := hS0 W1.drew (below_drew W1)
  have HX := Lib.hid (And.intro hr (And.intro hs hE))
  clear hW1 hb1 x0 x1 x2 x3 x4 hE hs hr
  have HB2 := Lib.hid hb2
  clear hb2
  have Hsz := Lib.hid hsz
  clear hsz
  have hkA : Below W1.heap.size W1 (W1.alloc (.cells #[.int .i64 0, .int .i64 0, .string ⟨#[]⟩, .slice none 0 0, .bool false, .string ⟨#[]⟩, .string ⟨#[]⟩, .bool false, .slice none 0 0, .slice none 0 0] 28)).drew := (show Below W1.heap.size W1 _ from ((Below.refl W1.heap.size W1).alloc (Nat.le_refl _) _)).trans ((below_drew _).mono ((Below.refl W1.heap.size W1).alloc (Nat.le_refl _) _).size)
  have hsA := hS0 _ hkA
  have hkZ : Below W1.heap.size W1 (W1.alloc (.cells (zeroF m.rcpts.length) 61)).drew := (show Below W1.heap.size W1 _ from ((Below.refl W1.heap.size W1).alloc (Nat.le_refl _) _)).trans ((below_drew _).mono ((Below.refl W1.heap.size W1).alloc (Nat.le_refl _) _).size)
  have hsZ := hS0 _ hkZ
  have hkAZ : Below W1.heap.size W1 ((W1.alloc (.cells #[.int .i64 0, .int .i64 0, .string ⟨#[]⟩, .slice none 0 0, .bool false, .string ⟨#[]⟩, .string ⟨#[]⟩, .bool false, .slice none 0 0, .slice none 0 0] 28)).alloc (.cells (zeroF m.rcpts.length) 61)).drew := (show Below W1.heap.size W1 _ from (((Below.refl W1.heap.size W1).alloc (Nat.le_refl _) _).alloc (by simp) _)).trans ((below_drew _).mono (((Below.refl W1.heap.size W1).alloc (Nat.le_refl _) _).alloc (by simp) _).size)
  have hsAZ := hS0 _ hkAZ
  have hkZA : Below W1.heap.size W1 ((W1.alloc (.cells (zeroF m.rcpts.length) 61)).alloc (.cells #[.int .i64 0, .int .i64 0, .string ⟨#[]⟩, .slice none 0 0, .bool false, .string ⟨#[]⟩, .string ⟨#[]⟩, .bool false, .slice none 0 0, .slice none 0 0] 28)).drew := (show Below W1.heap.size W1 _ from (((Below.refl W1.heap.size W1).alloc (Nat.le_refl _) _).alloc (by simp) _)).trans ((below_drew _).mono (((Below.refl W1.heap.size W1).alloc (Nat.le_refl _) _).alloc (by simp) _).size)
  have hsZA := hS0 _ hkZA
  have HKA := Lib.hid hkA
  have HKZ := Lib.hid hkZ
  have HKAZ := Lib.hid hkAZ
  have HKZA := Lib.hid hkZA
  clear hkA hkZ hkAZ hkZA
  apply onceH
  case f =>
   intro hfin
   go_region_held3 (fun W => W.cell? ⟨w.heap.size, 0, none⟩ = some (.string ⟨m.sender.toArray⟩) ∧ W.cell? ⟨w.heap.size, 1, none⟩ = some (.slice p m.rcpts.length c) ∧ W.cell? ⟨w.heap.size, 2, none⟩ = some (.bool m.req) ∧ W.cell? ⟨w.heap.size, 3, none⟩ = some (.string ⟨m.envid.toArray⟩) ∧ W.cell? ⟨w.heap.size, 4, none⟩ = some (.string ⟨m.text.toArray⟩))
    ((first | with_reducible exact hs1 | with_reducible exact hs5 | with_reducible exact hs2 | with_reducible exact hs3 | with_reducible exact hs4 | with_reducible exact hsPZ | with_reducible exact hsPA | with_reducible exact hsPZA | with_reducible exact hsPAZ | with_reducible exact hsA | with_reducible exact hsZ | with_reducible exact hsAZ | with_reducible exact hsZA))
    ((first
      | (go_at_call 54; (with_reducible refine (hP W1.drew (below_drew W1)).mono ?_); rintro e wp ⟨rfl, hbp⟩; have hbP : Below W1.heap.size W1 wp := (below_drew W1).trans (hbp.mono (below_drew W1).size); have hs3 := hS0 _ hbP; have hsPZ := hS0 (wp.alloc (.cells (zeroF m.rcpts.length) 61)) (hbP.alloc hbP.size _); have hsPA := hS0 (wp.alloc (.cells #[.int .i64 0, .int .i64 0, .string ⟨#[]⟩, .slice none 0 0, .bool false, .string ⟨#[]⟩, .string ⟨#[]⟩, .bool false, .slice none 0 0, .slice none 0 0] 28)) (hbP.alloc hbP.size _); have hsPZA := hS0 ((wp.alloc (.cells (zeroF m.rcpts.length) 61)).alloc (.cells #[.int .i64 0, .int .i64 0, .string ⟨#[]⟩, .slice none 0 0, .bool false, .string ⟨#[]⟩, .string ⟨#[]⟩, .bool false, .slice none 0 0, .slice none 0 0] 28)) ((hbP.alloc hbP.size _).alloc (by have := hbP.size; simp; omega) _); have hsPAZ := hS0 ((wp.alloc (.cells #[.int .i64 0, .int .i64 0, .string ⟨#[]⟩, .slice none 0 0, .bool false, .string ⟨#[]⟩, .string ⟨#[]⟩, .bool false, .slice none 0 0, .slice none 0 0] 28)).alloc (.cells (zeroF m.rcpts.length) 61)) ((hbP.alloc hbP.size _).alloc (by have := hbP.size; simp; omega) _))
      | (go_at_call 54; (with_reducible refine (hP (W1.alloc (.cells #[.int .i64 0, .int .i64 0, .string ⟨#[]⟩, .slice none 0 0, .bool false, .string ⟨#[]⟩, .string ⟨#[]⟩, .bool false, .slice none 0 0, .slice none 0 0] 28)).drew (HKA.out)).mono ?_); rintro e wpA ⟨rfl, hbp⟩; have hbP : Below W1.heap.size W1 wpA := (HKA.out).trans (hbp.mono (HKA.out).size); have hpA : wpA.heap[W1.heap.size]? = some (.cells #[.int .i64 0, .int .i64 0, .string ⟨#[]⟩, .slice none 0 0, .bool false, .string ⟨#[]⟩, .string ⟨#[]⟩, .bool false, .slice none 0 0, .slice none 0 0] 28 (0, 0)) := (hbp.block _ (by show W1.heap.size < (World.alloc W1 _).heap.size; simp)).trans (show (World.alloc W1 _).heap[W1.heap.size]? = _ from ha_eq rfl); have hs3 := hS0 _ hbP; have hsPZ := hS0 (wpA.alloc (.cells (zeroF m.rcpts.length) 61)) (hbP.alloc hbP.size _); have hsPA := hS0 (wpA.alloc (.cells #[.int .i64 0, .int .i64 0, .string ⟨#[]⟩, .slice none 0 0, .bool false, .string ⟨#[]⟩, .string ⟨#[]⟩, .bool false, .slice none 0 0, .slice none 0 0] 28)) (hbP.alloc hbP.size _); have hsPZA := hS0 ((wpA.alloc (.cells (zeroF m.rcpts.length) 61)).alloc (.cells #[.int .i64 0, .int .i64 0, .string ⟨#[]⟩, .slice none 0 0, .bool false, .string ⟨#[]⟩, .string ⟨#[]⟩, .bool false, .slice none 0 0, .slice none 0 0] 28)) ((hbP.alloc hbP.size _).alloc (by have := hbP.size; simp; omega) _); have hsPAZ := hS0 ((wpA.alloc (.cells #[.int .i64 0, .int .i64 0, .string ⟨#[]⟩, .slice none 0 0, .bool false, .string ⟨#[]⟩, .string ⟨#[]⟩, .bool false, .slice none 0 0, .slice none 0 0] 28)).alloc (.cells (zeroF m.rcpts.length) 61)) ((hbP.alloc hbP.size _).alloc (by have := hbP.size; simp; omega) _))
      | (go_at_call 54; (with_reducible refine (hP (W1.alloc (.cells (zeroF m.rcpts.length) 61)).drew (HKZ.out)).mono ?_); rintro e wpZ ⟨rfl, hbp⟩; have hbP : Below W1.heap.size W1 wpZ := (HKZ.out).trans (hbp.mono (HKZ.out).size); have hpZ : wpZ.heap[W1.heap.size]? = some (.cells (zeroF m.rcpts.length) 61 (0, 0)) := (hbp.block _ (by show W1.heap.size < (World.alloc W1 _).heap.size; simp)).trans (show (World.alloc W1 _).heap[W1.heap.size]? = _ from ha_eq rfl); have hs3 := hS0 _ hbP; have hsPZ := hS0 (wpZ.alloc (.cells (zeroF m.rcpts.length) 61)) (hbP.alloc hbP.size _); have hsPA := hS0 (wpZ.alloc (.cells #[.int .i64 0, .int .i64 0, .string ⟨#[]⟩, .slice none 0 0, .bool false, .string ⟨#[]⟩, .string ⟨#[]⟩, .bool false, .slice none 0 0, .slice none 0 0] 28)) (hbP.alloc hbP.size _); have hsPZA := hS0 ((wpZ.alloc (.cells (zeroF m.rcpts.length) 61)).alloc (.cells #[.int .i64 0, .int .i64 0, .string ⟨#[]⟩, .slice none 0 0, .bool false, .string ⟨#[]⟩, .string ⟨#[]⟩, .bool false, .slice none 0 0, .slice none 0 0] 28)) ((hbP.alloc hbP.size _).alloc (by have := hbP.size; simp; omega) _); have hsPAZ := hS0 ((wpZ.alloc (.cells #[.int .i64 0, .int .i64 0, .string ⟨#[]⟩, .slice none 0 0, .bool false, .string ⟨#[]⟩, .string ⟨#[]⟩, .bool false, .slice none 0 0, .slice none 0 0] 28)).alloc (.cells (zeroF m.rcpts.length) 61)) ((hbP.alloc hbP.size _).alloc (by have := hbP.size; simp; omega) _))
      | (go_at_call 54; (with_reducible refine (hP ((W1.alloc (.cells #[.int .i64 0, .int .i64 0, .string ⟨#[]⟩, .slice none 0 0, .bool false, .string ⟨#[]⟩, .string ⟨#[]⟩, .bool false, .slice none 0 0, .slice none 0 0] 28)).alloc (.cells (zeroF m.rcpts.length) 61)).drew (HKAZ.out)).mono ?_); rintro e wpAZ ⟨rfl, hbp⟩; have hbP : Below W1.heap.size W1 wpAZ := (HKAZ.out).trans (hbp.mono (HKAZ.out).size); have hpA : wpAZ.heap[W1.heap.size]? = some (.cells #[.int .i64 0, .int .i64 0, .string ⟨#[]⟩, .slice none 0 0, .bool false, .string ⟨#[]⟩, .string ⟨#[]⟩, .bool false, .slice none 0 0, .slice none 0 0] 28 (0, 0)) := (hbp.block _ (by show W1.heap.size < (World.alloc (World.alloc W1 _) _).heap.size; simp; omega)).trans (show (World.alloc (World.alloc W1 _) _).heap[W1.heap.size]? = _ from (ha_ne (by simp)).trans (ha_eq rfl)); have hpZ : wpAZ.heap[W1.heap.size + 1]? = some (.cells (zeroF m.rcpts.length) 61 (0, 0)) := (hbp.block _ (by show W1.heap.size + 1 < (World.alloc (World.alloc W1 _) _).heap.size; simp)).trans (show (World.alloc (World.alloc W1 _) _).heap[W1.heap.size + 1]? = _ from ha_eq (by simp)); have hs3 := hS0 _ hbP; have hsPZ := hS0 (wpAZ.alloc (.cells (zeroF m.rcpts.length) 61)) (hbP.alloc hbP.size _); have hsPA := hS0 (wpAZ.alloc (.cells #[.int .i64 0, .int .i64 0, .string ⟨#[]⟩, .slice none 0 0, .bool false, .string ⟨#[]⟩, .string ⟨#[]⟩, .bool false, .slice none 0 0, .slice none 0 0] 28)) (hbP.alloc hbP.size _); have hsPZA := hS0 ((wpAZ.alloc (.cells (zeroF m.rcpts.length) 61)).alloc (.cells #[.int .i64 0, .int .i64 0, .string ⟨#[]⟩, .slice none 0 0, .bool false, .string ⟨#[]⟩, .string ⟨#[]⟩, .bool false, .slice none 0 0, .slice none 0 0] 28)) ((hbP.alloc hbP.size _).alloc (by have := hbP.size; simp; omega) _); have hsPAZ := hS0 ((wpAZ.alloc (.cells #[.int .i64 0, .int .i64 0, .string ⟨#[]⟩, .slice none 0 0, .bool false, .string ⟨#[]⟩, .string ⟨#[]⟩, .bool false, .slice none 0 0, .slice none 0 0] 28)).alloc (.cells (zeroF m.rcpts.length) 61)) ((hbP.alloc hbP.size _).alloc (by have := hbP.size; simp; omega) _))
      | (go_at_call 54; (with_reducible refine (hP ((W1.alloc (.cells (zeroF m.rcpts.length) 61)).alloc (.cells #[.int .i64 0, .int .i64 0, .string ⟨#[]⟩, .slice none 0 0, .bool false, .string ⟨#[]⟩, .string ⟨#[]⟩, .bool false, .slice none 0 0, .slice none 0 0] 28)).drew (HKZA.out)).mono ?_); rintro e wpZA ⟨rfl, hbp⟩; have hbP : Below W1.heap.size W1 wpZA := (HKZA.out).trans (hbp.mono (HKZA.out).size); have hpZ : wpZA.heap[W1.heap.size]? = some (.cells (zeroF m.rcpts.length) 61 (0, 0)) := (hbp.block _ (by show W1.heap.size < (World.alloc (World.alloc W1 _) _).heap.size; simp; omega)).trans (show (World.alloc (World.alloc W1 _) _).heap[W1.heap.size]? = _ from (ha_ne (by simp)).trans (ha_eq rfl)); have hpA : wpZA.heap[W1.heap.size + 1]? = some (.cells #[.int .i64 0, .int .i64 0, .string ⟨#[]⟩, .slice none 0 0, .bool false, .string ⟨#[]⟩, .string ⟨#[]⟩, .bool false, .slice none 0 0, .slice none 0 0] 28 (0, 0)) := (hbp.block _ (by show W1.heap.size + 1 < (World.alloc (World.alloc W1 _) _).heap.size; simp)).trans (show (World.alloc (World.alloc W1 _) _).heap[W1.heap.size + 1]? = _ from ha_eq (by simp)); have hs3 := hS0 _ hbP; have hsPZ := hS0 (wpZA.alloc (.cells (zeroF m.rcpts.length) 61)) (hbP.alloc hbP.size _); have hsPA := hS0 (wpZA.alloc (.cells #[.int .i64 0, .int .i64 0, .string ⟨#[]⟩, .slice none 0 0, .bool false, .string ⟨#[]⟩, .string ⟨#[]⟩, .bool false, .slice none 0 0, .slice none 0 0] 28)) (hbP.alloc hbP.size _); have hsPZA := hS0 ((wpZA.alloc (.cells (zeroF m.rcpts.length) 61)).alloc (.cells #[.int .i64 0, .int .i64 0, .string ⟨#[]⟩, .slice none 0 0, .bool false, .string ⟨#[]⟩, .string ⟨#[]⟩, .bool false, .slice none 0 0, .slice none 0 0] 28)) ((hbP.alloc hbP.size _).alloc (by have := hbP.size; simp; omega) _); have hsPAZ := hS0 ((wpZA.alloc (.cells #[.int .i64 0, .int .i64 0, .string ⟨#[]⟩, .slice none 0 0, .bool false, .string ⟨#[]⟩, .string ⟨#[]⟩, .bool false, .slice none 0 0, .slice none 0 0] 28)).alloc (.cells (zeroF m.rcpts.length) 61)) ((hbP.alloc hbP.size _).alloc (by have := hbP.size; simp; omega) _))
      | (go_at_call 10
         have hzr : (wp.alloc (.cells (zeroF m.rcpts.length) 61)).heap[wp.heap.size]? = some (.cells (zeroF m.rcpts.length) 61 (0, 0)) := ha_eq rfl
         have hbz : Below W1.heap.size W1 (wp.alloc (.cells (zeroF m.rcpts.length) 61)) := (hbP.alloc hbP.size _)
         have hCz := hCp (wp.alloc (.cells (zeroF m.rcpts.length) 61)) hbz (.slice (some ⟨wp.heap.size, 0, none⟩) m.rcpts.length m.rcpts.length) (zeroRow hzr)
         (with_reducible refine hCz.mono ?_)
         rintro e wc ⟨⟨sv, fv, jv, he, hown⟩, hbc⟩
         obtain ⟨p1, c1, hsv⟩ := own_shape hown.rc
         obtain ⟨p2, c2, hfv⟩ := own_shape hown.fa
         obtain ⟨p3, c3, hjv⟩ := own_shape hown.jo
         subst hsv hfv hjv
         unfold entV entC at he
         dsimp only [preN, List.length_replicate, List.length_nil] at he
         subst he
         have hbC : Below W1.heap.size W1 wc := hbz.trans (hbc.mono hbz.size)
         have hs2 := hS0 _ hbC
         have hzb : (wc.alloc (.cells #[.int .i64 0, .int .i64 0, .string ⟨#[]⟩, .slice none 0 0, .bool false, .string ⟨#[]⟩, .string ⟨#[]⟩, .bool false, .slice none 0 0, .slice none 0 0] 28)).heap[wc.heap.size]? = some (.cells #[.int .i64 0, .int .i64 0, .string ⟨#[]⟩, .slice none 0 0, .bool false, .string ⟨#[]⟩, .string ⟨#[]⟩, .bool false, .slice none 0 0, .slice none 0 0] 28 (0, 0)) := ha_eq rfl
         have hend : MkEnd W1 (preN id at_ m) wc.heap.size (.slice p1 m.rcpts.length c1) (.slice p2 m.rcpts.length c2) (.slice p3 0 c3) (wc.alloc (.cells #[.int .i64 id, .int .i64 at_, .string ⟨m.sender.toArray⟩, .slice p1 m.rcpts.length c1, .bool m.req, .string ⟨m.envid.toArray⟩, .string ⟨m.text.toArray⟩, .bool (plainM m), .slice p2 m.rcpts.length c2, .slice p3 0 c3] 28)) := ⟨hbC.alloc hbC.size _, ha_eq rfl, hbC.size, (mk_ownA hown (by simp) hbz.size)⟩
         have hs4 := hS0 (wc.alloc (.cells #[.int .i64 0, .int .i64 0, .string ⟨#[]⟩, .slice none 0 0, .bool false, .string ⟨#[]⟩, .string ⟨#[]⟩, .bool false, .slice none 0 0, .slice none 0 0] 28)) (hbC.alloc hbC.size _)
         have hs5 := hS0 (wc.alloc (.cells #[.int .i64 id, .int .i64 at_, .string ⟨m.sender.toArray⟩, .slice p1 m.rcpts.length c1, .bool m.req, .string ⟨m.envid.toArray⟩, .string ⟨m.text.toArray⟩, .bool (plainM m), .slice p2 m.rcpts.length c2, .slice p3 0 c3] 28)) hend.below
         obtain ⟨z0, z1, z2, z3, z4, z5, z6, z7, z8, z9⟩ := eboxAll hzb
         have f0 := efroz hzb 0
         have f1 := efroz hzb 1
         have f2 := efroz hzb 2
         have f3 := efroz hzb 3
         have f4 := efroz hzb 4
         have f5 := efroz hzb 5
         have f6 := efroz hzb 6
         have f7 := efroz hzb 7
         have f8 := efroz hzb 8
         have f9 := efroz hzb 9
         have HEnd := Lib.hid hend
         clear hend hzb)
      | (go_at_call 10
         have hzr : ((wp.alloc (.cells (zeroF m.rcpts.length) 61)).alloc (.cells #[.int .i64 0, .int .i64 0, .string ⟨#[]⟩, .slice none 0 0, .bool false, .string ⟨#[]⟩, .string ⟨#[]⟩, .bool false, .slice none 0 0, .slice none 0 0] 28)).heap[wp.heap.size]? = some (.cells (zeroF m.rcpts.length) 61 (0, 0)) := (ha_ne (by simp)).trans (ha_eq rfl)
         have hbz : Below W1.heap.size W1 ((wp.alloc (.cells (zeroF m.rcpts.length) 61)).alloc (.cells #[.int .i64 0, .int .i64 0, .string ⟨#[]⟩, .slice none 0 0, .bool false, .string ⟨#[]⟩, .string ⟨#[]⟩, .bool false, .slice none 0 0, .slice none 0 0] 28)) := ((hbP.alloc hbP.size _).alloc (by have := hbP.size; simp; omega) _)
         have hCz := hCp ((wp.alloc (.cells (zeroF m.rcpts.length) 61)).alloc (.cells #[.int .i64 0, .int .i64 0, .string ⟨#[]⟩, .slice none 0 0, .bool false, .string ⟨#[]⟩, .string ⟨#[]⟩, .bool false, .slice none 0 0, .slice none 0 0] 28)) hbz (.slice (some ⟨wp.heap.size, 0, none⟩) m.rcpts.length m.rcpts.length) (zeroRow hzr)
         (with_reducible refine hCz.mono ?_)
         rintro e wc ⟨⟨sv, fv, jv, he, hown⟩, hbc⟩
         obtain ⟨p1, c1, hsv⟩ := own_shape hown.rc
         obtain ⟨p2, c2, hfv⟩ := own_shape hown.fa
         obtain ⟨p3, c3, hjv⟩ := own_shape hown.jo
         subst hsv hfv hjv
         unfold entV entC at he
         dsimp only [preN, List.length_replicate, List.length_nil] at he
         subst he
         have hbC : Below W1.heap.size W1 wc := hbz.trans (hbc.mono hbz.size)
         have hs2 := hS0 _ hbC
         have hzb : wc.heap[(wp.heap.size + 1)]? = some (.cells #[.int .i64 0, .int .i64 0, .string ⟨#[]⟩, .slice none 0 0, .bool false, .string ⟨#[]⟩, .string ⟨#[]⟩, .bool false, .slice none 0 0, .slice none 0 0] 28 (0, 0)) := (hbc.block _ (by simp)).trans (ha_eq (by simp))
         have hend : MkEnd W1 (preN id at_ m) (wp.heap.size + 1) (.slice p1 m.rcpts.length c1) (.slice p2 m.rcpts.length c2) (.slice p3 0 c3) (setAll wc (wp.heap.size + 1) (.int .i64 id) (.int .i64 at_) (.string ⟨m.sender.toArray⟩) (.slice p1 m.rcpts.length c1) (.bool m.req) (.string ⟨m.envid.toArray⟩) (.string ⟨m.text.toArray⟩) (.bool (plainM m)) (.slice p2 m.rcpts.length c2) (.slice p3 0 c3)) := ⟨setAll_below hbC (by have := hbP.size; omega) _ _ _ _ _ _ _ _ _ _, setAll_box hzb _ _ _ _ _ _ _ _ _ _, by have := hbP.size; omega, (mk_ownB hown (by simp) hbz.size hzb)⟩
         have hs4 := hS0 wc hbC
         have hs5 := hS0 (setAll wc (wp.heap.size + 1) (.int .i64 id) (.int .i64 at_) (.string ⟨m.sender.toArray⟩) (.slice p1 m.rcpts.length c1) (.bool m.req) (.string ⟨m.envid.toArray⟩) (.string ⟨m.text.toArray⟩) (.bool (plainM m)) (.slice p2 m.rcpts.length c2) (.slice p3 0 c3)) hend.below
         obtain ⟨z0, z1, z2, z3, z4, z5, z6, z7, z8, z9⟩ := eboxAll hzb
         have f0 := efroz hzb 0
         have f1 := efroz hzb 1
         have f2 := efroz hzb 2
         have f3 := efroz hzb 3
         have f4 := efroz hzb 4
         have f5 := efroz hzb 5
         have f6 := efroz hzb 6
         have f7 := efroz hzb 7
         have f8 := efroz hzb 8
         have f9 := efroz hzb 9
         have HEnd := Lib.hid hend
         clear hend hzb)
      | (go_at_call 10
         have hzr : ((wp.alloc (.cells #[.int .i64 0, .int .i64 0, .string ⟨#[]⟩, .slice none 0 0, .bool false, .string ⟨#[]⟩, .string ⟨#[]⟩, .bool false, .slice none 0 0, .slice none 0 0] 28)).alloc (.cells (zeroF m.rcpts.length) 61)).heap[(wp.heap.size + 1)]? = some (.cells (zeroF m.rcpts.length) 61 (0, 0)) := ha_eq (by simp)
         have hbz : Below W1.heap.size W1 ((wp.alloc (.cells #[.int .i64 0, .int .i64 0, .string ⟨#[]⟩, .slice none 0 0, .bool false, .string ⟨#[]⟩, .string ⟨#[]⟩, .bool false, .slice none 0 0, .slice none 0 0] 28)).alloc (.cells (zeroF m.rcpts.length) 61)) := ((hbP.alloc hbP.size _).alloc (by have := hbP.size; simp; omega) _)
         have hCz := hCp ((wp.alloc (.cells #[.int .i64 0, .int .i64 0, .string ⟨#[]⟩, .slice none 0 0, .bool false, .string ⟨#[]⟩, .string ⟨#[]⟩, .bool false, .slice none 0 0, .slice none 0 0] 28)).alloc (.cells (zeroF m.rcpts.length) 61)) hbz (.slice (some ⟨(wp.heap.size + 1), 0, none⟩) m.rcpts.length m.rcpts.length) (zeroRow hzr)
         (with_reducible refine hCz.mono ?_)
         rintro e wc ⟨⟨sv, fv, jv, he, hown⟩, hbc⟩
         obtain ⟨p1, c1, hsv⟩ := own_shape hown.rc
         obtain ⟨p2, c2, hfv⟩ := own_shape hown.fa
         obtain ⟨p3, c3, hjv⟩ := own_shape hown.jo
         subst hsv hfv hjv
         unfold entV entC at he
         dsimp only [preN, List.length_replicate, List.length_nil] at he
         subst he
         have hbC : Below W1.heap.size W1 wc := hbz.trans (hbc.mono hbz.size)
         have hs2 := hS0 _ hbC
         have hzb : wc.heap[wp.heap.size]? = some (.cells #[.int .i64 0, .int .i64 0, .string ⟨#[]⟩, .slice none 0 0, .bool false, .string ⟨#[]⟩, .string ⟨#[]⟩, .bool false, .slice none 0 0, .slice none 0 0] 28 (0, 0)) := (hbc.block _ (by simp; omega)).trans ((ha_ne (by simp)).trans (ha_eq rfl))
         have hend : MkEnd W1 (preN id at_ m) wp.heap.size (.slice p1 m.rcpts.length c1) (.slice p2 m.rcpts.length c2) (.slice p3 0 c3) (setAll wc wp.heap.size (.int .i64 id) (.int .i64 at_) (.string ⟨m.sender.toArray⟩) (.slice p1 m.rcpts.length c1) (.bool m.req) (.string ⟨m.envid.toArray⟩) (.string ⟨m.text.toArray⟩) (.bool (plainM m)) (.slice p2 m.rcpts.length c2) (.slice p3 0 c3)) := ⟨setAll_below hbC (hbP.size) _ _ _ _ _ _ _ _ _ _, setAll_box hzb _ _ _ _ _ _ _ _ _ _, hbP.size, (mk_ownB hown (by simp) hbz.size hzb)⟩
         have hs4 := hS0 wc hbC
         have hs5 := hS0 (setAll wc wp.heap.size (.int .i64 id) (.int .i64 at_) (.string ⟨m.sender.toArray⟩) (.slice p1 m.rcpts.length c1) (.bool m.req) (.string ⟨m.envid.toArray⟩) (.string ⟨m.text.toArray⟩) (.bool (plainM m)) (.slice p2 m.rcpts.length c2) (.slice p3 0 c3)) hend.below
         obtain ⟨z0, z1, z2, z3, z4, z5, z6, z7, z8, z9⟩ := eboxAll hzb
         have f0 := efroz hzb 0
         have f1 := efroz hzb 1
         have f2 := efroz hzb 2
         have f3 := efroz hzb 3
         have f4 := efroz hzb 4
         have f5 := efroz hzb 5
         have f6 := efroz hzb 6
         have f7 := efroz hzb 7
         have f8 := efroz hzb 8
         have f9 := efroz hzb 9
         have HEnd := Lib.hid hend
         clear hend hzb)
      | (go_at_call 10
         have hzr : (wpA.alloc (.cells (zeroF m.rcpts.length) 61)).heap[wpA.heap.size]? = some (.cells (zeroF m.rcpts.length) 61 (0, 0)) := ha_eq rfl
         have hbz : Below W1.heap.size W1 (wpA.alloc (.cells (zeroF m.rcpts.length) 61)) := (hbP.alloc hbP.size _)
         have hCz := hCp (wpA.alloc (.cells (zeroF m.rcpts.length) 61)) hbz (.slice (some ⟨wpA.heap.size, 0, none⟩) m.rcpts.length m.rcpts.length) (zeroRow hzr)
         (with_reducible refine hCz.mono ?_)
         rintro e wc ⟨⟨sv, fv, jv, he, hown⟩, hbc⟩
         obtain ⟨p1, c1, hsv⟩ := own_shape hown.rc
         obtain ⟨p2, c2, hfv⟩ := own_shape hown.fa
         obtain ⟨p3, c3, hjv⟩ := own_shape hown.jo
         subst hsv hfv hjv
         unfold entV entC at he
         dsimp only [preN, List.length_replicate, List.length_nil] at he
         subst he
         have hbC : Below W1.heap.size W1 wc := hbz.trans (hbc.mono hbz.size)
         have hs2 := hS0 _ hbC
         have hzb : wc.heap[W1.heap.size]? = some (.cells #[.int .i64 0, .int .i64 0, .string ⟨#[]⟩, .slice none 0 0, .bool false, .string ⟨#[]⟩, .string ⟨#[]⟩, .bool false, .slice none 0 0, .slice none 0 0] 28 (0, 0)) := (hbc.block _ (by have h1 := hbP.size; have h2 := lt_of_cells hpA; simp only [World.size_alloc]; omega)).trans ((ha_ne (by have h2 := lt_of_cells hpA; omega)).trans hpA)
         have hend : MkEnd W1 (preN id at_ m) W1.heap.size (.slice p1 m.rcpts.length c1) (.slice p2 m.rcpts.length c2) (.slice p3 0 c3) (setAll wc W1.heap.size (.int .i64 id) (.int .i64 at_) (.string ⟨m.sender.toArray⟩) (.slice p1 m.rcpts.length c1) (.bool m.req) (.string ⟨m.envid.toArray⟩) (.string ⟨m.text.toArray⟩) (.bool (plainM m)) (.slice p2 m.rcpts.length c2) (.slice p3 0 c3)) := ⟨setAll_below hbC (Nat.le_refl _) _ _ _ _ _ _ _ _ _ _, setAll_box hzb _ _ _ _ _ _ _ _ _ _, Nat.le_refl _, (mk_ownB hown (by simp) hbz.size hzb)⟩
         have hs4 := hS0 wc hbC
         have hs5 := hS0 (setAll wc W1.heap.size (.int .i64 id) (.int .i64 at_) (.string ⟨m.sender.toArray⟩) (.slice p1 m.rcpts.length c1) (.bool m.req) (.string ⟨m.envid.toArray⟩) (.string ⟨m.text.toArray⟩) (.bool (plainM m)) (.slice p2 m.rcpts.length c2) (.slice p3 0 c3)) hend.below
         obtain ⟨z0, z1, z2, z3, z4, z5, z6, z7, z8, z9⟩ := eboxAll hzb
         have f0 := efroz hzb 0
         have f1 := efroz hzb 1
         have f2 := efroz hzb 2
         have f3 := efroz hzb 3
         have f4 := efroz hzb 4
         have f5 := efroz hzb 5
         have f6 := efroz hzb 6
         have f7 := efroz hzb 7
         have f8 := efroz hzb 8
         have f9 := efroz hzb 9
         have HEnd := Lib.hid hend
         clear hend hzb)
      | (go_at_call 10
         have hzr : wpZ.heap[W1.heap.size]? = some (.cells (zeroF m.rcpts.length) 61 (0, 0)) := hpZ
         have hbz : Below W1.heap.size W1 wpZ := hbP
         have hCz := hCp wpZ hbz (.slice (some ⟨W1.heap.size, 0, none⟩) m.rcpts.length m.rcpts.length) (zeroRow hzr)
         (with_reducible refine hCz.mono ?_)
         rintro e wc ⟨⟨sv, fv, jv, he, hown⟩, hbc⟩
         obtain ⟨p1, c1, hsv⟩ := own_shape hown.rc
         obtain ⟨p2, c2, hfv⟩ := own_shape hown.fa
         obtain ⟨p3, c3, hjv⟩ := own_shape hown.jo
         subst hsv hfv hjv
         unfold entV entC at he
         dsimp only [preN, List.length_replicate, List.length_nil] at he
         subst he
         have hbC : Below W1.heap.size W1 wc := hbz.trans (hbc.mono hbz.size)
         have hs2 := hS0 _ hbC
         have hzb : (wc.alloc (.cells #[.int .i64 0, .int .i64 0, .string ⟨#[]⟩, .slice none 0 0, .bool false, .string ⟨#[]⟩, .string ⟨#[]⟩, .bool false, .slice none 0 0, .slice none 0 0] 28)).heap[wc.heap.size]? = some (.cells #[.int .i64 0, .int .i64 0, .string ⟨#[]⟩, .slice none 0 0, .bool false, .string ⟨#[]⟩, .string ⟨#[]⟩, .bool false, .slice none 0 0, .slice none 0 0] 28 (0, 0)) := ha_eq rfl
         have hend : MkEnd W1 (preN id at_ m) wc.heap.size (.slice p1 m.rcpts.length c1) (.slice p2 m.rcpts.length c2) (.slice p3 0 c3) (wc.alloc (.cells #[.int .i64 id, .int .i64 at_, .string ⟨m.sender.toArray⟩, .slice p1 m.rcpts.length c1, .bool m.req, .string ⟨m.envid.toArray⟩, .string ⟨m.text.toArray⟩, .bool (plainM m), .slice p2 m.rcpts.length c2, .slice p3 0 c3] 28)) := ⟨hbC.alloc hbC.size _, ha_eq rfl, hbC.size, (mk_ownA hown (by simp) hbz.size)⟩
         have hs4 := hS0 (wc.alloc (.cells #[.int .i64 0, .int .i64 0, .string ⟨#[]⟩, .slice none 0 0, .bool false, .string ⟨#[]⟩, .string ⟨#[]⟩, .bool false, .slice none 0 0, .slice none 0 0] 28)) (hbC.alloc hbC.size _)
         have hs5 := hS0 (wc.alloc (.cells #[.int .i64 id, .int .i64 at_, .string ⟨m.sender.toArray⟩, .slice p1 m.rcpts.length c1, .bool m.req, .string ⟨m.envid.toArray⟩, .string ⟨m.text.toArray⟩, .bool (plainM m), .slice p2 m.rcpts.length c2, .slice p3 0 c3] 28)) hend.below
         obtain ⟨z0, z1, z2, z3, z4, z5, z6, z7, z8, z9⟩ := eboxAll hzb
         have f0 := efroz hzb 0
         have f1 := efroz hzb 1
         have f2 := efroz hzb 2
         have f3 := efroz hzb 3
         have f4 := efroz hzb 4
         have f5 := efroz hzb 5
         have f6 := efroz hzb 6
         have f7 := efroz hzb 7
         have f8 := efroz hzb 8
         have f9 := efroz hzb 9
         have HEnd := Lib.hid hend
         clear hend hzb)
      | (go_at_call 10
         have hzr : (wpZ.alloc (.cells #[.int .i64 0, .int .i64 0, .string ⟨#[]⟩, .slice none 0 0, .bool false, .string ⟨#[]⟩, .string ⟨#[]⟩, .bool false, .slice none 0 0, .slice none 0 0] 28)).heap[W1.heap.size]? = some (.cells (zeroF m.rcpts.length) 61 (0, 0)) := (ha_ne (by have h2 := lt_of_cells hpZ; omega)).trans hpZ
         have hbz : Below W1.heap.size W1 (wpZ.alloc (.cells #[.int .i64 0, .int .i64 0, .string ⟨#[]⟩, .slice none 0 0, .bool false, .string ⟨#[]⟩, .string ⟨#[]⟩, .bool false, .slice none 0 0, .slice none 0 0] 28)) := (hbP.alloc hbP.size _)
         have hCz := hCp (wpZ.alloc (.cells #[.int .i64 0, .int .i64 0, .string ⟨#[]⟩, .slice none 0 0, .bool false, .string ⟨#[]⟩, .string ⟨#[]⟩, .bool false, .slice none 0 0, .slice none 0 0] 28)) hbz (.slice (some ⟨W1.heap.size, 0, none⟩) m.rcpts.length m.rcpts.length) (zeroRow hzr)
         (with_reducible refine hCz.mono ?_)
         rintro e wc ⟨⟨sv, fv, jv, he, hown⟩, hbc⟩
         obtain ⟨p1, c1, hsv⟩ := own_shape hown.rc
         obtain ⟨p2, c2, hfv⟩ := own_shape hown.fa
         obtain ⟨p3, c3, hjv⟩ := own_shape hown.jo
         subst hsv hfv hjv
         unfold entV entC at he
         dsimp only [preN, List.length_replicate, List.length_nil] at he
         subst he
         have hbC : Below W1.heap.size W1 wc := hbz.trans (hbc.mono hbz.size)
         have hs2 := hS0 _ hbC
         have hzb : wc.heap[wpZ.heap.size]? = some (.cells #[.int .i64 0, .int .i64 0, .string ⟨#[]⟩, .slice none 0 0, .bool false, .string ⟨#[]⟩, .string ⟨#[]⟩, .bool false, .slice none 0 0, .slice none 0 0] 28 (0, 0)) := (hbc.block _ (by simp)).trans (ha_eq rfl)
         have hend : MkEnd W1 (preN id at_ m) wpZ.heap.size (.slice p1 m.rcpts.length c1) (.slice p2 m.rcpts.length c2) (.slice p3 0 c3) (setAll wc wpZ.heap.size (.int .i64 id) (.int .i64 at_) (.string ⟨m.sender.toArray⟩) (.slice p1 m.rcpts.length c1) (.bool m.req) (.string ⟨m.envid.toArray⟩) (.string ⟨m.text.toArray⟩) (.bool (plainM m)) (.slice p2 m.rcpts.length c2) (.slice p3 0 c3)) := ⟨setAll_below hbC (hbP.size) _ _ _ _ _ _ _ _ _ _, setAll_box hzb _ _ _ _ _ _ _ _ _ _, hbP.size, (mk_ownB hown (by simp) hbz.size hzb)⟩
         have hs4 := hS0 wc hbC
         have hs5 := hS0 (setAll wc wpZ.heap.size (.int .i64 id) (.int .i64 at_) (.string ⟨m.sender.toArray⟩) (.slice p1 m.rcpts.length c1) (.bool m.req) (.string ⟨m.envid.toArray⟩) (.string ⟨m.text.toArray⟩) (.bool (plainM m)) (.slice p2 m.rcpts.length c2) (.slice p3 0 c3)) hend.below
         obtain ⟨z0, z1, z2, z3, z4, z5, z6, z7, z8, z9⟩ := eboxAll hzb
         have f0 := efroz hzb 0
         have f1 := efroz hzb 1
         have f2 := efroz hzb 2
         have f3 := efroz hzb 3
         have f4 := efroz hzb 4
         have f5 := efroz hzb 5
         have f6 := efroz hzb 6
         have f7 := efroz hzb 7
         have f8 := efroz hzb 8
         have f9 := efroz hzb 9
         have HEnd := Lib.hid hend
         clear hend hzb)
      | (go_at_call 10
         have hzr : wpZA.heap[W1.heap.size]? = some (.cells (zeroF m.rcpts.length) 61 (0, 0)) := hpZ
         have hbz : Below W1.heap.size W1 wpZA := hbP
         have hCz := hCp wpZA hbz (.slice (some ⟨W1.heap.size, 0, none⟩) m.rcpts.length m.rcpts.length) (zeroRow hzr)
         (with_reducible refine hCz.mono ?_)
         rintro e wc ⟨⟨sv, fv, jv, he, hown⟩, hbc⟩
         obtain ⟨p1, c1, hsv⟩ := own_shape hown.rc
         obtain ⟨p2, c2, hfv⟩ := own_shape hown.fa
         obtain ⟨p3, c3, hjv⟩ := own_shape hown.jo
         subst hsv hfv hjv
         unfold entV entC at he
         dsimp only [preN, List.length_replicate, List.length_nil] at he
         subst he
         have hbC : Below W1.heap.size W1 wc := hbz.trans (hbc.mono hbz.size)
         have hs2 := hS0 _ hbC
         have hzb : wc.heap[(W1.heap.size + 1)]? = some (.cells #[.int .i64 0, .int .i64 0, .string ⟨#[]⟩, .slice none 0 0, .bool false, .string ⟨#[]⟩, .string ⟨#[]⟩, .bool false, .slice none 0 0, .slice none 0 0] 28 (0, 0)) := (hbc.block _ (lt_of_cells hpA)).trans hpA
         have hend : MkEnd W1 (preN id at_ m) (W1.heap.size + 1) (.slice p1 m.rcpts.length c1) (.slice p2 m.rcpts.length c2) (.slice p3 0 c3) (setAll wc (W1.heap.size + 1) (.int .i64 id) (.int .i64 at_) (.string ⟨m.sender.toArray⟩) (.slice p1 m.rcpts.length c1) (.bool m.req) (.string ⟨m.envid.toArray⟩) (.string ⟨m.text.toArray⟩) (.bool (plainM m)) (.slice p2 m.rcpts.length c2) (.slice p3 0 c3)) := ⟨setAll_below hbC (by omega) _ _ _ _ _ _ _ _ _ _, setAll_box hzb _ _ _ _ _ _ _ _ _ _, by omega, (mk_ownB hown (by simp) hbz.size hzb)⟩
         have hs4 := hS0 wc hbC
         have hs5 := hS0 (setAll wc (W1.heap.size + 1) (.int .i64 id) (.int .i64 at_) (.string ⟨m.sender.toArray⟩) (.slice p1 m.rcpts.length c1) (.bool m.req) (.string ⟨m.envid.toArray⟩) (.string ⟨m.text.toArray⟩) (.bool (plainM m)) (.slice p2 m.rcpts.length c2) (.slice p3 0 c3)) hend.below
         obtain ⟨z0, z1, z2, z3, z4, z5, z6, z7, z8, z9⟩ := eboxAll hzb
         have f0 := efroz hzb 0
         have f1 := efroz hzb 1
         have f2 := efroz hzb 2
         have f3 := efroz hzb 3
         have f4 := efroz hzb 4
         have f5 := efroz hzb 5
         have f6 := efroz hzb 6
         have f7 := efroz hzb 7
         have f8 := efroz hzb 8
         have f9 := efroz hzb 9
         have HEnd := Lib.hid hend
         clear hend hzb)
      | (go_at_call 10
         have hzr : wpAZ.heap[(W1.heap.size + 1)]? = some (.cells (zeroF m.rcpts.length) 61 (0, 0)) := hpZ
         have hbz : Below W1.heap.size W1 wpAZ := hbP
         have hCz := hCp wpAZ hbz (.slice (some ⟨(W1.heap.size + 1), 0, none⟩) m.rcpts.length m.rcpts.length) (zeroRow hzr)
         (with_reducible refine hCz.mono ?_)
         rintro e wc ⟨⟨sv, fv, jv, he, hown⟩, hbc⟩
         obtain ⟨p1, c1, hsv⟩ := own_shape hown.rc
         obtain ⟨p2, c2, hfv⟩ := own_shape hown.fa
         obtain ⟨p3, c3, hjv⟩ := own_shape hown.jo
         subst hsv hfv hjv
         unfold entV entC at he
         dsimp only [preN, List.length_replicate, List.length_nil] at he
         subst he
         have hbC : Below W1.heap.size W1 wc := hbz.trans (hbc.mono hbz.size)
         have hs2 := hS0 _ hbC
         have hzb : wc.heap[W1.heap.size]? = some (.cells #[.int .i64 0, .int .i64 0, .string ⟨#[]⟩, .slice none 0 0, .bool false, .string ⟨#[]⟩, .string ⟨#[]⟩, .bool false, .slice none 0 0, .slice none 0 0] 28 (0, 0)) := (hbc.block _ (lt_of_cells hpA)).trans hpA
         have hend : MkEnd W1 (preN id at_ m) W1.heap.size (.slice p1 m.rcpts.length c1) (.slice p2 m.rcpts.length c2) (.slice p3 0 c3) (setAll wc W1.heap.size (.int .i64 id) (.int .i64 at_) (.string ⟨m.sender.toArray⟩) (.slice p1 m.rcpts.length c1) (.bool m.req) (.string ⟨m.envid.toArray⟩) (.string ⟨m.text.toArray⟩) (.bool (plainM m)) (.slice p2 m.rcpts.length c2) (.slice p3 0 c3)) := ⟨setAll_below hbC (Nat.le_refl _) _ _ _ _ _ _ _ _ _ _, setAll_box hzb _ _ _ _ _ _ _ _ _ _, Nat.le_refl _, (mk_ownB hown (by simp) hbz.size hzb)⟩
         have hs4 := hS0 wc hbC
         have hs5 := hS0 (setAll wc W1.heap.size (.int .i64 id) (.int .i64 at_) (.string ⟨m.sender.toArray⟩) (.slice p1 m.rcpts.length c1) (.bool m.req) (.string ⟨m.envid.toArray⟩) (.string ⟨m.text.toArray⟩) (.bool (plainM m)) (.slice p2 m.rcpts.length c2) (.slice p3 0 c3)) hend.below
         obtain ⟨z0, z1, z2, z3, z4, z5, z6, z7, z8, z9⟩ := eboxAll hzb
         have f0 := efroz hzb 0
         have f1 := efroz hzb 1
         have f2 := efroz hzb 2
         have f3 := efroz hzb 3
         have f4 := efroz hzb 4
         have f5 := efroz hzb 5
         have f6 := efroz hzb 6
         have f7 := efroz hzb 7
         have f8 := efroz hzb 8
         have f9 := efroz hzb 9
         have HEnd := Lib.hid hend
         clear hend hzb)))
   all_goals (have hE1 := HEnd.out)
   all_goals (try unfold setAll at hE1)
   all_goals (clear HEnd z0 z1 z2 z3 z4 z5 z6 z7 z8 z9 f0 f1 f2 f3 f4 f5 f6 f7 f8 f9 hs2 hs4 hs5 hown)
   focus
     repeat (rename_i hq; clear hq)
     generalize hT : World.alloc wc _ = T at hE1 ⊢
     generalize hbb : wc.heap.size = bb at hE1 ⊢
     clear hT hbb
     generalize hzv : Value.slice (some (Addr.mk _ 0 none)) m.rcpts.length m.rcpts.length = zv
     clear hzv
     revert hE1
     revert zv bb T p1 c1 p2 c2 p3 c3
     exact hfin.out
   all_goals exact hfin.out _ _ _ _ _ _ _ _ _ hE1
  case h =>
    intro p1 c1 p2 c2 p3 c3 T bx zv hend
    obtain ⟨x0, x1, x2, x3, x4⟩ := hS0 T hend.below
    have hDm := domains_any m (.slice p m.rcpts.length c) T ((HX.out.1.below hB1).below hend.below) HX.out.2.1 ((HX.out.2.2.keep hB1).keep hend.below)
    unfold mailV mailC at hDm
    have HEnd := Lib.hid hend
    have HB := Lib.hid hB1
    clear hend hB1 hs1 hsA hsZ hsAZ hsZA hP hCp hMk hS0
    obtain ⟨i0, hi0, hz0, hz1, hz2⟩ := info_parts infoJo
    go_wp2_with fail
    refine hDm.mono ?_
    rintro e w2 ⟨⟨dv, rfl, hdo⟩, hb2⟩
    clear hDm
    obtain ⟨pd, cd, rfl⟩ := own_shape hdo
    have hL0 := MkL.start HEnd.out hb2 hdo
    have H2 := Lib.hid hb2
    clear hdo hb2 x0 x1 x2 x3 x4
    obtain ⟨D, hD⟩ : ∃ D, D = domsM m.rcpts := ⟨_, rfl⟩
    rw [← hD] at hL0 ⊢
    have HD := Lib.hid hD
    have HL0 := Lib.hid hL0
    clear hD hL0
    have hDl : D.length ≤ 1000000 := by rw [HD.out]; exact Nat.le_trans (domsM_len _) HX.out.2.1.rcpts
    go_wp2_with fail
    go_loopw [9, 24] (fun s9 s24 wr => ∃ (i : Nat) (jv : Value), s24 = .int .i64 (i : Int) ∧ i ≤ D.length ∧ MkL W1 (addN id at_ m (D.take i)) D bx (.slice p1 m.rcpts.length c1) (.slice p2 m.rcpts.length c2) (.slice pd D.length cd) jv wr) (fun _ s24 _ => D.length - natI s24)
    case atStart => exact ⟨0, _, rfl, Nat.zero_le _, HL0.out⟩
    case round =>
      obtain ⟨i, jv, rfl, hi, hM⟩ := hrel
      have hbx := hM.box
      unfold entC at hbx
      obtain ⟨z0, z1, z2, z3, z4, z5, z6, z7, z8, z9⟩ := eboxAll hbx
      have HM := Lib.hid hM
      clear hM
      by_cases hlast : i < D.length
      · have hli : (i : Int) < (D.length : Int) := by omega
        obtain ⟨b, o, rfl, hc⟩ := (own_rowK1 HM.out.dom).at i hlast
        have hc' := hc i hlast
        have y0 : wr.cell? ⟨b, o + i * 1, none⟩ = some (.string ⟨D[i].toArray⟩) := hc' 0 _ rfl
        clear hc hc' z0 z1 z2 z3 z4 z5 z6 z7 z8 hbx
        have hdi : D[i]? = some D[i] := List.getElem?_eq_getElem hlast
        obtain ⟨d, hd⟩ : ∃ d, d = D[i] := ⟨_, rfl⟩
        rw [← hd] at y0 hdi
        have HDi := Lib.hid hdi
        clear hd hdi
        rw [Nat.mul_one] at y0
        go_wp2_with (at_builtin; refine Bx.h ?_)
        refine ⟨?_⟩
        refine wpList_append_own _ rfl _ _ 26 rfl W1.heap.size 71 i0 (.agg #[.string ⟨#[]⟩, .int .i64 0, .int .i64 0]) 3 32 Tryz.underlying26 hi0 hz0 hz1 hz2 rfl (by decide) _ _ _ rfl (HM.out.own.jo.alloc _) ⟨wr.heap.size, 0, none⟩ 1 1 [.string ⟨d.toArray⟩, .int .i64 0, .int .i64 at_] rfl rfl (cell_list (cs := [.string ⟨d.toArray⟩, .int .i64 0, .int .i64 at_]) rfl) (by simp [Value.oneCell']) (by simp [addN]; unfold maxLen; omega) (by simp [addN]; omega) (by have h1 := HM.out.below.size; simp; omega) ?_
        intro v' w5 hown5 hgrow5 hnil5
        have hb5 := HM.out.box5 hgrow5
        unfold entC at hb5
        obtain ⟨-, -, -, -, -, -, -, -, -, z9'⟩ := eboxAll hb5
        have f9 := efroz hb5 9
        have hl : (addN id at_ m (D.take i)).jobs.length + 1 = i + 1 := by simp [addN]; omega
        rw [hl] at hown5
        obtain ⟨p5, c5, rfl⟩ := own_shape hown5
        have hS := HM.out.step HDi.out hgrow5 hown5 rfl
        have HS := Lib.hid hS
        clear hown5 hgrow5 hnil5 hb5 hl hS
        go_wp2
        go_roundw
        case rel => exact ⟨i + 1, _, by simp, by omega, HS.out⟩
        case measure => simp [natI]; omega
      · have hli : ¬ (i : Int) < (D.length : Int) := by omega
        have hie : i = D.length := by omega
        subst hie
        have hF := HM.out
        rw [HD.out] at hF
        have hF := hF.last
        have hzx : wr.heap[w.heap.size + 1]? = some (.cells zeroC 28 (0, 0)) := (HM.out.below.block _ (lt_of_cells HB2.out)).trans HB2.out
        have HZx := Lib.hid hzx
        have HF := Lib.hid hF
        clear hF
        unfold zeroC at hzx
        obtain ⟨g0, g1, g2, g3, g4, g5, g6, g7, g8, g9⟩ := eboxAll hzx
        have f0 := efroz hzx 0
        have f1 := efroz hzx 1
        have f2 := efroz hzx 2
        have f3 := efroz hzx 3
        have f4 := efroz hzx 4
        have f5 := efroz hzx 5
        have f6 := efroz hzx 6
        have f7 := efroz hzx 7
        have f8 := efroz hzx 8
        have f9 := efroz hzx 9
        clear hzx hbx
        dsimp only [addN] at z0 z1 z2 z3 z4 z5 z6 z7 z8 z9
        obtain ⟨p4, c4, hjv⟩ := own_shape HM.out.own.jo
        have hjl : (addN id at_ m (D.take D.length)).jobs.length = D.length := by simp [addN]
        rw [hjl] at hjv
        subst hjv
        clear hjl
        go_wp2
        clear z0 z1 z2 z3 z4 z5 z6 z7 z8 z9
        have hb0 := HZx.out
        have hB7 := setAll_below (HB.out.trans (HM.out.below.mono HB.out.size)) (Nat.le_succ w.heap.size) (.int .i64 id) (.int .i64 at_) (.string ⟨m.sender.toArray⟩) (.slice p1 m.rcpts.length c1) (.bool m.req) (.string ⟨m.envid.toArray⟩) (.string ⟨m.text.toArray⟩) (.bool (plainM m)) (.slice p2 m.rcpts.length c2) (.slice p4 D.length c4)
        have ho7 : OwnE (setAll wr (w.heap.size + 1) (.int .i64 id) (.int .i64 at_) (.string ⟨m.sender.toArray⟩) (.slice p1 m.rcpts.length c1) (.bool m.req) (.string ⟨m.envid.toArray⟩) (.string ⟨m.text.toArray⟩) (.bool (plainM m)) (.slice p2 m.rcpts.length c2) (.slice p4 D.length c4)) w.heap.size (makeN id at_ m) (.slice p1 m.rcpts.length c1) (.slice p2 m.rcpts.length c2) (.slice p4 D.length c4) := ⟨ownsRow_less (own_set HF.out.own.rc hb0 (by decide) _ _ _ _ _ _ _ _ _ _) HB.out.size, ownsRow_less (own_set HF.out.own.fa hb0 (by decide) _ _ _ _ _ _ _ _ _ _) HB.out.size, ownsRow_less (own_set HF.out.own.jo hb0 (by decide) _ _ _ _ _ _ _ _ _ _) HB.out.size⟩
        unfold zeroC at hb0
        have hb7 := setAll_box hb0 (.int .i64 id) (.int .i64 at_) (.string ⟨m.sender.toArray⟩) (.slice p1 m.rcpts.length c1) (.bool m.req) (.string ⟨m.envid.toArray⟩) (.string ⟨m.text.toArray⟩) (.bool (plainM m)) (.slice p2 m.rcpts.length c2) (.slice p4 D.length c4)
        clear hb0 g0 g1 g2 g3 g4 g5 g6 g7 g8 g9 f0 f1 f2 f3 f4 f5 f6 f7 f8 f9
        unfold setAll at hb7 hB7 ho7
        generalize hW7 : World.setCell (World.setCell (World.setCell (World.setCell (World.setCell (World.setCell (World.setCell (World.setCell (World.setCell (World.setCell wr _ _) _ _) _ _) _ _) _ _) _ _) _ _) _ _) _ _) _ _ = W7 at hb7 hB7 ho7 ⊢
        clear hW7
        obtain ⟨t0, t1, t2, t3, t4, t5, t6, t7, t8, t9⟩ := eboxAll hb7
        clear hb7
        refine bodyPost_ret (v := entV (makeN id at_ m) (.slice p1 m.rcpts.length c1) (.slice p2 m.rcpts.length c2) (.slice p4 D.length c4)) (by simp [results, Tryz.results46, go_sem, t0, t1, t2, t3, t4, t5, t6, t7, t8, t9, entV, entC, makeN]) rfl ⟨⟨_, _, _, rfl, ho7⟩, hB7⟩
end Go.Proofs.YtlpngibdplnieaaGreatDoor

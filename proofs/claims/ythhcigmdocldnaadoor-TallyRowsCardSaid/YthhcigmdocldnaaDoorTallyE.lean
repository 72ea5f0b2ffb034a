/- The contracts of package tally: Add. -/
import Derived.Test.YthhcigmdocldnaaDoorTallyD
import Derived.Deep.RegionHeld3
namespace Go.Proofs.YthhcigmdocldnaaDoor
open Go Go.RowKit Go.Shelf Go.Sort

/-- One more at a place of a row of counts. -/
def bump (c : List Int) (i : Nat) : List Int := c.set i (c.getD i 0 + 1)
def cnt (l : Ent) (p : Bytes × Nat) : List Int := (look l p).getD (List.replicate 11 0)
def addL (l : Ent) (d : Bytes) (t what : Nat) : Ent := put l (d, t) (bump (cnt l (d, t)) what)
/-- What Add answers. -/
def addB (names : Int) (l : Ent) (d : Bytes) (t what : Nat) : Int := if (kindB t what && mayB d) = false then 4 else if roomB names l d = false then 41 else 0

theorem grownBy_of_below {w w' : World} (h : Below w.heap.size w w') (row : Option Nat) : w.grownBy w' row := ⟨h.os, h.tape, h.output, h.size, fun k hk _ => h.block k hk⟩

/-- What the tally is then. -/
def addS (names : Int) (l : Ent) (d : Bytes) (t what : Nat) : Ent := if addB names l d t what = 0 then addL l d t what else l
/-- The entries are rows of eleven numbers, that are not too large. -/
def Good (l : Ent) : Prop := ∀ p ∈ l, p.2.length = 11 ∧ ∀ x ∈ p.2, 0 ≤ x ∧ x ≤ 1000000
theorem Good.cnt {l : Ent} (h : Good l) (p : Bytes × Nat) : (cnt l p).length = 11 ∧ ∀ x ∈ cnt l p, 0 ≤ x ∧ x ≤ 1000000 := by
  unfold YthhcigmdocldnaaDoor.cnt
  cases hk : look l p with
  | none => exact ⟨by simp, by simp⟩
  | some v => exact h _ (look_mem hk)
theorem kindB_lt {t what : Int} (h : kindB t what = true) : what < 11 := by
  unfold kindB at h
  split at h
  · simp at h; omega
  · split at h
    · simp at h; omega
    · split at h
      · simp at h; omega
      · cases h
theorem eleven {c : List Int} (h : c.length = 11) : ∃ a0 a1 a2 a3 a4 a5 a6 a7 a8 a9 a10, c = [a0, a1, a2, a3, a4, a5, a6, a7, a8, a9, a10] := by
  rcases c with _ | ⟨a0, _ | ⟨a1, _ | ⟨a2, _ | ⟨a3, _ | ⟨a4, _ | ⟨a5, _ | ⟨a6, _ | ⟨a7, _ | ⟨a8, _ | ⟨a9, _ | ⟨a10, _ | ⟨a11, c⟩⟩⟩⟩⟩⟩⟩⟩⟩⟩⟩⟩ <;> simp at h
  exact ⟨_, _, _, _, _, _, _, _, _, _, _, rfl⟩
theorem zero11 (w : World) : (zeroValue 82).run Tryd.prog w = .ok (eV (List.replicate 11 0)) w := Tryd.zeroValue82 w
theorem lookup_place {w : World} {bm : Nat} {l : Ent} (h : MapAt w bm eK eV l) (p : Bytes × Nat) : (Instr.lookup 72 (.map (some bm)) (eK p) false).run Tryd.prog w = .ok (eV (cnt l p)) w := by
  rw [(run_lookup_at placeLaw Tryd.underlying72 zero11 h p).1]
  unfold cnt
  cases look l p <;> rfl

theorem grown_put (W : World) (o ob : Obj) (bm : Nat) : W.grownBy ((W.alloc o).drew.drew.putObj bm ob) (some bm) :=
  ⟨rfl, rfl, rfl, by simp [World.putObj], fun k hk hne => (World.putObj_heap_other (fun e => hne (by rw [e]))).trans (ha_ne (Nat.ne_of_lt hk))⟩
theorem once {p q : Prop} (h : p) (f : p → q) : q := f h
theorem mapAt_alloc {w : World} {bm : Nat} {l : Ent} {o : Obj} (h : MapAt w bm eK eV l) : MapAt (w.alloc o) bm eK eV l := h.of_block (ha_ne (Nat.ne_of_lt h.lt))
theorem mapAt_drew {w : World} {bm : Nat} {l : Ent} (h : MapAt w bm eK eV l) : MapAt w.drew bm eK eV l := h.of_block rfl
theorem lookup_simp {w : World} {bm : Nat} {l : Ent} {d : Bytes} {t : Nat} (h : MapAt w bm eK eV l) : (Instr.lookup 72 (.map (some bm)) (.agg #[.string ⟨d.toArray⟩, .int .u8 (t : Int)]) false).run Tryd.prog w = .ok (eV (cnt l (d, t))) w := lookup_place h (d, t)

theorem MayT.below {w w' : World} {n₀ : Nat} (h : MayT w) (hb : Below n₀ w w') (hn : 0 < n₀) : MayT w' := fun i hi => (hb.cell (p := ⟨_, i, none⟩) hn).trans (h i hi)

set_option maxRecDepth 100000 in
set_option maxHeartbeats 1000000 in
theorem add_any (b bm : Nat) (names : Int) (l : Ent) (d : Bytes) (t what : Nat) (w : World) (h : TallyAt w b bm names l) (hbb : b ≠ bm) (hgood : Good l) (hl : l.length ≤ 1000000) (hs : d.length ≤ maxLen) (hg : Glob w) (hm : MayT w) (ht : t < 256) (hw : what < 256) :
    Calls Tryd.prog 14 #[.pointer (some ⟨b, 0, none⟩), .agg #[.string ⟨d.toArray⟩, .int .u8 (t : Int), .int .u8 (what : Int)]] w fun e w' =>
      e = .returned (.int .i64 (addB names l d t what)) ∧ w.grownBy w' (some bm) ∧ TallyAt w' b bm names (addS names l d t what) := by
  have hlt := h.lt
  have hbm := h.2.lt
  obtain ⟨W, hW⟩ : ∃ W, W = w.alloc (.cells #[.string ⟨d.toArray⟩, .int .u8 (t : Int), .int .u8 (what : Int)] 34) := ⟨_, rfl⟩
  have hb1 : Below w.heap.size w W := by rw [hW]; exact (Below.refl _ _).alloc (Nat.le_refl _) _
  have hc0 : W.cell? ⟨w.heap.size, 0, none⟩ = some (.string ⟨d.toArray⟩) := by rw [hW]; simp
  have hc1 : W.cell? ⟨w.heap.size, 1, none⟩ = some (.int .u8 (t : Int)) := by rw [hW]; simp
  have hc2 : W.cell? ⟨w.heap.size, 2, none⟩ = some (.int .u8 (what : Int)) := by rw [hW]; simp
  have hsz : W.heap.size = w.heap.size + 1 := by rw [hW]; simp
  obtain ⟨mx, hmx⟩ := hg
  have hM := tallyMay_any ⟨d.toArray⟩ t what W (by simpa [ByteArray.size] using hs) (Glob.below ⟨mx, hmx⟩ hb1 (cell_lt hmx)) (hm.below hb1 (cell_lt (hm 0 (by omega)))) ht (by omega)
  go_enter Tryd.func14, Tryd.ntmps14
  go_wp2_with fail
  rw [← hW]
  refine hM.mono ?_
  rintro e w1 ⟨rfl, hb2⟩
  have hT1 := (h.below hb1 hlt hbm).below hb2 (by omega) (by omega)
  have e0 : w1.cell? ⟨w.heap.size, 0, none⟩ = some (.string ⟨d.toArray⟩) := (hb2.cell (by simp; omega)).trans hc0
  have e1 : w1.cell? ⟨w.heap.size, 1, none⟩ = some (.int .u8 (t : Int)) := (hb2.cell (by simp; omega)).trans hc1
  have e2 : w1.cell? ⟨w.heap.size, 2, none⟩ = some (.int .u8 (what : Int)) := (hb2.cell (by simp; omega)).trans hc2
  have hs1 : w.heap.size < w1.heap.size := by have := hb2.size; omega
  have hB01 : Below w.heap.size w w1 := hb1.trans (hb2.mono (by omega))
  clear hM hc0 hc1 hc2 hW hb1 hb2
  have HT := Lib.hid hT1
  clear hT1 h hm hmx
  cases hk : (kindB t what && mayB d)
  · go_wp2
    have hA : addB names l d t what = 4 := by simp [addB, hk]
    refine bodyPost_ret (v := .int .i64 4) (by simp [results, Tryd.results14, go_sem]) rfl ⟨by rw [hA], grownBy_of_below hB01 _, ?_⟩
    unfold addS
    rw [hA]
    exact HT.out
  · go_wp2_with fail
    refine (room_any b bm names l d w1 HT.out hl).mono ?_
    rintro e w2 ⟨rfl, hb3⟩
    have hT2 := HT.out.below hb3 (by omega) (by omega)
    obtain ⟨d0, d1⟩ := hT2.obj
    have f0 : w2.cell? ⟨w.heap.size, 0, none⟩ = some (.string ⟨d.toArray⟩) := (hb3.cell (by simp; omega)).trans e0
    have f1 : w2.cell? ⟨w.heap.size, 1, none⟩ = some (.int .u8 (t : Int)) := (hb3.cell (by simp; omega)).trans e1
    have f2 : w2.cell? ⟨w.heap.size, 2, none⟩ = some (.int .u8 (what : Int)) := (hb3.cell (by simp; omega)).trans e2
    have hB02 : Below w.heap.size w w2 := hB01.trans (hb3.mono (by omega))
    have hs2 : w.heap.size < w2.heap.size := by have := hb3.size; omega
    clear e0 e1 e2 hB01 hb3 HT
    have HT := Lib.hid hT2
    clear hT2
    cases hr : roomB names l d
    · go_wp2
      have hA : addB names l d t what = 41 := by simp [addB, hk, hr]
      refine bodyPost_ret (v := .int .i64 41) (by simp [results, Tryd.results14, go_sem]) rfl ⟨by rw [hA], grownBy_of_below hB02 _, ?_⟩
      unfold addS
      rw [hA]
      exact HT.out
    · have hA : addB names l d t what = 0 := by simp [addB, hk, hr]
      go_wp2
      obtain ⟨W3, hW3⟩ : ∃ W3, W3 = w2.alloc (.cells #[.string ⟨d.toArray⟩, .int .u8 (t : Int)] 78) := ⟨_, rfl⟩
      rw [← hW3]
      obtain ⟨h11, hc11⟩ := hgood.cnt (d, t)
      have hw11 := kindB_lt (by simp only [Bool.and_eq_true] at hk; exact hk.1 : kindB (t : Int) (what : Int) = true)
      obtain ⟨a0, a1, a2, a3, a4, a5, a6, a7, a8, a9, a10, hcnt⟩ := eleven h11
      have hB23 : Below w2.heap.size w2 W3 := by rw [hW3]; exact (Below.refl _ _).alloc (Nat.le_refl _) _
      have hT3 := HT.out.below hB23 (by omega) (by omega)
      obtain ⟨g0, g1⟩ := hT3.obj
      have hs3 : W3.heap.size = w2.heap.size + 1 := by rw [hW3]; simp
      have p0 : W3.cell? ⟨w2.heap.size, 0, none⟩ = some (.string ⟨d.toArray⟩) := by rw [hW3]; simp
      have p1 : W3.cell? ⟨w2.heap.size, 1, none⟩ = some (.int .u8 (t : Int)) := by rw [hW3]; simp
      have q2 : W3.cell? ⟨w.heap.size, 2, none⟩ = some (.int .u8 (what : Int)) := (hB23.cell (by simp; omega)).trans f2
      have hB03 : Below w.heap.size w W3 := hB02.trans (hB23.mono (by omega))
      have HT3 := Lib.hid hT3
      clear f0 f1 f2 d0 d1 hW3 hT3 hB23 hB02 HT
      have hl0 : (Instr.lookup 72 (.map (some bm)) (.agg #[.string ⟨d.toArray⟩, .int .u8 (t : Int)]) false).run Tryd.prog W3.drew = .ok (.agg #[.int .i64 a0, .int .i64 a1, .int .i64 a2, .int .i64 a3, .int .i64 a4, .int .i64 a5, .int .i64 a6, .int .i64 a7, .int .i64 a8, .int .i64 a9, .int .i64 a10]) W3.drew := by
        have := lookup_place (w := W3.drew) (mapAt_drew HT3.out.2) (d, t)
        rw [hcnt] at this
        exact this
      have hl1 : ∀ o, (Instr.lookup 72 (.map (some bm)) (.agg #[.string ⟨d.toArray⟩, .int .u8 (t : Int)]) false).run Tryd.prog (W3.alloc o).drew = .ok (.agg #[.int .i64 a0, .int .i64 a1, .int .i64 a2, .int .i64 a3, .int .i64 a4, .int .i64 a5, .int .i64 a6, .int .i64 a7, .int .i64 a8, .int .i64 a9, .int .i64 a10]) (W3.alloc o).drew := fun o => by
        have := lookup_place (w := (W3.alloc o).drew) (mapAt_drew (mapAt_alloc HT3.out.2)) (d, t)
        rw [hcnt] at this
        exact this
      have n1 : ¬ b = w2.heap.size + 1 := by omega
      have n2 : ¬ w.heap.size = w2.heap.size + 1 := by omega
      have m1 : ∀ o, (W3.alloc o).cell? ⟨b, 1, none⟩ = some (.map (some bm)) := fun o => (World.cell?_of_block (ha_ne (by simp; omega))).trans g1
      have m2 : ∀ o, (W3.alloc o).cell? ⟨w2.heap.size, 0, none⟩ = some (.string ⟨d.toArray⟩) := fun o => (World.cell?_of_block (ha_ne (by simp; omega))).trans p0
      have m3 : ∀ o, (W3.alloc o).cell? ⟨w2.heap.size, 1, none⟩ = some (.int .u8 (t : Int)) := fun o => (World.cell?_of_block (ha_ne (by simp; omega))).trans p1
      apply once
      case f =>
        intro hfin
        go_region
        all_goals exact hfin
      have m4 : ∀ o, (W3.alloc o).cell? ⟨w.heap.size, 2, none⟩ = some (.int .u8 (what : Int)) := fun o => (World.cell?_of_block (ha_ne (by simp; omega))).trans q2
      clear hl0 hl1
      have hbd := hc11
      rw [hcnt] at hbd
      simp only [List.forall_mem_cons] at hbd
      obtain ⟨⟨i0, j0⟩, ⟨i1, j1⟩, ⟨i2, j2⟩, ⟨i3, j3⟩, ⟨i4, j4⟩, ⟨i5, j5⟩, ⟨i6, j6⟩, ⟨i7, j7⟩, ⟨i8, j8⟩, ⟨i9, j9⟩, ⟨i10, j10⟩, _⟩ := hbd
      clear hc11 h11
      have hup : ∀ (o : Obj) (v : List Int), ∃ ob, (Instr.mapUpdate 72 (.map (some bm)) (eK (d, t)) (eV v)).run Tryd.prog (W3.alloc o).drew.drew = .ok () ((W3.alloc o).drew.drew.putObj bm ob) ∧ MapAt ((W3.alloc o).drew.drew.putObj bm ob) bm eK eV (put l (d, t) v) := fun o v => run_update_at placeLaw Tryd.underlying72 (mapAt_drew (mapAt_drew (mapAt_alloc HT3.out.2))) (d, t) v
      have hfinal : ∀ (o : Obj) (v : List Int) (ob : Obj), MapAt ((W3.alloc o).drew.drew.putObj bm ob) bm eK eV (put l (d, t) v) → v = bump (cnt l (d, t)) what → w.grownBy ((W3.alloc o).drew.drew.putObj bm ob) (some bm) ∧ TallyAt ((W3.alloc o).drew.drew.putObj bm ob) b bm names (addS names l d t what) := by
        intro o v ob hmp hv
        have hg := grown_put W3 o ob bm
        refine ⟨World.grownBy.trans (grownBy_of_below hB03 _) hg, ?_⟩
        have e : addS names l d t what = put l (d, t) v := by rw [hv]; unfold addS addL; rw [hA]; rfl
        rw [e]
        exact ⟨(hg.block b (by omega) (fun e => hbb (by simpa using e))).trans HT3.out.1, hmp⟩
      have hw0 : what = 0 ∨ what = 1 ∨ what = 2 ∨ what = 3 ∨ what = 4 ∨ what = 5 ∨ what = 6 ∨ what = 7 ∨ what = 8 ∨ what = 9 ∨ what = 10 := by omega
      rcases hw0 with rfl | rfl | rfl | rfl | rfl | rfl | rfl | rfl | rfl | rfl | rfl
      · obtain ⟨ob, hrun, hmap⟩ := hup (.cells #[.int .i64 (a0 + 1), .int .i64 a1, .int .i64 a2, .int .i64 a3, .int .i64 a4, .int .i64 a5, .int .i64 a6, .int .i64 a7, .int .i64 a8, .int .i64 a9, .int .i64 a10] 82) [a0 + 1, a1, a2, a3, a4, a5, a6, a7, a8, a9, a10]
        have hF := Lib.hid (hfinal _ _ ob hmap (by rw [hcnt]; rfl))
        unfold eK str eV at hrun
        simp only [List.map_cons, List.map_nil] at hrun
        clear hup hfinal hmap
        go_wp2_with fail
        refine wp_region_still_tail 6 (by kernel_rfl) (by kernel_rfl) ?_
        simp only [List.take_succ_cons, List.take_zero, List.drop_succ_cons, List.drop_zero]
        show wpStill Tryd.prog _ (World.drew _) (fun a' => wpList _ _ _ _ a' (World.drew _)) _ _
        repeat still_step
        refine wpStill_nil ?_
        go_wp2
        refine bodyPost_ret (v := .int .i64 0) (by simp [results, Tryd.results14, go_sem]) rfl ⟨by rw [hA], hF.out⟩
      · obtain ⟨ob, hrun, hmap⟩ := hup (.cells #[.int .i64 a0, .int .i64 (a1 + 1), .int .i64 a2, .int .i64 a3, .int .i64 a4, .int .i64 a5, .int .i64 a6, .int .i64 a7, .int .i64 a8, .int .i64 a9, .int .i64 a10] 82) [a0, a1 + 1, a2, a3, a4, a5, a6, a7, a8, a9, a10]
        have hF := Lib.hid (hfinal _ _ ob hmap (by rw [hcnt]; rfl))
        unfold eK str eV at hrun
        simp only [List.map_cons, List.map_nil] at hrun
        clear hup hfinal hmap
        go_wp2_with fail
        refine wp_region_still_tail 6 (by kernel_rfl) (by kernel_rfl) ?_
        simp only [List.take_succ_cons, List.take_zero, List.drop_succ_cons, List.drop_zero]
        show wpStill Tryd.prog _ (World.drew _) (fun a' => wpList _ _ _ _ a' (World.drew _)) _ _
        repeat still_step
        refine wpStill_nil ?_
        go_wp2
        refine bodyPost_ret (v := .int .i64 0) (by simp [results, Tryd.results14, go_sem]) rfl ⟨by rw [hA], hF.out⟩
      · obtain ⟨ob, hrun, hmap⟩ := hup (.cells #[.int .i64 a0, .int .i64 a1, .int .i64 (a2 + 1), .int .i64 a3, .int .i64 a4, .int .i64 a5, .int .i64 a6, .int .i64 a7, .int .i64 a8, .int .i64 a9, .int .i64 a10] 82) [a0, a1, a2 + 1, a3, a4, a5, a6, a7, a8, a9, a10]
        have hF := Lib.hid (hfinal _ _ ob hmap (by rw [hcnt]; rfl))
        unfold eK str eV at hrun
        simp only [List.map_cons, List.map_nil] at hrun
        clear hup hfinal hmap
        go_wp2_with fail
        refine wp_region_still_tail 6 (by kernel_rfl) (by kernel_rfl) ?_
        simp only [List.take_succ_cons, List.take_zero, List.drop_succ_cons, List.drop_zero]
        show wpStill Tryd.prog _ (World.drew _) (fun a' => wpList _ _ _ _ a' (World.drew _)) _ _
        repeat still_step
        refine wpStill_nil ?_
        go_wp2
        refine bodyPost_ret (v := .int .i64 0) (by simp [results, Tryd.results14, go_sem]) rfl ⟨by rw [hA], hF.out⟩
      · obtain ⟨ob, hrun, hmap⟩ := hup (.cells #[.int .i64 a0, .int .i64 a1, .int .i64 a2, .int .i64 (a3 + 1), .int .i64 a4, .int .i64 a5, .int .i64 a6, .int .i64 a7, .int .i64 a8, .int .i64 a9, .int .i64 a10] 82) [a0, a1, a2, a3 + 1, a4, a5, a6, a7, a8, a9, a10]
        have hF := Lib.hid (hfinal _ _ ob hmap (by rw [hcnt]; rfl))
        unfold eK str eV at hrun
        simp only [List.map_cons, List.map_nil] at hrun
        clear hup hfinal hmap
        go_wp2_with fail
        refine wp_region_still_tail 6 (by kernel_rfl) (by kernel_rfl) ?_
        simp only [List.take_succ_cons, List.take_zero, List.drop_succ_cons, List.drop_zero]
        show wpStill Tryd.prog _ (World.drew _) (fun a' => wpList _ _ _ _ a' (World.drew _)) _ _
        repeat still_step
        refine wpStill_nil ?_
        go_wp2
        refine bodyPost_ret (v := .int .i64 0) (by simp [results, Tryd.results14, go_sem]) rfl ⟨by rw [hA], hF.out⟩
      · obtain ⟨ob, hrun, hmap⟩ := hup (.cells #[.int .i64 a0, .int .i64 a1, .int .i64 a2, .int .i64 a3, .int .i64 (a4 + 1), .int .i64 a5, .int .i64 a6, .int .i64 a7, .int .i64 a8, .int .i64 a9, .int .i64 a10] 82) [a0, a1, a2, a3, a4 + 1, a5, a6, a7, a8, a9, a10]
        have hF := Lib.hid (hfinal _ _ ob hmap (by rw [hcnt]; rfl))
        unfold eK str eV at hrun
        simp only [List.map_cons, List.map_nil] at hrun
        clear hup hfinal hmap
        go_wp2_with fail
        refine wp_region_still_tail 6 (by kernel_rfl) (by kernel_rfl) ?_
        simp only [List.take_succ_cons, List.take_zero, List.drop_succ_cons, List.drop_zero]
        show wpStill Tryd.prog _ (World.drew _) (fun a' => wpList _ _ _ _ a' (World.drew _)) _ _
        repeat still_step
        refine wpStill_nil ?_
        go_wp2
        refine bodyPost_ret (v := .int .i64 0) (by simp [results, Tryd.results14, go_sem]) rfl ⟨by rw [hA], hF.out⟩
      · obtain ⟨ob, hrun, hmap⟩ := hup (.cells #[.int .i64 a0, .int .i64 a1, .int .i64 a2, .int .i64 a3, .int .i64 a4, .int .i64 (a5 + 1), .int .i64 a6, .int .i64 a7, .int .i64 a8, .int .i64 a9, .int .i64 a10] 82) [a0, a1, a2, a3, a4, a5 + 1, a6, a7, a8, a9, a10]
        have hF := Lib.hid (hfinal _ _ ob hmap (by rw [hcnt]; rfl))
        unfold eK str eV at hrun
        simp only [List.map_cons, List.map_nil] at hrun
        clear hup hfinal hmap
        go_wp2_with fail
        refine wp_region_still_tail 6 (by kernel_rfl) (by kernel_rfl) ?_
        simp only [List.take_succ_cons, List.take_zero, List.drop_succ_cons, List.drop_zero]
        show wpStill Tryd.prog _ (World.drew _) (fun a' => wpList _ _ _ _ a' (World.drew _)) _ _
        repeat still_step
        refine wpStill_nil ?_
        go_wp2
        refine bodyPost_ret (v := .int .i64 0) (by simp [results, Tryd.results14, go_sem]) rfl ⟨by rw [hA], hF.out⟩
      · obtain ⟨ob, hrun, hmap⟩ := hup (.cells #[.int .i64 a0, .int .i64 a1, .int .i64 a2, .int .i64 a3, .int .i64 a4, .int .i64 a5, .int .i64 (a6 + 1), .int .i64 a7, .int .i64 a8, .int .i64 a9, .int .i64 a10] 82) [a0, a1, a2, a3, a4, a5, a6 + 1, a7, a8, a9, a10]
        have hF := Lib.hid (hfinal _ _ ob hmap (by rw [hcnt]; rfl))
        unfold eK str eV at hrun
        simp only [List.map_cons, List.map_nil] at hrun
        clear hup hfinal hmap
        go_wp2_with fail
        refine wp_region_still_tail 6 (by kernel_rfl) (by kernel_rfl) ?_
        simp only [List.take_succ_cons, List.take_zero, List.drop_succ_cons, List.drop_zero]
        show wpStill Tryd.prog _ (World.drew _) (fun a' => wpList _ _ _ _ a' (World.drew _)) _ _
        repeat still_step
        refine wpStill_nil ?_
        go_wp2
        refine bodyPost_ret (v := .int .i64 0) (by simp [results, Tryd.results14, go_sem]) rfl ⟨by rw [hA], hF.out⟩
      · obtain ⟨ob, hrun, hmap⟩ := hup (.cells #[.int .i64 a0, .int .i64 a1, .int .i64 a2, .int .i64 a3, .int .i64 a4, .int .i64 a5, .int .i64 a6, .int .i64 (a7 + 1), .int .i64 a8, .int .i64 a9, .int .i64 a10] 82) [a0, a1, a2, a3, a4, a5, a6, a7 + 1, a8, a9, a10]
        have hF := Lib.hid (hfinal _ _ ob hmap (by rw [hcnt]; rfl))
        unfold eK str eV at hrun
        simp only [List.map_cons, List.map_nil] at hrun
        clear hup hfinal hmap
        go_wp2_with fail
        refine wp_region_still_tail 6 (by kernel_rfl) (by kernel_rfl) ?_
        simp only [List.take_succ_cons, List.take_zero, List.drop_succ_cons, List.drop_zero]
        show wpStill Tryd.prog _ (World.drew _) (fun a' => wpList _ _ _ _ a' (World.drew _)) _ _
        repeat still_step
        refine wpStill_nil ?_
        go_wp2
        refine bodyPost_ret (v := .int .i64 0) (by simp [results, Tryd.results14, go_sem]) rfl ⟨by rw [hA], hF.out⟩
      · obtain ⟨ob, hrun, hmap⟩ := hup (.cells #[.int .i64 a0, .int .i64 a1, .int .i64 a2, .int .i64 a3, .int .i64 a4, .int .i64 a5, .int .i64 a6, .int .i64 a7, .int .i64 (a8 + 1), .int .i64 a9, .int .i64 a10] 82) [a0, a1, a2, a3, a4, a5, a6, a7, a8 + 1, a9, a10]
        have hF := Lib.hid (hfinal _ _ ob hmap (by rw [hcnt]; rfl))
        unfold eK str eV at hrun
        simp only [List.map_cons, List.map_nil] at hrun
        clear hup hfinal hmap
        go_wp2_with fail
        refine wp_region_still_tail 6 (by kernel_rfl) (by kernel_rfl) ?_
        simp only [List.take_succ_cons, List.take_zero, List.drop_succ_cons, List.drop_zero]
        show wpStill Tryd.prog _ (World.drew _) (fun a' => wpList _ _ _ _ a' (World.drew _)) _ _
        repeat still_step
        refine wpStill_nil ?_
        go_wp2
        refine bodyPost_ret (v := .int .i64 0) (by simp [results, Tryd.results14, go_sem]) rfl ⟨by rw [hA], hF.out⟩
      · obtain ⟨ob, hrun, hmap⟩ := hup (.cells #[.int .i64 a0, .int .i64 a1, .int .i64 a2, .int .i64 a3, .int .i64 a4, .int .i64 a5, .int .i64 a6, .int .i64 a7, .int .i64 a8, .int .i64 (a9 + 1), .int .i64 a10] 82) [a0, a1, a2, a3, a4, a5, a6, a7, a8, a9 + 1, a10]
        have hF := Lib.hid (hfinal _ _ ob hmap (by rw [hcnt]; rfl))
        unfold eK str eV at hrun
        simp only [List.map_cons, List.map_nil] at hrun
        clear hup hfinal hmap
        go_wp2_with fail
        refine wp_region_still_tail 6 (by kernel_rfl) (by kernel_rfl) ?_
        simp only [List.take_succ_cons, List.take_zero, List.drop_succ_cons, List.drop_zero]
        show wpStill Tryd.prog _ (World.drew _) (fun a' => wpList _ _ _ _ a' (World.drew _)) _ _
        repeat still_step
        refine wpStill_nil ?_
        go_wp2
        refine bodyPost_ret (v := .int .i64 0) (by simp [results, Tryd.results14, go_sem]) rfl ⟨by rw [hA], hF.out⟩
      · obtain ⟨ob, hrun, hmap⟩ := hup (.cells #[.int .i64 a0, .int .i64 a1, .int .i64 a2, .int .i64 a3, .int .i64 a4, .int .i64 a5, .int .i64 a6, .int .i64 a7, .int .i64 a8, .int .i64 a9, .int .i64 (a10 + 1)] 82) [a0, a1, a2, a3, a4, a5, a6, a7, a8, a9, a10 + 1]
        have hF := Lib.hid (hfinal _ _ ob hmap (by rw [hcnt]; rfl))
        unfold eK str eV at hrun
        simp only [List.map_cons, List.map_nil] at hrun
        clear hup hfinal hmap
        go_wp2_with fail
        refine wp_region_still_tail 6 (by kernel_rfl) (by kernel_rfl) ?_
        simp only [List.take_succ_cons, List.take_zero, List.drop_succ_cons, List.drop_zero]
        show wpStill Tryd.prog _ (World.drew _) (fun a' => wpList _ _ _ _ a' (World.drew _)) _ _
        repeat still_step
        refine wpStill_nil ?_
        go_wp2
        refine bodyPost_ret (v := .int .i64 0) (by simp [results, Tryd.results14, go_sem]) rfl ⟨by rw [hA], hF.out⟩
end Go.Proofs.YthhcigmdocldnaaDoor

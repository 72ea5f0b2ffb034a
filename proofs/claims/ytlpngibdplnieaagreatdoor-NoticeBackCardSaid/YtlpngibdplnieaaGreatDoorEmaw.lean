/- entry.May: its walk. -/
import Derived.Test.YtlpngibdplnieaaGreatDoorEmay
import Derived.Deep.RegionHeld3
namespace Go.Proofs.YtlpngibdplnieaaGreatDoor
open Go Go.RowKit Go.Shelf Go.Sort
attribute [local go_sem] bneI

theorem enterWrong : ∀ args w, (callFunc 56 args).run Tryz.prog w = .ok (.enter 56 args) w := enters_of Tryz.func56 (by kernel_rfl) rfl
def mayN (x : EntP) : Bool := decide (1 ≤ x.id) && (clockB x.id && (clockB x.at_ && (decide (mailB x.mail 4 4096 = 0) && ((x.plain == plainM x.mail) && (decide (x.fates.length = x.mail.rcpts.length) && (!x.fates.any wrongB && jobsOk x.jobs (domsM x.mail.rcpts)))))))
/-- What May asks, one behind the other; where it ends. -/
theorem may_ways (x : EntP) : (x.id < 1 ∧ mayN x = false) ∨ (1 ≤ x.id ∧ clockB x.id = false ∧ mayN x = false) ∨ (1 ≤ x.id ∧ clockB x.id = true ∧ clockB x.at_ = false ∧ mayN x = false) ∨
    (1 ≤ x.id ∧ clockB x.id = true ∧ clockB x.at_ = true ∧ mailB x.mail 4 4096 ≠ 0 ∧ mayN x = false) ∨
    (1 ≤ x.id ∧ clockB x.id = true ∧ clockB x.at_ = true ∧ mailB x.mail 4 4096 = 0 ∧ x.plain ≠ plainM x.mail ∧ mayN x = false) ∨
    (1 ≤ x.id ∧ clockB x.id = true ∧ clockB x.at_ = true ∧ mailB x.mail 4 4096 = 0 ∧ x.plain = plainM x.mail ∧ x.fates.length ≠ x.mail.rcpts.length ∧ mayN x = false) ∨
    (1 ≤ x.id ∧ clockB x.id = true ∧ clockB x.at_ = true ∧ mailB x.mail 4 4096 = 0 ∧ x.plain = plainM x.mail ∧ x.fates.length = x.mail.rcpts.length ∧ x.fates.any wrongB = true ∧ mayN x = false) ∨
    (1 ≤ x.id ∧ clockB x.id = true ∧ clockB x.at_ = true ∧ mailB x.mail 4 4096 = 0 ∧ x.plain = plainM x.mail ∧ x.fates.length = x.mail.rcpts.length ∧ x.fates.any wrongB = false ∧ mayN x = jobsOk x.jobs (domsM x.mail.rcpts)) := by
  unfold mayN
  by_cases h1 : 1 ≤ x.id
  · cases h2 : clockB x.id with
    | false => right; left; simp [h1]
    | true =>
      cases h3 : clockB x.at_ with
      | false => right; right; left; simp [h1]
      | true =>
        by_cases h4 : mailB x.mail 4 4096 = 0
        · by_cases h5 : x.plain = plainM x.mail
          · by_cases h6 : x.fates.length = x.mail.rcpts.length
            · cases h7 : x.fates.any wrongB with
              | true => iterate 6 right
                        left; simp [h1, h4, h5, h6]
              | false => iterate 7 right
                         simp [h1, h4, h5, h6]
            · iterate 5 right
              left; simp [h1, h4, h5, h6]
          · iterate 4 right
            left; simp [h1, h4, h5]
        · iterate 3 right
          left; simp [h1, h4]
  · left; exact ⟨by omega, by simp [h1]⟩

set_option maxRecDepth 100000 in
set_option maxHeartbeats 16000000 in
theorem may_way0 (x : EntP) (sv fv jv : Value) (w : World) (hx : EntAt w x sv fv jv) (hs : ShortE x) (hE : Env w) (hway : x.id < 1 ∧ mayN x = false) :
    Calls Tryz.prog 22 #[entV x sv fv jv] w fun e w' => e = .returned (.bool (mayN x)) ∧ Below w.heap.size w w' := by
  obtain ⟨p, c, rfl, hpc⟩ := hx.rc.sh
  obtain ⟨q, d, rfl, hqd⟩ := hx.fa.sh
  obtain ⟨r, rr, rfl, hrr⟩ := hx.jo.sh
  obtain ⟨W1, hW1⟩ : ∃ W1, W1 = (w.alloc (.cells (entC x (.slice p x.mail.rcpts.length c) (.slice q x.fates.length d) (.slice r x.jobs.length rr)).toArray 28)) := ⟨_, rfl⟩
  have hB1 : Below w.heap.size w W1 := by rw [hW1]; exact (Below.refl _ w).alloc (Nat.le_refl _) _
  have hb1 : W1.heap[w.heap.size]? = some (.cells (entC x (.slice p x.mail.rcpts.length c) (.slice q x.fates.length d) (.slice r x.jobs.length rr)).toArray 28 (0, 0)) := by rw [hW1]; exact ha_eq rfl
  have hx1 := hx.below hB1
  have hE1 := hE.keep hB1
  have hC := fun n => BW.calls (w := W1) (v := .bool (clockB n)) (fun W _ => clock_any n W)
  have hM := BW.calls (w := W1) (fun W hW => mail_any x.mail (.slice p x.mail.rcpts.length c) 4 4096 W (hx1.rc.below hW) hs.mail (hE1.keep hW))
  have hP := BW.calls (w := W1) (fun W hW => plainE_any x.mail (.slice p x.mail.rcpts.length c) W hs.mail.text (hE1.keep hW).glob)
  have hW := BW.calls (w := W1) (fun W hW => hasFate_any 56 enterWrong #[] wrongB x.fates (.slice q x.fates.length d) W (hx1.fa.below hW) hs.fates (fun f hf W' _ => wrong_any f W' (by have := hs.texts f hf; unfold maxLen; omega)))
  unfold mailV mailC at hM hP
  unfold entV
  unfold entC at hW1 hb1 ⊢
  obtain ⟨x0, x1, x2, x3, x4, x5, x6, x7, x8, x9⟩ := eboxAll hb1
  have hC0 := hC x.id
  have hC1 := hC x.at_
  have HB := Lib.hid (And.intro hB1 (And.intro hb1 (And.intro hx1 (And.intro hE1 hs))))
  have hfin : ∀ (W : World), (∃ p : BW W1, W = p.v) → Below w.heap.size w W := fun W hp => by
    obtain ⟨p, rfl⟩ := hp
    exact HB.out.1.trans (p.h.mono HB.out.1.size)
  have HF := Lib.hid hfin
  clear hx hs hE hB1 hb1 hx1 hE1 hC hfin hpc hqd hrr
  obtain ⟨h1, hm⟩ := hway
  have HM := Lib.hid hm
  have e1 : x.id < 1 := h1
  clear h1
  clear hC0 hC1 hM hP hW
  have qx0 := BW.cell x0
  clear hm
  go_enter Tryz.func22, Tryz.ntmps22
  go_upto_region 1 with (fail)
  rw [← hW1]
  clear hW1
  refine wp_region_quiet_below (by kernel_rfl) (by kernel_rfl) ?_
  repeat (go_big_quiet_step (fail))
  refine wpQuiet_nil ?_
  intro w5 hw'
  have H5 := Lib.hid (HF.out w5 hw')
  clear hw' qx0 
  go_wp2
  refine bodyPost_ret (v := .bool false) (by simp [results, Tryz.results22, go_sem]) rfl ⟨by rw [HM.out], H5.out⟩
set_option maxRecDepth 100000 in
set_option maxHeartbeats 16000000 in
theorem may_way1 (x : EntP) (sv fv jv : Value) (w : World) (hx : EntAt w x sv fv jv) (hs : ShortE x) (hE : Env w) (hway : 1 ≤ x.id ∧ clockB x.id = false ∧ mayN x = false) :
    Calls Tryz.prog 22 #[entV x sv fv jv] w fun e w' => e = .returned (.bool (mayN x)) ∧ Below w.heap.size w w' := by
  obtain ⟨p, c, rfl, hpc⟩ := hx.rc.sh
  obtain ⟨q, d, rfl, hqd⟩ := hx.fa.sh
  obtain ⟨r, rr, rfl, hrr⟩ := hx.jo.sh
  obtain ⟨W1, hW1⟩ : ∃ W1, W1 = (w.alloc (.cells (entC x (.slice p x.mail.rcpts.length c) (.slice q x.fates.length d) (.slice r x.jobs.length rr)).toArray 28)) := ⟨_, rfl⟩
  have hB1 : Below w.heap.size w W1 := by rw [hW1]; exact (Below.refl _ w).alloc (Nat.le_refl _) _
  have hb1 : W1.heap[w.heap.size]? = some (.cells (entC x (.slice p x.mail.rcpts.length c) (.slice q x.fates.length d) (.slice r x.jobs.length rr)).toArray 28 (0, 0)) := by rw [hW1]; exact ha_eq rfl
  have hx1 := hx.below hB1
  have hE1 := hE.keep hB1
  have hC := fun n => BW.calls (w := W1) (v := .bool (clockB n)) (fun W _ => clock_any n W)
  have hM := BW.calls (w := W1) (fun W hW => mail_any x.mail (.slice p x.mail.rcpts.length c) 4 4096 W (hx1.rc.below hW) hs.mail (hE1.keep hW))
  have hP := BW.calls (w := W1) (fun W hW => plainE_any x.mail (.slice p x.mail.rcpts.length c) W hs.mail.text (hE1.keep hW).glob)
  have hW := BW.calls (w := W1) (fun W hW => hasFate_any 56 enterWrong #[] wrongB x.fates (.slice q x.fates.length d) W (hx1.fa.below hW) hs.fates (fun f hf W' _ => wrong_any f W' (by have := hs.texts f hf; unfold maxLen; omega)))
  unfold mailV mailC at hM hP
  unfold entV
  unfold entC at hW1 hb1 ⊢
  obtain ⟨x0, x1, x2, x3, x4, x5, x6, x7, x8, x9⟩ := eboxAll hb1
  have hC0 := hC x.id
  have hC1 := hC x.at_
  have HB := Lib.hid (And.intro hB1 (And.intro hb1 (And.intro hx1 (And.intro hE1 hs))))
  have hfin : ∀ (W : World), (∃ p : BW W1, W = p.v) → Below w.heap.size w W := fun W hp => by
    obtain ⟨p, rfl⟩ := hp
    exact HB.out.1.trans (p.h.mono HB.out.1.size)
  have HF := Lib.hid hfin
  clear hx hs hE hB1 hb1 hx1 hE1 hC hfin hpc hqd hrr
  obtain ⟨h1, h2, hm⟩ := hway
  have HM := Lib.hid hm
  have e1 : ¬ x.id < 1 := by omega
  rw [h2] at hC0
  clear h1 h2
  clear hC1 hM hP hW
  have qx0 := BW.cell x0
  clear hm
  go_enter Tryz.func22, Tryz.ntmps22
  go_upto_region 1 with (fail)
  rw [← hW1]
  clear hW1
  refine wp_region_quiet_below (by kernel_rfl) (by kernel_rfl) ?_
  repeat (go_big_quiet_step ((first | exact hC0 _)))
  refine wpQuiet_nil ?_
  intro w5 hw'
  have H5 := Lib.hid (HF.out w5 hw')
  clear hw' qx0 hC0
  go_wp2
  refine bodyPost_ret (v := .bool false) (by simp [results, Tryz.results22, go_sem]) rfl ⟨by rw [HM.out], H5.out⟩
set_option maxRecDepth 100000 in
set_option maxHeartbeats 16000000 in
theorem may_way2 (x : EntP) (sv fv jv : Value) (w : World) (hx : EntAt w x sv fv jv) (hs : ShortE x) (hE : Env w) (hway : 1 ≤ x.id ∧ clockB x.id = true ∧ clockB x.at_ = false ∧ mayN x = false) :
    Calls Tryz.prog 22 #[entV x sv fv jv] w fun e w' => e = .returned (.bool (mayN x)) ∧ Below w.heap.size w w' := by
  obtain ⟨p, c, rfl, hpc⟩ := hx.rc.sh
  obtain ⟨q, d, rfl, hqd⟩ := hx.fa.sh
  obtain ⟨r, rr, rfl, hrr⟩ := hx.jo.sh
  obtain ⟨W1, hW1⟩ : ∃ W1, W1 = (w.alloc (.cells (entC x (.slice p x.mail.rcpts.length c) (.slice q x.fates.length d) (.slice r x.jobs.length rr)).toArray 28)) := ⟨_, rfl⟩
  have hB1 : Below w.heap.size w W1 := by rw [hW1]; exact (Below.refl _ w).alloc (Nat.le_refl _) _
  have hb1 : W1.heap[w.heap.size]? = some (.cells (entC x (.slice p x.mail.rcpts.length c) (.slice q x.fates.length d) (.slice r x.jobs.length rr)).toArray 28 (0, 0)) := by rw [hW1]; exact ha_eq rfl
  have hx1 := hx.below hB1
  have hE1 := hE.keep hB1
  have hC := fun n => BW.calls (w := W1) (v := .bool (clockB n)) (fun W _ => clock_any n W)
  have hM := BW.calls (w := W1) (fun W hW => mail_any x.mail (.slice p x.mail.rcpts.length c) 4 4096 W (hx1.rc.below hW) hs.mail (hE1.keep hW))
  have hP := BW.calls (w := W1) (fun W hW => plainE_any x.mail (.slice p x.mail.rcpts.length c) W hs.mail.text (hE1.keep hW).glob)
  have hW := BW.calls (w := W1) (fun W hW => hasFate_any 56 enterWrong #[] wrongB x.fates (.slice q x.fates.length d) W (hx1.fa.below hW) hs.fates (fun f hf W' _ => wrong_any f W' (by have := hs.texts f hf; unfold maxLen; omega)))
  unfold mailV mailC at hM hP
  unfold entV
  unfold entC at hW1 hb1 ⊢
  obtain ⟨x0, x1, x2, x3, x4, x5, x6, x7, x8, x9⟩ := eboxAll hb1
  have hC0 := hC x.id
  have hC1 := hC x.at_
  have HB := Lib.hid (And.intro hB1 (And.intro hb1 (And.intro hx1 (And.intro hE1 hs))))
  have hfin : ∀ (W : World), (∃ p : BW W1, W = p.v) → Below w.heap.size w W := fun W hp => by
    obtain ⟨p, rfl⟩ := hp
    exact HB.out.1.trans (p.h.mono HB.out.1.size)
  have HF := Lib.hid hfin
  clear hx hs hE hB1 hb1 hx1 hE1 hC hfin hpc hqd hrr
  obtain ⟨h1, h2, h3, hm⟩ := hway
  have HM := Lib.hid hm
  have e1 : ¬ x.id < 1 := by omega
  rw [h2] at hC0
  rw [h3] at hC1
  clear h1 h2 h3
  clear hM hP hW
  have qx0 := BW.cell x0
  have qx1 := BW.cell x1
  clear hm
  go_enter Tryz.func22, Tryz.ntmps22
  go_upto_region 1 with (fail)
  rw [← hW1]
  clear hW1
  refine wp_region_quiet_below (by kernel_rfl) (by kernel_rfl) ?_
  repeat (go_big_quiet_step ((first | exact hC0 _ | exact hC1 _)))
  refine wpQuiet_nil ?_
  intro w5 hw'
  have H5 := Lib.hid (HF.out w5 hw')
  clear hw' qx0 qx1 hC0 hC1
  go_wp2
  refine bodyPost_ret (v := .bool false) (by simp [results, Tryz.results22, go_sem]) rfl ⟨by rw [HM.out], H5.out⟩
set_option maxRecDepth 100000 in
set_option maxHeartbeats 16000000 in
theorem may_way3 (x : EntP) (sv fv jv : Value) (w : World) (hx : EntAt w x sv fv jv) (hs : ShortE x) (hE : Env w) (hway : 1 ≤ x.id ∧ clockB x.id = true ∧ clockB x.at_ = true ∧ mailB x.mail 4 4096 ≠ 0 ∧ mayN x = false) :
    Calls Tryz.prog 22 #[entV x sv fv jv] w fun e w' => e = .returned (.bool (mayN x)) ∧ Below w.heap.size w w' := by
  obtain ⟨p, c, rfl, hpc⟩ := hx.rc.sh
  obtain ⟨q, d, rfl, hqd⟩ := hx.fa.sh
  obtain ⟨r, rr, rfl, hrr⟩ := hx.jo.sh
  obtain ⟨W1, hW1⟩ : ∃ W1, W1 = (w.alloc (.cells (entC x (.slice p x.mail.rcpts.length c) (.slice q x.fates.length d) (.slice r x.jobs.length rr)).toArray 28)) := ⟨_, rfl⟩
  have hB1 : Below w.heap.size w W1 := by rw [hW1]; exact (Below.refl _ w).alloc (Nat.le_refl _) _
  have hb1 : W1.heap[w.heap.size]? = some (.cells (entC x (.slice p x.mail.rcpts.length c) (.slice q x.fates.length d) (.slice r x.jobs.length rr)).toArray 28 (0, 0)) := by rw [hW1]; exact ha_eq rfl
  have hx1 := hx.below hB1
  have hE1 := hE.keep hB1
  have hC := fun n => BW.calls (w := W1) (v := .bool (clockB n)) (fun W _ => clock_any n W)
  have hM := BW.calls (w := W1) (fun W hW => mail_any x.mail (.slice p x.mail.rcpts.length c) 4 4096 W (hx1.rc.below hW) hs.mail (hE1.keep hW))
  have hP := BW.calls (w := W1) (fun W hW => plainE_any x.mail (.slice p x.mail.rcpts.length c) W hs.mail.text (hE1.keep hW).glob)
  have hW := BW.calls (w := W1) (fun W hW => hasFate_any 56 enterWrong #[] wrongB x.fates (.slice q x.fates.length d) W (hx1.fa.below hW) hs.fates (fun f hf W' _ => wrong_any f W' (by have := hs.texts f hf; unfold maxLen; omega)))
  unfold mailV mailC at hM hP
  unfold entV
  unfold entC at hW1 hb1 ⊢
  obtain ⟨x0, x1, x2, x3, x4, x5, x6, x7, x8, x9⟩ := eboxAll hb1
  have hC0 := hC x.id
  have hC1 := hC x.at_
  have HB := Lib.hid (And.intro hB1 (And.intro hb1 (And.intro hx1 (And.intro hE1 hs))))
  have hfin : ∀ (W : World), (∃ p : BW W1, W = p.v) → Below w.heap.size w W := fun W hp => by
    obtain ⟨p, rfl⟩ := hp
    exact HB.out.1.trans (p.h.mono HB.out.1.size)
  have HF := Lib.hid hfin
  clear hx hs hE hB1 hb1 hx1 hE1 hC hfin hpc hqd hrr
  obtain ⟨h1, h2, h3, h4, hm⟩ := hway
  have HM := Lib.hid hm
  have e1 : ¬ x.id < 1 := by omega
  rw [h2] at hC0
  rw [h3] at hC1
  have e4 : ((mailB x.mail 4 4096 : Int) == 0) = false := by simp; omega
  have e5 : decide ((mailB x.mail 4 4096 : Int) = 0) = false := by simp; omega
  have e6 : decide (mailB x.mail 4 4096 = 0) = false := by simpa using h4
  generalize mailB x.mail 4 4096 = mb at *
  clear h1 h2 h3 h4
  clear hP hW
  have qx0 := BW.cell x0
  have qx1 := BW.cell x1
  have qx2 := BW.cell x2
  have qx3 := BW.cell x3
  have qx4 := BW.cell x4
  have qx5 := BW.cell x5
  have qx6 := BW.cell x6
  clear hm
  go_enter Tryz.func22, Tryz.ntmps22
  go_upto_region 1 with (fail)
  rw [← hW1]
  clear hW1
  refine wp_region_quiet_below (by kernel_rfl) (by kernel_rfl) ?_
  repeat (go_big_quiet_step ((first | exact hC0 _ | exact hC1 _ | exact hM _)))
  refine wpQuiet_nil ?_
  intro w5 hw'
  have H5 := Lib.hid (HF.out w5 hw')
  clear hw' qx0 qx1 qx2 qx3 qx4 qx5 qx6 hC0 hC1 hM
  go_wp2
  refine bodyPost_ret (v := .bool false) (by simp [results, Tryz.results22, go_sem]) rfl ⟨by rw [HM.out], H5.out⟩
set_option maxRecDepth 100000 in
set_option maxHeartbeats 16000000 in
theorem may_way4 (x : EntP) (sv fv jv : Value) (w : World) (hx : EntAt w x sv fv jv) (hs : ShortE x) (hE : Env w) (hway : 1 ≤ x.id ∧ clockB x.id = true ∧ clockB x.at_ = true ∧ mailB x.mail 4 4096 = 0 ∧ x.plain ≠ plainM x.mail ∧ mayN x = false) :
    Calls Tryz.prog 22 #[entV x sv fv jv] w fun e w' => e = .returned (.bool (mayN x)) ∧ Below w.heap.size w w' := by
  obtain ⟨p, c, rfl, hpc⟩ := hx.rc.sh
  obtain ⟨q, d, rfl, hqd⟩ := hx.fa.sh
  obtain ⟨r, rr, rfl, hrr⟩ := hx.jo.sh
  obtain ⟨W1, hW1⟩ : ∃ W1, W1 = (w.alloc (.cells (entC x (.slice p x.mail.rcpts.length c) (.slice q x.fates.length d) (.slice r x.jobs.length rr)).toArray 28)) := ⟨_, rfl⟩
  have hB1 : Below w.heap.size w W1 := by rw [hW1]; exact (Below.refl _ w).alloc (Nat.le_refl _) _
  have hb1 : W1.heap[w.heap.size]? = some (.cells (entC x (.slice p x.mail.rcpts.length c) (.slice q x.fates.length d) (.slice r x.jobs.length rr)).toArray 28 (0, 0)) := by rw [hW1]; exact ha_eq rfl
  have hx1 := hx.below hB1
  have hE1 := hE.keep hB1
  have hC := fun n => BW.calls (w := W1) (v := .bool (clockB n)) (fun W _ => clock_any n W)
  have hM := BW.calls (w := W1) (fun W hW => mail_any x.mail (.slice p x.mail.rcpts.length c) 4 4096 W (hx1.rc.below hW) hs.mail (hE1.keep hW))
  have hP := BW.calls (w := W1) (fun W hW => plainE_any x.mail (.slice p x.mail.rcpts.length c) W hs.mail.text (hE1.keep hW).glob)
  have hW := BW.calls (w := W1) (fun W hW => hasFate_any 56 enterWrong #[] wrongB x.fates (.slice q x.fates.length d) W (hx1.fa.below hW) hs.fates (fun f hf W' _ => wrong_any f W' (by have := hs.texts f hf; unfold maxLen; omega)))
  unfold mailV mailC at hM hP
  unfold entV
  unfold entC at hW1 hb1 ⊢
  obtain ⟨x0, x1, x2, x3, x4, x5, x6, x7, x8, x9⟩ := eboxAll hb1
  have hC0 := hC x.id
  have hC1 := hC x.at_
  have HB := Lib.hid (And.intro hB1 (And.intro hb1 (And.intro hx1 (And.intro hE1 hs))))
  have hfin : ∀ (W : World), (∃ p : BW W1, W = p.v) → Below w.heap.size w W := fun W hp => by
    obtain ⟨p, rfl⟩ := hp
    exact HB.out.1.trans (p.h.mono HB.out.1.size)
  have HF := Lib.hid hfin
  clear hx hs hE hB1 hb1 hx1 hE1 hC hfin hpc hqd hrr
  obtain ⟨h1, h2, h3, h4, h5, hm⟩ := hway
  have HM := Lib.hid hm
  have e1 : ¬ x.id < 1 := by omega
  rw [h2] at hC0
  rw [h3] at hC1
  rw [h4] at hM
  have e6 : plainM x.mail = !x.plain := by cases hp1 : x.plain <;> cases hp2 : plainM x.mail <;> simp_all
  rw [e6] at hP
  clear e6
  clear h1 h2 h3 h4 h5
  clear hW
  generalize hpl : x.plain = pl at *
  have HPL := Lib.hid hpl
  clear hpl
  have qx0 := BW.cell x0
  have qx1 := BW.cell x1
  have qx2 := BW.cell x2
  have qx3 := BW.cell x3
  have qx4 := BW.cell x4
  have qx5 := BW.cell x5
  have qx6 := BW.cell x6
  have qx7 := BW.cell x7
  clear hm
  go_enter Tryz.func22, Tryz.ntmps22
  go_upto_region 1 with (fail)
  rw [← hW1]
  clear hW1
  refine wp_region_quiet_below (by kernel_rfl) (by kernel_rfl) ?_
  repeat (go_big_quiet_step ((first | exact hC0 _ | exact hC1 _ | exact hM _ | exact hP _)))
  refine wpQuiet_nil ?_
  intro w5 hw'
  have H5 := Lib.hid (HF.out w5 hw')
  clear hw' qx0 qx1 qx2 qx3 qx4 qx5 qx6 qx7 hC0 hC1 hM hP
  go_wp2
  refine bodyPost_ret (v := .bool false) (by simp [results, Tryz.results22, go_sem]) rfl ⟨by rw [HM.out], H5.out⟩
set_option maxRecDepth 100000 in
set_option maxHeartbeats 16000000 in
theorem may_way5 (x : EntP) (sv fv jv : Value) (w : World) (hx : EntAt w x sv fv jv) (hs : ShortE x) (hE : Env w) (hway : 1 ≤ x.id ∧ clockB x.id = true ∧ clockB x.at_ = true ∧ mailB x.mail 4 4096 = 0 ∧ x.plain = plainM x.mail ∧ x.fates.length ≠ x.mail.rcpts.length ∧ mayN x = false) :
    Calls Tryz.prog 22 #[entV x sv fv jv] w fun e w' => e = .returned (.bool (mayN x)) ∧ Below w.heap.size w w' := by
  obtain ⟨p, c, rfl, hpc⟩ := hx.rc.sh
  obtain ⟨q, d, rfl, hqd⟩ := hx.fa.sh
  obtain ⟨r, rr, rfl, hrr⟩ := hx.jo.sh
  obtain ⟨W1, hW1⟩ : ∃ W1, W1 = (w.alloc (.cells (entC x (.slice p x.mail.rcpts.length c) (.slice q x.fates.length d) (.slice r x.jobs.length rr)).toArray 28)) := ⟨_, rfl⟩
  have hB1 : Below w.heap.size w W1 := by rw [hW1]; exact (Below.refl _ w).alloc (Nat.le_refl _) _
  have hb1 : W1.heap[w.heap.size]? = some (.cells (entC x (.slice p x.mail.rcpts.length c) (.slice q x.fates.length d) (.slice r x.jobs.length rr)).toArray 28 (0, 0)) := by rw [hW1]; exact ha_eq rfl
  have hx1 := hx.below hB1
  have hE1 := hE.keep hB1
  have hC := fun n => BW.calls (w := W1) (v := .bool (clockB n)) (fun W _ => clock_any n W)
  have hM := BW.calls (w := W1) (fun W hW => mail_any x.mail (.slice p x.mail.rcpts.length c) 4 4096 W (hx1.rc.below hW) hs.mail (hE1.keep hW))
  have hP := BW.calls (w := W1) (fun W hW => plainE_any x.mail (.slice p x.mail.rcpts.length c) W hs.mail.text (hE1.keep hW).glob)
  have hW := BW.calls (w := W1) (fun W hW => hasFate_any 56 enterWrong #[] wrongB x.fates (.slice q x.fates.length d) W (hx1.fa.below hW) hs.fates (fun f hf W' _ => wrong_any f W' (by have := hs.texts f hf; unfold maxLen; omega)))
  unfold mailV mailC at hM hP
  unfold entV
  unfold entC at hW1 hb1 ⊢
  obtain ⟨x0, x1, x2, x3, x4, x5, x6, x7, x8, x9⟩ := eboxAll hb1
  have hC0 := hC x.id
  have hC1 := hC x.at_
  have HB := Lib.hid (And.intro hB1 (And.intro hb1 (And.intro hx1 (And.intro hE1 hs))))
  have hfin : ∀ (W : World), (∃ p : BW W1, W = p.v) → Below w.heap.size w W := fun W hp => by
    obtain ⟨p, rfl⟩ := hp
    exact HB.out.1.trans (p.h.mono HB.out.1.size)
  have HF := Lib.hid hfin
  clear hx hs hE hB1 hb1 hx1 hE1 hC hfin hpc hqd hrr
  obtain ⟨h1, h2, h3, h4, h5, h6, hm⟩ := hway
  have HM := Lib.hid hm
  have e1 : ¬ x.id < 1 := by omega
  rw [h2] at hC0
  rw [h3] at hC1
  rw [h4] at hM
  rw [← h5] at hP
  have e7 : ((x.fates.length : Int) == (x.mail.rcpts.length : Int)) = false := by simp; omega
  have e8 : decide ((x.fates.length : Int) = (x.mail.rcpts.length : Int)) = false := by simp; omega
  have e9 : decide (x.fates.length = x.mail.rcpts.length) = false := by simp; omega
  clear h1 h2 h3 h4 h5 h6
  clear hW
  generalize hpl : x.plain = pl at *
  have HPL := Lib.hid hpl
  clear hpl
  have qx0 := BW.cell x0
  have qx1 := BW.cell x1
  have qx2 := BW.cell x2
  have qx3 := BW.cell x3
  have qx4 := BW.cell x4
  have qx5 := BW.cell x5
  have qx6 := BW.cell x6
  have qx7 := BW.cell x7
  have qx8 := BW.cell x8
  clear hm
  go_enter Tryz.func22, Tryz.ntmps22
  go_upto_region 1 with (fail)
  rw [← hW1]
  clear hW1
  refine wp_region_quiet_below (by kernel_rfl) (by kernel_rfl) ?_
  repeat (go_big_quiet_step ((first | exact hC0 _ | exact hC1 _ | exact hM _ | exact hP _)))
  refine wpQuiet_nil ?_
  intro w5 hw'
  have H5 := Lib.hid (HF.out w5 hw')
  clear hw' qx0 qx1 qx2 qx3 qx4 qx5 qx6 qx7 qx8 hC0 hC1 hM hP
  go_wp2
  refine bodyPost_ret (v := .bool false) (by simp [results, Tryz.results22, go_sem]) rfl ⟨by rw [HM.out], H5.out⟩
set_option maxRecDepth 100000 in
set_option maxHeartbeats 16000000 in
theorem may_way6 (x : EntP) (sv fv jv : Value) (w : World) (hx : EntAt w x sv fv jv) (hs : ShortE x) (hE : Env w) (hway : 1 ≤ x.id ∧ clockB x.id = true ∧ clockB x.at_ = true ∧ mailB x.mail 4 4096 = 0 ∧ x.plain = plainM x.mail ∧ x.fates.length = x.mail.rcpts.length ∧ x.fates.any wrongB = true ∧ mayN x = false) :
    Calls Tryz.prog 22 #[entV x sv fv jv] w fun e w' => e = .returned (.bool (mayN x)) ∧ Below w.heap.size w w' := by
  obtain ⟨p, c, rfl, hpc⟩ := hx.rc.sh
  obtain ⟨q, d, rfl, hqd⟩ := hx.fa.sh
  obtain ⟨r, rr, rfl, hrr⟩ := hx.jo.sh
  obtain ⟨W1, hW1⟩ : ∃ W1, W1 = (w.alloc (.cells (entC x (.slice p x.mail.rcpts.length c) (.slice q x.fates.length d) (.slice r x.jobs.length rr)).toArray 28)) := ⟨_, rfl⟩
  have hB1 : Below w.heap.size w W1 := by rw [hW1]; exact (Below.refl _ w).alloc (Nat.le_refl _) _
  have hb1 : W1.heap[w.heap.size]? = some (.cells (entC x (.slice p x.mail.rcpts.length c) (.slice q x.fates.length d) (.slice r x.jobs.length rr)).toArray 28 (0, 0)) := by rw [hW1]; exact ha_eq rfl
  have hx1 := hx.below hB1
  have hE1 := hE.keep hB1
  have hC := fun n => BW.calls (w := W1) (v := .bool (clockB n)) (fun W _ => clock_any n W)
  have hM := BW.calls (w := W1) (fun W hW => mail_any x.mail (.slice p x.mail.rcpts.length c) 4 4096 W (hx1.rc.below hW) hs.mail (hE1.keep hW))
  have hP := BW.calls (w := W1) (fun W hW => plainE_any x.mail (.slice p x.mail.rcpts.length c) W hs.mail.text (hE1.keep hW).glob)
  have hW := BW.calls (w := W1) (fun W hW => hasFate_any 56 enterWrong #[] wrongB x.fates (.slice q x.fates.length d) W (hx1.fa.below hW) hs.fates (fun f hf W' _ => wrong_any f W' (by have := hs.texts f hf; unfold maxLen; omega)))
  unfold mailV mailC at hM hP
  unfold entV
  unfold entC at hW1 hb1 ⊢
  obtain ⟨x0, x1, x2, x3, x4, x5, x6, x7, x8, x9⟩ := eboxAll hb1
  have hC0 := hC x.id
  have hC1 := hC x.at_
  have HB := Lib.hid (And.intro hB1 (And.intro hb1 (And.intro hx1 (And.intro hE1 hs))))
  have hfin : ∀ (W : World), (∃ p : BW W1, W = p.v) → Below w.heap.size w W := fun W hp => by
    obtain ⟨p, rfl⟩ := hp
    exact HB.out.1.trans (p.h.mono HB.out.1.size)
  have HF := Lib.hid hfin
  clear hx hs hE hB1 hb1 hx1 hE1 hC hfin hpc hqd hrr
  obtain ⟨h1, h2, h3, h4, h5, h6, h7, hm⟩ := hway
  have HM := Lib.hid hm
  have e1 : ¬ x.id < 1 := by omega
  rw [h2] at hC0
  rw [h3] at hC1
  rw [h4] at hM
  rw [← h5] at hP
  have e7 : ((x.fates.length : Int) == (x.mail.rcpts.length : Int)) = true := by rw [h6]; simp
  have e8 : decide ((x.fates.length : Int) = (x.mail.rcpts.length : Int)) = true := by rw [h6]; simp
  have e9 : decide (x.fates.length = x.mail.rcpts.length) = true := by rw [h6]; simp
  rw [h7] at hW
  clear h1 h2 h3 h4 h5 h6 h7
  generalize hpl : x.plain = pl at *
  have HPL := Lib.hid hpl
  clear hpl
  have qx0 := BW.cell x0
  have qx1 := BW.cell x1
  have qx2 := BW.cell x2
  have qx3 := BW.cell x3
  have qx4 := BW.cell x4
  have qx5 := BW.cell x5
  have qx6 := BW.cell x6
  have qx7 := BW.cell x7
  have qx8 := BW.cell x8
  clear hm
  go_enter Tryz.func22, Tryz.ntmps22
  go_upto_region 1 with (fail)
  rw [← hW1]
  clear hW1
  refine wp_region_quiet_below (by kernel_rfl) (by kernel_rfl) ?_
  repeat (go_big_quiet_step ((first | exact hC0 _ | exact hC1 _ | exact hM _ | exact hP _ | exact hW _)))
  refine wpQuiet_nil ?_
  intro w5 hw'
  have H5 := Lib.hid (HF.out w5 hw')
  clear hw' qx0 qx1 qx2 qx3 qx4 qx5 qx6 qx7 qx8 hC0 hC1 hM hP hW
  go_wp2
  refine bodyPost_ret (v := .bool false) (by simp [results, Tryz.results22, go_sem]) rfl ⟨by rw [HM.out], H5.out⟩
set_option maxRecDepth 100000 in
set_option maxHeartbeats 16000000 in
theorem may_way7 (x : EntP) (sv fv jv : Value) (w : World) (hx : EntAt w x sv fv jv) (hs : ShortE x) (hE : Env w) (hway : 1 ≤ x.id ∧ clockB x.id = true ∧ clockB x.at_ = true ∧ mailB x.mail 4 4096 = 0 ∧ x.plain = plainM x.mail ∧ x.fates.length = x.mail.rcpts.length ∧ x.fates.any wrongB = false ∧ mayN x = jobsOk x.jobs (domsM x.mail.rcpts)) :
    Calls Tryz.prog 22 #[entV x sv fv jv] w fun e w' => e = .returned (.bool (mayN x)) ∧ Below w.heap.size w w' := by
  obtain ⟨p, c, rfl, hpc⟩ := hx.rc.sh
  obtain ⟨q, d, rfl, hqd⟩ := hx.fa.sh
  obtain ⟨r, rr, rfl, hrr⟩ := hx.jo.sh
  obtain ⟨W1, hW1⟩ : ∃ W1, W1 = (w.alloc (.cells (entC x (.slice p x.mail.rcpts.length c) (.slice q x.fates.length d) (.slice r x.jobs.length rr)).toArray 28)) := ⟨_, rfl⟩
  have hB1 : Below w.heap.size w W1 := by rw [hW1]; exact (Below.refl _ w).alloc (Nat.le_refl _) _
  have hb1 : W1.heap[w.heap.size]? = some (.cells (entC x (.slice p x.mail.rcpts.length c) (.slice q x.fates.length d) (.slice r x.jobs.length rr)).toArray 28 (0, 0)) := by rw [hW1]; exact ha_eq rfl
  have hx1 := hx.below hB1
  have hE1 := hE.keep hB1
  have hC := fun n => BW.calls (w := W1) (v := .bool (clockB n)) (fun W _ => clock_any n W)
  have hM := BW.calls (w := W1) (fun W hW => mail_any x.mail (.slice p x.mail.rcpts.length c) 4 4096 W (hx1.rc.below hW) hs.mail (hE1.keep hW))
  have hP := BW.calls (w := W1) (fun W hW => plainE_any x.mail (.slice p x.mail.rcpts.length c) W hs.mail.text (hE1.keep hW).glob)
  have hW := BW.calls (w := W1) (fun W hW => hasFate_any 56 enterWrong #[] wrongB x.fates (.slice q x.fates.length d) W (hx1.fa.below hW) hs.fates (fun f hf W' _ => wrong_any f W' (by have := hs.texts f hf; unfold maxLen; omega)))
  unfold mailV mailC at hM hP
  unfold entV
  unfold entC at hW1 hb1 ⊢
  obtain ⟨x0, x1, x2, x3, x4, x5, x6, x7, x8, x9⟩ := eboxAll hb1
  have hC0 := hC x.id
  have hC1 := hC x.at_
  have HB := Lib.hid (And.intro hB1 (And.intro hb1 (And.intro hx1 (And.intro hE1 hs))))
  have hfin : ∀ (W : World), (∃ p : BW W1, W = p.v) → Below w.heap.size w W := fun W hp => by
    obtain ⟨p, rfl⟩ := hp
    exact HB.out.1.trans (p.h.mono HB.out.1.size)
  have HF := Lib.hid hfin
  clear hx hs hE hB1 hb1 hx1 hE1 hC hfin hpc hqd hrr
  obtain ⟨h1, h2, h3, h4, h5, h6, h7, hm⟩ := hway
  have HM := Lib.hid hm
  have e1 : ¬ x.id < 1 := by omega
  rw [h2] at hC0
  rw [h3] at hC1
  rw [h4] at hM
  rw [← h5] at hP
  have e7 : ((x.fates.length : Int) == (x.mail.rcpts.length : Int)) = true := by rw [h6]; simp
  have e8 : decide ((x.fates.length : Int) = (x.mail.rcpts.length : Int)) = true := by rw [h6]; simp
  have e9 : decide (x.fates.length = x.mail.rcpts.length) = true := by rw [h6]; simp
  rw [h7] at hW
  clear h1 h2 h3 h4 h5 h6 h7
  generalize hpl : x.plain = pl at *
  have HPL := Lib.hid hpl
  clear hpl
  have qx0 := BW.cell x0
  have qx1 := BW.cell x1
  have qx2 := BW.cell x2
  have qx3 := BW.cell x3
  have qx4 := BW.cell x4
  have qx5 := BW.cell x5
  have qx6 := BW.cell x6
  have qx7 := BW.cell x7
  have qx8 := BW.cell x8
  clear hm
  go_enter Tryz.func22, Tryz.ntmps22
  go_upto_region 1 with (fail)
  rw [← hW1]
  clear hW1
  refine wp_region_quiet_below (by kernel_rfl) (by kernel_rfl) ?_
  repeat (go_big_quiet_step ((first | exact hC0 _ | exact hC1 _ | exact hM _ | exact hP _ | exact hW _)))
  refine wpQuiet_nil ?_
  intro w5 hw'
  obtain ⟨p5, rfl⟩ := hw'
  have hb5 := p5.h
  have hC5 := HB.out.2.2.1.below hb5
  have hD := fun W (hb : Below p5.v.heap.size p5.v W) => domains_any x.mail (.slice p x.mail.rcpts.length c) W (hC5.rc.below hb) HB.out.2.2.2.2.mail ((HB.out.2.2.2.1.keep hb5).keep hb)
  have hQ := fun ds dv W (hb : Below p5.v.heap.size p5.v W) (hd : RowK 1 stE W dv ds) => equalJobs_any x.jobs ds (.slice r x.jobs.length rr) dv W (hC5.jo.below hb) hd HB.out.2.2.2.2.jobs
  have y2 := BW.cell x2 p5
  have y3 := BW.cell x3 p5
  have y4 := BW.cell x4 p5
  have y5 := BW.cell x5 p5
  have y6 := BW.cell x6 p5
  have y9 := BW.cell x9 p5
  have H5 := Lib.hid (HF.out p5.v ⟨p5, rfl⟩)
  generalize hwv : p5.v = w5 at *
  clear hwv hC5 hb5 qx0 qx1 qx2 qx3 qx4 qx5 qx6 qx7 qx8 hC0 hC1 hM hP hW x0 x1 x2 x3 x4 x5 x6 x7 x8 x9
  unfold mailV mailC at hD
  have hS0 : ∀ W, Below w5.heap.size w5 W → W.cell? ⟨w.heap.size, 2, none⟩ = some (.string ⟨x.mail.sender.toArray⟩) ∧ W.cell? ⟨w.heap.size, 3, none⟩ = some (.slice p x.mail.rcpts.length c) ∧ W.cell? ⟨w.heap.size, 4, none⟩ = some (.bool x.mail.req) ∧ W.cell? ⟨w.heap.size, 5, none⟩ = some (.string ⟨x.mail.envid.toArray⟩) ∧ W.cell? ⟨w.heap.size, 6, none⟩ = some (.string ⟨x.mail.text.toArray⟩) ∧ W.cell? ⟨w.heap.size, 9, none⟩ = some (.slice r x.jobs.length rr) := fun W hb => ⟨(hb.cell (p := ⟨_, _, none⟩) (cell_lt y2)).trans y2, (hb.cell (p := ⟨_, _, none⟩) (cell_lt y3)).trans y3, (hb.cell (p := ⟨_, _, none⟩) (cell_lt y4)).trans y4, (hb.cell (p := ⟨_, _, none⟩) (cell_lt y5)).trans y5, (hb.cell (p := ⟨_, _, none⟩) (cell_lt y6)).trans y6, (hb.cell (p := ⟨_, _, none⟩) (cell_lt y9)).trans y9⟩
  go_upto_region 3 with (fail)
  have hS1 := hS0 w5.drew (below_drew w5)
  go_region_held3 (fun W => W.cell? ⟨w.heap.size, 2, none⟩ = some (.string ⟨x.mail.sender.toArray⟩) ∧ W.cell? ⟨w.heap.size, 3, none⟩ = some (.slice p x.mail.rcpts.length c) ∧ W.cell? ⟨w.heap.size, 4, none⟩ = some (.bool x.mail.req) ∧ W.cell? ⟨w.heap.size, 5, none⟩ = some (.string ⟨x.mail.envid.toArray⟩) ∧ W.cell? ⟨w.heap.size, 6, none⟩ = some (.string ⟨x.mail.text.toArray⟩) ∧ W.cell? ⟨w.heap.size, 9, none⟩ = some (.slice r x.jobs.length rr))
    ((first | with_reducible exact hS1 | with_reducible exact hS2 | with_reducible exact hS3 | go_keep))
    ((first
      | (go_at_call 58; refine (hD _ (below_drew w5)).mono ?_; rintro e w6 ⟨⟨dv, rfl, ho6⟩, hb6⟩; have hb56 := (below_drew w5).trans (hb6.mono (below_drew w5).size); have hS2 := hS0 w6 hb56; obtain ⟨dp, dc, hdv⟩ := own_shape ho6; subst hdv)
      | (go_at_call 57; refine (hQ _ _ w6 hb56 (own_rowK1 ho6)).mono ?_; rintro e w7 ⟨rfl, hb7⟩; have hb57 := hb56.trans (hb7.mono hb56.size); have hS3 := hS0 w7 hb57)))
  have H7 := Lib.hid (H5.out.trans (hb57.mono H5.out.size))
  clear hS0 hS1 hS2 hS3 hb56 hb57 ho6 hb6 hb7 hD hQ y2 y3 y4 y5 y6 y9
  go_wp2
  refine bodyPost_ret (v := .bool (jobsOk x.jobs (domsM x.mail.rcpts))) (by simp [results, Tryz.results22, go_sem]) rfl ⟨by rw [HM.out], H7.out⟩
theorem may_any (x : EntP) (sv fv jv : Value) (w : World) (hx : EntAt w x sv fv jv) (hs : ShortE x) (hE : Env w) :
    Calls Tryz.prog 22 #[entV x sv fv jv] w fun e w' => e = .returned (.bool (mayN x)) ∧ Below w.heap.size w w' := by
  rcases may_ways x with h | h | h | h | h | h | h | h
  · exact may_way0 x sv fv jv w hx hs hE (by simpa only [and_assoc] using h)
  · exact may_way1 x sv fv jv w hx hs hE (by simpa only [and_assoc] using h)
  · exact may_way2 x sv fv jv w hx hs hE (by simpa only [and_assoc] using h)
  · exact may_way3 x sv fv jv w hx hs hE (by simpa only [and_assoc] using h)
  · exact may_way4 x sv fv jv w hx hs hE (by simpa only [and_assoc] using h)
  · exact may_way5 x sv fv jv w hx hs hE (by simpa only [and_assoc] using h)
  · exact may_way6 x sv fv jv w hx hs hE (by simpa only [and_assoc] using h)
  · exact may_way7 x sv fv jv w hx hs hE (by simpa only [and_assoc] using h)
end Go.Proofs.YtlpngibdplnieaaGreatDoor

/- entry.Encode: its walk. -/
import Derived.Test.YtlpngibdplnieaaGreatDoorMg
namespace Go.Proofs.YtlpngibdplnieaaGreatDoor
open Go Go.RowKit Go.Shelf Go.Sort
attribute [local go_sem] bneI

theorem wr_fresh (w : World) : WrAt w w.heap.size [] (w.alloc (.cells #[.pointer none, .slice none 0 0] WT)) :=
  ⟨(Below.refl _ _).alloc (Nat.le_refl _) _, Lib.fresh_isBuilder WT 5 w⟩
theorem wr_alloc {w0 w : World} {b : Nat} {l : Bytes} (h : WrAt w0 b l w) (o : Obj) : WrAt w0 b l (w.alloc o) := h.keep ((Below.refl _ _).alloc (Nat.le_refl _) _)
theorem fbox2 {W : World} {b : Nat} {v0 v1 : Value} {t : TypeId} (h : W.heap[b]? = some (.cells #[v0, v1] t (0, 0))) : W.cell? ⟨b, 0, none⟩ = some v0 ∧ W.cell? ⟨b, 1, none⟩ = some v1 := by
  refine ⟨?_, ?_⟩ <;> simp [World.cell?, h]
set_option maxRecDepth 100000 in
set_option maxHeartbeats 8000000 in
theorem encode_yes (x : EntP) (sv fv jv : Value) (w : World) (hx : EntAt w x sv fv jv) (hs : ShortE x) (hE : Env w) (hy : mayN x = true) :
    Calls Tryz.prog 25 #[entV x sv fv jv] w fun e w' => e = .returned (.tuple #[.string ⟨(encB x).toArray⟩, .int .i64 0]) ∧ Below w.heap.size w w' := by
  have hm := (mayN_iff x).1 hy
  obtain ⟨p, c, rfl, -⟩ := hx.rc.sh
  obtain ⟨q, d, rfl, -⟩ := hx.fa.sh
  obtain ⟨r, rr, rfl, -⟩ := hx.jo.sh
  obtain ⟨W1, hW1⟩ : ∃ W1, W1 = (w.alloc (.cells (entC x (.slice p x.mail.rcpts.length c) (.slice q x.fates.length d) (.slice r x.jobs.length rr)).toArray 28)) := ⟨_, rfl⟩
  have hB1 : Below w.heap.size w W1 := by rw [hW1]; exact (Below.refl _ w).alloc (Nat.le_refl _) _
  have hb1 : W1.heap[w.heap.size]? = some (.cells (entC x (.slice p x.mail.rcpts.length c) (.slice q x.fates.length d) (.slice r x.jobs.length rr)).toArray 28 (0, 0)) := by rw [hW1]; exact ha_eq rfl
  have hM := may_any x _ _ _ W1 (hx.below hB1) hs (hE.keep hB1)
  rw [hy] at hM
  have HA := Lib.hid (And.intro hB1 (And.intro hb1 (And.intro (hx.below hB1) (And.intro hs (And.intro (hE.keep hB1) hm)))))
  have hlen := enc_len hm hs
  unfold entV at hM ⊢
  unfold entC at hW1 hb1 hM ⊢
  obtain ⟨x0, x1, x2, x3, x4, x5, x6, x7, x8, x9⟩ := eboxAll hb1
  clear hx hs hE hB1 hb1 hm hy
  go_enter Tryz.func25, Tryz.ntmps25
  go_upto_region 1 with (fail)
  rw [← hW1]
  clear hW1
  go_wp2_with fail
  refine hM.mono ?_
  rintro e w0 ⟨rfl, hB0⟩
  clear hM
  have keep0 : ∀ W, Below w0.heap.size w0 W → ∀ a v, W1.cell? a = some v → W.cell? a = some v := fun W hW a v h => ((hB0.trans (hW.mono hB0.size)).cell (p := a) (cell_lt h)).trans h
  have hrow0 := HA.out.2.2.1.below hB0
  have hE0 := HA.out.2.2.2.2.1.keep hB0
  have H0 := Lib.hid (And.intro hB0 (And.intro keep0 (And.intro hrow0 (And.intro hE0 (And.intro x0 (And.intro x1 (And.intro x2 (And.intro x3 (And.intro x4 (And.intro x5 (And.intro x6 (And.intro x8 x9))))))))))))
  have HL := Lib.hid hlen
  clear hB0 keep0 hrow0 hE0 x0 x1 x2 x3 x4 x5 x6 x7 x8 x9 hlen
  have hids := clock_le HA.out.2.2.2.2.2.idc
  have hats := clock_le HA.out.2.2.2.2.2.at_
  go_upto_region 4 with (fail)
  generalize hwa : World.alloc _ _ = wa
  have ha : WrAt w0 w0.heap.size [] wa := by rw [← hwa]; exact wr_fresh w0
  clear hwa
  have y : wa.cell? ⟨w.heap.size, 0, none⟩ = some _ := H0.out.2.1 wa ha.below _ _ H0.out.2.2.2.2.1
  have hcl := wnum_any w0 w0.heap.size [] x.id wa ha H0.out.2.2.2.1 hids.1 (by omega) (by have h1 := HL.out; have h2 := encC_le x 0; unfold encC encA at h2; simp only [List.length_append, List.length_nil] at h2 ⊢; omega)
  go_wp2_with fail
  refine hcl.mono ?_
  rintro e v0 ⟨rfl, hv0, -⟩
  clear hcl y ha
  replace hv0 : WrAt w0 w0.heap.size (numB x.id) v0 := hv0
  have y : v0.cell? ⟨w.heap.size, 1, none⟩ = some _ := H0.out.2.1 v0 hv0.below _ _ H0.out.2.2.2.2.2.1
  have hcl := wnum_any w0 w0.heap.size (numB x.id) x.at_ v0 hv0 H0.out.2.2.2.1 hats.1 (by omega) (by have h1 := HL.out; have h2 := encC_le x 0; unfold encC encA at h2; simp only [List.length_append] at h2 ⊢; omega)
  go_wp2_with fail
  refine hcl.mono ?_
  rintro e v1 ⟨rfl, hv1, -⟩
  clear hcl y hv0
  have y : v1.cell? ⟨w.heap.size, 2, none⟩ = some _ := H0.out.2.1 v1 hv1.below _ _ H0.out.2.2.2.2.2.2.1
  have hcl := wtext_any w0 w0.heap.size (numB x.id ++ numB x.at_) x.mail.sender v1 hv1 H0.out.2.2.2.1 HA.out.2.2.2.1.mail.sender (by have h1 := HL.out; have h2 := encC_le x 0; unfold encC encA at h2; simp only [List.length_append] at h2 ⊢; omega)
  go_wp2_with fail
  refine hcl.mono ?_
  rintro e v2 ⟨rfl, hv2, -⟩
  clear hcl y hv1
  have y : v2.cell? ⟨w.heap.size, 4, none⟩ = some _ := H0.out.2.1 v2 hv2.below _ _ H0.out.2.2.2.2.2.2.2.2.1
  have hcl := wyes_any w0 w0.heap.size (numB x.id ++ numB x.at_ ++ txtB x.mail.sender) x.mail.req v2 hv2 H0.out.2.2.2.1 (by have h1 := HL.out; have h2 := encC_le x 0; unfold encC encA at h2; simp only [List.length_append] at h2 ⊢; omega)
  go_wp2_with fail
  refine hcl.mono ?_
  rintro e v3 ⟨rfl, hv3, -⟩
  clear hcl y hv2
  have y : v3.cell? ⟨w.heap.size, 5, none⟩ = some _ := H0.out.2.1 v3 hv3.below _ _ H0.out.2.2.2.2.2.2.2.2.2.1
  have hcl := wtext_any w0 w0.heap.size (numB x.id ++ numB x.at_ ++ txtB x.mail.sender ++ yesB x.mail.req) x.mail.envid v3 hv3 H0.out.2.2.2.1 HA.out.2.2.2.1.mail.envid (by have h1 := HL.out; have h2 := encC_le x 0; unfold encC encA at h2; simp only [List.length_append] at h2 ⊢; omega)
  go_wp2_with fail
  refine hcl.mono ?_
  rintro e v4 ⟨rfl, hv4, -⟩
  clear hcl y hv3
  have y : v4.cell? ⟨w.heap.size, 6, none⟩ = some _ := H0.out.2.1 v4 hv4.below _ _ H0.out.2.2.2.2.2.2.2.2.2.2.1
  have hcl := wtext_any w0 w0.heap.size (numB x.id ++ numB x.at_ ++ txtB x.mail.sender ++ yesB x.mail.req ++ txtB x.mail.envid) x.mail.text v4 hv4 H0.out.2.2.2.1 HA.out.2.2.2.1.mail.text (by have h1 := HL.out; have h2 := encC_le x 0; unfold encC encA at h2; simp only [List.length_append] at h2 ⊢; omega)
  go_wp2_with fail
  refine hcl.mono ?_
  rintro e v5 ⟨rfl, hv5, -⟩
  clear hcl y hv4
  have y : v5.cell? ⟨w.heap.size, 8, none⟩ = some _ := H0.out.2.1 v5 hv5.below _ _ H0.out.2.2.2.2.2.2.2.2.2.2.2.1
  have hcl := wnum_any w0 w0.heap.size (numB x.id ++ numB x.at_ ++ txtB x.mail.sender ++ yesB x.mail.req ++ txtB x.mail.envid ++ txtB x.mail.text) (x.fates.length : Int) v5 hv5 H0.out.2.2.2.1 (by omega) (by have := HA.out.2.2.2.1.fates; omega) (by have h1 := HL.out; have h2 := encC_le x 0; unfold encC encA at h2; simp only [List.length_append] at h2 ⊢; omega)
  go_wp2_with fail
  refine hcl.mono ?_
  rintro e v6 ⟨rfl, hv6, -⟩
  clear hcl y hv5
  have hA : WrAt w0 w0.heap.size (encC x 0) v6 := by
    have : encC x 0 = encA x := by unfold encC; simp
    rw [this]
    exact hv6
  clear hv6
  have y8 : v6.cell? ⟨w.heap.size, 8, none⟩ = some _ := H0.out.2.1 v6 hA.below _ _ H0.out.2.2.2.2.2.2.2.2.2.2.2.1
  have hfl : x.fates.length ≤ 4 := by have := HA.out.2.2.2.2.2.len; have := HA.out.2.2.2.2.2.rc; omega
  have H6 := Lib.hid hA
  clear hA
  go_wp2_with fail
  clear y8
  go_loopw [41] (fun s41 wr => ∃ i : Nat, s41 = .int .i64 (i : Int) ∧ i ≤ x.fates.length ∧ WrAt w0 w0.heap.size (encC x i) wr) (fun s41 _ => x.fates.length - natI s41)
  case atStart => exact ⟨0, rfl, Nat.zero_le _, H6.out⟩
  case round =>
    obtain ⟨i, rfl, hi, hA⟩ := hrel
    by_cases hlast : i < x.fates.length
    · have hli : (i : Int) < (x.fates.length : Int) := by omega
      have hri : i < x.mail.rcpts.length := by have := HA.out.2.2.2.2.2.len; omega
      have hli2 : (i : Int) < (x.mail.rcpts.length : Int) := by omega
      have hrow := H0.out.2.2.1.below hA.below
      obtain ⟨b1, o1, rfl, hc1⟩ := hrow.rc.at i hri
      obtain ⟨b2, o2, rfl, hc2⟩ := hrow.fa.at i hlast
      have z0 : wr.cell? ⟨b2, o2 + i * 2, none⟩ = some (.int .u8 (x.fates[i].1 : Int)) := hc2 i hlast 0 _ rfl
      have z1 : wr.cell? ⟨b2, o2 + i * 2 + 1, none⟩ = some (.string ⟨x.fates[i].2.toArray⟩) := hc2 i hlast 1 _ rfl
      have hzl : i < (x.mail.rcpts.zip x.fates).length := by rw [List.length_zip]; omega
      have hsucc := encC_succ x i hzl
      rw [List.getElem_zip] at hsucc
      have hle := encC_le x (i + 1)
      rw [hsucc] at hle
      have hto := HA.out.2.2.2.1.mail.tos _ (List.getElem_mem hri)
      have hft := HA.out.2.2.2.1.texts _ (List.getElem_mem hlast)
      have hfs := wrong_len (HA.out.2.2.2.2.2.fates _ (List.getElem_mem hlast))
      have hrc0 := H0.out.2.2.1.rc
      have hrcell : ∀ W, Below w0.heap.size w0 W → W.cell? ⟨b1, o1 + i * 2, none⟩ = some (.string ⟨x.mail.rcpts[i].1.toArray⟩) ∧ W.cell? ⟨b1, o1 + i * 2 + 1, none⟩ = some (.bool x.mail.rcpts[i].2) := fun W hW => by
        obtain ⟨b3, o3, e3, hc3⟩ := (hrc0.below hW).at i hri
        injection e3 with e3
        injection e3 with e3 e4
        subst e3 e4
        exact ⟨hc3 i hri 0 _ rfl, hc3 i hri 1 _ rfl⟩
      have HR := Lib.hid (And.intro hA (And.intro hsucc (And.intro hle (And.intro hto (And.intro hft (And.intro hfs hrcell))))))
      clear hc1 hc2 hA hsucc hle hto hft hfs hrow hrc0 hrcell
      obtain ⟨f, hf⟩ : ∃ f, f = x.fates[i] := ⟨_, rfl⟩
      obtain ⟨r0, hr0⟩ : ∃ r0, r0 = x.mail.rcpts[i] := ⟨_, rfl⟩
      rw [← hf] at z0 z1 HR
      rw [← hr0] at HR
      clear hf hr0
      obtain ⟨st, tx⟩ := f
      obtain ⟨tw, nv⟩ := r0
      dsimp only at z0 z1 HR
      have hpl : (encC x i).length + (rfB ((tw, nv), (st, tx))).length ≤ 90000000000 := by have h1 := HR.out.2.2.1; have h2 := HL.out; rw [List.length_append] at h1; omega
      have hrf : rfB ((tw, nv), (st, tx)) = txtB tw ++ (yesB nv ++ (numB st ++ txtB tx)) := rfl
      have HP := Lib.hid (And.intro hpl hrf)
      clear hpl hrf
      go_upto_region 14 with (fail)
      generalize hwb : World.alloc _ _ = wb
      have hbb : wb.heap[wr.heap.size]? = some (.cells #[.int .u8 (st : Int), .string ⟨tx.toArray⟩] 61 (0, 0)) := by rw [← hwb]; exact ha_eq rfl
      have hA : WrAt w0 w0.heap.size (encC x i) wb := by rw [← hwb]; exact wr_alloc HR.out.1 _
      have hne : wr.heap.size ≠ w0.heap.size := by have := (builder_lt HR.out.1.bld).2; omega
      clear hwb z0 z1
      -- To
      obtain ⟨q0, q1⟩ := HR.out.2.2.2.2.2.2 wb hA.below
      have y3 : wb.cell? ⟨w.heap.size, 3, none⟩ = some _ := H0.out.2.1 wb hA.below _ _ H0.out.2.2.2.2.2.2.2.1
      have hcl := wtext_any w0 w0.heap.size (encC x i) tw wb hA H0.out.2.2.2.1 HR.out.2.2.2.1 (by have := HP.out.1; omega)
      go_wp2_with fail
      refine hcl.mono ?_
      rintro e u1 ⟨rfl, hu1, hf1⟩
      replace hbb := hf1.2 _ _ _ _ hne hbb (by decide)
      clear hcl q0 q1 y3 hA hf1
      -- Never
      obtain ⟨q0, q1⟩ := HR.out.2.2.2.2.2.2 u1 hu1.below
      have y3 : u1.cell? ⟨w.heap.size, 3, none⟩ = some _ := H0.out.2.1 u1 hu1.below _ _ H0.out.2.2.2.2.2.2.2.1
      have hcl := wyes_any w0 w0.heap.size (encC x i ++ txtB tw) nv u1 hu1 H0.out.2.2.2.1 (by have h1 := HP.out.1; rw [HP.out.2] at h1; simp only [List.length_append] at h1 ⊢; omega)
      go_wp2_with fail
      refine hcl.mono ?_
      rintro e u2 ⟨rfl, hu2, hf2⟩
      replace hbb := hf2.2 _ _ _ _ hne hbb (by decide)
      clear hcl q0 q1 y3 hu1 hf2
      -- State
      obtain ⟨k0, k1⟩ := fbox2 hbb
      have hst : (0 : Int) ≤ (st : Int) ∧ (st : Int) ≤ 2 := by have := HR.out.2.2.2.2.2.1.1; omega
      have hcl := wnum_any w0 w0.heap.size (encC x i ++ txtB tw ++ yesB nv) (st : Int) u2 hu2 H0.out.2.2.2.1 hst.1 (by omega) (by have h1 := HP.out.1; rw [HP.out.2] at h1; simp only [List.length_append] at h1 ⊢; omega)
      have hst1 := hst.1
      have hst2 := hst.2
      clear hst
      go_wp2_with fail
      refine hcl.mono ?_
      rintro e u3 ⟨rfl, hu3, hf3⟩
      replace hbb := hf3.2 _ _ _ _ hne hbb (by decide)
      clear hcl k0 k1 hu2 hf3
      -- Text
      obtain ⟨k0, k1⟩ := fbox2 hbb
      have hcl := wtext_any w0 w0.heap.size (encC x i ++ txtB tw ++ yesB nv ++ numB st) tx u3 hu3 H0.out.2.2.2.1 HR.out.2.2.2.2.1 (by have h1 := HP.out.1; rw [HP.out.2] at h1; simp only [List.length_append] at h1 ⊢; omega)
      go_wp2_with fail
      refine hcl.mono ?_
      rintro e u4 ⟨rfl, hu4, -⟩
      clear hcl k0 k1 hu3 hbb
      have hnx : WrAt w0 w0.heap.size (encC x (i + 1)) u4 := by
        rw [HR.out.2.1, HP.out.2]
        simp only [List.append_assoc] at hu4 ⊢
        exact hu4
      have HN := Lib.hid hnx
      clear hnx hu4
      go_wp2
      go_roundw
      case rel => exact ⟨i + 1, by simp, by omega, HN.out⟩
      case measure => simp [natI]; omega
    · have hli : ¬ (i : Int) < (x.fates.length : Int) := by omega
      have hfull : encC x i = encA x ++ (x.mail.rcpts.zip x.fates).flatMap rfB := by
        unfold encC
        rw [List.take_of_length_le (by have := HA.out.2.2.2.2.2.len; rw [List.length_zip]; omega)]
      rw [hfull] at hA
      clear hfull
      have hjm := jobsOk_mem HA.out.2.2.2.2.2.jobs
      have hjl : x.jobs.length ≤ 4 := by have h1 := hjm.1; have h2 := domsM_len x.mail.rcpts; have h3 := HA.out.2.2.2.2.2.rc; omega
      have y9 : wr.cell? ⟨w.heap.size, 9, none⟩ = some _ := H0.out.2.1 wr hA.below _ _ H0.out.2.2.2.2.2.2.2.2.2.2.2.2
      have HJ := Lib.hid hjm.2
      clear hjm
      have hcl := wnum_any w0 w0.heap.size (encA x ++ (x.mail.rcpts.zip x.fates).flatMap rfB) (x.jobs.length : Int) wr hA H0.out.2.2.2.1 (by omega) (by omega) (by have h1 := HL.out; rw [encB_eq] at h1; unfold encJ at h1; simp only [List.length_append] at h1 ⊢; omega)
      go_wp2_with fail
      refine hcl.mono ?_
      rintro e j0 ⟨rfl, hj0, -⟩
      clear hcl y9 hA
      have hK : WrAt w0 w0.heap.size (encK x 0) j0 := by
        have : encK x 0 = encJ x := by unfold encK; simp
        rw [this]
        exact hj0
      clear hj0
      have y9 : j0.cell? ⟨w.heap.size, 9, none⟩ = some _ := H0.out.2.1 j0 hK.below _ _ H0.out.2.2.2.2.2.2.2.2.2.2.2.2
      have H7 := Lib.hid hK
      clear hK
      go_wp2_with fail
      clear y9
      generalize hww : wr = wr0 at *
      clear hww
      go_loopw [77] (fun s77 wr => ∃ k : Nat, s77 = .int .i64 (k : Int) ∧ k ≤ x.jobs.length ∧ WrAt w0 w0.heap.size (encK x k) wr) (fun s77 _ => x.jobs.length - natI s77)
      case atStart => exact ⟨0, rfl, Nat.zero_le _, H7.out⟩
      case round =>
        obtain ⟨k, rfl, hk, hA⟩ := hrel
        by_cases hkl : k < x.jobs.length
        · have hli3 : (k : Int) < (x.jobs.length : Int) := by omega
          have hrow := H0.out.2.2.1.below hA.below
          obtain ⟨b1, o1, rfl, hc1⟩ := hrow.jo.at k hkl
          have z0 : wr.cell? ⟨b1, o1 + k * 3, none⟩ = some (.string ⟨x.jobs[k].dom.toArray⟩) := hc1 k hkl 0 _ rfl
          have z1 : wr.cell? ⟨b1, o1 + k * 3 + 1, none⟩ = some (.int .i64 x.jobs[k].tries) := hc1 k hkl 1 _ rfl
          have z2 : wr.cell? ⟨b1, o1 + k * 3 + 2, none⟩ = some (.int .i64 x.jobs[k].due) := hc1 k hkl 2 _ rfl
          have hsucc := encK_succ x k hkl
          have hle := encK_le x (k + 1)
          rw [hsucc] at hle
          have hdo := HA.out.2.2.2.1.doms _ (List.getElem_mem hkl)
          have hjj := HJ.out _ (List.getElem_mem hkl)
          have HR := Lib.hid (And.intro hA (And.intro hsucc (And.intro hle (And.intro hdo hjj))))
          clear hc1 hA hsucc hle hdo hjj hrow
          obtain ⟨f, hf⟩ : ∃ f, f = x.jobs[k] := ⟨_, rfl⟩
          rw [← hf] at z0 z1 z2 HR
          clear hf
          obtain ⟨dm, tr, du⟩ := f
          dsimp only at z0 z1 z2 HR
          have hpl : (encK x k).length + (joB ⟨dm, tr, du⟩).length ≤ 90000000000 := by have h1 := HR.out.2.2.1; have h2 := HL.out; rw [List.length_append] at h1; omega
          have hrf : joB ⟨dm, tr, du⟩ = txtB dm ++ (numB tr ++ numB du) := rfl
          have HP := Lib.hid (And.intro hpl hrf)
          clear hpl hrf
          have htr1 := HR.out.2.2.2.2.1
          have htr2 := HR.out.2.2.2.2.2.1
          have hdu := clock_le HR.out.2.2.2.2.2.2
          go_upto_region 23 with (fail)
          generalize hwb : World.alloc _ _ = wb
          have hbb : wb.heap[wr.heap.size]? = some (.cells #[.string ⟨dm.toArray⟩, .int .i64 tr, .int .i64 du] 71 (0, 0)) := by rw [← hwb]; exact ha_eq rfl
          have hA : WrAt w0 w0.heap.size (encK x k) wb := by rw [← hwb]; exact wr_alloc HR.out.1 _
          have hne : wr.heap.size ≠ w0.heap.size := by have := (builder_lt HR.out.1.bld).2; omega
          clear hwb z0 z1 z2
          obtain ⟨k0, k1, k2⟩ := jbox hbb
          have hcl := wtext_any w0 w0.heap.size (encK x k) dm wb hA H0.out.2.2.2.1 HR.out.2.2.2.1 (by have := HP.out.1; omega)
          go_wp2_with fail
          refine hcl.mono ?_
          rintro e u1 ⟨rfl, hu1, hf1⟩
          replace hbb := hf1.2 _ _ _ _ hne hbb (by decide)
          clear hcl k0 k1 k2 hA hf1
          obtain ⟨k0, k1, k2⟩ := jbox hbb
          have hcl := wnum_any w0 w0.heap.size (encK x k ++ txtB dm) tr u1 hu1 H0.out.2.2.2.1 htr1 (by omega) (by have h1 := HP.out.1; rw [HP.out.2] at h1; simp only [List.length_append] at h1 ⊢; omega)
          go_wp2_with fail
          refine hcl.mono ?_
          rintro e u2 ⟨rfl, hu2, hf2⟩
          replace hbb := hf2.2 _ _ _ _ hne hbb (by decide)
          clear hcl k0 k1 k2 hu1 hf2
          obtain ⟨k0, k1, k2⟩ := jbox hbb
          have hcl := wnum_any w0 w0.heap.size (encK x k ++ txtB dm ++ numB tr) du u2 hu2 H0.out.2.2.2.1 hdu.1 (by have := hdu.2; omega) (by have h1 := HP.out.1; rw [HP.out.2] at h1; simp only [List.length_append] at h1 ⊢; omega)
          go_wp2_with fail
          refine hcl.mono ?_
          rintro e u3 ⟨rfl, hu3, -⟩
          clear hcl k0 k1 k2 hu2 hbb
          have hnx : WrAt w0 w0.heap.size (encK x (k + 1)) u3 := by
            rw [HR.out.2.1, HP.out.2]
            simp only [List.append_assoc] at hu3 ⊢
            exact hu3
          have HN := Lib.hid hnx
          clear hnx hu3
          go_wp2
          go_roundw
          case rel => exact ⟨k + 1, by simp, by omega, HN.out⟩
          case measure => simp [natI]; omega
        · have hli3 : ¬ (k : Int) < (x.jobs.length : Int) := by omega
          have hfull : encK x k = encB x := by
            unfold encK
            rw [List.take_of_length_le (by omega), encB_eq]
          rw [hfull] at hA
          have hne : encB x ≠ [] := by
            unfold encB numB
            simp
          have hcl := bstr_any w0 w0.heap.size (encB x) wr hA hne
          have HB := Lib.hid (HA.out.1.trans (H0.out.1.mono HA.out.1.size))
          clear hfull hA hne
          obtain ⟨eb, heb⟩ : ∃ eb, eb = encB x := ⟨_, rfl⟩
          rw [← heb] at hcl
          have HEB := Lib.hid heb
          clear heb
          go_wp2_with fail
          refine hcl.mono ?_
          rintro e wz ⟨rfl, hbz⟩
          have HZ := Lib.hid (HB.out.trans (hbz.mono HB.out.size))
          clear hcl hbz
          go_wp2
          refine bodyPost_ret (v := .tuple #[.string ⟨eb.toArray⟩, .int .i64 0]) (by simp [results, Tryz.results25, go_sem]) rfl ⟨by rw [HEB.out], HZ.out⟩

set_option maxRecDepth 100000 in
theorem encode_no (x : EntP) (sv fv jv : Value) (w : World) (hx : EntAt w x sv fv jv) (hs : ShortE x) (hE : Env w) (hy : mayN x = false) :
    Calls Tryz.prog 25 #[entV x sv fv jv] w fun e w' => e = .returned (.tuple #[.string ⟨#[]⟩, .int .i64 4]) ∧ Below w.heap.size w w' := by
  obtain ⟨p, c, rfl, -⟩ := hx.rc.sh
  obtain ⟨q, d, rfl, -⟩ := hx.fa.sh
  obtain ⟨r, rr, rfl, -⟩ := hx.jo.sh
  obtain ⟨W1, hW1⟩ : ∃ W1, W1 = (w.alloc (.cells (entC x (.slice p x.mail.rcpts.length c) (.slice q x.fates.length d) (.slice r x.jobs.length rr)).toArray 28)) := ⟨_, rfl⟩
  have hB1 : Below w.heap.size w W1 := by rw [hW1]; exact (Below.refl _ w).alloc (Nat.le_refl _) _
  have hb1 : W1.heap[w.heap.size]? = some (.cells (entC x (.slice p x.mail.rcpts.length c) (.slice q x.fates.length d) (.slice r x.jobs.length rr)).toArray 28 (0, 0)) := by rw [hW1]; exact ha_eq rfl
  have hM := may_any x _ _ _ W1 (hx.below hB1) hs (hE.keep hB1)
  rw [hy] at hM
  have HA := Lib.hid hB1
  unfold entV at hM ⊢
  unfold entC at hW1 hb1 hM ⊢
  obtain ⟨x0, x1, x2, x3, x4, x5, x6, x7, x8, x9⟩ := eboxAll hb1
  clear hx hs hE hB1 hb1 hy
  go_enter Tryz.func25, Tryz.ntmps25
  go_upto_region 1 with (fail)
  rw [← hW1]
  clear hW1
  go_wp2_with fail
  refine hM.mono ?_
  rintro e w0 ⟨rfl, hB0⟩
  have HZ := Lib.hid (HA.out.trans (hB0.mono HA.out.size))
  clear hM hB0 x0 x1 x2 x3 x4 x5 x6 x7 x8 x9
  go_wp2
  refine bodyPost_ret (v := .tuple #[.string ⟨#[]⟩, .int .i64 4]) (by simp [results, Tryz.results25, go_sem]) rfl ⟨rfl, HZ.out⟩
theorem encode_any (x : EntP) (sv fv jv : Value) (w : World) (hx : EntAt w x sv fv jv) (hs : ShortE x) (hE : Env w) :
    Calls Tryz.prog 25 #[entV x sv fv jv] w fun e w' => EncPost x e ∧ Below w.heap.size w w' := by
  cases hy : mayN x with
  | true => exact (encode_yes x sv fv jv w hx hs hE hy).mono fun e w' h => ⟨.inl ⟨hy, h.1⟩, h.2⟩
  | false => exact (encode_no x sv fv jv w hx hs hE hy).mono fun e w' h => ⟨.inr ⟨hy, h.1⟩, h.2⟩
end Go.Proofs.YtlpngibdplnieaaGreatDoor

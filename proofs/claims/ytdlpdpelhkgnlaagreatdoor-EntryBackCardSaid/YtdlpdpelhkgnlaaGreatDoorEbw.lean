/- EntryBack: the walk. -/
import Derived.Test.YtdlpdpelhkgnlaaGreatDoorEsmw
import Derived.Test.YtdlpdpelhkgnlaaGreatDoorEmlw
namespace Go.Proofs.YtdlpdpelhkgnlaaGreatDoor
open Go Go.RowKit Go.Shelf Go.Sort
attribute [local go_sem] bneI

theorem rd_of_dec {s : Bytes} {x : EntP} (h : decB s = some x) : (rdEnt ⟨s, false⟩).1 = x := by
  unfold decB at h
  split at h
  · cases h
  · injection h
theorem own_grow_at {W W' : World} {base : Nat} {x : EntP} {sv fv jv : Value} (h : OwnE W base x sv fv jv) (hb : Below W.heap.size W W') : EntAt W' x sv fv jv := h.at.below hb
set_option maxRecDepth 100000 in
set_option maxHeartbeats 16000000 in
theorem backLaw_any (x : EntP) (sv fv jv : Value) (s : Bytes) (w : World) (hx : EntAt w x sv fv jv) (hst : ∀ f ∈ x.fates, f.1 < 256) (hE : Env8 w) :
    Calls Tryz.prog 6 #[entV x sv fv jv, .string ⟨s.toArray⟩] w fun e w' => e = .returned (.bool true) ∧ Below w.heap.size w w' := by
  obtain ⟨p, c, rfl, -⟩ := hx.rc.sh
  obtain ⟨q, d, rfl, -⟩ := hx.fa.sh
  obtain ⟨r, rr, rfl, -⟩ := hx.jo.sh
  obtain ⟨W1, hW1⟩ : ∃ W1, W1 = (w.alloc (.cells (entC x (.slice p x.mail.rcpts.length c) (.slice q x.fates.length d) (.slice r x.jobs.length rr)).toArray 32)) := ⟨_, rfl⟩
  have hB1 : Below w.heap.size w W1 := by rw [hW1]; exact (Below.refl _ w).alloc (Nat.le_refl _) _
  have hb1 : W1.heap[w.heap.size]? = some (.cells (entC x (.slice p x.mail.rcpts.length c) (.slice q x.fates.length d) (.slice r x.jobs.length rr)).toArray 32 (0, 0)) := by rw [hW1]; exact ha_eq rfl
  have hWk := works_any W1 (hE.keep hB1).env
  have HX := Lib.hid (And.intro (hx.below hB1) (And.intro hst (And.intro (hE.keep hB1) (And.intro hB1 hb1))))
  unfold entV
  unfold entC at hW1 ⊢
  clear hx hst hE hB1 hb1
  go_enter Tryz.func6, Tryz.ntmps6
  go_upto_region 1 with (fail)
  rw [← hW1]
  clear hW1
  go_wp2_with fail
  refine hWk.mono ?_
  rintro e w2 ⟨rfl, hb2⟩
  clear hWk
  have hbx := (hb2.block _ (lt_of_cells HX.out.2.2.2.2)).trans HX.out.2.2.2.2
  have H2 := Lib.hid (And.intro hb2 hbx)
  unfold entC at hbx
  obtain ⟨x0, x1, x2, x3, x4, x5, x6, x7, x8, x9⟩ := eboxAll hbx
  clear hb2 hbx
  go_wp2_with fail
  generalize hw3 : World.alloc _ _ = w3
  have hb3 : Below w2.heap.size w2 w3 := by rw [← hw3]; exact (Below.refl _ _).alloc (Nat.le_refl _) _
  have hx3 : w3.heap[w2.heap.size]? = some (.cells (entC x (.slice p x.mail.rcpts.length c) (.slice q x.fates.length d) (.slice r x.jobs.length rr)).toArray 32 (0, 0)) := by rw [← hw3]; exact ha_eq rfl
  have H3 := Lib.hid (H2.out.1.trans (hb3.mono H2.out.1.size))
  have hLg := large_any [x] _ w2.heap.size 0 1 w3 (fun _ => rfl) (ents_one (HX.out.1.below H3.out) hx3)
  clear hw3 hb3 hx3 x0 x1 x2 x3 x4 x5 x6 x7 x8 x9
  refine hLg.mono ?_
  rintro e w4 ⟨hp, hb4⟩
  obtain ⟨v, rfl, hsm⟩ := large_one hp
  have H4 := Lib.hid (H3.out.trans (hb4.mono H3.out.size))
  clear hLg hp hb4
  cases v with
  | true =>
    clear hsm
    have hW2 := works_any w4 (HX.out.2.2.1.keep H4.out).env
    go_wp2_with fail
    refine hW2.mono ?_
    rintro e w5 ⟨rfl, hb5⟩
    have H5 := Lib.hid (HX.out.2.2.2.1.trans ((H4.out.trans (hb5.mono H4.out.size)).mono HX.out.2.2.2.1.size))
    clear hW2 hb5
    go_wp2
    refine bodyPost_ret (v := .bool true) (by simp [results, Tryz.results6, go_sem]) rfl ⟨rfl, H5.out⟩
  | false =>
    by_cases hln : s.length ≤ 9000
    · have hli : ¬ (9000 : Int) < (s.length : Int) := by omega
      have hS := shortE_of (hsm rfl) HX.out.2.1
      have HS := Lib.hid hS
      have hEn := encode_any x _ _ _ w4 (HX.out.1.below H4.out) hS (HX.out.2.2.1.keep H4.out).env
      have hbx := (H4.out.block _ (lt_of_cells HX.out.2.2.2.2)).trans HX.out.2.2.2.2
      unfold entC at hbx
      obtain ⟨x0, x1, x2, x3, x4, x5, x6, x7, x8, x9⟩ := eboxAll hbx
      clear hbx
      unfold entV entC at hEn
      clear hsm hS
      go_wp2_with fail
      refine hEn.mono ?_
      rintro e w5 ⟨hp, hb5⟩
      have H5 := Lib.hid (H4.out.trans (hb5.mono H4.out.size))
      clear hEn hb5 x0 x1 x2 x3 x4 x5 x6 x7 x8 x9
      rcases hp with ⟨hy, rfl⟩ | ⟨hy, rfl⟩
      · have hMy := may_any x _ _ _ w5 (HX.out.1.below H5.out) HS.out (HX.out.2.2.1.keep H5.out).env
        rw [hy] at hMy
        have hbx := (H5.out.block _ (lt_of_cells HX.out.2.2.2.2)).trans HX.out.2.2.2.2
        unfold entC at hbx
        obtain ⟨x0, x1, x2, x3, x4, x5, x6, x7, x8, x9⟩ := eboxAll hbx
        clear hbx
        unfold entV entC at hMy
        have HYY := Lib.hid hy
        clear hy
        go_wp2_with fail
        refine hMy.mono ?_
        rintro e w6 ⟨rfl, hb6⟩
        have H6 := Lib.hid (H5.out.trans (hb6.mono H5.out.size))
        clear hMy hb6 x0 x1 x2 x3 x4 x5 x6 x7 x8 x9
        have hDe := decode_any (encB x) w6 (HX.out.2.2.1.keep H6.out) (by have := enc_len ((mayN_iff x).1 HYY.out) HS.out; omega) (by rw [rd_of_dec (dec_enc HYY.out)]; exact HS.out)
        generalize hbs : encB x = bs at hDe ⊢
        have HBS := Lib.hid hbs
        clear hbs
        go_wp2_with fail
        refine hDe.mono ?_
        rintro e w7 hp
        obtain ⟨hb7, ⟨hd, -⟩ | ⟨x', sv2, fv2, jv2, hd, rfl, hown⟩⟩ := hp
        · rw [← HBS.out, dec_enc HYY.out] at hd
          cases hd
        · have hxx : x = x' := by rw [← HBS.out, dec_enc HYY.out] at hd; injection hd
          subst hxx
          have H7 := Lib.hid (H6.out.trans (hb7.mono H6.out.size))
          clear hDe hb7 hd
          obtain ⟨p1, c1, rfl⟩ := own_shape hown.rc
          obtain ⟨p2, c2, rfl⟩ := own_shape hown.fa
          obtain ⟨p3, c3, rfl⟩ := own_shape hown.jo
          have HO := Lib.hid hown
          clear hown
          unfold entV entC
          go_upto_region 8 with (fail)
          have hyb : (w7.alloc (.cells (entC x (.slice p1 x.mail.rcpts.length c1) (.slice p2 x.fates.length c2) (.slice p3 x.jobs.length c3)).toArray 32)).heap[w7.heap.size]? = some (.cells (entC x (.slice p1 x.mail.rcpts.length c1) (.slice p2 x.fates.length c2) (.slice p3 x.jobs.length c3)).toArray 32 (0, 0)) := ha_eq rfl
          have hyB : Below w7.heap.size w7 (w7.alloc (.cells (entC x (.slice p1 x.mail.rcpts.length c1) (.slice p2 x.fates.length c2) (.slice p3 x.jobs.length c3)).toArray 32)) := (Below.refl _ _).alloc (Nat.le_refl _) _
          unfold entC at hyb hyB
          generalize hwy : World.alloc w7 _ = w8 at hyb hyB ⊢
          clear hwy
          have HY := Lib.hid (And.intro hyb (HO.out.at.below hyB))
          have H7' := Lib.hid (H7.out.trans (hyB.mono H7.out.size))
          clear hyb hyB
          have hSa := esame_any x _ _ _ _ _ _ w8 (HX.out.1.below H7'.out) HY.out.2 HS.out
          have hbx := (H7'.out.block _ (lt_of_cells HX.out.2.2.2.2)).trans HX.out.2.2.2.2
          unfold entC at hbx
          obtain ⟨x0, x1, x2, x3, x4, x5, x6, x7, x8, x9⟩ := eboxAll hbx
          clear hbx
          have hyb := HY.out.1
          obtain ⟨y0, y1, y2, y3, y4, y5, y6, y7, y8, y9⟩ := eboxAll hyb
          clear hyb
          unfold entV entC at hSa
          go_wp2_with fail
          refine hSa.mono ?_
          rintro e w9 ⟨rfl, hb9⟩
          have H9 := Lib.hid (H7'.out.trans (hb9.mono H7'.out.size))
          clear hSa hb9 x0 x1 x2 x3 x4 x5 x6 x7 x8 x9 y0 y1 y2 y3 y4 y5 y6 y7 y8 y9 HY HO
          have hDs := decode_any s w9 (HX.out.2.2.1.keep H9.out) (by omega) (short_dec s (by omega))
          go_wp2_with fail
          refine hDs.mono ?_
          rintro e wd hp
          obtain ⟨hbd, ⟨hd, rfl⟩ | ⟨y, sv2, fv2, jv2, hd, rfl, hown⟩⟩ := hp
          · have HD := Lib.hid (H9.out.trans (hbd.mono H9.out.size))
            clear hDs hbd hd
            unfold entV entC zeroN
            dsimp only
            go_wp2
            refine bodyPost_ret (v := .bool true) (by simp [results, Tryz.results6, go_sem]) rfl ⟨rfl, HX.out.2.2.2.1.trans ((HD.out.trans (((Below.refl _ wd).alloc (Nat.le_refl _) _).mono HD.out.size)).mono HX.out.2.2.2.1.size)⟩
          · have HD := Lib.hid (H9.out.trans (hbd.mono H9.out.size))
            have HY0 := Lib.hid (And.intro (dec_back hd) (show ShortE y from by have h := short_dec s (by omega); rw [rd_of_dec hd] at h; exact h))
            clear hDs hbd hd
            obtain ⟨p1, c1, rfl⟩ := own_shape hown.rc
            obtain ⟨p2, c2, rfl⟩ := own_shape hown.fa
            obtain ⟨p3, c3, rfl⟩ := own_shape hown.jo
            have HO := Lib.hid hown
            clear hown
            unfold entV entC
            go_upto_region 11 with (fail)
            have hyb : (wd.alloc (.cells (entC y (.slice p1 y.mail.rcpts.length c1) (.slice p2 y.fates.length c2) (.slice p3 y.jobs.length c3)).toArray 32)).heap[wd.heap.size]? = some (.cells (entC y (.slice p1 y.mail.rcpts.length c1) (.slice p2 y.fates.length c2) (.slice p3 y.jobs.length c3)).toArray 32 (0, 0)) := ha_eq rfl
            have hyB : Below wd.heap.size wd (wd.alloc (.cells (entC y (.slice p1 y.mail.rcpts.length c1) (.slice p2 y.fates.length c2) (.slice p3 y.jobs.length c3)).toArray 32)) := (Below.refl _ _).alloc (Nat.le_refl _) _
            unfold entC at hyb hyB
            generalize hwy : World.alloc wd _ = wy at hyb hyB ⊢
            clear hwy
            have HY := Lib.hid (And.intro hyb (HO.out.at.below hyB))
            have HD' := Lib.hid (HD.out.trans (hyB.mono HD.out.size))
            clear hyb hyB
            have hEn := encode_any y _ _ _ wy HY.out.2 HY0.out.2 (HX.out.2.2.1.keep HD'.out).env
            have hyb := HY.out.1
            obtain ⟨x0, x1, x2, x3, x4, x5, x6, x7, x8, x9⟩ := eboxAll hyb
            clear hyb
            unfold entV entC at hEn
            go_wp2_with fail
            refine hEn.mono ?_
            rintro e we ⟨hp, hbe⟩
            have hpe : e = .returned (.tuple #[.string ⟨s.toArray⟩, .int .i64 0]) := by
              rcases hp with ⟨_, h⟩ | ⟨h, _⟩
              · rw [HY0.out.1.2] at h
                exact h
              · rw [HY0.out.1.1] at h
                cases h
            subst hpe
            have hMy := may_any y _ _ _ we (HY.out.2.below hbe) HY0.out.2 ((HX.out.2.2.1.keep HD'.out).keep hbe).env
            rw [HY0.out.1.1] at hMy
            have hyb := (hbe.block _ (lt_of_cells HY.out.1)).trans HY.out.1
            have HE := Lib.hid (HD'.out.trans (hbe.mono HD'.out.size))
            clear hEn hp hbe x0 x1 x2 x3 x4 x5 x6 x7 x8 x9
            obtain ⟨x0, x1, x2, x3, x4, x5, x6, x7, x8, x9⟩ := eboxAll hyb
            clear hyb
            unfold entV entC at hMy
            go_wp2_with fail
            refine hMy.mono ?_
            rintro e wf ⟨rfl, hbf⟩
            have HF := Lib.hid (HE.out.trans (hbf.mono HE.out.size))
            clear hMy hbf x0 x1 x2 x3 x4 x5 x6 x7 x8 x9
            go_wp2
            refine bodyPost_ret (v := .bool true) (by simp [results, Tryz.results6, go_sem]) rfl ⟨rfl, HX.out.2.2.2.1.trans (HF.out.mono HX.out.2.2.2.1.size)⟩
      · have hMy := may_any x _ _ _ w5 (HX.out.1.below H5.out) HS.out (HX.out.2.2.1.keep H5.out).env
        rw [hy] at hMy
        have hbx := (H5.out.block _ (lt_of_cells HX.out.2.2.2.2)).trans HX.out.2.2.2.2
        unfold entC at hbx
        obtain ⟨x0, x1, x2, x3, x4, x5, x6, x7, x8, x9⟩ := eboxAll hbx
        clear hbx
        unfold entV entC at hMy
        have HYY := Lib.hid hy
        clear hy
        go_wp2_with fail
        refine hMy.mono ?_
        rintro e w6 ⟨rfl, hb6⟩
        have H6 := Lib.hid (H5.out.trans (hb6.mono H5.out.size))
        clear hMy hb6 x0 x1 x2 x3 x4 x5 x6 x7 x8 x9
        have hDs := decode_any s w6 (HX.out.2.2.1.keep H6.out) (by omega) (short_dec s (by omega))
        go_wp2_with fail
        refine hDs.mono ?_
        rintro e wd hp
        obtain ⟨hbd, ⟨hd, rfl⟩ | ⟨y, sv2, fv2, jv2, hd, rfl, hown⟩⟩ := hp
        · have HD := Lib.hid (H6.out.trans (hbd.mono H6.out.size))
          clear hDs hbd hd
          unfold entV entC zeroN
          dsimp only
          go_wp2
          refine bodyPost_ret (v := .bool true) (by simp [results, Tryz.results6, go_sem]) rfl ⟨rfl, HX.out.2.2.2.1.trans ((HD.out.trans (((Below.refl _ wd).alloc (Nat.le_refl _) _).mono HD.out.size)).mono HX.out.2.2.2.1.size)⟩
        · have HD := Lib.hid (H6.out.trans (hbd.mono H6.out.size))
          have HY0 := Lib.hid (And.intro (dec_back hd) (show ShortE y from by have h := short_dec s (by omega); rw [rd_of_dec hd] at h; exact h))
          clear hDs hbd hd
          obtain ⟨p1, c1, rfl⟩ := own_shape hown.rc
          obtain ⟨p2, c2, rfl⟩ := own_shape hown.fa
          obtain ⟨p3, c3, rfl⟩ := own_shape hown.jo
          have HO := Lib.hid hown
          clear hown
          unfold entV entC
          go_upto_region 11 with (fail)
          have hyb : (wd.alloc (.cells (entC y (.slice p1 y.mail.rcpts.length c1) (.slice p2 y.fates.length c2) (.slice p3 y.jobs.length c3)).toArray 32)).heap[wd.heap.size]? = some (.cells (entC y (.slice p1 y.mail.rcpts.length c1) (.slice p2 y.fates.length c2) (.slice p3 y.jobs.length c3)).toArray 32 (0, 0)) := ha_eq rfl
          have hyB : Below wd.heap.size wd (wd.alloc (.cells (entC y (.slice p1 y.mail.rcpts.length c1) (.slice p2 y.fates.length c2) (.slice p3 y.jobs.length c3)).toArray 32)) := (Below.refl _ _).alloc (Nat.le_refl _) _
          unfold entC at hyb hyB
          generalize hwy : World.alloc wd _ = wy at hyb hyB ⊢
          clear hwy
          have HY := Lib.hid (And.intro hyb (HO.out.at.below hyB))
          have HD' := Lib.hid (HD.out.trans (hyB.mono HD.out.size))
          clear hyb hyB
          have hEn := encode_any y _ _ _ wy HY.out.2 HY0.out.2 (HX.out.2.2.1.keep HD'.out).env
          have hyb := HY.out.1
          obtain ⟨x0, x1, x2, x3, x4, x5, x6, x7, x8, x9⟩ := eboxAll hyb
          clear hyb
          unfold entV entC at hEn
          go_wp2_with fail
          refine hEn.mono ?_
          rintro e we ⟨hp, hbe⟩
          have hpe : e = .returned (.tuple #[.string ⟨s.toArray⟩, .int .i64 0]) := by
            rcases hp with ⟨_, h⟩ | ⟨h, _⟩
            · rw [HY0.out.1.2] at h
              exact h
            · rw [HY0.out.1.1] at h
              cases h
          subst hpe
          have hMy := may_any y _ _ _ we (HY.out.2.below hbe) HY0.out.2 ((HX.out.2.2.1.keep HD'.out).keep hbe).env
          rw [HY0.out.1.1] at hMy
          have hyb := (hbe.block _ (lt_of_cells HY.out.1)).trans HY.out.1
          have HE := Lib.hid (HD'.out.trans (hbe.mono HD'.out.size))
          clear hEn hp hbe x0 x1 x2 x3 x4 x5 x6 x7 x8 x9
          obtain ⟨x0, x1, x2, x3, x4, x5, x6, x7, x8, x9⟩ := eboxAll hyb
          clear hyb
          unfold entV entC at hMy
          go_wp2_with fail
          refine hMy.mono ?_
          rintro e wf ⟨rfl, hbf⟩
          have HF := Lib.hid (HE.out.trans (hbf.mono HE.out.size))
          clear hMy hbf x0 x1 x2 x3 x4 x5 x6 x7 x8 x9
          go_wp2
          refine bodyPost_ret (v := .bool true) (by simp [results, Tryz.results6, go_sem]) rfl ⟨rfl, HX.out.2.2.2.1.trans (HF.out.mono HX.out.2.2.2.1.size)⟩
    · have hli : (9000 : Int) < (s.length : Int) := by omega
      clear hsm
      have hW2 := works_any w4 (HX.out.2.2.1.keep H4.out).env
      go_wp2_with fail
      refine hW2.mono ?_
      rintro e w5 ⟨rfl, hb5⟩
      have H5 := Lib.hid (HX.out.2.2.2.1.trans ((H4.out.trans (hb5.mono H4.out.size)).mono HX.out.2.2.2.1.size))
      clear hW2 hb5
      go_wp2
      refine bodyPost_ret (v := .bool true) (by simp [results, Tryz.results6, go_sem]) rfl ⟨rfl, H5.out⟩
end Go.Proofs.YtdlpdpelhkgnlaaGreatDoor

/- EntryMost: the walk. -/
import Derived.Test.YtdlpdpelhkgnlaaGreatDoorEmst
import Derived.Test.YtdlpdpelhkgnlaaGreatDoorEcps
import Derived.Test.YtdlpdpelhkgnlaaGreatDoorElarge
import Derived.Test.YtdlpdpelhkgnlaaGreatDoorEworks
import Derived.Deep.Cut
namespace Go.Proofs.YtdlpdpelhkgnlaaGreatDoor
open Go Go.RowKit Go.Shelf Go.Sort
attribute [local go_sem] bneI

theorem ents_one {W : World} {x : EntP} {b : Nat} {sv fv jv : Value} (hx : EntAt W x sv fv jv) (hb : W.heap[b]? = some (.cells (entC x sv fv jv).toArray 32 (0, 0))) : EntsAt W b 0 [x] := by
  refine ⟨fun {i y} hi {W'} hB => ?_⟩
  have hi0 : i = 0 := by
    have := (List.getElem?_eq_some_iff.1 hi).1
    simpa using this
  subst hi0
  have hy : x = y := by simpa using hi
  subst hy
  refine ⟨sv, fv, jv, hx.below hB, fun j u hu => ?_⟩
  have h1 := (hB.block _ (lt_of_cells hb)).trans hb
  simp only [World.cell?, h1]
  rw [show 0 + 0 * 10 + j = j by omega, ← Array.getElem?_toList]
  exact hu
theorem large_one {x : EntP} {e : Ending} (h : LargePost [x] e) : ∃ v, e = .returned (.bool v) ∧ (v = false → SmallE x) := by
  obtain ⟨v, he, hv⟩ := h
  exact ⟨v, he, fun h => (hv h).2 x (by simp)⟩
theorem shortM_of {m : MailP} (h : SmallM m) : ShortM m := ⟨by have := h.sender; omega, by have := h.envid; omega, by have := h.text; omega, by have := h.rcpts; omega, fun r hr => by have := h.tos r hr; omega⟩
theorem shortE_of {x : EntP} (h : SmallE x) (hs : ∀ f ∈ x.fates, f.1 < 256) : ShortE x := ⟨shortM_of h.mail, by have := h.fates.len; omega, by have := h.jobs.len; omega, hs, fun f hf => by have := h.fates.texts f hf; omega, fun j hj => by have := h.jobs.doms j hj; omega⟩
/-- What Encode answered, as a pair. -/
def EncTup (x : EntP) (bs : Bytes) (er : Nat) : Prop := (mayN x = true ∧ bs = encB x ∧ er = 0) ∨ (mayN x = false ∧ bs = [] ∧ er = 4)
theorem enc_tup {x : EntP} {e : Ending} (h : EncPost x e) : ∃ (bs : Bytes) (er : Nat), e = .returned (.tuple #[.string ⟨bs.toArray⟩, .int .i64 (er : Int)]) ∧ EncTup x bs er := by
  rcases h with ⟨h, rfl⟩ | ⟨h, rfl⟩
  · exact ⟨_, 0, rfl, .inl ⟨h, rfl, rfl⟩⟩
  · exact ⟨[], 4, rfl, .inr ⟨h, rfl, rfl⟩⟩
theorem most_pos (m : MailP) : (mostN m = 0 ↔ mailB m 4 4096 ≠ 0) := by
  have h := may_full 119 rfl m
  unfold mostN
  by_cases e : mailB m 4 4096 = 0
  · rw [h, if_pos (by simpa using e)]
    have := encB_pos (fullN 119 m)
    constructor
    · intro h; omega
    · intro h; exact absurd e h
  · rw [h, if_neg (by simpa using e)]
    exact ⟨fun _ => e, fun _ => rfl⟩
theorem most_eq (c : UInt8) {m : MailP} (h : mailB m 4 4096 = 0) : (encB (fullN c m)).length = mostN m := by
  have h1 := may_full 119 rfl m
  unfold mostN
  rw [h1, if_pos (by simpa using h)]
  exact same_len _ _ _
theorem most_of {x : EntP} {bs : Bytes} {er : Nat} (h : EncTup x bs er) : (er = 0 ∧ bs.length ≤ mostN x.mail ∧ mostN x.mail ≠ 0) ∨ er = 4 := by
  rcases h with ⟨h, rfl, rfl⟩ | ⟨_, _, h⟩
  · have hm := ((mayN_iff x).1 h).mail
    refine .inl ⟨rfl, ?_, fun e => (most_pos x.mail).1 e hm⟩
    rw [← most_eq 119 hm]
    exact enc_most h 119
  · exact .inr h
set_option maxRecDepth 100000 in
set_option maxHeartbeats 8000000 in
theorem mostLaw_any (x : EntP) (sv fv jv : Value) (w : World) (hx : EntAt w x sv fv jv) (hst : ∀ f ∈ x.fates, f.1 < 256) (hE : Env w) :
    Calls Tryz.prog 5 #[entV x sv fv jv] w fun e w' => e = .returned (.bool true) ∧ Below w.heap.size w w' := by
  obtain ⟨p, c, rfl, -⟩ := hx.rc.sh
  obtain ⟨q, d, rfl, -⟩ := hx.fa.sh
  obtain ⟨r, rr, rfl, -⟩ := hx.jo.sh
  obtain ⟨W1, hW1⟩ : ∃ W1, W1 = (w.alloc (.cells (entC x (.slice p x.mail.rcpts.length c) (.slice q x.fates.length d) (.slice r x.jobs.length rr)).toArray 32)) := ⟨_, rfl⟩
  have hB1 : Below w.heap.size w W1 := by rw [hW1]; exact (Below.refl _ w).alloc (Nat.le_refl _) _
  have hb1 : W1.heap[w.heap.size]? = some (.cells (entC x (.slice p x.mail.rcpts.length c) (.slice q x.fates.length d) (.slice r x.jobs.length rr)).toArray 32 (0, 0)) := by rw [hW1]; exact ha_eq rfl
  have hWk := works_any W1 (hE.keep hB1)
  have HX := Lib.hid (And.intro (hx.below hB1) (And.intro hst (And.intro (hE.keep hB1) (And.intro hB1 hb1))))
  have HEnv := Lib.hid hE
  unfold entV
  unfold entC at hW1 ⊢
  clear hx hst hE hB1 hb1
  go_enter Tryz.func5, Tryz.ntmps5
  go_upto_region 1 with (fail)
  rw [← hW1]
  clear hW1
  go_wp2_with fail
  refine hWk.mono ?_
  rintro e w2 ⟨rfl, hb2⟩
  clear hWk
  have hbx := (hb2.block _ (lt_of_cells HX.out.2.2.2.2)).trans HX.out.2.2.2.2
  have H2 := Lib.hid (And.intro hb2 hbx)
  unfold entC at hbx
  obtain ⟨x0, x1, x2, x3, x4, x5, x6, x7, x8, x9⟩ := eboxAll hbx
  clear hb2 hbx
  go_wp2_with fail
  generalize hw3 : World.alloc _ _ = w3
  have hb3 : Below w2.heap.size w2 w3 := by rw [← hw3]; exact (Below.refl _ _).alloc (Nat.le_refl _) _
  have hx3 : w3.heap[w2.heap.size]? = some (.cells (entC x (.slice p x.mail.rcpts.length c) (.slice q x.fates.length d) (.slice r x.jobs.length rr)).toArray 32 (0, 0)) := by rw [← hw3]; exact ha_eq rfl
  have H3 := Lib.hid (H2.out.1.trans (hb3.mono H2.out.1.size))
  have hLg := large_any [x] _ w2.heap.size 0 1 w3 (fun _ => rfl) (ents_one (HX.out.1.below H3.out) hx3)
  clear hw3 hb3 hx3 x0 x1 x2 x3 x4 x5 x6 x7 x8 x9
  refine hLg.mono ?_
  rintro e w4 ⟨hp, hb4⟩
  obtain ⟨v, rfl, hsm⟩ := large_one hp
  have H4 := Lib.hid (H3.out.trans (hb4.mono H3.out.size))
  clear hLg hp hb4
  cases v with
  | true =>
    have hW2 := works_any w4 (HX.out.2.2.1.keep H4.out)
    clear hsm
    go_wp2_with fail
    refine hW2.mono ?_
    rintro e w5 ⟨rfl, hb5⟩
    have H5 := Lib.hid (HX.out.2.2.2.1.trans ((H4.out.trans (hb5.mono H4.out.size)).mono HX.out.2.2.2.1.size))
    clear hW2 hb5
    go_wp2
    refine bodyPost_ret (v := .bool true) (by simp [results, Tryz.results5, go_sem]) rfl ⟨rfl, H5.out⟩
  | false =>
    have hS := shortE_of (hsm rfl) HX.out.2.1
    have HS := Lib.hid hS
    have hEn := encode_any x _ _ _ w4 (HX.out.1.below H4.out) hS (HX.out.2.2.1.keep H4.out)
    have hbx := (H4.out.block _ (lt_of_cells HX.out.2.2.2.2)).trans HX.out.2.2.2.2
    unfold entV at hEn
    unfold entC at hbx hEn
    obtain ⟨x0, x1, x2, x3, x4, x5, x6, x7, x8, x9⟩ := eboxAll hbx
    clear hsm hS hbx
    go_wp2_with fail
    refine hEn.mono ?_
    rintro e w5 ⟨hp, hb5⟩
    obtain ⟨bs, er, rfl, ht⟩ := enc_tup hp
    have H5 := Lib.hid (H4.out.trans (hb5.mono H4.out.size))
    have HT := Lib.hid (most_of ht)
    have hMo := most_any x.mail _ w5 (HX.out.1.rc.below H5.out) HS.out.mail (HX.out.2.2.1.keep H5.out)
    have hbx := (H5.out.block _ (lt_of_cells HX.out.2.2.2.2)).trans HX.out.2.2.2.2
    unfold mailV mailC at hMo
    clear hEn hp hb5 ht x0 x1 x2 x3 x4 x5 x6 x7 x8 x9
    unfold entC at hbx
    obtain ⟨x0, x1, x2, x3, x4, x5, x6, x7, x8, x9⟩ := eboxAll hbx
    clear hbx x0 x1 x7 x8 x9
    go_wp2_with fail
    refine hMo.mono ?_
    rintro e w6 ⟨rfl, hb6⟩
    have H6 := Lib.hid (H5.out.trans (hb6.mono H5.out.size))
    clear hMo hb6 x2 x3 x4 x5 x6
    have hmp := most_pos x.mail
    obtain ⟨M, hM⟩ : ∃ M, M = mostN x.mail := ⟨_, rfl⟩
    rw [← hM] at HT hmp ⊢
    have HMM := Lib.hid hM
    have HMP := Lib.hid hmp
    clear hM hmp
    go_upto_region 5 with (fail)
    go_cut [38] (fun s38 w' => s38 = .bool false ∧ w' = w6)
    case first =>
      rcases HT.out with ⟨rfl, h1, h2⟩ | rfl
      · have e1 : ¬ (M : Int) < (bs.length : Int) := by omega
        have e2 : ((M : Int) == 0) = false := by simpa using h2
        have e3 : decide ((M : Int) = 0) = false := by simpa using h2
        have e4 : decide (M = 0) = false := by simpa using h2
        clear h1
        go_wp2
        go_meet
        case rel => exact ⟨rfl, rfl⟩
      · go_wp2
        go_meet
        case rel => exact ⟨rfl, rfl⟩
    case rest =>
      obtain ⟨rfl, rfl⟩ := hcut
      have hMl := mail_any x.mail _ 4 4096 wc (HX.out.1.rc.below H6.out) HS.out.mail (HX.out.2.2.1.keep H6.out)
      have hbx := (H6.out.block _ (lt_of_cells HX.out.2.2.2.2)).trans HX.out.2.2.2.2
      unfold mailV mailC at hMl
      unfold entC at hbx
      obtain ⟨x0, x1, x2, x3, x4, x5, x6, x7, x8, x9⟩ := eboxAll hbx
      clear hbx x0 x1 x7 x8 x9
      go_wp2_with fail
      refine hMl.mono ?_
      rintro e w7 ⟨rfl, hb7⟩
      have H7 := Lib.hid (H6.out.trans (hb7.mono H6.out.size))
      clear hMl hb7 x2 x3 x4 x5 x6
      obtain ⟨Q, hQ⟩ : ∃ Q, Q = mailB x.mail 4 4096 := ⟨_, rfl⟩
      rw [← hQ] at HMP ⊢
      have HQ := Lib.hid hQ
      clear hQ
      by_cases hq : Q = 0
      · have hM0 : M ≠ 0 := fun e => HMP.out.1 e hq
        subst hq
        have e1 : (0 : Int) < (M : Int) := by omega
        have e0 : 0 < M := by omega
        have e2 : ((M : Int) == 0) = false := by simpa using hM0
        have e3 : decide ((M : Int) = 0) = false := by simpa using hM0
        have e4 : decide (M = 0) = false := by simpa using hM0
        have e5 : ¬ (M : Int) = 0 := by omega
        have hMk := make_any 1099511627776 1099511627776 x.mail _ w7 (HX.out.1.rc.below H7.out) HS.out.mail (HX.out.2.2.1.keep H7.out)
        have hbx := (H7.out.block _ (lt_of_cells HX.out.2.2.2.2)).trans HX.out.2.2.2.2
        unfold mailV mailC at hMk
        unfold entC at hbx
        obtain ⟨x0, x1, x2, x3, x4, x5, x6, x7, x8, x9⟩ := eboxAll hbx
        clear hbx x0 x1 x7 x8 x9 hM0
        go_wp2_with fail
        refine hMk.mono ?_
        rintro e w8 ⟨⟨rv, fv, jv, rfl, hown⟩, hb8⟩
        clear hMk x2 x3 x4 x5 x6
        obtain ⟨p1, c1, rfl⟩ := own_shape hown.rc
        obtain ⟨p2, c2, rfl⟩ := own_shape hown.fa
        obtain ⟨p3, c3, rfl⟩ := own_shape hown.jo
        rw [make_rc, (make_lens _ _ x.mail).1, (make_lens _ _ x.mail).2] at hown
        rw [make_rc, (make_lens _ _ x.mail).1, (make_lens _ _ x.mail).2]
        have HO := Lib.hid (And.intro hown hb8)
        have HE := Lib.hid (And.intro e0 (And.intro e1 (And.intro e2 (And.intro e3 (And.intro e4 e5)))))
        clear hown hb8 e0 e1 e2 e3 e4 e5
        obtain ⟨m, hm⟩ : ∃ m, m = x.mail := ⟨_, rfl⟩
        unfold entV entC
        go_upto_region 12 with (fail)
        have hFu := ful_start (t := List.replicate 128 120) (HX.out.2.2.2.1.trans (H7.out.mono HX.out.2.2.2.1.size)) HO.out.2 HO.out.1
        unfold entC at hFu
        generalize hW3 : World.alloc w8 _ = w9 at hFu ⊢
        clear hW3
        obtain ⟨bx, hbx⟩ : ∃ bx, bx = w8.heap.size := ⟨_, rfl⟩
        rw [← hbx] at hFu ⊢
        have HFu := Lib.hid hFu
        have hn := HS.out.mail.rcpts
        clear hFu hbx
        go_wp2_with fail
        go_loopw [7] (fun s7 wr => ∃ i : Nat, s7 = .int .i64 (i : Int) ∧ i ≤ x.mail.rcpts.length ∧ FuL w (wayN (List.replicate 128 120) x.mail i 0) bx w7.heap.size (.slice p1 x.mail.rcpts.length c1) (.slice p2 x.mail.rcpts.length c2) (.slice p3 (domsM x.mail.rcpts).length c3) wr) (fun s7 _ => x.mail.rcpts.length - natI s7)
        case atStart => exact ⟨0, rfl, Nat.zero_le _, HFu.out⟩
        case round =>
          obtain ⟨i, rfl, hi, hF⟩ := hrel
          have HF := Lib.hid hF
          clear hF
          have y8 := HF.out.c8
          by_cases hlast : i < x.mail.rcpts.length
          · have hli : (i : Int) < (x.mail.rcpts.length : Int) := by omega
            have q8 := BW.cell HF.out.c8
            have hS := BW.calls (w := wr) (fun W _ => copies_any 120 128 (by decide) W)
            have hw1 : wrap64 ((i : Int) + 1) = (i : Int) + 1 := by unfold wrap64; omega
            obtain ⟨g, rfl, -, -, -⟩ := HF.out.put (wayN_fates _ _ (by omega)) hlast
            go_upto_region 15 with (fail)
            refine wp_region_quiet_tail (C := fun w' => ∃ p : BW wr, w' = p.v) 6 (by kernel_rfl) (by kernel_rfl) ⟨⟨wr.drew, ⟨rfl, rfl, rfl, Nat.le_refl _, fun _ _ => rfl⟩⟩, rfl⟩ ?_
            simp only [List.take_succ_cons, List.take_zero, List.drop_succ_cons, List.drop_zero]
            repeat (go_big_quiet_step (exact hS _))
            refine wpQuiet_nil ?_
            rintro W5 ⟨⟨W5, hB5⟩, rfl⟩
            obtain ⟨g', e, ⟨u0, u1, v0, v1⟩, hfz, hst⟩ := (HF.out.keep hB5).put (wayN_fates _ _ (by omega)) hlast
            cases e
            have hst := hst (2, List.replicate 128 120)
            rw [wayN_set _ _ hlast] at hst
            have HS := Lib.hid hst
            have f0 := hfz (i * 2)
            have f1 := hfz (i * 2 + 1)
            clear hst hfz q8 hS hB5 y8
            go_wp2
            go_roundw
            case rel => exact ⟨i + 1, by simp, by omega, HS.out⟩
            case measure => simp [natI]; omega
          · have hli : ¬ (i : Int) < (x.mail.rcpts.length : Int) := by omega
            have hie : i = x.mail.rcpts.length := by omega
            have hF := HF.out
            rw [hie] at hF
            have HF := Lib.hid hF
            have hdn : (domsM x.mail.rcpts).length ≤ 1000000 := by have := domsM_len x.mail.rcpts; omega
            go_upto_region 16 with (fail)
            clear y8 hF hie hli hlast hi
            generalize hww : wr = wq at *
            clear hww
            go_wp2_with fail
            go_loopw [8] (fun s8 wr => ∃ k : Nat, s8 = .int .i64 (k : Int) ∧ k ≤ (domsM x.mail.rcpts).length ∧ FuL w (wayN (List.replicate 128 120) x.mail x.mail.rcpts.length k) bx w7.heap.size (.slice p1 x.mail.rcpts.length c1) (.slice p2 x.mail.rcpts.length c2) (.slice p3 (domsM x.mail.rcpts).length c3) wr) (fun s8 _ => (domsM x.mail.rcpts).length - natI s8)
            case atStart => exact ⟨0, rfl, Nat.zero_le _, HF.out⟩
            case round =>
              obtain ⟨k, rfl, hk, hF⟩ := hrel
              have HF2 := Lib.hid hF
              clear hF
              have y9 := HF2.out.c9
              by_cases hkl : k < (domsM x.mail.rcpts).length
              · have hli2 : (k : Int) < ((domsM x.mail.rcpts).length : Int) := by omega
                have hw1 : wrap64 ((k : Int) + 1) = (k : Int) + 1 := by unfold wrap64; omega
                obtain ⟨g, rfl, ⟨u, v0⟩, hfz, hst⟩ := HF2.out.try (wayN_jobs _ _ _ _) hkl
                rw [wayN_try _ _ hkl] at hst
                have HS := Lib.hid hst
                have f0 := hfz (k * 3 + 1)
                clear hst hfz
                go_wp2
                go_roundw
                case rel => exact ⟨k + 1, by simp, by omega, HS.out⟩
                case measure => simp [natI]; omega
              · have hli2 : ¬ (k : Int) < ((domsM x.mail.rcpts).length : Int) := by omega
                have hke : k = (domsM x.mail.rcpts).length := by omega
                have hfu := HF2.out
                rw [hke, wayN_all] at hfu
                have HF3 := Lib.hid hfu
                have hEn := encode_any (fullN 120 x.mail) _ _ _ wr hfu.own.at (shortFull HS.out.mail) (HEnv.out.keep hfu.below)
                have hbx2 := hfu.box
                unfold entC at hbx2
                obtain ⟨t0, t1, t2, t3, t4, t5, t6, t7, t8, t9⟩ := eboxAll hbx2
                unfold entV entC at hEn
                clear hfu hbx2 y9 hke
                go_wp2_with fail
                refine hEn.mono ?_
                rintro e w10 ⟨hp, hb10⟩
                have HB := Lib.hid (HF3.out.below.trans (hb10.mono HF3.out.below.size))
                have hy : mayN (fullN 120 x.mail) = true := by rw [may_full 120 rfl, ← HQ.out]; rfl
                have hpe : e = .returned (.tuple #[.string ⟨(encB (fullN 120 x.mail)).toArray⟩, .int .i64 0]) := by
                  rcases hp with ⟨_, h⟩ | ⟨h, _⟩
                  · exact h
                  · rw [hy] at h; cases h
                subst hpe
                have hlen : (encB (fullN 120 x.mail)).length = M := by rw [HMM.out]; exact most_eq 120 HQ.out.symm
                generalize encB (fullN 120 x.mail) = bs2 at hlen ⊢
                subst hlen
                clear hEn t0 t1 t2 t3 t4 t5 t6 t7 t8 t9 hb10 hp hy
                go_wp2
                refine bodyPost_ret (v := .bool true) (by simp [results, Tryz.results5, go_sem]) rfl ⟨rfl, HB.out⟩
      · have hM0 : M = 0 := HMP.out.2 hq
        subst hM0
        have e1 : ((Q : Int) == 0) = false := by simpa using hq
        have e2 : decide ((Q : Int) = 0) = false := by simpa using hq
        have e3 : decide (Q = 0) = false := by simpa using hq
        have e5 : ¬ (Q : Int) = 0 := by omega
        have HB := Lib.hid (HX.out.2.2.2.1.trans (H7.out.mono HX.out.2.2.2.1.size))
        go_wp2
        refine bodyPost_ret (v := .bool true) (by simp [results, Tryz.results5, go_sem]) rfl ⟨rfl, HB.out⟩
end Go.Proofs.YtdlpdpelhkgnlaaGreatDoor

/- CacheLoads, walked. -/
import Derived.Test.YtojhledbfaninaaCrefl
import Derived.Test.YtojhledbfaninaaCback
import Derived.Deep.RegionHeld3
namespace Go.Proofs.Ytojhledbfaninaa
open Go Go.RowKit Go.Shelf Go.Sort
attribute [local go_sem] bneI

theorem short_fitR {x : PE} (h : ShortE x) : FitR x := by
  obtain ⟨h1, h2, h3, h4⟩ := h
  refine ⟨by omega, by unfold maxLen; omega, fun u hu => ?_⟩
  have := h4 u hu
  omega
theorem anyE {B : Nat → Prop} : ∀ k, B k → Any k := fun _ _ => trivial
theorem loadB_is {most : Int} {l : List PE} (h : loadB most l = 0) : GoodE most l := by
  unfold loadB at h
  by_cases h1 : most < 1 ∨ 8 < most
  · rw [if_pos h1] at h
    exact absurd h (by decide)
  rw [if_neg h1] at h
  by_cases h2 : most < (l.length : Int)
  · rw [if_pos h2] at h
    exact absurd h (by decide)
  rw [if_neg h2] at h
  by_cases h3 : goodB l = true
  · exact ⟨(goodB_iff.1 h3).2, (goodB_iff.1 h3).1, by omega⟩
  · rw [if_neg h3] at h
    exact absurd h (by decide)
set_option maxRecDepth 100000 in
set_option maxHeartbeats 16000000 in
theorem loads_any (W : World) (most : Int) (v1 v2 : Value) (xs ys : List EM) (h1 : RowE W v1 xs) (h2 : RowE W v2 ys) (t1 : TextsE W Any xs) (t2 : TextsE W Any ys) (hn1 : xs.length ≤ maxLen) (hn2 : ys.length ≤ maxLen) (hg : Glob W) :
    Calls Try.prog 5 #[.int .i64 most, v1, v2] W fun e w' => e = .returned (.bool true) ∧ Below W.heap.size W w' := by
  obtain ⟨p1, c1, rfl⟩ := h1.sh
  obtain ⟨p2, c2, rfl⟩ := h2.sh
  have HA := Lib.hid (And.intro h1 (And.intro h2 (And.intro t1 (And.intro t2 (And.intro hn1 (And.intro hn2 hg))))))
  clear h1 h2 t1 t2 hn1 hn2 hg
  have hL1 := fun (w : World) (hb : Below W.heap.size W w) => long_any (.slice none 0 0) (.slice p1 xs.length c1) [] xs Any Any w (.inl ⟨rfl, none, 0, rfl⟩) (HA.out.1.below hb) (fun x hx => by simp at hx) (HA.out.2.2.1.below hb) (by simp) HA.out.2.2.2.2.1
  have hL2 := fun (w : World) (hb : Below W.heap.size W w) => long_any (.slice none 0 0) (.slice p2 ys.length c2) [] ys Any Any w (.inl ⟨rfl, none, 0, rfl⟩) (HA.out.2.1.below hb) (fun x hx => by simp at hx) (HA.out.2.2.2.1.below hb) (by simp) HA.out.2.2.2.2.2.1
  go_enter Try.func5, Try.ntmps5
  go_wp2_with fail
  refine (hL1 W (Below.refl _ _)).mono ?_
  rintro e w1 ⟨⟨r1, rfl, hr1⟩, hb1⟩
  clear hL1
  cases r1 with
  | true =>
    clear hr1 hL2
    have HB := Lib.hid hb1
    clear hb1
    go_wp2_with fail
    refine (works_any w1 (HA.out.2.2.2.2.2.2.keep HB.out)).mono ?_
    rintro e w3 ⟨rfl, hb3⟩
    go_wp2
    refine bodyPost_ret (v := .bool true) (by simp [results, Try.results5, go_sem]) rfl ⟨rfl, HB.out.trans (hb3.mono HB.out.size)⟩
  | false =>
    have hS1 := (hr1 rfl).2.2
    clear hr1
    go_wp2_with fail
    refine (hL2 w1 hb1).mono ?_
    rintro e w2 ⟨⟨r2, rfl, hr2⟩, hb2'⟩
    have hb2 := hb1.trans (hb2'.mono hb1.size)
    clear hL2 hb2' hb1
    cases r2 with
    | true =>
      clear hr2
      have HB := Lib.hid hb2
      clear hb2
      go_wp2_with fail
      refine (works_any w2 (HA.out.2.2.2.2.2.2.keep HB.out)).mono ?_
      rintro e w4 ⟨rfl, hb4⟩
      go_wp2
      refine bodyPost_ret (v := .bool true) (by simp [results, Try.results5, go_sem]) rfl ⟨rfl, HB.out.trans (hb4.mono HB.out.size)⟩
    | false =>
      have hS2 := (hr2 rfl).2.2
      clear hr2
      have hg2 := HA.out.2.2.2.2.2.2.keep hb2
      have hrx := HA.out.1.below hb2
      have hry := HA.out.2.1.below hb2
      have htx := HA.out.2.2.1.below hb2
      have hty := HA.out.2.2.2.1.below hb2
      have hld := load_any most (.slice p1 xs.length c1) xs Any w2 hrx htx (fun x hx => short_fit (hS1.2 x hx)) (by omega) hg2
      have HS := Lib.hid (And.intro hS1 (And.intro hS2 (And.intro hb2 (And.intro hg2 (And.intro hrx (And.intro hry (And.intro htx hty)))))))
      clear hS1 hS2 hb2 hg2 hrx hry htx hty
      go_wp2_with fail
      refine hld.mono ?_
      rintro e w3 ⟨hP, hb3⟩
      clear hld
      have htold := fun (w : World) (hb : Below w2.heap.size w2 w) => told_any (.slice p1 xs.length c1) xs w (HS.out.2.2.2.2.1.below hb) (by have := HS.out.1.1; omega)
      have htold2 := fun (w : World) (hb : Below w2.heap.size w2 w) => told_any (.slice p2 ys.length c2) ys w (HS.out.2.2.2.2.2.1.below hb) (by have := HS.out.2.1.1; omega)
      have hrl := fun (w : World) (v : Value) (hb : Below w2.heap.size w2 w) (hr : RowE w v xs) => refLoad_any most v xs w hr (HS.out.2.2.2.2.2.2.1.below hb) (fun x hx => short_fitR (HS.out.1.2 x hx)) (by have := HS.out.1.1; omega)
      have hsame := fun (w : World) (hb : Below w2.heap.size w2 w) => same_any (.slice p1 xs.length c1) (.slice p2 ys.length c2) xs ys Any Any w (HS.out.2.2.2.2.1.below hb) (HS.out.2.2.2.2.2.1.below hb) (HS.out.2.2.2.2.2.2.1.below hb) (HS.out.2.2.2.2.2.2.2.below hb) (fun x hx => by have := (HS.out.1.2 x hx).2.2.1; omega) (fun x hx => by have := (HS.out.2.1.2 x hx).2.2.1; omega) (by have := HS.out.1.1; omega)
      have hsame1 := fun (w : World) (hb : Below w2.heap.size w2 w) => same_any (.slice p1 xs.length c1) (.slice p1 xs.length c1) xs xs Any Any w (HS.out.2.2.2.2.1.below hb) (HS.out.2.2.2.2.1.below hb) (HS.out.2.2.2.2.2.2.1.below hb) (HS.out.2.2.2.2.2.2.1.below hb) (fun x hx => by have := (HS.out.1.2 x hx).2.2.1; omega) (fun x hx => by have := (HS.out.1.2 x hx).2.2.1; omega) (by have := HS.out.1.1; omega)
      have hrsame := fun (w : World) (u1 u2 : Value) (hb : Below w2.heap.size w2 w) (hr : RowE w u1 xs) (hr2 : RowE w u2 ys) => refSame_any u1 u2 xs ys Any Any w hr hr2 (HS.out.2.2.2.2.2.2.1.below hb) (HS.out.2.2.2.2.2.2.2.below hb) (fun x hx => by have := (HS.out.1.2 x hx).2.2.1; omega) (by have := HS.out.1.1; omega)
      simp only [decide_true] at hsame1
      generalize hsm : decide (xs.map (·.1) = ys.map (·.1)) = sm at hsame hrsame
      rcases hP with ⟨hl0, b, bm, rfl, hci, hgb, hgm⟩ | ⟨hl0, rfl⟩
      · have hGE : GoodE most (xs.map (·.1)) := loadB_is hl0
        have HC := Lib.hid (And.intro hl0 (And.intro (hci.mono anyE) (And.intro hGE hb3)))
        clear hl0 hci hgb hgm hGE hb3
        go_wp2_with fail
        refine (htold w3 HC.out.2.2.2).mono ?_
        rintro e w4 ⟨u4, rfl, hr4, hb4⟩
        have h24 := HC.out.2.2.2.trans (hb4.mono HC.out.2.2.2.size)
        go_wp2_with fail
        refine (hrl w4 u4 h24 hr4).mono ?_
        rintro e w5 ⟨hQ, hb5⟩
        obtain ⟨bd, vd, rfl, hgd, hvd, hrd⟩ : ∃ b v', e = .returned (.tuple #[.pointer (some ⟨b, 0, none⟩), .int .i64 0]) ∧ w4.heap.size ≤ b ∧ w5.cell? ⟨b, 1, none⟩ = some v' ∧ RowE w5 v' xs := by
          rcases hQ with ⟨_, h⟩ | ⟨h, _⟩
          · exact h
          · exact absurd HC.out.1 h
        have h25 := h24.trans (hb5.mono h24.size)
        have hci5 := (HC.out.2.1.below hb4).below hb5
        have HD := Lib.hid (And.intro hci5 (And.intro hvd (And.intro hrd h25)))
        clear hQ hci5 hvd hrd hgd hr4 hb4 hb5 h24 hrl
        go_wp2_with fail
        refine (hsame w5 h25).mono ?_
        rintro e w6 ⟨rfl, hb6⟩
        have h26 := h25.trans (hb6.mono h25.size)
        go_wp2_with fail
        refine (htold w6 h26).mono ?_
        rintro e w7 ⟨u7, rfl, hr7, hb7⟩
        have h27 := h26.trans (hb7.mono h26.size)
        go_wp2_with fail
        refine (htold2 w7 h27).mono ?_
        rintro e w8 ⟨u8, rfl, hr8, hb8⟩
        have h28 := h27.trans (hb8.mono h27.size)
        go_wp2_with fail
        refine (hrsame w8 u7 u8 h28 (hr7.below hb8) hr8).mono ?_
        rintro e w9 ⟨rfl, hb9⟩
        have h29 := h28.trans (hb9.mono h28.size)
        have hsmi : decide (sm = sm) = true := by simp
        go_wp2_with fail
        refine (hsame1 w9 h29).mono ?_
        rintro e w10 ⟨rfl, hb10⟩
        have h5x : Below w5.heap.size w5 w10 := (((hb6.trans (hb7.mono hb6.size)).trans (hb8.mono (hb6.trans (hb7.mono hb6.size)).size)).trans (hb9.mono ((hb6.trans (hb7.mono hb6.size)).trans (hb8.mono (hb6.trans (hb7.mono hb6.size)).size)).size)).trans (hb10.mono (((hb6.trans (hb7.mono hb6.size)).trans (hb8.mono (hb6.trans (hb7.mono hb6.size)).size)).trans (hb9.mono ((hb6.trans (hb7.mono hb6.size)).trans (hb8.mono (hb6.trans (hb7.mono hb6.size)).size)).size)).size)
        have h2x : Below w2.heap.size w2 w10 := h25.trans (h5x.mono h25.size)
        have HE := Lib.hid h5x
        clear hb6 hb7 hb8 hb9 hb10 h26 h27 h28 h29 hr7 hr8 hsame htold2 hrsame hsame1 h5x h25
        go_wp2_with fail
        go_loopw [11] (fun s11 wr => ∃ i : Nat, s11 = .int .i64 (i : Int) ∧ i ≤ xs.length ∧ Below w10.heap.size w10 wr) (fun s11 _ => xs.length - natI s11)
        case atStart => exact ⟨0, rfl, Nat.zero_le _, Below.refl _ _⟩
        case round =>
          obtain ⟨i, rfl, hi, hBr⟩ := hrel
          generalize hww : wr = wr1 at *
          clear hww
          have h2r : Below w2.heap.size w2 wr1 := h2x.trans (hBr.mono h2x.size)
          have hlx : (xs.length : Int) ≤ 1000 := by have := HS.out.1.1; omega
          have hglob : ∀ q : BW wr1, Glob q.v := fun q => HS.out.2.2.2.1.keep (h2r.trans (q.h.mono h2r.size))
          have hWk : ∀ q : BW wr1, Calls Try.prog 8 #[] q.v fun e w'' => e = .returned (.bool true) ∧ ∃ q' : BW wr1, w'' = q'.v := fun q =>
            (works_any q.v (hglob q)).mono fun e w'' hh => ⟨hh.1, ⟨w'', q.h.trans (hh.2.mono q.h.size)⟩, rfl⟩
          have hMay1 : ∀ (i : Nat) (hi : i < xs.length) (q : BW wr1), Calls Try.prog 18 #[evp xs[i]] q.v fun e w'' => e = .returned (.bool (mayE xs[i].1)) ∧ ∃ q' : BW wr1, w'' = q'.v := fun i hi q =>
            (mayE_any xs[i] Any q.v ((HS.out.2.2.2.2.2.2.1 _ (List.getElem_mem hi)).below (h2r.trans (q.h.mono h2r.size))) (short_fit (HS.out.1.2 _ (List.getElem_mem hi))) (hglob q)).mono fun e w'' hh => ⟨hh.1, ⟨w'', q.h.trans (hh.2.mono q.h.size)⟩, rfl⟩
          have hMay2 : ∀ (i : Nat) (hi : i < xs.length) (q : BW wr1), Calls Try.prog 22 #[evp xs[i]] q.v fun e w'' => e = .returned (.bool (mayE xs[i].1)) ∧ ∃ q' : BW wr1, w'' = q'.v := fun i hi q =>
            (refMayE_any xs[i] Any q.v ((HS.out.2.2.2.2.2.2.1 _ (List.getElem_mem hi)).below (h2r.trans (q.h.mono h2r.size))) (short_fitR (HS.out.1.2 _ (List.getElem_mem hi)))).mono fun e w'' hh => ⟨hh.1, ⟨w'', q.h.trans (hh.2.mono q.h.size)⟩, rfl⟩
          have hone : ∀ (x : EM) (q : BW wr1), Calls Try.prog 23 #[evp x] q.v fun e w'' => e = .returned (evp x) ∧ ∃ q' : BW wr1, w'' = q'.v := fun x q =>
            (one_any x q.v).mono fun e w'' hh => ⟨hh.1, ⟨w'', q.h.trans (hh.2.mono q.h.size)⟩, rfl⟩
          clear hglob
          by_cases hjl : i < xs.length
          · have hli : (i : Int) < (xs.length : Int) := by omega
            obtain ⟨ba, oa, hpa, hla, hca⟩ := RowE.at HS.out.2.2.2.2.1 i hjl
            have HP := Lib.hid hpa
            subst hpa
            have hk := fun (q : BW wr1) => h2r.trans (q.h.mono h2r.size)
            have y0 := fun q : BW wr1 => six_below (hk q) hla (hca i hjl).1
            have y1 := fun q : BW wr1 => six_below (hk q) hla (hca i hjl).2.1
            have y2 := fun q : BW wr1 => six_below (hk q) hla (hca i hjl).2.2.1
            have y3 := fun q : BW wr1 => six_below (hk q) hla (hca i hjl).2.2.2.1
            have y4 := fun q : BW wr1 => six_below (hk q) hla (hca i hjl).2.2.2.2.1
            have y5 := fun q : BW wr1 => six_below (hk q) hla (hca i hjl).2.2.2.2.2
            have hM1 := hMay1 i hjl
            have hM2 := hMay2 i hjl
            have HJ := Lib.hid hBr
            clear hBr hk hca hla hMay1 hMay2 h2r hWk
            obtain ⟨xa, hxa⟩ : ∃ x, x = xs[i] := ⟨_, rfl⟩
            rw [← hxa] at y0 y1 y2 y3 y4 y5 hM1 hM2
            replace hone := hone xa
            clear hxa
            generalize mayE xa.1 = r at hM1 hM2
            obtain ⟨⟨d4, i4, k4, m4, a4, u4⟩, q4, n4, c4⟩ := xa
            dsimp only at y0 y1 y2 y3 y4 y5
            rw [lit_ev] at hM1 hM2 hone
            have hrr : decide (r = r) = true := by simp
            go_upto_region 10 with (fail)
            refine wp_region_quiet_below (by kernel_rfl) (by kernel_rfl) ?_
            repeat (go_big_quiet_step (first | exact hM1 _ | exact hone _ | exact hM2 _))
            refine wpQuiet_nil ?_
            intro w5' hw'
            have hb5 : Below wr1.heap.size wr1 w5' := by
              obtain ⟨q, rfl⟩ := hw'
              exact q.h
            have HW := Lib.hid (HJ.out.trans (hb5.mono HJ.out.size))
            clear hw' hb5 y0 y1 y2 y3 y4 y5 hM1 hM2 hone
            go_wp2
            go_roundw
            case rel => exact ⟨i + 1, by simp, by omega, HW.out⟩
            case measure => simp [natI]; omega
          · have hli : ¬ (i : Int) < (xs.length : Int) := by omega
            have hbF := HE.out.trans (hBr.mono HE.out.size)
            have hciF := HD.out.1.below hbF
            have hvdF := below_keep hbF _ _ HD.out.2.1
            have hrdF := HD.out.2.2.1.below hbF
            have h2F := HD.out.2.2.2.trans (hbF.mono HD.out.2.2.2.size)
            clear hBr hi hbF hone hMay1 hMay2
            obtain ⟨q5, n5, rfl⟩ := hrdF.sh
            have hlen8 : (xs.map (·.1)).length ≤ 1000 := by have := HS.out.1.1; simp; omega
            have hfew : FewE (xs.map (·.1)) := HC.out.2.2.1.few
            have hA1 := all_any b bm most Any (xs.map (·.1)) wr1.drew (hciF.below (below_drew wr1)) hlen8 hfew
            have hA2 := fun (w : World) (hb : Below wr1.heap.size wr1 w) => all_any b bm most Any (xs.map (·.1)) w (hciF.below hb) hlen8 hfew
            have hTd := fun (w : World) (v : Value) (zs : List EM) (hz : zs.map (·.1) = xs.map (·.1)) (hr : RowE w v zs) => told_any v zs w hr (by have h1 := congrArg List.length hz; have := HS.out.1.1; simp at h1; omega)
            have hSm := fun (w : World) (v : Value) (zs : List EM) (hz : zs.map (·.1) = xs.map (·.1)) (hr : RowE w v zs) (ht : TextsE w Any zs) (hb : Below wr1.heap.size wr1 w) => (refSame_any v (.slice q5 xs.length n5) zs xs Any Any w hr (hrdF.below hb) ht ((HS.out.2.2.2.2.2.2.1.below h2F).below hb) (fun x hx => by
              have hm : x.1 ∈ xs.map (·.1) := by rw [← hz]; exact List.mem_map.2 ⟨x, hx, rfl⟩
              obtain ⟨z, hz1, hz2⟩ := List.mem_map.1 hm
              rw [← hz2]
              have := (HS.out.1.2 z hz1).2.2.1
              omega) (by have h1 := congrArg List.length hz; have := HS.out.1.1; simp at h1; omega)).mono (R' := fun e w'' => e = .returned (.bool true) ∧ Below w.heap.size w w'') fun e w'' hh => ⟨by rw [hh.1, decide_eq_true hz], hh.2⟩
            have hSa := fun (w : World) (v : Value) (zs : List EM) (hz : zs.map (·.1) = xs.map (·.1)) (hr : RowE w v zs) (ht : TextsE w Any zs) (hb : Below wr1.heap.size wr1 w) => (same_any v (.slice p1 xs.length c1) zs xs Any Any w hr ((HS.out.2.2.2.2.1.below h2F).below hb) ht ((HS.out.2.2.2.2.2.2.1.below h2F).below hb) (fun x hx => by
              have hm : x.1 ∈ xs.map (·.1) := by rw [← hz]; exact List.mem_map.2 ⟨x, hx, rfl⟩
              obtain ⟨z, hz1, hz2⟩ := List.mem_map.1 hm
              rw [← hz2]
              have := (HS.out.1.2 z hz1).2.2.1
              omega) (fun x hx => by have := (HS.out.1.2 x hx).2.2.1; omega) (by have h1 := congrArg List.length hz; have := HS.out.1.1; simp at h1; omega)).mono (R' := fun e w'' => e = .returned (.bool true) ∧ Below w.heap.size w w'') fun e w'' hh => ⟨by rw [hh.1, decide_eq_true hz], hh.2⟩
            have hWk2 := fun (w : World) (hb : Below wr1.heap.size wr1 w) => works_any w (HS.out.2.2.2.1.keep (h2F.trans (hb.mono h2F.size)))
            have hSb := fun (w : World) (hb : Below wr1.heap.size wr1 w) => below_keep hb _ _ hvdF
            have hS1 := hSb wr1.drew (below_drew wr1)
            have HF := Lib.hid (HS.out.2.2.1.trans (h2F.mono HS.out.2.2.1.size))
            clear hWk hciF hvdF hrdF h2F hlen8 hfew
            go_upto_region 12 with (fail)
            go_region_held3 (fun W' => W'.cell? ⟨bd, 1, none⟩ = some (.slice q5 xs.length n5))
              ((first | with_reducible exact hS1 | with_reducible exact hS2 | with_reducible exact hS3 | with_reducible exact hS4 | with_reducible exact hS5 | with_reducible exact hS6 | with_reducible exact hS7))
              ((first
                | (go_at_call 8; refine (hWk2 wa5 hba5).mono ?_; rintro e wa6 ⟨rfl, hbc6⟩; have hba6 := hba5.trans (hbc6.mono hba5.size); have hS7 := hSb wa6 hba6)
                | (go_at_call 16; refine (hSa wa4 va4 za4 hz4 hra4.row (hta4.mono anyE) hba4).mono ?_; rintro e wa5 ⟨rfl, hbc5⟩; have hba5 := hba4.trans (hbc5.mono hba4.size); have hS6 := hSb wa5 hba5)
                | (go_at_call 11; refine (hA2 wa3 hba3).mono ?_; rintro e wa4 ⟨⟨va4, za4, rfl, hz4, hra4, hta4⟩, hbc4⟩; have hba4 := hba3.trans (hbc4.mono hba3.size); have hS5 := hSb wa4 hba4)
                | (go_at_call 19; refine (hSm wa2 va2 za1 hz1 hra2 ((hta1.mono anyE).below hbc2) hba2).mono ?_; rintro e wa3 ⟨rfl, hbc3⟩; have hba3 := hba2.trans (hbc3.mono hba2.size); have hS4 := hSb wa3 hba3)
                | (go_at_call 20; refine (hTd wa1 va1 za1 hz1 hra1.row).mono ?_; rintro e wa2 ⟨va2, rfl, hra2, hbc2⟩; have hba2 := hba1.trans (hbc2.mono hba1.size); have hS3 := hSb wa2 hba2)
                | (go_at_call 11; refine hA1.mono ?_; rintro e wa1 ⟨⟨va1, za1, rfl, hz1, hra1, hta1⟩, hbc1⟩; have hba1 := (below_drew wr1).trans (hbc1.mono (below_drew wr1).size); have hS2 := hSb wa1 hba1)))
            have HG := Lib.hid (HF.out.trans (hba6.mono HF.out.size))
            clear hA1 hA2 hTd hSm hSa hWk2 hSb hS1 hS2 hS3 hS4 hS5 hS6 hS7
            go_wp2
            refine bodyPost_ret (v := .bool true) (by simp [results, Try.results5, go_sem]) rfl ⟨rfl, HG.out⟩
      · obtain ⟨k, hk⟩ : ∃ k, k = loadB most (xs.map (·.1)) := ⟨_, rfl⟩
        have HC := Lib.hid (And.intro hl0 hb3)
        rw [← hk] at hl0 ⊢
        have hk0 : decide ((k : Int) = 0) = false := by simp; exact hl0
        have hk0' : ((k : Int) == 0) = false := by simp; exact hl0
        have hk0n : decide (k = 0) = false := by simp; exact hl0
        have HK := Lib.hid hk
        clear hl0 hb3 hk
        go_wp2_with fail
        refine (htold w3 HC.out.2).mono ?_
        rintro e w4 ⟨u4, rfl, hr4, hb4⟩
        have h24 := HC.out.2.trans (hb4.mono HC.out.2.size)
        go_wp2_with fail
        refine (hrl w4 u4 h24 hr4).mono ?_
        rintro e w5 ⟨hQ, hb5⟩
        obtain rfl : e = .returned (.tuple #[.pointer none, .int .i64 (k : Int)]) := by
          rcases hQ with ⟨h, _⟩ | ⟨_, h⟩
          · exact absurd h HC.out.1
          · rw [HK.out]; exact h
        have h25 := h24.trans (hb5.mono h24.size)
        have HD := Lib.hid h25
        clear hQ hr4 hb4 hb5 h24 hrl
        go_wp2_with fail
        refine (hsame w5 h25).mono ?_
        rintro e w6 ⟨rfl, hb6⟩
        have h26 := h25.trans (hb6.mono h25.size)
        go_wp2_with fail
        refine (htold w6 h26).mono ?_
        rintro e w7 ⟨u7, rfl, hr7, hb7⟩
        have h27 := h26.trans (hb7.mono h26.size)
        go_wp2_with fail
        refine (htold2 w7 h27).mono ?_
        rintro e w8 ⟨u8, rfl, hr8, hb8⟩
        have h28 := h27.trans (hb8.mono h27.size)
        go_wp2_with fail
        refine (hrsame w8 u7 u8 h28 (hr7.below hb8) hr8).mono ?_
        rintro e w9 ⟨rfl, hb9⟩
        have h29 := h28.trans (hb9.mono h28.size)
        have hsmi : decide (sm = sm) = true := by simp
        go_wp2_with fail
        refine (hsame1 w9 h29).mono ?_
        rintro e w10 ⟨rfl, hb10⟩
        have h5x : Below w5.heap.size w5 w10 := (((hb6.trans (hb7.mono hb6.size)).trans (hb8.mono (hb6.trans (hb7.mono hb6.size)).size)).trans (hb9.mono ((hb6.trans (hb7.mono hb6.size)).trans (hb8.mono (hb6.trans (hb7.mono hb6.size)).size)).size)).trans (hb10.mono (((hb6.trans (hb7.mono hb6.size)).trans (hb8.mono (hb6.trans (hb7.mono hb6.size)).size)).trans (hb9.mono ((hb6.trans (hb7.mono hb6.size)).trans (hb8.mono (hb6.trans (hb7.mono hb6.size)).size)).size)).size)
        have h2x : Below w2.heap.size w2 w10 := h25.trans (h5x.mono h25.size)
        have HE := Lib.hid h5x
        clear hb6 hb7 hb8 hb9 hb10 h26 h27 h28 h29 hr7 hr8 hsame htold2 hrsame hsame1 h5x h25
        go_wp2_with fail
        go_loopw [11] (fun s11 wr => ∃ i : Nat, s11 = .int .i64 (i : Int) ∧ i ≤ xs.length ∧ Below w10.heap.size w10 wr) (fun s11 _ => xs.length - natI s11)
        case atStart => exact ⟨0, rfl, Nat.zero_le _, Below.refl _ _⟩
        case round =>
          obtain ⟨i, rfl, hi, hBr⟩ := hrel
          generalize hww : wr = wr1 at *
          clear hww
          have h2r : Below w2.heap.size w2 wr1 := h2x.trans (hBr.mono h2x.size)
          have hlx : (xs.length : Int) ≤ 1000 := by have := HS.out.1.1; omega
          have hglob : ∀ q : BW wr1, Glob q.v := fun q => HS.out.2.2.2.1.keep (h2r.trans (q.h.mono h2r.size))
          have hWk : ∀ q : BW wr1, Calls Try.prog 8 #[] q.v fun e w'' => e = .returned (.bool true) ∧ ∃ q' : BW wr1, w'' = q'.v := fun q =>
            (works_any q.v (hglob q)).mono fun e w'' hh => ⟨hh.1, ⟨w'', q.h.trans (hh.2.mono q.h.size)⟩, rfl⟩
          have hMay1 : ∀ (i : Nat) (hi : i < xs.length) (q : BW wr1), Calls Try.prog 18 #[evp xs[i]] q.v fun e w'' => e = .returned (.bool (mayE xs[i].1)) ∧ ∃ q' : BW wr1, w'' = q'.v := fun i hi q =>
            (mayE_any xs[i] Any q.v ((HS.out.2.2.2.2.2.2.1 _ (List.getElem_mem hi)).below (h2r.trans (q.h.mono h2r.size))) (short_fit (HS.out.1.2 _ (List.getElem_mem hi))) (hglob q)).mono fun e w'' hh => ⟨hh.1, ⟨w'', q.h.trans (hh.2.mono q.h.size)⟩, rfl⟩
          have hMay2 : ∀ (i : Nat) (hi : i < xs.length) (q : BW wr1), Calls Try.prog 22 #[evp xs[i]] q.v fun e w'' => e = .returned (.bool (mayE xs[i].1)) ∧ ∃ q' : BW wr1, w'' = q'.v := fun i hi q =>
            (refMayE_any xs[i] Any q.v ((HS.out.2.2.2.2.2.2.1 _ (List.getElem_mem hi)).below (h2r.trans (q.h.mono h2r.size))) (short_fitR (HS.out.1.2 _ (List.getElem_mem hi)))).mono fun e w'' hh => ⟨hh.1, ⟨w'', q.h.trans (hh.2.mono q.h.size)⟩, rfl⟩
          have hone : ∀ (x : EM) (q : BW wr1), Calls Try.prog 23 #[evp x] q.v fun e w'' => e = .returned (evp x) ∧ ∃ q' : BW wr1, w'' = q'.v := fun x q =>
            (one_any x q.v).mono fun e w'' hh => ⟨hh.1, ⟨w'', q.h.trans (hh.2.mono q.h.size)⟩, rfl⟩
          clear hglob
          by_cases hjl : i < xs.length
          · have hli : (i : Int) < (xs.length : Int) := by omega
            obtain ⟨ba, oa, hpa, hla, hca⟩ := RowE.at HS.out.2.2.2.2.1 i hjl
            have HP := Lib.hid hpa
            subst hpa
            have hk := fun (q : BW wr1) => h2r.trans (q.h.mono h2r.size)
            have y0 := fun q : BW wr1 => six_below (hk q) hla (hca i hjl).1
            have y1 := fun q : BW wr1 => six_below (hk q) hla (hca i hjl).2.1
            have y2 := fun q : BW wr1 => six_below (hk q) hla (hca i hjl).2.2.1
            have y3 := fun q : BW wr1 => six_below (hk q) hla (hca i hjl).2.2.2.1
            have y4 := fun q : BW wr1 => six_below (hk q) hla (hca i hjl).2.2.2.2.1
            have y5 := fun q : BW wr1 => six_below (hk q) hla (hca i hjl).2.2.2.2.2
            have hM1 := hMay1 i hjl
            have hM2 := hMay2 i hjl
            have HJ := Lib.hid hBr
            clear hBr hk hca hla hMay1 hMay2 h2r hWk
            obtain ⟨xa, hxa⟩ : ∃ x, x = xs[i] := ⟨_, rfl⟩
            rw [← hxa] at y0 y1 y2 y3 y4 y5 hM1 hM2
            replace hone := hone xa
            clear hxa
            generalize mayE xa.1 = r at hM1 hM2
            obtain ⟨⟨d4, i4, k4, m4, a4, u4⟩, q4, n4, c4⟩ := xa
            dsimp only at y0 y1 y2 y3 y4 y5
            rw [lit_ev] at hM1 hM2 hone
            have hrr : decide (r = r) = true := by simp
            go_upto_region 10 with (fail)
            refine wp_region_quiet_below (by kernel_rfl) (by kernel_rfl) ?_
            repeat (go_big_quiet_step (first | exact hM1 _ | exact hone _ | exact hM2 _))
            refine wpQuiet_nil ?_
            intro w5' hw'
            have hb5 : Below wr1.heap.size wr1 w5' := by
              obtain ⟨q, rfl⟩ := hw'
              exact q.h
            have HW := Lib.hid (HJ.out.trans (hb5.mono HJ.out.size))
            clear hw' hb5 y0 y1 y2 y3 y4 y5 hM1 hM2 hone
            go_wp2
            go_roundw
            case rel => exact ⟨i + 1, by simp, by omega, HW.out⟩
            case measure => simp [natI]; omega
          · have hli : ¬ (i : Int) < (xs.length : Int) := by omega
            have hbF := HE.out.trans (hBr.mono HE.out.size)
            have h2F := HD.out.trans (hbF.mono HD.out.size)
            have hgF := HS.out.2.2.2.1.keep h2F
            have HF := Lib.hid (HS.out.2.2.1.trans (h2F.mono HS.out.2.2.1.size))
            clear hBr hi hbF h2F hone hMay1 hMay2
            go_upto_region 12 with (fail)
            refine wp_region_quiet_below (by kernel_rfl) (by kernel_rfl) ?_
            repeat (go_big_quiet_step (exact hWk _))
            refine wpQuiet_nil ?_
            intro w6 hw'
            have hb6 : Below wr1.heap.size wr1 w6 := by
              obtain ⟨q, rfl⟩ := hw'
              exact q.h
            have HG := Lib.hid (HF.out.trans (hb6.mono HF.out.size))
            clear hw' hb6 hWk
            go_wp2
            refine bodyPost_ret (v := .bool true) (by simp [results, Try.results5, go_sem]) rfl ⟨rfl, HG.out⟩
end Go.Proofs.Ytojhledbfaninaa

/- CacheKept, walked. -/
import Derived.Test.YtojhledbfaninaaCrsame
import Derived.Test.YtojhledbfaninaaCkeptp
namespace Go.Proofs.Ytojhledbfaninaa
open Go Go.RowKit Go.Shelf Go.Sort
attribute [local go_sem] bneI

theorem u64_nonneg (u : Int) : 0 ≤ IntKind.u64.wrap u := by
  unfold IntKind.wrap
  first | omega | (simp [IntKind.bits, IntKind.signed]; omega) | (simp; omega)
theorem RowE.keepC {W W' : World} {v : Value} {zs : List EM} (h : RowE W v zs) (hk : ∀ a v, W.cell? a = some v → W'.cell? a = some v) : RowE W' v zs := by
  rcases h with h | ⟨h1, b, o, c, rfl, hc⟩
  · exact .inl h
  · exact .inr ⟨h1, b, o, c, rfl, fun i hi k u hu => hk _ _ (hc i hi k u hu)⟩
theorem TextsE.keepC {W W' : World} {B : Nat → Prop} {zs : List EM} (h : TextsE W B zs) (hk : ∀ a v, W.cell? a = some v → W'.cell? a = some v) : TextsE W' B zs := fun s hs => (h s hs).keep fun a v hv _ => hk a v hv
theorem onceH {p q : Prop} (h : p) (f : RowKit.Hid p → q) : q := f (Lib.hid h)
theorem zero6 {W : World} {b : Nat} {v0 v1 v2 v3 v4 v5 : Value} {t : TypeId} (h : W.heap[b]? = some (.cells #[v0, v1, v2, v3, v4, v5] t (0, 0))) :
    (W.cell? ⟨b, 0, none⟩ = some v0 ∧ W.cell? ⟨b, 1, none⟩ = some v1 ∧ W.cell? ⟨b, 2, none⟩ = some v2 ∧ W.cell? ⟨b, 3, none⟩ = some v3 ∧ W.cell? ⟨b, 4, none⟩ = some v4 ∧ W.cell? ⟨b, 5, none⟩ = some v5) ∧
    W.frozen? ⟨b, 0, none⟩ = false ∧ W.frozen? ⟨b, 1, none⟩ = false ∧ W.frozen? ⟨b, 2, none⟩ = false ∧ W.frozen? ⟨b, 3, none⟩ = false ∧ W.frozen? ⟨b, 4, none⟩ = false ∧ W.frozen? ⟨b, 5, none⟩ = false :=
  ⟨box6 h, froz6 h 0, froz6 h 1, froz6 h 2, froz6 h 3, froz6 h 4, froz6 h 5⟩
theorem rowE_one (w : World) (x : EM) (t : TypeId) : RowE (w.alloc (.cells (ecells x).toArray t)) (.slice (some ⟨w.heap.size, 0, none⟩) 1 1) [x] := by
  refine .inr ⟨by simp, w.heap.size, 0, 1, rfl, fun i hi k u hu => ?_⟩
  obtain rfl : i = 0 := by simpa using hi
  have hc := cell_list (w := w) (cs := ecells x) (t := t) rfl k u hu
  rw [addr0] at hc
  simpa using hc
theorem rowE_sub {W : World} {b o n c c' : Nat} {zs : List EM} (h : RowE W (.slice (some ⟨b, o, none⟩) n c) zs) {j : Nat} (hj : j < zs.length) : RowE W (.slice (some ⟨b, o + j * 6, none⟩) 1 c') [zs[j]] := by
  rcases h with ⟨rfl, _⟩ | ⟨_, b', o', c1, e, hc⟩
  · simp at hj
  · injection e with e1 _ _
    injection e1 with e1
    injection e1 with e1 e2 _
    subst e1 e2
    refine .inr ⟨by simp, b, o + j * 6, c', rfl, fun i hi k u hu => ?_⟩
    obtain rfl : i = 0 := by simpa using hi
    simpa using hc j hj k u hu
theorem slice_one (w : World) (b o n c j : Nat) (hj : j + 1 ≤ c) : (Instr.sliceAt 34 (.slice (some ⟨b, o, none⟩) n c) (some (.int .i64 (j : Int))) (some (.int .i64 ((j : Int) + 1))) none).run Try.prog w = .ok (.slice (some ⟨b, o + j * 6, none⟩) 1 (c - j)) w := by
  have hu : Try.prog.underlying 34 = some (.slice (Try.prog.elem 34)) := by kernel_rfl
  have he : Try.prog.elem 34 = 27 := by kernel_rfl
  obtain ⟨i, hi⟩ : ∃ i, Try.prog.info? 27 = some i := Option.isSome_iff_exists.1 (by kernel_rfl)
  have hs : i.size = 6 := by
    have h : (Try.prog.info? 27).map (fun i => i.size) = some 6 := by kernel_rfl
    rw [hi] at h
    simpa using h
  rw [run_sliceAt_slice _ _ _ _ _ _ hu, run_slice_lh _ _ _ _ _ hu _ _ _ _ (by omega) (by omega) (by omega)]
  have e1 : ((j : Int) + 1).toNat = j + 1 := by omega
  have e2 : (j : Int).toNat = j := by omega
  simp [he, sizeOf, typeInfo, hi, hs, sliced, Result.andThen, e1, show ¬ c = j by omega, Addr.add]
set_option maxRecDepth 100000 in
set_option maxHeartbeats 16000000 in
theorem kept_any (W : World) (most : Int) (v1 : Value) (ss : List SM) (h1 : RowS W v1 ss) (t1 : TextsS W Any ss) (hn1 : ss.length ≤ maxLen) (hg : Glob W) :
    Calls Try.prog 4 #[.int .i64 most, v1] W fun e w' => e = .returned (.bool true) ∧ Below W.heap.size W w' := by
  obtain ⟨p1, c1, rfl⟩ := h1.sh
  have HA := Lib.hid (And.intro h1 (And.intro t1 (And.intro hn1 hg)))
  clear h1 t1 hn1 hg
  have hL1 := fun (w : World) (hb : Below W.heap.size W w) => long_any (.slice p1 ss.length c1) (.slice none 0 0) ss [] Any Any w (HA.out.1.keep (below_keep hb)) (.inl ⟨rfl, none, 0, rfl⟩) (HA.out.2.1.keep (below_keep hb)) (fun x hx => by simp at hx) HA.out.2.2.1 (by simp)
  go_enter Try.func4, Try.ntmps4
  go_wp2_with fail
  refine (works_any W HA.out.2.2.2).mono ?_
  rintro e w1 ⟨rfl, hb1⟩
  go_wp2_with fail
  refine (hL1 w1 hb1).mono ?_
  rintro e w2 ⟨⟨r1, rfl, hr1⟩, hb2'⟩
  have hb2 := hb1.trans (hb2'.mono hb1.size)
  clear hL1 hb2' hb1
  cases r1 with
  | true =>
    clear hr1
    have HB := Lib.hid hb2
    clear hb2
    go_wp2_with fail
    refine (works_any w2 (HA.out.2.2.2.keep HB.out)).mono ?_
    rintro e w3 ⟨rfl, hb3⟩
    go_wp2
    refine bodyPost_ret (v := .bool true) (by simp [results, Try.results4, go_sem]) rfl ⟨rfl, HB.out.trans (hb3.mono HB.out.size)⟩
  | false =>
    have hS1 := (hr1 rfl).1
    have hS2 := (hr1 rfl).2.1
    clear hr1
    by_cases h60 : ss.length ≤ 60
    · have h60i : ¬ (60 : Int) < (ss.length : Int) := by omega
      have HS := Lib.hid (And.intro hS1 (And.intro hS2 (And.intro h60 hb2)))
      clear hS1 hS2 h60 hb2
      by_cases hbad : most < 1 ∨ 8 < most
      · have hN := new_bad most w2 hbad
        clear hbad
        go_wp2_with fail
        refine hN.mono ?_
        rintro e w4 ⟨rfl, rfl⟩
        go_wp2
        refine bodyPost_ret (v := .bool true) (by simp [results, Try.results4, go_sem]) rfl ⟨rfl, HS.out.2.2.2⟩
      · have hm1 : 1 ≤ most := by omega
        have hm2 : most ≤ 8 := by omega
        have hN := new_is most w2 Any hm1 hm2
        clear hbad
        go_wp2_with fail
        refine hN.mono ?_
        rintro e w4 ⟨rfl, hb4, hc4, hs4⟩
        have HN := Lib.hid (And.intro hb4 (And.intro hc4 hs4))
        clear hb4 hc4 hs4 hN
        go_wp2_with fail
        go_loopw [7, 8] (fun s7 s8 wr => ∃ (i : Nat) (now : Int) (L : List PE), s8 = .int .i64 (i : Int) ∧ s7 = .int .i64 now ∧ 0 ≤ now ∧ now ≤ 1099511627776 ∧ i ≤ ss.length ∧ CacheIs wr Any (w2.heap.size + 1) w2.heap.size most L ∧ GoodE most L ∧ Below w2.heap.size w2 wr) (fun _ s8 _ => ss.length - natI s8)
        case atStart => exact ⟨0, 0, [], rfl, rfl, by omega, by omega, Nat.zero_le _, HN.out.2.1, ⟨List.Pairwise.nil, by simp, by simp; omega⟩, HN.out.1⟩
        case round =>
          obtain ⟨i, now, L, rfl, rfl, hn0, hnM, hi, hc, hG, hB⟩ := hrel
          generalize hww : wr = wr1 at *
          clear hww
          by_cases hlast : i < ss.length
          · have hli : (i : Int) < (ss.length : Int) := by omega
            have hib : (i : Int) < 60 := by have := HS.out.2.2.1; omega
            obtain ⟨bs, os, hp, hlt, hcell⟩ := HA.out.1.at i hlast
            subst hp
            have hbw : Below W.heap.size W wr1 := HS.out.2.2.2.trans (hB.mono HS.out.2.2.2.size)
            have hkeep := below_keep hbw
            obtain ⟨y0, y1, y2, y3, y4, y5, y6⟩ := hcell i hlast
            replace y0 := hkeep _ _ y0
            replace y1 := hkeep _ _ y1
            replace y2 := hkeep _ _ y2
            replace y3 := hkeep _ _ y3
            replace y4 := hkeep _ _ y4
            replace y5 := hkeep _ _ y5
            replace y6 := hkeep _ _ y6
            have hfit := short_fit (HS.out.2.1 _ (List.getElem_mem hlast))
            have htx := (HA.out.2.1 _ (List.getElem_mem hlast)).keep (fun a v hv _ => hkeep a v hv)
            have hglo := HA.out.2.2.2.keep hbw
            have HB := Lib.hid (And.intro hB (And.intro hG (And.intro hc (And.intro hbw (And.intro hfit (And.intro htx hglo))))))
            clear hcell hkeep hfit htx hglo hc hG hB hbw hlt
            obtain ⟨sx, hsx⟩ : ∃ x, x = ss[i] := ⟨_, rfl⟩
            rw [← hsx] at y0 y1 y2 y3 y4 y5 y6 HB
            clear hsx
            obtain ⟨⟨wh, d1, i1, k1, m1, a1, u1⟩, q1, n1, cc1⟩ := sx
            dsimp only at y0 y1 y2 y3 y4 y5 y6 HB
            go_upto_region 11 with (fail)
            generalize hwC : World.alloc _ _ = wC
            have hBC : Below wr1.heap.size wr1 wC := by rw [← hwC]; exact (Below.refl _ _).alloc (Nat.le_refl _) _
            have hbx : wC.heap[wr1.heap.size]? = some (.cells #[.int .u8 (wh : Int), .string ⟨d1.toArray⟩, .string ⟨i1.toArray⟩, .int .u8 (k1 : Int), .slice q1 n1 cc1, .int .i64 a1, .int .i64 u1] 44 (0, 0)) := by rw [← hwC]; exact ha_eq rfl
            clear hwC y0 y1 y2 y3 y4 y5 y6
            have x0 : wC.cell? ⟨wr1.heap.size, 0, none⟩ = some (.int .u8 (wh : Int)) := by simp [World.cell?, hbx]
            obtain ⟨x1, x2, x3, x4, x5, x6⟩ := box7 hbx
            clear hbx
            go_upto_region 12 with (fail)
            obtain ⟨n2, hn2, hn20, hn2M⟩ : ∃ n2 : Int, n2 = min 1099511627776 (wrap64 (now + wrap64 ((IntKind.u64.wrap u1).tmod 100))) ∧ 0 ≤ n2 ∧ n2 ≤ 1099511627776 := by
              have h0 : 0 ≤ IntKind.u64.wrap u1 := u64_nonneg u1
              have h1 : 0 ≤ (IntKind.u64.wrap u1).tmod 100 := Int.tmod_nonneg _ h0
              have h2 : (IntKind.u64.wrap u1).tmod 100 < 100 := Int.tmod_lt_of_pos _ (by decide)
              generalize (IntKind.u64.wrap u1).tmod 100 = q at h1 h2
              refine ⟨_, rfl, ?_, ?_⟩ <;> (unfold wrap64; omega)
            rw [← hn2]
            clear hn2 hn0 hnM
            have hBc : Below w2.heap.size w2 wC := HB.out.1.trans (hBC.mono HB.out.1.size)
            have hc0 := HB.out.2.2.1.below hBC
            have hA := all_any (w2.heap.size + 1) w2.heap.size most Any L wC hc0 (HB.out.2.1.small hm2) HB.out.2.1.few
            have HK := Lib.hid (And.intro hBC (And.intro hc0 hBc))
            clear hBC hc0 hBc
            go_wp2_with fail
            refine hA.mono ?_
            rintro e w5 ⟨⟨vb, zb, rfl, hmb, hob, htb⟩, hb5⟩
            have hrb := hob.row
            obtain ⟨pb, cb, rfl⟩ := hrb.sh
            have hcb : zb ≠ [] → zb.length ≤ cb := by
              rcases hob with ⟨h, _⟩ | ⟨_, g, c, e, h, _⟩
              · exact fun hn => absurd h hn
              · injection e with _ _ e3
                exact fun _ => by rw [e3]; exact h
            clear hA hob
            have hk5 := below_keep hb5
            replace x0 := hk5 _ _ x0
            replace x1 := hk5 _ _ x1
            replace x2 := hk5 _ _ x2
            replace x3 := hk5 _ _ x3
            replace x4 := hk5 _ _ x4
            replace x5 := hk5 _ _ x5
            replace x6 := hk5 _ _ x6
            have hBr5 : Below wr1.heap.size wr1 w5 := HK.out.1.trans (hb5.mono HK.out.1.size)
            have hc5 := HK.out.2.1.below hb5
            have hB5 : Below w2.heap.size w2 w5 := HK.out.2.2.trans (hb5.mono HK.out.2.2.size)
            have hLe := learn_any (w2.heap.size + 1) w2.heap.size most Any Any L w5 hc5 (HB.out.2.1.small hm2) d1 i1 k1 (q1, n1, cc1) m1 a1 n2 (HB.out.2.2.2.2.2.1.below hBr5) ⟨HB.out.2.2.2.2.1.1, HB.out.2.2.2.2.1.2.1, HB.out.2.2.2.2.1.2.2⟩ (HB.out.2.2.2.2.2.2.keep hBr5)
            unfold pcl shV at hLe
            dsimp only at hLe
            have HL := Lib.hid (And.intro hc5 (And.intro hB5 (And.intro hBr5 (And.intro hmb (And.intro hrb (And.intro (htb.mono (B' := Any) anyB) hcb))))))
            clear hk5 hBr5 hc5 hB5 hmb hrb htb hb5 HK hcb
            go_wp2_with fail
            refine hLe.mono ?_
            rintro e w6 hP
            clear hLe
            have hk6 := fun a v => learn_keep (a := a) (v := v) HL.out.1 hP
            replace x0 := hk6 _ _ x0
            replace x1 := hk6 _ _ x1
            replace x2 := hk6 _ _ x2
            replace x3 := hk6 _ _ x3
            replace x4 := hk6 _ _ x4
            replace x5 := hk6 _ _ x5
            replace x6 := hk6 _ _ x6
            obtain ⟨rr, hrr⟩ : ∃ r : Nat, r = learnB most L ⟨d1, i1, k1, m1, a1, n2⟩ := ⟨_, rfl⟩
            obtain rfl : e = .returned (.int .i64 (rr : Int)) := by rw [hP.1, hrr]
            have hc6 := hP.2.1.mono (B' := Any) anyB
            have hB6 : Below w2.heap.size w2 w6 := HL.out.2.1.grown hP.2.2 HL.out.2.1.size (fun k e => by cases e; exact Nat.le_refl _)
            obtain ⟨L', hL'⟩ : ∃ L', L' = learnS most L ⟨d1, i1, k1, m1, a1, n2⟩ := ⟨_, rfl⟩
            rw [← hL'] at hc6
            have hG' : GoodE most L' := by rw [hL']; exact HB.out.2.1.learn _
            have hA := all_any (w2.heap.size + 1) w2.heap.size most Any L' w6 hc6 (hG'.small hm2) hG'.few
            have HQ := Lib.hid (And.intro hrr (And.intro hL' (And.intro hG' (And.intro hc6 (And.intro hB6 (And.intro (RowE.keepC HL.out.2.2.2.2.1 hk6) (TextsE.keepC HL.out.2.2.2.2.2.1 hk6)))))))
            have htx6 := (HB.out.2.2.2.2.2.1.below HL.out.2.2.1).keep (fun a v hv _ => hk6 a v hv)
            have HX := Lib.hid htx6
            clear hk6 hP hrr hc6 hB6 hL' hG' htx6
            go_wp2_with fail
            refine hA.mono ?_
            rintro e w7 ⟨⟨va, za, rfl, hma, hoa, hta⟩, hb7⟩
            have hra := hoa.row
            obtain ⟨pa, ca, rfl⟩ := hra.sh
            clear hA hoa
            have hk7 := below_keep hb7
            replace x0 := hk7 _ _ x0
            replace x1 := hk7 _ _ x1
            replace x2 := hk7 _ _ x2
            replace x3 := hk7 _ _ x3
            replace x4 := hk7 _ _ x4
            replace x5 := hk7 _ _ x5
            replace x6 := hk7 _ _ x6
            have hc7 := HQ.out.2.2.2.1.below hb7
            have hO := of_any (w2.heap.size + 1) w2.heap.size most Any L' w7 hc7 HQ.out.2.2.1.few d1 n2
            have HR := Lib.hid (And.intro hb7 (And.intro hc7 (And.intro hma (And.intro hra (hta.mono (B' := Any) anyB)))))
            clear hk7 hc7 hma hra hta hb7
            go_wp2_with fail
            refine hO.mono ?_
            rintro e w8 ⟨hPo, hb8⟩
            clear hO
            by_cases hr0 : rr = 0
            · subst hr0
              have hof := of_learned HB.out.2.1 HQ.out.1.symm
              dsimp only at hof
              rw [← HQ.out.2.1] at hof
              have hin := learn_in HQ.out.1.symm
              have hml : m1.length ≤ 1000000 := by have h := hin.2.1; simp [mayE, polB] at h; omega
              have hal : 0 ≤ a1 ∧ a1 ≤ 31557600 := may_age hin.2.1
              have hwr : wrap64 (n2 + a1) = n2 + a1 := by unfold wrap64; omega
              obtain ⟨y, bb, rfl, hfa⟩ : ∃ (y : EM) (bb : Bool), e = .returned (.tuple #[evp y, .bool bb]) ∧ ((0 < a1 ∧ bb = true ∧ y.1 = ⟨d1, i1, k1, m1, a1, n2 + a1⟩ ∧ MxAt w8 Any y.2 m1) ∨ (¬ 0 < a1 ∧ bb = false)) := by
                by_cases hage : 0 < a1
                · rw [if_pos hage] at hof
                  rw [hof] at hPo
                  rcases hPo with ⟨h, _⟩ | ⟨⟨y1, y2⟩, h, rfl, hm⟩
                  · cases h
                  · injection h with h
                    dsimp only at h
                    subst h
                    exact ⟨_, true, rfl, .inl ⟨hage, rfl, rfl, hm.mono anyB⟩⟩
                · rw [if_neg hage] at hof
                  rw [hof] at hPo
                  rcases hPo with ⟨_, rfl⟩ | ⟨y, h, _⟩
                  · exact ⟨zeroM, false, rfl, .inr ⟨hage, rfl⟩⟩
                  · cases h
              obtain ⟨⟨d3, i3, k3, m3, a3, u3⟩, q3, n3, c3⟩ := y
              rw [lit_ev]
              clear hPo hof hin
              have hk8 := below_keep hb8
              replace x0 := hk8 _ _ x0
              replace x1 := hk8 _ _ x1
              replace x2 := hk8 _ _ x2
              replace x3 := hk8 _ _ x3
              replace x4 := hk8 _ _ x4
              replace x5 := hk8 _ _ x5
              replace x6 := hk8 _ _ x6
              have HV := Lib.hid (And.intro hb8 (And.intro hfa (And.intro hml hal)))
              clear hk8 hb8 hfa hml hal
              go_upto_region 16 with (fail)
              generalize hwE : World.alloc _ _ = wE
              have hb8E : Below w8.heap.size w8 wE := by rw [← hwE]; exact (Below.refl _ _).alloc (Nat.le_refl _) _
              have hbx : wE.heap[w8.heap.size]? = some (.cells #[.string ⟨d3.toArray⟩, .string ⟨i3.toArray⟩, .int .u8 (k3 : Int), .slice q3 n3 c3, .int .i64 a3, .int .i64 u3] 27 (0, 0)) := by rw [← hwE]; exact ha_eq rfl
              have hk8 := below_keep hb8E
              replace x0 := hk8 _ _ x0
              replace x1 := hk8 _ _ x1
              replace x2 := hk8 _ _ x2
              replace x3 := hk8 _ _ x3
              replace x4 := hk8 _ _ x4
              replace x5 := hk8 _ _ x5
              replace x6 := hk8 _ _ x6
              obtain ⟨z0, z1, z2, z3, z4, z5⟩ := box6 hbx
              have h7E : Below w7.heap.size w7 wE := HV.out.1.trans (hb8E.mono HV.out.1.size)
              have hlm : ¬ most < (za.length : Int) := by have h1 := congrArg List.length HR.out.2.2.1; have h2 := HQ.out.2.2.1.len; simp at h1; omega
              have HE := Lib.hid (And.intro h7E hb8E)
              clear hwE hb8E hbx hk8 h7E
              go_upto_region 19 with (fail)
              go_cut [122] from 122 to 122 (fun s122 w' => s122 = .bool false ∧ Below w7.heap.size w7 w' ∧ w'.cell? ⟨wr1.heap.size, 1, none⟩ = some (.string ⟨d1.toArray⟩))
              case first => as_aux_lemma =>
                rcases HV.out.2.1 with ⟨hage, rfl, he, hsx⟩ | ⟨hage, rfl⟩
                · injection he with he1 he2 he3 he4 he5 he6
                  subst he1 he2 he3 he4 he5 he6
                  have h6E : Below w6.heap.size w6 wE := HR.out.1.trans (HE.out.1.mono HR.out.1.size)
                  have hPS := polSame_any k3 k3 (q3, n3, c3) (q1, n1, cc1) m3 m3 a3 a3 Any Any wE (hsx.below HE.out.2) (HX.out.below h6E) HV.out.2.2.1 HV.out.2.2.1
                  unfold pcl shV at hPS
                  simp only [decide_true, Bool.and_self] at hPS
                  have h6h := Lib.hid h6E
                  clear hsx h6E
                  go_wp2_with fail
                  refine hPS.mono ?_
                  rintro e w9 ⟨rfl, hb9⟩
                  have h79 : Below w7.heap.size w7 w9 := HE.out.1.trans (hb9.mono HE.out.1.size)
                  replace x1 := below_keep hb9 _ _ x1
                  have H9 := Lib.hid (And.intro h79 x1)
                  clear hPS hb9 x0 x1 x2 x3 x4 x5 x6 z0 z1 z2 z3 z4 z5 h79
                  go_wp2
                  go_meet
                  case rel => exact ⟨by simp; omega, H9.out⟩
                · have H9 := Lib.hid (And.intro HE.out.1 x1)
                  clear x0 x1 x2 x3 x4 x6 z0 z1 z2 z3 z4 z5
                  go_wp2
                  go_meet
                  case rel => exact ⟨by simp; omega, H9.out⟩
              case rest =>
                obtain ⟨rfl, h79, x1⟩ := hcut
                generalize hww : wc = w9 at *
                clear hww HE HV x0 x2 x3 x4 x5 x6 z0 z1 z2 z3 z4 z5
                go_wp2_with fail
                have h69 : Below w6.heap.size w6 w9 := HR.out.1.trans (h79.mono HR.out.1.size)
                have hB9 : Below w2.heap.size w2 w9 := HQ.out.2.2.2.2.1.trans (h69.mono HQ.out.2.2.2.2.1.size)
                have hW9 : Below W.heap.size W w9 := HS.out.2.2.2.trans (hB9.mono HS.out.2.2.2.size)
                have HZ := Lib.hid (And.intro h69 (And.intro h79 (And.intro hB9 (And.intro hW9 x1))))
                clear h69 h79 hB9 hW9 x1 hlm
                clear hwr
                go_loopw [15] (fun s15 wr2 => ∃ j : Nat, s15 = .int .i64 (j : Int) ∧ j ≤ za.length ∧ Below w9.heap.size w9 wr2) (fun s15 _ => za.length - natI s15)
                case atStart => exact ⟨0, rfl, Nat.zero_le _, Below.refl _ _⟩
                case round =>
                  obtain ⟨j, rfl, hj, hBj⟩ := hrel
                  generalize hww : wr = wr2 at *
                  clear hww
                  have hlz : za.length ≤ 1000 := by have h1 := congrArg List.length HR.out.2.2.1; have h2 := HQ.out.2.2.1.small hm2; simp at h1; omega
                  by_cases hjl : j < za.length
                  · have hji : (j : Int) < (za.length : Int) := by omega
                    have hjb : (j : Int) < 1000000 := by omega
                    obtain ⟨ba, oa, hpa, hla, hca⟩ := RowE.at (HR.out.2.2.2.1.below HZ.out.2.1) j hjl
                    subst hpa
                    have hk := fun (q : BW wr2) => hBj.trans (q.h.mono hBj.size)
                    have y0 := fun q : BW wr2 => six_below (hk q) hla (hca j hjl).1
                    have y1 := fun q : BW wr2 => six_below (hk q) hla (hca j hjl).2.1
                    have y2 := fun q : BW wr2 => six_below (hk q) hla (hca j hjl).2.2.1
                    have y3 := fun q : BW wr2 => six_below (hk q) hla (hca j hjl).2.2.2.1
                    have y4 := fun q : BW wr2 => six_below (hk q) hla (hca j hjl).2.2.2.2.1
                    have y5 := fun q : BW wr2 => six_below (hk q) hla (hca j hjl).2.2.2.2.2
                    have hmay : mayE za[j].1 = true := HQ.out.2.2.1.may _ (by rw [← HR.out.2.2.1]; exact List.mem_map.2 ⟨_, List.getElem_mem hjl, rfl⟩)
                    have hMay : ∀ q : BW wr2, Calls Try.prog 18 #[evp za[j]] q.v fun e w'' => e = .returned (.bool true) ∧ ∃ q' : BW wr2, w'' = q'.v := fun q =>
                      (mayE_any za[j] Any q.v ((HR.out.2.2.2.2 _ (List.getElem_mem hjl)).below (HZ.out.2.1.trans ((hk q).mono HZ.out.2.1.size))) (may_fit hmay) (HA.out.2.2.2.keep (HZ.out.2.2.2.1.trans ((hk q).mono HZ.out.2.2.2.1.size)))).mono fun e w'' hh => ⟨by rw [hh.1, hmay], ⟨w'', q.h.trans (hh.2.mono q.h.size)⟩, rfl⟩
                    have hpd := fun (k : Nat) (hk' : k < za.length) (q : BW wr2) => six_below (hk q) hla (hca k hk').1
                    have hord : ∀ (k : Nat) (hk' : k < za.length), k < j → cmpB za[k].1.dom za[j].1.dom < 0 := fun k hk' hkj => by
                      have h := List.pairwise_iff_getElem.1 HQ.out.2.2.1.asc k j (by rw [← HR.out.2.2.1]; simpa using hk') (by rw [← HR.out.2.2.1]; simpa using hjl) hkj
                      simpa only [← HR.out.2.2.1, List.getElem_map] using h
                    have HJ := Lib.hid (And.intro hBj (And.intro hord hpd))
                    clear hBj hord hpd hk hmay hca hla
                    obtain ⟨xa, hxa⟩ : ∃ x, x = za[j] := ⟨_, rfl⟩
                    have HO := Lib.hid (show ∀ (k : Nat) (hk' : k < za.length), k < j → cmpB za[k].1.dom xa.1.dom < 0 by rw [hxa]; exact HJ.out.2.1)
                    rw [← hxa] at y0 y1 y2 y3 y4 y5 hMay
                    clear hxa
                    obtain ⟨⟨d4, i4, k4, m4, a4, u4⟩, q4, n4, c4⟩ := xa
                    dsimp only at y0 y1 y2 y3 y4 y5 HO
                    rw [lit_ev] at hMay
                    go_upto_region 24 with (fail)
                    cases j with
                    | zero => as_aux_lemma =>
                      simp only [Nat.zero_mul, Nat.add_zero] at y0 y1 y2 y3 y4 y5
                      refine wp_region_quiet_below (by kernel_rfl) (by kernel_rfl) ?_
                      repeat (go_big_quiet_step (exact hMay _))
                      refine wpQuiet_nil ?_
                      intro w5' hw'
                      have hb5 : Below wr2.heap.size wr2 w5' := by
                        obtain ⟨q, rfl⟩ := hw'
                        exact q.h
                      have HW := Lib.hid (HJ.out.1.trans (hb5.mono HJ.out.1.size))
                      clear hw' hb5 y0 y1 y2 y3 y4 y5 hMay
                      go_wp2
                      go_roundw
                      case rel => exact ⟨0 + 1, by simp, by omega, HW.out⟩
                      case measure => simp [natI]; omega
                    | succ k => as_aux_lemma =>
                      have hkz : k < za.length := by omega
                      have hj1 : ((k + 1 : Nat) : Int) > 0 := by omega
                      have hw1 : wrap64 (((k + 1 : Nat) : Int) - 1) = (k : Int) := by unfold wrap64; omega
                      have hpk := HJ.out.2.2 k hkz
                      have hl2 : Op.bytesLess (⟨za[k].1.dom.toArray⟩ : ByteArray).toList d4 = true := by
                        rw [ByteArray.toList_eq, less_cmp]
                        simpa using HO.out k hkz (Nat.lt_succ_self k)
                      generalize (⟨za[k].1.dom.toArray⟩ : ByteArray) = pd at hpk hl2
                      refine wp_region_quiet_below (by kernel_rfl) (by kernel_rfl) ?_
                      repeat (go_big_quiet_step (exact hMay _))
                      refine wpQuiet_nil ?_
                      intro w5' hw'
                      have hb5 : Below wr2.heap.size wr2 w5' := by
                        obtain ⟨q, rfl⟩ := hw'
                        exact q.h
                      have HW := Lib.hid (HJ.out.1.trans (hb5.mono HJ.out.1.size))
                      clear hw' hb5 y0 y1 y2 y3 y4 y5 hMay hpk hl2
                      go_wp2
                      go_roundw
                      case rel => exact ⟨k + 1 + 1, by simp, by omega, HW.out⟩
                      case measure => simp [natI]; omega
                  · have hji : ¬ (j : Int) < (za.length : Int) := by omega
                    have HJ := Lib.hid hBj
                    clear hBj hj hlz
                    go_wp2_with fail
                    go_loopw [16] (fun s16 wr3 => ∃ j : Nat, s16 = .int .i64 (j : Int) ∧ j ≤ zb.length ∧ Below wr2.heap.size wr2 wr3) (fun s16 _ => zb.length - natI s16)
                    case atStart => exact ⟨0, rfl, Nat.zero_le _, Below.refl _ _⟩
                    case round =>
                      obtain ⟨j, rfl, hj, hB3⟩ := hrel
                      generalize hww : wr = wr3 at *
                      clear hww
                      have h9r : Below w9.heap.size w9 wr3 := HJ.out.trans (hB3.mono HJ.out.size)
                      by_cases hjl : j < zb.length
                      · have hji : (j : Int) < (zb.length : Int) := by omega
                        have hjb : (j : Int) < 1000000 := by have h1 := congrArg List.length HL.out.2.2.2.1; have h2 := HB.out.2.1.small hm2; simp at h1; omega
                        have hcap : (zb.length : Int) ≤ (cb : Int) := by have := HL.out.2.2.2.2.2.2 (fun e => by rw [e] at hjl; cases hjl); omega
                        have h6r : Below w6.heap.size w6 wr3 := HZ.out.1.trans (h9r.mono HZ.out.1.size)
                        have h6d : Below w6.heap.size w6 wr3.drew := h6r.trans ((below_drew wr3).mono h6r.size)
                        have hk := below_keep h6d
                        obtain ⟨bb, ob, hpb, hlb, hcc⟩ := RowE.at HQ.out.2.2.2.2.2.1 j hjl
                        subst hpb
                        obtain ⟨y0, y1, y2, y3, y4, y5⟩ := hcc j hjl
                        replace y0 := hk _ _ y0
                        replace y2 := hk _ _ y2
                        replace y5 := hk _ _ y5
                        have hmem : zb[j].1 ∈ L := by rw [← HL.out.2.2.2.1]; exact List.mem_map.2 ⟨_, List.getElem_mem hjl, rfl⟩
                        have hun := may_unt (HB.out.2.1.may _ hmem)
                        have hwu : wrap64 (zb[j].1.unt - 1) = zb[j].1.unt - 1 := by unfold wrap64; omega
                        have hwi : IntKind.i64.wrap (zb[j].1.unt - 1) = zb[j].1.unt - 1 := by
                          unfold IntKind.wrap
                          simp [IntKind.bits, IntKind.signed]
                          omega
                        have hst : zb[j].1.mode = 3 → n2 < zb[j].1.unt → zb[j].1.dom ≠ d1 → ofE zb[j].1.dom (zb[j].1.unt - 1) L' = some zb[j].1 := fun a b c => by rw [HQ.out.2.1]; exact of_kept (x := ⟨d1, i1, k1, m1, a1, n2⟩) HB.out.2.1 hmem a b c
                        have hOf : ∀ W' : World, Below wr3.heap.size wr3 W' → Calls Try.prog 7 #[.pointer (some ⟨w2.heap.size + 1, 0, none⟩), .string ⟨zb[j].1.dom.toArray⟩, .int .i64 (zb[j].1.unt - 1)] W' (fun e w'' => ∃ (y : EM) (b : Bool), e = .returned (.tuple #[evp y, .bool b]) ∧ (zb[j].1.mode = 3 → n2 < zb[j].1.unt → zb[j].1.dom ≠ d1 → b = true ∧ y.1 = zb[j].1 ∧ MxAt w'' (fun k => W'.heap.size ≤ k) y.2 y.1.mx) ∧ Below W'.heap.size W' w'' ∧ Below wr3.heap.size wr3 w'') := fun W' hW' =>
                          (of_any (w2.heap.size + 1) w2.heap.size most Any L' W' ((HQ.out.2.2.2.1.below h6r).below hW') HQ.out.2.2.1.few zb[j].1.dom (zb[j].1.unt - 1)).mono fun e w'' hh => by
                            obtain ⟨hp, hb⟩ := hh
                            rcases hp with ⟨h, rfl⟩ | ⟨y, h, rfl, hm⟩
                            · exact ⟨zeroM, false, rfl, fun a b c => (by rw [hst a b c] at h; cases h), hb, hW'.trans (hb.mono hW'.size)⟩
                            · exact ⟨y, true, rfl, fun a b c => (by rw [hst a b c] at h; injection h with h; exact ⟨rfl, h.symm, hm⟩), hb, hW'.trans (hb.mono hW'.size)⟩
                        have hrow : ∀ c' : Nat, RowE wr3.drew (.slice (some ⟨bb, ob + j * 6, none⟩) 1 c') [zb[j]] := fun c' => (rowE_sub HQ.out.2.2.2.2.2.1 hjl).below h6d
                        have htb := (HQ.out.2.2.2.2.2.2 _ (List.getElem_mem hjl)).below h6d
                        have hfew := HB.out.2.1.few _ hmem
                        have x1 := below_keep (h9r.trans ((below_drew wr3).mono h9r.size)) _ _ HZ.out.2.2.2.2
                        have HN3 := Lib.hid (And.intro hB3 (And.intro hrow (And.intro htb (And.intro hfew x1))))
                        clear hB3 h9r h6r h6d hk hlb hcc y1 y3 y4 hmem hst hrow htb hfew x1
                        obtain ⟨xb, hxb⟩ : ∃ x, x = zb[j] := ⟨_, rfl⟩
                        rw [← hxb] at y0 y2 y5 hun hwu hwi hOf HN3
                        clear hxb
                        obtain ⟨⟨d4, i4, k4, m4, a4, u4⟩, q4, n4, c4⟩ := xb
                        dsimp only at y0 y2 y5 hun hwu hwi hOf HN3
                        go_upto_region 29 with (fail)
                        have hS0 : ∀ W' : World, (∀ a v, wr3.drew.cell? a = some v → W'.cell? a = some v) → (W'.cell? ⟨bb, ob + j * 6, none⟩ = some (.string ⟨d4.toArray⟩) ∧ W'.cell? ⟨bb, ob + j * 6 + 5, none⟩ = some (.int .i64 u4)) := fun W' hk => ⟨hk _ _ y0, hk _ _ y5⟩
                        have hS1 := hS0 wr3.drew (fun _ _ h => h)
                        have hba : ∀ o, Below wr3.heap.size wr3 (wr3.alloc o).drew := fun o => ((Below.refl _ wr3).alloc (Nat.le_refl _) o).trans ((below_drew (wr3.alloc o)).mono (by simp))
                        have hSb := fun (W' : World) (hb : Below wr3.heap.size wr3 W') => hS0 W' (fun a v h => below_keep hb a v h)
                        clear hS0
                        apply onceH
                        case f =>
                          intro hfin
                          go_region_held3 (fun W' => W'.cell? ⟨bb, ob + j * 6, none⟩ = some (.string ⟨d4.toArray⟩) ∧ W'.cell? ⟨bb, ob + j * 6 + 5, none⟩ = some (.int .i64 u4))
                            ((first | with_reducible exact hS1 | with_reducible exact hS5 | (refine hSb _ ?_; first | with_reducible exact hba _ | with_reducible exact hb3.alloc hb3.size _ | ((repeat (refine Below.setCell ?_ (by dsimp only; omega) _)); with_reducible exact hb3))))
                            ((go_at_call 7; refine (hOf _ (by first | exact below_drew wr3 | exact hba _)).mono ?_; rintro e w5' ⟨⟨⟨d5, i5, k5, m5, a5, u5⟩, q5, n5, c5⟩, b5, rfl, hcond, hb5, hb3⟩; rw [lit_ev]; dsimp only at hcond; have hS5 := hSb w5' hb3; try (obtain ⟨⟨z0, z1, z2, z3, z4, z5⟩, f0, f1, f2, f3, f4, f5⟩ := zero6 ((hb5.block _ (by simp)).trans (ha_eq rfl)))))
                          · generalize hW3 : World.alloc _ _ = W3
                            generalize hAA : w5'.heap.size = A
                            have hA3 : W3.heap[A]? = some (.cells #[.string ⟨d5.toArray⟩, .string ⟨i5.toArray⟩, .int .u8 (k5 : Int), .slice q5 n5 c5, .int .i64 a5, .int .i64 u5] 27 (0, 0)) := by rw [← hW3, ← hAA]; exact ha_eq rfl
                            have hB3' : Below wr3.heap.size wr3 W3 := by rw [← hW3]; exact hb3.alloc hb3.size _
                            have hc3 : k4 = 3 → n2 < u4 → d4 ≠ d1 → b5 = true ∧ (⟨d5, i5, k5, m5, a5, u5⟩ : PE) = ⟨d4, i4, k4, m4, a4, u4⟩ ∧ MxAt W3 Any (q5, n5, c5) m5 := fun a b c => ⟨(hcond a b c).1, (hcond a b c).2.1, ((hcond a b c).2.2.mono anyB).below (by rw [← hW3]; exact (Below.refl _ _).alloc (Nat.le_refl _) _)⟩
                            clear hW3 hAA hcond hb5 hb3 hS5
                            repeat (rename_i hq; clear hq)
                            revert hA3 hB3' hc3
                            revert d5 i5 k5 m5 a5 u5 q5 n5 c5 b5 W3 A
                            exact hfin.out
                          · have hz := (hb5.block wr3.heap.size (by simp)).trans (ha_eq rfl)
                            generalize hW3 : World.setCell _ _ _ = W3
                            generalize hAA : wr3.heap.size = A
                            have hA3 : W3.heap[A]? = some (.cells #[.string ⟨d5.toArray⟩, .string ⟨i5.toArray⟩, .int .u8 (k5 : Int), .slice q5 n5 c5, .int .i64 a5, .int .i64 u5] 27 (0, 0)) := by rw [← hW3, ← hAA]; exact set6 hz _ _ _ _ _ _
                            have hB3' : Below wr3.heap.size wr3 W3 := by
                              rw [← hW3]
                              repeat (refine Below.setCell ?_ (by dsimp only; omega) _)
                              exact hb3
                            have hc3 : k4 = 3 → n2 < u4 → d4 ≠ d1 → b5 = true ∧ (⟨d5, i5, k5, m5, a5, u5⟩ : PE) = ⟨d4, i4, k4, m4, a4, u4⟩ ∧ MxAt W3 Any (q5, n5, c5) m5 := fun a b c => ⟨(hcond a b c).1, (hcond a b c).2.1, by
                              refine MxAt.mono (B := fun k => wr3.heap.size + 1 ≤ k) ?_ anyB
                              rw [← hW3]
                              repeat (first | with_reducible exact (by simpa using (hcond a b c).2.2) | refine MxAt.setCell ?_ (by intro k hk; dsimp only at *; omega))⟩
                            clear hW3 hAA hcond hb5 hb3 hS5 hz z0 z1 z2 z3 z4 z5 f0 f1 f2 f3 f4 f5
                            repeat (rename_i hq; clear hq)
                            revert hA3 hB3' hc3
                            revert d5 i5 k5 m5 a5 u5 q5 n5 c5 b5 W3 A
                            exact hfin.out
                        intro d5 i5 k5 m5 a5 u5 q5 n5 c5 b5 W3 A hA3 hB3' hc3
                        have Y0 := fun q : BW W3 => below_keep q.h _ _ (below_keep hB3' _ _ (show wr3.cell? _ = _ from y0))
                        have Y2 := fun q : BW W3 => below_keep q.h _ _ (below_keep hB3' _ _ (show wr3.cell? _ = _ from y2))
                        have Y5 := fun q : BW W3 => below_keep q.h _ _ (below_keep hB3' _ _ (show wr3.cell? _ = _ from y5))
                        have X1 := fun q : BW W3 => below_keep q.h _ _ (below_keep hB3' _ _ (show wr3.cell? _ = _ from HN3.out.2.2.2.2))
                        clear y0 y2 y5 hOf hba hSb hS1 hwu hwi
                        go_upto_region 30 with (fail)
                        by_cases hm3 : k4 = 3
                        · have hm3i : ((k4 : Int) == 3) = true := by rw [hm3]; rfl
                          have hm3d : decide ((k4 : Int) = 3) = true := by rw [hm3]; rfl
                          by_cases hu3 : n2 < u4
                          · by_cases hd3 : d4 = d1
                            · as_aux_lemma =>
                              have hd3i : (d4 == d1) = true := by rw [hd3]; simp
                              have hd3d : decide (d4 = d1) = true := by rw [hd3]; simp
                              refine wp_region_quiet_below (by kernel_rfl) (by kernel_rfl) ?_
                              repeat (go_big_quiet_step (fail))
                              refine wpQuiet_nil ?_
                              intro w6' hw'
                              have hb6 : Below W3.heap.size W3 w6' := by
                                obtain ⟨q, rfl⟩ := hw'
                                exact q.h
                              have HW := Lib.hid ((HN3.out.1.trans (hB3'.mono HN3.out.1.size)).trans (hb6.mono (Nat.le_trans HN3.out.1.size hB3'.size)))
                              clear hw' hb6 Y0 Y2 Y5 X1 hA3 hB3' hc3
                              go_wp2
                              go_roundw
                              case rel => exact ⟨j + 1, by simp, by omega, HW.out⟩
                              case measure => simp [natI]; omega
                            · have hd3i : (d4 == d1) = false := by simpa using hd3
                              have hd3d : decide (d4 = d1) = false := by simpa using hd3
                              obtain ⟨rfl, he, hmx5⟩ := hc3 hm3 hu3 hd3
                              obtain ⟨rfl, rfl, rfl, rfl, rfl, rfl⟩ : d5 = d4 ∧ i5 = i4 ∧ k5 = k4 ∧ m5 = m4 ∧ a5 = a4 ∧ u5 = u4 := by
                                injection he with e1 e2 e3 e4 e5 e6
                                exact ⟨e1, e2, e3, e4, e5, e6⟩
                              clear he hc3
                              subst hm3
                              obtain ⟨g0, g1, g2, g3, g4, g5⟩ := box6 hA3
                              have y0 := Y0 ⟨W3, Below.refl _ _⟩
                              have y2 := Y2 ⟨W3, Below.refl _ _⟩
                              have y5 := Y5 ⟨W3, Below.refl _ _⟩
                              have x1 := X1 ⟨W3, Below.refl _ _⟩
                              dsimp only at y0 y2 y5 x1
                              have hS0 : ∀ W' : World, (∀ a v, W3.cell? a = some v → W'.cell? a = some v) → (W'.cell? ⟨bb, ob + j * 6, none⟩ = some (.string ⟨d5.toArray⟩) ∧ W'.cell? ⟨bb, ob + j * 6 + 2, none⟩ = some (.int .u8 3) ∧ W'.cell? ⟨bb, ob + j * 6 + 5, none⟩ = some (.int .i64 u5) ∧ W'.cell? ⟨wr1.heap.size, 1, none⟩ = some (.string ⟨d1.toArray⟩) ∧ W'.cell? ⟨A, 0, none⟩ = some (.string ⟨d5.toArray⟩) ∧ W'.cell? ⟨A, 1, none⟩ = some (.string ⟨i5.toArray⟩) ∧ W'.cell? ⟨A, 2, none⟩ = some (.int .u8 3) ∧ W'.cell? ⟨A, 3, none⟩ = some (.slice q5 n5 c5) ∧ W'.cell? ⟨A, 4, none⟩ = some (.int .i64 a5) ∧ W'.cell? ⟨A, 5, none⟩ = some (.int .i64 u5)) := fun W' hk => ⟨hk _ _ y0, hk _ _ y2, hk _ _ y5, hk _ _ x1, hk _ _ g0, hk _ _ g1, hk _ _ g2, hk _ _ g3, hk _ _ g4, hk _ _ g5⟩
                              have hSb := fun (W' : World) (hb : Below W3.heap.size W3 W') => hS0 W' (fun a v h => below_keep hb a v h)
                              have hS1 := hSb W3.drew (below_drew W3)
                              have hT1 := told_any (.slice (some ⟨W3.heap.size, 0, none⟩) 1 1) [((⟨d5, i5, 3, m5, a5, u5⟩, q5, n5, c5) : EM)] _ ((rowE_one W3 _ 27).below (below_drew _)) (by simp)
                              have hbA : Below W3.heap.size W3 (W3.alloc (.cells (ecells ((⟨d5, i5, 3, m5, a5, u5⟩, q5, n5, c5) : EM)).toArray 27)).drew := ((Below.refl _ W3).alloc (Nat.le_refl _) _).trans ((below_drew _).mono (by simp))
                              have h33 : ((3 : Nat) : Int) = 3 := rfl
                              simp only [ecells, str, shV, h33] at hT1 hbA
                              clear h33
                              have hS2 := hSb _ hbA
                              have hT2 : ∀ (w' : World) (c' : Nat), Below W3.heap.size W3 w' → Calls Try.prog 20 #[.slice (some ⟨bb, ob + j * 6, none⟩) 1 c'] w' (fun e w'' => ∃ v', e = .returned v' ∧ RowE w'' v' [((⟨d5, i5, 3, m5, a5, u5⟩, q4, n4, c4) : EM)] ∧ Below w'.heap.size w' w'') := fun w' c' hb =>
                                told_any _ _ w' (((HN3.out.2.1 c').below (show Below wr3.drew.heap.size wr3.drew W3 from ⟨hB3'.os, hB3'.tape, hB3'.output, hB3'.size, hB3'.block⟩)).below hb) (by simp)
                              have hSm : ∀ (w' : World) (v6 v7 : Value), RowE w' v6 [((⟨d5, i5, 3, m5, a5, u5⟩, q5, n5, c5) : EM)] → RowE w' v7 [((⟨d5, i5, 3, m5, a5, u5⟩, q4, n4, c4) : EM)] → Below W3.heap.size W3 w' → Calls Try.prog 19 #[v6, v7] w' (fun e w'' => e = .returned (.bool true) ∧ Below w'.heap.size w' w'') := fun w' v6 v7 r6 r7 hb =>
                                (refSame_any v6 v7 _ _ Any Any w' r6 r7 (fun x hx => by rw [List.mem_singleton] at hx; subst hx; exact hmx5.below hb) (fun x hx => by rw [List.mem_singleton] at hx; subst hx; exact (HN3.out.2.2.1.below (show Below wr3.drew.heap.size wr3.drew W3 from ⟨hB3'.os, hB3'.tape, hB3'.output, hB3'.size, hB3'.block⟩)).below hb) (fun x hx => by rw [List.mem_singleton] at hx; subst hx; exact HN3.out.2.2.2.1) (by simp)).mono fun e w'' hh => ⟨by rw [hh.1]; simp, hh.2⟩
                              have HW0 := Lib.hid (And.intro (HN3.out.1.trans (hB3'.mono HN3.out.1.size)) (Nat.le_trans HN3.out.1.size hB3'.size))
                              have hsl := fun w : World => slice_one w bb ob zb.length cb j (by omega)
                              have hwj : IntKind.i64.wrap ((j : Int) + 1) = (j : Int) + 1 := by
                                rw [IntKind.wrap_i64]
                                omega
                              clear Y0 Y2 Y5 X1 hS0 hmx5 hB3' hA3 g0 g1 g2 g3 g4 g5 y0 y2 y5 x1
                              go_region_held3 (fun W' => W'.cell? ⟨bb, ob + j * 6, none⟩ = some (.string ⟨d5.toArray⟩) ∧ W'.cell? ⟨bb, ob + j * 6 + 2, none⟩ = some (.int .u8 3) ∧ W'.cell? ⟨bb, ob + j * 6 + 5, none⟩ = some (.int .i64 u5) ∧ W'.cell? ⟨wr1.heap.size, 1, none⟩ = some (.string ⟨d1.toArray⟩) ∧ W'.cell? ⟨A, 0, none⟩ = some (.string ⟨d5.toArray⟩) ∧ W'.cell? ⟨A, 1, none⟩ = some (.string ⟨i5.toArray⟩) ∧ W'.cell? ⟨A, 2, none⟩ = some (.int .u8 3) ∧ W'.cell? ⟨A, 3, none⟩ = some (.slice q5 n5 c5) ∧ W'.cell? ⟨A, 4, none⟩ = some (.int .i64 a5) ∧ W'.cell? ⟨A, 5, none⟩ = some (.int .i64 u5))
                                ((first | with_reducible exact hS1 | with_reducible exact hS2 | with_reducible exact hS5 | with_reducible exact hS6 | with_reducible exact hS7 | fail "S"))
                                ((first
                                  | (go_at_call 19; refine (hSm w7 v6 v7 hr6' hr7 hb7').mono ?_; rintro e w8' ⟨rfl, hb8⟩; have hb8' := hb7'.trans (hb8.mono hb7'.size); have hS7 := hSb w8' hb8')
                                  | (go_at_call 20; refine (hT2 w6' _ hb6').mono ?_; rintro e w7 ⟨v7, rfl, hr7, hb7⟩; have hr6' := hr6.below hb7; have hb7' := hb6'.trans (hb7.mono hb6'.size); have hS6 := hSb w7 hb7')
                                  | (go_at_call 20; refine hT1.mono ?_; rintro e w6' ⟨v6, rfl, hr6, hb6⟩; have hb6' := hbA.trans (hb6.mono hbA.size); have hS5 := hSb w6' hb6')))
                              have HW := Lib.hid (HW0.out.1.trans (hb8'.mono HW0.out.2))
                              clear hT1 hT2 hSm hS1 hS2 hS5 hS6 hS7 hSb hbA hb6 hb6' hb7 hb7' hb8 hb8' hr6 hr6' hr7
                              go_wp2
                              go_roundw
                              case rel => exact ⟨j + 1, by simp, by omega, HW.out⟩
                              case measure => simp [natI]; omega
                          · as_aux_lemma =>
                            refine wp_region_quiet_below (by kernel_rfl) (by kernel_rfl) ?_
                            repeat (go_big_quiet_step (fail))
                            refine wpQuiet_nil ?_
                            intro w6' hw'
                            have hb6 : Below W3.heap.size W3 w6' := by
                              obtain ⟨q, rfl⟩ := hw'
                              exact q.h
                            have HW := Lib.hid ((HN3.out.1.trans (hB3'.mono HN3.out.1.size)).trans (hb6.mono (Nat.le_trans HN3.out.1.size hB3'.size)))
                            clear hw' hb6 Y0 Y2 Y5 X1 hA3 hB3' hc3
                            go_wp2
                            go_roundw
                            case rel => exact ⟨j + 1, by simp, by omega, HW.out⟩
                            case measure => simp [natI]; omega
                        · as_aux_lemma =>
                          have hm3i : ((k4 : Int) == 3) = false := by simp; omega
                          have hm3d : decide ((k4 : Int) = 3) = false := by simp; omega
                          refine wp_region_quiet_below (by kernel_rfl) (by kernel_rfl) ?_
                          repeat (go_big_quiet_step (fail))
                          refine wpQuiet_nil ?_
                          intro w6' hw'
                          have hb6 : Below W3.heap.size W3 w6' := by
                            obtain ⟨q, rfl⟩ := hw'
                            exact q.h
                          have HW := Lib.hid ((HN3.out.1.trans (hB3'.mono HN3.out.1.size)).trans (hb6.mono (Nat.le_trans HN3.out.1.size hB3'.size)))
                          clear hw' hb6 Y0 Y2 Y5 X1 hA3 hB3' hc3
                          go_wp2
                          go_roundw
                          case rel => exact ⟨j + 1, by simp, by omega, HW.out⟩
                          case measure => simp [natI]; omega
                      · have hji : ¬ (j : Int) < (zb.length : Int) := by omega
                        have HF := Lib.hid (And.intro (HQ.out.2.2.2.1.below (HZ.out.1.trans (h9r.mono HZ.out.1.size))) (HZ.out.2.2.1.trans (h9r.mono HZ.out.2.2.1.size)))
                        clear hB3 h9r hj
                        go_wp2
                        go_roundw
                        case rel => exact ⟨i + 1, n2, L', by simp, rfl, hn20, hn2M, by omega, HF.out.1, HQ.out.2.2.1, HF.out.2⟩
                        case measure => simp [natI]; omega
            · as_aux_lemma =>
              have hLL : L' = L := by rw [HQ.out.2.1, learnS_bad (by rw [← HQ.out.1]; exact hr0)]
              obtain ⟨y, bb, rfl⟩ : ∃ (y : EM) (bb : Bool), e = .returned (.tuple #[evp y, .bool bb]) := by
                rcases hPo with ⟨_, rfl⟩ | ⟨y, _, rfl, _⟩
                · exact ⟨zeroM, false, rfl⟩
                · exact ⟨y, true, rfl⟩
              obtain ⟨⟨d3, i3, k3, m3, a3, u3⟩, q3, n3, c3⟩ := y
              rw [lit_ev]
              have hrz : decide (rr = 0) = false := by simpa using hr0
              have HV := Lib.hid hb8
              clear hPo hb8 x0 x1 x2 x3 x4 x5 x6 hr0
              go_upto_region 16 with (fail)
              generalize hwE : World.alloc _ _ = wE
              have hb8E : Below w8.heap.size w8 wE := by rw [← hwE]; exact (Below.refl _ _).alloc (Nat.le_refl _) _
              have h7E : Below w7.heap.size w7 wE := HV.out.trans (hb8E.mono HV.out.size)
              have h6E : Below w6.heap.size w6 wE := HR.out.1.trans (h7E.mono HR.out.1.size)
              have hfb : (∀ x ∈ zb, x.1.mx.length ≤ 1000000) ∧ zb.length ≤ 1000000 := ⟨fun x hx => HB.out.2.1.few _ (by rw [← HL.out.2.2.2.1]; exact List.mem_map.2 ⟨x, hx, rfl⟩), by have h1 := congrArg List.length HL.out.2.2.2.1; have h2 := HB.out.2.1.small hm2; simp at h1; omega⟩
              have hfa : ∀ x ∈ za, x.1.mx.length ≤ 1000000 := fun x hx => HQ.out.2.2.1.few _ (by rw [← HR.out.2.2.1]; exact List.mem_map.2 ⟨x, hx, rfl⟩)
              have hSm := same_any (.slice pb zb.length cb) (.slice pa za.length ca) zb za Any Any wE (HQ.out.2.2.2.2.2.1.below h6E) (HR.out.2.2.2.1.below h7E) (HQ.out.2.2.2.2.2.2.below h6E) (HR.out.2.2.2.2.below h7E) hfb.1 hfa hfb.2
              rw [HL.out.2.2.2.1, HR.out.2.2.1, hLL, decide_eq_true rfl] at hSm
              have HE := Lib.hid (And.intro h6E hLL)
              clear hwE hb8E h7E h6E hfb hfa hLL
              go_wp2_with fail
              refine hSm.mono ?_
              rintro e w9 ⟨rfl, hb9⟩
              have h69 : Below w6.heap.size w6 w9 := HE.out.1.trans (hb9.mono HE.out.1.size)
              have hc9 := HQ.out.2.2.2.1.below h69
              rw [HE.out.2] at hc9
              have HF := Lib.hid (And.intro hc9 (HQ.out.2.2.2.2.1.trans (h69.mono HQ.out.2.2.2.2.1.size)))
              clear hSm hb9 h69 hc9 hrz
              go_wp2
              go_roundw
              case rel => exact ⟨i + 1, n2, L, by simp, rfl, hn20, hn2M, by omega, HF.out.1, HB.out.2.1, HF.out.2⟩
              case measure => simp [natI]; omega
          · have hli : ¬ (i : Int) < (ss.length : Int) := by omega
            have HB := Lib.hid (HS.out.2.2.2.trans (hB.mono HS.out.2.2.2.size))
            clear hB hc hG
            go_wp2
            refine bodyPost_ret (v := .bool true) (by simp [results, Try.results4, go_sem]) rfl ⟨rfl, HB.out⟩
    · have h60i : (60 : Int) < (ss.length : Int) := by omega
      have HB := Lib.hid hb2
      clear hb2 hS1 hS2 h60
      go_wp2_with fail
      refine (works_any w2 (HA.out.2.2.2.keep HB.out)).mono ?_
      rintro e w3 ⟨rfl, hb3⟩
      go_wp2
      refine bodyPost_ret (v := .bool true) (by simp [results, Try.results4, go_sem]) rfl ⟨rfl, HB.out.trans (hb3.mono HB.out.size)⟩
end Go.Proofs.Ytojhledbfaninaa

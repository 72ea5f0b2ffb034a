/- CachePlays: the walk. -/
import Derived.Test.YtojhledbfaninaaGreatZplays
import Derived.Deep.CutRange
namespace Go.Proofs.YtojhledbfaninaaGreat
open Go Go.RowKit Go.Shelf Go.Sort
attribute [local go_sem] bneI

set_option maxRecDepth 100000 in
set_option maxHeartbeats 16000000 in
theorem plays_any (W : World) (most : Int) (v1 : Value) (ss : List SM) (h1 : RowS W v1 ss) (t1 : TextsS W Any ss) (hn1 : ss.length ≤ maxLen) (hg : Glob W) :
    Calls Tryz.prog 3 #[.int .i64 most, v1] W fun e w' => e = .returned (.bool true) ∧ Below W.heap.size W w' := by
  obtain ⟨p1, c1, rfl⟩ := h1.sh
  have HA := Lib.hid (And.intro h1 (And.intro t1 (And.intro hn1 hg)))
  clear h1 t1 hn1 hg
  have hL1 := long_any (.slice p1 ss.length c1) (.slice none 0 0) ss [] Any Any W HA.out.1 (.inl ⟨rfl, none, 0, rfl⟩) HA.out.2.1 (fun x hx => by simp at hx) HA.out.2.2.1 (by simp)
  go_enter Tryz.func3, Tryz.ntmps3
  go_wp2_with fail
  refine hL1.mono ?_
  rintro e w2 ⟨⟨r1, rfl, hr1⟩, hb2⟩
  clear hL1
  cases r1 with
  | true =>
    clear hr1
    have HB := Lib.hid hb2
    clear hb2
    go_wp2_with fail
    refine (works_any w2 (HA.out.2.2.2.keep HB.out)).mono ?_
    rintro e w3 ⟨rfl, hb3⟩
    go_wp2
    refine bodyPost_ret (v := .bool true) (by simp [results, Tryz.results3, go_sem]) rfl ⟨rfl, HB.out.trans (hb3.mono HB.out.size)⟩
  | false =>
    have hS1 := (hr1 rfl).1
    have hS2 := (hr1 rfl).2.1
    clear hr1
    have HS := Lib.hid (And.intro hS1 (And.intro hS2 hb2))
    clear hS1 hS2 hb2
    by_cases hbad : most < 1 ∨ 8 < most
    · have hN := new_bad most w2 hbad
      have hR := refNew_bad most w2 hbad
      clear hbad
      go_wp2_with fail
      refine hN.mono ?_
      rintro e w4 ⟨rfl, rfl⟩
      go_wp2_with fail
      refine hR.mono ?_
      rintro e w4 ⟨rfl, rfl⟩
      clear hN hR
      go_wp2_with fail
      refine (works_any _ (HA.out.2.2.2.keep HS.out.2.2)).mono ?_
      rintro e w5 ⟨rfl, hb5⟩
      have HF := Lib.hid (HS.out.2.2.trans (hb5.mono HS.out.2.2.size))
      clear hb5
      go_wp2
      refine bodyPost_ret (v := .bool true) (by simp [results, Tryz.results3, go_sem]) rfl ⟨rfl, HF.out⟩
    · have hm1 : 1 ≤ most := by omega
      have hm2 : most ≤ 8 := by omega
      have hN := new_is most w2 (fun _ => False) hm1 hm2
      clear hbad
      go_wp2_with fail
      refine hN.mono ?_
      rintro e w3 ⟨rfl, hb3, hc3, hs3⟩
      have hR := refNew_is most w3 hm1 hm2
      have HN := Lib.hid (And.intro hb3 (And.intro hc3 hs3))
      clear hb3 hc3 hs3 hN
      go_wp2_with fail
      refine hR.mono ?_
      rintro e w4 ⟨rfl, hb4, hd4⟩
      clear hR
      obtain ⟨bd, hbd⟩ : ∃ bd, bd = w3.heap.size := ⟨_, rfl⟩
      obtain ⟨bA, hbA⟩ : ∃ b, b = w2.heap.size + 1 := ⟨_, rfl⟩
      obtain ⟨mA, hmA⟩ : ∃ b, b = w2.heap.size := ⟨_, rfl⟩
      have hc4 := HN.out.2.1.below hb4
      have hW4 : Below W.heap.size W w4 := (HS.out.2.2.trans (HN.out.1.mono HS.out.2.2.size)).trans (hb4.mono (HS.out.2.2.trans (HN.out.1.mono HS.out.2.2.size)).size)
      rw [← hbd] at hd4 ⊢
      rw [← hbA, ← hmA] at hc4
      rw [← hbA]
      have hdoc : DocIs w4 (fun _ => False) bd most [] := ⟨_, hd4, .inl ⟨rfl, none, 0, rfl⟩, fun x hx => by simp at hx, fun p n c e => by injection e with e1 e2 e3; subst e1 e2 e3; exact ⟨Nat.le_refl _, fun _ => rfl⟩, fun g hg => by cases hg⟩
      have hne : bA ≠ bd ∧ W.heap.size ≤ bd ∧ W.heap.size ≤ mA := by
        have h1 := HN.out.2.2
        have h2 := HS.out.2.2.size
        omega
      have H4 := Lib.hid (And.intro (hc4.mono (B' := fun k => k ≠ bd) (fun k hk => hk.elim)) (And.intro (hdoc.mono (B' := fun k => k ≠ bd) (fun k hk => hk.elim)) (And.intro hne hW4)))
      clear hbd hbA hmA hc4 hd4 hdoc hne hW4 hb4
      go_wp2_with fail
      go_loopw [5, 9] (fun s5 s9 wr => ∃ (i b bm : Nat) (L : List PE) (zs : List EM), s9 = .int .i64 (i : Int) ∧ s5 = .pointer (some ⟨b, 0, none⟩) ∧ i ≤ ss.length ∧ CacheIs wr (fun k => k ≠ bd) b bm most L ∧ DocIs wr (fun k => k ≠ bd) bd most zs ∧ zs.map (fun e : EM => e.1) = L ∧ GoodE most L ∧ b ≠ bd ∧ (W.heap.size ≤ bd ∧ W.heap.size ≤ bm) ∧ Below W.heap.size W wr) (fun _ s9 _ => ss.length - natI s9)
      case atStart => exact ⟨0, bA, mA, [], [], rfl, rfl, Nat.zero_le _, H4.out.1, H4.out.2.1, rfl, ⟨List.Pairwise.nil, by simp, by simp; omega⟩, H4.out.2.2.1.1, H4.out.2.2.1.2, H4.out.2.2.2⟩
      case round =>
        clear H4 HN
        obtain ⟨i, b, bm, L, zs, rfl, rfl, hi, hc, hd, hz, hG, hnb, hge, hW⟩ := hrel
        generalize hww : wr = wr1 at *
        clear hww
        by_cases hlast : i < ss.length
        · have hli : (i : Int) < (ss.length : Int) := by omega
          have hib : (i : Int) < 400 := by have := HS.out.1; omega
          obtain ⟨bs, os, hp, hlt, hcell⟩ := HA.out.1.at i hlast
          subst hp
          have hkeep := below_keep hW
          obtain ⟨y0, y1, y2, y3, y4, y5, y6⟩ := hcell i hlast
          replace y0 := hkeep _ _ y0
          replace y1 := hkeep _ _ y1
          replace y2 := hkeep _ _ y2
          replace y3 := hkeep _ _ y3
          replace y4 := hkeep _ _ y4
          replace y5 := hkeep _ _ y5
          replace y6 := hkeep _ _ y6
          have hsh := HS.out.2.1 _ (List.getElem_mem hlast)
          have htx := (HA.out.2.1 _ (List.getElem_mem hlast)).lts
          have HB := Lib.hid (And.intro hc (And.intro hd (And.intro hz (And.intro hG (And.intro hnb (And.intro hge (And.intro hW (And.intro hsh htx))))))))
          clear hcell hkeep hsh htx hc hd hz hG hnb hge hW hlt
          obtain ⟨sx, hsx⟩ : ∃ x, x = ss[i] := ⟨_, rfl⟩
          rw [← hsx] at y0 y1 y2 y3 y4 y5 y6 HB
          clear hsx
          obtain ⟨⟨wh, d1, i1, k1, m1, a1, u1⟩, q1, n1, cc1⟩ := sx
          dsimp only at y0 y1 y2 y3 y4 y5 y6 HB
          go_upto_region 13 with (fail)
          generalize hwC : World.alloc _ _ = wC
          have hBC : Below wr1.heap.size wr1 wC := by rw [← hwC]; exact (Below.refl _ _).alloc (Nat.le_refl _) _
          have hbx : wC.heap[wr1.heap.size]? = some (.cells #[.int .u8 (wh : Int), .string ⟨d1.toArray⟩, .string ⟨i1.toArray⟩, .int .u8 (k1 : Int), .slice q1 n1 cc1, .int .i64 a1, .int .i64 u1] 36 (0, 0)) := by rw [← hwC]; exact ha_eq rfl
          obtain ⟨sb, hsb⟩ : ∃ sb, sb = wr1.heap.size := ⟨_, rfl⟩
          rw [← hsb] at hbx ⊢
          have hsbl : sb < wC.heap.size := (Array.getElem?_eq_some_iff.1 hbx).1
          clear hwC y0 y1 y2 y3 y4 y5 y6
          have hCo := copyC_any b bm most _ L wC (HB.out.1.ltsB.below hBC)
          have HC := Lib.hid (And.intro hBC (And.intro hbx (And.intro hsb hsbl)))
          clear hBC hbx hsb hsbl
          go_wp2_with fail
          refine hCo.mono ?_
          rintro e w5 ⟨b2, bm2, rfl, hm2', hbb, hc2, hb5⟩
          clear hCo
          have hCd := refCopyC_any bd _ most zs w5 ((HB.out.2.1.below HC.out.1).below hb5)
          have H5 := Lib.hid (And.intro hm2' (And.intro hbb (And.intro hc2 hb5)))
          clear hm2' hbb hc2 hb5
          go_wp2_with fail
          refine hCd.mono ?_
          rintro e w6 ⟨rfl, hd6, hb6⟩
          clear hCd
          obtain ⟨d2, hd2⟩ : ∃ d2, d2 = w5.heap.size := ⟨_, rfl⟩
          rw [← hd2] at hd6 ⊢
          have h16 : Below wr1.heap.size wr1 w6 := by
            have h1 := HC.out.1.trans (H5.out.2.2.2.mono HC.out.1.size)
            exact h1.trans (hb6.mono h1.size)
          have hW6 : Below W.heap.size W w6 := HB.out.2.2.2.2.2.2.1.trans (h16.mono HB.out.2.2.2.2.2.2.1.size)
          have hsz : wr1.heap.size ≤ wC.heap.size ∧ wC.heap.size ≤ w5.heap.size := ⟨HC.out.1.size, H5.out.2.2.2.size⟩
          have hDuo : Duo W w6 (fun k => k ≠ bd ∧ k < w6.heap.size) most bd b bm L zs b2 bm2 d2 L zs := by
            have hbl := HB.out.1.blt
            have hdl := HB.out.2.1.lt
            refine ⟨hW6, (HB.out.1.below h16).ltsB, (HB.out.2.1.below h16).lts, ((H5.out.2.2.1.mono (fun k hk => hk.1)).below hb6).ltsB, hd6.lts, HB.out.2.2.2.2.1, ?_, ?_, ?_, fun k hk => hk.1, HB.out.2.2.2.2.2.1⟩
            · have := H5.out.1; have := H5.out.2.1; omega
            · omega
            · have := H5.out.1; omega
          have hbx6 := (hb6.block _ (Nat.lt_of_lt_of_le HC.out.2.2.2 hsz.2)).trans ((H5.out.2.2.2.block _ HC.out.2.2.2).trans HC.out.2.1)
          have hsb6 : sb < w6.heap.size := (Array.getElem?_eq_some_iff.1 hbx6).1
          have hsbW : sb ≠ bd ∧ W.heap.size ≤ sb := by
            have h1 := HC.out.2.2.1
            have h2 := HB.out.2.1.lt
            have h3 := HB.out.2.2.2.2.2.2.1.size
            omega
          have x0 : w6.cell? ⟨sb, 0, none⟩ = some (.int .u8 (wh : Int)) := by simp [World.cell?, hbx6]
          obtain ⟨x1, x2, x3, x4, x5, x6⟩ := box7 hbx6
          have hmx6 : MxAt w6 (fun k => k < W.heap.size) (q1, n1, cc1) m1 := (HB.out.2.2.2.2.2.2.2.2.mono (fun k hk => hk.2)).below hW6
          have hmn : m1.length ≤ 1000000 := by have := HB.out.2.2.2.2.2.2.2.1.2.2.1; dsimp only at this; omega
          have hPc := polCopyL_any k1 (q1, n1, cc1) m1 a1 _ w6 hmx6 hmn
          unfold pcl shV at hPc
          dsimp only at hPc
          have H6 := Lib.hid (And.intro hDuo (And.intro hbx6 (And.intro hsb6 (And.intro hsbW hmn))))
          have HT := Lib.hid (And.intro HB.out.2.2.1 (And.intro HB.out.2.2.2.1 HB.out.2.2.2.2.2.2.2))
          clear hDuo hbx6 hsb6 hsbW hmx6 hmn h16 hW6 hsz hb6 hd6 hd2 HB HC H5
          go_wp2_with fail
          refine hPc.mono ?_
          rintro e w7 ⟨⟨qp, np, cp⟩, rfl, hm7, hb7⟩
          clear hPc
          have hk7 := below_keep hb7
          replace x0 := hk7 _ _ x0
          replace x1 := hk7 _ _ x1
          replace x2 := hk7 _ _ x2
          replace x3 := hk7 _ _ x3
          replace x4 := hk7 _ _ x4
          replace x5 := hk7 _ _ x5
          replace x6 := hk7 _ _ x6
          have H7 := Lib.hid (And.intro hm7 hb7)
          clear hk7 hm7 hb7
          go_upto_region 15 with (fail)
          generalize hwE : World.alloc _ _ = w8
          have hb78 : Below w7.heap.size w7 w8 := by rw [← hwE]; exact (Below.refl _ _).alloc (Nat.le_refl _) _
          have hpx : w8.heap[w7.heap.size]? = some (.cells #[.int .u8 (k1 : Int), .slice qp np cp, .int .i64 a1] 34 (0, 0)) := by rw [← hwE]; exact ha_eq rfl
          obtain ⟨pb, hpb⟩ : ∃ pb, pb = w7.heap.size := ⟨_, rfl⟩
          rw [← hpb] at hpx ⊢
          have hpbl : pb < w8.heap.size := (Array.getElem?_eq_some_iff.1 hpx).1
          have hk8 := below_keep hb78
          replace x0 := hk8 _ _ x0
          replace x1 := hk8 _ _ x1
          replace x2 := hk8 _ _ x2
          replace x3 := hk8 _ _ x3
          replace x4 := hk8 _ _ x4
          replace x5 := hk8 _ _ x5
          replace x6 := hk8 _ _ x6
          have z0 : w8.cell? ⟨pb, 0, none⟩ = some (.int .u8 (k1 : Int)) := by simp [World.cell?, hpx]
          have z1 : w8.cell? ⟨pb, 1, none⟩ = some (.slice qp np cp) := by simp [World.cell?, hpx]
          have z2 : w8.cell? ⟨pb, 2, none⟩ = some (.int .i64 a1) := by simp [World.cell?, hpx]
          have hb68 : Below w6.heap.size w6 w8 := H7.out.2.trans (hb78.mono H7.out.2.size)
          have hD8 := H6.out.1.below hb68
          have hPA : PAt w8 w6.heap.size pb (qp, np, cp) := (PAt.of (hi := pb) H7.out.1 (by omega)).keep hk8 (fun k h1 h2 h3 => h3.below hb78)
          have hmp : MxAt w8 (fun k => w6.heap.size ≤ k) (qp, np, cp) m1 := (H7.out.1.mono (fun k hk => hk.1)).below hb78
          have hlts : b < w6.heap.size ∧ b2 < w6.heap.size ∧ d2 < w6.heap.size ∧ bd < w6.heap.size ∧ bm < w6.heap.size ∧ w6.heap.size ≤ pb ∧ pb < w8.heap.size ∧ sb < w6.heap.size ∧ sb ≠ bd := ⟨H6.out.1.c1.blt.1, H6.out.1.c2.blt.1, H6.out.1.dd.lt, H6.out.1.d1.lt, H6.out.1.c1.blt.2, by rw [hpb]; exact H7.out.2.size, hpbl, H6.out.2.2.1, H6.out.2.2.2.1.1⟩
          have H8 := Lib.hid (And.intro hD8 (And.intro hPA (And.intro hmp (And.intro hlts (And.intro H6.out.2.2.2.2 hb68)))))
          clear hwE hb78 hpx hpb hpbl hk8 hb68 hD8 hPA hmp hlts H7 H6
          go_upto_if 63 with (fail)
          go_cut [5, 14, 15, 16, 17] from 63 to 112 (fun s5 _ _ _ _ w' => ∃ (b' bm' : Nat) (L' : List PE) (zs' : List EM), s5 = .pointer (some ⟨b', 0, none⟩) ∧ Duo W w' (fun k => k ≠ bd) most bd b' bm' L' zs' b2 bm2 d2 L zs ∧ zs'.map (fun e : EM => e.1) = L' ∧ GoodE most L' ∧ w'.cell? ⟨sb, 1, none⟩ = some (.string ⟨d1.toArray⟩) ∧ w'.cell? ⟨sb, 6, none⟩ = some (.int .i64 u1))
          case first =>
            by_cases hwh : wh = 0
            · have hw0 : ((wh : Int) == 0) = true := by rw [hwh]; rfl
              have hw0d : decide ((wh : Int) = 0) = true := by rw [hwh]; rfl
              clear hwh
              have hglo := HA.out.2.2.2.keep H8.out.1.wb
              have hLe := learn_any b bm most _ (fun k => w6.heap.size ≤ k) L w8 H8.out.1.c1 (HT.out.2.1.small hm2) d1 i1 k1 (qp, np, cp) m1 a1 u1 H8.out.2.2.1 (short_fit HT.out.2.2.1) hglo
              unfold pcl shV at hLe
              dsimp only at hLe
              clear hglo
              go_wp2_with fail
              refine hLe.mono ?_
              rintro e w9 hP
              clear hLe
              obtain ⟨rr, hrr⟩ : ∃ r : Nat, r = learnB most L ⟨d1, i1, k1, m1, a1, u1⟩ := ⟨_, rfl⟩
              obtain rfl : e = .returned (.int .i64 (rr : Int)) := by rw [hP.1, hrr]
              have hk9 : ∀ a v, w8.cell? a = some v → w9.cell? a = some v := fun a v hv => by
                obtain ⟨l, hc, _⟩ := H8.out.1.c1
                obtain ⟨o, ho, hoc⟩ := hc.isMap
                exact cell_grown hP.2.2 hv (fun e => by injection e with e; exact map_ne ho hoc hv e)
              replace x1 := hk9 _ _ x1
              replace x2 := hk9 _ _ x2
              replace x3 := hk9 _ _ x3
              replace x4 := hk9 _ _ x4
              replace x5 := hk9 _ _ x5
              replace x6 := hk9 _ _ x6
              replace z0 := hk9 _ _ z0
              replace z1 := hk9 _ _ z1
              replace z2 := hk9 _ _ z2
              have hD9 := H8.out.1.learnC hP
              have hPA9 : PAt w9 w6.heap.size pb (qp, np, cp) := H8.out.2.1.keep hk9 (fun k h1 h2 h3 => h3.grown hP.2.2 (by have := H8.out.2.2.2.1.2.2.2.2.1; omega))
              have hmp9 : MxAt w9 (fun k => w6.heap.size ≤ k) (qp, np, cp) m1 := H8.out.2.2.1.keep (fun a v h _ => hk9 a v h)
              have hms9 : MxAt w9 (fun k => k < W.heap.size) (q1, n1, cc1) m1 := (HT.out.2.2.2.mono (fun k hk => hk.2)).below hD9.wb
              have hs89 : w8.heap.size ≤ w9.heap.size := hP.2.2.size
              have hS0 : ∀ W' : World, w9.grownBy W' (some bd) → (W'.cell? ⟨sb, 1, none⟩ = some (.string ⟨d1.toArray⟩) ∧ W'.cell? ⟨sb, 2, none⟩ = some (.string ⟨i1.toArray⟩) ∧ W'.cell? ⟨sb, 3, none⟩ = some (.int .u8 (k1 : Int)) ∧ W'.cell? ⟨sb, 4, none⟩ = some (.slice q1 n1 cc1) ∧ W'.cell? ⟨sb, 5, none⟩ = some (.int .i64 a1) ∧ W'.cell? ⟨sb, 6, none⟩ = some (.int .i64 u1) ∧ W'.cell? ⟨pb, 0, none⟩ = some (.int .u8 (k1 : Int)) ∧ W'.cell? ⟨pb, 1, none⟩ = some (.slice qp np cp) ∧ W'.cell? ⟨pb, 2, none⟩ = some (.int .i64 a1)) := fun W' hg => by
                have hs : ∀ j v, w9.cell? ⟨sb, j, none⟩ = some v → W'.cell? ⟨sb, j, none⟩ = some v := fun j v hv => cell_grown hg hv (fun e => H8.out.2.2.2.1.2.2.2.2.2.2.2.2 (Option.some.inj e).symm)
                have hp : ∀ j v, w9.cell? ⟨pb, j, none⟩ = some v → W'.cell? ⟨pb, j, none⟩ = some v := fun j v hv => cell_grown hg hv (fun e => by have h1 := Option.some.inj e; have h2 := H8.out.2.2.2.1; dsimp only at h1; omega)
                exact ⟨hs _ _ x1, hs _ _ x2, hs _ _ x3, hs _ _ x4, hs _ _ x5, hs _ _ x6, hp _ _ z0, hp _ _ z1, hp _ _ z2⟩
              have hDL : Calls Tryz.prog 12 #[.pointer (some ⟨bd, 0, none⟩), .string ⟨d1.toArray⟩, .string ⟨i1.toArray⟩, .agg #[.int .u8 (k1 : Int), .slice q1 n1 cc1, .int .i64 a1], .int .i64 u1] w9 (fun e w' => e = .returned (.int .i64 (rr : Int)) ∧ RLearnPost w9 (fun k => (k ≠ bd ∧ k < w6.heap.size) ∨ w8.heap.size ≤ k) bd most zs ⟨d1, i1, k1, m1, a1, u1⟩ e w') :=
                (refLearn_any w9 _ bd most zs hD9.d1 (by rw [HT.out.1]; exact HT.out.2.1) hm2 d1 i1 k1 (q1, n1, cc1) m1 a1 u1 ((hms9).mono (fun k hk => .inl (by have := hD9.ge.1; have := H8.out.2.2.2.2.2; have := H8.out.2.2.2.1; omega))) (short_fitR HT.out.2.2.1) hD9.hB).mono fun e w' hh => ⟨by rw [hh.1, HT.out.1, hrr], hh⟩
              have hSame : ∀ W', w9.grownBy W' (some bd) → Calls Tryz.prog 13 #[.agg #[.int .u8 (k1 : Int), .slice qp np cp, .int .i64 a1], .agg #[.int .u8 (k1 : Int), .slice q1 n1 cc1, .int .i64 a1]] W' (fun e w'' => e = .returned (.bool true) ∧ Below W'.heap.size W' w'') := fun W' hg => by
                refine (refPol_any k1 k1 (qp, np, cp) (q1, n1, cc1) m1 m1 a1 a1 _ _ W' ((hmp9).keep fun a v hv hB => cell_grown hg hv (fun e => by have h1 := Option.some.inj e; have h2 := H8.out.2.2.2.1; omega)) ((hms9).keep fun a v hv hB => cell_grown hg hv (fun e => by have h1 := Option.some.inj e; have h2 := hD9.ge.1; omega)) H8.out.2.2.2.2.1).mono ?_
                rintro e w'' ⟨rfl, hb⟩
                exact ⟨by simp, hb⟩
              have H9 := Lib.hid (And.intro hD9 (And.intro hPA9 (And.intro hrr hs89)))
              clear hP hk9 hD9 hPA9 hmp9 hms9 hs89 x0 hrr
              go_wp2_with fail
              refine hDL.mono ?_
              rintro e w10 ⟨rfl, hP2⟩
              clear x1 x2 x3 x4 x5 x6 z0 z1 z2
              obtain ⟨x1, x2, x3, x4, x5, x6, z0, z1, z2⟩ := hS0 w10 hP2.2.2
              have hSm := hSame w10 hP2.2.2
              have HP2 := Lib.hid hP2
              clear hP2 hDL hSame hS0
              go_wp2_with fail
              refine hSm.mono ?_
              rintro e w11 ⟨rfl, hb11⟩
              have hP2 := HP2.out
              have hk11 := below_keep hb11
              replace x1 := hk11 _ _ x1
              replace x6 := hk11 _ _ x6
              replace z1 := hk11 _ _ z1
              obtain ⟨zs', hz', hD10⟩ := H9.out.1.learnD hP2
              have hD11 := hD10.below hb11
              have hPA11 : PAt w11 w6.heap.size pb (qp, np, cp) := by
                have h1 := H9.out.2.1
                have h2 : PAt w10 w6.heap.size pb (qp, np, cp) := fun k hk => by
                  obtain ⟨p', o', e1, e2, e3, e4, v, e5⟩ := h1 k hk
                  have hne : p' ≠ bd := by have := H8.out.2.2.2.1; omega
                  exact ⟨p', o', e1, e2, e3, e4.grown hP2.2.2 hne, v, cell_grown hP2.2.2 e5 (fun e => hne (Option.some.inj e).symm)⟩
                exact h2.keep (below_keep hb11) (fun k _ _ h => h.below hb11)
              have hls : (learnS most (zs.map fun e : EM => e.1) ⟨d1, i1, k1, m1, a1, u1⟩) = learnS most L ⟨d1, i1, k1, m1, a1, u1⟩ := by rw [HT.out.1]
              rw [hls] at hz'
              have hnp : np ≤ 1000000 := by have h := H8.out.2.2.1.1; dsimp only at h; have := H8.out.2.2.2.2.1; omega
              have H11 := Lib.hid (And.intro hz' (And.intro hD11 hPA11))
              clear hSm hk11 hb11 hP2 HP2 hD10 hD11 hPA11 hls hz' hw0 hw0d x2 x3 x4 x5 z0 z2
              go_wp2_with fail
              go_loopw [15] (fun s15 wr => ∃ k : Nat, s15 = .int .i64 (k : Int) ∧ k ≤ np ∧ Duo W wr (fun k => ((k ≠ bd ∧ k < w6.heap.size) ∨ w8.heap.size ≤ k) ∨ w9.heap.size ≤ k) most bd b bm (learnS most L ⟨d1, i1, k1, m1, a1, u1⟩) zs' b2 bm2 d2 L zs ∧ PAt wr w6.heap.size pb (qp, np, cp) ∧ wr.cell? ⟨pb, 1, none⟩ = some (.slice qp np cp) ∧ wr.cell? ⟨sb, 1, none⟩ = some (.string ⟨d1.toArray⟩) ∧ wr.cell? ⟨sb, 6, none⟩ = some (.int .i64 u1)) (fun s15 _ => np - natI s15)
              case atStart => exact ⟨0, rfl, Nat.zero_le _, H11.out.2.1, H11.out.2.2, z1, x1, x6⟩
              case round =>
                clear z1 x1 x6
                obtain ⟨k, rfl, hk, hD, hPA, z1, x1, x6⟩ := hrel
                generalize hww : wr = wr2 at *
                clear hww
                by_cases hkn : k < np
                · have hki : (k : Int) < (np : Int) := by omega
                  obtain ⟨pp, oo, rfl, hlo, hhi, hnf, vv, hvv⟩ := hPA k hkn
                  have ff := hnf.frozen (oo + k)
                  have hl := H8.out.2.2.2.1
                  have hs9 : w8.heap.size ≤ w9.heap.size := H9.out.2.2.2
                  have hD' := hD.put (o := oo + k) (.string ⟨#[115, 112, 111, 105, 108, 116]⟩) hnf (by have := H8.out.2.2.2.2.2.size; have := hD.ge.1; omega) (by (try dsimp only); omega) (by omega) (by omega) (by omega) (by omega)
                  have hPA' := hPA.put (p := pp) (o := oo + k) (.string ⟨#[115, 112, 111, 105, 108, 116]⟩)
                  have g1 : (wr2.setCell ⟨pp, oo + k, none⟩ (.string ⟨#[115, 112, 111, 105, 108, 116]⟩)).cell? ⟨pb, 1, none⟩ = some (.slice (some ⟨pp, oo, none⟩) np cp) := cell_setCell_ne z1 (by (try dsimp only); omega)
                  have g2 : (wr2.setCell ⟨pp, oo + k, none⟩ (.string ⟨#[115, 112, 111, 105, 108, 116]⟩)).cell? ⟨sb, 1, none⟩ = some (.string ⟨d1.toArray⟩) := cell_setCell_ne x1 (by (try dsimp only); omega)
                  have g3 : (wr2.setCell ⟨pp, oo + k, none⟩ (.string ⟨#[115, 112, 111, 105, 108, 116]⟩)).cell? ⟨sb, 6, none⟩ = some (.int .i64 u1) := cell_setCell_ne x6 (by (try dsimp only); omega)
                  have HQ := Lib.hid (And.intro hD' (And.intro hPA' (And.intro g1 (And.intro g2 g3))))
                  clear hD hPA x1 x6 hD' hPA' g1 g2 g3 hnf hlo hhi hl hs9
                  go_wp2
                  go_roundw
                  case rel => exact ⟨k + 1, by simp, by omega, HQ.out⟩
                  case measure => simp [natI]; omega
                · have hki : ¬ (k : Int) < (np : Int) := by omega
                  have HQ := Lib.hid (And.intro hD (And.intro x1 x6))
                  clear hD hPA x1 x6
                  go_wp2
                  go_meet
                  case rel => exact ⟨b, bm, learnS most L ⟨d1, i1, k1, m1, a1, u1⟩, zs', rfl, HQ.out.1.mono (fun k hk => HQ.out.1.hB k hk) (fun k hk => hk), H11.out.1, HT.out.2.1.learn _, HQ.out.2.1, HQ.out.2.2⟩
            · have hw0 : ((wh : Int) == 0) = false := by simp; omega
              have hw0d : decide ((wh : Int) = 0) = false := by simp; omega
              clear hwh z0 z1 z2
              have hAl := allL_any b bm most _ L w8 H8.out.1.c1 (HT.out.2.1.small hm2) HT.out.2.1.few
              go_wp2_with fail
              refine hAl.mono ?_
              rintro e w9 ⟨⟨v, za, rfl, hza, hra, -, hta⟩, hb9⟩
              clear hAl
              have hLo := load_any most v za _ w9 hra hta (fun x hx => may_fit (HT.out.2.1.may _ (by rw [← hza]; exact List.mem_map.2 ⟨_, hx, rfl⟩))) (by have h1 := congrArg List.length hza; have h2 := HT.out.2.1.small hm2; simp at h1; omega) (HA.out.2.2.2.keep (H8.out.1.below hb9).wb)
              rw [hza] at hLo
              have H9 := Lib.hid hb9
              clear hza hra hta hb9
              go_wp2_with fail
              refine hLo.mono ?_
              rintro e w10 ⟨hP, hb10⟩
              clear hLo
              rcases hP with ⟨_, b', bm', rfl, hc', hg1, hg2⟩ | ⟨hno, _⟩
              · have h89 := H9.out
                have hb810 : Below w8.heap.size w8 w10 := h89.trans (hb10.mono h89.size)
                have hD := H8.out.1.below hb810
                have hl := H8.out.2.2.2.1
                have hs := H8.out.2.2.2.2.2.size
                have hm2l : bm2 < w6.heap.size ∨ bm2 < w8.heap.size := .inr H8.out.1.c2.blt.2
                have hs9 := h89.size
                have hWs := H8.out.1.wb.size
                have hD' : Duo W w10 (fun k => k ≠ bd) most bd b' bm' L zs b2 bm2 d2 L zs :=
                  ⟨hD.wb, hc'.mono (fun k hk => by omega), hD.d1.mono (fun k hk => hk.1), hD.c2.mono (fun k hk => hk.1), hD.dd.mono (fun k hk => hk.1), by omega, hD.nb2, hD.nd, by omega, fun k hk => hk, ⟨hD.ge.1, by omega⟩⟩
                have hk := below_keep hb810
                replace x1 := hk _ _ x1
                replace x6 := hk _ _ x6
                have HQ := Lib.hid (And.intro hD' (And.intro x1 x6))
                clear x0 x1 x2 x3 x4 x5 x6 hD hD' hk hl hs hm2l hs9 hWs hb810 h89 hb10 hc' hg1 hg2
                go_wp2
                go_meet
                case rel => exact ⟨b', bm', L, zs, rfl, HQ.out.1, HT.out.1, HT.out.2.1, HQ.out.2.1, HQ.out.2.2⟩
              · exact absurd (load_yes HT.out.2.1 hm1 hm2) hno
          case rest =>
            obtain ⟨b', bm', L', zs', rfl, hD, hz', hG', x1, x6⟩ := hcut
            generalize hww : wc = w9 at *
            clear hww x0 x2 x3 x4 x5 z0 z1 z2
            have hS : ∀ W' : World, Below w9.heap.size w9 W' → (W'.cell? ⟨sb, 1, none⟩ = some (.string ⟨d1.toArray⟩) ∧ W'.cell? ⟨sb, 6, none⟩ = some (.int .i64 u1)) := fun W' h => ⟨below_keep h _ _ x1, below_keep h _ _ x6⟩
            have hL1 : ∀ W' : World, Below w9.heap.size w9 W' → Calls Tryz.prog 16 #[.pointer (some ⟨b', 0, none⟩), .pointer (some ⟨bd, 0, none⟩), .string ⟨d1.toArray⟩, .int .i64 u1] W' (fun e w'' => e = .returned (.bool true) ∧ Below w9.heap.size w9 w'') := fun W' hb =>
              (like_any W' _ _ b' bm' bd most L' zs' (hD.c1.below hb) (hD.d1.below hb) hz' hG' hm2 d1 u1).mono fun e w'' hh => ⟨hh.1, hb.trans (hh.2.mono hb.size)⟩
            have hL2 : ∀ W' : World, Below w9.heap.size w9 W' → Calls Tryz.prog 16 #[.pointer (some ⟨b2, 0, none⟩), .pointer (some ⟨d2, 0, none⟩), .string ⟨d1.toArray⟩, .int .i64 u1] W' (fun e w'' => e = .returned (.bool true) ∧ Below w9.heap.size w9 w'') := fun W' hb =>
              (like_any W' _ _ b2 bm2 d2 most L zs (hD.c2.below hb) (hD.dd.below hb) HT.out.1 HT.out.2.1 hm2 d1 u1).mono fun e w'' hh => ⟨hh.1, hb.trans (hh.2.mono hb.size)⟩
            have H9 := Lib.hid (And.intro hD (And.intro hz' hG'))
            clear hD hz' hG'
            go_wp2_with fail
            refine (hL1 w9 (Below.refl _ _)).mono ?_
            rintro e w10 ⟨rfl, hb10⟩
            obtain ⟨x1, x6⟩ := hS w10 hb10
            have hL2' := hL2 w10 hb10
            clear hL1 hL2 hS hb10
            go_wp2_with fail
            refine hL2'.mono ?_
            rintro e w11 ⟨rfl, hb11⟩
            have HF := Lib.hid (H9.out.1.below hb11)
            clear hL2' hb11 x1 x6
            go_wp2
            go_roundw
            case rel => exact ⟨i + 1, b', bm', L', zs', by simp, rfl, by omega, HF.out.c1, HF.out.d1, H9.out.2.1, H9.out.2.2, HF.out.nb, HF.out.ge, HF.out.wb⟩
            case measure => simp [natI]; omega
        · have hli : ¬ (i : Int) < (ss.length : Int) := by omega
          have HB := Lib.hid hW
          clear hc hd hz hG hnb hge hW
          go_wp2_with fail
          refine (works_any _ (HA.out.2.2.2.keep HB.out)).mono ?_
          rintro e w5 ⟨rfl, hb5⟩
          have HF := Lib.hid (HB.out.trans (hb5.mono HB.out.size))
          clear hb5
          go_wp2
          refine bodyPost_ret (v := .bool true) (by simp [results, Tryz.results3, go_sem]) rfl ⟨rfl, HF.out⟩
end Go.Proofs.YtojhledbfaninaaGreat

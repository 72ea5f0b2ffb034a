/- CacheBack: a cache that is loaded of All goes on as the one whose All that is. -/
import Derived.Test.YtojhledbfaninaaClong
import Derived.Deep.RegionHeld3
namespace Go.Proofs.Ytojhledbfaninaa
open Go Go.RowKit Go.Shelf Go.Sort
attribute [local go_sem] bneI

theorem may_dom {l : Bytes} (h : mayB l = true) : l.length ≤ 253 := by
  simp [mayB] at h
  exact h.1.1
theorem bare_ge (l : Bytes) : l.length ≤ (bareB l).length + 2 := by
  unfold bareB
  split
  · simp; omega
  · omega
theorem may_fit {x : PE} (h : mayE x = true) : FitE x := by
  simp only [mayE, Bool.and_eq_true] at h
  obtain ⟨⟨⟨⟨h1, h2⟩, h3⟩, _⟩, _⟩ := h
  have hd := may_dom h1
  have hi : x.id.length ≤ 32 := by simp [idB] at h2; exact h2.2
  refine ⟨by unfold maxLen; omega, by unfold maxLen; omega, fun u hu => ?_⟩
  have hp : patB u = true := by
    simp only [polB, Bool.and_eq_true, List.all_eq_true] at h3
    exact h3.2 u hu
  have := may_dom hp
  have := bare_ge u
  unfold maxLen; omega
theorem short_fit {x : PE} (h : ShortE x) : FitE x := by
  obtain ⟨h1, h2, h3, h4⟩ := h
  refine ⟨by unfold maxLen; omega, by unfold maxLen; omega, fun u hu => ?_⟩
  have := h4 u hu
  unfold maxLen; omega
/-- A Learn leaves each cell as it was. -/
theorem learn_keep {w w' : World} {b bm : Nat} {most : Int} {L : List PE} {x : PE} {e : Ending} (hc : CacheIs w Any b bm most L) (hl : LearnPost w Any b bm most L x e w') {a : Addr} {v : Value} (hv : w.cell? a = some v) : w'.cell? a = some v := by
  obtain ⟨l, hc, _⟩ := hc
  obtain ⟨o, ho, hoc⟩ := hc.isMap
  exact cell_grown hl.2.2 hv (fun e => by injection e with e; exact map_ne ho hoc hv e)
theorem RowS.keep {W W' : World} {v : Value} {zs : List SM} (h : RowS W v zs) (hk : ∀ a v, W.cell? a = some v → W'.cell? a = some v) : RowS W' v zs := by
  rcases h with h | ⟨h1, b, o, c, rfl, hc⟩
  · exact .inl h
  · exact .inr ⟨h1, b, o, c, rfl, fun i hi k u hu => hk _ _ (hc i hi k u hu)⟩
theorem TextsS.keep {W W' : World} {B : Nat → Prop} {zs : List SM} (h : TextsS W B zs) (hk : ∀ a v, W.cell? a = some v → W'.cell? a = some v) : TextsS W' B zs := fun s hs => (h s hs).keep fun a v hv _ => hk a v hv
theorem below_keep {W W' : World} (hb : Below W.heap.size W W') : ∀ a v, W.cell? a = some v → W'.cell? a = some v := fun a v h => (hb.cell (p := a) (cell_lt h)).trans h
theorem below_drew (w : World) : Below w.heap.size w w.drew := ⟨rfl, rfl, rfl, Nat.le_refl _, fun _ _ => rfl⟩
theorem load_yes {most : Int} {L : List PE} (h : GoodE most L) (h1 : 1 ≤ most) (h2 : most ≤ 8) : loadB most L = 0 :=
  loadB_good (by omega) (by have := h.len; omega) (goodB_iff.2 ⟨h.may, h.asc⟩)
theorem GoodE.small {most : Int} {L : List PE} (h : GoodE most L) (h2 : most ≤ 8) : L.length ≤ 1000 := by have := h.len; omega

theorem box7 {W : World} {b : Nat} {v0 v1 v2 v3 v4 v5 v6 : Value} {t : TypeId} (h : W.heap[b]? = some (.cells #[v0, v1, v2, v3, v4, v5, v6] t (0, 0))) :
    W.cell? ⟨b, 1, none⟩ = some v1 ∧ W.cell? ⟨b, 2, none⟩ = some v2 ∧ W.cell? ⟨b, 3, none⟩ = some v3 ∧ W.cell? ⟨b, 4, none⟩ = some v4 ∧ W.cell? ⟨b, 5, none⟩ = some v5 ∧ W.cell? ⟨b, 6, none⟩ = some v6 := by
  refine ⟨?_, ?_, ?_, ?_, ?_, ?_⟩ <;> simp [World.cell?, h]
set_option maxRecDepth 100000 in
set_option maxHeartbeats 8000000 in
theorem back_any (W : World) (most : Int) (v1 v2 : Value) (ss ms : List SM) (h1 : RowS W v1 ss) (h2 : RowS W v2 ms) (t1 : TextsS W Any ss) (t2 : TextsS W Any ms) (hn1 : ss.length ≤ maxLen) (hn2 : ms.length ≤ maxLen) (hg : Glob W) :
    Calls Try.prog 6 #[.int .i64 most, v1, v2] W fun e w' => e = .returned (.bool true) ∧ Below W.heap.size W w' := by
  obtain ⟨p1, c1, rfl⟩ := h1.sh
  obtain ⟨p2, c2, rfl⟩ := h2.sh
  have HA := Lib.hid (And.intro h1 (And.intro h2 (And.intro t1 (And.intro t2 (And.intro hn1 (And.intro hn2 hg))))))
  clear h1 h2 t1 t2 hn1 hn2 hg
  have hL1 := fun (w : World) (hb : Below W.heap.size W w) => long_any (.slice p1 ss.length c1) (.slice none 0 0) ss [] Any Any w (HA.out.1.keep (below_keep hb)) (.inl ⟨rfl, none, 0, rfl⟩) (HA.out.2.2.1.keep (below_keep hb)) (fun x hx => by simp at hx) HA.out.2.2.2.2.1 (by simp)
  have hL2 := fun (w : World) (hb : Below W.heap.size W w) => long_any (.slice p2 ms.length c2) (.slice none 0 0) ms [] Any Any w (HA.out.2.1.keep (below_keep hb)) (.inl ⟨rfl, none, 0, rfl⟩) (HA.out.2.2.2.1.keep (below_keep hb)) (fun x hx => by simp at hx) HA.out.2.2.2.2.2.1 (by simp)
  go_enter Try.func6, Try.ntmps6
  go_wp2_with fail
  refine (works_any W HA.out.2.2.2.2.2.2).mono ?_
  rintro e w1 ⟨rfl, hb1⟩
  go_wp2_with fail
  refine (hL1 w1 hb1).mono ?_
  rintro e w2 ⟨⟨r1, rfl, hr1⟩, hb2'⟩
  have hb2 := hb1.trans (hb2'.mono hb1.size)
  clear hL1 hb2' hb1
  cases r1 with
  | true =>
    clear hr1 hL2
    have HB := Lib.hid hb2
    clear hb2
    go_wp2_with fail
    refine (works_any w2 (HA.out.2.2.2.2.2.2.keep HB.out)).mono ?_
    rintro e w3 ⟨rfl, hb3⟩
    go_wp2
    refine bodyPost_ret (v := .bool true) (by simp [results, Try.results6, go_sem]) rfl ⟨rfl, HB.out.trans (hb3.mono HB.out.size)⟩
  | false =>
    have hS1 := (hr1 rfl).1
    have hS2 := (hr1 rfl).2.1
    clear hr1
    go_wp2_with fail
    refine (hL2 w2 hb2).mono ?_
    rintro e w3 ⟨⟨r2, rfl, hr2⟩, hb3'⟩
    have hb3 := hb2.trans (hb3'.mono hb2.size)
    clear hL2 hb3' hb2
    cases r2 with
    | true =>
      clear hr2
      have HB := Lib.hid hb3
      clear hb3
      go_wp2_with fail
      refine (works_any w3 (HA.out.2.2.2.2.2.2.keep HB.out)).mono ?_
      rintro e w4 ⟨rfl, hb4⟩
      go_wp2
      refine bodyPost_ret (v := .bool true) (by simp [results, Try.results6, go_sem]) rfl ⟨rfl, HB.out.trans (hb4.mono HB.out.size)⟩
    | false =>
      have hS3 := (hr2 rfl).1
      have hS4 := (hr2 rfl).2.1
      clear hr2
      have HS := Lib.hid (And.intro hS1 (And.intro hS2 (And.intro hS3 (And.intro hS4 hb3))))
      clear hS1 hS2 hS3 hS4 hb3
      by_cases hbad : most < 1 ∨ 8 < most
      · have hN := new_bad most w3 hbad
        clear hbad
        go_wp2_with fail
        refine hN.mono ?_
        rintro e w4 ⟨rfl, rfl⟩
        go_wp2
        refine bodyPost_ret (v := .bool true) (by simp [results, Try.results6, go_sem]) rfl ⟨rfl, HS.out.2.2.2.2⟩
      · have hm1 : 1 ≤ most := by omega
        have hm2 : most ≤ 8 := by omega
        have hN := new_is most w3 Any hm1 hm2
        clear hbad
        go_wp2_with fail
        refine hN.mono ?_
        rintro e w4 ⟨rfl, hb4, hc4, hs4⟩
        have HN := Lib.hid (And.intro hb4 (And.intro hc4 hs4))
        clear hb4 hc4 hs4 hN
        go_wp2_with fail
        go_loopw [9] (fun s9 wr => ∃ (i : Nat) (L : List PE), s9 = .int .i64 (i : Int) ∧ i ≤ ss.length ∧ CacheIs wr Any (w3.heap.size + 1) w3.heap.size most L ∧ GoodE most L ∧ Below w3.heap.size w3 wr) (fun s9 _ => ss.length - natI s9)
        case atStart => exact ⟨0, [], rfl, Nat.zero_le _, HN.out.2.1, ⟨List.Pairwise.nil, by simp, by simp; omega⟩, HN.out.1⟩
        case round =>
          obtain ⟨i, L, rfl, hi, hc, hG, hB⟩ := hrel
          by_cases hlast : i < ss.length
          · have hli : (i : Int) < (ss.length : Int) := by omega
            obtain ⟨bs, os, hp, hlt, hcell⟩ := HA.out.1.at i hlast
            subst hp
            have hbw : Below W.heap.size W wr := HS.out.2.2.2.2.trans (hB.mono HS.out.2.2.2.2.size)
            have hkeep := below_keep (hbw.trans ((below_drew wr).mono hbw.size))
            obtain ⟨y0, y1, y2, y3, y4, y5, y6⟩ := hcell i hlast
            replace y1 := hkeep _ _ y1
            replace y2 := hkeep _ _ y2
            replace y3 := hkeep _ _ y3
            replace y4 := hkeep _ _ y4
            replace y5 := hkeep _ _ y5
            replace y6 := hkeep _ _ y6
            have hi400 : i + 1 ≤ 400 := by have := HS.out.1; omega
            have hsh := HS.out.2.1 _ (List.getElem_mem hlast)
            have htx := (HA.out.2.2.1 _ (List.getElem_mem hlast)).keep (fun a v hv _ => hkeep a v hv)
            have hLe := learn_any (w3.heap.size + 1) w3.heap.size most Any Any L wr.drew (hc.below (below_drew wr)) (hG.small hm2) ss[i].1.x.dom ss[i].1.x.id ss[i].1.x.mode ss[i].2 ss[i].1.x.mx ss[i].1.x.age ss[i].1.x.unt htx (short_fit hsh) ((HA.out.2.2.2.2.2.2.keep hbw).keep (below_drew wr))
            unfold pcl shV at hLe
            have HB := Lib.hid (And.intro hB hG)
            clear hcell hkeep hsh htx hc hG hB hbw hlt y0
            generalize (⟨ss[i].1.x.dom.toArray⟩ : ByteArray) = sd at y1 hLe
            generalize (⟨ss[i].1.x.id.toArray⟩ : ByteArray) = si at y2 hLe
            go_upto_region 9 with (fail)
            refine wp_region_still_tail 21 (by kernel_rfl) (by kernel_rfl) ?_
            simp only [List.take_succ_cons, List.take_zero, List.drop_succ_cons, List.drop_zero]
            show wpStill Try.prog _ wr.drew (fun a' => wpList _ _ _ _ a' wr.drew) _ _
            repeat still_step
            refine wpStill_nil ?_
            go_wp2_with fail
            refine hLe.mono ?_
            rintro e w5 hP
            obtain ⟨a, rfl⟩ : ∃ a, e = .returned (.int .i64 a) := ⟨_, hP.1⟩
            have hc5 := hP.2.1.mono (B' := Any) anyB
            have hB5 : Below w3.heap.size w3 w5 := (HB.out.1.trans ((below_drew wr).mono HB.out.1.size)).grown hP.2.2 HB.out.1.size (fun k e => by cases e; exact Nat.le_refl _)
            have HF := Lib.hid (And.intro hc5 hB5)
            clear hP hc5 hB5 hLe y1 y2 y3 y4 y5 y6
            go_wp2
            go_roundw
            case rel => exact ⟨i + 1, _, by simp, by omega, HF.out.1, HB.out.2.learn _, HF.out.2⟩
            case measure => simp [natI]; omega
          · have hli : ¬ (i : Int) < (ss.length : Int) := by omega
            have hb1 : Below W.heap.size W wr := HS.out.2.2.2.2.trans (hB.mono HS.out.2.2.2.2.size)
            have hAll := all_any (w3.heap.size + 1) w3.heap.size most Any L wr hc (hG.small hm2) hG.few
            have HC := Lib.hid (And.intro hc (And.intro hG (And.intro hB hb1)))
            clear hc hG hB hb1
            go_wp2_with fail
            refine hAll.mono ?_
            rintro e w5 ⟨⟨v, zs, rfl, hmap, hown, htx⟩, hb5⟩
            have hLo := load_any most v zs (fun k => wr.heap.size ≤ k) w5 hown.row htx (fun x hx => may_fit (HC.out.2.1.may _ (by rw [← hmap]; exact List.mem_map.2 ⟨x, hx, rfl⟩))) (by have := congrArg List.length hmap; have := HC.out.2.1.small hm2; simp at *; omega) ((HA.out.2.2.2.2.2.2.keep HC.out.2.2.2).keep hb5)
            rw [hmap] at hLo
            clear hAll hmap hown htx
            go_wp2_with fail
            refine hLo.mono ?_
            rintro e w6 ⟨hP, hb6⟩
            rcases hP with ⟨_, b2, m2, rfl, hc6, hg1, hg2⟩ | ⟨hno, _⟩
            · have hb56 : Below wr.heap.size wr w6 := hb5.trans (hb6.mono hb5.size)
              have hT : Two W w6 most (w3.heap.size + 1) w3.heap.size b2 m2 L L := ⟨HC.out.2.2.2.trans (hb56.mono HC.out.2.2.2.size), HC.out.1.below hb56, hc6.mono anyB, by
                obtain ⟨l, hcc, _⟩ := HC.out.1
                have := hcc.map.lt
                have := hb5.size
                omega, HS.out.2.2.2.2.size, Nat.le_trans (Nat.le_trans HC.out.2.2.2.size hb5.size) hg2⟩
              have HT := Lib.hid (And.intro hT HC.out.2.1)
              clear hLo hb5 hb6 hc6 hg1 hg2 hb56 hT
              go_wp2_with fail
              go_loopw [12, 13] (fun s12 _ wr => ∃ (i : Nat) (L : List PE), s12 = .int .i64 (i : Int) ∧ i ≤ ms.length ∧ Two W wr most (w3.heap.size + 1) w3.heap.size b2 m2 L L ∧ GoodE most L) (fun s12 _ _ => ms.length - natI s12)
              case atStart => exact ⟨0, L, rfl, Nat.zero_le _, HT.out.1, HT.out.2⟩
              case round =>
                clear HC HN HT hi hlast hli
                obtain ⟨i, L, rfl, hi, hT, hG⟩ := hrel
                by_cases hlast : i < ms.length
                · have hli : (i : Int) < (ms.length : Int) := by omega
                  obtain ⟨bs, os, hp, hlt, hcell⟩ := HA.out.2.1.at i hlast
                  subst hp
                  have hkeep := below_keep hT.below
                  obtain ⟨y0, y1, y2, y3, y4, y5, y6⟩ := hcell i hlast
                  replace y0 := hkeep _ _ y0
                  replace y1 := hkeep _ _ y1
                  replace y2 := hkeep _ _ y2
                  replace y3 := hkeep _ _ y3
                  replace y4 := hkeep _ _ y4
                  replace y5 := hkeep _ _ y5
                  replace y6 := hkeep _ _ y6
                  have hsh := HS.out.2.2.2.1 _ (List.getElem_mem hlast)
                  have htx := (HA.out.2.2.2.1 _ (List.getElem_mem hlast)).keep (fun a v hv _ => hkeep a v hv)
                  have hi400 : i + 1 ≤ 400 := by have := HS.out.2.2.1; omega
                  have HT := Lib.hid (And.intro hT (And.intro hG (And.intro hsh htx)))
                  clear hT hG hsh htx hcell hkeep hlt
                  obtain ⟨s, hs⟩ : ∃ s, s = ms[i] := ⟨_, rfl⟩
                  rw [← hs] at y0 y1 y2 y3 y4 y5 y6 HT
                  clear hs
                  obtain ⟨⟨what, d, ii, m, mx, age, now⟩, q, nn, cc⟩ := s
                  dsimp only at y0 y1 y2 y3 y4 y5 y6 HT
                  go_upto_region 17 with (fail)
                  generalize hwC : World.alloc _ _ = wC
                  have hBC : Below wr.heap.size wr wC := by rw [← hwC]; exact (Below.refl _ _).alloc (Nat.le_refl _) _
                  have hbox : wC.heap[wr.heap.size]? = some (.cells #[.int .u8 (what : Int), .string ⟨d.toArray⟩, .string ⟨ii.toArray⟩, .int .u8 (m : Int), .slice q nn cc, .int .i64 age, .int .i64 now] 44 (0, 0)) := by rw [← hwC]; exact ha_eq rfl
                  obtain ⟨x1, x2, x3, x4, x5, x6⟩ := box7 hbox
                  have hBd : Below wr.heap.size wr wC.drew := hBC.trans ((below_drew wC).mono hBC.size)
                  have hT0 := HT.out.1.step hBd
                  have hg0 : Glob wC.drew := HA.out.2.2.2.2.2.2.keep hT0.below
                  have hmx0 : MxAt wC.drew Any (q, nn, cc) mx := HT.out.2.2.2.below hBd
                  have hfit := short_fit HT.out.2.2.1
                  have hsm := HT.out.2.1.small hm2
                  have hGn := HT.out.2.1.learn ⟨d, ii, m, mx, age, now⟩
                  clear y0 y1 y2 y3 y4 y5 y6 hwC hBC hbox hBd
                  replace x1 : wC.drew.cell? ⟨wr.heap.size, 1, none⟩ = some (.string ⟨d.toArray⟩) := x1
                  replace x2 : wC.drew.cell? ⟨wr.heap.size, 2, none⟩ = some (.string ⟨ii.toArray⟩) := x2
                  replace x3 : wC.drew.cell? ⟨wr.heap.size, 3, none⟩ = some (.int .u8 (m : Int)) := x3
                  replace x4 : wC.drew.cell? ⟨wr.heap.size, 4, none⟩ = some (.slice q nn cc) := x4
                  replace x5 : wC.drew.cell? ⟨wr.heap.size, 5, none⟩ = some (.int .i64 age) := x5
                  replace x6 : wC.drew.cell? ⟨wr.heap.size, 6, none⟩ = some (.int .i64 now) := x6
                  have hSk : ∀ v : World, (∀ a u, wC.drew.cell? a = some u → v.cell? a = some u) → (v.cell? ⟨wr.heap.size, 1, none⟩ = some (.string ⟨d.toArray⟩) ∧ v.cell? ⟨wr.heap.size, 2, none⟩ = some (.string ⟨ii.toArray⟩) ∧ v.cell? ⟨wr.heap.size, 3, none⟩ = some (.int .u8 (m : Int)) ∧ v.cell? ⟨wr.heap.size, 4, none⟩ = some (.slice q nn cc) ∧ v.cell? ⟨wr.heap.size, 5, none⟩ = some (.int .i64 age) ∧ v.cell? ⟨wr.heap.size, 6, none⟩ = some (.int .i64 now)) := fun v k => ⟨k _ _ x1, k _ _ x2, k _ _ x3, k _ _ x4, k _ _ x5, k _ _ x6⟩
                  obtain ⟨A0, hA0⟩ : ∃ A0 : Int, A0 = (learnB most L ⟨d, ii, m, mx, age, now⟩ : Int) := ⟨_, rfl⟩
                  obtain ⟨L', hL'⟩ : ∃ L', L' = learnS most L ⟨d, ii, m, mx, age, now⟩ := ⟨_, rfl⟩
                  rw [← hL'] at hGn
                  have hLe1 : Calls Try.prog 9 #[.pointer (some ⟨w3.heap.size + 1, 0, none⟩), .string ⟨d.toArray⟩, .string ⟨ii.toArray⟩, .agg #[.int .u8 (m : Int), .slice q nn cc, .int .i64 age], .int .i64 now] wC.drew fun e w5 => e = .returned (.int .i64 A0) ∧ Two W w5 most (w3.heap.size + 1) w3.heap.size b2 m2 L' L ∧ (∀ a u, wC.drew.cell? a = some u → w5.cell? a = some u) :=
                    (learn_any (w3.heap.size + 1) w3.heap.size most Any Any L wC.drew hT0.c hsm d ii m (q, nn, cc) mx age now hmx0 hfit hg0).mono fun e w5 hP => ⟨by rw [hA0]; exact hP.1, by rw [hL']; exact hT0.learn1 hP, fun a u h => learn_keep hT0.c hP h⟩
                  have hLe2 : ∀ w5 : World, Two W w5 most (w3.heap.size + 1) w3.heap.size b2 m2 L' L → (∀ a u, wC.drew.cell? a = some u → w5.cell? a = some u) → Calls Try.prog 9 #[.pointer (some ⟨b2, 0, none⟩), .string ⟨d.toArray⟩, .string ⟨ii.toArray⟩, .agg #[.int .u8 (m : Int), .slice q nn cc, .int .i64 age], .int .i64 now] w5 fun e w6 => e = .returned (.int .i64 A0) ∧ Two W w6 most (w3.heap.size + 1) w3.heap.size b2 m2 L' L' ∧ (∀ a u, wC.drew.cell? a = some u → w6.cell? a = some u) := fun w5 T5 k5 =>
                    (learn_any b2 m2 most Any Any L w5 T5.d hsm d ii m (q, nn, cc) mx age now (hmx0.keep fun a v hv _ => k5 a v hv) hfit (HA.out.2.2.2.2.2.2.keep T5.below)).mono fun e w6 hP => ⟨by rw [hA0]; exact hP.1, by have := T5.learn2 hP; rw [← hL'] at this; exact this, fun a u h => learn_keep T5.d hP (k5 a u h)⟩
                  have hAl1 : ∀ w6 : World, Two W w6 most (w3.heap.size + 1) w3.heap.size b2 m2 L' L' → (∀ a u, wC.drew.cell? a = some u → w6.cell? a = some u) → Calls Try.prog 11 #[.pointer (some ⟨w3.heap.size + 1, 0, none⟩)] w6 fun e w7 => ∃ v zs, e = .returned v ∧ zs.map (·.1) = L' ∧ RowE w7 v zs ∧ TextsE w7 Any zs ∧ Two W w7 most (w3.heap.size + 1) w3.heap.size b2 m2 L' L' ∧ (∀ a u, wC.drew.cell? a = some u → w7.cell? a = some u) := fun w6 T6 k6 =>
                    (all_any (w3.heap.size + 1) w3.heap.size most Any L' w6 T6.c (hGn.small hm2) hGn.few).mono fun e w7 hP => by
                      obtain ⟨⟨v, zs, he, hmap, hown, htx⟩, hb⟩ := hP
                      exact ⟨v, zs, he, hmap, hown.row, htx.mono anyB, T6.step hb, fun a u h => below_keep hb a u (k6 a u h)⟩
                  have hAl2 : ∀ (w7 : World) (v1 : Value) (z1 : List EM), RowE w7 v1 z1 → TextsE w7 Any z1 → Two W w7 most (w3.heap.size + 1) w3.heap.size b2 m2 L' L' → (∀ a u, wC.drew.cell? a = some u → w7.cell? a = some u) → Calls Try.prog 11 #[.pointer (some ⟨b2, 0, none⟩)] w7 fun e w8 => ∃ v zs, e = .returned v ∧ zs.map (·.1) = L' ∧ RowE w8 v zs ∧ TextsE w8 Any zs ∧ RowE w8 v1 z1 ∧ TextsE w8 Any z1 ∧ Two W w8 most (w3.heap.size + 1) w3.heap.size b2 m2 L' L' ∧ (∀ a u, wC.drew.cell? a = some u → w8.cell? a = some u) := fun w7 v1 z1 hr1 ht1 T7 k7 =>
                    (all_any b2 m2 most Any L' w7 T7.d (hGn.small hm2) hGn.few).mono fun e w8 hP => by
                      obtain ⟨⟨v, zs, he, hmap, hown, htx⟩, hb⟩ := hP
                      exact ⟨v, zs, he, hmap, hown.row, htx.mono anyB, hr1.below hb, ht1.below hb, T7.step hb, fun a u h => below_keep hb a u (k7 a u h)⟩
                  have hfewz : ∀ zs : List EM, zs.map (·.1) = L' → (∀ x ∈ zs, x.1.mx.length ≤ 1000000) ∧ zs.length ≤ 1000000 := fun zs hm => ⟨fun x hx => hGn.few _ (by rw [← hm]; exact List.mem_map.2 ⟨x, hx, rfl⟩), by have h1 := congrArg List.length hm; have h2 := hGn.small hm2; simp at h1; omega⟩
                  have hSm : ∀ (w8 : World) (v1 v2 : Value) (z1 z2 : List EM), z1.map (·.1) = L' → z2.map (·.1) = L' → RowE w8 v1 z1 → TextsE w8 Any z1 → RowE w8 v2 z2 → TextsE w8 Any z2 → Two W w8 most (w3.heap.size + 1) w3.heap.size b2 m2 L' L' → (∀ a u, wC.drew.cell? a = some u → w8.cell? a = some u) → Calls Try.prog 16 #[v1, v2] w8 fun e w9 => e = .returned (.bool true) ∧ Two W w9 most (w3.heap.size + 1) w3.heap.size b2 m2 L' L' ∧ (∀ a u, wC.drew.cell? a = some u → w9.cell? a = some u) := fun w8 v1 v2 z1 z2 hm1 hm2 hr1 ht1 hr2 ht2 T8 k8 =>
                    (same_any v1 v2 z1 z2 Any Any w8 hr1 hr2 ht1 ht2 (hfewz z1 hm1).1 (hfewz z2 hm2).1 (hfewz z1 hm1).2).mono fun e w9 hP => ⟨by rw [hP.1, hm1, hm2, decide_eq_true rfl], T8.step hP.2, fun a u h => below_keep hP.2 a u (k8 a u h)⟩
                  have HG := Lib.hid hGn
                  clear hT0 hg0 hmx0 hfit hsm hGn hA0 hL' hfewz
                  go_region_held3 (fun v => v.cell? ⟨wr.heap.size, 1, none⟩ = some (.string ⟨d.toArray⟩) ∧ v.cell? ⟨wr.heap.size, 2, none⟩ = some (.string ⟨ii.toArray⟩) ∧ v.cell? ⟨wr.heap.size, 3, none⟩ = some (.int .u8 (m : Int)) ∧ v.cell? ⟨wr.heap.size, 4, none⟩ = some (.slice q nn cc) ∧ v.cell? ⟨wr.heap.size, 5, none⟩ = some (.int .i64 age) ∧ v.cell? ⟨wr.heap.size, 6, none⟩ = some (.int .i64 now))
                    ((first | with_reducible exact hS5 | with_reducible exact hS6 | with_reducible exact hS7 | with_reducible exact hS8 | with_reducible exact hS9 | go_keep))
                    ((first
                      | (go_at_call_of 9 (Value.pointer (some (Addr.mk b2 0 none))); refine (hLe2 w5 T5 k5).mono ?_; rintro e w6 ⟨rfl, T6, k6⟩; have hS6 := hSk w6 k6)
                      | (go_at_call 9; refine hLe1.mono ?_; rintro e w5 ⟨rfl, T5, k5⟩; have hS5 := hSk w5 k5)
                      | (go_at_call_of 11 (Value.pointer (some (Addr.mk b2 0 none))); refine (hAl2 w7 vv1 z1 hr1 ht1 T7 k7).mono ?_; rintro e w8 ⟨vv2, z2, rfl, hz2, hr2, ht2, hr3, ht3, T8, k8⟩; have hS8 := hSk w8 k8)
                      | (go_at_call 11; refine (hAl1 w6 T6 k6).mono ?_; rintro e w7 ⟨vv1, z1, rfl, hz1, hr1, ht1, T7, k7⟩; have hS7 := hSk w7 k7)
                      | (go_at_call 16; refine (hSm w8 vv1 vv2 z1 z2 hz1 hz2 hr3 ht3 hr2 ht2 T8 k8).mono ?_; rintro e w9 ⟨rfl, T9, k9⟩; have hS9 := hSk w9 k9)))
                  have HF := Lib.hid (And.intro T9 HG.out)
                  clear hLe1 hLe2 hAl1 hAl2 hSm hSk T5 T6 T7 T8 T9 k5 k6 k7 k8 k9 hS5 hS6 hS7 hS8 hS9 hz1 hz2 hr1 hr2 hr3 ht1 ht2 ht3 x1 x2 x3 x4 x5 x6
                  go_wp2
                  go_roundw
                  case rel => exact ⟨i + 1, L', by simp, by omega, HF.out.1, HF.out.2⟩
                  case measure => simp [natI]; omega
                · have hli : ¬ (i : Int) < (ms.length : Int) := by omega
                  have HF := Lib.hid hT.below
                  clear hT
                  go_wp2
                  refine bodyPost_ret (v := .bool true) (by simp [results, Try.results6, go_sem]) rfl ⟨rfl, HF.out⟩
            · exact absurd (load_yes HC.out.2.1 hm1 hm2) hno
end Go.Proofs.Ytojhledbfaninaa

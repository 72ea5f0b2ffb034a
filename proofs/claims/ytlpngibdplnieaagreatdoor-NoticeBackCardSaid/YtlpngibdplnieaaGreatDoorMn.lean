/- Parts of the proof, joined: Nof, Nmo, Nlen, Nmost, Ntok, Nmsp. -/
import Derived.Test.YtlpngibdplnieaaGreatDoorMm
import Derived.Test.YtlpngibdplnieaaGreatDoorEmk
import Derived.Test.YtlpngibdplnieaaGreatDoorMk
import Derived.Deep.CutRange
/- notice.Of. -/
namespace Go.Proofs.YtlpngibdplnieaaGreatDoor
open Go Go.RowKit Go.Shelf Go.Sort
attribute [local go_sem] bneI

/-- The mail that tells of failures; its entry. -/
def tellM (n : NotP) (req : Bool) : MailP := ⟨[], [(n.dest, false)], req, [], textN n⟩
def ofN (host : Bytes) (x : EntP) (id now : Int) : EntP × Bool := if (madeN host x id).2 = true ∧ clockB now = true then (makeN id now (tellM (madeN host x id).1 x.mail.req), true) else (zeroN, false)
theorem made_may {host : Bytes} {x : EntP} {id : Int} (h : (madeN host x id).2 = true) : (madeN host x id).1 = notOf host x id ∧ mayNot (madeN host x id).1 = true := by
  unfold madeN at h ⊢
  split at h
  · rename_i hh
    rw [if_pos hh]
    exact ⟨rfl, hh.2.2.2⟩
  · cases h
def OfPost (host : Bytes) (x : EntP) (id now : Int) (e : Ending) (w' : World) : Prop := ∃ sv fv jv, e = .returned (.tuple #[entV (ofN host x id now).1 sv fv jv, .bool (ofN host x id now).2]) ∧ EntAt w' (ofN host x id now).1 sv fv jv
set_option linter.unusedSimpArgs false in
set_option linter.unusedVariables false in
set_option maxRecDepth 1000000 in
set_option maxHeartbeats 16000000 in
theorem ofNot_any (host : Bytes) (x : EntP) (id now : Int) (sv fv jv : Value) (w : World) (hx : EntAt w x sv fv jv) (hs : ShortE x) (hh : host.length ≤ maxLen) (hE : Env w)
    (hsh : ShortN (madeN host x id).1) (htl : (textN (madeN host x id).1).length ≤ 1000000) :
    Calls Tryz.prog 14 #[.string ⟨host.toArray⟩, entV x sv fv jv, .int .i64 id, .int .i64 now] w fun e w' => OfPost host x id now e w' ∧ Below w.heap.size w w' := by
  obtain ⟨p1, c1, rfl, -⟩ := hx.rc.sh
  obtain ⟨p2, c2, rfl, -⟩ := hx.fa.sh
  obtain ⟨p3, c3, rfl, -⟩ := hx.jo.sh
  obtain ⟨W1, hW1⟩ : ∃ W1, W1 = (w.alloc (.cells (entC x (.slice p1 x.mail.rcpts.length c1) (.slice p2 x.fates.length c2) (.slice p3 x.jobs.length c3)).toArray 28)).alloc (.cells zeroC 28) := ⟨_, rfl⟩
  have hB1 : Below w.heap.size w W1 := by rw [hW1]; exact ((Below.refl _ w).alloc (Nat.le_refl _) _).alloc (by simp) _
  have hb1 : W1.heap[w.heap.size]? = some (.cells (entC x (.slice p1 x.mail.rcpts.length c1) (.slice p2 x.fates.length c2) (.slice p3 x.jobs.length c3)).toArray 28 (0, 0)) := by rw [hW1]; exact (ha_ne (by simp)).trans (ha_eq rfl)
  have hr1 : W1.heap[w.heap.size + 1]? = some (.cells zeroC 28 (0, 0)) := by rw [hW1]; exact ha_eq (by simp)
  have HX := Lib.hid (And.intro hx (And.intro hs (And.intro hE (And.intro hB1 (And.intro hsh htl)))))
  have hMk := makeNot_any host x id _ _ _ W1 (hx.below hB1) hs hh (hE.keep hB1)
  have hmm := fun h => made_may (host := host) (x := x) (id := id) h
  have hof : ofN host x id now = if (madeN host x id).2 = true ∧ clockB now = true then (makeN id now (tellM (madeN host x id).1 x.mail.req), true) else (zeroN, false) := rfl
  unfold MakePost at hMk
  obtain ⟨mm, hmd⟩ : ∃ mm, mm = madeN host x id := ⟨_, rfl⟩
  rw [← hmd] at hMk hmm hof HX
  obtain ⟨nn, has⟩ := mm
  dsimp only at hMk hmm hof HX
  have HMD := Lib.hid (And.intro hmm hof)
  unfold entV at hMk ⊢
  unfold zeroC at hW1
  unfold entC at hW1 hb1 hMk ⊢
  obtain ⟨x0, x1, x2, x3, x4, x5, x6, x7, x8, x9⟩ := eboxAll hb1
  obtain ⟨bx, hbx⟩ : ∃ bx, bx = w.heap.size := ⟨_, rfl⟩
  obtain ⟨b8, hb8⟩ : ∃ b8, b8 = w.heap.size + 1 := ⟨_, rfl⟩
  have HBR := Lib.hid (show w.heap.size ≤ b8 by omega)
  rw [← hbx] at hb1
  rw [← hb8] at hr1
  have HX4 := Lib.hid hb1
  have HZ8 := Lib.hid hr1
  go_enter Tryz.func14, Tryz.ntmps14
  clear hx hs hE hB1 hr1 hb1 hsh htl hmm hof hmd
  go_upto_region 1 with (fail)
  rw [← hW1]
  clear hW1
  rw [← hb8]
  clear hb8
  rw [← hbx] at x0 x1 x2 x3 x4 x5 x6 x7 x8 x9 ⊢
  clear hbx
  go_wp2_with fail
  refine hMk.mono ?_
  rintro e w2 ⟨⟨av, rfl, hro⟩, hb2⟩
  clear hMk x0 x1 x2 x3 x4 x5 x6 x7 x8 x9
  obtain ⟨ap, ac, rfl, -⟩ := hro.sh
  have H2 := Lib.hid (And.intro hro hb2)
  clear hro hb2
  unfold notV notC
  go_upto_region 2 with (fail)
  have hal : Below w2.heap.size w2 (w2.alloc (.cells (notC nn (.slice ap nn.failed.length ac)).toArray 34)) := (Below.refl _ _).alloc (Nat.le_refl _) _
  have hxn : (w2.alloc (.cells (notC nn (.slice ap nn.failed.length ac)).toArray 34)).heap[w2.heap.size]? = some (.cells (notC nn (.slice ap nn.failed.length ac)).toArray 34 (0, 0)) := ha_eq rfl
  unfold notC at hal hxn
  generalize hw3 : World.alloc w2 _ = w3 at hal hxn ⊢
  obtain ⟨bq, hbq⟩ : ∃ bq, bq = w2.heap.size := ⟨_, rfl⟩
  rw [← hbq] at hxn ⊢
  have H3 := Lib.hid (H2.out.2.trans (hal.mono H2.out.2.size))
  have HN3 := Lib.hid (And.intro hxn (H2.out.1.below hal))
  clear hw3 hbq hal hxn
  cases has with
  | false =>
    have hno : ofN host x id now = (zeroN, false) := by rw [HMD.out.2, if_neg]; rintro ⟨h, -⟩; cases h
    have HNO := Lib.hid (hno)
    have hres := (H3.out.block _ (lt_of_cells HZ8.out)).trans HZ8.out
    have HRES := Lib.hid hres
    unfold zeroC at hres
    obtain ⟨c0, c1, c2, c3, c4, c5, c6, c7, c8, c9⟩ := eboxAll hres
    have f0 := efroz hres 0
    have f1 := efroz hres 1
    have f2 := efroz hres 2
    have f3 := efroz hres 3
    have f4 := efroz hres 4
    have f5 := efroz hres 5
    have f6 := efroz hres 6
    have f7 := efroz hres 7
    have f8 := efroz hres 8
    have f9 := efroz hres 9
    clear hres
    go_wp2
    clear c0 c1 c2 c3 c4 c5 c6 c7 c8 c9 f0 f1 f2 f3 f4 f5 f6 f7 f8 f9
    have hres := HRES.out
    unfold zeroC at hres
    have hbz := setAll_box hres (.int .i64 0) (.int .i64 0) (.string ⟨#[]⟩) (.slice none 0 0) (.bool false) (.string ⟨#[]⟩) (.string ⟨#[]⟩) (.bool false) (.slice none 0 0) (.slice none 0 0)
    have hBz := setAll_below (b := b8) (HX.out.2.2.2.1.trans (H3.out.mono HX.out.2.2.2.1.size)) HBR.out (.int .i64 0) (.int .i64 0) (.string ⟨#[]⟩) (.slice none 0 0) (.bool false) (.string ⟨#[]⟩) (.string ⟨#[]⟩) (.bool false) (.slice none 0 0) (.slice none 0 0)
    obtain ⟨w16, hw16⟩ : ∃ w16, w16 = setAll w3 b8 (.int .i64 0) (.int .i64 0) (.string ⟨#[]⟩) (.slice none 0 0) (.bool false) (.string ⟨#[]⟩) (.string ⟨#[]⟩) (.bool false) (.slice none 0 0) (.slice none 0 0) := ⟨_, rfl⟩
    rw [← hw16] at hbz hBz
    unfold setAll at hw16
    rw [← hw16]
    obtain ⟨t0, t1, t2, t3, t4, t5, t6, t7, t8, t9⟩ := eboxAll hbz
    refine bodyPost_ret (v := .tuple #[entV zeroN (.slice none 0 0) (.slice none 0 0) (.slice none 0 0), .bool false]) (by simp [results, Tryz.results14, go_sem, t0, t1, t2, t3, t4, t5, t6, t7, t8, t9, entV, entC, zeroN]) rfl ⟨⟨_, _, _, by rw [HNO.out], by rw [HNO.out]; exact ⟨RowK.nil, RowK.nil, RowK.nil⟩⟩, hBz⟩
  | true =>
    have hc := clockN_any now w3
    go_wp2_with fail
    refine hc.mono ?_
    rintro e w4 ⟨rfl, hb4⟩
    have H4 := Lib.hid (H3.out.trans (hb4.mono H3.out.size))
    have HN4 := Lib.hid (And.intro ((hb4.block _ (lt_of_cells HN3.out.1)).trans HN3.out.1) (HN3.out.2.below hb4))
    clear hc hb4
    cases hcl : clockB now with
    | false =>
      have hno : ofN host x id now = (zeroN, false) := by rw [HMD.out.2, if_neg]; rintro ⟨-, h⟩; rw [hcl] at h; cases h
      clear hcl
      have HNO := Lib.hid (hno)
      have hres := (H4.out.block _ (lt_of_cells HZ8.out)).trans HZ8.out
      have HRES := Lib.hid hres
      unfold zeroC at hres
      obtain ⟨c0, c1, c2, c3, c4, c5, c6, c7, c8, c9⟩ := eboxAll hres
      have f0 := efroz hres 0
      have f1 := efroz hres 1
      have f2 := efroz hres 2
      have f3 := efroz hres 3
      have f4 := efroz hres 4
      have f5 := efroz hres 5
      have f6 := efroz hres 6
      have f7 := efroz hres 7
      have f8 := efroz hres 8
      have f9 := efroz hres 9
      clear hres
      go_wp2
      clear c0 c1 c2 c3 c4 c5 c6 c7 c8 c9 f0 f1 f2 f3 f4 f5 f6 f7 f8 f9
      have hres := HRES.out
      unfold zeroC at hres
      have hbz := setAll_box hres (.int .i64 0) (.int .i64 0) (.string ⟨#[]⟩) (.slice none 0 0) (.bool false) (.string ⟨#[]⟩) (.string ⟨#[]⟩) (.bool false) (.slice none 0 0) (.slice none 0 0)
      have hBz := setAll_below (b := b8) (HX.out.2.2.2.1.trans (H4.out.mono HX.out.2.2.2.1.size)) HBR.out (.int .i64 0) (.int .i64 0) (.string ⟨#[]⟩) (.slice none 0 0) (.bool false) (.string ⟨#[]⟩) (.string ⟨#[]⟩) (.bool false) (.slice none 0 0) (.slice none 0 0)
      obtain ⟨w16, hw16⟩ : ∃ w16, w16 = setAll w4 b8 (.int .i64 0) (.int .i64 0) (.string ⟨#[]⟩) (.slice none 0 0) (.bool false) (.string ⟨#[]⟩) (.string ⟨#[]⟩) (.bool false) (.slice none 0 0) (.slice none 0 0) := ⟨_, rfl⟩
      rw [← hw16] at hbz hBz
      unfold setAll at hw16
      rw [← hw16]
      obtain ⟨t0, t1, t2, t3, t4, t5, t6, t7, t8, t9⟩ := eboxAll hbz
      refine bodyPost_ret (v := .tuple #[entV zeroN (.slice none 0 0) (.slice none 0 0) (.slice none 0 0), .bool false]) (by simp [results, Tryz.results14, go_sem, t0, t1, t2, t3, t4, t5, t6, t7, t8, t9, entV, entC, zeroN]) rfl ⟨⟨_, _, _, by rw [HNO.out], by rw [HNO.out]; exact ⟨RowK.nil, RowK.nil, RowK.nil⟩⟩, hBz⟩
    | true =>
      have hyes : ofN host x id now = (makeN id now (tellM nn x.mail.req), true) := by rw [HMD.out.2, if_pos ⟨by first | rfl | trivial, hcl⟩]
      have HYES := Lib.hid hyes
      have hTx := text_any nn _ w4 HN4.out.2 HX.out.2.2.2.2.1 ((HX.out.2.2.1.keep HX.out.2.2.2.1).keep H4.out)
      have hbn := HN4.out.1
      obtain ⟨y0, y1, y2, y3, y4, y5⟩ := nobox hbn
      unfold notV notC at hTx
      clear hcl hyes hbn
      go_wp2_with fail
      refine hTx.mono ?_
      rintro e w5 ⟨hp, hb5⟩
      have hpe : e = .returned (.tuple #[.string ⟨(textN nn).toArray⟩, .int .i64 0]) := by
        rcases hp with ⟨_, h⟩ | ⟨h, _⟩
        · exact h
        · rw [(HMD.out.1 (by first | rfl | trivial)).2] at h; cases h
      subst hpe
      have H5 := Lib.hid (H4.out.trans (hb5.mono H4.out.size))
      have hbn := (hb5.block _ (lt_of_cells HN4.out.1)).trans HN4.out.1
      clear hTx hb5 hp y0 y1 y2 y3 y4 y5
      obtain ⟨y0, y1, y2, y3, y4, y5⟩ := nobox hbn
      have hbx := (H5.out.block _ (lt_of_cells HX4.out)).trans HX4.out
      obtain ⟨x0, x1, x2, x3, x4, x5, x6, x7, x8, x9⟩ := eboxAll hbx
      obtain ⟨tx, htx⟩ : ∃ tx, tx = textN nn := ⟨_, rfl⟩
      rw [← htx]
      have HTX := Lib.hid htx
      have x4a : ∀ o, (w5.alloc o).cell? ⟨bx, 4, none⟩ = some (.bool x.mail.req) := fun o => (((Below.refl w5.heap.size w5).alloc (Nat.le_refl _) o).cell (p := ⟨bx, 4, none⟩) (cell_lt x4)).trans x4
      clear hbn hbx htx
      go_wp2_with fail
      generalize hw6 : World.alloc w5 _ = w6
      have hb6 : Below w5.heap.size w5 w6 := by rw [← hw6]; exact (Below.refl _ _).alloc (Nat.le_refl _) _
      have hx6 : w6.heap[w5.heap.size]? = some (.cells #[.string ⟨nn.dest.toArray⟩, .bool false] 57 (0, 0)) := by rw [← hw6]; exact ha_eq rfl
      have hrow : RowK 2 rcE w6 (.slice (some ⟨w5.heap.size, 0, none⟩) 1 1) [(nn.dest, false)] := by
        refine ⟨some ⟨w5.heap.size, 0, none⟩, 1, rfl, Nat.le_refl _, fun _ => ⟨w5.heap.size, 0, rfl, fun i hi j u hu => ?_⟩⟩
        have hi0 : i = 0 := by simpa using hi
        subst hi0
        unfold rcE at hu
        simp only [World.cell?, hx6, Nat.zero_mul, Nat.zero_add]
        rw [← Array.getElem?_toList]
        exact hu
      have H6 := H5.out.trans (hb6.mono H5.out.size)
      have hEm := make_any id now (tellM nn x.mail.req) _ w6 hrow ⟨by show 0 ≤ 1000000; decide, by show 0 ≤ 1000000; decide, HX.out.2.2.2.2.2, by show 1 ≤ 1000000; decide, fun r hr => by have : r = (nn.dest, false) := (by simpa [tellM] using hr); subst this; exact HX.out.2.2.2.2.1.dest⟩ ((HX.out.2.2.1.keep HX.out.2.2.2.1).keep H6)
      unfold mailV mailC tellM at hEm
      dsimp only at hEm
      rw [← HTX.out] at hEm
      have HH6 := Lib.hid H6
      clear hw6 hb6 hx6 hrow H6 x0 x1 x2 x3 x4 x4a x5 x6 x7 x8 x9 y0 y1 y2 y3 y4 y5
      refine hEm.mono ?_
      rintro e w7 ⟨⟨rv, fv2, jv2, rfl, hown⟩, hb7⟩
      clear hEm
      obtain ⟨y, hy⟩ : ∃ y, y = makeN id now ⟨[], [(nn.dest, false)], x.mail.req, [], tx⟩ := ⟨_, rfl⟩
      rw [← hy] at hown ⊢
      have HY := Lib.hid hy
      clear hy
      obtain ⟨q1, d1, rfl⟩ := own_shape hown.rc
      obtain ⟨q2, d2, rfl⟩ := own_shape hown.fa
      obtain ⟨q3, d3, rfl⟩ := own_shape hown.jo
      have H7 := Lib.hid (HH6.out.trans (hb7.mono HH6.out.size))
      have HO := Lib.hid hown
      clear hown hb7
      unfold entV entC
      have hres := (H7.out.block _ (lt_of_cells HZ8.out)).trans HZ8.out
      have HRES := Lib.hid hres
      unfold zeroC at hres
      obtain ⟨c0, c1, c2, c3, c4, c5, c6, c7, c8, c9⟩ := eboxAll hres
      have f0 := efroz hres 0
      have f1 := efroz hres 1
      have f2 := efroz hres 2
      have f3 := efroz hres 3
      have f4 := efroz hres 4
      have f5 := efroz hres 5
      have f6 := efroz hres 6
      have f7 := efroz hres 7
      have f8 := efroz hres 8
      have f9 := efroz hres 9
      clear hres
      go_wp2
      clear c0 c1 c2 c3 c4 c5 c6 c7 c8 c9 f0 f1 f2 f3 f4 f5 f6 f7 f8 f9
      have hres := HRES.out
      unfold zeroC at hres
      have hbz := setAll_box hres (.int .i64 y.id) (.int .i64 y.at_) (.string ⟨y.mail.sender.toArray⟩) (.slice q1 y.mail.rcpts.length d1) (.bool y.mail.req) (.string ⟨y.mail.envid.toArray⟩) (.string ⟨y.mail.text.toArray⟩) (.bool y.plain) (.slice q2 y.fates.length d2) (.slice q3 y.jobs.length d3)
      have hBz := setAll_below (b := b8) (HX.out.2.2.2.1.trans (H7.out.mono HX.out.2.2.2.1.size)) HBR.out (.int .i64 y.id) (.int .i64 y.at_) (.string ⟨y.mail.sender.toArray⟩) (.slice q1 y.mail.rcpts.length d1) (.bool y.mail.req) (.string ⟨y.mail.envid.toArray⟩) (.string ⟨y.mail.text.toArray⟩) (.bool y.plain) (.slice q2 y.fates.length d2) (.slice q3 y.jobs.length d3)
      have hOz : OwnE (setAll w7 b8 (.int .i64 y.id) (.int .i64 y.at_) (.string ⟨y.mail.sender.toArray⟩) (.slice q1 y.mail.rcpts.length d1) (.bool y.mail.req) (.string ⟨y.mail.envid.toArray⟩) (.string ⟨y.mail.text.toArray⟩) (.bool y.plain) (.slice q2 y.fates.length d2) (.slice q3 y.jobs.length d3)) w6.heap.size y (.slice q1 y.mail.rcpts.length d1) (.slice q2 y.fates.length d2) (.slice q3 y.jobs.length d3) := ⟨own_set HO.out.rc HRES.out (by decide) _ _ _ _ _ _ _ _ _ _, own_set HO.out.fa HRES.out (by decide) _ _ _ _ _ _ _ _ _ _, own_set HO.out.jo HRES.out (by decide) _ _ _ _ _ _ _ _ _ _⟩
      obtain ⟨w16, hw16⟩ : ∃ w16, w16 = setAll w7 b8 (.int .i64 y.id) (.int .i64 y.at_) (.string ⟨y.mail.sender.toArray⟩) (.slice q1 y.mail.rcpts.length d1) (.bool y.mail.req) (.string ⟨y.mail.envid.toArray⟩) (.string ⟨y.mail.text.toArray⟩) (.bool y.plain) (.slice q2 y.fates.length d2) (.slice q3 y.jobs.length d3) := ⟨_, rfl⟩
      rw [← hw16] at hbz hBz hOz
      unfold setAll at hw16
      rw [← hw16]
      obtain ⟨t0, t1, t2, t3, t4, t5, t6, t7, t8, t9⟩ := eboxAll hbz
      have hfin : ofN host x id now = (y, true) := by rw [HYES.out, HY.out, HTX.out]; rfl
      refine bodyPost_ret (v := .tuple #[entV y (.slice q1 y.mail.rcpts.length d1) (.slice q2 y.fates.length d2) (.slice q3 y.jobs.length d3), .bool true]) (by simp [results, Tryz.results14, go_sem, t0, t1, t2, t3, t4, t5, t6, t7, t8, t9, entV, entC]) rfl ⟨⟨_, _, _, by rw [hfin], by rw [hfin]; exact hOz.at⟩, hBz⟩
end Go.Proofs.YtlpngibdplnieaaGreatDoor

/- notice.Most. -/
namespace Go.Proofs.YtlpngibdplnieaaGreatDoor
open Go Go.RowKit Go.Shelf Go.Sort
attribute [local go_sem] bneI

theorem repeatN_any (w : World) : Calls Tryz.prog 48 #[.string ⟨#[119]⟩, .int .i64 118] w fun e w' => e = .returned (.string ⟨(List.replicate 118 119).toArray⟩) ∧ Below w.heap.size w w' := by
  have h := Tryz.strings_Repeat ⟨#[119]⟩ 118 w (by decide) (by show 1 * 118 ≤ _; decide)
  have e := Lib.repeatL_replicate 119 1 118
  rw [show (⟨#[119]⟩ : ByteArray).data.toList = List.replicate 1 119 from rfl, e] at h
  exact h
/-- The longest text; a mail's entry, each of whose recipients failed with it. -/
def wideT : Bytes := [53, 46, 57, 57, 57, 46, 57, 57, 57, 32] ++ List.replicate 118 119
def wideX (m : MailP) : EntP := wayN wideT m m.rcpts.length 0
def mostNo (host : Bytes) (m : MailP) : Nat := if (ofN host (wideX m) 1099511627776 0).2 = true then mostN (ofN host (wideX m) 1099511627776 0).1.mail else 0
set_option linter.unusedSimpArgs false in
set_option maxRecDepth 100000 in
set_option maxHeartbeats 8000000 in
theorem mostNo_any (host : Bytes) (m : MailP) (sv : Value) (w : World) (hr : RowK 2 rcE w sv m.rcpts) (hs : ShortM m) (hh : host.length ≤ maxLen) (hE : Env w) (hsx : ShortE (wideX m)) (hsh : ShortN (madeN host (wideX m) 1099511627776).1) (htl : (textN (madeN host (wideX m) 1099511627776).1).length ≤ 1000000)
    (hsm : ShortM (ofN host (wideX m) 1099511627776 0).1.mail) :
    Calls Tryz.prog 19 #[.string ⟨host.toArray⟩, mailV m sv] w fun e w' => e = .returned (.int .i64 (mostNo host m : Int)) ∧ Below w.heap.size w w' := by
  obtain ⟨p, c, rfl, -⟩ := hr.sh
  obtain ⟨W1, hW1⟩ : ∃ W1, W1 = (w.alloc (.cells (mailC m (.slice p m.rcpts.length c)).toArray 24)) := ⟨_, rfl⟩
  have hB1 : Below w.heap.size w W1 := by rw [hW1]; exact (Below.refl _ w).alloc (Nat.le_refl _) _
  have hb1 : W1.heap[w.heap.size]? = some (.cells (mailC m (.slice p m.rcpts.length c)).toArray 24 (0, 0)) := by rw [hW1]; exact ha_eq rfl
  have hMk := make_any 1099511627776 1099511627776 m (.slice p m.rcpts.length c) W1 (hr.below hB1) hs (hE.keep hB1)
  have HX := Lib.hid (And.intro hs (And.intro hE (And.intro hB1 (And.intro hh (And.intro hsx (And.intro hsh (And.intro htl hsm)))))))
  unfold mailV at hMk ⊢
  unfold mailC at hMk hW1 hb1 ⊢
  obtain ⟨x0, x1, x2, x3, x4⟩ := mbox hb1
  clear hr hs hE hB1 hb1 hh hsx hsh htl hsm
  go_enter Tryz.func19, Tryz.ntmps19
  go_upto_region 1 with (fail)
  rw [← hW1]
  clear hW1
  go_wp2_with fail
  refine hMk.mono ?_
  rintro e w2 ⟨⟨rv, fv, jv, rfl, hown⟩, hb2⟩
  clear hMk x0 x1 x2 x3 x4
  obtain ⟨p1, c1, rfl⟩ := own_shape hown.rc
  obtain ⟨p2, c2, rfl⟩ := own_shape hown.fa
  obtain ⟨p3, c3, rfl⟩ := own_shape hown.jo
  rw [make_rc, (make_lens _ _ m).1, (make_lens _ _ m).2] at hown
  rw [make_rc, (make_lens _ _ m).1, (make_lens _ _ m).2]
  have HO := Lib.hid (And.intro hown hb2)
  clear hown hb2
  unfold entV entC
  go_upto_region 2 with (fail)
  have hFu := ful_start (t := wideT) HX.out.2.2.1 HO.out.2 HO.out.1
  unfold entC at hFu
  generalize hW3 : World.alloc w2 _ = w3 at hFu ⊢
  clear hW3
  obtain ⟨bx, hbx⟩ : ∃ bx, bx = w2.heap.size := ⟨_, rfl⟩
  rw [← hbx] at hFu ⊢
  have HFu := Lib.hid hFu
  have y8 := hFu.c8
  have hn := HX.out.1.rcpts
  clear hFu hbx
  go_wp2_with fail
  clear y8
  go_loopw [6, 14] (fun _ s14 wr => ∃ i : Nat, s14 = .int .i64 (i : Int) ∧ i ≤ m.rcpts.length ∧ FuL w (wayN wideT m i 0) bx W1.heap.size (.slice p1 m.rcpts.length c1) (.slice p2 m.rcpts.length c2) (.slice p3 (domsM m.rcpts).length c3) wr) (fun _ s14 _ => m.rcpts.length - natI s14)
  case atStart => exact ⟨0, rfl, Nat.zero_le _, HFu.out⟩
  case round =>
    obtain ⟨i, rfl, hi, hF⟩ := hrel
    have HF := Lib.hid hF
    clear hF
    by_cases hlast : i < m.rcpts.length
    · have hli : (i : Int) < (m.rcpts.length : Int) := by omega
      have q8 := BW.cell HF.out.c8
      have hS := BW.calls (w := wr) (fun W _ => repeatN_any W)
      have hw1 : wrap64 ((i : Int) + 1) = (i : Int) + 1 := by unfold wrap64; omega
      have hcat := cat_bytes [53, 46, 57, 57, 57, 46, 57, 57, 57, 32] (List.replicate 118 119)
      have hrl : (List.replicate 118 (119 : UInt8)).length = 118 := by simp
      have hwt : ([53, 46, 57, 57, 57, 46, 57, 57, 57, 32] ++ List.replicate 118 119 : Bytes) = wideT := rfl
      rw [hwt] at hcat
      clear hwt
      obtain ⟨g, rfl, -, -, -⟩ := HF.out.put (wayN_fates _ _ (by omega)) hlast
      generalize List.replicate 118 (119 : UInt8) = wl at *
      go_upto_region 5 with (fail)
      refine wp_region_quiet_tail (C := fun w' => ∃ p : BW wr, w' = p.v) 6 (by kernel_rfl) (by kernel_rfl) ⟨⟨wr.drew, ⟨rfl, rfl, rfl, Nat.le_refl _, fun _ _ => rfl⟩⟩, rfl⟩ ?_
      simp only [List.take_succ_cons, List.take_zero, List.drop_succ_cons, List.drop_zero]
      repeat (go_big_quiet_step (exact hS _))
      refine wpQuiet_nil ?_
      rintro W5 ⟨⟨W5, hB5⟩, rfl⟩
      obtain ⟨g', e, ⟨u0, u1, v0, v1⟩, hfz, hst⟩ := (HF.out.keep hB5).put (wayN_fates _ _ (by omega)) hlast
      cases e
      have hst := hst (2, wideT)
      rw [wayN_set _ _ hlast] at hst
      have HS := Lib.hid hst
      have f0 := hfz (i * 2)
      have f1 := hfz (i * 2 + 1)
      clear hst hfz q8 hS hB5
      go_wp2
      go_roundw
      case rel => exact ⟨i + 1, by simp, by omega, HS.out⟩
      case measure => simp [natI]; omega
    · have hli : ¬ (i : Int) < (m.rcpts.length : Int) := by omega
      have hie : i = m.rcpts.length := by omega
      subst hie
      have hfu := HF.out
      have hfx : wayN wideT m m.rcpts.length 0 = wideX m := rfl
      rw [hfx] at hfu
      obtain ⟨y, hy⟩ : ∃ y, y = wideX m := ⟨_, rfl⟩
      have hml : y.mail.rcpts.length = m.rcpts.length := by rw [hy]; rfl
      have hat := hfu.own.at
      have hOf := ofNot_any host (wideX m) 1099511627776 0 _ _ _ wr hat HX.out.2.2.2.2.1 HX.out.2.2.2.1 (HX.out.2.1.keep hfu.below) HX.out.2.2.2.2.2.1 HX.out.2.2.2.2.2.2.1
      have hbx2 := hfu.box
      have HB := Lib.hid hfu.below
      unfold OfPost at hOf
      unfold entC at hbx2
      unfold entV entC at hOf
      obtain ⟨t0, t1, t2, t3, t4, t5, t6, t7, t8, t9⟩ := eboxAll hbx2
      have hmo : mostNo host m = if (ofN host (wideX m) 1099511627776 0).2 = true then mostN (ofN host (wideX m) 1099511627776 0).1.mail else 0 := rfl
      have hsm := HX.out.2.2.2.2.2.2.2
      obtain ⟨oo, hoo⟩ : ∃ oo, oo = ofN host (wideX m) 1099511627776 0 := ⟨_, rfl⟩
      rw [← hoo] at hOf hmo hsm
      obtain ⟨z, has⟩ := oo
      dsimp only at hOf hmo hsm
      have HMO := Lib.hid (And.intro hmo hsm)
      clear hfu hfx hml hy hat hbx2 hmo hsm hoo
      go_wp2_with fail
      refine hOf.mono ?_
      rintro e w4 ⟨⟨sv2, fv2, jv2, rfl, hza⟩, hb4⟩
      clear hOf t0 t1 t2 t3 t4 t5 t6 t7 t8 t9
      obtain ⟨q1, d1, rfl, -⟩ := hza.rc.sh
      obtain ⟨q2, d2, rfl, -⟩ := hza.fa.sh
      obtain ⟨q3, d3, rfl, -⟩ := hza.jo.sh
      have HZA := Lib.hid (And.intro hza (HB.out.trans (hb4.mono HB.out.size)))
      clear hza hb4
      go_upto_region 8 with (fail)
      have hal : Below w4.heap.size w4 (w4.alloc (.cells (entC z (.slice q1 z.mail.rcpts.length d1) (.slice q2 z.fates.length d2) (.slice q3 z.jobs.length d3)).toArray 28)) := (Below.refl _ _).alloc (Nat.le_refl _) _
      have hx5 : (w4.alloc (.cells (entC z (.slice q1 z.mail.rcpts.length d1) (.slice q2 z.fates.length d2) (.slice q3 z.jobs.length d3)).toArray 28)).heap[w4.heap.size]? = some (.cells (entC z (.slice q1 z.mail.rcpts.length d1) (.slice q2 z.fates.length d2) (.slice q3 z.jobs.length d3)).toArray 28 (0, 0)) := ha_eq rfl
      unfold entC at hal hx5
      generalize hw5 : World.alloc w4 _ = w5 at hal hx5 ⊢
      obtain ⟨b7, hb7⟩ : ∃ b7, b7 = w4.heap.size := ⟨_, rfl⟩
      rw [← hb7] at hx5 ⊢
      have H5 := Lib.hid (And.intro (HZA.out.2.trans (hal.mono HZA.out.2.size)) (HZA.out.1.rc.below hal))
      obtain ⟨t0, t1, t2, t3, t4, t5, t6, t7, t8, t9⟩ := eboxAll hx5
      clear hw5 hb7 hal hx5
      cases has with
      | false =>
        have hmo : mostNo host m = 0 := by rw [HMO.out.1, if_neg]; intro h; cases h
        have HM0 := Lib.hid hmo
        clear hmo
        go_wp2
        refine bodyPost_ret (v := .int .i64 0) (by simp [results, Tryz.results19, go_sem]) rfl ⟨by rw [HM0.out]; rfl, H5.out.1⟩
      | true =>
        have hmo : mostNo host m = mostN z.mail := by rw [HMO.out.1, if_pos (by first | rfl | trivial)]
        have HM0 := Lib.hid hmo
        have hMo := most_any z.mail _ w5 H5.out.2 HMO.out.2 (HX.out.2.1.keep H5.out.1)
        unfold mailV mailC at hMo
        clear hmo
        go_wp2_with fail
        refine hMo.mono ?_
        rintro e w6 ⟨rfl, hb6⟩
        have H6 := Lib.hid (H5.out.1.trans (hb6.mono H5.out.1.size))
        clear hMo hb6 t0 t1 t2 t3 t4 t5 t6 t7 t8 t9
        go_wp2
        refine bodyPost_ret (v := .int .i64 (mostN z.mail : Int)) (by simp [results, Tryz.results19, go_sem]) rfl ⟨by rw [HM0.out], H6.out⟩
end Go.Proofs.YtlpngibdplnieaaGreatDoor

/- notice: how long a text may be, in plain Lean. -/
namespace Go.Proofs.YtlpngibdplnieaaGreatDoor
open Go

theorem splitLast_len {b : UInt8} : ∀ {s l d : Bytes}, splitLast b s = some (l, d) → s.length = l.length + 1 + d.length
  | [], l, d, h => by cases h
  | c :: r, l, d, h => by
    unfold splitLast at h
    split at h
    · rename_i l2 d2 he
      injection h with h
      injection h with h1 h2
      subst h1 h2
      have := splitLast_len he
      simp; omega
    · split at h
      · injection h with h
        injection h with h1 h2
        subst h1 h2
        simp; omega
      · cases h
theorem undot_len (s : Bytes) : s.length ≤ (undotB s).length + 1 := by
  unfold undotB
  split <;> simp <;> omega
theorem foldB_len2 {s d : Bytes} (h : foldB s = some d) : s.length ≤ 254 := by
  have h0 := undot_len s
  have h1 := foldB_len h
  unfold foldB at h
  split at h
  · injection h with h
    rw [← h, List.length_map] at h1
    omega
  · cases h
theorem addrB_len {s : Bytes} (h : addrB s = true) : s.length ≤ 319 := by
  unfold addrB parseB at h
  split at h
  · rename_i l d he
    split at h
    · cases h
    · rename_i hn
      have hl : l.length ≤ 64 := by
        refine Nat.le_of_not_lt fun hc => hn (.inr (.inl hc))
      cases hf : foldB d with
      | none => rw [hf] at h; cases h
      | some e =>
        have h2 := foldB_len2 hf
        have h3 := splitLast_len (show splitLast 64 s = some (l, d) from he)
        omega
  · cases h
theorem parts_total (b : UInt8) : ∀ l : Bytes, ((parts b l).map List.length).sum + (parts b l).length = l.length + 1
  | [] => by simp [parts]
  | c :: r => by
    have ih := parts_total b r
    unfold parts
    split
    · simp only [List.map_cons, List.sum_cons, List.length_cons, List.length_nil]
      omega
    · cases hp : parts b r with
      | nil => exact absurd hp (parts_ne b r)
      | cons p ps =>
        rw [hp] at ih
        simp only [List.map_cons, List.sum_cons, List.length_cons] at ih ⊢
        omega
theorem statusB_len {s : Bytes} (h : statusB s = true) : s.length ≤ 9 := by
  have ht := parts_total 46 s
  unfold statusB at h
  split at h
  · rename_i a b c he
    rw [he] at ht
    simp only [Bool.and_eq_true, decide_eq_true_eq] at h
    obtain ⟨h1, h2, h3⟩ := h
    unfold digitsB at h2 h3
    simp only [Bool.and_eq_true, decide_eq_true_eq] at h2 h3
    subst h1
    simp only [List.map_cons, List.map_nil, List.sum_cons, List.sum_nil, List.length_cons, List.length_nil] at ht
    omega
  · cases h
theorem badFl_len {f : FlP} (h : badFl f = false) : f.dest.length ≤ 319 ∧ f.status.length ≤ 9 ∧ f.text.length ≤ 128 := by
  unfold badFl at h
  simp only [Bool.or_eq_false_iff, Bool.not_eq_false', decide_eq_false_iff_not, ne_eq, Decidable.not_not] at h
  refine ⟨addrB_len h.1, statusB_len h.2.1, ?_⟩
  rw [← h.2.2]
  unfold wordB
  rw [List.length_take]
  exact Nat.min_le_left _ _
theorem lineB_len (a t b : Bytes) : (lineB a t b).length = a.length + t.length + b.length + 2 := by
  unfold lineB
  simp only [List.length_append, List.length_cons, List.length_nil]
  omega
theorem barB_nil : barB [] = [] := rfl
theorem barB_cons (s : Bytes) (ls : List Bytes) : (barB (s :: ls)).length = s.length + 2 + (barB ls).length := by
  unfold barB
  rw [List.flatMap_cons, List.length_append, lineB_len]
  simp
set_option maxRecDepth 100000 in
theorem failB_len {f : FlP} (h : badFl f = false) : (failB f).length ≤ 537 := by
  obtain ⟨h1, h2, h3⟩ := badFl_len h
  unfold failB pc10 pc11 pc12 pc13 pc14
  simp only [List.length_append, lineB_len, barB_cons, barB_nil, List.length_cons, List.length_nil]
  omega
theorem fails_len : ∀ {fs : List FlP}, fs.any badFl = false → (fs.flatMap failB).length ≤ fs.length * 537
  | [], _ => by simp
  | f :: fs, h => by
    rw [List.any_cons, Bool.or_eq_false_iff] at h
    have h1 := failB_len h.1
    have h2 := fails_len h.2
    rw [List.flatMap_cons, List.length_append, List.length_cons, Nat.succ_mul]
    omega
set_option maxRecDepth 100000 in
/-- What may be has a text that a mail may have. -/
theorem textN_fit {n : NotP} (hh : n.host.length ≤ 253) (hd : n.dest.length ≤ 319) (he : n.envid.length ≤ 32) (hfs : n.failed.any badFl = false) (h4 : n.failed.length ≤ 4) (hic : clockB n.id = true) (hac : clockB n.at_ = true) : (textN n).length ≤ 4096 := by
  have hf := fails_len hfs
  have hi := clockN_le hic
  have ha := clockN_le hac
  have l1 := itoa_len n.id hi.1 hi.2
  have l2 := itoa_len n.at_ ha.1 ha.2
  have hm : n.failed.length * 537 ≤ 4 * 537 := Nat.mul_le_mul_right _ h4
  have h2 : (head2B n (Lib.itoa n.id)).length ≤ (headB n (Lib.itoa n.id)).length + 56 := by
    unfold head2B
    split
    · omega
    · unfold pcE
      simp only [List.length_append, lineB_len, List.length_cons, List.length_nil]
      omega
  unfold textN noteB head3B pcA pcZ
  unfold headB pc0 pc1 pc2 pc3 pc4 pc5 pc6 pc7 pc8 pc9 at h2
  simp only [List.length_append, lineB_len, barB_cons, barB_nil, List.length_cons, List.length_nil] at h2 ⊢
  omega
theorem textN_len {n : NotP} (h : MayO n) : (textN n).length ≤ 4096 := by
  refine textN_fit ?_ (addrB_len h.dest) ?_ h.each h.few h.idc h.at_
  · have := h.host
    unfold mayB at this
    simp only [Bool.and_eq_true, decide_eq_true_eq] at this
    exact this.1.1
  · have := h.envid
    unfold envidB at this
    simp only [Bool.and_eq_true, decide_eq_true_eq] at this
    exact this.2
theorem textN_no : (textN noNot).length ≤ 4096 := textN_fit (by decide) (by decide) (by decide) rfl (by decide) rfl rfl
theorem made_len (host : Bytes) (x : EntP) (id : Int) : (textN (madeN host x id).1).length ≤ 1000000 := by
  cases h : (madeN host x id).2 with
  | true =>
    have := textN_len ((mayNot_iff _).1 (made_may h).2)
    omega
  | false =>
    have hn : madeN host x id = (noNot, false) := by
      unfold madeN at h ⊢
      split at h
      · cases h
      · rename_i hh; rw [if_neg hh]
    rw [hn]
    have := textN_no
    show (textN noNot).length ≤ _
    omega
theorem made_short {host : Bytes} {x : EntP} (id : Int) (hh : host.length ≤ maxLen) (hs : ShortE x) (hb : x.fates.length ≤ 1000000) : ShortN (madeN host x id).1 := by
  unfold madeN
  split
  · rename_i h
    have hfx := few_may ((mayN_iff x).1 h.1) hs.mail
    have hft : ∀ f ∈ x.fates, f.2.length ≤ 1000 := fun f hf => by have := (wrong_lens (hfx.may.fates f hf)).2; omega
    refine ⟨hh, hs.mail.sender, hs.mail.envid, ?_, fails_short hs hft _⟩
    have h1 := failsOf_len x (badM x)
    have h2 := bad_len x
    show (failsOf x (badM x)).length ≤ _
    omega
  · exact ⟨Nat.zero_le _, by decide, by decide, by decide, fun f hf => by cases hf⟩
/-- The answer's mail is short. -/
theorem of_short {host : Bytes} {x : EntP} (id now : Int) (hh : host.length ≤ maxLen) (hs : ShortE x) (hb : x.fates.length ≤ 1000000) : ShortM (ofN host x id now).1.mail := by
  unfold ofN
  split
  · have h1 := made_short (host := host) (x := x) id hh hs hb
    exact ⟨by show 0 ≤ 1000000; decide, by show 0 ≤ 1000000; decide, made_len host x id, by show 1 ≤ 1000000; decide, fun r hr => by
      have : r = ((madeN host x id).1.dest, false) := (by simpa [makeN, tellM] using hr)
      subst this; exact h1.dest⟩
  · exact ⟨by decide, by decide, by decide, by decide, fun r hr => by cases hr⟩
end Go.Proofs.YtlpngibdplnieaaGreatDoor

/- notice.Most, for every host and mail that are short. -/
namespace Go.Proofs.YtlpngibdplnieaaGreatDoor
open Go Go.RowKit Go.Shelf Go.Sort

theorem wide_short {m : MailP} (h : ShortM m) : ShortE (wideX m) := by
  have hw : wideT.length ≤ 1000000 := by unfold wideT; simp
  refine ⟨h, ?_, ?_, fun f hf => ?_, fun f hf => ?_, fun j hj => ?_⟩
  · have := wayN_fates wideT m (i := m.rcpts.length) (k := 0) (Nat.le_refl _)
    show (wayN wideT m m.rcpts.length 0).fates.length ≤ _
    rw [this]; exact h.rcpts
  · have := wayN_jobs wideT m m.rcpts.length 0
    show (wayN wideT m m.rcpts.length 0).jobs.length ≤ _
    rw [this]
    have h1 := domsM_len m.rcpts
    have h2 := h.rcpts
    omega
  · rcases fates_mem (show f ∈ fatF wideT m.rcpts.length m.rcpts.length from hf) with rfl | rfl
    · show 2 < 256; decide
    · show 0 < 256; decide
  · rcases fates_mem (show f ∈ fatF wideT m.rcpts.length m.rcpts.length from hf) with rfl | rfl
    · exact hw
    · show 0 ≤ 1000000; decide
  · have hj : j ∈ jobF (domsM m.rcpts) 1099511627776 0 := hj
    unfold jobF at hj
    rcases List.mem_append.1 hj with hj | hj
    · obtain ⟨d, hd, rfl⟩ := List.mem_map.1 hj
      have := doms_short (List.mem_of_mem_take hd)
      show d.length ≤ 1000000
      omega
    · obtain ⟨d, hd, rfl⟩ := List.mem_map.1 hj
      have := doms_short (List.mem_of_mem_drop hd)
      show d.length ≤ 1000000
      omega
theorem mostNote_any (host : Bytes) (m : MailP) (sv : Value) (w : World) (hr : RowK 2 rcE w sv m.rcpts) (hs : ShortM m) (hh : host.length ≤ maxLen) (hE : Env w) :
    Calls Tryz.prog 19 #[.string ⟨host.toArray⟩, mailV m sv] w fun e w' => e = .returned (.int .i64 (mostNo host m : Int)) ∧ Below w.heap.size w w' := by
  have hx := wide_short hs
  exact mostNo_any host m sv w hr hs hh hE hx (made_short _ hh hx hx.fates) (made_len _ _ _) (of_short _ _ hh hx hx.fates)
end Go.Proofs.YtlpngibdplnieaaGreatDoor

/- notice: a notice's text is one that a mail may have, in plain Lean. -/
namespace Go.Proofs.YtlpngibdplnieaaGreatDoor
open Go

/-! ### Signs that a line may have -/
def okC (c : UInt8) : Bool := c == 9 || (32 ≤ c && c ≤ 126)
theorem okC_of {c : UInt8} (h1 : 32 ≤ c.toNat) (h2 : c.toNat ≤ 126) : okC c = true := by
  unfold okC
  rw [Bool.or_eq_true]
  refine .inr ?_
  rw [Bool.and_eq_true, decide_eq_true_eq, decide_eq_true_eq, UInt8.le_iff_toNat_le, UInt8.le_iff_toNat_le]
  exact ⟨h1, h2⟩
theorem okC_13 {c : UInt8} (h : okC c = true) : c ≠ 13 := by
  intro e
  subst e
  exact absurd h (by decide)
theorem dig_ok {c : UInt8} (h : isDig c = true) : okC c = true := by
  unfold isDig at h
  simp only [Bool.and_eq_true, decide_eq_true_eq] at h
  exact okC_of (by omega) (by omega)
theorem okCh_ok {c : UInt8} (h : okCh c = true) : okC c = true := by
  unfold okCh isDig isLow at h
  simp only [Bool.or_eq_true, Bool.and_eq_true, decide_eq_true_eq, beq_iff_eq] at h
  exact okC_of (by omega) (by omega)
theorem let_ok {c : UInt8} (h : letB c = true) : okC c = true := by
  unfold letB at h
  simp only [Bool.or_eq_true, Bool.and_eq_true, decide_eq_true_eq, UInt8.le_iff_toNat_le] at h
  have e1 : (97 : UInt8).toNat = 97 := rfl
  have e2 : (122 : UInt8).toNat = 122 := rfl
  have e3 : (65 : UInt8).toNat = 65 := rfl
  have e4 : (90 : UInt8).toNat = 90 := rfl
  have e5 : (48 : UInt8).toNat = 48 := rfl
  have e6 : (57 : UInt8).toNat = 57 := rfl
  rw [e1, e2, e3, e4, e5, e6] at h
  exact okC_of (by omega) (by omega)
theorem sign_ok : ∀ c ∈ signB, okC c = true := by decide
theorem atomsF_ok : ∀ (s : Bytes) (d : Bool), atomsF d s = true → ∀ c ∈ s, okC c = true
  | [], _, _, c, hc => by cases hc
  | x :: r, d, h, c, hc => by
    unfold atomsF at h
    rw [Bool.and_eq_true] at h
    rcases List.mem_cons.1 hc with rfl | hc
    · have h1 := h.1
      simp only [Bool.or_eq_true, Bool.and_eq_true, beq_iff_eq, List.contains_eq_mem, decide_eq_true_eq] at h1
      rcases h1 with ⟨rfl, -⟩ | ⟨-, h1 | h1⟩
      · decide
      · exact let_ok h1
      · exact sign_ok _ h1
    · exact atomsF_ok r _ h.2 c hc
theorem quotedF_ok : ∀ (s : Bytes) (d : Bool), quotedF d s = true → ∀ c ∈ s, okC c = true
  | [], _, _, c, hc => by cases hc
  | x :: r, d, h, c, hc => by
    unfold quotedF at h
    rw [Bool.and_eq_true] at h
    rcases List.mem_cons.1 hc with rfl | hc
    · have h1 := h.1
      unfold okC
      simp only [Bool.and_eq_true] at h1
      simp only [Bool.or_eq_true, Bool.and_eq_true]
      exact .inr ⟨h1.1.1, h1.1.2⟩
    · exact quotedF_ok r _ h.2 c hc
theorem quotedB_ok {s : Bytes} (h : quotedB s = true) : ∀ c ∈ s, okC c = true := by
  unfold quotedB at h
  split at h
  · rename_i r
    rw [Bool.and_eq_true, beq_iff_eq] at h
    intro c hc
    rcases List.mem_cons.1 hc with rfl | hc
    · decide
    · have hne : r ≠ [] := fun e => by rw [e] at hc; cases hc
      have hl : r = r.dropLast ++ [34] := by
        have h1 := h.1
        rw [List.getLast?_eq_some_getLast hne] at h1
        injection h1 with h1
        rw [← h1]
        exact (List.dropLast_concat_getLast hne).symm
      rw [hl] at hc
      rcases List.mem_append.1 hc with hc | hc
      · exact quotedF_ok _ _ h.2 c hc
      · have : c = 34 := by simpa using hc
        subst this; decide
  · cases h
theorem parts_mem (b : UInt8) : ∀ (s : Bytes) (c : UInt8), c ∈ s → c = b ∨ ∃ p ∈ parts b s, c ∈ p
  | [], c, h => by cases h
  | x :: r, c, h => by
    unfold parts
    rcases List.mem_cons.1 h with rfl | h
    · split
      · rename_i e; exact .inl e
      · cases hp : parts b r with
        | nil => exact absurd hp (parts_ne b r)
        | cons p ps => exact .inr ⟨_, List.mem_cons_self, List.mem_cons_self⟩
    · rcases parts_mem b r c h with e | ⟨p, hp, hc⟩
      · exact .inl e
      · split
        · exact .inr ⟨p, List.mem_cons_of_mem _ hp, hc⟩
        · cases hq : parts b r with
          | nil => exact absurd hq (parts_ne b r)
          | cons q qs =>
            rw [hq] at hp
            rcases List.mem_cons.1 hp with rfl | hp
            · exact .inr ⟨_, List.mem_cons_self, List.mem_cons_of_mem _ hc⟩
            · exact .inr ⟨p, List.mem_cons_of_mem _ hp, hc⟩
theorem mayB_ok {s : Bytes} (h : mayB s = true) : ∀ c ∈ s, okC c = true := by
  intro c hc
  unfold mayB at h
  simp only [Bool.and_eq_true, List.all_eq_true] at h
  rcases parts_mem 46 s c hc with rfl | ⟨p, hp, hc⟩
  · decide
  · have h1 := h.1.2 p hp
    unfold labB chB at h1
    simp only [Bool.and_eq_true, List.all_eq_true] at h1
    exact okCh_ok (h1.2 c hc)
theorem splitLast_eq {b : UInt8} : ∀ {s l d : Bytes}, splitLast b s = some (l, d) → s = l ++ b :: d
  | [], l, d, h => by cases h
  | c :: r, l, d, h => by
    unfold splitLast at h
    split at h
    · rename_i l2 d2 he
      injection h with h
      injection h with h1 h2
      subst h1 h2
      rw [splitLast_eq he]; rfl
    · split at h
      · rename_i e
        injection h with h
        injection h with h1 h2
        subst h1 h2 e
        rfl
      · cases h
theorem low_ok {c : UInt8} (h : okC (lowB c) = true) : okC c = true := by
  unfold lowB at h
  split at h
  · rename_i hc
    simp only [Bool.and_eq_true, decide_eq_true_eq, UInt8.le_iff_toNat_le] at hc
    have e3 : (65 : UInt8).toNat = 65 := rfl
    have e4 : (90 : UInt8).toNat = 90 := rfl
    rw [e3, e4] at hc
    exact okC_of (by omega) (by omega)
  · exact h
theorem foldB_ok {s d : Bytes} (h : foldB s = some d) : ∀ c ∈ s, okC c = true := by
  unfold foldB at h
  split at h
  · rename_i hm
    have hu : ∀ c ∈ undotB s, okC c = true := fun c hc => low_ok (mayB_ok hm _ (List.mem_map_of_mem hc))
    intro c hc
    unfold undotB at hu
    split at hu
    · rename_i hl
      have hne : s ≠ [] := fun e => by rw [e] at hl; cases hl
      have hs : s = s.dropLast ++ [46] := by
        rw [List.getLast?_eq_some_getLast hne] at hl
        injection hl with hl
        conv => lhs; rw [← List.dropLast_concat_getLast hne, hl]
      rw [hs] at hc
      rcases List.mem_append.1 hc with hc | hc
      · exact hu c hc
      · have : c = 46 := by simpa using hc
        subst this; decide
    · exact hu c hc
  · cases h
theorem addrB_ok {s : Bytes} (h : addrB s = true) : ∀ c ∈ s, okC c = true := by
  unfold addrB parseB at h
  split at h
  · rename_i l d he
    split at h
    · cases h
    · rename_i hn
      have hq : (atomsB l || quotedB l) = true := by
        cases hb : (atomsB l || quotedB l) with
        | true => rfl
        | false => exact absurd (.inr (.inr (.inr hb))) hn
      cases hf : foldB d with
      | none => rw [hf] at h; cases h
      | some e =>
        intro c hc
        rw [splitLast_eq (show splitLast 64 s = some (l, d) from he)] at hc
        rcases List.mem_append.1 hc with hc | hc
        · rw [Bool.or_eq_true] at hq
          rcases hq with hq | hq
          · exact atomsF_ok _ _ hq c hc
          · exact quotedB_ok hq c hc
        · rcases List.mem_cons.1 hc with rfl | hc
          · decide
          · exact foldB_ok hf c hc
  · cases h
theorem envB_ok {s : Bytes} (h : envB s = true) : ∀ c ∈ s, okC c = true := by
  intro c hc
  have := List.all_eq_true.1 h c hc
  rw [Bool.or_eq_true] at this
  rcases this with h | h
  · exact let_ok h
  · rw [beq_iff_eq] at h
    subst h; decide
theorem digitsB_ok {s : Bytes} (h : digitsB s = true) : ∀ c ∈ s, okC c = true := by
  unfold digitsB at h
  simp only [Bool.and_eq_true, List.all_eq_true] at h
  exact fun c hc => dig_ok (h.2.2 c hc)
theorem statusB_ok {s : Bytes} (h : statusB s = true) : ∀ c ∈ s, okC c = true := by
  intro c hc
  have hp := parts_mem 46 s c hc
  unfold statusB at h
  split at h
  · rename_i a b d he
    rw [he] at hp
    simp only [Bool.and_eq_true, decide_eq_true_eq] at h
    rcases hp with rfl | ⟨p, hp, hc⟩
    · decide
    · simp only [List.mem_cons, List.not_mem_nil, or_false] at hp
      rcases hp with rfl | rfl | rfl
      · rw [h.1] at hc
        have : c = 53 := by simpa using hc
        subst this; decide
      · exact digitsB_ok h.2.1 c hc
      · exact digitsB_ok h.2.2 c hc
  · cases h
theorem wordB_ok {s : Bytes} (h : wordB s = s) : ∀ c ∈ s, okC c = true := by
  intro c hc
  rw [← h] at hc
  unfold wordB at hc
  have := (List.mem_filter.1 (List.mem_of_mem_take hc)).2
  unfold standsB at this
  simp only [Bool.and_eq_true, decide_eq_true_eq] at this
  exact okC_of this.1 this.2
theorem itoa_ok {n : Int} (h : 0 ≤ n) : ∀ c ∈ Lib.itoa n, okC c = true := by
  obtain ⟨a, rfl⟩ := Int.eq_ofNat_of_zero_le h
  rw [itoa_nat]
  exact fun c hc => dig_ok (List.all_eq_true.1 (decDigits_all a) c hc)
/-! ### Lines -/
theorem cut_cons_ne2 (b c : UInt8) (t r : Bytes) (h : c ≠ b) : Lib.cut (c :: r) (b :: t) = ((c :: (Lib.cut r (b :: t)).1), (Lib.cut r (b :: t)).2.1, (Lib.cut r (b :: t)).2.2) := by
  have hi : Lib.index (c :: r) (b :: t) = if Lib.index r (b :: t) == -1 then -1 else Lib.index r (b :: t) + 1 := by
    have h' : ¬ b = c := fun e => h e.symm
    simp [Lib.index, List.isPrefixOf, h']
  have hge := Lib.index_ge r (b :: t)
  by_cases hn : Lib.index r (b :: t) = -1
  · simp [Lib.cut, hi, hn]
  · have h0 : 0 ≤ Lib.index r (b :: t) := by omega
    have e1 : Lib.index (c :: r) (b :: t) = Lib.index r (b :: t) + 1 := by rw [hi]; simp [hn]
    have e2 : (Lib.index r (b :: t) + 1).toNat = (Lib.index r (b :: t)).toNat + 1 := by omega
    have h1 : 0 ≤ Lib.index r (b :: t) + 1 := by omega
    have e3 : ∀ k : Nat, (Lib.index r (b :: t)).toNat + 1 + k = (Lib.index r (b :: t)).toNat + k + 1 := fun k => by omega
    simp [Lib.cut, e1, h0, h1, e2, e3]
theorem cut_crlf (r : Bytes) : ∀ l : Bytes, (13 : UInt8) ∉ l → Lib.cut (l ++ 13 :: 10 :: r) [13, 10] = (l, r, true)
  | [], _ => by
    have : Lib.index (13 :: 10 :: r) [13, 10] = 0 := by simp [Lib.index, List.isPrefixOf]
    simp [Lib.cut, this]
  | c :: l, h => by
    have hc : c ≠ 13 := fun e => h (by rw [e]; exact List.mem_cons_self)
    rw [List.cons_append, cut_cons_ne2 13 c [10] _ hc, cut_crlf r l (fun hm => h (List.mem_cons_of_mem _ hm))]
theorem textB_line {l r : Bytes} (h : ∀ c ∈ l, okC c = true) (hl : l.length ≤ 510) : textB (l ++ 13 :: 10 :: r) = textB r := by
  rw [textB_cut (cut_crlf r l fun hm => okC_13 (h _ hm) rfl)]
  have : lineOk l = true := by
    unfold lineOk
    rw [Bool.and_eq_true, decide_eq_true_eq, List.all_eq_true]
    exact ⟨by omega, h⟩
  rw [this, Bool.true_and]
/-- What may stand ahead of any text. -/
def TxtOk (s : Bytes) : Prop := ∀ r, textB (s ++ r) = textB r
theorem TxtOk.nil : TxtOk [] := fun _ => rfl
theorem TxtOk.app {a b : Bytes} (ha : TxtOk a) (hb : TxtOk b) : TxtOk (a ++ b) := fun r => by rw [List.append_assoc, ha, hb]
theorem TxtOk.line {a t b : Bytes} (ha : a.all okC = true) (ht : ∀ c ∈ t, okC c = true) (hb : b.all okC = true) (hl : a.length + t.length + b.length ≤ 510) : TxtOk (lineB a t b) := fun r => by
  have e : lineB a t b ++ r = (a ++ (t ++ b)) ++ 13 :: 10 :: r := by
    unfold lineB
    simp only [List.append_assoc, List.cons_append, List.nil_append]
  rw [e]
  refine textB_line (fun c hc => ?_) (by simp only [List.length_append]; omega)
  rcases List.mem_append.1 hc with hc | hc
  · exact List.all_eq_true.1 ha c hc
  · rcases List.mem_append.1 hc with hc | hc
    · exact ht c hc
    · exact List.all_eq_true.1 hb c hc
theorem TxtOk.flat {α : Type} {f : α → Bytes} : ∀ {l : List α}, (∀ x ∈ l, TxtOk (f x)) → TxtOk (l.flatMap f)
  | [], _ => TxtOk.nil
  | x :: l, h => by
    rw [List.flatMap_cons]
    exact (h x List.mem_cons_self).app (TxtOk.flat fun y hy => h y (List.mem_cons_of_mem _ hy))
theorem TxtOk.bar {ls : List Bytes} (h : ls.all (fun s => s.all okC && decide (s.length ≤ 510)) = true) : TxtOk (barB ls) := by
  refine TxtOk.flat fun s hs => ?_
  have := List.all_eq_true.1 h s hs
  rw [Bool.and_eq_true, decide_eq_true_eq] at this
  exact TxtOk.line this.1 (fun c hc => by cases hc) rfl (by simpa using this.2)
set_option maxRecDepth 100000 in
theorem failB_ok {f : FlP} (h : badFl f = false) : TxtOk (failB f) := by
  obtain ⟨h1, h2, h3⟩ := badFl_len h
  unfold badFl at h
  simp only [Bool.or_eq_false_iff, Bool.not_eq_false', decide_eq_false_iff_not, ne_eq, Decidable.not_not] at h
  unfold failB
  refine TxtOk.app (TxtOk.app (TxtOk.app (TxtOk.app ?_ ?_) ?_) ?_) ?_
  · exact TxtOk.bar (by decide +kernel)
  · exact TxtOk.line (by decide +kernel) (addrB_ok h.1) (by decide +kernel) (by simp only [List.length_cons, List.length_nil]; omega)
  · exact TxtOk.bar (by decide +kernel)
  · exact TxtOk.line (by decide +kernel) (statusB_ok h.2.1) (by decide +kernel) (by simp only [List.length_cons, List.length_nil]; omega)
  · exact TxtOk.line (by decide +kernel) (wordB_ok h.2.2) (by decide +kernel) (by simp only [List.length_cons, List.length_nil]; omega)
set_option maxRecDepth 100000 in
theorem textN_ok {n : NotP} (h : MayO n) : textB (textN n) = true := by
  have hh : n.host.length ≤ 253 := by
    have := h.host
    unfold mayB at this
    simp only [Bool.and_eq_true, decide_eq_true_eq] at this
    exact this.1.1
  have hd := addrB_len h.dest
  have hev := h.envid
  unfold envidB at hev
  rw [Bool.and_eq_true, decide_eq_true_eq] at hev
  have hi := clockN_le h.idc
  have ha := clockN_le h.at_
  have l1 := itoa_len n.id hi.1 hi.2
  have l2 := itoa_len n.at_ ha.1 ha.2
  have o1 := itoa_ok hi.1
  have o2 := itoa_ok ha.1
  have oh := mayB_ok h.host
  have od := addrB_ok h.dest
  have oe := envB_ok hev.1
  have key : TxtOk (textN n) := by
    unfold textN noteB head3B
    refine TxtOk.app (TxtOk.app (TxtOk.app ?_ ?_) ?_) ?_
    · have hhead : TxtOk (headB n (Lib.itoa n.id)) := by
        unfold headB
        refine TxtOk.app (TxtOk.app (TxtOk.app (TxtOk.app (TxtOk.app (TxtOk.app (TxtOk.app (TxtOk.app (TxtOk.app (TxtOk.app TxtOk.nil ?_) ?_) ?_) ?_) ?_) ?_) ?_) ?_) ?_) ?_
        · exact TxtOk.line (by decide +kernel) oh (by decide +kernel) (by simp only [List.length_cons, List.length_nil]; omega)
        · exact TxtOk.line (by decide +kernel) od (by decide +kernel) (by simp only [List.length_cons, List.length_nil]; omega)
        · exact TxtOk.bar (by decide +kernel)
        · exact TxtOk.line (by decide +kernel) o1 (by decide +kernel) (by simp only [List.length_cons, List.length_nil]; omega)
        · exact TxtOk.bar (by decide +kernel)
        · exact TxtOk.line (by decide +kernel) o1 (by decide +kernel) (by simp only [List.length_cons, List.length_nil]; omega)
        · exact TxtOk.bar (by decide +kernel)
        · exact TxtOk.line (by decide +kernel) o1 (by decide +kernel) (by simp only [List.length_cons, List.length_nil]; omega)
        · exact TxtOk.bar (by decide +kernel)
        · exact TxtOk.line (by decide +kernel) oh (by decide +kernel) (by simp only [List.length_cons, List.length_nil]; omega)
      unfold head2B
      split
      · exact hhead
      · exact hhead.app (TxtOk.line (by decide +kernel) oe (by decide +kernel) (by simp only [List.length_cons, List.length_nil]; omega))
    · exact TxtOk.line (by decide +kernel) o2 (by decide +kernel) (by simp only [List.length_cons, List.length_nil]; omega)
    · exact TxtOk.flat fun f hf => failB_ok (by
        have := List.any_eq_false.1 h.each f hf
        simpa using this)
    · exact TxtOk.line (by decide +kernel) o1 (by decide +kernel) (by simp only [List.length_cons, List.length_nil]; omega)
  have := key []
  rw [List.append_nil] at this
  rw [this]
  rfl
end Go.Proofs.YtlpngibdplnieaaGreatDoor

/- NoticeMost: what notice.Most answers, in plain Lean. -/
namespace Go.Proofs.YtlpngibdplnieaaGreatDoor
open Go

theorem mostN_pos (m : MailP) : (mostN m = 0 ↔ mailB m 4 4096 ≠ 0) := by
  have h := may_full 119 rfl m
  unfold mostN
  by_cases e : mailB m 4 4096 = 0
  · rw [h, if_pos (by simpa using e)]
    have := encB_pos (fullN 119 m)
    constructor
    · intro h; omega
    · intro h; exact absurd e h
  · rw [h, if_neg (by simpa using e)]
    exact ⟨fun _ => e, fun _ => rfl⟩
structure MailO (m : MailP) (a b : Nat) : Prop where
  text : m.text.length ≤ b
  rcpts : m.rcpts.length ≤ a
  sender : pathB m.sender = true
  pos : 0 < m.rcpts.length
  envlen : m.envid.length ≤ 32
  lines : textB m.text = true
  env : envB m.envid = true
  each : rcptsB [] (m.rcpts.map (·.1)) = true
theorem mailB_iff (m : MailP) (a b : Nat) : mailB m a b = 0 ↔ MailO m a b := by
  unfold mailB
  split
  · rename_i h
    constructor
    · intro h; cases h
    · intro ho
      have := ho.text
      have := ho.rcpts
      omega
  · rename_i h
    split
    · rename_i h2
      simp only [Bool.and_eq_true, decide_eq_true_eq] at h2
      obtain ⟨⟨⟨⟨⟨h3, h4⟩, h5⟩, h6⟩, h7⟩, h8⟩ := h2
      exact ⟨fun _ => ⟨by omega, by omega, h3, h4, h5, h6, h7, h8⟩, fun _ => rfl⟩
    · rename_i h2
      constructor
      · intro h; cases h
      · intro ho
        refine absurd ?_ h2
        simp only [Bool.and_eq_true, decide_eq_true_eq]
        exact ⟨⟨⟨⟨⟨ho.sender, ho.pos⟩, ho.envlen⟩, ho.lines⟩, ho.env⟩, ho.each⟩
theorem tell_mail {n : NotP} (h : MayO n) (req : Bool) : mailB (tellM n req) 4 4096 = 0 := by
  rw [mailB_iff]
  refine ⟨textN_len h, by show 1 ≤ 4; decide, rfl, by show 0 < 1; decide, by show 0 ≤ 32; decide, textN_ok h, rfl, ?_⟩
  show rcptsB [] [n.dest] = true
  unfold rcptsB
  rw [h.dest]
  rfl
theorem wide_wrong : wrongB (2, wideT) = false := by decide +kernel
theorem wide_may (m : MailP) : mayN (wideX m) = decide (mailB m 4 4096 = 0) := by
  rw [Bool.eq_iff_iff, mayN_iff, decide_eq_true_eq]
  constructor
  · intro h; exact h.mail
  · intro h
    refine ⟨by show (1 : Int) ≤ 1099511627776; decide, rfl, rfl, h, rfl, wayN_fates _ _ (Nat.le_refl _), fun f hf => ?_, ?_⟩
    · have hf : f ∈ fatF wideT m.rcpts.length m.rcpts.length := hf
      rw [fatF_all] at hf
      rw [List.eq_of_mem_replicate hf]
      exact wide_wrong
    · show jobsOk (jobF (domsM m.rcpts) 1099511627776 0) (domsM m.rcpts) = true
      rw [jobF_zero]
      exact jobsOk_map 0 1099511627776 (by decide) (by decide) rfl _
theorem wide_fates (m : MailP) : (wideX m).fates = List.replicate m.rcpts.length (2, wideT) := fatF_all _ _
theorem wide_settled (m : MailP) : settledB (wideX m) = true := by
  unfold settledB
  rw [wide_fates, Bool.not_eq_true', List.any_eq_false]
  intro f hf
  rw [List.eq_of_mem_replicate hf]
  decide
theorem bad_mem {x : EntP} {i : Nat} : i ∈ badM x ↔ ∃ r f, x.mail.rcpts[i]? = some r ∧ x.fates[i]? = some f ∧ badOf r f = true := by
  unfold badM plcM
  rw [plcB_mem]
  constructor
  · rintro ⟨h1, p, h2, h3⟩
    rw [List.getElem?_zip_eq_some] at h2
    exact ⟨p.1, p.2, h2.1, h2.2, h3⟩
  · rintro ⟨r, f, h1, h2, h3⟩
    have h4 : (x.mail.rcpts.zip x.fates)[i]? = some (r, f) := by rw [List.getElem?_zip_eq_some]; exact ⟨h1, h2⟩
    exact ⟨(List.getElem?_eq_some_iff.1 h4).1, _, h4, h3⟩
theorem fails_all {x : EntP} (l : List Nat) (h : ∀ i ∈ l, i ∈ badM x) : (failsOf x l).length = l.length := by
  induction l with
  | nil => rfl
  | cons i l ih =>
    obtain ⟨r, f, h1, h2, -⟩ := bad_mem.1 (h i List.mem_cons_self)
    have e : failsOf x (i :: l) = ⟨r.1, statusOf f.2, f.2⟩ :: failsOf x l := by
      unfold failsOf
      rw [List.filterMap_cons, h1, h2]
    rw [e, List.length_cons, List.length_cons, ih fun j hj => h j (List.mem_cons_of_mem _ hj)]
theorem stat_of (s : Bytes) : statusB (statusOf s) = true := by
  unfold statusOf
  cases h : (parts 32 s).find? statusB with
  | none => decide +kernel
  | some b => exact List.find?_some h
theorem fails_mem {x : EntP} {l : List Nat} {g : FlP} (h : g ∈ failsOf x l) : ∃ i ∈ l, ∃ r f, x.mail.rcpts[i]? = some r ∧ x.fates[i]? = some f ∧ g = ⟨r.1, statusOf f.2, f.2⟩ := by
  unfold failsOf at h
  obtain ⟨i, hi, he⟩ := List.mem_filterMap.1 h
  cases hr : x.mail.rcpts[i]? with
  | none => rw [hr] at he; simp at he
  | some r =>
    cases hf : x.fates[i]? with
    | none => rw [hr, hf] at he; simp at he
    | some f =>
      rw [hr, hf] at he
      have he : (⟨r.1, statusOf f.2, f.2⟩ : FlP) = g := by simpa using he
      exact ⟨i, hi, r, f, hr, hf, he.symm⟩
theorem wrong_word {f : FaP} (h : wrongB f = false) : wordB f.2 = f.2 := by
  unfold wrongB at h
  simp only [Bool.or_eq_false_iff, decide_eq_false_iff_not, ne_eq, Decidable.not_not] at h
  exact h.2.1
/-- When the notice of an entry may be. -/
theorem not_iff {x : EntP} (h : MayN x) (hs : x.mail.sender ≠ []) (host : Bytes) (id : Int) : mayNot (notOf host x id) = true ↔ badM x ≠ [] ∧ mayB host = true ∧ 0 < id ∧ clockB id = true := by
  have ho := (mailB_iff _ _ _).1 h.mail
  have hl : (notOf host x id).failed.length = (badM x).length := fails_all _ fun _ h => h
  rw [mayNot_iff]
  constructor
  · intro m
    refine ⟨fun e => ?_, m.host, m.id, m.idc⟩
    have hp := m.pos
    rw [hl, e] at hp
    exact absurd hp (by decide)
  · rintro ⟨h1, h2, h3, h4⟩
    have hsd := ho.sender
    unfold pathB at hsd
    refine ⟨h3, h4, h.at_, h2, ?_, ?_, ?_, ?_, ?_⟩
    · show addrB x.mail.sender = true
      rw [Bool.or_eq_true] at hsd
      rcases hsd with hsd | hsd
      · exact absurd (List.isEmpty_iff.1 hsd) hs
      · exact hsd
    · show envidB x.mail.envid = true
      unfold envidB
      rw [ho.env, decide_eq_true ho.envlen]
      rfl
    · rw [hl]
      exact List.length_pos_iff.2 h1
    · rw [hl]
      have := bad_len x
      have := h.len
      have := ho.rcpts
      omega
    · rw [List.any_eq_false]
      intro g hg
      obtain ⟨i, hi, r, f, h1, h2, rfl⟩ := fails_mem hg
      have ha := rcptsB_addr _ _ ho.each r.1 (List.mem_map_of_mem (List.mem_of_getElem? h1))
      unfold badFl
      dsimp only
      rw [ha, stat_of, wrong_word (h.fates f (List.mem_of_getElem? h2))]
      simp
/-- When an entry has a notice. -/
theorem made_iff (host : Bytes) (x : EntP) (id : Int) : (madeN host x id).2 = true ↔ mayN x = true ∧ settledB x = true ∧ x.mail.sender ≠ [] ∧ badM x ≠ [] ∧ mayB host = true ∧ 0 < id ∧ clockB id = true := by
  have key : (madeN host x id).2 = true ↔ mayN x = true ∧ settledB x = true ∧ x.mail.sender ≠ [] ∧ mayNot (notOf host x id) = true := by
    unfold madeN
    split
    · rename_i h; exact ⟨fun _ => h, fun _ => rfl⟩
    · rename_i h; exact ⟨fun e => (by cases e), fun e => absurd e h⟩
  rw [key]
  constructor
  · rintro ⟨h1, h2, h3, h4⟩
    obtain ⟨g1, g2, g3, g4⟩ := (not_iff ((mayN_iff x).1 h1) h3 host id).1 h4
    exact ⟨h1, h2, h3, g1, g2, g3, g4⟩
  · rintro ⟨h1, h2, h3, g1, g2, g3, g4⟩
    exact ⟨h1, h2, h3, (not_iff ((mayN_iff x).1 h1) h3 host id).2 ⟨g1, g2, g3, g4⟩⟩
theorem wide_bad (m : MailP) : badM (wideX m) ≠ [] ↔ ∃ r ∈ m.rcpts, r.2 = false := by
  constructor
  · intro h
    obtain ⟨i, l, he⟩ := List.exists_cons_of_ne_nil h
    obtain ⟨r, f, h1, -, h3⟩ := bad_mem.1 (show i ∈ badM (wideX m) by rw [he]; exact List.mem_cons_self)
    unfold badOf at h3
    rw [Bool.and_eq_true, Bool.not_eq_true'] at h3
    exact ⟨r, List.mem_of_getElem? h1, h3.2⟩
  · rintro ⟨r, hr, h2⟩ he
    obtain ⟨i, hi, rfl⟩ := List.getElem_of_mem hr
    have : i ∈ badM (wideX m) := by
      refine bad_mem.2 ⟨m.rcpts[i], (2, wideT), List.getElem?_eq_getElem hi, ?_, ?_⟩
      · rw [wide_fates, List.getElem?_replicate, if_pos hi]
      · unfold badOf
        rw [h2]
        rfl
    rw [he] at this
    cases this
/-- Whether a mail's entry has a notice, at worst. -/
theorem made_wide (host : Bytes) (m : MailP) : (madeN host (wideX m) 1099511627776).2 = true ↔ mailB m 4 4096 = 0 ∧ m.sender ≠ [] ∧ (∃ r ∈ m.rcpts, r.2 = false) ∧ mayB host = true := by
  rw [made_iff, wide_may, decide_eq_true_eq, wide_bad]
  constructor
  · rintro ⟨h1, -, h3, h4, h5, -⟩
    exact ⟨h1, h3, h4, h5⟩
  · rintro ⟨h1, h2, h3, h4⟩
    exact ⟨h1, wide_settled m, h2, h3, h4, by decide, rfl⟩
theorem ofN_wide (host : Bytes) (m : MailP) : (ofN host (wideX m) 1099511627776 0).2 = (madeN host (wideX m) 1099511627776).2 ∧ ((madeN host (wideX m) 1099511627776).2 = true → (ofN host (wideX m) 1099511627776 0).1.mail = tellM (madeN host (wideX m) 1099511627776).1 m.req) := by
  unfold ofN
  cases h : (madeN host (wideX m) 1099511627776).2 with
  | true => exact ⟨by rw [if_pos ⟨rfl, rfl⟩], fun _ => by rw [if_pos ⟨rfl, rfl⟩]; rfl⟩
  | false => exact ⟨by rw [if_neg (by rintro ⟨h, -⟩; cases h)], fun h => by cases h⟩
theorem mostNo_yes {host : Bytes} {m : MailP} (h : (madeN host (wideX m) 1099511627776).2 = true) : mostNo host m = mostN (tellM (madeN host (wideX m) 1099511627776).1 m.req) := by
  obtain ⟨h1, h2⟩ := ofN_wide host m
  unfold mostNo
  rw [h1, if_pos h, h2 h]
theorem mostNo_no {host : Bytes} {m : MailP} (h : (madeN host (wideX m) 1099511627776).2 = false) : mostNo host m = 0 := by
  obtain ⟨h1, h2⟩ := ofN_wide host m
  unfold mostNo
  rw [h1, if_neg (by rw [h]; intro h; cases h)]
/-- When the answer is not 0. -/
theorem mostNo_pos (host : Bytes) (m : MailP) : mostNo host m ≠ 0 ↔ mailB m 4 4096 = 0 ∧ m.sender ≠ [] ∧ (∃ r ∈ m.rcpts, r.2 = false) ∧ mayB host = true := by
  rw [← made_wide]
  cases h : (madeN host (wideX m) 1099511627776).2 with
  | true =>
    rw [mostNo_yes h]
    refine ⟨fun _ => rfl, fun _ e => ?_⟩
    exact (mostN_pos _).1 e (tell_mail ((mayNot_iff _).1 (made_may h).2) _)
  | false =>
    rw [mostNo_no h]
    exact ⟨fun h => absurd rfl h, fun h => by cases h⟩
theorem textN_le {n k : NotP} (h1 : (Lib.itoa n.id).length ≤ (Lib.itoa k.id).length) (h2 : n.host.length ≤ k.host.length) (h3 : n.dest = k.dest) (h4 : n.envid = k.envid) (h5 : (Lib.itoa n.at_).length ≤ (Lib.itoa k.at_).length) (h6 : (n.failed.flatMap failB).length ≤ (k.failed.flatMap failB).length) : (textN n).length ≤ (textN k).length := by
  have hh : (headB n (Lib.itoa n.id)).length ≤ (headB k (Lib.itoa k.id)).length := by
    unfold headB pc0 pc1 pc3 pc5 pc7 pc9
    simp only [List.length_append, lineB_len, h3]
    omega
  have h2h : (head2B n (Lib.itoa n.id)).length ≤ (head2B k (Lib.itoa k.id)).length := by
    unfold head2B
    rw [h4]
    split
    · exact hh
    · rw [List.length_append, List.length_append]
      unfold pcE
      rw [h4]
      omega
  unfold textN noteB head3B pcA pcZ
  simp only [List.length_append, lineB_len]
  omega
/-- How long a text is hangs on the host's length alone. -/
theorem textN_host (n k : NotP) (h1 : n.id = k.id) (h2 : n.host.length = k.host.length) (h3 : n.dest = k.dest) (h4 : n.envid = k.envid) (h5 : n.at_ = k.at_) (h6 : n.failed = k.failed) : (textN n).length = (textN k).length :=
  Nat.le_antisymm (textN_le (Nat.le_of_eq (by rw [h1])) (Nat.le_of_eq h2) h3 h4 (Nat.le_of_eq (by rw [h5])) (Nat.le_of_eq (by rw [h6]))) (textN_le (Nat.le_of_eq (by rw [h1])) (Nat.le_of_eq h2.symm) h3.symm h4.symm (Nat.le_of_eq (by rw [h5])) (Nat.le_of_eq (by rw [h6])))
theorem most_text (m k : MailP) (hm : mailB m 4 4096 = 0) (hk : mailB k 4 4096 = 0) (h1 : m.sender = k.sender) (h2 : m.rcpts = k.rcpts) (h3 : m.req = k.req) (h4 : m.envid = k.envid) (h5 : m.text.length = k.text.length) : mostN m = mostN k := by
  have e1 : mayN (fullN 119 m) = true := by rw [may_full 119 rfl, hm]; rfl
  have e2 : mayN (fullN 119 k) = true := by rw [may_full 119 rfl, hk]; rfl
  unfold mostN
  rw [if_pos e1, if_pos e2]
  unfold encB fullN makeN txtB
  dsimp only
  rw [h1, h2, h3, h4]
  simp only [List.length_append, h5]
theorem mostNo_eq {host other : Bytes} {m : MailP} (hl : host.length = other.length) (ha : mostNo host m ≠ 0) (hb : mostNo other m ≠ 0) : mostNo host m = mostNo other m := by
  have h1 := (made_wide host m).2 ((mostNo_pos host m).1 ha)
  have h2 := (made_wide other m).2 ((mostNo_pos other m).1 hb)
  have m1 := made_may h1
  have m2 := made_may h2
  rw [mostNo_yes h1, mostNo_yes h2]
  refine most_text _ _ (tell_mail ((mayNot_iff _).1 m1.2) _) (tell_mail ((mayNot_iff _).1 m2.2) _) rfl ?_ rfl rfl ?_
  · show [((madeN host (wideX m) 1099511627776).1.dest, false)] = [((madeN other (wideX m) 1099511627776).1.dest, false)]
    rw [m1.1, m2.1]
    rfl
  · show (textN _).length = (textN _).length
    rw [m1.1, m2.1]
    exact textN_host _ _ rfl hl rfl rfl rfl rfl
/-- NoticeMost's answer. -/
theorem mostLawN (host other : Bytes) (m : MailP) : (decide (0 < mostNo host m) == (decide (mailB m 4 4096 = 0) && (decide (m.sender ≠ []) && (!m.rcpts.all (·.2) && mayB host)))) = true ∧ (mostNo host m = 0 ∨ mostNo other m = 0 ∨ host.length ≠ other.length ∨ mostNo host m = mostNo other m) := by
  constructor
  · rw [beq_iff_eq, Bool.eq_iff_iff]
    simp only [Bool.and_eq_true, decide_eq_true_eq, Bool.not_eq_true']
    have := mostNo_pos host m
    have hall : m.rcpts.all (·.2) = false ↔ ∃ r ∈ m.rcpts, r.2 = false := by
      rw [List.all_eq_false]
      simp
    rw [hall, ← this]
    omega
  · by_cases h1 : mostNo host m = 0
    · exact .inl h1
    by_cases h2 : mostNo other m = 0
    · exact .inr (.inl h2)
    by_cases h3 : host.length = other.length
    · exact .inr (.inr (.inr (mostNo_eq h3 h1 h2)))
    · exact .inr (.inr (.inl h3))
end Go.Proofs.YtlpngibdplnieaaGreatDoor

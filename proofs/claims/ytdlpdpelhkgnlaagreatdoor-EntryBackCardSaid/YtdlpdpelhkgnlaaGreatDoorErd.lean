/- entry's reader: num, text, yes. -/
import Derived.Test.YtdlpdpelhkgnlaaGreatDoorEnum
import Derived.Test.YtdlpdpelhkgnlaaGreatDoorEmj
namespace Go.Proofs.YtdlpdpelhkgnlaaGreatDoor
open Go Go.RowKit Go.Shelf Go.Sort
attribute [local go_sem] bneI

/-- A reader in the box b, behind the world w0. -/
structure RdAt (w0 : World) (b : Nat) (r : Rd) (w : World) : Prop where
  below : Below w0.heap.size w0 w
  ge : w0.heap.size ≤ b
  box : w.heap[b]? = some (.cells #[.string ⟨r.s.toArray⟩, .bool r.bad] 103 (0, 0))
theorem rdbox {W : World} {b : Nat} {u v : Value} {t : TypeId} (h : W.heap[b]? = some (.cells #[u, v] t (0, 0))) : W.cell? ⟨b, 0, none⟩ = some u ∧ W.cell? ⟨b, 1, none⟩ = some v := by
  refine ⟨?_, ?_⟩ <;> simp [World.cell?, h]
theorem RdAt.keep {w0 w w' : World} {b : Nat} {r : Rd} (h : RdAt w0 b r w) (hb : Below w.heap.size w w') : RdAt w0 b r w' :=
  ⟨h.below.trans (hb.mono h.below.size), h.ge, (hb.block _ (lt_of_cells h.box)).trans h.box⟩
theorem RdAt.grown {w0 w w' : World} {b : Nat} {r r' : Rd} (h : RdAt w0 b r w) (hg : w.grownBy w' (some b)) (hb : w'.heap[b]? = some (.cells #[.string ⟨r'.s.toArray⟩, .bool r'.bad] 103 (0, 0))) : RdAt w0 b r' w' :=
  ⟨h.below.grown hg h.below.size (fun k e => by cases e; exact h.ge), h.ge, hb⟩
theorem grown_set2 (W : World) (b : Nat) (u v : Value) : W.grownBy ((W.setCell ⟨b, 0, none⟩ u).setCell ⟨b, 1, none⟩ v) (some b) :=
  World.grownBy.trans (b := W.setCell ⟨b, 0, none⟩ u) ⟨rfl, rfl, rfl, by simp [World.setCell], fun k _ hk => Below.heap_setCell _ _ _ k (fun e => hk (by rw [e]))⟩ ⟨rfl, rfl, rfl, by simp [World.setCell], fun k _ hk => Below.heap_setCell _ _ _ k (fun e => hk (by rw [e]))⟩
theorem set2_box {W : World} {b : Nat} {x y u v : Value} {t : TypeId} (h : W.heap[b]? = some (.cells #[x, y] t (0, 0))) : ((W.setCell ⟨b, 0, none⟩ u).setCell ⟨b, 1, none⟩ v).heap[b]? = some (.cells #[u, v] t (0, 0)) := by
  have h := heap_setE (off := 1) (v := v) (heap_setE (off := 0) (v := u) h)
  simp only [List.setIfInBounds_toArray, List.set_cons_succ, List.set_cons_zero] at h
  exact h
/-- What a method of the reader leaves. -/
def RdPost (w0 : World) (b : Nat) (v : Value) (r' : Rd) (w : World) (e : Ending) (w' : World) : Prop := e = .returned v ∧ RdAt w0 b r' w' ∧ w.grownBy w' (some b)
theorem numC_le (s : Bytes) (most : Nat) : (numC s most).1 ≤ most := by
  unfold numC
  split
  · exact Nat.zero_le _
  · split
    · exact Nat.zero_le _
    · dsimp only; omega
set_option maxRecDepth 100000 in
set_option maxHeartbeats 4000000 in
theorem rnum_any (w0 : World) (b : Nat) (r : Rd) (most : Nat) (w : World) (h : RdAt w0 b r w) (hE : Env8 w0) (hs : r.s.length ≤ 1000000000) (hm : most < 9223372036854775808) :
    Calls Tryz.prog 62 #[.pointer (some ⟨b, 0, none⟩), .int .i64 (most : Int)] w (RdPost w0 b (.int .i64 ((rdNum most r).1 : Int)) (rdNum most r).2 w) := by
  obtain ⟨s, bd⟩ := r
  obtain ⟨gm, hgm⟩ := (hE.keep h.below).env.glob
  have hC := Tryz.strings_Cut ⟨s.toArray⟩ ⟨#[58]⟩ gm w (by show s.length < _; dsimp only at hs; omega) hgm
  have e1 : (⟨s.toArray⟩ : ByteArray).data.toList = s := rfl
  have e3 : (⟨#[58]⟩ : ByteArray).data.toList = [58] := rfl
  rw [e1, e3] at hC
  have hle := cut58_le s
  have hrd : rdNum most ⟨s, bd⟩ = ((numC (Lib.cut s [58]).1 most).1, ⟨(Lib.cut s [58]).2.1, bd || (!(Lib.cut s [58]).2.2 || decide ((numC (Lib.cut s [58]).1 most).2 ≠ 0))⟩) := rfl
  rw [hrd]
  obtain ⟨x0, x1⟩ := rdbox h.box
  have HX := Lib.hid (And.intro h (And.intro hE hs))
  clear h hE hrd e1 e3 hgm
  dsimp only at x0 x1
  cases hc : Lib.cut s [58] with
  | mk a x =>
    obtain ⟨t, f⟩ := x
    rw [hc] at hC hle
    dsimp only at hC hle ⊢
    clear hc
    obtain ⟨V, hV⟩ : ∃ V, V = (numC a most).1 := ⟨_, rfl⟩
    obtain ⟨E, hE⟩ : ∃ E, E = (numC a most).2 := ⟨_, rfl⟩
    rw [← hV, ← hE]
    have HV := Lib.hid (And.intro hV hE)
    clear hV hE
    go_enter Tryz.func62, Tryz.ntmps62
    go_wp2_with fail
    refine hC.mono ?_
    rintro e w2 ⟨rfl, n, rfl⟩
    have hk : RdAt w0 b ⟨s, bd⟩ (w.drewN n) := HX.out.1.keep (below_drewN (Below.refl _ _) _)
    have hN := num_any a most (w.drewN n) (by have := HX.out.2.2; omega) hm (HX.out.2.1.keep hk.below)
    have hg1 : w.grownBy (w.drewN n) (some b) := grownBy_of_below (below_drewN (Below.refl _ _) _) _
    have H2 := Lib.hid (And.intro hk hg1)
    clear hC x0 x1 hk hg1
    generalize World.drewN w n = w2 at *
    go_wp2_with fail
    refine hN.mono ?_
    rintro e w3 ⟨hp, hb3⟩
    unfold NumPost at hp
    subst hp
    have hk3 := H2.out.1.keep hb3
    have hg3 : w.grownBy w3 (some b) := World.grownBy.trans H2.out.2 (grownBy_of_below hb3 _)
    have H3 := Lib.hid (And.intro hk3 hg3)
    obtain ⟨x0, x1⟩ := rdbox hk3.box
    dsimp only at x0 x1
    have f0 := efroz hk3.box 0
    have f1 := efroz hk3.box 1
    clear hN hb3 hk3 hg3
    rw [← HV.out.1, ← HV.out.2]
    have key : ∀ (B : Bool), (bd || (!f || decide (E ≠ 0))) = B → RdAt w0 b ⟨t, bd || (!f || decide (E ≠ 0))⟩ ((w3.setCell ⟨b, 0, none⟩ (.string ⟨t.toArray⟩)).setCell ⟨b, 1, none⟩ (.bool B)) ∧ w.grownBy ((w3.setCell ⟨b, 0, none⟩ (.string ⟨t.toArray⟩)).setCell ⟨b, 1, none⟩ (.bool B)) (some b) := fun B e => by
      rw [e]
      exact ⟨H3.out.1.grown (grown_set2 _ _ _ _) (set2_box H3.out.1.box), World.grownBy.trans H3.out.2 (grown_set2 _ _ _ _)⟩
    have HK := Lib.hid key
    clear key
    cases bd with
    | true =>
      have HF := Lib.hid (HK.out true rfl)
      go_wp2
      refine bodyPost_ret (v := .int .i64 (V : Int)) (by simp [results, Tryz.results62, go_sem]) rfl ⟨rfl, HF.out⟩
    | false =>
      cases f with
      | false =>
        have HF := Lib.hid (HK.out true rfl)
        go_wp2
        refine bodyPost_ret (v := .int .i64 (V : Int)) (by simp [results, Tryz.results62, go_sem]) rfl ⟨rfl, HF.out⟩
      | true =>
        by_cases hE0 : E = 0
        · subst hE0
          have HF := Lib.hid (HK.out false rfl)
          go_wp2
          refine bodyPost_ret (v := .int .i64 (V : Int)) (by simp [results, Tryz.results62, go_sem]) rfl ⟨rfl, HF.out⟩
        · have HF := Lib.hid (HK.out true (by simp [hE0]))
          have e1 : ((E : Int) == 0) = false := beq_eq_false_iff_ne.2 (by omega)
          have e2 : decide ((E : Int) = 0) = false := decide_eq_false (by omega)
          have e3 : decide (E = 0) = false := decide_eq_false hE0
          clear hE0
          go_wp2
          refine bodyPost_ret (v := .int .i64 (V : Int)) (by simp [results, Tryz.results62, go_sem]) rfl ⟨rfl, HF.out⟩
theorem grown_set1 (W : World) (b o : Nat) (u : Value) : W.grownBy (W.setCell ⟨b, o, none⟩ u) (some b) := ⟨rfl, rfl, rfl, by simp [World.setCell], fun k _ hk => Below.heap_setCell _ _ _ k (fun e => hk (by rw [e]))⟩
theorem RdAt.bad {w0 w : World} {b : Nat} {s : Bytes} {bd : Bool} (h : RdAt w0 b ⟨s, bd⟩ w) (v : Bool) : RdAt w0 b ⟨s, v⟩ (w.setCell ⟨b, 1, none⟩ (.bool v)) := by
  refine h.grown (grown_set1 _ _ _ _) ?_
  have h := heap_setE (off := 1) (v := .bool v) h.box
  simp only [List.setIfInBounds_toArray, List.set_cons_succ, List.set_cons_zero] at h
  exact h
theorem RdAt.rest {w0 w : World} {b : Nat} {s : Bytes} {bd : Bool} (h : RdAt w0 b ⟨s, bd⟩ w) (t : Bytes) : RdAt w0 b ⟨t, bd⟩ (w.setCell ⟨b, 0, none⟩ (.string ⟨t.toArray⟩)) := by
  refine h.grown (grown_set1 _ _ _ _) ?_
  have h := heap_setE (off := 0) (v := .string ⟨t.toArray⟩) h.box
  simp only [List.setIfInBounds_toArray, List.set_cons_zero] at h
  exact h
set_option maxRecDepth 100000 in
set_option maxHeartbeats 4000000 in
theorem rtext_any (w0 : World) (b : Nat) (r : Rd) (w : World) (h : RdAt w0 b r w) (hE : Env8 w0) (hs : r.s.length ≤ 1000000000) :
    Calls Tryz.prog 63 #[.pointer (some ⟨b, 0, none⟩)] w (RdPost w0 b (.string ⟨(rdText r).1.toArray⟩) (rdText r).2 w) := by
  have hN := rnum_any w0 b r r.s.length w h hE hs (by omega)
  have hrt : rdText r = if (rdNum r.s.length r).2.s.length < (rdNum r.s.length r).1 then ([], ⟨(rdNum r.s.length r).2.s, true⟩) else ((rdNum r.s.length r).2.s.take (rdNum r.s.length r).1, ⟨(rdNum r.s.length r).2.s.drop (rdNum r.s.length r).1, (rdNum r.s.length r).2.bad⟩) := rfl
  obtain ⟨q, hq⟩ : ∃ q, q = rdText r := ⟨_, rfl⟩
  rw [← hq] at hrt ⊢
  clear hq
  have hsl : (⟨r.s.toArray⟩ : ByteArray).size = r.s.length := rfl
  obtain ⟨x0, x1⟩ := rdbox h.box
  obtain ⟨s, bd⟩ := r
  dsimp only at x0 x1 hs hN hrt hsl
  generalize hnr : rdNum s.length ⟨s, bd⟩ = nr at hN hrt
  obtain ⟨n, t, bd2⟩ := nr
  dsimp only at hN hrt
  have HX := Lib.hid (And.intro h hs)
  have HRT := Lib.hid hrt
  clear h hE hs hnr hrt
  go_enter Tryz.func63, Tryz.ntmps63
  go_wp2_with fail
  refine hN.mono ?_
  rintro e w2 ⟨rfl, hk2, hg2⟩
  have H2 := Lib.hid (And.intro hk2 hg2)
  obtain ⟨x0, x1⟩ := rdbox hk2.box
  have f0 := efroz hk2.box 0
  have f1 := efroz hk2.box 1
  dsimp only at x0 x1
  clear hN hk2 hg2
  by_cases hlt : t.length < n
  · have hrt := HRT.out
    rw [if_pos hlt] at hrt
    subst hrt
    have hli : (t.length : Int) < (n : Int) := by omega
    go_upto_region 4 with (fail)
    have hk3 := H2.out.1.bad true
    have hg3 : w.grownBy (w2.setCell ⟨b, 1, none⟩ (.bool true)) (some b) := World.grownBy.trans H2.out.2 (grown_set1 _ _ _ _)
    clear x0 x1 f0 f1
    generalize hW3 : World.setCell w2 _ _ = w3 at hk3 hg3 ⊢
    have H3 := Lib.hid (And.intro hk3 hg3)
    obtain ⟨x0, x1⟩ := rdbox hk3.box
    have f0 := efroz hk3.box 0
    dsimp only at x0 x1
    have hx1 := extract_take t 0
    have hx2 := extract_drop t 0 t.length rfl
    rw [List.take_zero] at hx1
    rw [List.drop_zero] at hx2
    clear hW3 hk3 hg3
    go_wp2
    refine bodyPost_ret (v := .string ⟨#[]⟩) (by simp [results, Tryz.results63, go_sem]; rfl) rfl ⟨rfl, H3.out.1.rest t, World.grownBy.trans H3.out.2 (grown_set1 _ _ _ _)⟩
  · have hrt := HRT.out
    rw [if_neg hlt] at hrt
    subst hrt
    have hli : ¬ (t.length : Int) < (n : Int) := by omega
    have hle : (n : Int) ≤ (t.length : Int) := by omega
    have hle2 : n ≤ t.length := by omega
    have hx1 := extract_take t n
    have hx2 := extract_drop t n t.length rfl
    go_wp2
    refine bodyPost_ret (v := .string ⟨(t.take n).toArray⟩) (by simp [results, Tryz.results63, go_sem]) rfl ⟨rfl, H2.out.1.rest (t.drop n), World.grownBy.trans H2.out.2 (grown_set1 _ _ _ _)⟩
set_option maxRecDepth 100000 in
set_option maxHeartbeats 4000000 in
theorem ryes_any (w0 : World) (b : Nat) (r : Rd) (w : World) (h : RdAt w0 b r w) (hE : Env8 w0) (hs : r.s.length ≤ 1000000000) :
    Calls Tryz.prog 64 #[.pointer (some ⟨b, 0, none⟩)] w (RdPost w0 b (.bool (rdYes r).1) (rdYes r).2 w) := by
  have hN := rnum_any w0 b r 1 w h hE hs (by decide)
  unfold rdYes
  dsimp only
  generalize rdNum 1 r = nr at hN ⊢
  obtain ⟨n, r2⟩ := nr
  dsimp only at hN ⊢
  clear h hE hs
  by_cases h1 : n = 1
  · subst h1
    go_enter Tryz.func64, Tryz.ntmps64
    go_wp2_with fail
    refine hN.mono ?_
    rintro e w2 ⟨rfl, hk2, hg2⟩
    have H2 := Lib.hid (And.intro hk2 hg2)
    clear hN hk2 hg2
    go_wp2
    refine bodyPost_ret (v := .bool true) (by simp [results, Tryz.results64, go_sem]) rfl ⟨rfl, H2.out⟩
  · have e0 : decide (n = 1) = false := decide_eq_false h1
    have e1 : ((n : Int) == 1) = false := beq_eq_false_iff_ne.2 (by omega)
    have e2 : decide ((n : Int) = 1) = false := decide_eq_false (by omega)
    rw [e0]
    go_enter Tryz.func64, Tryz.ntmps64
    go_wp2_with fail
    refine hN.mono ?_
    rintro e w2 ⟨rfl, hk2, hg2⟩
    have H2 := Lib.hid (And.intro hk2 hg2)
    clear hN hk2 hg2 h1
    go_wp2
    refine bodyPost_ret (v := .bool false) (by simp [results, Tryz.results64, go_sem]) rfl ⟨rfl, H2.out⟩
end Go.Proofs.YtdlpdpelhkgnlaaGreatDoor

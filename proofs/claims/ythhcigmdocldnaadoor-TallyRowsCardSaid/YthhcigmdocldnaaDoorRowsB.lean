/- TallyRows: the walk. UNDER WAY. -/
import Derived.Test.YthhcigmdocldnaaDoorRowsA
import Derived.Test.YthhcigmdocldnaaDoorWords
import Derived.Test.YthhcigmdocldnaaDoorRefK
import Derived.Test.YthhcigmdocldnaaDoorNamesA
import Derived.Test.YthhcigmdocldnaaDoorLawC
import Derived.Deep.CutRange
namespace Go.Proofs.YthhcigmdocldnaaDoor
open Go Go.RowKit Go.Shelf Go.Sort

theorem RowAt.mono {n₀ n₁ : Nat} {W : World} {a : Addr} {i : Nat} {x : (Bytes × Nat) × List Int} (h : RowAt n₀ W a i x) (hn : n₀ ≤ n₁) : RowAt n₁ W a i x := by
  obtain ⟨b, o, s, fv, e, hb, h0, h1, h2, h3, h4, h5⟩ := h
  exact ⟨b, o, s, fv, e, Nat.lt_of_lt_of_le hb hn, h0, h1, h2, h3, h4.mono hn, h5⟩
theorem RowsG.next {w W : World} {v : Value} {xs : Ent} (h : RowsG w v xs) (hb : Below w.heap.size w W) : RowsG W v xs := by
  refine ⟨?_, h.lim⟩
  rcases h.at_ with h0 | ⟨a, cap, e, hc, hr⟩
  · exact .inl h0
  · exact .inr ⟨a, cap, e, hc, fun i hi => ((hr i hi).below hb).mono hb.size⟩
theorem own_set_other {W : World} {base n go j : Nat} {e T : TypeId} {size : Nat} {u x : Value} {xs : List Value} {cur : Array Value} {f : Nat × Nat} (h : W.ownsRow base e size u n xs) (hg : W.heap[go]? = some (.cells cur T f)) (hT : e ≠ T) : (W.setCell ⟨go, j, none⟩ x).ownsRow base e size u n xs := by
  refine h.kept (grownBy_setCell W ⟨go, j, none⟩ x) ?_
  rcases h.2 with ⟨rfl, _⟩ | ⟨g, cap, c2, rfl, _, hh, _⟩
  · exact .inl rfl
  · refine .inr fun e2 => ?_
    have : g = go := Option.some.inj e2
    subst this
    have := hh.symm.trans hg
    simp at this
    exact hT this.2.1
theorem rowsC_one {w : World} {n₀ : Nat} {xs : Ent} {vf : Nat → Value} (h : ∀ i (hi : i < xs.length), RowIn w n₀ (vf i) (xs[i].2.length - 1) ((xs[i].2.drop 1).map (Value.int .i64))) : ∀ u ∈ rowsC xs vf xs.length, u.oneCell' = true := by
  intro u hu
  obtain ⟨j, hj, hu⟩ := List.mem_flatMap.1 hu
  obtain ⟨fp, fc, e⟩ := rowIn_shape (h j (List.mem_range.1 hj))
  simp only [rowCells, e, List.mem_cons, List.not_mem_nil, or_false] at hu
  rcases hu with rfl | rfl | rfl | rfl <;> rfl
/-- Where a world stands behind three. -/
structure Chn (w₁ wr c0 W : World) : Prop where
  a : Below w₁.heap.size w₁ W
  b : Below wr.heap.size wr W
  c : Below c0.heap.size c0 W
theorem chain {w₁ wr c0 W W' : World} (h : Chn w₁ wr c0 W) (hb : Below W.heap.size W W') : Chn w₁ wr c0 W' :=
  ⟨h.a.trans (Below.less hb h.a.size), h.b.trans (Below.less hb h.b.size), h.c.trans (Below.less hb h.c.size)⟩
theorem spoil_own {W : World} {base co : Nat} {po : Option Addr} {xs : Ent} {vg : Nat → Value} (ho : W.ownsRow base 41 4 (.slice po xs.length co) xs.length (rowsC xs vg xs.length)) (hfs : ∀ j (_ : j < xs.length), W.ownsRow base 3 1 (vg j) (xs[j].2.length - 1) ((xs[j].2.drop 1).map (Value.int .i64))) :
    ∀ i, i < xs.length → ∃ g, po = some ⟨g, 0, none⟩ ∧ xs.length ≤ co ∧ SpoilG W base g xs.length (fun i => (xs.getD i (([], 0), [])).2.length - 1) := by
  intro i hi
  rcases ho.2 with ⟨_, h0⟩ | ⟨g, cap, cur, e, hb, hh, h1, _, h3, ht⟩
  · omega
  · injection e with e1 _ e3
    subst e1 e3
    refine ⟨g, rfl, h1, hb, cur, hh, by omega, fun j hj => ?_⟩
    have e5 : (fun i => (xs.getD i (([], 0), [])).2.length - 1) j = xs[j].2.length - 1 := by simp [List.getD_eq_getElem?_getD, List.getElem?_eq_getElem hj]
    have hq : (rowsC xs vg xs.length)[j * 4 + 3]? = some (vg j) := by
      rw [rowsC_at xs vg hj (by omega)]
      simp [rowCells]
    rw [← ht, List.getElem?_take, if_pos (by omega), Array.getElem?_toList] at hq
    rcases (hfs j hj).2 with ⟨e, h0⟩ | ⟨g2, cap2, cur2, e, hb2, hh2, h12, _, h32, _⟩
    · refine ⟨none, 0, ?_, fun hp => ?_⟩
      · rw [hq, e, e5, h0]
      · rw [e5, h0] at hp; exact absurd hp (Nat.lt_irrefl _)
    · refine ⟨some ⟨g2, 0, none⟩, cap2, ?_, fun hp => ⟨g2, cur2, rfl, hh2, ?_, ?_, hb2⟩⟩
      · rw [hq, e, e5]
      · rw [e5]; omega
      · rw [e5]; exact h12
theorem tally_spl {W W' : World} {base b bm : Nat} {names : Int} {l : Ent} (h : TallyAt W b bm names l) (hs : SplG base W W') : TallyAt W' b bm names l := by
  obtain ⟨es, c, hb, hr⟩ := h.2
  refine ⟨hs.rest b _ h.1 (fun cur e => by injection e with _ e; exact absurd e (by decide)) (fun cur e => by injection e with _ e; exact absurd e (by decide)), es, c, hs.rest bm _ hb (fun cur e => by cases e) (fun cur e => by cases e), hr⟩
theorem rowB_11 {d : Bytes} {t : Nat} {c : List Int} (h : rowB d t c = true) : c.length = 11 := by
  by_cases e : c.length = 11
  · exact e
  · rw [rowB_len e] at h; cases h
theorem rowsOk_11 {xs : Ent} (h : RowsOk xs) (p : Bytes × Nat) : (cnt xs p).length = 11 := by
  unfold cnt
  cases hl : look xs p with
  | none => rfl
  | some c =>
    unfold look at hl
    cases hf : xs.find? (fun q => decide (q.1 = p)) with
    | none => rw [hf] at hl; cases hl
    | some x =>
      rw [hf] at hl
      simp at hl
      subst hl
      exact rowB_11 (h.rows x (List.mem_of_find?_eq_some hf))
theorem infoRw : (Tryd.prog.info? 41).map (fun i => (i.zero, i.size, i.bytes)) = some (some (.agg #[.string ⟨#[]⟩, .int .u8 0, .int .i64 0, .slice none 0 0]), 4, 56) := by kernel_rfl
/-- Fits says what Of said. -/
theorem of_form {w : World} {names : Int} {xs : Ent} {e : Ending} {w' : World} (h : OfPost w names xs e w') : ∃ z p, e = .returned (.tuple #[.pointer p, .int .i64 z]) ∧ Below w.heap.size w w' ∧ (∀ (w₁ : World) (e₁ : Ending) (w₁' : World), FitsPost w₁ names xs e₁ w₁' → e₁ = .returned (.int .i64 z)) ∧ ((z ≠ 0 ∧ p = none) ∨ (z = 0 ∧ p = some ⟨w.heap.size + 1, 0, none⟩ ∧ RowsOk xs ∧ TallyAt w' (w.heap.size + 1) w.heap.size names xs)) := by
  have hall := h
  obtain ⟨hb, h⟩ := h
  have key : ∀ (z : Int) (p : Option Addr), e = .returned (.tuple #[.pointer p, .int .i64 z]) → ∀ (w₁ : World) (e₁ : Ending) (w₁' : World), FitsPost w₁ names xs e₁ w₁' → e₁ = .returned (.int .i64 z) := fun z p he w₁ e₁ w₁' h₁ => by
    obtain ⟨z', p', he', h1', _⟩ := of_fits hall h₁
    rw [he] at he'
    simp at he'
    rw [h1', he'.2]
  rcases h with ⟨he, _⟩ | ⟨_, ⟨he, _⟩ | ⟨hok, ⟨he, _⟩ | ⟨he, _, hT⟩⟩⟩
  · exact ⟨1, none, he, hb, key _ _ he, .inl ⟨by decide, rfl⟩⟩
  · exact ⟨4, none, he, hb, key _ _ he, .inl ⟨by decide, rfl⟩⟩
  · exact ⟨41, none, he, hb, key _ _ he, .inl ⟨by decide, rfl⟩⟩
  · exact ⟨0, _, he, hb, key _ _ he, .inr ⟨rfl, rfl, hok, hT⟩⟩

set_option maxRecDepth 100000 in
set_option maxHeartbeats 4000000 in
theorem rowsLaw_any (w₀ : World) (names : Int) (v v2 : Value) (xs ys : Ent) (n : Nat) (hA : RowsG w₀ v xs) (hA2 : RowsG w₀ v2 ys) (hf : ∀ x ∈ xs, x.2.length - 1 ≤ maxLen) (hf' : ∀ x ∈ ys, x.2.length - 1 ≤ maxLen) (hn : n < 256) (hg : Glob w₀) (hm : MayT w₀) :
    Calls Tryd.prog 8 #[.int .i64 names, v, v2, .int .u8 (n : Int)] w₀ fun e w' => e = .returned (.bool true) ∧ Below w₀.heap.size w₀ w' := by
  have hW := awake_any w₀ hg hm
  obtain ⟨vf, hvf, hRI⟩ := hA.rowIn
  obtain ⟨p, c, rfl, hel⟩ := hA.shape
  obtain ⟨p2, c2, rfl, _⟩ := hA2.shape
  obtain ⟨iR, hiR, hR0, hR1, hR2⟩ := info_parts infoRw
  obtain ⟨iI, hiI, hI0, hI1, hI2⟩ := info_parts infoInt2
  have HA := Lib.hid (And.intro hA (And.intro hA2 (And.intro hf (And.intro hf' (And.intro hn (And.intro hg (And.intro hm (And.intro hel (And.intro hvf hRI)))))))))
  clear hA hA2 hf hf' hg hm hel hvf hRI
  go_enter Tryd.func8, Tryd.ntmps8
  by_cases ha : (60 : Int) < (xs.length : Int)
  · go_wp2_with fail
    refine hW.mono ?_
    rintro e w2 ⟨rfl, hB2⟩
    have HB := Lib.hid hB2
    clear hB2 hW
    go_wp2
    refine bodyPost_ret (v := .bool true) (by simp [results, Tryd.results8, go_sem]) rfl ⟨rfl, HB.out⟩
  by_cases hb : (60 : Int) < (ys.length : Int)
  · go_wp2_with fail
    refine hW.mono ?_
    rintro e w2 ⟨rfl, hB2⟩
    have HB := Lib.hid hB2
    clear hB2 hW
    go_wp2
    refine bodyPost_ret (v := .bool true) (by simp [results, Tryd.results8, go_sem]) rfl ⟨rfl, HB.out⟩
  have hxl : xs.length ≤ 60 := by omega
  have hyl : ys.length ≤ 60 := by omega
  have HL := Lib.hid (And.intro hxl hyl)
  go_wp2_with fail
  go_loopw [9] (fun iv wr => ∃ i : Nat, iv = .int .i64 (i : Int) ∧ i ≤ xs.length ∧ (∀ j (h : j < xs.length), j < i → xs[j].1.1.length ≤ 500 ∧ xs[j].2.length ≤ 31) ∧ wr = w₀)
    (fun iv _ => xs.length - natOf iv)
  case atStart => exact ⟨0, rfl, Nat.zero_le _, fun _ _ h => absurd h (Nat.not_lt_zero _), rfl⟩
  case round =>
    obtain ⟨i, rfl, hi, hal, rfl⟩ := hrel
    by_cases hlast : i < xs.length
    · have hli : (i : Int) < (xs.length : Int) := by omega
      obtain ⟨a, rfl, hca, hE⟩ := HA.out.2.2.2.2.2.2.2.1 i hlast
      obtain ⟨b, o, s, fv, ead, hbl, x0, _, _, x3, hF, hne⟩ := hE wr (Below.refl _ _)
      obtain ⟨fp, fc, rfl⟩ := rowIn_shape hF
      have hlen1 : 1 ≤ xs[i].2.length := by
        cases hx : xs[i].2 with
        | nil => exact absurd hx hne
        | cons => simp
      have hnx : xs[i].1.1.length ≤ 500 → xs[i].2.length ≤ 31 → ∀ j (h : j < xs.length), j < i + 1 → xs[j].1.1.length ≤ 500 ∧ xs[j].2.length ≤ 31 := fun h1 h2 j hj hji => by
        by_cases e : j = i
        · subst e; exact ⟨h1, h2⟩
        · exact hal j hj (by omega)
      have HX := Lib.hid (And.intro hnx hlen1)
      clear hnx hlen1 hal hF hne hE
      generalize xs[i].2.length = m2 at *
      have hsz : (⟨xs[i].1.1.toArray⟩ : ByteArray).size = xs[i].1.1.length := by show xs[i].1.1.toArray.size = _; simp
      generalize (⟨xs[i].1.1.toArray⟩ : ByteArray) = sd at x0 hsz
      rw [← hsz] at HX
      clear hsz
      by_cases h500 : (500 : Int) < (sd.size : Int)
      · go_wp2_with fail
        refine hW.mono ?_
        rintro e w2 ⟨rfl, hB2⟩
        have HB := Lib.hid hB2
        clear hB2 hW
        go_wp2
        refine bodyPost_ret (v := .bool true) (by simp [results, Tryd.results8, go_sem]) rfl ⟨rfl, HB.out⟩
      · by_cases h30 : (30 : Int) < ((m2 - 1 : Nat) : Int)
        · go_wp2_with fail
          refine hW.mono ?_
          rintro e w2 ⟨rfl, hB2⟩
          have HB := Lib.hid hB2
          clear hB2 hW
          go_wp2
          refine bodyPost_ret (v := .bool true) (by simp [results, Tryd.results8, go_sem]) rfl ⟨rfl, HB.out⟩
        · have HN := Lib.hid (HX.out.1 (by omega) (by have := HX.out.2; omega))
          go_wp2
          go_roundw
          case rel => exact ⟨i + 1, by simp, by omega, HN.out, trivial⟩
          case measure => simp [natOf]; omega
    · have hli : ¬ (i : Int) < (xs.length : Int) := by omega
      have hsm : ∀ x ∈ xs, x.1.1.length ≤ 500 ∧ x.2.length ≤ 31 := fun x hx => by
        obtain ⟨j, hj, rfl⟩ := List.getElem_of_mem hx
        exact hal j hj (by omega)
      obtain ⟨n₀, hRIx⟩ := HA.out.2.2.2.2.2.2.2.2.2 (wr.alloc (.cells #[] 41)) ((Below.refl _ _).alloc (Nat.le_refl _) _)
      have HS := Lib.hid (And.intro hsm hRIx)
      clear hsm hRIx hal hi hW
      go_wp2_with (at_builtin; refine Bx.h ?_)
      refine ⟨?_⟩
      refine wpList_append_any rfl _ _ 29 rfl wr.heap.size 41 iR (.agg #[.string ⟨#[]⟩, .int .u8 0, .int .i64 0, .slice none 0 0]) 4 56 Tryd.underlying29 hiR hR0 hR1 hR2 rfl (by decide) (.slice (some ⟨wr.heap.size, 0, none⟩) 0 0) 0 [] rfl (own_empty (heap_new rfl) (Nat.le_refl _)) n₀ _ xs.length (rowsC xs vf xs.length) rfl HS.out.2 (rowsC_len _ _ _) (rowsC_one (fun i hi => (HA.out.2.2.2.2.2.2.2.2.1 i hi).1)) (by unfold maxLen; omega) (by omega) (by simp) ?_
      intro vo wA hoA hgA hkA _
      rw [Nat.zero_add, List.nil_append] at hoA
      obtain ⟨po, co, rfl⟩ := own_shape2 hoA
      have hB0 : Below wr.heap.size wr wA := ((Below.refl _ _).alloc (Nat.le_refl _) _).grown hgA (by simp) hkA
      have HW := Lib.hid (And.intro hoA hB0)
      obtain ⟨w₁, hw₁⟩ : ∃ w, w = wr := ⟨_, rfl⟩
      rw [← hw₁] at HA HS HW
      have HEQ := Lib.hid hw₁
      clear hoA hgA hkA hB0 hw₁
      go_wp2_with fail
      go_loopw [11] (fun iv wr => ∃ (i : Nat) (vg : Nat → Value), iv = .int .i64 (i : Int) ∧ i ≤ xs.length ∧ wr.ownsRow w₁.heap.size 41 4 (.slice po xs.length co) xs.length (rowsC xs vg xs.length) ∧ (∀ j (h : j < xs.length), j < i → wr.ownsRow w₁.heap.size 3 1 (vg j) (xs[j].2.length - 1) ((xs[j].2.drop 1).map (Value.int .i64))) ∧ Below w₁.heap.size w₁ wr)
        (fun iv _ => xs.length - natOf iv)
      case atStart => exact ⟨0, vf, rfl, Nat.zero_le _, HW.out.1, fun _ _ h => absurd h (Nat.not_lt_zero _), HW.out.2⟩
      case round =>
        obtain ⟨i, vg, rfl, hi, ho, hfs, hB⟩ := hrel
        by_cases hlast2 : i < xs.length
        · have hli2 : (i : Int) < (xs.length : Int) := by omega
          obtain ⟨a, rfl, hca, hE⟩ := HA.out.2.2.2.2.2.2.2.1 i hlast2
          obtain ⟨b, o, s, fv, ead, hbl, _, _, _, x3, hF, hne⟩ := hE wr hB
          obtain ⟨fp, fc, rfl⟩ := rowIn_shape hF
          have hm31 := (HS.out.1 xs[i] (List.getElem_mem hlast2)).2
          obtain ⟨go, cur, rfl, hgo, hgh, hgc, hgs⟩ : ∃ go cur, po = some ⟨go, 0, none⟩ ∧ w₁.heap.size ≤ go ∧ wr.heap[go]? = some (.cells cur 41 (0, 0)) ∧ xs.length ≤ co ∧ xs.length * 4 ≤ cur.size := by
            rcases ho.2 with ⟨_, h0⟩ | ⟨g, cap, cur, e, hb, hh, h1, _, h3, _⟩
            · omega
            · injection e with e1 _ e3
              subst e1 e3
              exact ⟨g, cur, rfl, hb, hh, h1, by omega⟩
          have hgl : go < wr.heap.size := (Array.getElem?_eq_some_iff.1 hgh).1
          have hbw : b < wr.heap.size := Nat.lt_of_lt_of_le hbl hB.size
          have n3 : ∀ ob, (wr.alloc ob).cell? ⟨b, o + 3, none⟩ = some (.slice fp (xs[i].2.length - 1) fc) := fun ob => (World.cell?_of_block (a := ⟨b, o + 3, none⟩) (ha_ne (Nat.ne_of_lt hbw))).trans x3
          have hRI : RowIn (wr.alloc (.cells #[] 3)) w₁.heap.size (.slice fp (xs[i].2.length - 1) fc) (xs[i].2.length - 1) ((xs[i].2.drop 1).map (Value.int .i64)) := hF.below (Below.less ((Below.refl wr.heap.size wr).alloc (Nat.le_refl _) _) hB.size)
          have hfl : ((xs[i].2.drop 1).map (Value.int .i64)).length = (xs[i].2.length - 1) * 1 := by simp
          have h1c : ∀ u ∈ (xs[i].2.drop 1).map (Value.int .i64), u.oneCell' = true := fun u hu => by
            obtain ⟨k, _, rfl⟩ := List.mem_map.1 hu
            rfl
          have HX := Lib.hid (And.intro ho (And.intro hfs (And.intro hB (And.intro hgh (And.intro hgs hgo)))))
          generalize hmf : xs[i].2.length - 1 = mf at *
          generalize hfc : (xs[i].2.drop 1).map (Value.int .i64) = fcs at *
          clear ho hfs hB hF hE hne
          go_wp2_with (at_builtin; refine Bx.h ?_)
          refine ⟨?_⟩
          refine wpList_append_any rfl _ _ 39 rfl wr.heap.size 3 iI (.int .i64 0) 1 8 Tryd.underlying39 hiI hI0 hI1 hI2 rfl (by decide) (.slice (some ⟨wr.heap.size, 0, none⟩) 0 0) 0 [] rfl (own_empty (heap_new rfl) (Nat.le_refl _)) w₁.heap.size _ mf fcs rfl hRI hfl h1c (by unfold maxLen; omega) (by omega) (by simp) ?_
          intro v4 w4 ho4 hg4 hk4 _
          rw [Nat.zero_add, List.nil_append] at ho4
          obtain ⟨p4, c4, rfl⟩ := own_shape2 ho4
          have hB4 : Below wr.heap.size wr w4 := ((Below.refl _ _).alloc (Nat.le_refl _) _).grown hg4 (by simp) hk4
          have hgh4 := (hB4.block go hgl).trans HX.out.2.2.2.1
          obtain ⟨v9, hv9⟩ : ∃ v9, cur[i * 4 + 3]? = some v9 := ⟨_, Array.getElem?_eq_getElem (by have := HX.out.2.2.2.2.1; omega)⟩
          have k3 : w4.cell? ⟨go, i * 4 + 3, none⟩ = some v9 := by simp [World.cell?, hgh4, hv9]
          have f3 : w4.frozen? ⟨go, i * 4 + 3, none⟩ = false := by simp [World.frozen?, hgh4]
          have hoS := own_upd (own_below HX.out.1 hB4) hlast2 (.slice p4 mf c4)
          have hfS : ∀ j (h : j < xs.length), j < i + 1 → (w4.setCell ⟨go, i * 4 + 3, none⟩ (.slice p4 mf c4)).ownsRow w₁.heap.size 3 1 (updV vg i (.slice p4 mf c4) j) (xs[j].2.length - 1) ((xs[j].2.drop 1).map (Value.int .i64)) := fun j hj hji => by
            by_cases e : j = i
            · subst e
              unfold updV
              rw [if_pos rfl, hmf, hfc]
              exact own_set_other (own_base ho4 HX.out.2.2.1.size) hgh4 (by decide)
            · unfold updV
              rw [if_neg e]
              exact own_set_other (own_below (HX.out.2.1 j hj (by omega)) hB4) hgh4 (by decide)
          have hBS : Below w₁.heap.size w₁ (w4.setCell ⟨go, i * 4 + 3, none⟩ (.slice p4 mf c4)) := (HX.out.2.2.1.trans (Below.less hB4 HX.out.2.2.1.size)).setCell (p := ⟨go, i * 4 + 3, none⟩) HX.out.2.2.2.2.2 _
          have HZ := Lib.hid (And.intro hoS (And.intro hfS hBS))
          clear hoS hfS hBS hB4 hgh4 hv9 ho4 hg4 hk4 n3 hRI hfl h1c
          go_wp2
          go_roundw
          case rel => exact ⟨i + 1, _, by simp, by omega, HZ.out.1, HZ.out.2.1, HZ.out.2.2⟩
          case measure => simp [natOf]; omega
        · have hli2 : ¬ (i : Int) < (xs.length : Int) := by omega
          have hil : i = xs.length := by omega
          have hG : RowsG wr (.slice po xs.length co) xs := rowsG_own ho rfl (fun j hj => ⟨own_rowIn (hfs j hj (by omega)), (HA.out.2.2.2.2.2.2.2.2.1 j hj).2⟩) HA.out.1.lim
          have hS : Sess w₁ wr := ⟨hB, HA.out.2.2.2.2.2.1, HA.out.2.2.2.2.2.2.1⟩
          have hOf := of_any wr names _ xs hG (by omega) (fun x hx => by have := (HS.out.1 x hx).2; omega) hS.glob hS.mayt
          have HG := Lib.hid hG
          have HO := Lib.hid (And.intro ho (And.intro (fun j (h : j < xs.length) => hfs j h (by omega)) hS))
          clear hG hS ho hfs hB hi hil hlast2 HW
          go_wp2_with fail
          refine hOf.mono ?_
          rintro e c0 hOP
          obtain ⟨z, pt, rfl, hB5, hFit, hcase⟩ := of_form hOP
          have HFit := Lib.hid hFit
          have HC0 := Lib.hid (Chn.mk (HO.out.2.2.below.trans (Below.less hB5 HO.out.2.2.size)) hB5 (Below.refl _ _))
          obtain ⟨dd, hdd0⟩ : ∃ dd, decide (xs = ys) = dd := ⟨_, rfl⟩
          have hdd := Lib.hid hdd0
          clear hOf hOP hB5 hFit hdd0
          go_upto_region 14 with (fail)
          go_cut [117] from 72 (fun s117 w' => s117 = .bool false ∧ Below w₁.heap.size w₁ w' ∧ Below c0.heap.size c0 w')
          case first =>
            have hp2 : (pt = none ∧ (z == 0) = false ∧ decide (z = 0) = false) ∨ (pt = some ⟨wr.heap.size + 1, 0, none⟩ ∧ z = 0) := by
              rcases hcase with ⟨h1, h2⟩ | ⟨h1, h2, _⟩
              · exact .inl ⟨h2, by simpa using h1, decide_eq_false h1⟩
              · exact .inr ⟨h2, h1⟩
            clear hcase
            rcases hp2 with ⟨rfl, hz1, hz2⟩ | ⟨rfl, rfl⟩
            · skip
              have hK : _ := toldG_any c0 _ xs (HA.out.1.next HC0.out.a) (by omega)
              go_wp2_with fail
              refine hK.mono ?_
              rintro e c1 ⟨u1, rfl, hU1, hb⟩
              have HC1 := Lib.hid (chain HC0.out hb)
              have HU1 := Lib.hid hU1
              clear hK hb hU1
              have hK : Calls Tryd.prog 32 #[.int .i64 names, u1] c1 fun e w' => e = .returned (.int .i64 z) ∧ Below c1.heap.size c1 w' := (fits_any c1 names u1 xs HU1.out (by omega) (fun x hx => by have := (HS.out.1 x hx).1; omega)).mono (fun e w' h => ⟨HFit.out _ _ _ h, h.1⟩)
              go_wp2_with fail
              refine hK.mono ?_
              rintro e cw2 ⟨rfl, hb⟩
              have HC2 := Lib.hid (chain HC1.out hb)
              clear hK hb
              have hK : Calls Tryd.prog 28 #[.slice p xs.length c, .slice p2 ys.length c2] cw2 fun e w' => e = .returned (.bool dd) ∧ Below cw2.heap.size cw2 w' := by rw [← hdd.out]; exact sameTG_any cw2 _ _ xs ys (HA.out.1.next HC2.out.a) (HA.out.2.1.next HC2.out.a) (by omega) HA.out.2.2.1 HA.out.2.2.2.1
              go_wp2_with fail
              refine hK.mono ?_
              rintro e c3 ⟨rfl, hb⟩
              have HC3 := Lib.hid (chain HC2.out hb)
              clear hK hb
              have hK : _ := toldG_any c3 _ xs (HA.out.1.next HC3.out.a) (by omega)
              go_wp2_with fail
              refine hK.mono ?_
              rintro e c4 ⟨u2, rfl, hU2, hb⟩
              have HC4 := Lib.hid (chain HC3.out hb)
              have HU2 := Lib.hid hU2
              clear hK hb hU2
              have hK : _ := toldG_any c4 _ ys (HA.out.2.1.next HC4.out.a) (by omega)
              go_wp2_with fail
              refine hK.mono ?_
              rintro e c5 ⟨u3, rfl, hU3, hb⟩
              have HC5 := Lib.hid (chain HC4.out hb)
              have HU3 := Lib.hid (And.intro (HU2.out.next hb) hU3)
              clear hK hb hU3
              have hK : Calls Tryd.prog 15 #[u2, u3] c5 fun e w' => e = .returned (.bool dd) ∧ Below c5.heap.size c5 w' := (sameG_any c5 u2 u3 xs ys HU3.out.1 HU3.out.2 (by omega) HA.out.2.2.1).mono (by rintro e w' ⟨m, rfl, rfl⟩; rw [hdd.out]; exact ⟨rfl, below_drewN (Below.refl _ _) _⟩)
              go_wp2_with fail
              refine hK.mono ?_
              rintro e c6 ⟨rfl, hb⟩
              have HC6 := Lib.hid (chain HC5.out hb)
              clear hK hb
              have hK : _ := type_any n HA.out.2.2.2.2.1 c6
              go_wp2_with fail
              refine hK.mono ?_
              rintro e c7 ⟨rfl, hb⟩
              have HC7 := Lib.hid (chain HC6.out hb)
              clear hK hb
              have hK : _ := refType_any n HA.out.2.2.2.2.1 c7
              go_wp2_with fail
              refine hK.mono ?_
              rintro e c8 ⟨rfl, hb⟩
              have HC8 := Lib.hid (chain HC7.out hb)
              clear hK hb
              have hK : _ := what_any n HA.out.2.2.2.2.1 c8
              go_wp2_with fail
              refine hK.mono ?_
              rintro e c9 ⟨rfl, hb⟩
              have HC9 := Lib.hid (chain HC8.out hb)
              clear hK hb
              have hK : _ := refWhat_any n HA.out.2.2.2.2.1 c9
              go_wp2_with fail
              refine hK.mono ?_
              rintro e c10 ⟨rfl, hb⟩
              have HC10 := Lib.hid (chain HC9.out hb)
              clear hK hb
              have hK : _ := toldG_any c10 _ xs (HG.out.next HC10.out.b) (by omega)
              go_wp2_with fail
              refine hK.mono ?_
              rintro e c11 ⟨u4, rfl, hU4, hb⟩
              have HC11 := Lib.hid (chain HC10.out hb)
              have HU4 := Lib.hid hU4
              clear hK hb hU4
              have hK : _ := toldG_any c11 _ xs (HA.out.1.next HC11.out.a) (by omega)
              go_wp2_with fail
              refine hK.mono ?_
              rintro e c12 ⟨u5, rfl, hU5, hb⟩
              have HC12 := Lib.hid (chain HC11.out hb)
              have HU5 := Lib.hid (And.intro (HU4.out.next hb) hU5)
              clear hK hb hU5
              have hK : Calls Tryd.prog 15 #[u4, u5] c12 fun e w' => e = .returned (.bool true) ∧ Below c12.heap.size c12 w' := (sameG_any c12 u4 u5 xs xs HU5.out.1 HU5.out.2 (by omega) HA.out.2.2.1).mono (by rintro e w' ⟨m, rfl, rfl⟩; exact ⟨by rw [decide_eq_true rfl], below_drewN (Below.refl _ _) _⟩)
              go_wp2_with fail
              refine hK.mono ?_
              rintro e c13 ⟨rfl, hb⟩
              have HC13 := Lib.hid (chain HC12.out hb)
              clear hK hb
              go_wp2
              go_meet
              case rel => exact ⟨rfl, HC13.out.a, HC13.out.c⟩
            · skip
              have hK : _ := toldG_any c0 _ xs (HA.out.1.next HC0.out.a) (by omega)
              go_wp2_with fail
              refine hK.mono ?_
              rintro e c1 ⟨u1, rfl, hU1, hb⟩
              have HC1 := Lib.hid (chain HC0.out hb)
              have HU1 := Lib.hid hU1
              clear hK hb hU1
              have hK : Calls Tryd.prog 32 #[.int .i64 names, u1] c1 fun e w' => e = .returned (.int .i64 0) ∧ Below c1.heap.size c1 w' := (fits_any c1 names u1 xs HU1.out (by omega) (fun x hx => by have := (HS.out.1 x hx).1; omega)).mono (fun e w' h => ⟨HFit.out _ _ _ h, h.1⟩)
              go_wp2_with fail
              refine hK.mono ?_
              rintro e cw2 ⟨rfl, hb⟩
              have HC2 := Lib.hid (chain HC1.out hb)
              clear hK hb
              have hK : Calls Tryd.prog 28 #[.slice p xs.length c, .slice p2 ys.length c2] cw2 fun e w' => e = .returned (.bool dd) ∧ Below cw2.heap.size cw2 w' := by rw [← hdd.out]; exact sameTG_any cw2 _ _ xs ys (HA.out.1.next HC2.out.a) (HA.out.2.1.next HC2.out.a) (by omega) HA.out.2.2.1 HA.out.2.2.2.1
              go_wp2_with fail
              refine hK.mono ?_
              rintro e c3 ⟨rfl, hb⟩
              have HC3 := Lib.hid (chain HC2.out hb)
              clear hK hb
              have hK : _ := toldG_any c3 _ xs (HA.out.1.next HC3.out.a) (by omega)
              go_wp2_with fail
              refine hK.mono ?_
              rintro e c4 ⟨u2, rfl, hU2, hb⟩
              have HC4 := Lib.hid (chain HC3.out hb)
              have HU2 := Lib.hid hU2
              clear hK hb hU2
              have hK : _ := toldG_any c4 _ ys (HA.out.2.1.next HC4.out.a) (by omega)
              go_wp2_with fail
              refine hK.mono ?_
              rintro e c5 ⟨u3, rfl, hU3, hb⟩
              have HC5 := Lib.hid (chain HC4.out hb)
              have HU3 := Lib.hid (And.intro (HU2.out.next hb) hU3)
              clear hK hb hU3
              have hK : Calls Tryd.prog 15 #[u2, u3] c5 fun e w' => e = .returned (.bool dd) ∧ Below c5.heap.size c5 w' := (sameG_any c5 u2 u3 xs ys HU3.out.1 HU3.out.2 (by omega) HA.out.2.2.1).mono (by rintro e w' ⟨m, rfl, rfl⟩; rw [hdd.out]; exact ⟨rfl, below_drewN (Below.refl _ _) _⟩)
              go_wp2_with fail
              refine hK.mono ?_
              rintro e c6 ⟨rfl, hb⟩
              have HC6 := Lib.hid (chain HC5.out hb)
              clear hK hb
              have hK : _ := type_any n HA.out.2.2.2.2.1 c6
              go_wp2_with fail
              refine hK.mono ?_
              rintro e c7 ⟨rfl, hb⟩
              have HC7 := Lib.hid (chain HC6.out hb)
              clear hK hb
              have hK : _ := refType_any n HA.out.2.2.2.2.1 c7
              go_wp2_with fail
              refine hK.mono ?_
              rintro e c8 ⟨rfl, hb⟩
              have HC8 := Lib.hid (chain HC7.out hb)
              clear hK hb
              have hK : _ := what_any n HA.out.2.2.2.2.1 c8
              go_wp2_with fail
              refine hK.mono ?_
              rintro e c9 ⟨rfl, hb⟩
              have HC9 := Lib.hid (chain HC8.out hb)
              clear hK hb
              have hK : _ := refWhat_any n HA.out.2.2.2.2.1 c9
              go_wp2_with fail
              refine hK.mono ?_
              rintro e c10 ⟨rfl, hb⟩
              have HC10 := Lib.hid (chain HC9.out hb)
              clear hK hb
              have hK : _ := toldG_any c10 _ xs (HG.out.next HC10.out.b) (by omega)
              go_wp2_with fail
              refine hK.mono ?_
              rintro e c11 ⟨u4, rfl, hU4, hb⟩
              have HC11 := Lib.hid (chain HC10.out hb)
              have HU4 := Lib.hid hU4
              clear hK hb hU4
              have hK : _ := toldG_any c11 _ xs (HA.out.1.next HC11.out.a) (by omega)
              go_wp2_with fail
              refine hK.mono ?_
              rintro e c12 ⟨u5, rfl, hU5, hb⟩
              have HC12 := Lib.hid (chain HC11.out hb)
              have HU5 := Lib.hid (And.intro (HU4.out.next hb) hU5)
              clear hK hb hU5
              have hK : Calls Tryd.prog 15 #[u4, u5] c12 fun e w' => e = .returned (.bool true) ∧ Below c12.heap.size c12 w' := (sameG_any c12 u4 u5 xs xs HU5.out.1 HU5.out.2 (by omega) HA.out.2.2.1).mono (by rintro e w' ⟨m, rfl, rfl⟩; exact ⟨by rw [decide_eq_true rfl], below_drewN (Below.refl _ _) _⟩)
              go_wp2_with fail
              refine hK.mono ?_
              rintro e c13 ⟨rfl, hb⟩
              have HC13 := Lib.hid (chain HC12.out hb)
              clear hK hb
              go_wp2
              go_meet
              case rel => exact ⟨rfl, HC13.out.a, HC13.out.c⟩
          case rest =>
            obtain ⟨rfl, hBa, hBb⟩ := hcut
            have hS : Sess w₁ wc := ⟨hBa, HA.out.2.2.2.2.2.1, HA.out.2.2.2.2.2.2.1⟩
            have HB := Lib.hid (And.intro hS (chain HC0.out hBb))
            clear hS hBa hBb
            rcases hcase with ⟨hz, rfl⟩ | ⟨rfl, rfl, hok, hT⟩
            · have hz1 : (z == 0) = false := by simpa using hz
              have hW := awake_any wc HB.out.1.glob HB.out.1.mayt
              go_wp2_with fail
              refine hW.mono ?_
              rintro e w2 ⟨rfl, hB2⟩
              have HE := Lib.hid (HB.out.1.next hB2)
              clear hB2 hW
              go_wp2
              refine bodyPost_ret (v := .bool true) (by simp [results, Tryd.results8, go_sem]) rfl ⟨rfl, by rw [← HEQ.out]; exact HE.out.below⟩
            · have hT2 : TallyAt wc (wr.heap.size + 1) wr.heap.size names xs := hT.below HB.out.2.c hT.lt hT.2.lt
              have hsp : _ := spoilG_any wc w₁.heap.size po xs.length co (fun i => (xs.getD i (([], 0), [])).2.length - 1) (spoil_own (own_below HO.out.1 HB.out.2.b) (fun j hj => own_below (HO.out.2.1 j hj) HB.out.2.b)) (by omega) (fun i hi => by
                have := (HS.out.1 _ (List.getElem_mem hi)).2
                simp only [List.getD_eq_getElem?_getD, List.getElem?_eq_getElem hi, Option.getD_some]
                omega)
              have HT := Lib.hid (And.intro hT2 hok)
              clear hT hT2 hok
              go_wp2_with fail
              refine hsp.mono ?_
              rintro e w2 ⟨rfl, hsp2⟩
              clear hsp
              have hS2 : Sess w₁ w2 := HB.out.1.to (HB.out.1.below.trans hsp2.below)
              have hT3 := tally_spl HT.out.1 hsp2
              have hR : _ := rowsE_any _ _ _ _ w2 hT3 (rowsOk_11 HT.out.2) (by omega)
              have HS2 := Lib.hid hS2
              clear hsp2 hS2 hT3
              go_wp2_with fail
              refine hR.mono ?_
              rintro e w3 ⟨v3, ps, rfl, hps, hra, hb3⟩
              rw [rowsOf_self HT.out.2.asc hps] at hra
              have HG3 := Lib.hid (rowsAt_G hra (fun x hx => (rowB_11 (HT.out.2.rows x hx))) HA.out.1.lim)
              have HS3 := Lib.hid (HS2.out.next hb3)
              clear hR hps hra hb3
              have hK : _ := toldG_any w3 _ xs HG3.out (by omega)
              go_wp2_with fail
              refine hK.mono ?_
              rintro e w4 ⟨u4, rfl, hU4, hb⟩
              have HS4 := Lib.hid (HS3.out.next hb)
              have HU4 := Lib.hid hU4
              clear hK hb hU4
              have hK : _ := toldG_any w4 _ xs (HA.out.1.next HS4.out.below) (by omega)
              go_wp2_with fail
              refine hK.mono ?_
              rintro e w5 ⟨u5, rfl, hU5, hb⟩
              have HS5 := Lib.hid (HS4.out.next hb)
              have HU5 := Lib.hid (And.intro (HU4.out.next hb) hU5)
              clear hK hb hU5
              have hK : Calls Tryd.prog 15 #[u4, u5] w5 fun e w' => e = .returned (.bool true) ∧ Below w5.heap.size w5 w' := (sameG_any w5 u4 u5 xs xs HU5.out.1 HU5.out.2 (by omega) HA.out.2.2.1).mono (by rintro e w' ⟨m, rfl, rfl⟩; exact ⟨by rw [decide_eq_true rfl], below_drewN (Below.refl _ _) _⟩)
              go_wp2_with fail
              refine hK.mono ?_
              rintro e w6 ⟨rfl, hb⟩
              have HS6 := Lib.hid (HS5.out.next hb)
              have hW := awake_any w6 HS6.out.glob HS6.out.mayt
              clear hK hb
              go_wp2_with fail
              refine hW.mono ?_
              rintro e w7 ⟨rfl, hB2⟩
              have HE := Lib.hid (HS6.out.next hB2)
              clear hB2 hW
              go_wp2
              refine bodyPost_ret (v := .bool true) (by simp [results, Tryd.results8, go_sem]) rfl ⟨rfl, by rw [← HEQ.out]; exact HE.out.below⟩
end Go.Proofs.YthhcigmdocldnaaDoor

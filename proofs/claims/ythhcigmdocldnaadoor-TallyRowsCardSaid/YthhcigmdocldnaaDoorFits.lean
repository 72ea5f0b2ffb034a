/- The document's MayRow and Fits at whatever rows. -/
import Derived.Test.YthhcigmdocldnaaDoorSameC
import Derived.Test.YthhcigmdocldnaaDoorRefI
namespace Go.Proofs.YthhcigmdocldnaaDoor
open Go Go.RowKit Go.Shelf Go.Sort

theorem kind0_iff (t : Nat) : kindB (t : Int) 0 = decide (1 ≤ t ∧ t ≤ 3) := by
  unfold kindB
  by_cases h1 : (t : Int) = 1
  · have : t = 1 := by omega
    subst this; decide
  · by_cases h2 : (t : Int) = 2
    · have : t = 2 := by omega
      subst this; decide
    · by_cases h3 : (t : Int) = 3
      · have : t = 3 := by omega
        subst this; decide
      · rw [if_neg h1, if_neg h2, if_neg h3, decide_eq_false (by omega)]

set_option maxRecDepth 100000 in
set_option maxHeartbeats 2000000 in
theorem mayRow_any (w : World) (d : Bytes) (t : Nat) (a0 : Int) (fl : List Int) (fv : Value) (hF : RowIn w w.heap.size fv fl.length (fl.map (Value.int .i64))) (hs : d.length ≤ 1000000) (ht : t < 256) :
    Calls Tryd.prog 54 #[.agg #[.string ⟨d.toArray⟩, .int .u8 (t : Int), .int .i64 a0, fv]] w fun e w' => e = .returned (.bool (rowB d t (a0 :: fl))) ∧ Below w.heap.size w w' := by
  obtain ⟨fp, fc, rfl⟩ := rowIn_shape hF
  have HH := Lib.hid (And.intro hF (And.intro hs ht))
  clear hF hs ht
  go_enter Tryd.func54, Tryd.ntmps54
  go_wp2_with fail
  obtain ⟨W, hW⟩ : ∃ W, W = w.alloc (.cells #[.string ⟨d.toArray⟩, .int .u8 (t : Int), .int .i64 a0, .slice fp fl.length fc] 71) := ⟨_, rfl⟩
  rw [← hW]
  have hB : Below w.heap.size w W := by rw [hW]; exact (Below.refl _ w).alloc (Nat.le_refl _) _
  have hH : W.heap[w.heap.size]? = some (.cells #[.string ⟨d.toArray⟩, .int .u8 (t : Int), .int .i64 a0, .slice fp fl.length fc] 71 (0, 0)) := by rw [hW]; exact ha_eq rfl
  have hM := refMay_any ⟨d.toArray⟩ W HH.out.2.1
  have hmd : mayB (⟨d.toArray⟩ : ByteArray).data.toList = mayB d := rfl
  rw [hmd] at hM
  have HB := Lib.hid (And.intro hB hH)
  obtain ⟨b0, hb0⟩ : ∃ b, b = w.heap.size := ⟨_, rfl⟩
  have HE := Lib.hid hb0
  rw [← hb0]
  clear hW hB hH hmd hb0
  refine hM.mono ?_
  rintro e w1 ⟨rfl, hB1⟩
  have hH1 := (hB1.block _ (Array.getElem?_eq_some_iff.1 HB.out.2).1).trans HB.out.2
  rw [← HE.out] at hH1
  have hBw := HB.out.1.trans (Below.less hB1 HB.out.1.size)
  have x0 : w1.cell? ⟨b0, 0, none⟩ = some (.string ⟨d.toArray⟩) := by simp [World.cell?, hH1]
  have x1 : w1.cell? ⟨b0, 1, none⟩ = some (.int .u8 (t : Int)) := by simp [World.cell?, hH1]
  have x2 : w1.cell? ⟨b0, 2, none⟩ = some (.int .i64 a0) := by simp [World.cell?, hH1]
  have x3 : w1.cell? ⟨b0, 3, none⟩ = some (.slice fp fl.length fc) := by simp [World.cell?, hH1]
  have H1 := Lib.hid (And.intro hH1 hBw)
  clear hM hB1 hH1 hBw HB HE
  cases hmB : mayB d
  · have HR := Lib.hid (rowB_may (d := d) (t := t) (c := a0 :: fl) (by rw [hmB]; simp))
    clear hmB
    go_wp2
    refine bodyPost_ret (v := .bool false) (by simp [results, Tryd.results54, go_sem]) rfl ⟨by rw [HR.out], H1.out.2⟩
  · by_cases h1 : (t : Int) < 1
    · have HR := Lib.hid (rowB_may (d := d) (t := t) (c := a0 :: fl) (by rw [kind0_iff, decide_eq_false (by omega)]; simp))
      clear hmB
      go_wp2
      refine bodyPost_ret (v := .bool false) (by simp [results, Tryd.results54, go_sem]) rfl ⟨by rw [HR.out], H1.out.2⟩
    · by_cases h3 : (3 : Int) < (t : Int)
      · have HR := Lib.hid (rowB_may (d := d) (t := t) (c := a0 :: fl) (by rw [kind0_iff, decide_eq_false (by omega)]; simp))
        clear hmB
        go_wp2
        refine bodyPost_ret (v := .bool false) (by simp [results, Tryd.results54, go_sem]) rfl ⟨by rw [HR.out], H1.out.2⟩
      · by_cases hl : fl.length = 10
        · by_cases hn : a0 < 0
          · have HR := Lib.hid (rowB_bad (d := d) (t := t) (c := a0 :: fl) (k := 0) (by decide) (.inl hn))
            have hl' : (fl.length : Int) = 10 := by omega
            clear hmB hl
            go_wp2
            refine bodyPost_ret (v := .bool false) (by simp [results, Tryd.results54, go_sem]) rfl ⟨by rw [HR.out], H1.out.2⟩
          · obtain ⟨fb, fo, fc', e, hcells⟩ := rowIn_form HH.out.1 (by omega)
            injection e with e1 _ e3
            subst e1 e3
            have hkm : (kindB (t : Int) 0 && mayB d) = true := by rw [kind0_iff, hmB, decide_eq_true (by omega)]; rfl
            obtain ⟨c, hc⟩ : ∃ c, c = a0 :: fl := ⟨_, rfl⟩
            rw [hl] at x3 hcells H1
            have hck : ∀ k, k < 10 → fl.getD k 0 = c.getD (k + 1) 0 := fun k _ => by rw [hc]; rfl
            have hc0 : c.getD 0 0 = a0 := by rw [hc]; rfl
            have hcl : c.length = 11 := by rw [hc]; simp [hl]
            have hlb : ∀ k, k < 10 → fb < w.heap.size := fun k hk => cell_lt (hcells k hk)
            have HK := Lib.hid (And.intro hkm (And.intro hc (And.intro hcells (And.intro hck (And.intro hcl hc0)))))
            have hn' : (0 : Int) ≤ a0 := by omega
            clear hmB hkm hc hcells hck hcl hn
            rw [hl]
            clear hl
            go_wp2_with fail
            go_loopw [3, 4] (fun ov iv wr => ∃ (i : Nat) (o : Bool), iv = .int .i64 (i : Int) ∧ i ≤ 10 ∧ ov = .bool o ∧ (o = true ↔ ∃ j, j < i + 1 ∧ 0 < c.getD j 0) ∧ (∀ j, j < i + 1 → 0 ≤ c.getD j 0 ∧ (0 < c.getD j 0 → kindB (t : Int) (j : Int) = true)) ∧ Below w1.heap.size w1 wr)
              (fun _ iv _ => 10 - natOf iv)
            case atStart =>
              refine ⟨0, decide (0 < a0), rfl, Nat.zero_le _, rfl, ?_, ?_, Below.refl _ _⟩
              · rw [decide_eq_true_iff]
                constructor
                · intro h; exact ⟨0, by omega, by rw [hc0]; exact h⟩
                · rintro ⟨j, hj, hp⟩
                  have : j = 0 := by omega
                  subst this
                  rw [hc0] at hp; exact hp
              · intro j hj
                have : j = 0 := by omega
                subst this
                refine ⟨by rw [hc0]; exact hn', fun _ => ?_⟩
                have := HK.out.1
                rw [Bool.and_eq_true] at this
                exact this.1
            case round =>
              obtain ⟨i, o, rfl, hi, rfl, ho, hall, hBr⟩ := hrel
              have hHr := (hBr.block _ (Array.getElem?_eq_some_iff.1 H1.out.1).1).trans H1.out.1
              by_cases hi1 : i < 10
              · have hii : (i : Int) < 10 := by omega
                have y1 : wr.cell? ⟨b0, 1, none⟩ = some (.int .u8 (t : Int)) := by simp [World.cell?, hHr]
                have y3 : wr.cell? ⟨b0, 3, none⟩ = some (.slice (some ⟨fb, fo, none⟩) 10 fc) := by simp [World.cell?, hHr]
                have hBwr := H1.out.2.trans (Below.less hBr H1.out.2.size)
                have y4 : wr.cell? ⟨fb, fo + i, none⟩ = some (.int .i64 (fl.getD i 0)) := (hBwr.cell (p := ⟨fb, fo + i, none⟩) (hlb i hi1)).trans (HK.out.2.2.1 i hi1)
                rw [HK.out.2.2.2.1 i hi1] at y4
                have hKd := refKind_any t (i + 1) wr
                have hw8 : IntKind.u8.wrap ((i : Int) + 1) = (i : Int) + 1 := by rw [IntKind.wrap_u8]; omega
                have hbad : c.getD (i + 1) 0 < 0 ∨ (0 < c.getD (i + 1) 0 ∧ kindB (t : Int) ((i + 1 : Nat) : Int) = false) → rowB d t c = false := fun h => rowB_bad (by omega) h
                have hnext : 0 ≤ c.getD (i + 1) 0 → (0 < c.getD (i + 1) 0 → kindB (t : Int) ((i + 1 : Nat) : Int) = true) → ∀ o' : Bool, (o' = true ↔ (o = true ∨ 0 < c.getD (i + 1) 0)) → (o' = true ↔ ∃ j, j < i + 1 + 1 ∧ 0 < c.getD j 0) ∧ (∀ j, j < i + 1 + 1 → 0 ≤ c.getD j 0 ∧ (0 < c.getD j 0 → kindB (t : Int) (j : Int) = true)) := by
                  intro hz0 hkz o' h
                  constructor
                  · rw [h, ho]
                    constructor
                    · rintro (⟨j, hj, hp⟩ | hp)
                      · exact ⟨j, by omega, hp⟩
                      · exact ⟨i + 1, by omega, hp⟩
                    · rintro ⟨j, hj, hp⟩
                      by_cases hjk : j = i + 1
                      · subst hjk; exact .inr hp
                      · exact .inl ⟨j, by omega, hp⟩
                  · intro j hj
                    by_cases hjk : j = i + 1
                    · subst hjk; exact ⟨hz0, hkz⟩
                    · exact hall j (by omega)
                rw [show ((i + 1 : Nat) : Int) = (i : Int) + 1 by omega] at hKd
                have HN := Lib.hid (And.intro hbad (And.intro hnext hBr))
                clear hbad hnext hBr hall ho hHr hBwr
                generalize c.getD (i + 1) 0 = z at *
                by_cases hp : 0 < z
                · have hneg : ¬ z < 0 := by omega
                  have hcast : ((i + 1 : Nat) : Int) = (i : Int) + 1 := by omega
                  cases hkb : kindB (t : Int) ((i : Int) + 1)
                  · have HX := Lib.hid (HN.out.1 (.inr ⟨hp, by rw [hcast]; exact hkb⟩))
                    rw [hkb] at hKd
                    clear hkb hcast
                    go_wp2_with fail
                    refine hKd.mono ?_
                    rintro e w6 ⟨rfl, rfl⟩
                    clear hKd
                    go_wp2
                    refine bodyPost_ret (v := .bool false) (by simp [results, Tryd.results54, go_sem]) rfl ⟨by rw [← HK.out.2.1, HX.out], H1.out.2.trans (Below.less HN.out.2.2 H1.out.2.size)⟩
                  · have HX := Lib.hid (HN.out.2.1 (by omega) (fun _ => by rw [hcast]; exact hkb) true (by simp [hp]))
                    rw [hkb] at hKd
                    clear hkb hcast
                    go_wp2_with fail
                    refine hKd.mono ?_
                    rintro e w6 ⟨rfl, rfl⟩
                    clear hKd
                    cases o
                    · go_wp2
                      go_roundw
                      case rel => exact ⟨i + 1, true, by simp, by omega, rfl, by simpa using HX.out.1, HX.out.2, HN.out.2.2⟩
                      case measure => simp [natOf]; omega
                    · go_wp2
                      go_roundw
                      case rel => exact ⟨i + 1, true, by simp, by omega, rfl, by simpa using HX.out.1, HX.out.2, HN.out.2.2⟩
                      case measure => simp [natOf]; omega
                · by_cases hn : z < 0
                  · have HX := Lib.hid (HN.out.1 (.inl hn))
                    clear hKd
                    go_wp2
                    refine bodyPost_ret (v := .bool false) (by simp [results, Tryd.results54, go_sem]) rfl ⟨by rw [← HK.out.2.1, HX.out], H1.out.2.trans (Below.less HN.out.2.2 H1.out.2.size)⟩
                  · obtain rfl : z = 0 := by omega
                    have HX := Lib.hid (HN.out.2.1 (Int.le_refl 0) (fun h => absurd h (Int.lt_irrefl 0)) o (by simp))
                    clear hKd
                    cases o
                    · go_wp2
                      go_roundw
                      case rel => exact ⟨i + 1, false, by simp, by omega, rfl, by simpa using HX.out.1, HX.out.2, HN.out.2.2⟩
                      case measure => simp [natOf]; omega
                    · go_wp2
                      go_roundw
                      case rel => exact ⟨i + 1, true, by simp, by omega, rfl, by simpa using HX.out.1, HX.out.2, HN.out.2.2⟩
                      case measure => simp [natOf]; omega
              · have hii : ¬ (i : Int) < 10 := by omega
                obtain rfl : i = 10 := by omega
                have HX := Lib.hid (And.intro ho (And.intro hall hBr))
                clear ho hBr hHr hall
                go_wp2
                refine bodyPost_ret (v := .bool o) (by simp [results, Tryd.results54, go_sem]) rfl ⟨by rw [← HK.out.2.1, rowB_end HK.out.1 HK.out.2.2.2.2.1 HX.out.2.1 HX.out.1], H1.out.2.trans (Below.less HX.out.2.2 H1.out.2.size)⟩
        · have HR := Lib.hid (rowB_len (d := d) (t := t) (c := a0 :: fl) (by simp; exact hl))
          have hl' : ¬ (fl.length : Int) = 10 := by omega
          clear hmB hl
          go_wp2
          refine bodyPost_ret (v := .bool false) (by simp [results, Tryd.results54, go_sem]) rfl ⟨by rw [HR.out], H1.out.2⟩

theorem domsL_len2 (l : Ent) : (domsL l).length ≤ l.length := by
  have := sub_len (l := domsL l) (m := l.map fun y => y.1.1) ((asc_domsL l).nodup ordB) (fun y hy => mem_domsL.1 hy)
  rwa [List.length_map] at this
theorem doms_same {l : Ent} {x : (Bytes × Nat) × List Int} (h : x.1.1 ∈ domsL l) : domsL (l ++ [x]) = domsL l :=
  Asc.uniq ordB (asc_domsL _) (asc_domsL _) fun d => by
    rw [mem_domsL, mem_domsL, List.map_append, List.mem_append]
    constructor
    · rintro (h1 | h1)
      · exact h1
      · simp at h1
        subst h1
        exact mem_domsL.1 h
    · exact .inl
theorem doms_new {l : Ent} {x : (Bytes × Nat) × List Int} (h : ∀ d ∈ domsL l, cmpB d x.1.1 < 0) : domsL (l ++ [x]) = domsL l ++ [x.1.1] :=
  Asc.uniq ordB (asc_domsL _) (List.pairwise_append.2 ⟨asc_domsL l, by simp, fun a ha b hb => by simp at hb; subst hb; exact h a ha⟩) fun d => by
    rw [mem_domsL, List.mem_append, mem_domsL, List.map_append, List.mem_append]
    simp
/-- What Fits answers. -/
def FitsPost (w : World) (names : Int) (xs : Ent) (e : Ending) (w' : World) : Prop :=
  Below w.heap.size w w' ∧ ∃ z, e = .returned (.int .i64 z) ∧ ((z = 1 ∧ (names < 1 ∨ 8 < names)) ∨ ((1 ≤ names ∧ names ≤ 8) ∧ ((z = 4 ∧ ¬ RowsOk xs) ∨ (RowsOk xs ∧ ((z = 41 ∧ names < ((domsL xs).length : Int)) ∨ (z = 0 ∧ ((domsL xs).length : Int) ≤ names))))))
theorem cmpP_neg {p q : Bytes × Nat} : cmpP p q < 0 ↔ cmpB p.1 q.1 < 0 ∨ (cmpB p.1 q.1 = 0 ∧ p.2 < q.2) := by
  unfold cmpP orI cmpInt
  by_cases h : cmpB p.1 q.1 = 0
  · rw [if_pos h]
    by_cases h1 : (p.2 : Int) < q.2
    · rw [if_pos h1]; omega
    · rw [if_neg h1]
      by_cases h2 : (q.2 : Int) < p.2
      · rw [if_pos h2]; omega
      · rw [if_neg h2]; omega
  · rw [if_neg h]; omega
theorem doms_last {xs : Ent} {i : Nat} (hi : i < xs.length) (h0 : 0 < i) (h : Asc cmpP ((xs.take i).map (·.1))) : (xs[i - 1]'(by omega)).1.1 ∈ domsL (xs.take i) ∧ ∀ d ∈ domsL (xs.take i), d = (xs[i - 1]'(by omega)).1.1 ∨ cmpB d (xs[i - 1]'(by omega)).1.1 < 0 := by
  have hl : i - 1 < (xs.take i).length := by simp; omega
  have e : (xs.take i)[i - 1] = xs[i - 1]'(by omega) := List.getElem_take
  constructor
  · rw [mem_domsL]
    exact List.mem_map.2 ⟨_, List.getElem_mem hl, by rw [e]⟩
  · intro d hd
    obtain ⟨y, hy, rfl⟩ := List.mem_map.1 (mem_domsL.1 hd)
    obtain ⟨j, hj, rfl⟩ := List.getElem_of_mem hy
    by_cases hji : j = i - 1
    · subst hji; exact .inl (by rw [e])
    · have := List.pairwise_iff_getElem.1 h j (i - 1) (by simpa using hj) (by simpa using hl) (by simp at hj; omega)
      simp only [List.getElem_map] at this
      rw [e] at this
      rcases cmpP_neg.1 this with h1 | ⟨h1, _⟩
      · exact .inr h1
      · exact .inl (cmpB_eq h1)

set_option maxRecDepth 100000 in
set_option maxHeartbeats 1500000 in
theorem fits_any (w : World) (names : Int) (v : Value) (xs : Ent) (h : RowsG w v xs) (hxl : xs.length ≤ 1000) (hds : ∀ x ∈ xs, x.1.1.length ≤ 1000000) :
    Calls Tryd.prog 32 #[.int .i64 names, v] w (FitsPost w names xs) := by
  obtain ⟨pr, cr, rfl, hel⟩ := h.shape
  have HH := Lib.hid (And.intro hel (And.intro h.lim hds))
  clear h hel hds
  go_enter Tryd.func32, Tryd.ntmps32
  by_cases hb1 : names < 1
  · go_wp2
    refine bodyPost_ret (v := .int .i64 1) (by simp [results, Tryd.results32, go_sem]) rfl ⟨Below.refl _ _, 1, rfl, .inl ⟨rfl, .inl (by omega)⟩⟩
  by_cases hb8 : 8 < names
  · go_wp2
    refine bodyPost_ret (v := .int .i64 1) (by simp [results, Tryd.results32, go_sem]) rfl ⟨Below.refl _ _, 1, rfl, .inl ⟨rfl, .inr (by omega)⟩⟩
  have hn1 : 1 ≤ names := by omega
  have hn2 : names ≤ 8 := by omega
  have HB := Lib.hid (And.intro hn1 hn2)
  clear hn1 hn2
  go_wp2_with fail
  go_loopw [5, 6] (fun cv iv wr => ∃ i : Nat, iv = .int .i64 (i : Int) ∧ i ≤ xs.length ∧ cv = .int .i64 ((domsL (xs.take i)).length : Int) ∧ (∀ x ∈ xs.take i, rowB x.1.1 x.1.2 x.2 = true) ∧ Asc cmpP ((xs.take i).map (·.1)) ∧ Below w.heap.size w wr)
    (fun _ iv _ => xs.length - natOf iv)
  case atStart => exact ⟨0, rfl, Nat.zero_le _, rfl, fun x hx => by simp at hx, List.Pairwise.nil, Below.refl _ _⟩
  case round =>
    obtain ⟨i, rfl, hi, rfl, hokr, hasc, hBr⟩ := hrel
    by_cases hlast : i < xs.length
    · have hli : (i : Int) < (xs.length : Int) := by omega
      obtain ⟨a, rfl, hcr, hA⟩ := HH.out.1 i hlast
      obtain ⟨b, o, s, fv, ead, hbl, x0, x1, x2, x3, hF, hne⟩ := hA wr hBr
      have hlim := HH.out.2.1 xs[i] (List.getElem_mem hlast)
      have hdl := HH.out.2.2 xs[i] (List.getElem_mem hlast)
      have hdc : (domsL (xs.take i)).length ≤ 1000 := by
        have := domsL_len2 (xs.take i)
        simp at this
        omega
      have htk := List.take_succ_eq_append_getElem hlast
      have hrows : rowB xs[i].1.1 xs[i].1.2 xs[i].2 = true → ∀ x ∈ xs.take (i + 1), rowB x.1.1 x.1.2 x.2 = true := fun h x hx => by
        rw [htk, List.mem_append] at hx
        rcases hx with hx | hx
        · exact hokr x hx
        · rw [List.mem_singleton.1 hx]; exact h
      have hno : rowB xs[i].1.1 xs[i].1.2 xs[i].2 = false → ¬ RowsOk xs := fun h hk => by
        have := hk.rows _ (List.getElem_mem hlast)
        rw [h] at this
        cases this
      have hnoa : ∀ h0 : 0 < i, ¬ cmpP (xs[i - 1]'(by omega)).1 xs[i].1 < 0 → ¬ RowsOk xs := fun h0 h hk => by
        have := List.pairwise_iff_getElem.1 hk.asc (i - 1) i (by simp; omega) (by simpa using hlast) (by omega)
        simp only [List.getElem_map] at this
        exact h this
      have hasc2 := fun h => asc_pre hlast hasc h
      have hdz : i = 0 → domsL (xs.take (i + 1)) = domsL (xs.take i) ++ [xs[i].1.1] := fun h => by
        rw [htk]
        exact doms_new (fun d hd => by subst h; simp [domsL] at hd)
      have hds' : ∀ h0 : 0 < i, cmpB (xs[i - 1]'(by omega)).1.1 xs[i].1.1 = 0 → domsL (xs.take (i + 1)) = domsL (xs.take i) := fun h0 h => by
        rw [htk]
        refine doms_same ?_
        rw [← cmpB_eq h]
        exact (doms_last hlast h0 hasc).1
      have hdn : ∀ h0 : 0 < i, cmpB (xs[i - 1]'(by omega)).1.1 xs[i].1.1 < 0 → domsL (xs.take (i + 1)) = domsL (xs.take i) ++ [xs[i].1.1] := fun h0 h => by
        rw [htk]
        refine doms_new (fun d hd => ?_)
        rcases (doms_last hlast h0 hasc).2 d hd with rfl | h1
        · exact h
        · exact cmpB_trans h1 h
      have hprev : ∀ W, Below w.heap.size w W → ∀ h0 : 0 < i, RowAt w.heap.size W a (i - 1) (xs[i - 1]'(by omega)) := fun W hW h0 => by
        obtain ⟨a', e1, _, hA'⟩ := HH.out.1 (i - 1) (by omega)
        injection e1 with e1
        subst e1
        exact hA' W hW
      have hpl : ∀ h0 : 0 < i, (xs[i - 1]'(by omega)).1.1.length ≤ 1000000 := fun h0 => HH.out.2.2 _ (List.getElem_mem _)
      have HR := Lib.hid (And.intro hrows (And.intro hno (And.intro hnoa (And.intro hasc2 (And.intro hdz (And.intro hds' (And.intro hdn (And.intro hprev (And.intro hpl hBr)))))))))
      clear hrows hno hnoa hasc2 hdz hds' hdn hprev hpl hA hokr hasc htk
      generalize xs[i] = q at *
      obtain ⟨⟨qd, qt⟩, qc⟩ := q
      obtain ⟨g0, fl, rfl⟩ : ∃ g0 fl, qc = g0 :: fl := by
        cases qc with
        | nil => exact absurd rfl hne
        | cons a l => exact ⟨a, l, rfl⟩
      dsimp only at x0 x1 hlim hdl
      have x2' : wr.cell? ⟨b, o + 2, none⟩ = some (.int .i64 g0) := x2
      have hF2 : RowIn wr w.heap.size fv fl.length (fl.map (Value.int .i64)) := hF
      obtain ⟨fp, fc, rfl⟩ := rowIn_shape hF2
      have hMR := mayRow_any wr qd qt g0 fl _ (hF2.mono hBr.size) hdl hlim.2
      have hbw : b < wr.heap.size := Nat.lt_of_lt_of_le hbl hBr.size
      clear x2 hF hF2 hne hlim hBr
      generalize hrb : rowB qd qt (g0 :: fl) = rb at hMR
      generalize hdn : (domsL (xs.take i)).length = dn at *
      go_wp2_with fail
      refine hMR.mono ?_
      rintro e w1 ⟨rfl, hB1⟩
      have hBw1 := HR.out.2.2.2.2.2.2.2.2.2.trans (Below.less hB1 HR.out.2.2.2.2.2.2.2.2.2.size)
      have y0 := (hB1.cell (p := ⟨b, o, s⟩) hbw).trans x0
      have y1 := (hB1.cell (p := ⟨b, o + 1, none⟩) hbw).trans x1
      have HD := Lib.hid (And.intro hrb (And.intro hdn hBw1))
      clear hMR hB1 x0 x1 x2' x3 hrb hdn hBw1
      cases rb
      · go_wp2
        refine bodyPost_ret (v := .int .i64 4) (by simp [results, Tryd.results32, go_sem]) rfl ⟨HD.out.2.2, 4, rfl, .inr ⟨HB.out, .inl ⟨rfl, HR.out.2.1 HD.out.1⟩⟩⟩
      · by_cases hi0 : i = 0
        · have hiz : ¬ (0 : Int) < (i : Int) := by omega
          have HI := Lib.hid hi0
          have hdz := HR.out.2.2.2.2.1 hi0
          have hdzl : (domsL (xs.take (i + 1))).length = dn + 1 := by rw [hdz, List.length_append, HD.out.2.1]; rfl
          have HZ := Lib.hid (And.intro hdzl (HR.out.2.2.2.1 (.inl hi0)))
          clear hdz hdzl hi0
          go_wp2_with fail
          go_quiet (fail)
          go_wp2
          go_roundw
          case rel => exact ⟨i + 1, by simp, by omega, by rw [HZ.out.1]; simp, HR.out.1 HD.out.1, HZ.out.2, HD.out.2.2.trans (Below.less (below_drewN (Below.refl _ _) _) HD.out.2.2.size)⟩
          case measure => simp [natOf]; omega
        · have h0i : 0 < i := by omega
          obtain ⟨j, hj⟩ : ∃ j, i = j + 1 := ⟨i - 1, by omega⟩
          have hiz : (0 : Int) < (i : Int) := by omega
          have hsub : (i : Int) - 1 = (j : Int) := by omega
          have hjl : (j : Int) < (xs.length : Int) := by omega
          have hwr : IntKind.i64.wrap ((i : Int) - 1) = (j : Int) := by
            rw [hsub]
            simp [IntKind.wrap, IntKind.bits, IntKind.signed]
            omega
          have hwr2 : wrap64 ((i : Int) - 1) = (j : Int) := by rw [hsub]; unfold wrap64; omega
          have hwr3 : IntKind.i64.wrap (j : Int) = (j : Int) := by rw [← hsub]; exact hwr.trans hsub.symm
          have hprev := HR.out.2.2.2.2.2.2.2.1 w1 HD.out.2.2 h0i
          have hpl := HR.out.2.2.2.2.2.2.2.2.1 h0i
          have hnoa := HR.out.2.2.1 h0i
          have hasc2 := HR.out.2.2.2.1
          have hds' := HR.out.2.2.2.2.2.1 h0i
          have hdn' := HR.out.2.2.2.2.2.2.1 h0i
          have hil : i - 1 < xs.length := Nat.lt_of_le_of_lt (Nat.sub_le _ _) hlast
          have hij : i - 1 = j := by omega
          obtain ⟨pq, hpq⟩ : ∃ q, q = xs[i - 1]'hil := ⟨_, rfl⟩
          rw [← hpq] at hprev hpl hnoa hds' hdn'
          have hasc3 : cmpP pq.1 (qd, qt) < 0 → Asc cmpP ((xs.take (i + 1)).map (·.1)) := fun h => hasc2 (.inr (by rw [← hpq]; exact h))
          rw [hij] at hprev
          clear hasc2 hpq hil
          obtain ⟨⟨pd, pt⟩, pc⟩ := pq
          obtain ⟨Bb, Bo, Bs, fv', ead', hbl', u0, u1, -⟩ := hprev
          dsimp only at u0 u1 hpl hnoa hds' hdn' hasc3
          have hcmp := fun W => refCompare_any ⟨pd.toArray⟩ ⟨qd.toArray⟩ W (by show pd.length ≤ maxLen; unfold maxLen; omega) (by show qd.length ≤ maxLen; unfold maxLen; omega)
          unfold CmpPost at hcmp
          have hcv : cmpB (⟨pd.toArray⟩ : ByteArray).data.toList (⟨qd.toArray⟩ : ByteArray).data.toList = cmpB pd qd := rfl
          rw [hcv] at hcmp
          have hnoz : 0 < cmpB pd qd ∨ (cmpB pd qd = 0 ∧ qt ≤ pt) → ¬ RowsOk xs := fun h => hnoa (by
            have hc : ¬ cmpP (pd, pt) (qd, qt) < 0 := fun hc => by
              rcases cmpP_neg.1 hc with h1 | ⟨h1, h2⟩
              · dsimp only at h1; omega
              · dsimp only at h1 h2; omega
            omega)
          have hgo : cmpB pd qd < 0 ∨ (cmpB pd qd = 0 ∧ pt < qt) → Asc cmpP ((xs.take (i + 1)).map (·.1)) := fun h => hasc3 (cmpP_neg.2 h)
          have HC := Lib.hid (And.intro hnoz (And.intro hgo (And.intro hds' hdn')))
          clear hnoz hgo hds' hdn' hasc3 hnoa hpl hcv hij hj h0i hi0
          generalize cmpB pd qd = z at hcmp HC
          have f1 : ((z : Int) == 0) = decide (z = 0) := by by_cases h : z = 0 <;> simp [h]
          go_wp2_with fail
          refine wp_region_still_tail 11 (by kernel_rfl) (by kernel_rfl) ?_
          simp only [List.take_succ_cons, List.take_zero, List.drop_succ_cons, List.drop_zero]
          show wpStill Tryd.prog _ (World.drew _) (fun a' => wpList _ _ _ _ a' (World.drew _)) _ _
          repeat still_step
          refine wpStill_nil ?_
          go_wp2_with fail
          refine (hcmp _).mono ?_
          rintro e w2 ⟨rfl, m, hw2⟩
          have hB2 : Below w1.heap.size w1 w2 := by rw [hw2]; exact below_drewN (below_drw (Below.refl _ _)) _
          have u1' : w2.cell? ⟨Bb, Bo + 1, none⟩ = some (.int .u8 (pt : Int)) := by rw [hw2]; exact u1
          have y1' : w2.cell? ⟨b, o + 1, none⟩ = some (.int .u8 (qt : Int)) := by rw [hw2]; exact y1
          have HB2 := Lib.hid (HD.out.2.2.trans (Below.less hB2 HD.out.2.2.size))
          clear hw2 hB2 u0 u1 y0 y1 hcmp
          by_cases hz1 : 0 < z
          · have HN := Lib.hid (HC.out.1 (.inl hz1))
            go_wp2_with fail
            go_quiet (fail)
            go_wp2
            refine bodyPost_ret (v := .int .i64 4) (by simp [results, Tryd.results32, go_sem]) rfl ⟨HB2.out.trans (Below.less (below_drewN (Below.refl _ _) _) HB2.out.size), 4, rfl, .inr ⟨HB.out, .inl ⟨rfl, HN.out⟩⟩⟩
          · by_cases hz2 : z = 0
            · subst hz2
              by_cases hpt : qt ≤ pt
              · have hpti : (qt : Int) ≤ (pt : Int) := by omega
                have HN := Lib.hid (HC.out.1 (.inr ⟨rfl, hpt⟩))
                go_wp2_with fail
                go_quiet (fail)
                go_wp2
                refine bodyPost_ret (v := .int .i64 4) (by simp [results, Tryd.results32, go_sem]) rfl ⟨HB2.out.trans (Below.less (below_drewN (Below.refl _ _) _) HB2.out.size), 4, rfl, .inr ⟨HB.out, .inl ⟨rfl, HN.out⟩⟩⟩
              · have hpti : ¬ (qt : Int) ≤ (pt : Int) := by omega
                have hdl2 : (domsL (xs.take (i + 1))).length = dn := by rw [HC.out.2.2.1 rfl, HD.out.2.1]
                have HZ := Lib.hid (And.intro hdl2 (HC.out.2.1 (.inr ⟨rfl, by omega⟩)))
                clear hdl2
                go_wp2_with fail
                go_quiet (fail)
                go_wp2
                go_roundw
                case rel => exact ⟨i + 1, by simp, by omega, by rw [HZ.out.1], HR.out.1 HD.out.1, HZ.out.2, HB2.out.trans (Below.less (below_drewN (Below.refl _ _) _) HB2.out.size)⟩
                case measure => simp [natOf]; omega
            · have hz3 : z < 0 := by omega
              have hz4 : (z == 0) = false := by simpa using hz2
              have hz5 : decide (z = 0) = false := decide_eq_false hz2
              have hz6 : decide (0 < z) = false := decide_eq_false hz1
              have hz7 : ¬ 0 < z := hz1
              have hdl2 : (domsL (xs.take (i + 1))).length = dn + 1 := by rw [HC.out.2.2.2 hz3, List.length_append, HD.out.2.1]; rfl
              have HZ := Lib.hid (And.intro hdl2 (HC.out.2.1 (.inl hz3)))
              clear hdl2 f1
              go_wp2_with fail
              go_quiet (fail)
              go_wp2
              go_roundw
              case rel => exact ⟨i + 1, by simp, by omega, by rw [HZ.out.1]; simp, HR.out.1 HD.out.1, HZ.out.2, HB2.out.trans (Below.less (below_drewN (Below.refl _ _) _) HB2.out.size)⟩
              case measure => simp [natOf]; omega
    · have hli : ¬ (i : Int) < (xs.length : Int) := by omega
      obtain rfl : i = xs.length := by omega
      rw [List.take_length] at hokr hasc
      have hok : RowsOk xs := ⟨hokr, hasc⟩
      have HK := Lib.hid (And.intro hok hBr)
      have hdc : (domsL xs).length ≤ 1000 := by
        have := domsL_len2 xs
        omega
      rw [List.take_length]
      clear hokr hasc hok hBr
      by_cases hgt : names < ((domsL xs).length : Int)
      · have HG := Lib.hid hgt
        go_wp2
        refine bodyPost_ret (v := .int .i64 41) (by simp [results, Tryd.results32, go_sem]) rfl ⟨HK.out.2, 41, rfl, .inr ⟨HB.out, .inr ⟨HK.out.1, .inl ⟨rfl, HG.out⟩⟩⟩⟩
      · have hge : ((domsL xs).length : Int) ≤ names := by omega
        have HG := Lib.hid hge
        go_wp2
        refine bodyPost_ret (v := .int .i64 0) (by simp [results, Tryd.results32, go_sem]) rfl ⟨HK.out.2, 0, rfl, .inr ⟨HB.out, .inr ⟨HK.out.1, .inr ⟨rfl, HG.out⟩⟩⟩⟩
end Go.Proofs.YthhcigmdocldnaaDoor

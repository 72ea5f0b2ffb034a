/- TallyRows: the row and the tied card. -/
import Derived.Test.YthhcigmdocldnaaDoorCardA
import Derived.Test.YthhcigmdocldnaaDoorRowsB
import Derived.Test.YthhcigmdocldnaaDoorCards
import Derived.Test.YthhcigmdocldnaaDoorTie
import Derived.SevenTiedAt
namespace Go.Proofs.YthhcigmdocldnaaDoor
open Go Go.ChangeShapes Go.WideShapes Go.ChangeAt Go.RowKit Go.Deep

section rows
variable {H : Type} {enc : TypeId × Value → H}
theorem rowFields : ∃ f0 f1 f2 f3, Tryd.prog.underlying 41 = some (.struct #[f0, f1, f2, f3]) ∧ (f0.type = 9 ∧ f1.type = 5 ∧ f2.type = 3 ∧ f3.type = 39) ∧ f0.offset = 0 ∧ f1.offset = 1 ∧ f2.offset = 2 ∧ f3.offset = 3 := by
  have h : ((Tryd.prog.fieldsOf 41).toList.map fun f => (f.type, f.offset)) = [(9, 0), (5, 1), (3, 2), (39, 3)] := by kernel_rfl
  have h2 : Tryd.prog.underlying 41 = some (.struct (Tryd.prog.fieldsOf 41)) := by kernel_rfl
  rw [h2]
  obtain ⟨fs, hfs⟩ : ∃ fs, fs = Tryd.prog.fieldsOf 41 := ⟨_, rfl⟩
  rw [← hfs] at h ⊢
  clear h2 hfs
  obtain ⟨fs⟩ := fs
  rcases fs with _ | ⟨f0, _ | ⟨f1, _ | ⟨f2, _ | ⟨f3, _ | ⟨f4, fs⟩⟩⟩⟩⟩ <;> simp at h
  exact ⟨f0, f1, f2, f3, rfl, ⟨h.1.1, h.2.1.1, h.2.2.1.1, h.2.2.2.1⟩, h.1.2, h.2.1.2, h.2.2.1.2, h.2.2.2.2⟩
theorem cRow : Tryd.prog.cellsOf 41 = 4 := by kernel_rfl
theorem cI : Tryd.prog.cellsOf 3 = 1 := by kernel_rfl
theorem cSI : Tryd.prog.cellsOf 39 = 1 := by kernel_rfl

set_option maxRecDepth 100000 in
/-- A row's failures that came in. -/
theorem open_fails {W : World} {base : Nat} {spare : Nat → Bool} {held : Bool} {n : Nat} {v : Value} {x : DataW H × List MemPlace} (h : DataW.trod enc Tryd.prog W base spare held n 39 [v] = some x) :
    ∃ fs : List Int, fs.length ≤ maxLen ∧ RowIn W W.heap.size v fs.length (fs.map (Value.int .i64)) := by
  rcases open_slice1 Tryd.underlying39 cI h with ⟨h0, _⟩ | ⟨a, len, cap, m, n', V, D, Pl, hcs, hb, hl, hm, hmm, hx, hi⟩
  · injection h0 with h0 _
    exact ⟨[], Nat.zero_le _, .inl ⟨h0, rfl, rfl⟩⟩
  · injection hcs with hcs _
    have hle : len ≤ m := by rw [hmm]; split <;> omega
    have hex : ∀ i, ∃ k : Int, i < len → W.cell? (a.add i) = some (.int .i64 k) := by
      intro i
      by_cases hil : i < len
      · obtain ⟨hc, ht⟩ := hi i (by omega)
        obtain ⟨k, e1, _, _⟩ := DataW.trod_int Tryd.underlying3 ht
        injection e1 with e1 _
        exact ⟨k, fun _ => by rw [hc, e1]⟩
      · exact ⟨0, fun h => absurd h hil⟩
    obtain ⟨f, hf⟩ := Classical.axiomOfChoice hex
    have hlen : ((List.range len).map f).length = len := by simp
    refine ⟨(List.range len).map f, by rw [hlen]; omega, ?_⟩
    rw [hlen, hcs]
    refine .inr ⟨a, cap, rfl, fun hne => ?_, fun j u hj => ?_⟩
    · have h0 : 0 < len := Nat.pos_of_ne_zero fun e => hne (by subst e; rfl)
      have := cell_lt (hf 0 h0)
      unfold Addr.add at this
      split at this <;> exact this
    · by_cases hjl : j < len
      · have e : (((List.range len).map f).map (Value.int .i64))[j]? = some (.int .i64 (f j)) := by simp [hjl]
        rw [e] at hj
        injection hj with hj
        subst hj
        exact hf j hjl
      · rw [List.getElem?_eq_none (by simp; omega)] at hj
        cases hj
set_option maxRecDepth 100000 in
/-- One row that came in. -/
theorem open_row {W : World} {base : Nat} {spare : Nat → Bool} {held : Bool} {n i : Nat} {a : Addr} {cs : List Value} {x : DataW H × List MemPlace} (hc : W.cells? base (a.add (i * 4)) 4 = some cs) (ht : DataW.trod enc Tryd.prog W base spare held n 41 cs = some x) :
    ∃ r : (Bytes × Nat) × List Int, (r.1.1.length ≤ maxLen ∧ r.1.2 < 256 ∧ r.2.length - 1 ≤ maxLen) ∧ RowAt W.heap.size W a i r := by
  obtain ⟨f0, f1, f2, f3, hu, ⟨t0, t1, t2, t3⟩, o0, o1, o2, o3⟩ := rowFields
  obtain ⟨ys, n', _, _, hlen, hyl, hf⟩ := DataW.trod_struct hu ht
  obtain ⟨_, hcl, hat⟩ := World.cells?_some hc
  have g0 := hf 0 f0 rfl
  have g1 := hf 1 f1 rfl
  have g2 := hf 2 f2 rfl
  have g3 := hf 3 f3 rfl
  rw [t0, o0, cS] at g0
  rw [t1, o1, c8] at g1
  rw [t2, o2, cI] at g2
  rw [t3, o3, cSI] at g3
  match cs, hcl with
  | [x0, x1, x2, x3], _ =>
    match ys, hyl with
    | [y0, y1, y2, y3], _ =>
      obtain ⟨s, e0, _, hs⟩ := DataW.trod_string Tryd.underlying9 (show DataW.trod enc Tryd.prog W base spare held n' 9 [x0] = some y0 from g0)
      obtain ⟨k1, e1, _, w1⟩ := DataW.trod_int Tryd.underlying5 (show DataW.trod enc Tryd.prog W base spare held n' 5 [x1] = some y1 from g1)
      obtain ⟨k2, e2, _, w2⟩ := DataW.trod_int Tryd.underlying3 (show DataW.trod enc Tryd.prog W base spare held n' 3 [x2] = some y2 from g2)
      obtain ⟨fs, hfl, hF⟩ := open_fails (show DataW.trod enc Tryd.prog W base spare held n' 39 [x3] = some y3 from g3)
      injection e0 with e0 _
      injection e1 with e1 _
      injection e2 with e2 _
      have b1 := bounds_u8 w1
      obtain ⟨m1, rfl⟩ := Int.eq_ofNat_of_zero_le b1.1
      have h0 := hat 0 (by omega)
      have h1 := hat 1 (by omega)
      have h2 := hat 2 (by omega)
      have h3 := hat 3 (by omega)
      obtain ⟨b, o, sp, hadd⟩ : ∃ b o sp, a.add (i * 4) = ⟨b, o, sp⟩ := ⟨_, _, _, rfl⟩
      rw [hadd] at h0 h1 h2 h3
      have hsp : sp = none := by
        have := World.cell?_spot h0
        unfold Addr.add at this
        split at this <;> simp_all
      subst hsp
      rw [addrk] at h0 h1 h2 h3
      refine ⟨((s.data.toList, m1), k2 :: fs), ⟨hs, by dsimp only; omega, by simpa using hfl⟩, b, o, none, x3, hadd, cell_lt h0, ?_, ?_, ?_, ?_, ?_, by simp⟩
      · exact h0.trans (by rw [e0]; rfl)
      · exact h1.trans (by rw [e1]; rfl)
      · exact h2.trans (by rw [e2]; rfl)
      · exact h3
      · exact hF

set_option maxRecDepth 100000 in
/-- The rows that came in. -/
theorem open_rows {W : World} {base b0 : Nat} {r : Reach} {spare : Nat → Bool} {held : Bool} {v : Value} {d : DataW H} {p : List MemPlace} (hv : Value.okWide Tryd.prog W r b0 29 v) (h : DataW.Trod enc Tryd.prog W base spare held 29 v d p) : ∃ xs : Ent, RowsG W v xs ∧ ∀ x ∈ xs, x.2.length - 1 ≤ maxLen := by
  obtain ⟨fuel, hf⟩ := h
  obtain ⟨q, len, cap, rfl⟩ := okWide_slice Tryd.underlying29 hv
  rcases open_slice Tryd.underlying29 hf with ⟨h0, _⟩ | ⟨a, len', cap', m, n, D, Pl, hcs, hb, hl, hm, hmm, hx, hi⟩
  · simp [Value.cells] at h0
    obtain ⟨rfl, rfl, rfl⟩ := h0
    exact ⟨[], ⟨.inl ⟨rfl, rfl⟩, fun r hr => by simp at hr⟩, fun r hr => by simp at hr⟩
  · simp [Value.cells] at hcs
    obtain ⟨rfl, rfl, rfl⟩ := hcs
    rw [cRow] at hi
    have hle : len ≤ m := by rw [hmm]; split <;> omega
    have hex : ∀ i, ∃ r : (Bytes × Nat) × List Int, i < len → ((r.1.1.length ≤ maxLen ∧ r.1.2 < 256 ∧ r.2.length - 1 ≤ maxLen) ∧ RowAt W.heap.size W a i r) := by
      intro i
      by_cases hil : i < len
      · obtain ⟨cs', hc, ht⟩ := hi i (by omega)
        obtain ⟨r, hr⟩ := open_row hc ht
        exact ⟨r, fun _ => hr⟩
      · exact ⟨(([], 0), []), fun h => absurd h hil⟩
    obtain ⟨f, hf'⟩ := Classical.axiomOfChoice hex
    have hlen : ((List.range len).map f).length = len := by simp
    refine ⟨(List.range len).map f, ⟨.inr ⟨a, cap, by rw [hlen], by rw [hlen]; exact hl, fun i hil => ?_⟩, fun r hr => ?_⟩, fun r hr => ?_⟩
    · have hil' : i < len := by simpa using hil
      simp only [List.getElem_map, List.getElem_range]
      exact (hf' i hil').2
    · obtain ⟨i, hi', rfl⟩ := List.mem_map.1 hr
      have := (hf' i (List.mem_range.1 hi')).1
      exact ⟨this.1, this.2.1⟩
    · obtain ⟨i, hi', rfl⟩ := List.mem_map.1 hr
      exact (hf' i (List.mem_range.1 hi')).1.2.2
end rows

set_option maxRecDepth 100000 in
theorem rows_lifted (os : Os) (started : os.Started) (H : Type) (enc : TypeId × Value → H) :
    ReturnsInHanded {} Tryd.checked os 8 .any (fun w args => (Rows.tallyRowsSpec.pre enc Tryd.prog Tryd.f8 [] false w args ∧ laidMetH Tryd.prog laidMay w) ∧ sizedMet enc Tryd.prog Tryd.f8 (OpenSpec.ofChange Rows.tallyRowsSpec) false w args)
      (Rows.tallyRowsSpec.post enc Tryd.prog Tryd.f8 false true false false) := by
  refine lift_shaped (C := Tryd.checked) (X := fun w _ => laidMetH Tryd.prog laidMay w) (fun _ _ _ hh h => h.of_heap hh) ownKnob_none started (by kernel_rfl) Tryd.func8
    (ChangeSpec.witness_shaped (enc := enc) (C := Tryd.checked) (os := os) (X := fun w _ => laidMetH Tryd.prog laidMay w) false (World.doorLaid Tryd.prog 400 os) #[.int .i64 0, .slice none 0 0, .slice none 0 0, .int .u8 0] 8 rfl (World.shaped_of_RefB (by kernel_rfl) (by kernel_rfl)) (by kernel_rfl) (by kernel_rfl) (by kernel_rfl) (door_met os _)) ?_
  intro W base args ds gs before hval0 hW hL hsh
  have hval : ∀ (j : Nat) t v, Tryd.f8.params[j]? = some t → args[j]? = some v → Value.okWide Tryd.prog W .any base t v := hval0
  have hW' := hW
  obtain ⟨p, q, hA0, hV, rfl, _, _⟩ := hW
  have hA : DataW.TrodAll enc Tryd.prog W 0 (fun _ => true) true Tryd.f8.params.toList args.toList ds p := hA0
  rw [Tryd.params8] at hA hval
  obtain ⟨v0, v1, v2, v3, d0, d1, d2, d3, p0, p1, p2, p3, rfl, rfl, rfl, h0, h1, h2, h3⟩ := trodAll_four hA
  obtain ⟨rfl, rfl⟩ := trodVars_none hV
  obtain ⟨names, rfl, rfl, rfl, wn⟩ := open_int Tryd.underlying3 (hval 0 3 v0 rfl rfl) h0
  obtain ⟨xs, hR, hf⟩ := open_rows (hval 1 29 v1 rfl rfl) h1
  obtain ⟨ys, hR2, hf'⟩ := open_rows (hval 2 29 v2 rfl rfl) h2
  obtain ⟨k, rfl, rfl, rfl, wk⟩ := open_int Tryd.underlying5 (hval 3 5 v3 rfl rfl) h3
  have bk := bounds_u8 wk
  obtain ⟨k, rfl⟩ := Int.eq_ofNat_of_zero_le bk.1
  clear hA0 hval0
  simp only [List.append_nil, List.nil_append] at hW'
  have hlt : ∀ x ∈ p1, x.block < W.heap.size := fun x hx => by simpa using hW'.lt x (List.mem_append_left _ hx)
  have hlt2 : ∀ x ∈ p2, x.block < W.heap.size := fun x hx => by simpa using hW'.lt x (List.mem_append_right _ hx)
  refine (rowsLaw_any W names v1 v2 xs ys k hR hR2 hf hf' (by omega) (glob_of_shaped hsh) (mayT_of_laid hL)).mono ?_
  rintro e W' ⟨rfl, hb⟩
  have h1' := Below.trod lays (by kernel_rfl) (of_decide_eq_true (by kernel_rfl)) h1 hb hlt
  have h2' := Below.trod lays (by kernel_rfl) (of_decide_eq_true (by kernel_rfl)) h2 hb hlt2
  refine ⟨_, rfl, _, _, _, [], p1 ++ p2, [], hW', ?_, ?_, rfl, hb.frame _, fun h => by cases h⟩
  · exact trodAll_mk1 (shut_bool Tryd.underlying4 _)
  · have e : p1 ++ p2 = [] ++ (p1 ++ (p2 ++ [])) := by simp
    rw [e]
    exact trodAll_mk4 (shut_int Tryd.underlying3 wn) h1' h2' (shut_int Tryd.underlying5 wk)

theorem rows_said : Rows.TallyRowsSaid :=
  OpenClaim.holds_of_wide 8 Tryd.f8 rfl rfl rfl rfl rfl rfl rfl ⟨rfl, rfl, rfl, rfl, rfl⟩ rfl rfl rfl rfl rfl (by kernel_rfl) Tryd.func8 (by kernel_rfl)
    (of_decide_eq_true (by kernel_rfl)) (by unfold Func.isWrapper; first | (rw [if_pos (by decide +kernel)]; kernel_rfl) | (rw [if_neg (by decide +kernel)]; exact ⟨rfl, rfl⟩))
    (fun os started H enc _ => rows_lifted os started H enc)

theorem tallyRows_holds : Rows.TallyRowsCardSaid :=
  Claim7.holds_tied_plain_at .later [] [.data] true (true, "fcf5091b7874e06b4b717c18d96d5ef73833ff86c8bfba5c0d926ef174e696d0") true
    rows_said (fun _ h => by cases h) (by kernel_rfl) (fun _ h => by cases h) tallyRows_row_tie rfl ⟨rfl, rfl⟩ (by kernel_rfl) rfl
    (fun f fn hf hfn => by
      obtain rfl : f = 8 := Option.some.inj ((show Tryd.prog.funcNamed "mailroom/mailroomlaw19.TallyRows" = some 8 by kernel_rfl).symm.trans hf) |>.symm
      obtain rfl : fn = Tryd.f8 := (Option.some.inj (Tryd.func8.symm.trans hfn)).symm
      exact ⟨by kernel_rfl, fun j t ht => by
        rw [Tryd.params8] at ht
        have hm : t ∈ [3, 29, 29, 5] := by simpa using Array.mem_of_getElem? ht
        have hall : ([3, 29, 29, 5].all fun u => !Tryd.prog.wantsStandIn u) = true := by kernel_rfl
        exact (show Tryd.prog.wantsStandIn t = false by simpa using List.all_eq_true.1 hall t hm)⟩)
    (by kernel_rfl)
#print axioms tallyRows_holds
end Go.Proofs.YthhcigmdocldnaaDoor

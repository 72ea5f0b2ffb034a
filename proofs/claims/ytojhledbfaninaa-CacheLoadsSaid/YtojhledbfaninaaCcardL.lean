/- CacheLoads: for every input the law returns true; each argument reads behind the call as it read before. -/
import Derived.Test.YtojhledbfaninaaCcardA
import Derived.Test.YtojhledbfaninaaCloads
namespace Go.Proofs.Ytojhledbfaninaa
open Go Go.ChangeShapes Go.WideShapes Go.ChangeAt Go.RowKit Go.Deep

section rows
variable {H : Type} {enc : TypeId × Value → H}
set_option maxRecDepth 100000 in
/-- One entry that came in. -/
theorem open_entry {W : World} {base : Nat} {spare : Nat → Bool} {held : Bool} {n : Nat} {a : Addr} {cs : List Value} {x : DataW H × List MemPlace} (hc : W.cells? base a 6 = some cs) (ht : DataW.trod enc Try.prog W base spare held n 27 cs = some x) :
    ∃ s : EM, MxAt W Any s.2 s.1.mx ∧ ∀ k u, (ecells s)[k]? = some u → W.cell? (a.add k) = some u := by
  obtain ⟨f0, f1, f2, f3, hu, ⟨t0, t1, t2, t3⟩, o0, o1, o2, o3⟩ := entFields
  obtain ⟨ys, n', _, _, hlen, hyl, hf⟩ := DataW.trod_struct hu ht
  obtain ⟨_, hcl, hat⟩ := World.cells?_some hc
  have g0 := hf 0 f0 rfl
  have g1 := hf 1 f1 rfl
  have g2 := hf 2 f2 rfl
  have g3 := hf 3 f3 rfl
  rw [t0, o0, cStr] at g0
  rw [t1, o1, cStr] at g1
  rw [t2, o2, cPol] at g2
  rw [t3, o3, cInt] at g3
  match cs, hcl with
  | [x0, x1, x2, x3, x4, x5], _ =>
    match ys, hyl with
    | [y0, y1, y2, y3], _ =>
      obtain ⟨s1, e0, _, _⟩ := DataW.trod_string Try.underlying9 (show DataW.trod enc Try.prog W base spare held n' 9 [x0] = some y0 from g0)
      obtain ⟨s2, e1, _, _⟩ := DataW.trod_string Try.underlying9 (show DataW.trod enc Try.prog W base spare held n' 9 [x1] = some y1 from g1)
      obtain ⟨m, s, mx, age, e2, hm⟩ := open_pol rfl (show DataW.trod enc Try.prog W base spare held n' 25 [x2, x3, x4] = some y2 from g2)
      obtain ⟨k4, e3, _, _⟩ := DataW.trod_int Try.underlying3 (show DataW.trod enc Try.prog W base spare held n' 3 [x5] = some y3 from g3)
      injection e0 with e0 _
      injection e1 with e1 _
      injection e2 with e2 e2'
      injection e2' with e4 e2'
      injection e2' with e5 _
      injection e3 with e3 _
      refine ⟨(⟨s1.data.toList, s2.data.toList, m, mx, age, k4⟩, s), hm, fun k u hk => ?_⟩
      have hk6 : k < 6 := (List.getElem?_eq_some_iff.1 hk).1
      have hak := hat k hk6
      subst e0 e1 e2 e3 e4 e5
      rw [hak]
      match k, hk6, hk with
      | 0, _, hk => exact hk
      | 1, _, hk => exact hk
      | 2, _, hk => exact hk
      | 3, _, hk => exact hk
      | 4, _, hk => exact hk
      | 5, _, hk => exact hk

set_option maxRecDepth 100000 in
/-- The entries that came in. -/
theorem open_entries {W : World} {base b0 : Nat} {r : Reach} {spare : Nat → Bool} {held : Bool} {v : Value} {d : DataW H} {p : List MemPlace} (hv : Value.okWide Try.prog W r b0 34 v) (h : DataW.Trod enc Try.prog W base spare held 34 v d p) : ∃ ss : List EM, RowE W v ss ∧ TextsE W Any ss ∧ ss.length ≤ maxLen := by
  obtain ⟨fuel, hf⟩ := h
  obtain ⟨q, len, cap, rfl⟩ := okWide_slice Try.underlying34 hv
  rcases open_slice Try.underlying34 hf with ⟨h0, _⟩ | ⟨a, len', cap', m, n, D, Pl, hcs, hb, hl, hm, hmm, hx, hi⟩
  · simp [Value.cells] at h0
    obtain ⟨rfl, rfl, rfl⟩ := h0
    exact ⟨[], .inl ⟨rfl, none, 0, rfl⟩, fun r hr => by simp at hr, Nat.zero_le _⟩
  · simp [Value.cells] at hcs
    obtain ⟨rfl, rfl, rfl⟩ := hcs
    rw [cEnt] at hi
    have hle : len ≤ m := by rw [hmm]; split <;> omega
    have hex : ∀ i, ∃ s : EM, i < len → (MxAt W Any s.2 s.1.mx ∧ ∀ k u, (ecells s)[k]? = some u → W.cell? ((a.add (i * 6)).add k) = some u) := by
      intro i
      by_cases hil : i < len
      · obtain ⟨cs', hc, ht⟩ := hi i (by omega)
        obtain ⟨s, hs⟩ := open_entry hc ht
        exact ⟨s, fun _ => hs⟩
      · exact ⟨(default, (none, 0, 0)), fun h => absurd h hil⟩
    obtain ⟨f, hf'⟩ := Classical.axiomOfChoice hex
    have hlen : ((List.range len).map f).length = len := by simp
    refine ⟨(List.range len).map f, ?_, fun s hs => ?_, by rw [hlen]; omega⟩
    · by_cases h0 : len = 0
      · subst h0
        exact .inl ⟨rfl, some a, cap, rfl⟩
      · have hc0 := (hf' 0 (by omega)).2 0 _ rfl
        obtain ⟨b, o, sp⟩ := a
        have hsp : sp = none := by
          have := World.cell?_spot hc0
          simpa [Addr.add] using this
        subst hsp
        refine .inr ⟨fun e => h0 (by have := congrArg List.length e; simpa using this), b, o, cap, by rw [hlen], fun i hil k u hk => ?_⟩
        have hil' : i < len := by simpa using hil
        simp only [List.getElem_map, List.getElem_range] at hk
        have := (hf' i hil').2 k u hk
        rwa [addrk, addrk] at this
    · obtain ⟨i, hi', rfl⟩ := List.mem_map.1 hs
      exact (hf' i (List.mem_range.1 hi')).1
end rows

set_option maxRecDepth 100000 in
theorem loads_lifted (os : Os) (started : os.Started) (H : Type) (enc : TypeId × Value → H) :
    ReturnsInHanded {} Try.checked os 5 .any (Rows.cacheLoadsSpec.pre6 enc Try.prog Try.f5 Rows.cacheLoadsRow.domain false) (Rows.cacheLoadsSpec.post enc Try.prog Try.f5 false true false false) := by
  refine returnsInHanded_of_change_shaped (C := Try.checked) ownKnob_none started (by kernel_rfl) Try.func5
    (ChangeSpec.witness6 (enc := enc) (C := Try.checked) false ⟨#[], #[.int .i64 0, .slice none 0 0, .slice none 0 0], []⟩ 8 (by kernel_rfl) (by kernel_rfl) (by kernel_rfl) (by kernel_rfl)) ?_
  intro W base args ds gs before hval0 hW _ _ hsh _
  have hval : ∀ (j : Nat) t v, Try.f5.params[j]? = some t → args[j]? = some v → Value.okWide Try.prog W .any base t v := hval0
  have hW' := hW
  obtain ⟨p, q, hA0, hV, rfl, _, _⟩ := hW
  have hA : DataW.TrodAll enc Try.prog W 0 (fun _ => true) true Try.f5.params.toList args.toList ds p := hA0
  rw [Try.params5] at hA hval
  obtain ⟨v0, v1, v2, d0, d1, d2, p0, p1, p2, rfl, rfl, rfl, h0, h1, h2⟩ := trodAll_three hA
  obtain ⟨rfl, rfl⟩ := trodVars_none hV
  obtain ⟨most, rfl, rfl, rfl, wn⟩ := open_int Try.underlying3 (hval 0 3 v0 rfl rfl) h0
  obtain ⟨ss, hR, hT, hn⟩ := open_entries (hval 1 34 v1 rfl rfl) h1
  obtain ⟨ms, hR2, hT2, hn2⟩ := open_entries (hval 2 34 v2 rfl rfl) h2
  clear hA0 hval0
  simp only [List.append_nil, List.nil_append] at hW'
  have hlt : ∀ x ∈ p1, x.block < W.heap.size := fun x hx => by simpa using hW'.lt x (List.mem_append_left _ hx)
  have hlt2 : ∀ x ∈ p2, x.block < W.heap.size := fun x hx => by simpa using hW'.lt x (List.mem_append_right _ hx)
  refine (loads_any W most v1 v2 ss ms hR hR2 hT hT2 hn hn2 (glob_of_shaped hsh)).mono ?_
  rintro e W' ⟨rfl, hb⟩
  have h1' := Below.trod lays (by kernel_rfl) (of_decide_eq_true (by kernel_rfl)) h1 hb hlt
  have h2' := Below.trod lays (by kernel_rfl) (of_decide_eq_true (by kernel_rfl)) h2 hb hlt2
  refine ⟨_, rfl, _, _, _, [], p1 ++ p2, [], hW', ?_, ?_, rfl, hb.frame _, fun h => by cases h⟩
  · exact trodAll_mk1 (shut_bool Try.underlying4 _)
  · have e : p1 ++ p2 = [] ++ (p1 ++ p2) := by rw [List.nil_append]
    rw [e]
    exact trodAll_mk3 (shut_int Try.underlying3 wn) h1' h2'

theorem cacheLoads_holds : Rows.CacheLoadsSaid :=
  OpenClaim.holds_of_wide 5 Try.f5 rfl rfl rfl rfl rfl rfl rfl ⟨rfl, rfl, rfl, rfl, rfl⟩ rfl rfl rfl rfl rfl (by kernel_rfl) Try.func5 (by kernel_rfl)
    (of_decide_eq_true (by kernel_rfl)) (by unfold Func.isWrapper; first | (rw [if_pos (by decide +kernel)]; kernel_rfl) | (rw [if_neg (by decide +kernel)]; exact ⟨rfl, rfl⟩))
    (fun os started H enc _ => loads_lifted os started H enc)
#print axioms cacheLoads_holds
end Go.Proofs.Ytojhledbfaninaa

/- What a law's row gives its walk: the variables, the steps and entries that came in. -/
import Derived.Test.YtojhledbfaninaaRows
import Derived.Test.YtojhledbfaninaaClong
import Derived.ProofKit
import Derived.OpenShut
import Derived.Stop.Joined
import Derived.HandedShaped
import Derived.LaidMore
import Derived.Shelf.Vars
import Derived.Deep.Slices
import Derived.Deep.Fields
namespace Go.Proofs.Ytojhledbfaninaa
open Go Go.ChangeShapes Go.WideShapes Go.ChangeAt Go.RowKit Go.Deep

theorem ownKnob_none : ownKnob Try.prog.godebug = none := by kernel_rfl
theorem lays : laidOutB Try.prog = true := by kernel_rfl
set_option maxRecDepth 100000 in
theorem glob_of_shaped {W : World} (h : W.ShapedOpen Try.prog) : Glob W :=
  Go.Proofs.cell_of_shapedOpen_int (zero := #[.int .i64 0]) (t := 3) h (of_decide_eq_true (by kernel_rfl)) (by kernel_rfl) rfl (by kernel_rfl) (by kernel_rfl) Try.underlying3

section rows
variable {H : Type} {enc : TypeId × Value → H}
theorem stepFields : ∃ f0 f1 f2 f3 f4, Try.prog.underlying 44 = some (.struct #[f0, f1, f2, f3, f4]) ∧ (f0.type = 5 ∧ f1.type = 9 ∧ f2.type = 9 ∧ f3.type = 25 ∧ f4.type = 3) ∧ f0.offset = 0 ∧ f1.offset = 1 ∧ f2.offset = 2 ∧ f3.offset = 3 ∧ f4.offset = 6 := by
  have h : ((Try.prog.fieldsOf 44).toList.map fun f => (f.type, f.offset)) = [(5, 0), (9, 1), (9, 2), (25, 3), (3, 6)] := by kernel_rfl
  have h2 : Try.prog.underlying 44 = some (.struct (Try.prog.fieldsOf 44)) := by kernel_rfl
  rw [h2]
  obtain ⟨fs, hfs⟩ : ∃ fs, fs = Try.prog.fieldsOf 44 := ⟨_, rfl⟩
  rw [← hfs] at h ⊢
  clear h2 hfs
  obtain ⟨fs⟩ := fs
  rcases fs with _ | ⟨f0, _ | ⟨f1, _ | ⟨f2, _ | ⟨f3, _ | ⟨f4, _ | ⟨f5, fs⟩⟩⟩⟩⟩⟩ <;> simp at h
  exact ⟨f0, f1, f2, f3, f4, rfl, ⟨h.1.1, h.2.1.1, h.2.2.1.1, h.2.2.2.1.1, h.2.2.2.2.1⟩, h.1.2, h.2.1.2, h.2.2.1.2, h.2.2.2.1.2, h.2.2.2.2.2⟩
theorem entFields : ∃ f0 f1 f2 f3, Try.prog.underlying 27 = some (.struct #[f0, f1, f2, f3]) ∧ (f0.type = 9 ∧ f1.type = 9 ∧ f2.type = 25 ∧ f3.type = 3) ∧ f0.offset = 0 ∧ f1.offset = 1 ∧ f2.offset = 2 ∧ f3.offset = 5 := by
  have h : ((Try.prog.fieldsOf 27).toList.map fun f => (f.type, f.offset)) = [(9, 0), (9, 1), (25, 2), (3, 5)] := by kernel_rfl
  have h2 : Try.prog.underlying 27 = some (.struct (Try.prog.fieldsOf 27)) := by kernel_rfl
  rw [h2]
  obtain ⟨fs, hfs⟩ : ∃ fs, fs = Try.prog.fieldsOf 27 := ⟨_, rfl⟩
  rw [← hfs] at h ⊢
  clear h2 hfs
  obtain ⟨fs⟩ := fs
  rcases fs with _ | ⟨f0, _ | ⟨f1, _ | ⟨f2, _ | ⟨f3, _ | ⟨f4, fs⟩⟩⟩⟩⟩ <;> simp at h
  exact ⟨f0, f1, f2, f3, rfl, ⟨h.1.1, h.2.1.1, h.2.2.1.1, h.2.2.2.1⟩, h.1.2, h.2.1.2, h.2.2.1.2, h.2.2.2.2⟩
theorem polFields : ∃ f0 f1 f2, Try.prog.underlying 25 = some (.struct #[f0, f1, f2]) ∧ f0.type = 5 ∧ f1.type = 23 ∧ f2.type = 3 ∧ f0.offset = 0 ∧ f1.offset = 1 ∧ f2.offset = 2 := by
  have h : ((Try.prog.fieldsOf 25).toList.map fun f => (f.type, f.offset)) = [(5, 0), (23, 1), (3, 2)] := by kernel_rfl
  have h2 : Try.prog.underlying 25 = some (.struct (Try.prog.fieldsOf 25)) := by kernel_rfl
  rw [h2]
  obtain ⟨fs, hfs⟩ : ∃ fs, fs = Try.prog.fieldsOf 25 := ⟨_, rfl⟩
  rw [← hfs] at h ⊢
  clear h2 hfs
  obtain ⟨fs⟩ := fs
  rcases fs with _ | ⟨f0, _ | ⟨f1, _ | ⟨f2, _ | ⟨f3, fs⟩⟩⟩⟩ <;> simp at h
  exact ⟨f0, f1, f2, rfl, h.1.1, h.2.1.1, h.2.2.1, h.1.2, h.2.1.2, h.2.2.2⟩
theorem cStep : Try.prog.cellsOf 44 = 7 := by kernel_rfl
theorem cEnt : Try.prog.cellsOf 27 = 6 := by kernel_rfl
theorem cPol : Try.prog.cellsOf 25 = 3 := by kernel_rfl
theorem cStr : Try.prog.cellsOf 9 = 1 := by kernel_rfl
theorem cSS : Try.prog.cellsOf 23 = 1 := by kernel_rfl
theorem cU8 : Try.prog.cellsOf 5 = 1 := by kernel_rfl
theorem cInt : Try.prog.cellsOf 3 = 1 := by kernel_rfl

set_option maxRecDepth 100000 in
/-- A policy's texts that came in. -/
theorem open_mx {W : World} {base : Nat} {spare : Nat → Bool} {held : Bool} {n : Nat} {v : Value} {x : DataW H × List MemPlace} (h : DataW.trod enc Try.prog W base spare held n 23 [v] = some x) :
    ∃ (s : SH) (mx : List Bytes), v = shV s ∧ MxAt W Any s mx := by
  rcases open_slice1 Try.underlying23 cStr h with ⟨h0, _⟩ | ⟨a, len, cap, m, n', V, D, Pl, hcs, hb, hl, hm, hmm, hx, hi⟩
  · injection h0 with h0 _
    exact ⟨(none, 0, 0), [], h0, rfl, fun _ => rfl, fun a e => (by cases e)⟩
  · injection hcs with hcs _
    have hle : len ≤ m := by rw [hmm]; split <;> omega
    have hex : ∀ i, ∃ k : Bytes, i < len → W.cell? (a.add i) = some (str k) := by
      intro i
      by_cases hil : i < len
      · obtain ⟨hc, ht⟩ := hi i (by omega)
        obtain ⟨s, e1, _, _⟩ := DataW.trod_string Try.underlying9 ht
        injection e1 with e1 _
        exact ⟨s.data.toList, fun _ => by rw [hc, e1]; rfl⟩
      · exact ⟨[], fun h => absurd h hil⟩
    obtain ⟨f, hf⟩ := Classical.axiomOfChoice hex
    have hlen : ((List.range len).map f).length = len := by simp
    refine ⟨(some a, len, cap), (List.range len).map f, hcs, hlen.symm, fun e => (by cases e), fun a' e => ?_⟩
    cases e
    refine ⟨fun _ => trivial, fun j u hj => ?_⟩
    by_cases hjl : j < len
    · have e : ((List.range len).map f)[j]? = some (f j) := by simp [hjl]
      rw [e] at hj
      injection hj with hj
      subst hj
      exact hf j hjl
    · rw [List.getElem?_eq_none (by simp; omega)] at hj
      cases hj
set_option maxRecDepth 100000 in
/-- A policy that came in. -/
theorem open_pol {W : World} {base : Nat} {spare : Nat → Bool} {held : Bool} {n : Nat} {cs : List Value} {x : DataW H × List MemPlace} (hcl : cs.length = 3) (ht : DataW.trod enc Try.prog W base spare held n 25 cs = some x) :
    ∃ (m : Nat) (s : SH) (mx : List Bytes) (age : Int), cs = [.int .u8 (m : Int), shV s, .int .i64 age] ∧ MxAt W Any s mx := by
  obtain ⟨f0, f1, f2, hu, t0, t1, t2, o0, o1, o2⟩ := polFields
  obtain ⟨ys, n', _, _, hlen, hyl, hf⟩ := DataW.trod_struct hu ht
  have g0 := hf 0 f0 rfl
  have g1 := hf 1 f1 rfl
  have g2 := hf 2 f2 rfl
  rw [t0, o0, cU8] at g0
  rw [t1, o1, cSS] at g1
  rw [t2, o2, cInt] at g2
  match cs, hcl with
  | [x0, x1, x2], _ =>
    match ys, hyl with
    | [y0, y1, y2], _ =>
      obtain ⟨k0, e0, _, w0⟩ := DataW.trod_int Try.underlying5 (show DataW.trod enc Try.prog W base spare held n' 5 [x0] = some y0 from g0)
      obtain ⟨s, mx, e1, hm⟩ := open_mx (show DataW.trod enc Try.prog W base spare held n' 23 [x1] = some y1 from g1)
      obtain ⟨k2, e2, _, w2⟩ := DataW.trod_int Try.underlying3 (show DataW.trod enc Try.prog W base spare held n' 3 [x2] = some y2 from g2)
      injection e0 with e0 _
      injection e2 with e2 _
      have b0 := bounds_u8 w0
      obtain ⟨m, rfl⟩ := Int.eq_ofNat_of_zero_le b0.1
      exact ⟨m, s, mx, k2, by rw [e0, e1, e2], hm⟩

set_option maxRecDepth 100000 in
/-- One step that came in. -/
theorem open_step {W : World} {base : Nat} {spare : Nat → Bool} {held : Bool} {n : Nat} {a : Addr} {cs : List Value} {x : DataW H × List MemPlace} (hc : W.cells? base a 7 = some cs) (ht : DataW.trod enc Try.prog W base spare held n 44 cs = some x) :
    ∃ s : SM, MxAt W Any s.2 s.1.x.mx ∧ ∀ k u, (scells s)[k]? = some u → W.cell? (a.add k) = some u := by
  obtain ⟨f0, f1, f2, f3, f4, hu, ⟨t0, t1, t2, t3, t4⟩, o0, o1, o2, o3, o4⟩ := stepFields
  obtain ⟨ys, n', _, _, hlen, hyl, hf⟩ := DataW.trod_struct hu ht
  obtain ⟨_, hcl, hat⟩ := World.cells?_some hc
  have g0 := hf 0 f0 rfl
  have g1 := hf 1 f1 rfl
  have g2 := hf 2 f2 rfl
  have g3 := hf 3 f3 rfl
  have g4 := hf 4 f4 rfl
  rw [t0, o0, cU8] at g0
  rw [t1, o1, cStr] at g1
  rw [t2, o2, cStr] at g2
  rw [t3, o3, cPol] at g3
  rw [t4, o4, cInt] at g4
  match cs, hcl with
  | [x0, x1, x2, x3, x4, x5, x6], _ =>
    match ys, hyl with
    | [y0, y1, y2, y3, y4], _ =>
      obtain ⟨k0, e0, _, w0⟩ := DataW.trod_int Try.underlying5 (show DataW.trod enc Try.prog W base spare held n' 5 [x0] = some y0 from g0)
      obtain ⟨s1, e1, _, _⟩ := DataW.trod_string Try.underlying9 (show DataW.trod enc Try.prog W base spare held n' 9 [x1] = some y1 from g1)
      obtain ⟨s2, e2, _, _⟩ := DataW.trod_string Try.underlying9 (show DataW.trod enc Try.prog W base spare held n' 9 [x2] = some y2 from g2)
      obtain ⟨m, s, mx, age, e3, hm⟩ := open_pol rfl (show DataW.trod enc Try.prog W base spare held n' 25 [x3, x4, x5] = some y3 from g3)
      obtain ⟨k4, e4, _, _⟩ := DataW.trod_int Try.underlying3 (show DataW.trod enc Try.prog W base spare held n' 3 [x6] = some y4 from g4)
      injection e0 with e0 _
      injection e1 with e1 _
      injection e2 with e2 _
      injection e3 with e3 e3'
      injection e3' with e5 e3'
      injection e3' with e6 _
      injection e4 with e4 _
      have b0 := bounds_u8 w0
      obtain ⟨wh, rfl⟩ := Int.eq_ofNat_of_zero_le b0.1
      refine ⟨(⟨wh, ⟨s1.data.toList, s2.data.toList, m, mx, age, k4⟩⟩, s), hm, fun k u hk => ?_⟩
      have hk7 : k < 7 := (List.getElem?_eq_some_iff.1 hk).1
      have hak := hat k hk7
      subst e0 e1 e2 e3 e4 e5 e6
      rw [hak]
      match k, hk7, hk with
      | 0, _, hk => exact hk
      | 1, _, hk => exact hk
      | 2, _, hk => exact hk
      | 3, _, hk => exact hk
      | 4, _, hk => exact hk
      | 5, _, hk => exact hk
      | 6, _, hk => exact hk

set_option maxRecDepth 100000 in
/-- The steps that came in. -/
theorem open_steps {W : World} {base b0 : Nat} {r : Reach} {spare : Nat → Bool} {held : Bool} {v : Value} {d : DataW H} {p : List MemPlace} (hv : Value.okWide Try.prog W r b0 41 v) (h : DataW.Trod enc Try.prog W base spare held 41 v d p) : ∃ ss : List SM, RowS W v ss ∧ TextsS W Any ss ∧ ss.length ≤ maxLen := by
  obtain ⟨fuel, hf⟩ := h
  obtain ⟨q, len, cap, rfl⟩ := okWide_slice Try.underlying41 hv
  rcases open_slice Try.underlying41 hf with ⟨h0, _⟩ | ⟨a, len', cap', m, n, D, Pl, hcs, hb, hl, hm, hmm, hx, hi⟩
  · simp [Value.cells] at h0
    obtain ⟨rfl, rfl, rfl⟩ := h0
    exact ⟨[], .inl ⟨rfl, none, 0, rfl⟩, fun r hr => by simp at hr, Nat.zero_le _⟩
  · simp [Value.cells] at hcs
    obtain ⟨rfl, rfl, rfl⟩ := hcs
    rw [cStep] at hi
    have hle : len ≤ m := by rw [hmm]; split <;> omega
    have hex : ∀ i, ∃ s : SM, i < len → (MxAt W Any s.2 s.1.x.mx ∧ ∀ k u, (scells s)[k]? = some u → W.cell? ((a.add (i * 7)).add k) = some u) := by
      intro i
      by_cases hil : i < len
      · obtain ⟨cs', hc, ht⟩ := hi i (by omega)
        obtain ⟨s, hs⟩ := open_step hc ht
        exact ⟨s, fun _ => hs⟩
      · exact ⟨(⟨0, default⟩, (none, 0, 0)), fun h => absurd h hil⟩
    obtain ⟨f, hf'⟩ := Classical.axiomOfChoice hex
    have hlen : ((List.range len).map f).length = len := by simp
    refine ⟨(List.range len).map f, ?_, fun s hs => ?_, by rw [hlen]; omega⟩
    · by_cases h0 : len = 0
      · subst h0
        exact .inl ⟨rfl, some a, cap, rfl⟩
      · have hc0 := (hf' 0 (by omega)).2 0 _ rfl
        obtain ⟨b, o, sp⟩ := a
        have hsp : sp = none := by
          have := World.cell?_spot hc0
          simpa [Addr.add] using this
        subst hsp
        refine .inr ⟨fun e => h0 (by have := congrArg List.length e; simpa using this), b, o, cap, by rw [hlen], fun i hil k u hk => ?_⟩
        have hil' : i < len := by simpa using hil
        simp only [List.getElem_map, List.getElem_range] at hk
        have := (hf' i hil').2 k u hk
        rwa [addrk, addrk] at this
    · obtain ⟨i, hi', rfl⟩ := List.mem_map.1 hs
      exact (hf' i (List.mem_range.1 hi')).1
end rows
end Go.Proofs.Ytojhledbfaninaa

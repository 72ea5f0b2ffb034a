/- What a law's row gives its walk: the variables, the results that came in; and the wrap for rows with a laid variable whose contract reads the world's shape. -/
import Derived.Test.YthhcigmdocldnaaDoorRows
import Derived.Test.YthhcigmdocldnaaDoorLawD
import Derived.ProofKit
import Derived.LaidMore
import Derived.OpenShut
import Derived.Stop.Joined
import Derived.HandedShaped
import Derived.Shelf.Vars
import Derived.Deep.Slices
import Derived.Deep.Fields
namespace Go.Proofs.YthhcigmdocldnaaDoor
open Go Go.ChangeShapes Go.WideShapes Go.ChangeAt Go.RowKit Go.Deep

theorem ownKnob_none : ownKnob Tryd.prog.godebug = none := by kernel_rfl
theorem lays : laidOutB Tryd.prog = true := by kernel_rfl

section wrap
variable {H : Type} {enc : TypeId × Value → H}
/-- The wrap with a condition on the memory and the world's shape. -/
theorem lift_shaped {C : Checked} {os : Os} {f : FuncId} {fn : Func} {s : ChangeSpec} {conds : List PathCond} {apart fresh handsOn again : Bool} {X : World → Array Value → Prop}
    (hX : ∀ (w w' : World) (args : Array Value), w.heap = w'.heap → X w args → X w' args)
    (own : ownKnob C.prog.godebug = none) (started : os.Started) (noInit : C.prog.inits.idxOf? f = none) (hfn : C.prog.funcs[f]? = some fn)
    (witness : ∃ (w : World) (tape : Tape) (i : Input), w.os = os ∧ (w.forCall tape i).Shaped C.prog ∧ i.vars = [] ∧ Input.okWide C.prog (w.forCall tape i) .any w.heap.size f i ∧
      ((s.pre enc C.prog fn conds apart (w.forCall tape i).memory i.args ∧ X (w.forCall tape i).memory i.args) ∧ sizedMet enc C.prog fn (OpenSpec.ofChange s) apart (w.forCall tape i).memory i.args) ∧ ({} : Assume).holds C.prog (lone (Frame.enter C.prog f i.args .normal) [] (w.forCall tape i)))
    (contract : ∀ (W : World) (base : Nat) (args : Array Value) (ds gs : List (DataW H)) (before : List MemPlace),
      (∀ (j : Nat) t v, fn.params[j]? = some t → args[j]? = some v → Value.okWide C.prog W .any base t v) →
      DataW.Whole enc C.prog fn.params.toList s.vars apart W args.toList ds gs before → X W args → W.ShapedOpen C.prog →
      Calls C.prog f args W fun e W' => ∃ v, e = .returned v ∧ s.post enc C.prog fn apart fresh handsOn again W args v W') :
    ReturnsInHanded {} C os f .any (fun w args => (s.pre enc C.prog fn conds apart w args ∧ X w args) ∧ sizedMet enc C.prog fn (OpenSpec.ofChange s) apart w args) (s.post enc C.prog fn apart fresh handsOn again) := by
  refine returnsInHanded_of_calls own started noInit witness ?_
  intro w tape i _ hsh _ hok hpre _
  obtain ⟨_, _, _, fn', hfn', _, _, _, _, hval⟩ := hok
  have e : fn' = fn := Option.some.inj (hfn'.symm.trans hfn)
  subst e
  obtain ⟨⟨⟨ds, gs, before, hw, _⟩, hx⟩, _⟩ := hpre
  have hw' := DataW.Whole.of_heap (w' := w.forCall tape i) (by rfl) hw
  refine (contract (w.forCall tape i) w.heap.size i.args ds gs before hval hw' (hX _ _ _ (by rfl) hx) hsh).mono fun e W' ⟨v, he, hp⟩ => ?_
  subst he
  exact ChangeSpec.post_blind hp
end wrap

def laidMay : List (String × DataW Unit) := [("mailroom/tally.may", Rows.laid_mailroom_tally_may)]
theorem gMay : Tryd.prog.globalNamed "mailroom/tally.may" = some 0 := by kernel_rfl
theorem tMay : (Tryd.prog.globals[0]?).map (·.type) = some 91 := by kernel_rfl
theorem c16 : Tryd.prog.cellsOf 90 = 1 := by kernel_rfl
theorem c16x4 : Tryd.prog.cellsOf 91 = 4 := by kernel_rfl

/-- The door's own heap meets the condition. -/
theorem door_met (os : Os) (args : Array Value) : laidMetH Tryd.prog laidMay ((World.doorLaid Tryd.prog 400 os).forCall (fun _ _ => 0) ⟨#[], args, []⟩).memory :=
  laidMetH_of_parts3 (fuel := 8) (laidMet_of_run' 8 (by kernel_rfl) (by kernel_rfl)) (by kernel_rfl) (by kernel_rfl)

set_option maxRecDepth 100000 in
/-- What the condition gives the walks. -/
theorem mayT_of_laid {W : World} (h : laidMetH Tryd.prog laidMay W) : MayT W := by
  rw [MakeChecks.laidMetH_plain _ _ _ (by kernel_rfl)] at h
  obtain ⟨ps, ⟨g0, t0, cs0, f0, p0, q0, hg0, ht0, hv0, hd0, _, _⟩, _, _⟩ := h
  obtain rfl := Option.some.inj (gMay.symm.trans hg0)
  obtain rfl := Option.some.inj (tMay.symm.trans ht0)
  obtain ⟨xs, m1, rfl, hx1, hlen, hn3, hel⟩ := DataW.trod_array Tryd.underlying91 hd0
  rw [c16x4] at hlen
  simp only [Prod.mk.injEq, Rows.laid_mailroom_tally_may, DataW.agg.injEq] at hx1
  have hcell : ∀ j, W.cell? ⟨0, j, none⟩ = cs0[j]? := World.var?_cell hg0 hv0
  intro i hi
  have h0 := hel i hi
  rw [c16] at h0
  have hil : i < xs.length := by omega
  rw [List.getElem?_eq_getElem hil] at h0
  obtain ⟨k, e1, e2, _⟩ := DataW.trod_int Tryd.underlying90 h0
  have hk : (xs.map (·.1))[i]? = some (.lit (.int .u16 k)) := by
    rw [List.getElem?_map, List.getElem?_eq_getElem hil, Option.map_some, e2]
  rw [← hx1.1] at hk
  rw [hcell i]
  have hic : i * 1 < cs0.toList.length := by omega
  have e3 : (cs0.toList.drop (i * 1)).take 1 = [cs0.toList[i * 1]] := by
    rw [List.drop_eq_getElem_cons hic]; rfl
  rw [e3] at e1
  injection e1 with e1 _
  have e4 : cs0[i]? = some (.int .u16 k) := by
    rw [← Array.getElem?_toList, List.getElem?_eq_getElem (by omega), ← e1]
    simp
  rw [e4]
  match i, hi, hk with
  | 0, _, hk => cases hk; rfl
  | 1, _, hk => cases hk; rfl
  | 2, _, hk => cases hk; rfl
  | 3, _, hk => cases hk; rfl
set_option maxRecDepth 100000 in
theorem glob_of_shaped {W : World} (h : W.ShapedOpen Tryd.prog) : Glob W :=
  Go.Proofs.cell_of_shapedOpen_int (zero := #[.int .i64 0]) (t := 3) h (of_decide_eq_true (by kernel_rfl)) (by kernel_rfl) rfl (by kernel_rfl) (by kernel_rfl) Tryd.underlying3

section results
variable {H : Type} {enc : TypeId × Value → H}
theorem resultFields : ∃ f0 f1 f2, Tryd.prog.underlying 34 = some (.struct #[f0, f1, f2]) ∧ f0.type = 9 ∧ f1.type = 5 ∧ f2.type = 5 ∧ f0.offset = 0 ∧ f1.offset = 1 ∧ f2.offset = 2 := by
  have h : ((Tryd.prog.fieldsOf 34).toList.map fun f => (f.type, f.offset)) = [(9, 0), (5, 1), (5, 2)] := by kernel_rfl
  have h2 : Tryd.prog.underlying 34 = some (.struct (Tryd.prog.fieldsOf 34)) := by kernel_rfl
  rw [h2]
  obtain ⟨fs, hfs⟩ : ∃ fs, fs = Tryd.prog.fieldsOf 34 := ⟨_, rfl⟩
  rw [← hfs] at h ⊢
  clear h2 hfs
  obtain ⟨fs⟩ := fs
  rcases fs with _ | ⟨f0, _ | ⟨f1, _ | ⟨f2, _ | ⟨f3, fs⟩⟩⟩⟩ <;> simp at h
  exact ⟨f0, f1, f2, rfl, h.1.1, h.2.1.1, h.2.2.1, h.1.2, h.2.1.2, h.2.2.2⟩
theorem cR : Tryd.prog.cellsOf 34 = 3 := by kernel_rfl
theorem cS : Tryd.prog.cellsOf 9 = 1 := by kernel_rfl
theorem c8 : Tryd.prog.cellsOf 5 = 1 := by kernel_rfl

set_option maxRecDepth 100000 in
/-- One result that came in. -/
theorem open_result {W : World} {base : Nat} {spare : Nat → Bool} {held : Bool} {n : Nat} {a : Addr} {cs : List Value} {x : DataW H × List MemPlace} (hc : W.cells? base a 3 = some cs) (ht : DataW.trod enc Tryd.prog W base spare held n 34 cs = some x) :
    ∃ r : Res, (r.1.1.length ≤ maxLen ∧ r.1.2 < 256 ∧ r.2 < 256) ∧ W.cell? a = some (.string ⟨r.1.1.toArray⟩) ∧ W.cell? (a.add 1) = some (.int .u8 (r.1.2 : Int)) ∧ W.cell? (a.add 2) = some (.int .u8 (r.2 : Int)) := by
  obtain ⟨f0, f1, f2, hu, t0, t1, t2, o0, o1, o2⟩ := resultFields
  obtain ⟨ys, n', _, _, hlen, hyl, hf⟩ := DataW.trod_struct hu ht
  obtain ⟨_, hcl, hat⟩ := World.cells?_some hc
  have g0 := hf 0 f0 rfl
  have g1 := hf 1 f1 rfl
  have g2 := hf 2 f2 rfl
  rw [t0, o0, cS] at g0
  rw [t1, o1, c8] at g1
  rw [t2, o2, c8] at g2
  match cs, hcl with
  | [x0, x1, x2], _ =>
    match ys, hyl with
    | [y0, y1, y2], _ =>
      obtain ⟨s, e0, _, hs⟩ := DataW.trod_string Tryd.underlying9 (show DataW.trod enc Tryd.prog W base spare held n' 9 [x0] = some y0 from g0)
      obtain ⟨k1, e1, _, w1⟩ := DataW.trod_int Tryd.underlying5 (show DataW.trod enc Tryd.prog W base spare held n' 5 [x1] = some y1 from g1)
      obtain ⟨k2, e2, _, w2⟩ := DataW.trod_int Tryd.underlying5 (show DataW.trod enc Tryd.prog W base spare held n' 5 [x2] = some y2 from g2)
      injection e0 with e0 _
      injection e1 with e1 _
      injection e2 with e2 _
      have b1 := bounds_u8 w1
      have b2 := bounds_u8 w2
      obtain ⟨m1, rfl⟩ := Int.eq_ofNat_of_zero_le b1.1
      obtain ⟨m2, rfl⟩ := Int.eq_ofNat_of_zero_le b2.1
      have h0 := hat 0 (by omega)
      have h1 := hat 1 (by omega)
      have h2 := hat 2 (by omega)
      refine ⟨((s.data.toList, m1), m2), ⟨hs, by dsimp only; omega, by dsimp only; omega⟩, ?_, ?_, ?_⟩
      · exact h0.trans (by rw [e0]; rfl)
      · exact h1.trans (by rw [e1]; rfl)
      · exact h2.trans (by rw [e2]; rfl)

set_option maxRecDepth 100000 in
/-- The results that came in. -/
theorem open_results {W : World} {base b0 : Nat} {r : Reach} {spare : Nat → Bool} {held : Bool} {v : Value} {d : DataW H} {p : List MemPlace} (hv : Value.okWide Tryd.prog W r b0 22 v) (h : DataW.Trod enc Tryd.prog W base spare held 22 v d p) : ∃ rs : List Res, ArgR W v rs := by
  obtain ⟨fuel, hf⟩ := h
  obtain ⟨q, len, cap, rfl⟩ := okWide_slice Tryd.underlying22 hv
  rcases open_slice Tryd.underlying22 hf with ⟨h0, _⟩ | ⟨a, len', cap', m, n, D, Pl, hcs, hb, hl, hm, hmm, hx, hi⟩
  · simp [Value.cells] at h0
    obtain ⟨rfl, rfl, rfl⟩ := h0
    exact ⟨[], .inl ⟨rfl, rfl⟩, fun r hr => by simp at hr⟩
  · simp [Value.cells] at hcs
    obtain ⟨rfl, rfl, rfl⟩ := hcs
    rw [cR] at hi
    have hle : len ≤ m := by rw [hmm]; split <;> omega
    have hex : ∀ i, ∃ r : Res, i < len → ((r.1.1.length ≤ maxLen ∧ r.1.2 < 256 ∧ r.2 < 256) ∧ W.cell? (a.add (i * 3)) = some (.string ⟨r.1.1.toArray⟩) ∧ W.cell? ((a.add (i * 3)).add 1) = some (.int .u8 (r.1.2 : Int)) ∧ W.cell? ((a.add (i * 3)).add 2) = some (.int .u8 (r.2 : Int))) := by
      intro i
      by_cases hil : i < len
      · obtain ⟨cs', hc, ht⟩ := hi i (by omega)
        obtain ⟨r, hr⟩ := open_result hc ht
        exact ⟨r, fun _ => hr⟩
      · exact ⟨(([], 0), 0), fun h => absurd h hil⟩
    obtain ⟨f, hf'⟩ := Classical.axiomOfChoice hex
    have hlen : ((List.range len).map f).length = len := by simp
    refine ⟨(List.range len).map f, .inr ⟨a, cap, by rw [hlen], by rw [hlen]; exact hl, fun i hil => ?_⟩, fun r hr => ?_⟩
    · have hil' : i < len := by simpa using hil
      have := hf' i hil'
      simp only [List.getElem_map, List.getElem_range]
      rw [← Deep.add_add, ← Deep.add_add]
      exact this.2
    · obtain ⟨i, hi', rfl⟩ := List.mem_map.1 hr
      exact (hf' i (List.mem_range.1 hi')).1
end results
end Go.Proofs.YthhcigmdocldnaaDoor

/- A closed law: the door, and the laid variables there. -/
import Derived.Test.YtohikcchbjchkaaGreatDoorRows
import Derived.Test.YtohikcchbjchkaaGreatDoorShelf
import Derived.Below
import Derived.ProofKit
import Derived.OpenShut
import Derived.Stop.Joined
import Derived.HandedShaped
import Derived.LaidMore
import Derived.Shelf.Vars
import Derived.Deep.Slices
import Derived.Deep.Fields
import Derived.LaidHandle
import Derived.LaidSub
import Derived.Lay
namespace Go.Proofs.YtohikcchbjchkaaGreatDoor
open Go Go.ChangeShapes Go.WideShapes Go.ChangeAt Go.RowKit Go.Deep

theorem ownKnob_none : ownKnob Tryz.prog.godebug = none := by kernel_rfl
/-- Some number, however great, is the variable's. -/
def Glob (w : World) : Prop := ∃ m : Int, w.cell? ⟨1, 0, none⟩ = some (.int .i64 m)
theorem cell_lt {w : World} {a : Addr} {v : Value} (h : w.cell? a = some v) : a.block < w.heap.size := by
  unfold World.cell? at h
  cases hb : w.heap[a.block]? with
  | none => rw [hb] at h; cases h
  | some o => exact (Array.getElem?_eq_some_iff.1 hb).1
section wrap
variable {H : Type} {enc : TypeId × Value → H}
/-- The wrap with a condition on the memory and the world's shape. -/
theorem lift_shaped {C : Checked} {os : Os} {f : FuncId} {fn : Func} {s : ChangeSpec} {conds : List PathCond} {apart fresh handsOn again : Bool} {X : World → Array Value → Prop}
    (hX : ∀ (w w' : World) (args : Array Value), w.heap = w'.heap → X w args → X w' args)
    (own : ownKnob C.prog.godebug = none) (started : os.Started) (noInit : C.prog.inits.idxOf? f = none) (hfn : C.prog.funcs[f]? = some fn)
    (witness : ∃ (w : World) (tape : Tape) (i : Input), w.os = os ∧ (w.forCall tape i).Shaped C.prog ∧ i.vars = [] ∧ Input.okWide C.prog (w.forCall tape i) .any w.heap.size f i ∧
      ((s.pre enc C.prog fn conds apart (w.forCall tape i).memory i.args ∧ X (w.forCall tape i).memory i.args) ∧ sizedMet enc C.prog fn (OpenSpec.ofChange s) apart (w.forCall tape i).memory i.args) ∧ ({} : Assume).holds C.prog (lone (Frame.enter C.prog f i.args .normal) [] (w.forCall tape i)))
    (contract : ∀ (W : World) (base : Nat) (args : Array Value) (ds gs : List (DataW H)) (before : List MemPlace),
      (∀ (j : Nat) t v, fn.params[j]? = some t → args[j]? = some v → Value.okWide C.prog W .any base t v) →
      DataW.Whole enc C.prog fn.params.toList s.vars apart W args.toList ds gs before → X W args → W.ShapedOpen C.prog →
      Calls C.prog f args W fun e W' => ∃ v, e = .returned v ∧ s.post enc C.prog fn apart fresh handsOn again W args v W') :
    ReturnsInHanded {} C os f .any (fun w args => (s.pre enc C.prog fn conds apart w args ∧ X w args) ∧ sizedMet enc C.prog fn (OpenSpec.ofChange s) apart w args) (s.post enc C.prog fn apart fresh handsOn again) := by
  refine returnsInHanded_of_calls own started noInit witness ?_
  intro w tape i _ hsh _ hok hpre _
  obtain ⟨_, _, _, fn', hfn', _, _, _, _, hval⟩ := hok
  have e : fn' = fn := Option.some.inj (hfn'.symm.trans hfn)
  subst e
  obtain ⟨⟨⟨ds, gs, before, hw, _⟩, hx⟩, _⟩ := hpre
  have hw' := DataW.Whole.of_heap (w' := w.forCall tape i) (by rfl) hw
  refine (contract (w.forCall tape i) w.heap.size i.args ds gs before hval hw' (hX _ _ _ (by rfl) hx) hsh).mono fun e W' ⟨v, he, hp⟩ => ?_
  subst he
  exact ChangeSpec.post_blind hp
end wrap

def laid8 : List (String × DataW Unit) := [("math/bits.deBruijn32tab", Rows.laid_math_bits_deBruijn32tab), ("math/bits.deBruijn64tab", Rows.laid_math_bits_deBruijn64tab), ("internal/strconv.uint64pow10", Rows.laid_internal_strconv_uint64pow10), ("unicode/utf8.acceptRanges", Rows.laid_unicode_utf8_acceptRanges), ("strconv.ErrRange", Rows.laid_strconv_ErrRange), ("strconv.ErrSyntax", Rows.laid_strconv_ErrSyntax), ("mailroom/addr.kinds", Rows.laid_mailroom_addr_kinds), ("unicode/utf8.first", Rows.laid_unicode_utf8_first)]
/-- A world with the table of functions. -/
noncomputable def kindsW (os : Os) : World := ((World.holding Tryz.prog os ⟨#[], #[], []⟩).setCell ⟨0, 0, none⟩ (.func (.func 235) #[] #[])).setCell ⟨0, 1, none⟩ (.func (.func 236) #[] #[])
def plainL (l : List (String × DataW Unit)) : List (String × DataW Unit) := l.filter fun x => x.2.handleName?.isNone
/-- .. and with the others of a list. -/
noncomputable def doorW (os : Os) (l : List (String × DataW Unit)) : World := (kindsW os).layVars Tryz.prog (plainL l)
theorem doorW_os (os : Os) (l : List (String × DataW Unit)) : (doorW os l).os = os := World.layVars_os _ _ _
theorem doorW_met (os : Os) (l : List (String × DataW Unit)) (args : Array Value) (hf : (kindsW os).layFits Tryz.prog (plainL l) [] = true)
    (hi : (kindsW os).layIfaces Tryz.prog (plainL l) (doorW os l) = true) : laidMet Tryz.prog (plainL l) ((doorW os l).forCall (fun _ _ => 0) ⟨#[], args, []⟩).memory := by
  have e1 : ((plainL l).filter fun x => ((plainL l).map (·.1)).contains x.1) = plainL l := List.filter_eq_self.2 fun x hx => List.contains_iff_mem.2 (List.mem_map.2 ⟨x, hx, rfl⟩)
  have e2 : ((plainL l).filter fun x => !((plainL l).map (·.1)).contains x.1) = [] := List.filter_eq_nil_iff.2 fun x hx => by rw [List.contains_iff_mem.2 (List.mem_map.2 ⟨x, hx, rfl⟩)]; simp
  have h : laidMet Tryz.prog (plainL l) (doorW os l) := laidMet_layVars (w0 := kindsW os) ((plainL l).map (·.1)) [] (by rw [e1]; rfl) (by rw [e1]; exact hf) (by rw [e1]; exact hi) (by rw [e2]; exact LaidIn.none)
  exact h.of_heap (by simp [World.memory, World.forCall, Input.heap])
set_option maxRecDepth 100000 in
theorem door8 (os : Os) (args : Array Value) : laidMetH Tryz.prog laid8 ((doorW os laid8).forCall (fun _ _ => 0) ⟨#[], args, []⟩).memory :=
  laidMetH_of_parts3 (fuel := 8) (doorW_met os laid8 args (by kernel_rfl) (by kernel_rfl)) (by kernel_rfl) (by kernel_rfl)
theorem gKinds : Tryz.prog.globalNamed "mailroom/addr.kinds" = some 0 := by kernel_rfl
theorem gPow : Tryz.prog.globalNamed "internal/strconv.uint64pow10" = some 4 := by kernel_rfl
theorem tKinds : (Tryz.prog.globals[0]?).map (·.type) = some 154 := by kernel_rfl
theorem tPow : (Tryz.prog.globals[4]?).map (·.type) = some 234 := by kernel_rfl
theorem kFn : Tryz.prog.cellsOf 79 = 1 := by kernel_rfl
theorem kFn2 : Tryz.prog.cellsOf 154 = 2 := by kernel_rfl
theorem kU64 : Tryz.prog.cellsOf 190 = 1 := by kernel_rfl
theorem kPow : Tryz.prog.cellsOf 234 = 20 := by kernel_rfl
theorem powData : (Rows.laid_internal_strconv_uint64pow10 : DataW Unit) = Lib.tabData .u64 Lib.pow10Tab := by kernel_rfl
set_option maxRecDepth 100000 in
theorem glob_of_shaped {W : World} (h : W.ShapedOpen Tryz.prog) : Glob W :=
  Go.Proofs.cell_of_shapedOpen_int (zero := #[.int .i64 0]) (t := 3) h (of_decide_eq_true (by kernel_rfl)) (by kernel_rfl) rfl (by kernel_rfl) (by kernel_rfl) Tryz.underlying3

/-- A variable's block. -/
theorem shape_block {P : Program} {W : World} (h : W.ShapedOpen P) {g n : Nat} {t : TypeId} (hg : g < P.globals.size) (hz : (((begin P (fun _ _ => 0) default).world.heap[g]?).bind Obj.row?).map (fun q => (q.1.size, q.2)) = some (n, t)) :
    ∃ cs, W.heap[g]? = some (.cells cs t) ∧ cs.size = n := by
  cases e : ((begin P (fun _ _ => 0) default).world.heap[g]?).bind Obj.row? with
  | none => rw [e] at hz; cases hz
  | some q =>
    rw [e] at hz
    obtain ⟨zero, t'⟩ := q
    cases hz
    obtain ⟨cs, h1, h2, _⟩ := h.1 g zero t' hg e
    exact ⟨cs, h1, h2⟩
theorem shape_size {P : Program} {W : World} (h : W.ShapedOpen P) (hn : P.globals.size = (P.globals.size - 1) + 1) (hz : (((begin P (fun _ _ => 0) default).world.heap[P.globals.size - 1]?).bind Obj.row?).isSome = true) : P.globals.size ≤ W.heap.size := by
  obtain ⟨q, e⟩ := Option.isSome_iff_exists.1 hz
  obtain ⟨zero, t'⟩ := q
  obtain ⟨cs, h1, _⟩ := h.1 _ zero t' (by omega) e
  have := (Array.getElem?_eq_some_iff.1 h1).1
  omega
theorem cell_block {W : World} {g o : Nat} {cs : Array Value} {t : TypeId} (h : W.heap[g]? = some (.cells cs t)) : W.cell? ⟨g, o, none⟩ = cs[o]? := by
  unfold World.cell?
  rw [h]; rfl
/-- What the walk of a closed law wants of the memory at the door. -/
structure Door (w : World) : Prop where
  glob : Glob w
  kinds : w.heap[0]? = some (.cells #[.func (.func 235) #[] #[], .func (.func 236) #[] #[]] 154)
  pow : w.heap[4]? = some (.cells (Lib.pow10Tab.map fun z => Value.int .u64 z).toArray 234)
  size : Tryz.prog.globals.size ≤ w.heap.size
set_option maxRecDepth 100000 in
theorem kinds_of_laid {W : World} (h : laidMetH Tryz.prog laid8 W) (hk : ("mailroom/addr.kinds", (Rows.laid_mailroom_addr_kinds : DataW Unit)) ∈ laid8) : W.cell? ⟨0, 0, none⟩ = some (.func (.func 235) #[] #[]) ∧ W.cell? ⟨0, 1, none⟩ = some (.func (.func 236) #[] #[]) := by
  obtain ⟨g, t, cs, fuel, p, hg, ht, hv, hd⟩ := h.funcs hk
  obtain rfl := Option.some.inj (gKinds.symm.trans hg)
  obtain rfl := Option.some.inj (tKinds.symm.trans ht)
  obtain ⟨xs, m, _, ex, hlen, hl, hel⟩ := DataW.trod_array Tryz.underlying154 hd
  rw [kFn2] at hlen
  have hE0 := hel 0 (by decide)
  have hE1 := hel 1 (by decide)
  rw [kFn] at hE0 hE1
  have hex := (Prod.mk.inj ex).1
  have hcell := World.var?_cell hg hv
  obtain ⟨cs⟩ := cs
  match xs, hl with
  | [x0, x1], _ =>
    match cs, hlen with
    | [v0, v1], _ =>
      have h2 := DataW.agg.inj hex
      simp only [List.map_cons, List.map_nil] at h2
      obtain ⟨y0, q0⟩ := x0
      obtain ⟨y1, q1⟩ := x1
      injection h2 with h20 h2
      injection h2 with h21 _
      have e0 := func_of_trod (f0 := 235) Tryz.underlying79 (by kernel_rfl) (hE0.trans (congrArg (fun y => some (y, q0)) h20.symm))
      have e1 := func_of_trod (f0 := 236) Tryz.underlying79 (by kernel_rfl) (hE1.trans (congrArg (fun y => some (y, q1)) h21.symm))
      subst e0 e1
      exact ⟨hcell 0, hcell 1⟩
set_option maxRecDepth 100000 in
theorem door_of_laid {W : World} (h : laidMetH Tryz.prog laid8 W) (hsh : W.ShapedOpen Tryz.prog) : Door W := by
  obtain ⟨cs, h1, h2⟩ := shape_block (n := 2) (t := 154) hsh (g := 0) (of_decide_eq_true (by kernel_rfl)) (by kernel_rfl)
  obtain ⟨ds, h3, h4⟩ := shape_block (n := 20) (t := 234) hsh (g := 4) (of_decide_eq_true (by kernel_rfl)) (by kernel_rfl)
  obtain ⟨k0, k1⟩ := kinds_of_laid h (by simp [laid8])
  rw [cell_block h1] at k0 k1
  have ek : cs = #[.func (.func 235) #[] #[], .func (.func 236) #[] #[]] := by
    apply Array.ext_getElem?
    intro i
    match i with
    | 0 => exact k0
    | 1 => exact k1
    | i + 2 => rw [Array.getElem?_eq_none (by omega), Array.getElem?_eq_none (by simp)]
  subst ek
  refine ⟨glob_of_shaped hsh, h1, ?_, ?_⟩
  · have hp := h.filter fun x => x.1 == "internal/strconv.uint64pow10"
    rw [show (laid8.filter fun x => x.1 == "internal/strconv.uint64pow10") = [("internal/strconv.uint64pow10", Rows.laid_internal_strconv_uint64pow10)] from by kernel_rfl, MakeChecks.laidMetH_plain _ _ _ (by kernel_rfl), powData] at hp
    have ht := Lib.tabIs_of_head gPow tPow Tryz.underlying234 Tryz.underlying190 kU64 kPow hp
    unfold Lib.TabIs World.var? at ht
    rw [gPow] at ht
    simp only [Option.bind_some, h3] at ht
    rw [h3, Option.some.inj ht]
  · exact shape_size hsh (by kernel_rfl) (by kernel_rfl)
end Go.Proofs.YtohikcchbjchkaaGreatDoor

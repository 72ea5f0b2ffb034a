/- What eight laid variables give the walks. -/
import Derived.Test.YtlpngibdplnieaaGreatDoorMd
import Derived.Test.YtlpngibdplnieaaGreatDoorMg
namespace Go.Proofs.YtlpngibdplnieaaGreatDoor
open Go Go.ChangeShapes Go.WideShapes Go.ChangeAt Go.RowKit Go.Deep

/-- A laid variable of an interface type: its cell holds an interface value. -/
theorem iface_of_head {P : Program} {W : World} {name : String} {d : DataW Unit} {rest : List (String × DataW Unit)} {g : Nat} {t : TypeId} {ms : Array (String × TypeId)}
    (hg : P.globalNamed name = some g) (hty : (P.globals[g]?).map (·.type) = some t) (ht : P.underlying t = some (.interface ms)) (h : laidMet P ((name, d) :: rest) W) :
    ∃ ev, W.cell? ⟨g, 0, none⟩ = some ev ∧ (ev = .nilIface ∨ ∃ te pe, ev = .iface te pe) := by
  obtain ⟨ps, ⟨g', t', cs, fuel, p, q, hg', ht', hvar, hd, _, _⟩, _⟩ := h
  obtain rfl := Option.some.inj (hg.symm.trans hg')
  obtain rfl := Option.some.inj (hty.symm.trans ht')
  have hc := World.var?_cell hg hvar 0
  obtain ⟨cs⟩ := cs
  cases fuel with
  | zero => simp [DataW.trod] at hd
  | succ n =>
    match cs, hd, hc with
    | [], hd, _ => simp [DataW.trod, ht] at hd
    | [v], hd, hc =>
      refine ⟨v, by simpa using hc, ?_⟩
      cases v <;> first | exact .inl rfl | exact .inr ⟨_, _, rfl⟩ | (simp [DataW.trod, ht] at hd)
    | v :: u :: l, hd, _ => simp [DataW.trod, ht] at hd
theorem gRng : Tryz.prog.globalNamed "strconv.ErrRange" = some 3 := by kernel_rfl
theorem tRng : (Tryz.prog.globals[3]?).map (·.type) = some 140 := by kernel_rfl
set_option maxRecDepth 100000 in
theorem env8_of_laid {W : World} (h : laidMetH Tryz.prog laid8 W) (hsh : W.ShapedOpen Tryz.prog) : Env8 W := by
  refine ⟨env_of_laid h hsh (by simp [laid8]) (by kernel_rfl), ?_⟩
  have h2 := h.filter fun x => x.1 == "strconv.ErrRange"
  rw [show (laid8.filter fun x => x.1 == "strconv.ErrRange") = [("strconv.ErrRange", Rows.laid_strconv_ErrRange)] from by kernel_rfl, MakeChecks.laidMetH_plain _ _ _ (by kernel_rfl)] at h2
  exact iface_of_head gRng tRng Tryz.underlying140 h2
set_option maxRecDepth 100000 in
theorem door8 (os : Os) (args : Array Value) : laidMetH Tryz.prog laid8 ((doorW os laid8).forCall (fun _ _ => 0) ⟨#[], args, []⟩).memory :=
  laidMetH_of_parts3 (fuel := 8) (doorW_met os laid8 args (by kernel_rfl) (by kernel_rfl)) (by kernel_rfl) (by kernel_rfl)
end Go.Proofs.YtlpngibdplnieaaGreatDoor

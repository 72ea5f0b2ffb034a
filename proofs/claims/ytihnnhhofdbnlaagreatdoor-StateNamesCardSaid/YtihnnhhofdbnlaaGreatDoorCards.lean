/-
  DERIVED. GIVEN WITH THE SEED: THE CARDS: each row of YtihnnhhofdbnlaaGreatDoorRows.lean that lists a variable, with what it lists TIED to the program's text (the seventh form; the later family's looks); each row that meets fmt, with fmt's text TOLD by the authors' own Lean function (tested against real Go, not proved from fmt's source: count such statements apart). THE CARD IS WHAT COUNTS. Prove the row's statement (the work); the ties are given (YtihnnhhofdbnlaaGreatDoorTie.lean); close each card by the builder's one call (the guide's Derived/Test/ToyasCard.lean, 'card_holds'). Laid BY PROGRAM, IN A SANDBOX (cutbox-door.mjs). By AI agents, Wed Nov 11 2026. No macro, syntax, notation, axiom, sorry.
-/
import Derived.Test.YtihnnhhofdbnlaaGreatDoorRows
import GoSem.ClaimSeven
namespace Go.Proofs.YtihnnhhofdbnlaaGreatDoor
namespace Rows

/-- THE TIED CARD OF 'mailroomlaw25.StateNames'. -/
def stateNamesCard : Claim7 := { stood := { row := stateNamesRow, standIns := [], harness := (true, "5722e8176503878981e91085c5564fae43419d5ec64c674b92ddddc861491cc5"), looks := true }, kinds := [], alts := [], laidByText := true, laidKinds := [.data, .data, .data, .data, .sentinel, .sentinel, .funcsDeep, .data, .funcs, .pinned], laidTests := true, laidLooks := .later }
def StateNamesCardSaid : Prop := Claim7.holds Tryz.pinned (.plain (OpenSpec.ofChange stateNamesSpec)) stateNamesCard

/-- THE SECOND FORM's CARD OF 'mailroomlaw25.StateNames'. -/
def stateNamesUptoCard : Claim7 := { stood := { row := stateNamesUptoRow, standIns := [], harness := (true, "5722e8176503878981e91085c5564fae43419d5ec64c674b92ddddc861491cc5"), looks := true }, kinds := [], alts := [], laidByText := true, laidKinds := [.data, .data, .data, .data, .sentinel, .sentinel, .funcsDeep, .data, .funcs, .pinned], laidTests := true, laidLooks := .later }
def StateNamesUptoCardSaid : Prop := Claim7.holds Tryz.pinned (.plain (OpenSpec.upto stateNamesSpec)) stateNamesUptoCard
end Rows
end Go.Proofs.YtihnnhhofdbnlaaGreatDoor

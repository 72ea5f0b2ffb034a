/-
  DERIVED. GIVEN WITH THE SEED: THE CARDS: each row of YtohikcchbjchkaaGreatDoorRows.lean that lists a variable, with what it lists TIED to the program's text (the seventh form; the later family's looks); each row that meets fmt, with fmt's text TOLD by the authors' own Lean function (tested against real Go, not proved from fmt's source: count such statements apart). THE CARD IS WHAT COUNTS. Prove the row's statement (the work); the ties are given (YtohikcchbjchkaaGreatDoorTie.lean); close each card by the builder's one call (the guide's Derived/Test/ToyasCard.lean, 'card_holds'). Laid BY PROGRAM, IN A SANDBOX (cutbox-door.mjs). By AI agents, Wed Nov 11 2026. No macro, syntax, notation, axiom, sorry.
-/
import Derived.Test.YtohikcchbjchkaaGreatDoorRows
import GoSem.ClaimSeven
namespace Go.Proofs.YtohikcchbjchkaaGreatDoor
namespace Rows

/-- THE TIED CARD OF 'mailroomlaw22.NoticeNames'. -/
def noticeNamesCard : Claim7 := { stood := { row := noticeNamesRow, standIns := [], harness := (true, "f270c85eea1e017a5689091f3391d9886a3fba163b97d997791933b2920f35da"), looks := true }, kinds := [], alts := [], laidByText := true, laidKinds := [.data, .data, .data, .data, .sentinel, .sentinel, .funcsDeep, .pinned], laidTests := true, laidLooks := .later }
def NoticeNamesCardSaid : Prop := Claim7.holds Tryz.pinned (.plain (OpenSpec.ofChange noticeNamesSpec)) noticeNamesCard

/-- THE SECOND FORM's CARD OF 'mailroomlaw22.NoticeNames'. -/
def noticeNamesUptoCard : Claim7 := { stood := { row := noticeNamesUptoRow, standIns := [], harness := (true, "f270c85eea1e017a5689091f3391d9886a3fba163b97d997791933b2920f35da"), looks := true }, kinds := [], alts := [], laidByText := true, laidKinds := [.data, .data, .data, .data, .sentinel, .sentinel, .funcsDeep, .pinned], laidTests := true, laidLooks := .later }
def NoticeNamesUptoCardSaid : Prop := Claim7.holds Tryz.pinned (.plain (OpenSpec.upto noticeNamesSpec)) noticeNamesUptoCard
end Rows
end Go.Proofs.YtohikcchbjchkaaGreatDoor

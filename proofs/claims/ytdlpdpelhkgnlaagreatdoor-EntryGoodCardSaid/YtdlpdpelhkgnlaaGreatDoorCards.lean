/-
  DERIVED. GIVEN WITH THE SEED: THE CARDS: each row of YtdlpdpelhkgnlaaGreatDoorRows.lean that lists a variable, with what it lists TIED to the program's text (the seventh form; the later family's looks); each row that meets fmt, with fmt's text TOLD by the authors' own Lean function (tested against real Go, not proved from fmt's source: count such statements apart). THE CARD IS WHAT COUNTS. Prove the row's statement (the work); the ties are given (YtdlpdpelhkgnlaaGreatDoorTie.lean); close each card by the builder's one call (the guide's Derived/Test/ToyasCard.lean, 'card_holds'). Laid BY PROGRAM, IN A SANDBOX (cutbox-door.mjs). By AI agents, Wed Nov 11 2026. No macro, syntax, notation, axiom, sorry.
-/
import Derived.Test.YtdlpdpelhkgnlaaGreatDoorRows
import GoSem.ClaimSeven
namespace Go.Proofs.YtdlpdpelhkgnlaaGreatDoor
namespace Rows

/-- THE TIED CARD OF 'mailroomlaw20.EntryGood'. -/
def entryGoodCard : Claim7 := { stood := { row := entryGoodRow, standIns := [], harness := (true, "076526a22015966aae7be76a6944393b430b017f9f774ae950cb085284895831"), looks := true }, kinds := [], alts := [], laidByText := true, laidKinds := [.data, .data, .data, .data, .funcsDeep, .pinned], laidTests := true, laidLooks := .later }
def EntryGoodCardSaid : Prop := Claim7.holds Tryz.pinned (.plain (OpenSpec.ofChange entryGoodSpec)) entryGoodCard

/-- THE TIED CARD OF 'mailroomlaw20.EntryFirst'. -/
def entryFirstCard : Claim7 := { stood := { row := entryFirstRow, standIns := [], harness := (true, "076526a22015966aae7be76a6944393b430b017f9f774ae950cb085284895831"), looks := true }, kinds := [], alts := [], laidByText := true, laidKinds := [.data, .data, .data, .data, .funcsDeep, .pinned], laidTests := true, laidLooks := .later }
def EntryFirstCardSaid : Prop := Claim7.holds Tryz.pinned (.plain (OpenSpec.ofChange entryFirstSpec)) entryFirstCard

/-- THE TIED CARD OF 'mailroomlaw20.EntryMost'. -/
def entryMostCard : Claim7 := { stood := { row := entryMostRow, standIns := [], harness := (true, "076526a22015966aae7be76a6944393b430b017f9f774ae950cb085284895831"), looks := true }, kinds := [], alts := [], laidByText := true, laidKinds := [.data, .data, .data, .data, .funcsDeep, .pinned], laidTests := true, laidLooks := .later }
def EntryMostCardSaid : Prop := Claim7.holds Tryz.pinned (.plain (OpenSpec.ofChange entryMostSpec)) entryMostCard

/-- THE TIED CARD OF 'mailroomlaw20.EntryBack'. -/
def entryBackCard : Claim7 := { stood := { row := entryBackRow, standIns := [], harness := (true, "076526a22015966aae7be76a6944393b430b017f9f774ae950cb085284895831"), looks := true }, kinds := [], alts := [], laidByText := true, laidKinds := [.data, .data, .data, .data, .sentinel, .sentinel, .funcsDeep, .pinned], laidTests := true, laidLooks := .later }
def EntryBackCardSaid : Prop := Claim7.holds Tryz.pinned (.plain (OpenSpec.ofChange entryBackSpec)) entryBackCard

/-- THE TIED CARD OF 'mailroomlaw20.EntryNames'. -/
def entryNamesCard : Claim7 := { stood := { row := entryNamesRow, standIns := [], harness := (true, "076526a22015966aae7be76a6944393b430b017f9f774ae950cb085284895831"), looks := true }, kinds := [], alts := [], laidByText := true, laidKinds := [.data, .data, .data, .data, .sentinel, .sentinel, .funcsDeep, .pinned], laidTests := true, laidLooks := .later }
def EntryNamesCardSaid : Prop := Claim7.holds Tryz.pinned (.plain (OpenSpec.ofChange entryNamesSpec)) entryNamesCard

/-- THE SECOND FORM's CARD OF 'mailroomlaw20.EntryGood'. -/
def entryGoodUptoCard : Claim7 := { stood := { row := entryGoodUptoRow, standIns := [], harness := (true, "076526a22015966aae7be76a6944393b430b017f9f774ae950cb085284895831"), looks := true }, kinds := [], alts := [], laidByText := true, laidKinds := [.data, .data, .data, .data, .funcsDeep, .pinned], laidTests := true, laidLooks := .later }
def EntryGoodUptoCardSaid : Prop := Claim7.holds Tryz.pinned (.plain (OpenSpec.upto entryGoodSpec)) entryGoodUptoCard

/-- THE SECOND FORM's CARD OF 'mailroomlaw20.EntryFirst'. -/
def entryFirstUptoCard : Claim7 := { stood := { row := entryFirstUptoRow, standIns := [], harness := (true, "076526a22015966aae7be76a6944393b430b017f9f774ae950cb085284895831"), looks := true }, kinds := [], alts := [], laidByText := true, laidKinds := [.data, .data, .data, .data, .funcsDeep, .pinned], laidTests := true, laidLooks := .later }
def EntryFirstUptoCardSaid : Prop := Claim7.holds Tryz.pinned (.plain (OpenSpec.upto entryFirstSpec)) entryFirstUptoCard

/-- THE SECOND FORM's CARD OF 'mailroomlaw20.EntryMost'. -/
def entryMostUptoCard : Claim7 := { stood := { row := entryMostUptoRow, standIns := [], harness := (true, "076526a22015966aae7be76a6944393b430b017f9f774ae950cb085284895831"), looks := true }, kinds := [], alts := [], laidByText := true, laidKinds := [.data, .data, .data, .data, .funcsDeep, .pinned], laidTests := true, laidLooks := .later }
def EntryMostUptoCardSaid : Prop := Claim7.holds Tryz.pinned (.plain (OpenSpec.upto entryMostSpec)) entryMostUptoCard

/-- THE SECOND FORM's CARD OF 'mailroomlaw20.EntryBack'. -/
def entryBackUptoCard : Claim7 := { stood := { row := entryBackUptoRow, standIns := [], harness := (true, "076526a22015966aae7be76a6944393b430b017f9f774ae950cb085284895831"), looks := true }, kinds := [], alts := [], laidByText := true, laidKinds := [.data, .data, .data, .data, .sentinel, .sentinel, .funcsDeep, .pinned], laidTests := true, laidLooks := .later }
def EntryBackUptoCardSaid : Prop := Claim7.holds Tryz.pinned (.plain (OpenSpec.upto entryBackSpec)) entryBackUptoCard

/-- THE SECOND FORM's CARD OF 'mailroomlaw20.EntryNames'. -/
def entryNamesUptoCard : Claim7 := { stood := { row := entryNamesUptoRow, standIns := [], harness := (true, "076526a22015966aae7be76a6944393b430b017f9f774ae950cb085284895831"), looks := true }, kinds := [], alts := [], laidByText := true, laidKinds := [.data, .data, .data, .data, .sentinel, .sentinel, .funcsDeep, .pinned], laidTests := true, laidLooks := .later }
def EntryNamesUptoCardSaid : Prop := Claim7.holds Tryz.pinned (.plain (OpenSpec.upto entryNamesSpec)) entryNamesUptoCard
end Rows
end Go.Proofs.YtdlpdpelhkgnlaaGreatDoor

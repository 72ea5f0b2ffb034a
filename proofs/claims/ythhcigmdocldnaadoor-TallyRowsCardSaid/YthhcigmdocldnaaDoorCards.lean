/-
  DERIVED. GIVEN WITH THE SEED: THE CARDS: each row of YthhcigmdocldnaaDoorRows.lean that lists a variable, with what it lists TIED to the program's text (the seventh form; the later family's looks); each row that meets fmt, with fmt's text TOLD by the authors' own Lean function (tested against real Go, not proved from fmt's source: count such statements apart). THE CARD IS WHAT COUNTS. Prove the row's statement (the work); the ties are given (YthhcigmdocldnaaDoorTie.lean); close each card by the builder's one call (the guide's Derived/Test/ToyasCard.lean, 'card_holds'). Laid BY PROGRAM, IN A SANDBOX (cutbox-door.mjs). By AI agents, Wed Nov 11 2026. No macro, syntax, notation, axiom, sorry.
-/
import Derived.Test.YthhcigmdocldnaaDoorRows
import GoSem.ClaimSeven
namespace Go.Proofs.YthhcigmdocldnaaDoor
namespace Rows

/-- THE TIED CARD OF 'mailroomlaw19.TallySum'. -/
def tallySumCard : Claim7 := { stood := { row := tallySumRow, standIns := [], harness := (true, "fcf5091b7874e06b4b717c18d96d5ef73833ff86c8bfba5c0d926ef174e696d0"), looks := true }, kinds := [], alts := [], laidByText := true, laidKinds := [.data], laidTests := true, laidLooks := .later }
def TallySumCardSaid : Prop := Claim7.holds Tryd.pinned (.plain (OpenSpec.ofChange tallySumSpec)) tallySumCard

/-- THE TIED CARD OF 'mailroomlaw19.TallyOrder'. -/
def tallyOrderCard : Claim7 := { stood := { row := tallyOrderRow, standIns := [], harness := (true, "fcf5091b7874e06b4b717c18d96d5ef73833ff86c8bfba5c0d926ef174e696d0"), looks := true }, kinds := [], alts := [], laidByText := true, laidKinds := [.data], laidTests := true, laidLooks := .later }
def TallyOrderCardSaid : Prop := Claim7.holds Tryd.pinned (.plain (OpenSpec.ofChange tallyOrderSpec)) tallyOrderCard

/-- THE TIED CARD OF 'mailroomlaw19.TallyPlays'. -/
def tallyPlaysCard : Claim7 := { stood := { row := tallyPlaysRow, standIns := [], harness := (true, "fcf5091b7874e06b4b717c18d96d5ef73833ff86c8bfba5c0d926ef174e696d0"), looks := true }, kinds := [], alts := [], laidByText := true, laidKinds := [.data], laidTests := true, laidLooks := .later }
def TallyPlaysCardSaid : Prop := Claim7.holds Tryd.pinned (.plain (OpenSpec.ofChange tallyPlaysSpec)) tallyPlaysCard

/-- THE TIED CARD OF 'mailroomlaw19.TallyBack'. -/
def tallyBackCard : Claim7 := { stood := { row := tallyBackRow, standIns := [], harness := (true, "fcf5091b7874e06b4b717c18d96d5ef73833ff86c8bfba5c0d926ef174e696d0"), looks := true }, kinds := [], alts := [], laidByText := true, laidKinds := [.data], laidTests := true, laidLooks := .later }
def TallyBackCardSaid : Prop := Claim7.holds Tryd.pinned (.plain (OpenSpec.ofChange tallyBackSpec)) tallyBackCard

/-- THE TIED CARD OF 'mailroomlaw19.TallyNames'. -/
def tallyNamesCard : Claim7 := { stood := { row := tallyNamesRow, standIns := [], harness := (true, "fcf5091b7874e06b4b717c18d96d5ef73833ff86c8bfba5c0d926ef174e696d0"), looks := true }, kinds := [], alts := [], laidByText := true, laidKinds := [.data], laidTests := true, laidLooks := .later }
def TallyNamesCardSaid : Prop := Claim7.holds Tryd.pinned (.plain (OpenSpec.ofChange tallyNamesSpec)) tallyNamesCard

/-- THE TIED CARD OF 'mailroomlaw19.TallyRows'. -/
def tallyRowsCard : Claim7 := { stood := { row := tallyRowsRow, standIns := [], harness := (true, "fcf5091b7874e06b4b717c18d96d5ef73833ff86c8bfba5c0d926ef174e696d0"), looks := true }, kinds := [], alts := [], laidByText := true, laidKinds := [.data], laidTests := true, laidLooks := .later }
def TallyRowsCardSaid : Prop := Claim7.holds Tryd.pinned (.plain (OpenSpec.ofChange tallyRowsSpec)) tallyRowsCard

/-- THE SECOND FORM's CARD OF 'mailroomlaw19.TallySum'. -/
def tallySumUptoCard : Claim7 := { stood := { row := tallySumUptoRow, standIns := [], harness := (true, "fcf5091b7874e06b4b717c18d96d5ef73833ff86c8bfba5c0d926ef174e696d0"), looks := true }, kinds := [], alts := [], laidByText := true, laidKinds := [.data], laidTests := true, laidLooks := .later }
def TallySumUptoCardSaid : Prop := Claim7.holds Tryd.pinned (.plain (OpenSpec.upto tallySumSpec)) tallySumUptoCard

/-- THE SECOND FORM's CARD OF 'mailroomlaw19.TallyOrder'. -/
def tallyOrderUptoCard : Claim7 := { stood := { row := tallyOrderUptoRow, standIns := [], harness := (true, "fcf5091b7874e06b4b717c18d96d5ef73833ff86c8bfba5c0d926ef174e696d0"), looks := true }, kinds := [], alts := [], laidByText := true, laidKinds := [.data], laidTests := true, laidLooks := .later }
def TallyOrderUptoCardSaid : Prop := Claim7.holds Tryd.pinned (.plain (OpenSpec.upto tallyOrderSpec)) tallyOrderUptoCard

/-- THE SECOND FORM's CARD OF 'mailroomlaw19.TallyPlays'. -/
def tallyPlaysUptoCard : Claim7 := { stood := { row := tallyPlaysUptoRow, standIns := [], harness := (true, "fcf5091b7874e06b4b717c18d96d5ef73833ff86c8bfba5c0d926ef174e696d0"), looks := true }, kinds := [], alts := [], laidByText := true, laidKinds := [.data], laidTests := true, laidLooks := .later }
def TallyPlaysUptoCardSaid : Prop := Claim7.holds Tryd.pinned (.plain (OpenSpec.upto tallyPlaysSpec)) tallyPlaysUptoCard

/-- THE SECOND FORM's CARD OF 'mailroomlaw19.TallyBack'. -/
def tallyBackUptoCard : Claim7 := { stood := { row := tallyBackUptoRow, standIns := [], harness := (true, "fcf5091b7874e06b4b717c18d96d5ef73833ff86c8bfba5c0d926ef174e696d0"), looks := true }, kinds := [], alts := [], laidByText := true, laidKinds := [.data], laidTests := true, laidLooks := .later }
def TallyBackUptoCardSaid : Prop := Claim7.holds Tryd.pinned (.plain (OpenSpec.upto tallyBackSpec)) tallyBackUptoCard

/-- THE SECOND FORM's CARD OF 'mailroomlaw19.TallyNames'. -/
def tallyNamesUptoCard : Claim7 := { stood := { row := tallyNamesUptoRow, standIns := [], harness := (true, "fcf5091b7874e06b4b717c18d96d5ef73833ff86c8bfba5c0d926ef174e696d0"), looks := true }, kinds := [], alts := [], laidByText := true, laidKinds := [.data], laidTests := true, laidLooks := .later }
def TallyNamesUptoCardSaid : Prop := Claim7.holds Tryd.pinned (.plain (OpenSpec.upto tallyNamesSpec)) tallyNamesUptoCard

/-- THE SECOND FORM's CARD OF 'mailroomlaw19.TallyRows'. -/
def tallyRowsUptoCard : Claim7 := { stood := { row := tallyRowsUptoRow, standIns := [], harness := (true, "fcf5091b7874e06b4b717c18d96d5ef73833ff86c8bfba5c0d926ef174e696d0"), looks := true }, kinds := [], alts := [], laidByText := true, laidKinds := [.data], laidTests := true, laidLooks := .later }
def TallyRowsUptoCardSaid : Prop := Claim7.holds Tryd.pinned (.plain (OpenSpec.upto tallyRowsSpec)) tallyRowsUptoCard
end Rows
end Go.Proofs.YthhcigmdocldnaaDoor

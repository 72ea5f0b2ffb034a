/- StateNames: the law returns true, and changes nothing that lay; the listed variables are tied to the text of the seat's pruned copy of the project. -/
import Derived.Test.YtihnnhhofdbnlaaGreatDoorKcardb
import Derived.Test.YtihnnhhofdbnlaaGreatDoorCards
import Derived.Test.YtihnnhhofdbnlaaGreatDoorTie
import Derived.SevenTiedAt
import Derived.ChangeMaps5
namespace Go.Proofs.YtihnnhhofdbnlaaGreatDoor
open Go Go.ChangeShapes Go.WideShapes Go.ChangeAt Go.RowKit Go.Deep

set_option maxRecDepth 100000
theorem goes_k : false = Rows.stateNamesRow.goesBy Tryz.prog := by kernel_rfl
theorem looks_k : true = Tryz.prog.looks [] := by kernel_rfl
theorem text_k : Rows.stateNamesRow.wfByText (OpenSpec.ofChange Rows.stateNamesSpec) = true := by kernel_rfl
theorem stateNames_holds : Rows.StateNamesCardSaid :=
  Claim7.holds_tied_plain_at .later [] [.data, .data, .data, .data, .sentinel, .sentinel, .funcsDeep, .data, .funcs, .pinned] true (true, "5722e8176503878981e91085c5564fae43419d5ec64c674b92ddddc861491cc5") true
    names_said (fun _ h => by cases h) text_k (fun _ h => by cases h) stateNames_row_tie rfl ⟨rfl, rfl⟩ (by kernel_rfl) rfl
    (fun f fn hf hfn => by
      obtain rfl : f = 3 := Option.some.inj ((show Tryz.prog.funcNamed "mailroom/mailroomlaw25.StateNames" = some 3 by kernel_rfl).symm.trans hf) |>.symm
      obtain rfl : fn = Tryz.f3 := (Option.some.inj (Tryz.func3.symm.trans hfn)).symm
      exact ⟨looks_k, fun j t ht => by
        rw [Tryz.params3] at ht
        simp at ht⟩)
    goes_k
#print axioms stateNames_holds
end Go.Proofs.YtihnnhhofdbnlaaGreatDoor

/- NoticeNames: the law returns true, and changes nothing that lay; the listed variables are tied to the text of the seat's pruned copy of the project. -/
import Derived.Test.YtohikcchbjchkaaGreatDoorKcardb
import Derived.Test.YtohikcchbjchkaaGreatDoorCards
import Derived.Test.YtohikcchbjchkaaGreatDoorTie
import Derived.SevenTiedAt
import Derived.ChangeMaps5
namespace Go.Proofs.YtohikcchbjchkaaGreatDoor
open Go Go.ChangeShapes Go.WideShapes Go.ChangeAt Go.RowKit Go.Deep

set_option maxRecDepth 100000
theorem goes_k : false = Rows.noticeNamesRow.goesBy Tryz.prog := by kernel_rfl
theorem looks_k : true = Tryz.prog.looks [] := by kernel_rfl
theorem text_k : Rows.noticeNamesRow.wfByText (OpenSpec.ofChange Rows.noticeNamesSpec) = true := by kernel_rfl
theorem noticeNames_holds : Rows.NoticeNamesCardSaid :=
  Claim7.holds_tied_plain_at .later [] [.data, .data, .data, .data, .sentinel, .sentinel, .funcsDeep, .pinned] true (true, "f270c85eea1e017a5689091f3391d9886a3fba163b97d997791933b2920f35da") true
    names_said (fun _ h => by cases h) text_k (fun _ h => by cases h) noticeNames_row_tie rfl ⟨rfl, rfl⟩ (by kernel_rfl) rfl
    (fun f fn hf hfn => by
      obtain rfl : f = 3 := Option.some.inj ((show Tryz.prog.funcNamed "mailroom/mailroomlaw22.NoticeNames" = some 3 by kernel_rfl).symm.trans hf) |>.symm
      obtain rfl : fn = Tryz.f3 := (Option.some.inj (Tryz.func3.symm.trans hfn)).symm
      exact ⟨looks_k, fun j t ht => by
        rw [Tryz.params3] at ht
        simp at ht⟩)
    goes_k
#print axioms noticeNames_holds
end Go.Proofs.YtohikcchbjchkaaGreatDoor

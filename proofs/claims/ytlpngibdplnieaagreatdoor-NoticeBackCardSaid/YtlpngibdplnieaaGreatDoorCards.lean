/-
  DERIVED. GIVEN WITH THE SEED: THE CARDS: each row of YtlpngibdplnieaaGreatDoorRows.lean that lists a variable, with what it lists TIED to the program's text (the seventh form; the later family's looks); each row that meets fmt, with fmt's text TOLD by the authors' own Lean function (tested against real Go, not proved from fmt's source: count such statements apart). THE CARD IS WHAT COUNTS. Prove the row's statement (the work); the ties are given (YtlpngibdplnieaaGreatDoorTie.lean); close each card by the builder's one call (the guide's Derived/Test/ToyasCard.lean, 'card_holds'). Laid BY PROGRAM, IN A SANDBOX (cutbox-door.mjs). By AI agents, Wed Nov 11 2026. No macro, syntax, notation, axiom, sorry.
-/
import Derived.Test.YtlpngibdplnieaaGreatDoorRows
import GoSem.ClaimSeven
namespace Go.Proofs.YtlpngibdplnieaaGreatDoor
namespace Rows

/-- THE TIED CARD OF 'mailroomlaw22.NoticeMakes'. -/
def noticeMakesCard : Claim7 := { stood := { row := noticeMakesRow, standIns := [], harness := (true, "95457cd79ddec3a01cab169418f381e2d13144ac56758564d2cc10fdc8dba771"), looks := true }, kinds := [], alts := [], laidByText := true, laidKinds := [.data, .data, .data, .data, .funcsDeep, .pinned], laidTests := true, laidLooks := .later }
def NoticeMakesCardSaid : Prop := Claim7.holds Tryz.pinned (.plain (OpenSpec.ofChange noticeMakesSpec)) noticeMakesCard

/-- THE TIED CARD OF 'mailroomlaw22.NoticeMay'. -/
def noticeMayCard : Claim7 := { stood := { row := noticeMayRow, standIns := [], harness := (true, "95457cd79ddec3a01cab169418f381e2d13144ac56758564d2cc10fdc8dba771"), looks := true }, kinds := [], alts := [], laidByText := true, laidKinds := [.data, .data, .data, .data, .funcsDeep, .pinned], laidTests := true, laidLooks := .later }
def NoticeMayCardSaid : Prop := Claim7.holds Tryz.pinned (.plain (OpenSpec.ofChange noticeMaySpec)) noticeMayCard

/-- THE TIED CARD OF 'mailroomlaw22.NoticeMost'. -/
def noticeMostCard : Claim7 := { stood := { row := noticeMostRow, standIns := [], harness := (true, "95457cd79ddec3a01cab169418f381e2d13144ac56758564d2cc10fdc8dba771"), looks := true }, kinds := [], alts := [], laidByText := true, laidKinds := [.data, .data, .data, .data, .funcsDeep, .pinned], laidTests := true, laidLooks := .later }
def NoticeMostCardSaid : Prop := Claim7.holds Tryz.pinned (.plain (OpenSpec.ofChange noticeMostSpec)) noticeMostCard

/-- THE TIED CARD OF 'mailroomlaw22.NoticeTells'. -/
def noticeTellsCard : Claim7 := { stood := { row := noticeTellsRow, standIns := [], harness := (true, "95457cd79ddec3a01cab169418f381e2d13144ac56758564d2cc10fdc8dba771"), looks := true }, kinds := [], alts := [], laidByText := true, laidKinds := [.data, .data, .data, .data, .sentinel, .sentinel, .funcsDeep, .pinned], laidTests := true, laidLooks := .later }
def NoticeTellsCardSaid : Prop := Claim7.holds Tryz.pinned (.plain (OpenSpec.ofChange noticeTellsSpec)) noticeTellsCard

/-- THE TIED CARD OF 'mailroomlaw22.NoticeBack'. -/
def noticeBackCard : Claim7 := { stood := { row := noticeBackRow, standIns := [], harness := (true, "95457cd79ddec3a01cab169418f381e2d13144ac56758564d2cc10fdc8dba771"), looks := true }, kinds := [], alts := [], laidByText := true, laidKinds := [.data, .data, .data, .data, .sentinel, .sentinel, .funcsDeep, .pinned], laidTests := true, laidLooks := .later }
def NoticeBackCardSaid : Prop := Claim7.holds Tryz.pinned (.plain (OpenSpec.ofChange noticeBackSpec)) noticeBackCard

/-- THE SECOND FORM's CARD OF 'mailroomlaw22.NoticeMakes'. -/
def noticeMakesUptoCard : Claim7 := { stood := { row := noticeMakesUptoRow, standIns := [], harness := (true, "95457cd79ddec3a01cab169418f381e2d13144ac56758564d2cc10fdc8dba771"), looks := true }, kinds := [], alts := [], laidByText := true, laidKinds := [.data, .data, .data, .data, .funcsDeep, .pinned], laidTests := true, laidLooks := .later }
def NoticeMakesUptoCardSaid : Prop := Claim7.holds Tryz.pinned (.plain (OpenSpec.upto noticeMakesSpec)) noticeMakesUptoCard

/-- THE SECOND FORM's CARD OF 'mailroomlaw22.NoticeMay'. -/
def noticeMayUptoCard : Claim7 := { stood := { row := noticeMayUptoRow, standIns := [], harness := (true, "95457cd79ddec3a01cab169418f381e2d13144ac56758564d2cc10fdc8dba771"), looks := true }, kinds := [], alts := [], laidByText := true, laidKinds := [.data, .data, .data, .data, .funcsDeep, .pinned], laidTests := true, laidLooks := .later }
def NoticeMayUptoCardSaid : Prop := Claim7.holds Tryz.pinned (.plain (OpenSpec.upto noticeMaySpec)) noticeMayUptoCard

/-- THE SECOND FORM's CARD OF 'mailroomlaw22.NoticeMost'. -/
def noticeMostUptoCard : Claim7 := { stood := { row := noticeMostUptoRow, standIns := [], harness := (true, "95457cd79ddec3a01cab169418f381e2d13144ac56758564d2cc10fdc8dba771"), looks := true }, kinds := [], alts := [], laidByText := true, laidKinds := [.data, .data, .data, .data, .funcsDeep, .pinned], laidTests := true, laidLooks := .later }
def NoticeMostUptoCardSaid : Prop := Claim7.holds Tryz.pinned (.plain (OpenSpec.upto noticeMostSpec)) noticeMostUptoCard

/-- THE SECOND FORM's CARD OF 'mailroomlaw22.NoticeTells'. -/
def noticeTellsUptoCard : Claim7 := { stood := { row := noticeTellsUptoRow, standIns := [], harness := (true, "95457cd79ddec3a01cab169418f381e2d13144ac56758564d2cc10fdc8dba771"), looks := true }, kinds := [], alts := [], laidByText := true, laidKinds := [.data, .data, .data, .data, .sentinel, .sentinel, .funcsDeep, .pinned], laidTests := true, laidLooks := .later }
def NoticeTellsUptoCardSaid : Prop := Claim7.holds Tryz.pinned (.plain (OpenSpec.upto noticeTellsSpec)) noticeTellsUptoCard

/-- THE SECOND FORM's CARD OF 'mailroomlaw22.NoticeBack'. -/
def noticeBackUptoCard : Claim7 := { stood := { row := noticeBackUptoRow, standIns := [], harness := (true, "95457cd79ddec3a01cab169418f381e2d13144ac56758564d2cc10fdc8dba771"), looks := true }, kinds := [], alts := [], laidByText := true, laidKinds := [.data, .data, .data, .data, .sentinel, .sentinel, .funcsDeep, .pinned], laidTests := true, laidLooks := .later }
def NoticeBackUptoCardSaid : Prop := Claim7.holds Tryz.pinned (.plain (OpenSpec.upto noticeBackSpec)) noticeBackUptoCard
end Rows
end Go.Proofs.YtlpngibdplnieaaGreatDoor

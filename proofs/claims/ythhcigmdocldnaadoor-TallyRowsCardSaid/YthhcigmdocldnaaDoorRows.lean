/-
  NARROWER THAN 'FOR EVERY INPUT', by the rows' own cells (each row's printed sentence says how): TallySum: laid · TallyOrder: laid · TallyPlays: laid · TallyBack: laid · TallyNames: laid · TallyRows: laid.
  DERIVED. THE GIVEN ROWS OF THIS SEAT. 6 by the template 'for every input the law returns true; each argument reads behind the call as it read before'; 0 by the template 'total and deterministic' (their statements: YthhcigmdocldnaaDoorTotals.lean).
  GIVEN WITH THE SEED: the statements are not yours to turn. If you find one false, say at which input.
  Laid BY PROGRAM, IN A SANDBOX (cutbox-rows.mjs): the forced cells as the released guide's own fill.sh prints them over the translation 57ac5951f075fc1c… (all of the seat's roots in one cut). By AI agents, Wed Nov 11 2026. No macro, syntax, notation, axiom, sorry.
-/
import Derived.Test.YthhcigmdocldnaaDoorChecked
import GoSem.Claim
import GoSem.ClaimJoined
import GoSem.ClaimMapViews
import Derived.JoinedTies
import Derived.KernelRfl
namespace Go.Proofs.YthhcigmdocldnaaDoor
/- THE CELL 'sum', in the pinned program and in every row, IS THE sha256 OF THE DUMP (.gsa) THAT YthhcigmdocldnaaDoorProg.lean LOADS. Nothing in Lean hashes anything: it is a label: what it is worth is what the hold of that sum in a sandbox is worth. -/
noncomputable def Tryd.pinned : Pinned := { name := "ythhcigmdocldnaadoor", sum := "57ac5951f075fc1ca89f0b4d08c23b0c9d8f5fbfcb54f8fd747ed50bed405878", checked := Tryd.checked }
namespace Rows
def none {H : Type} : Left H := { results := [], args := [] }

/- WHAT THE LISTED PACKAGE-LEVEL VARIABLES READ AS WHEN THE CALL BEGINS. Each datum BY PROGRAM (the guide's laid-datum.mjs) off the statement by which the dump's own 'gosem.cut.vars' lays the variable. In a bare row this is a premise. The card (YthhcigmdocldnaaDoorCards.lean) ties it to the program's text. -/
def laid_mailroom_tally_may {H : Type} : DataW H := .agg [.lit (.int .u16 0), .lit (.int .u16 255), .lit (.int .u16 1855), .lit (.int .u16 63)]

/-- 'mailroomlaw19.TallySum': WHATEVER THE INPUT: true; the input reads as it did. -/
def tallySumSpec : ChangeSpec := { name := "tallySum", fn := fun _ => fun
  | [d1, d2] => { results := [.lit (.bool true)], args := [d1, d2] }
  | _ => none }
def tallySumRow : OpenClaim := { program := "ythhcigmdocldnaadoor", sum := "57ac5951f075fc1ca89f0b4d08c23b0c9d8f5fbfcb54f8fd747ed50bed405878", func := "mailroom/mailroomlaw19.TallySum", spec := "tallySum", inPlace := ["internal/bytealg.IndexByteString", "internal/bytealg.IndexString", "internal/bytealg.abigen_runtime_cmpstring"], unfollowed := true, recurses := true, named := ["mailroom/tally.may", "internal/bytealg.MaxLen"], plainKeys := false, apart := false, laid := [("mailroom/tally.may", laid_mailroom_tally_may)] }
def TallySumSaid : Prop := tallySumRow.holds Tryd.pinned (OpenSpec.ofChange tallySumSpec)

/-- ITS FALSE NEIGHBOUR: 'it returns false'. Refute it at one input. -/
def tallySumWrong : ChangeSpec := { name := "tallySum", fn := fun _ => fun
  | [d1, d2] => { results := [.lit (.bool false)], args := [d1, d2] }
  | _ => none }
def TallySumWrongFalsely : Prop := tallySumRow.holds Tryd.pinned (OpenSpec.ofChange tallySumWrong)

/-- 'mailroomlaw19.TallyOrder': WHATEVER THE INPUT: true; the input reads as it did. -/
def tallyOrderSpec : ChangeSpec := { name := "tallyOrder", fn := fun _ => fun
  | [d1, d2, d3] => { results := [.lit (.bool true)], args := [d1, d2, d3] }
  | _ => none }
def tallyOrderRow : OpenClaim := { program := "ythhcigmdocldnaadoor", sum := "57ac5951f075fc1ca89f0b4d08c23b0c9d8f5fbfcb54f8fd747ed50bed405878", func := "mailroom/mailroomlaw19.TallyOrder", spec := "tallyOrder", inPlace := ["internal/bytealg.IndexByteString", "internal/bytealg.IndexString", "internal/bytealg.abigen_runtime_cmpstring"], unfollowed := true, recurses := true, named := ["mailroom/tally.may", "internal/bytealg.MaxLen"], plainKeys := false, apart := false, laid := [("mailroom/tally.may", laid_mailroom_tally_may)] }
def TallyOrderSaid : Prop := tallyOrderRow.holds Tryd.pinned (OpenSpec.ofChange tallyOrderSpec)

/-- ITS FALSE NEIGHBOUR: 'it returns false'. Refute it at one input. -/
def tallyOrderWrong : ChangeSpec := { name := "tallyOrder", fn := fun _ => fun
  | [d1, d2, d3] => { results := [.lit (.bool false)], args := [d1, d2, d3] }
  | _ => none }
def TallyOrderWrongFalsely : Prop := tallyOrderRow.holds Tryd.pinned (OpenSpec.ofChange tallyOrderWrong)

/-- 'mailroomlaw19.TallyPlays': WHATEVER THE INPUT: true; the input reads as it did. -/
def tallyPlaysSpec : ChangeSpec := { name := "tallyPlays", fn := fun _ => fun
  | [d1, d2, d3] => { results := [.lit (.bool true)], args := [d1, d2, d3] }
  | _ => none }
def tallyPlaysRow : OpenClaim := { program := "ythhcigmdocldnaadoor", sum := "57ac5951f075fc1ca89f0b4d08c23b0c9d8f5fbfcb54f8fd747ed50bed405878", func := "mailroom/mailroomlaw19.TallyPlays", spec := "tallyPlays", inPlace := ["internal/bytealg.IndexByteString", "internal/bytealg.IndexString", "internal/bytealg.abigen_runtime_cmpstring", "maps.clone"], unfollowed := true, recurses := true, named := ["mailroom/tally.may", "internal/bytealg.MaxLen"], plainKeys := false, apart := false, laid := [("mailroom/tally.may", laid_mailroom_tally_may)] }
def TallyPlaysSaid : Prop := tallyPlaysRow.holds Tryd.pinned (OpenSpec.ofChange tallyPlaysSpec)

/-- ITS FALSE NEIGHBOUR: 'it returns false'. Refute it at one input. -/
def tallyPlaysWrong : ChangeSpec := { name := "tallyPlays", fn := fun _ => fun
  | [d1, d2, d3] => { results := [.lit (.bool false)], args := [d1, d2, d3] }
  | _ => none }
def TallyPlaysWrongFalsely : Prop := tallyPlaysRow.holds Tryd.pinned (OpenSpec.ofChange tallyPlaysWrong)

/-- 'mailroomlaw19.TallyBack': WHATEVER THE INPUT: true; the input reads as it did. -/
def tallyBackSpec : ChangeSpec := { name := "tallyBack", fn := fun _ => fun
  | [d1, d2, d3] => { results := [.lit (.bool true)], args := [d1, d2, d3] }
  | _ => none }
def tallyBackRow : OpenClaim := { program := "ythhcigmdocldnaadoor", sum := "57ac5951f075fc1ca89f0b4d08c23b0c9d8f5fbfcb54f8fd747ed50bed405878", func := "mailroom/mailroomlaw19.TallyBack", spec := "tallyBack", inPlace := ["internal/bytealg.IndexByteString", "internal/bytealg.IndexString", "internal/bytealg.abigen_runtime_cmpstring"], unfollowed := true, recurses := true, named := ["mailroom/tally.may", "internal/bytealg.MaxLen"], plainKeys := false, apart := false, laid := [("mailroom/tally.may", laid_mailroom_tally_may)] }
def TallyBackSaid : Prop := tallyBackRow.holds Tryd.pinned (OpenSpec.ofChange tallyBackSpec)

/-- ITS FALSE NEIGHBOUR: 'it returns false'. Refute it at one input. -/
def tallyBackWrong : ChangeSpec := { name := "tallyBack", fn := fun _ => fun
  | [d1, d2, d3] => { results := [.lit (.bool false)], args := [d1, d2, d3] }
  | _ => none }
def TallyBackWrongFalsely : Prop := tallyBackRow.holds Tryd.pinned (OpenSpec.ofChange tallyBackWrong)

/-- 'mailroomlaw19.TallyNames': WHATEVER THE INPUT: true; the input reads as it did. -/
def tallyNamesSpec : ChangeSpec := { name := "tallyNames", fn := fun _ => fun
  | [] => { results := [.lit (.bool true)], args := [] }
  | _ => none }
def tallyNamesRow : OpenClaim := { program := "ythhcigmdocldnaadoor", sum := "57ac5951f075fc1ca89f0b4d08c23b0c9d8f5fbfcb54f8fd747ed50bed405878", func := "mailroom/mailroomlaw19.TallyNames", spec := "tallyNames", inPlace := ["internal/bytealg.IndexByteString", "internal/bytealg.IndexString", "internal/bytealg.abigen_runtime_cmpstring", "maps.clone"], unfollowed := true, recurses := true, named := ["mailroom/tally.may", "internal/bytealg.MaxLen"], plainKeys := false, apart := false, laid := [("mailroom/tally.may", laid_mailroom_tally_may)] }
def TallyNamesSaid : Prop := tallyNamesRow.holds Tryd.pinned (OpenSpec.ofChange tallyNamesSpec)

/-- ITS FALSE NEIGHBOUR: 'it returns false'. Refute it at one input. -/
def tallyNamesWrong : ChangeSpec := { name := "tallyNames", fn := fun _ => fun
  | [] => { results := [.lit (.bool false)], args := [] }
  | _ => none }
def TallyNamesWrongFalsely : Prop := tallyNamesRow.holds Tryd.pinned (OpenSpec.ofChange tallyNamesWrong)

/-- 'mailroomlaw19.TallyRows': WHATEVER THE INPUT: true; the input reads as it did. -/
def tallyRowsSpec : ChangeSpec := { name := "tallyRows", fn := fun _ => fun
  | [d1, d2, d3, d4] => { results := [.lit (.bool true)], args := [d1, d2, d3, d4] }
  | _ => none }
def tallyRowsRow : OpenClaim := { program := "ythhcigmdocldnaadoor", sum := "57ac5951f075fc1ca89f0b4d08c23b0c9d8f5fbfcb54f8fd747ed50bed405878", func := "mailroom/mailroomlaw19.TallyRows", spec := "tallyRows", inPlace := ["internal/bytealg.IndexByteString", "internal/bytealg.IndexString", "internal/bytealg.abigen_runtime_cmpstring"], unfollowed := true, recurses := true, named := ["mailroom/tally.may", "internal/bytealg.MaxLen"], plainKeys := false, apart := false, laid := [("mailroom/tally.may", laid_mailroom_tally_may)] }
def TallyRowsSaid : Prop := tallyRowsRow.holds Tryd.pinned (OpenSpec.ofChange tallyRowsSpec)

/-- ITS FALSE NEIGHBOUR: 'it returns false'. Refute it at one input. -/
def tallyRowsWrong : ChangeSpec := { name := "tallyRows", fn := fun _ => fun
  | [d1, d2, d3, d4] => { results := [.lit (.bool false)], args := [d1, d2, d3, d4] }
  | _ => none }
def TallyRowsWrongFalsely : Prop := tallyRowsRow.holds Tryd.pinned (OpenSpec.ofChange tallyRowsWrong)

/- THE SECOND FORM. 'bulk': how many values and letters a reading holds, each counted each time it is reached (what is shared counts as often as it is met; a slice's spare places count too). A statement '..UptoSaid' is the law's where the arguments, and the package variables that the reading takes, are together of bulk at most 1048576: NARROWER than '..Said'. Prove '..Said' where nothing that the law and all that it calls make is longer than what came in: it says more and counts as full. Else prove '..UptoSaid'. A law counts once. -/
mutual
def uptoBulk {H : Type} : DataW H → Nat
  | .lit (.string bytes) => bytes.length + 1
  | .lit _ => 1
  | .nil => 1
  | .ptr d => uptoBulk d + 1
  | .slice elems spare => uptoBulkAll elems + uptoBulkAll spare + 1
  | .agg parts => uptoBulkAll parts + 1
  | .iface _ d => uptoBulk d + 1
  | .map entries => uptoBulkEntries entries + 1
  | .held _ => 1
def uptoBulkAll {H : Type} : List (DataW H) → Nat
  | [] => 0
  | d :: r => uptoBulk d + uptoBulkAll r
def uptoBulkEntries {H : Type} : List (Lit × DataW H) → Nat
  | [] => 0
  | x :: r => uptoBulkEntry x + uptoBulkEntries r
def uptoBulkEntry {H : Type} : Lit × DataW H → Nat
  | (.string bytes, d) => bytes.length + uptoBulk d + 1
  | (_, d) => uptoBulk d + 1
 end
def uptoSmall : (H : Type) → List (DataW H) → Bool := fun _ ds => decide (uptoBulkAll ds ≤ 1048576)
def OpenSpec.upto (s : _root_.Go.ChangeSpec) : _root_.Go.OpenSpec := { _root_.Go.OpenSpec.ofChange s with cond := some uptoSmall }

/-- 'mailroomlaw19.TallySum', WHERE WHAT IT READS IS OF BULK AT MOST 1048576: true; the input reads as it did. -/
def tallySumUptoRow : OpenClaim := { program := "ythhcigmdocldnaadoor", sum := "57ac5951f075fc1ca89f0b4d08c23b0c9d8f5fbfcb54f8fd747ed50bed405878", func := "mailroom/mailroomlaw19.TallySum", spec := "tallySum", inPlace := ["internal/bytealg.IndexByteString", "internal/bytealg.IndexString", "internal/bytealg.abigen_runtime_cmpstring"], unfollowed := true, recurses := true, named := ["mailroom/tally.may", "internal/bytealg.MaxLen"], plainKeys := false, apart := false, laid := [("mailroom/tally.may", laid_mailroom_tally_may)], narrowed := true }
def TallySumUptoSaid : Prop := tallySumUptoRow.holds Tryd.pinned (OpenSpec.upto tallySumSpec)

/-- 'mailroomlaw19.TallyOrder', WHERE WHAT IT READS IS OF BULK AT MOST 1048576: true; the input reads as it did. -/
def tallyOrderUptoRow : OpenClaim := { program := "ythhcigmdocldnaadoor", sum := "57ac5951f075fc1ca89f0b4d08c23b0c9d8f5fbfcb54f8fd747ed50bed405878", func := "mailroom/mailroomlaw19.TallyOrder", spec := "tallyOrder", inPlace := ["internal/bytealg.IndexByteString", "internal/bytealg.IndexString", "internal/bytealg.abigen_runtime_cmpstring"], unfollowed := true, recurses := true, named := ["mailroom/tally.may", "internal/bytealg.MaxLen"], plainKeys := false, apart := false, laid := [("mailroom/tally.may", laid_mailroom_tally_may)], narrowed := true }
def TallyOrderUptoSaid : Prop := tallyOrderUptoRow.holds Tryd.pinned (OpenSpec.upto tallyOrderSpec)

/-- 'mailroomlaw19.TallyPlays', WHERE WHAT IT READS IS OF BULK AT MOST 1048576: true; the input reads as it did. -/
def tallyPlaysUptoRow : OpenClaim := { program := "ythhcigmdocldnaadoor", sum := "57ac5951f075fc1ca89f0b4d08c23b0c9d8f5fbfcb54f8fd747ed50bed405878", func := "mailroom/mailroomlaw19.TallyPlays", spec := "tallyPlays", inPlace := ["internal/bytealg.IndexByteString", "internal/bytealg.IndexString", "internal/bytealg.abigen_runtime_cmpstring", "maps.clone"], unfollowed := true, recurses := true, named := ["mailroom/tally.may", "internal/bytealg.MaxLen"], plainKeys := false, apart := false, laid := [("mailroom/tally.may", laid_mailroom_tally_may)], narrowed := true }
def TallyPlaysUptoSaid : Prop := tallyPlaysUptoRow.holds Tryd.pinned (OpenSpec.upto tallyPlaysSpec)

/-- 'mailroomlaw19.TallyBack', WHERE WHAT IT READS IS OF BULK AT MOST 1048576: true; the input reads as it did. -/
def tallyBackUptoRow : OpenClaim := { program := "ythhcigmdocldnaadoor", sum := "57ac5951f075fc1ca89f0b4d08c23b0c9d8f5fbfcb54f8fd747ed50bed405878", func := "mailroom/mailroomlaw19.TallyBack", spec := "tallyBack", inPlace := ["internal/bytealg.IndexByteString", "internal/bytealg.IndexString", "internal/bytealg.abigen_runtime_cmpstring"], unfollowed := true, recurses := true, named := ["mailroom/tally.may", "internal/bytealg.MaxLen"], plainKeys := false, apart := false, laid := [("mailroom/tally.may", laid_mailroom_tally_may)], narrowed := true }
def TallyBackUptoSaid : Prop := tallyBackUptoRow.holds Tryd.pinned (OpenSpec.upto tallyBackSpec)

/-- 'mailroomlaw19.TallyNames', WHERE WHAT IT READS IS OF BULK AT MOST 1048576: true; the input reads as it did. -/
def tallyNamesUptoRow : OpenClaim := { program := "ythhcigmdocldnaadoor", sum := "57ac5951f075fc1ca89f0b4d08c23b0c9d8f5fbfcb54f8fd747ed50bed405878", func := "mailroom/mailroomlaw19.TallyNames", spec := "tallyNames", inPlace := ["internal/bytealg.IndexByteString", "internal/bytealg.IndexString", "internal/bytealg.abigen_runtime_cmpstring", "maps.clone"], unfollowed := true, recurses := true, named := ["mailroom/tally.may", "internal/bytealg.MaxLen"], plainKeys := false, apart := false, laid := [("mailroom/tally.may", laid_mailroom_tally_may)], narrowed := true }
def TallyNamesUptoSaid : Prop := tallyNamesUptoRow.holds Tryd.pinned (OpenSpec.upto tallyNamesSpec)

/-- 'mailroomlaw19.TallyRows', WHERE WHAT IT READS IS OF BULK AT MOST 1048576: true; the input reads as it did. -/
def tallyRowsUptoRow : OpenClaim := { program := "ythhcigmdocldnaadoor", sum := "57ac5951f075fc1ca89f0b4d08c23b0c9d8f5fbfcb54f8fd747ed50bed405878", func := "mailroom/mailroomlaw19.TallyRows", spec := "tallyRows", inPlace := ["internal/bytealg.IndexByteString", "internal/bytealg.IndexString", "internal/bytealg.abigen_runtime_cmpstring"], unfollowed := true, recurses := true, named := ["mailroom/tally.may", "internal/bytealg.MaxLen"], plainKeys := false, apart := false, laid := [("mailroom/tally.may", laid_mailroom_tally_may)], narrowed := true }
def TallyRowsUptoSaid : Prop := tallyRowsUptoRow.holds Tryd.pinned (OpenSpec.upto tallyRowsSpec)

end Rows
end Go.Proofs.YthhcigmdocldnaaDoor

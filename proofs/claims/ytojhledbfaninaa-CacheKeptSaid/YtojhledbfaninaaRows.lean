/-
  No cell of these rows narrows 'for every input' (looked for: loops, veiled, ifaces, maps, wideKeys, modest, calm, conditions, laid).
  DERIVED. THE GIVEN ROWS OF THIS SEAT. 4 by the template 'for every input the law returns true; each argument reads behind the call as it read before'; 0 by the template 'total and deterministic' (their statements: YtojhledbfaninaaTotals.lean).
  GIVEN WITH THE SEED: the statements are not yours to turn. If you find one false, say at which input.
  Laid BY PROGRAM, IN A SANDBOX (cutbox-rows.mjs): the forced cells as the released guide's own fill.sh prints them over the translation 97098d32af9bd212… (all of the seat's roots in one cut). By AI agents, Wed Nov 11 2026. No macro, syntax, notation, axiom, sorry.
-/
import Derived.Test.YtojhledbfaninaaChecked
import GoSem.Claim
import GoSem.ClaimJoined
import GoSem.ClaimMapViews
import Derived.JoinedTies
import Derived.KernelRfl
namespace Go.Proofs.Ytojhledbfaninaa
/- THE CELL 'sum', in the pinned program and in every row, IS THE sha256 OF THE DUMP (.gsa) THAT YtojhledbfaninaaProg.lean LOADS. Nothing in Lean hashes anything: it is a label: what it is worth is what the hold of that sum in a sandbox is worth. -/
noncomputable def Try.pinned : Pinned := { name := "ytojhledbfaninaa", sum := "97098d32af9bd2121e036aa7e9b61ead5ca84054acd8d069fbddac2e1e7d49da", checked := Try.checked }
namespace Rows
def none {H : Type} : Left H := { results := [], args := [] }

/-- 'mailroomlaw18.CacheNames': WHATEVER THE INPUT: true; the input reads as it did. -/
def cacheNamesSpec : ChangeSpec := { name := "cacheNames", fn := fun _ => fun
  | [] => { results := [.lit (.bool true)], args := [] }
  | _ => none }
def cacheNamesRow : OpenClaim := { program := "ytojhledbfaninaa", sum := "97098d32af9bd2121e036aa7e9b61ead5ca84054acd8d069fbddac2e1e7d49da", func := "mailroom/mailroomlaw18.CacheNames", spec := "cacheNames", inPlace := ["internal/bytealg.IndexByteString", "internal/bytealg.IndexString", "maps.clone"], unfollowed := true, recurses := true, named := ["internal/bytealg.MaxLen"], apart := false }
def CacheNamesSaid : Prop := cacheNamesRow.holds Try.pinned (OpenSpec.ofChange cacheNamesSpec)

/-- ITS FALSE NEIGHBOUR: 'it returns false'. Refute it at one input. -/
def cacheNamesWrong : ChangeSpec := { name := "cacheNames", fn := fun _ => fun
  | [] => { results := [.lit (.bool false)], args := [] }
  | _ => none }
def CacheNamesWrongFalsely : Prop := cacheNamesRow.holds Try.pinned (OpenSpec.ofChange cacheNamesWrong)

/-- 'mailroomlaw18.CacheKept': WHATEVER THE INPUT: true; the input reads as it did. -/
def cacheKeptSpec : ChangeSpec := { name := "cacheKept", fn := fun _ => fun
  | [d1, d2] => { results := [.lit (.bool true)], args := [d1, d2] }
  | _ => none }
def cacheKeptRow : OpenClaim := { program := "ytojhledbfaninaa", sum := "97098d32af9bd2121e036aa7e9b61ead5ca84054acd8d069fbddac2e1e7d49da", func := "mailroom/mailroomlaw18.CacheKept", spec := "cacheKept", inPlace := ["internal/bytealg.IndexByteString", "internal/bytealg.IndexString"], unfollowed := true, recurses := true, named := ["internal/bytealg.MaxLen"], apart := false }
def CacheKeptSaid : Prop := cacheKeptRow.holds Try.pinned (OpenSpec.ofChange cacheKeptSpec)

/-- ITS FALSE NEIGHBOUR: 'it returns false'. Refute it at one input. -/
def cacheKeptWrong : ChangeSpec := { name := "cacheKept", fn := fun _ => fun
  | [d1, d2] => { results := [.lit (.bool false)], args := [d1, d2] }
  | _ => none }
def CacheKeptWrongFalsely : Prop := cacheKeptRow.holds Try.pinned (OpenSpec.ofChange cacheKeptWrong)

/-- 'mailroomlaw18.CacheLoads': WHATEVER THE INPUT: true; the input reads as it did. -/
def cacheLoadsSpec : ChangeSpec := { name := "cacheLoads", fn := fun _ => fun
  | [d1, d2, d3] => { results := [.lit (.bool true)], args := [d1, d2, d3] }
  | _ => none }
def cacheLoadsRow : OpenClaim := { program := "ytojhledbfaninaa", sum := "97098d32af9bd2121e036aa7e9b61ead5ca84054acd8d069fbddac2e1e7d49da", func := "mailroom/mailroomlaw18.CacheLoads", spec := "cacheLoads", inPlace := ["internal/bytealg.IndexByteString", "internal/bytealg.IndexString"], unfollowed := true, recurses := true, named := ["internal/bytealg.MaxLen"], apart := false }
def CacheLoadsSaid : Prop := cacheLoadsRow.holds Try.pinned (OpenSpec.ofChange cacheLoadsSpec)

/-- ITS FALSE NEIGHBOUR: 'it returns false'. Refute it at one input. -/
def cacheLoadsWrong : ChangeSpec := { name := "cacheLoads", fn := fun _ => fun
  | [d1, d2, d3] => { results := [.lit (.bool false)], args := [d1, d2, d3] }
  | _ => none }
def CacheLoadsWrongFalsely : Prop := cacheLoadsRow.holds Try.pinned (OpenSpec.ofChange cacheLoadsWrong)

/-- 'mailroomlaw18.CacheBack': WHATEVER THE INPUT: true; the input reads as it did. -/
def cacheBackSpec : ChangeSpec := { name := "cacheBack", fn := fun _ => fun
  | [d1, d2, d3] => { results := [.lit (.bool true)], args := [d1, d2, d3] }
  | _ => none }
def cacheBackRow : OpenClaim := { program := "ytojhledbfaninaa", sum := "97098d32af9bd2121e036aa7e9b61ead5ca84054acd8d069fbddac2e1e7d49da", func := "mailroom/mailroomlaw18.CacheBack", spec := "cacheBack", inPlace := ["internal/bytealg.IndexByteString", "internal/bytealg.IndexString"], unfollowed := true, recurses := true, named := ["internal/bytealg.MaxLen"], apart := false }
def CacheBackSaid : Prop := cacheBackRow.holds Try.pinned (OpenSpec.ofChange cacheBackSpec)

/-- ITS FALSE NEIGHBOUR: 'it returns false'. Refute it at one input. -/
def cacheBackWrong : ChangeSpec := { name := "cacheBack", fn := fun _ => fun
  | [d1, d2, d3] => { results := [.lit (.bool false)], args := [d1, d2, d3] }
  | _ => none }
def CacheBackWrongFalsely : Prop := cacheBackRow.holds Try.pinned (OpenSpec.ofChange cacheBackWrong)

/- THE SECOND FORM. 'bulk': how many values and letters a reading holds, each counted each time it is reached (what is shared counts as often as it is met; a slice's spare places count too). A statement '..UptoSaid' is the law's where the arguments, and the package variables that the reading takes, are together of bulk at most 1048576: NARROWER than '..Said'. Prove '..Said' where nothing that the law and all that it calls make is longer than what came in: it says more and counts as full. Else prove '..UptoSaid'. A law counts once. -/
mutual
def uptoBulk {H : Type} : DataW H → Nat
  | .lit (.string bytes) => bytes.length + 1
  | .lit _ => 1
  | .nil => 1
  | .ptr d => uptoBulk d + 1
  | .slice elems spare => uptoBulkAll elems + uptoBulkAll spare + 1
  | .agg parts => uptoBulkAll parts + 1
  | .iface _ d => uptoBulk d + 1
  | .map entries => uptoBulkEntries entries + 1
  | .held _ => 1
def uptoBulkAll {H : Type} : List (DataW H) → Nat
  | [] => 0
  | d :: r => uptoBulk d + uptoBulkAll r
def uptoBulkEntries {H : Type} : List (Lit × DataW H) → Nat
  | [] => 0
  | x :: r => uptoBulkEntry x + uptoBulkEntries r
def uptoBulkEntry {H : Type} : Lit × DataW H → Nat
  | (.string bytes, d) => bytes.length + uptoBulk d + 1
  | (_, d) => uptoBulk d + 1
 end
def uptoSmall : (H : Type) → List (DataW H) → Bool := fun _ ds => decide (uptoBulkAll ds ≤ 1048576)
def OpenSpec.upto (s : _root_.Go.ChangeSpec) : _root_.Go.OpenSpec := { _root_.Go.OpenSpec.ofChange s with cond := some uptoSmall }

/-- 'mailroomlaw18.CacheNames', WHERE WHAT IT READS IS OF BULK AT MOST 1048576: true; the input reads as it did. -/
def cacheNamesUptoRow : OpenClaim := { program := "ytojhledbfaninaa", sum := "97098d32af9bd2121e036aa7e9b61ead5ca84054acd8d069fbddac2e1e7d49da", func := "mailroom/mailroomlaw18.CacheNames", spec := "cacheNames", inPlace := ["internal/bytealg.IndexByteString", "internal/bytealg.IndexString", "maps.clone"], unfollowed := true, recurses := true, named := ["internal/bytealg.MaxLen"], apart := false, narrowed := true }
def CacheNamesUptoSaid : Prop := cacheNamesUptoRow.holds Try.pinned (OpenSpec.upto cacheNamesSpec)

/-- 'mailroomlaw18.CacheKept', WHERE WHAT IT READS IS OF BULK AT MOST 1048576: true; the input reads as it did. -/
def cacheKeptUptoRow : OpenClaim := { program := "ytojhledbfaninaa", sum := "97098d32af9bd2121e036aa7e9b61ead5ca84054acd8d069fbddac2e1e7d49da", func := "mailroom/mailroomlaw18.CacheKept", spec := "cacheKept", inPlace := ["internal/bytealg.IndexByteString", "internal/bytealg.IndexString"], unfollowed := true, recurses := true, named := ["internal/bytealg.MaxLen"], apart := false, narrowed := true }
def CacheKeptUptoSaid : Prop := cacheKeptUptoRow.holds Try.pinned (OpenSpec.upto cacheKeptSpec)

/-- 'mailroomlaw18.CacheLoads', WHERE WHAT IT READS IS OF BULK AT MOST 1048576: true; the input reads as it did. -/
def cacheLoadsUptoRow : OpenClaim := { program := "ytojhledbfaninaa", sum := "97098d32af9bd2121e036aa7e9b61ead5ca84054acd8d069fbddac2e1e7d49da", func := "mailroom/mailroomlaw18.CacheLoads", spec := "cacheLoads", inPlace := ["internal/bytealg.IndexByteString", "internal/bytealg.IndexString"], unfollowed := true, recurses := true, named := ["internal/bytealg.MaxLen"], apart := false, narrowed := true }
def CacheLoadsUptoSaid : Prop := cacheLoadsUptoRow.holds Try.pinned (OpenSpec.upto cacheLoadsSpec)

/-- 'mailroomlaw18.CacheBack', WHERE WHAT IT READS IS OF BULK AT MOST 1048576: true; the input reads as it did. -/
def cacheBackUptoRow : OpenClaim := { program := "ytojhledbfaninaa", sum := "97098d32af9bd2121e036aa7e9b61ead5ca84054acd8d069fbddac2e1e7d49da", func := "mailroom/mailroomlaw18.CacheBack", spec := "cacheBack", inPlace := ["internal/bytealg.IndexByteString", "internal/bytealg.IndexString"], unfollowed := true, recurses := true, named := ["internal/bytealg.MaxLen"], apart := false, narrowed := true }
def CacheBackUptoSaid : Prop := cacheBackUptoRow.holds Try.pinned (OpenSpec.upto cacheBackSpec)

end Rows
end Go.Proofs.Ytojhledbfaninaa

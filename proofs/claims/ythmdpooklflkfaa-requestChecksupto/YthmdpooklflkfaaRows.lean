/-
  No cell of these rows narrows 'for every input' (looked for: loops, veiled, ifaces, maps, wideKeys, modest, calm, conditions, laid).
  DERIVED. THE GIVEN ROWS OF THIS SEAT. 6 by the template 'for every input the law returns true; each argument reads behind the call as it read before'; 0 by the template 'total and deterministic' (their statements: YthmdpooklflkfaaTotals.lean).
  GIVEN WITH THE SEED: the statements are not yours to turn. If you find one false, say at which input.
  Laid BY PROGRAM, IN A SANDBOX (cutbox-rows.mjs): the forced cells as the released guide's own fill.sh prints them over the translation 5a88ef8f30e04f3b… (all of the seat's roots in one cut). By AI agents, Wed Nov 11 2026. No macro, syntax, notation, axiom, sorry.
-/
import Derived.Test.YthmdpooklflkfaaChecked
import GoSem.Claim
import GoSem.ClaimJoined
import GoSem.ClaimMapViews
import Derived.JoinedTies
import Derived.KernelRfl
namespace Go.Proofs.Ythmdpooklflkfaa
/- THE CELL 'sum', in the pinned program and in every row, IS THE sha256 OF THE DUMP (.gsa) THAT YthmdpooklflkfaaProg.lean LOADS. Nothing in Lean hashes anything: it is a label: what it is worth is what the hold of that sum in a sandbox is worth. -/
noncomputable def Try.pinned : Pinned := { name := "ythmdpooklflkfaa", sum := "5a88ef8f30e04f3b6237c149856cd9d2d4e6f9d3972d849e15a03628b1b61f77", checked := Try.checked }
namespace Rows
def none {H : Type} : Left H := { results := [], args := [] }

/-- 'bullalaw08.RequestChecks': WHATEVER THE INPUT: true; the input reads as it did. -/
def requestChecksSpec : ChangeSpec := { name := "requestChecks", fn := fun _ => fun
  | [d1, d2, d3, d4] => { results := [.lit (.bool true)], args := [d1, d2, d3, d4] }
  | _ => none }
def requestChecksRow : OpenClaim := { program := "ythmdpooklflkfaa", sum := "5a88ef8f30e04f3b6237c149856cd9d2d4e6f9d3972d849e15a03628b1b61f77", func := "bulla/bullalaw08.RequestChecks", spec := "requestChecks", unfollowed := true, recurses := true, plainKeys := false, apart := false }
def RequestChecksSaid : Prop := requestChecksRow.holds Try.pinned (OpenSpec.ofChange requestChecksSpec)

/-- ITS FALSE NEIGHBOUR: 'it returns false'. Refute it at one input. -/
def requestChecksWrong : ChangeSpec := { name := "requestChecks", fn := fun _ => fun
  | [d1, d2, d3, d4] => { results := [.lit (.bool false)], args := [d1, d2, d3, d4] }
  | _ => none }
def RequestChecksWrongFalsely : Prop := requestChecksRow.holds Try.pinned (OpenSpec.ofChange requestChecksWrong)

/-- 'bullalaw08.RequestBytes': WHATEVER THE INPUT: true; the input reads as it did. -/
def requestBytesSpec : ChangeSpec := { name := "requestBytes", fn := fun _ => fun
  | [d1, d2, d3, d4] => { results := [.lit (.bool true)], args := [d1, d2, d3, d4] }
  | _ => none }
def requestBytesRow : OpenClaim := { program := "ythmdpooklflkfaa", sum := "5a88ef8f30e04f3b6237c149856cd9d2d4e6f9d3972d849e15a03628b1b61f77", func := "bulla/bullalaw08.RequestBytes", spec := "requestBytes", unfollowed := true, recurses := true, plainKeys := false, apart := false }
def RequestBytesSaid : Prop := requestBytesRow.holds Try.pinned (OpenSpec.ofChange requestBytesSpec)

/-- ITS FALSE NEIGHBOUR: 'it returns false'. Refute it at one input. -/
def requestBytesWrong : ChangeSpec := { name := "requestBytes", fn := fun _ => fun
  | [d1, d2, d3, d4] => { results := [.lit (.bool false)], args := [d1, d2, d3, d4] }
  | _ => none }
def RequestBytesWrongFalsely : Prop := requestBytesRow.holds Try.pinned (OpenSpec.ofChange requestBytesWrong)

/-- 'bullalaw08.RequestOnly': WHATEVER THE INPUT: true; the input reads as it did. -/
def requestOnlySpec : ChangeSpec := { name := "requestOnly", fn := fun _ => fun
  | [d1, d2, d3, d4] => { results := [.lit (.bool true)], args := [d1, d2, d3, d4] }
  | _ => none }
def requestOnlyRow : OpenClaim := { program := "ythmdpooklflkfaa", sum := "5a88ef8f30e04f3b6237c149856cd9d2d4e6f9d3972d849e15a03628b1b61f77", func := "bulla/bullalaw08.RequestOnly", spec := "requestOnly", unfollowed := true, recurses := true, plainKeys := false, apart := false }
def RequestOnlySaid : Prop := requestOnlyRow.holds Try.pinned (OpenSpec.ofChange requestOnlySpec)

/-- ITS FALSE NEIGHBOUR: 'it returns false'. Refute it at one input. -/
def requestOnlyWrong : ChangeSpec := { name := "requestOnly", fn := fun _ => fun
  | [d1, d2, d3, d4] => { results := [.lit (.bool false)], args := [d1, d2, d3, d4] }
  | _ => none }
def RequestOnlyWrongFalsely : Prop := requestOnlyRow.holds Try.pinned (OpenSpec.ofChange requestOnlyWrong)

/-- 'bullalaw08.RequestSeals': WHATEVER THE INPUT: true; the input reads as it did. -/
def requestSealsSpec : ChangeSpec := { name := "requestSeals", fn := fun _ => fun
  | [d1, d2, d3] => { results := [.lit (.bool true)], args := [d1, d2, d3] }
  | _ => none }
def requestSealsRow : OpenClaim := { program := "ythmdpooklflkfaa", sum := "5a88ef8f30e04f3b6237c149856cd9d2d4e6f9d3972d849e15a03628b1b61f77", func := "bulla/bullalaw08.RequestSeals", spec := "requestSeals", unfollowed := true, recurses := true, plainKeys := false, apart := false }
def RequestSealsSaid : Prop := requestSealsRow.holds Try.pinned (OpenSpec.ofChange requestSealsSpec)

/-- ITS FALSE NEIGHBOUR: 'it returns false'. Refute it at one input. -/
def requestSealsWrong : ChangeSpec := { name := "requestSeals", fn := fun _ => fun
  | [d1, d2, d3] => { results := [.lit (.bool false)], args := [d1, d2, d3] }
  | _ => none }
def RequestSealsWrongFalsely : Prop := requestSealsRow.holds Try.pinned (OpenSpec.ofChange requestSealsWrong)

/-- 'bullalaw08.RequestReads': WHATEVER THE INPUT: true; the input reads as it did. -/
def requestReadsSpec : ChangeSpec := { name := "requestReads", fn := fun _ => fun
  | [d] => { results := [.lit (.bool true)], args := [d] }
  | _ => none }
def requestReadsRow : OpenClaim := { program := "ythmdpooklflkfaa", sum := "5a88ef8f30e04f3b6237c149856cd9d2d4e6f9d3972d849e15a03628b1b61f77", func := "bulla/bullalaw08.RequestReads", spec := "requestReads", unfollowed := true, recurses := true, plainKeys := false, apart := false }
def RequestReadsSaid : Prop := requestReadsRow.holds Try.pinned (OpenSpec.ofChange requestReadsSpec)

/-- ITS FALSE NEIGHBOUR: 'it returns false'. Refute it at one input. -/
def requestReadsWrong : ChangeSpec := { name := "requestReads", fn := fun _ => fun
  | [d] => { results := [.lit (.bool false)], args := [d] }
  | _ => none }
def RequestReadsWrongFalsely : Prop := requestReadsRow.holds Try.pinned (OpenSpec.ofChange requestReadsWrong)

/-- 'bullalaw08.RequestBack': WHATEVER THE INPUT: true; the input reads as it did. -/
def requestBackSpec : ChangeSpec := { name := "requestBack", fn := fun _ => fun
  | [d1, d2, d3] => { results := [.lit (.bool true)], args := [d1, d2, d3] }
  | _ => none }
def requestBackRow : OpenClaim := { program := "ythmdpooklflkfaa", sum := "5a88ef8f30e04f3b6237c149856cd9d2d4e6f9d3972d849e15a03628b1b61f77", func := "bulla/bullalaw08.RequestBack", spec := "requestBack", unfollowed := true, recurses := true, plainKeys := false, apart := false }
def RequestBackSaid : Prop := requestBackRow.holds Try.pinned (OpenSpec.ofChange requestBackSpec)

/-- ITS FALSE NEIGHBOUR: 'it returns false'. Refute it at one input. -/
def requestBackWrong : ChangeSpec := { name := "requestBack", fn := fun _ => fun
  | [d1, d2, d3] => { results := [.lit (.bool false)], args := [d1, d2, d3] }
  | _ => none }
def RequestBackWrongFalsely : Prop := requestBackRow.holds Try.pinned (OpenSpec.ofChange requestBackWrong)

/- THE SECOND FORM. 'bulk': how many values and letters a reading holds, each counted each time it is reached (what is shared counts as often as it is met; a slice's spare places count too). A statement '..UptoSaid' is the law's where the arguments, and the package variables that the reading takes, are together of bulk at most 1048576: NARROWER than '..Said'. Prove '..Said' where nothing that the law and all that it calls make is longer than what came in: it says more and counts as full. Else prove '..UptoSaid'. A law counts once. -/
mutual
def uptoBulk {H : Type} : DataW H → Nat
  | .lit (.string bytes) => bytes.length + 1
  | .lit _ => 1
  | .nil => 1
  | .ptr d => uptoBulk d + 1
  | .slice elems spare => uptoBulkAll elems + uptoBulkAll spare + 1
  | .agg parts => uptoBulkAll parts + 1
  | .iface _ d => uptoBulk d + 1
  | .map entries => uptoBulkEntries entries + 1
  | .held _ => 1
def uptoBulkAll {H : Type} : List (DataW H) → Nat
  | [] => 0
  | d :: r => uptoBulk d + uptoBulkAll r
def uptoBulkEntries {H : Type} : List (Lit × DataW H) → Nat
  | [] => 0
  | x :: r => uptoBulkEntry x + uptoBulkEntries r
def uptoBulkEntry {H : Type} : Lit × DataW H → Nat
  | (.string bytes, d) => bytes.length + uptoBulk d + 1
  | (_, d) => uptoBulk d + 1
 end
def uptoSmall : (H : Type) → List (DataW H) → Bool := fun _ ds => decide (uptoBulkAll ds ≤ 1048576)
def OpenSpec.upto (s : _root_.Go.ChangeSpec) : _root_.Go.OpenSpec := { _root_.Go.OpenSpec.ofChange s with cond := some uptoSmall }

/-- 'bullalaw08.RequestChecks', WHERE WHAT IT READS IS OF BULK AT MOST 1048576: true; the input reads as it did. -/
def requestChecksUptoRow : OpenClaim := { program := "ythmdpooklflkfaa", sum := "5a88ef8f30e04f3b6237c149856cd9d2d4e6f9d3972d849e15a03628b1b61f77", func := "bulla/bullalaw08.RequestChecks", spec := "requestChecks", unfollowed := true, recurses := true, plainKeys := false, apart := false, narrowed := true }
def RequestChecksUptoSaid : Prop := requestChecksUptoRow.holds Try.pinned (OpenSpec.upto requestChecksSpec)

/-- 'bullalaw08.RequestBytes', WHERE WHAT IT READS IS OF BULK AT MOST 1048576: true; the input reads as it did. -/
def requestBytesUptoRow : OpenClaim := { program := "ythmdpooklflkfaa", sum := "5a88ef8f30e04f3b6237c149856cd9d2d4e6f9d3972d849e15a03628b1b61f77", func := "bulla/bullalaw08.RequestBytes", spec := "requestBytes", unfollowed := true, recurses := true, plainKeys := false, apart := false, narrowed := true }
def RequestBytesUptoSaid : Prop := requestBytesUptoRow.holds Try.pinned (OpenSpec.upto requestBytesSpec)

/-- 'bullalaw08.RequestOnly', WHERE WHAT IT READS IS OF BULK AT MOST 1048576: true; the input reads as it did. -/
def requestOnlyUptoRow : OpenClaim := { program := "ythmdpooklflkfaa", sum := "5a88ef8f30e04f3b6237c149856cd9d2d4e6f9d3972d849e15a03628b1b61f77", func := "bulla/bullalaw08.RequestOnly", spec := "requestOnly", unfollowed := true, recurses := true, plainKeys := false, apart := false, narrowed := true }
def RequestOnlyUptoSaid : Prop := requestOnlyUptoRow.holds Try.pinned (OpenSpec.upto requestOnlySpec)

/-- 'bullalaw08.RequestSeals', WHERE WHAT IT READS IS OF BULK AT MOST 1048576: true; the input reads as it did. -/
def requestSealsUptoRow : OpenClaim := { program := "ythmdpooklflkfaa", sum := "5a88ef8f30e04f3b6237c149856cd9d2d4e6f9d3972d849e15a03628b1b61f77", func := "bulla/bullalaw08.RequestSeals", spec := "requestSeals", unfollowed := true, recurses := true, plainKeys := false, apart := false, narrowed := true }
def RequestSealsUptoSaid : Prop := requestSealsUptoRow.holds Try.pinned (OpenSpec.upto requestSealsSpec)

/-- 'bullalaw08.RequestReads', WHERE WHAT IT READS IS OF BULK AT MOST 1048576: true; the input reads as it did. -/
def requestReadsUptoRow : OpenClaim := { program := "ythmdpooklflkfaa", sum := "5a88ef8f30e04f3b6237c149856cd9d2d4e6f9d3972d849e15a03628b1b61f77", func := "bulla/bullalaw08.RequestReads", spec := "requestReads", unfollowed := true, recurses := true, plainKeys := false, apart := false, narrowed := true }
def RequestReadsUptoSaid : Prop := requestReadsUptoRow.holds Try.pinned (OpenSpec.upto requestReadsSpec)

/-- 'bullalaw08.RequestBack', WHERE WHAT IT READS IS OF BULK AT MOST 1048576: true; the input reads as it did. -/
def requestBackUptoRow : OpenClaim := { program := "ythmdpooklflkfaa", sum := "5a88ef8f30e04f3b6237c149856cd9d2d4e6f9d3972d849e15a03628b1b61f77", func := "bulla/bullalaw08.RequestBack", spec := "requestBack", unfollowed := true, recurses := true, plainKeys := false, apart := false, narrowed := true }
def RequestBackUptoSaid : Prop := requestBackUptoRow.holds Try.pinned (OpenSpec.upto requestBackSpec)

end Rows
end Go.Proofs.Ythmdpooklflkfaa

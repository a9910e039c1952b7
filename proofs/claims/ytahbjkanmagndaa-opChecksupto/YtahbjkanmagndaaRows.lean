/-
  No cell of these rows narrows 'for every input' (looked for: loops, veiled, ifaces, maps, wideKeys, modest, calm, conditions, laid).
  DERIVED. THE GIVEN ROWS OF THIS SEAT. 6 by the template 'for every input the law returns true; each argument reads behind the call as it read before'; 0 by the template 'total and deterministic' (their statements: YtahbjkanmagndaaTotals.lean).
  GIVEN WITH THE SEED: the statements are not yours to turn. If you find one false, say at which input.
  Laid BY PROGRAM, IN A SANDBOX (cutbox-rows.mjs): the forced cells as the released guide's own fill.sh prints them over the translation 4bc739a634add544… (all of the seat's roots in one cut). By AI agents, Wed Nov 11 2026. No macro, syntax, notation, axiom, sorry.
-/
import Derived.Test.YtahbjkanmagndaaChecked
import GoSem.Claim
import GoSem.ClaimJoined
import GoSem.ClaimMapViews
import Derived.JoinedTies
import Derived.KernelRfl
namespace Go.Proofs.Ytahbjkanmagndaa
/- THE CELL 'sum', in the pinned program and in every row, IS THE sha256 OF THE DUMP (.gsa) THAT YtahbjkanmagndaaProg.lean LOADS. Nothing in Lean hashes anything: it is a label: what it is worth is what the hold of that sum in a sandbox is worth. -/
noncomputable def Try.pinned : Pinned := { name := "ytahbjkanmagndaa", sum := "4bc739a634add54443eac8399baf6db41a830c9dca9565abbe1fe809c5499407", checked := Try.checked }
namespace Rows
def none {H : Type} : Left H := { results := [], args := [] }

/-- 'bullalaw06.OpNames': WHATEVER THE INPUT: true; the input reads as it did. -/
def opNamesSpec : ChangeSpec := { name := "opNames", fn := fun _ => fun
  | [d] => { results := [.lit (.bool true)], args := [d] }
  | _ => none }
def opNamesRow : OpenClaim := { program := "ytahbjkanmagndaa", sum := "4bc739a634add54443eac8399baf6db41a830c9dca9565abbe1fe809c5499407", func := "bulla/bullalaw06.OpNames", spec := "opNames", unfollowed := true, recurses := true, apart := false }
def OpNamesSaid : Prop := opNamesRow.holds Try.pinned (OpenSpec.ofChange opNamesSpec)

/-- ITS FALSE NEIGHBOUR: 'it returns false'. Refute it at one input. -/
def opNamesWrong : ChangeSpec := { name := "opNames", fn := fun _ => fun
  | [d] => { results := [.lit (.bool false)], args := [d] }
  | _ => none }
def OpNamesWrongFalsely : Prop := opNamesRow.holds Try.pinned (OpenSpec.ofChange opNamesWrong)

/-- 'bullalaw06.OpApart': WHATEVER THE INPUT: true; the input reads as it did. -/
def opApartSpec : ChangeSpec := { name := "opApart", fn := fun _ => fun
  | [d1, d2] => { results := [.lit (.bool true)], args := [d1, d2] }
  | _ => none }
def opApartRow : OpenClaim := { program := "ytahbjkanmagndaa", sum := "4bc739a634add54443eac8399baf6db41a830c9dca9565abbe1fe809c5499407", func := "bulla/bullalaw06.OpApart", spec := "opApart", unfollowed := true, recurses := true, apart := false }
def OpApartSaid : Prop := opApartRow.holds Try.pinned (OpenSpec.ofChange opApartSpec)

/-- ITS FALSE NEIGHBOUR: 'it returns false'. Refute it at one input. -/
def opApartWrong : ChangeSpec := { name := "opApart", fn := fun _ => fun
  | [d1, d2] => { results := [.lit (.bool false)], args := [d1, d2] }
  | _ => none }
def OpApartWrongFalsely : Prop := opApartRow.holds Try.pinned (OpenSpec.ofChange opApartWrong)

/-- 'bullalaw06.OpChecks': WHATEVER THE INPUT: true; the input reads as it did. -/
def opChecksSpec : ChangeSpec := { name := "opChecks", fn := fun _ => fun
  | [d1, d2] => { results := [.lit (.bool true)], args := [d1, d2] }
  | _ => none }
def opChecksRow : OpenClaim := { program := "ytahbjkanmagndaa", sum := "4bc739a634add54443eac8399baf6db41a830c9dca9565abbe1fe809c5499407", func := "bulla/bullalaw06.OpChecks", spec := "opChecks", unfollowed := true, recurses := true, apart := false }
def OpChecksSaid : Prop := opChecksRow.holds Try.pinned (OpenSpec.ofChange opChecksSpec)

/-- ITS FALSE NEIGHBOUR: 'it returns false'. Refute it at one input. -/
def opChecksWrong : ChangeSpec := { name := "opChecks", fn := fun _ => fun
  | [d1, d2] => { results := [.lit (.bool false)], args := [d1, d2] }
  | _ => none }
def OpChecksWrongFalsely : Prop := opChecksRow.holds Try.pinned (OpenSpec.ofChange opChecksWrong)

/-- 'bullalaw06.OpBytes': WHATEVER THE INPUT: true; the input reads as it did. -/
def opBytesSpec : ChangeSpec := { name := "opBytes", fn := fun _ => fun
  | [d1, d2, d3] => { results := [.lit (.bool true)], args := [d1, d2, d3] }
  | _ => none }
def opBytesRow : OpenClaim := { program := "ytahbjkanmagndaa", sum := "4bc739a634add54443eac8399baf6db41a830c9dca9565abbe1fe809c5499407", func := "bulla/bullalaw06.OpBytes", spec := "opBytes", unfollowed := true, recurses := true, apart := false }
def OpBytesSaid : Prop := opBytesRow.holds Try.pinned (OpenSpec.ofChange opBytesSpec)

/-- ITS FALSE NEIGHBOUR: 'it returns false'. Refute it at one input. -/
def opBytesWrong : ChangeSpec := { name := "opBytes", fn := fun _ => fun
  | [d1, d2, d3] => { results := [.lit (.bool false)], args := [d1, d2, d3] }
  | _ => none }
def OpBytesWrongFalsely : Prop := opBytesRow.holds Try.pinned (OpenSpec.ofChange opBytesWrong)

/-- 'bullalaw06.OpBack': WHATEVER THE INPUT: true; the input reads as it did. -/
def opBackSpec : ChangeSpec := { name := "opBack", fn := fun _ => fun
  | [d1, d2] => { results := [.lit (.bool true)], args := [d1, d2] }
  | _ => none }
def opBackRow : OpenClaim := { program := "ytahbjkanmagndaa", sum := "4bc739a634add54443eac8399baf6db41a830c9dca9565abbe1fe809c5499407", func := "bulla/bullalaw06.OpBack", spec := "opBack", unfollowed := true, recurses := true, apart := false }
def OpBackSaid : Prop := opBackRow.holds Try.pinned (OpenSpec.ofChange opBackSpec)

/-- ITS FALSE NEIGHBOUR: 'it returns false'. Refute it at one input. -/
def opBackWrong : ChangeSpec := { name := "opBack", fn := fun _ => fun
  | [d1, d2] => { results := [.lit (.bool false)], args := [d1, d2] }
  | _ => none }
def OpBackWrongFalsely : Prop := opBackRow.holds Try.pinned (OpenSpec.ofChange opBackWrong)

/-- 'bullalaw06.OpReads': WHATEVER THE INPUT: true; the input reads as it did. -/
def opReadsSpec : ChangeSpec := { name := "opReads", fn := fun _ => fun
  | [d] => { results := [.lit (.bool true)], args := [d] }
  | _ => none }
def opReadsRow : OpenClaim := { program := "ytahbjkanmagndaa", sum := "4bc739a634add54443eac8399baf6db41a830c9dca9565abbe1fe809c5499407", func := "bulla/bullalaw06.OpReads", spec := "opReads", unfollowed := true, recurses := true, apart := false }
def OpReadsSaid : Prop := opReadsRow.holds Try.pinned (OpenSpec.ofChange opReadsSpec)

/-- ITS FALSE NEIGHBOUR: 'it returns false'. Refute it at one input. -/
def opReadsWrong : ChangeSpec := { name := "opReads", fn := fun _ => fun
  | [d] => { results := [.lit (.bool false)], args := [d] }
  | _ => none }
def OpReadsWrongFalsely : Prop := opReadsRow.holds Try.pinned (OpenSpec.ofChange opReadsWrong)

/- THE SECOND FORM. 'bulk': how many values and letters a reading holds, each counted each time it is reached (what is shared counts as often as it is met; a slice's spare places count too). A statement '..UptoSaid' is the law's where the arguments, and the package variables that the reading takes, are together of bulk at most 1048576: NARROWER than '..Said'. Prove '..Said' where nothing that the law and all that it calls make is longer than what came in: it says more and counts as full. Else prove '..UptoSaid'. A law counts once. -/
mutual
def uptoBulk {H : Type} : DataW H → Nat
  | .lit (.string bytes) => bytes.length + 1
  | .lit _ => 1
  | .nil => 1
  | .ptr d => uptoBulk d + 1
  | .slice elems spare => uptoBulkAll elems + uptoBulkAll spare + 1
  | .agg parts => uptoBulkAll parts + 1
  | .iface _ d => uptoBulk d + 1
  | .map entries => uptoBulkEntries entries + 1
  | .held _ => 1
def uptoBulkAll {H : Type} : List (DataW H) → Nat
  | [] => 0
  | d :: r => uptoBulk d + uptoBulkAll r
def uptoBulkEntries {H : Type} : List (Lit × DataW H) → Nat
  | [] => 0
  | x :: r => uptoBulkEntry x + uptoBulkEntries r
def uptoBulkEntry {H : Type} : Lit × DataW H → Nat
  | (.string bytes, d) => bytes.length + uptoBulk d + 1
  | (_, d) => uptoBulk d + 1
 end
def uptoSmall : (H : Type) → List (DataW H) → Bool := fun _ ds => decide (uptoBulkAll ds ≤ 1048576)
def OpenSpec.upto (s : _root_.Go.ChangeSpec) : _root_.Go.OpenSpec := { _root_.Go.OpenSpec.ofChange s with cond := some uptoSmall }

/-- 'bullalaw06.OpNames', WHERE WHAT IT READS IS OF BULK AT MOST 1048576: true; the input reads as it did. -/
def opNamesUptoRow : OpenClaim := { program := "ytahbjkanmagndaa", sum := "4bc739a634add54443eac8399baf6db41a830c9dca9565abbe1fe809c5499407", func := "bulla/bullalaw06.OpNames", spec := "opNames", unfollowed := true, recurses := true, apart := false, narrowed := true }
def OpNamesUptoSaid : Prop := opNamesUptoRow.holds Try.pinned (OpenSpec.upto opNamesSpec)

/-- 'bullalaw06.OpApart', WHERE WHAT IT READS IS OF BULK AT MOST 1048576: true; the input reads as it did. -/
def opApartUptoRow : OpenClaim := { program := "ytahbjkanmagndaa", sum := "4bc739a634add54443eac8399baf6db41a830c9dca9565abbe1fe809c5499407", func := "bulla/bullalaw06.OpApart", spec := "opApart", unfollowed := true, recurses := true, apart := false, narrowed := true }
def OpApartUptoSaid : Prop := opApartUptoRow.holds Try.pinned (OpenSpec.upto opApartSpec)

/-- 'bullalaw06.OpChecks', WHERE WHAT IT READS IS OF BULK AT MOST 1048576: true; the input reads as it did. -/
def opChecksUptoRow : OpenClaim := { program := "ytahbjkanmagndaa", sum := "4bc739a634add54443eac8399baf6db41a830c9dca9565abbe1fe809c5499407", func := "bulla/bullalaw06.OpChecks", spec := "opChecks", unfollowed := true, recurses := true, apart := false, narrowed := true }
def OpChecksUptoSaid : Prop := opChecksUptoRow.holds Try.pinned (OpenSpec.upto opChecksSpec)

/-- 'bullalaw06.OpBytes', WHERE WHAT IT READS IS OF BULK AT MOST 1048576: true; the input reads as it did. -/
def opBytesUptoRow : OpenClaim := { program := "ytahbjkanmagndaa", sum := "4bc739a634add54443eac8399baf6db41a830c9dca9565abbe1fe809c5499407", func := "bulla/bullalaw06.OpBytes", spec := "opBytes", unfollowed := true, recurses := true, apart := false, narrowed := true }
def OpBytesUptoSaid : Prop := opBytesUptoRow.holds Try.pinned (OpenSpec.upto opBytesSpec)

/-- 'bullalaw06.OpBack', WHERE WHAT IT READS IS OF BULK AT MOST 1048576: true; the input reads as it did. -/
def opBackUptoRow : OpenClaim := { program := "ytahbjkanmagndaa", sum := "4bc739a634add54443eac8399baf6db41a830c9dca9565abbe1fe809c5499407", func := "bulla/bullalaw06.OpBack", spec := "opBack", unfollowed := true, recurses := true, apart := false, narrowed := true }
def OpBackUptoSaid : Prop := opBackUptoRow.holds Try.pinned (OpenSpec.upto opBackSpec)

/-- 'bullalaw06.OpReads', WHERE WHAT IT READS IS OF BULK AT MOST 1048576: true; the input reads as it did. -/
def opReadsUptoRow : OpenClaim := { program := "ytahbjkanmagndaa", sum := "4bc739a634add54443eac8399baf6db41a830c9dca9565abbe1fe809c5499407", func := "bulla/bullalaw06.OpReads", spec := "opReads", unfollowed := true, recurses := true, apart := false, narrowed := true }
def OpReadsUptoSaid : Prop := opReadsUptoRow.holds Try.pinned (OpenSpec.upto opReadsSpec)

end Rows
end Go.Proofs.Ytahbjkanmagndaa

/-
  No cell of these rows narrows 'for every input' (looked for: loops, veiled, ifaces, maps, wideKeys, modest, calm, conditions, laid).
  DERIVED. THE GIVEN ROWS OF THIS SEAT. 5 by the template 'for every input the law returns true; each argument reads behind the call as it read before'; 0 by the template 'total and deterministic' (their statements: YtfnnejokhikefaaTotals.lean).
  GIVEN WITH THE SEED: the statements are not yours to turn. If you find one false, say at which input.
  Laid BY PROGRAM, IN A SANDBOX (cutbox-rows.mjs): the forced cells as the released guide's own fill.sh prints them over the translation 56a02f4c7dd7a0b2… (all of the seat's roots in one cut). By AI agents, Wed Nov 11 2026. No macro, syntax, notation, axiom, sorry.
-/
import Derived.Test.YtfnnejokhikefaaChecked
import GoSem.Claim
import GoSem.ClaimJoined
import GoSem.ClaimMapViews
import Derived.JoinedTies
import Derived.KernelRfl
namespace Go.Proofs.Ytfnnejokhikefaa
/- THE CELL 'sum', in the pinned program and in every row, IS THE sha256 OF THE DUMP (.gsa) THAT YtfnnejokhikefaaProg.lean LOADS. Nothing in Lean hashes anything: it is a label: what it is worth is what the hold of that sum in a sandbox is worth. -/
noncomputable def Try.pinned : Pinned := { name := "ytfnnejokhikefaa", sum := "56a02f4c7dd7a0b2af28d15daff0ff613cd6bbbfed16985e8ecc7db998e13166", checked := Try.checked }
namespace Rows
def none {H : Type} : Left H := { results := [], args := [] }

/-- 'bullalaw18.PoolOnce': WHATEVER THE INPUT: true; the input reads as it did. -/
def poolOnceSpec : ChangeSpec := { name := "poolOnce", fn := fun _ => fun
  | [d1, d2] => { results := [.lit (.bool true)], args := [d1, d2] }
  | _ => none }
def poolOnceRow : OpenClaim := { program := "ytfnnejokhikefaa", sum := "56a02f4c7dd7a0b2af28d15daff0ff613cd6bbbfed16985e8ecc7db998e13166", func := "bulla/bullalaw18.PoolOnce", spec := "poolOnce", unfollowed := true, recurses := true, apart := false }
def PoolOnceSaid : Prop := poolOnceRow.holds Try.pinned (OpenSpec.ofChange poolOnceSpec)

/-- ITS FALSE NEIGHBOUR: 'it returns false'. Refute it at one input. -/
def poolOnceWrong : ChangeSpec := { name := "poolOnce", fn := fun _ => fun
  | [d1, d2] => { results := [.lit (.bool false)], args := [d1, d2] }
  | _ => none }
def PoolOnceWrongFalsely : Prop := poolOnceRow.holds Try.pinned (OpenSpec.ofChange poolOnceWrong)

/-- 'bullalaw18.PoolLatest': WHATEVER THE INPUT: true; the input reads as it did. -/
def poolLatestSpec : ChangeSpec := { name := "poolLatest", fn := fun _ => fun
  | [d] => { results := [.lit (.bool true)], args := [d] }
  | _ => none }
def poolLatestRow : OpenClaim := { program := "ytfnnejokhikefaa", sum := "56a02f4c7dd7a0b2af28d15daff0ff613cd6bbbfed16985e8ecc7db998e13166", func := "bulla/bullalaw18.PoolLatest", spec := "poolLatest", unfollowed := true, recurses := true, apart := false }
def PoolLatestSaid : Prop := poolLatestRow.holds Try.pinned (OpenSpec.ofChange poolLatestSpec)

/-- ITS FALSE NEIGHBOUR: 'it returns false'. Refute it at one input. -/
def poolLatestWrong : ChangeSpec := { name := "poolLatest", fn := fun _ => fun
  | [d] => { results := [.lit (.bool false)], args := [d] }
  | _ => none }
def PoolLatestWrongFalsely : Prop := poolLatestRow.holds Try.pinned (OpenSpec.ofChange poolLatestWrong)

/-- 'bullalaw18.PoolFrom': WHATEVER THE INPUT: true; the input reads as it did. -/
def poolFromSpec : ChangeSpec := { name := "poolFrom", fn := fun _ => fun
  | [d] => { results := [.lit (.bool true)], args := [d] }
  | _ => none }
def poolFromRow : OpenClaim := { program := "ytfnnejokhikefaa", sum := "56a02f4c7dd7a0b2af28d15daff0ff613cd6bbbfed16985e8ecc7db998e13166", func := "bulla/bullalaw18.PoolFrom", spec := "poolFrom", unfollowed := true, recurses := true, apart := false }
def PoolFromSaid : Prop := poolFromRow.holds Try.pinned (OpenSpec.ofChange poolFromSpec)

/-- ITS FALSE NEIGHBOUR: 'it returns false'. Refute it at one input. -/
def poolFromWrong : ChangeSpec := { name := "poolFrom", fn := fun _ => fun
  | [d] => { results := [.lit (.bool false)], args := [d] }
  | _ => none }
def PoolFromWrongFalsely : Prop := poolFromRow.holds Try.pinned (OpenSpec.ofChange poolFromWrong)

/-- 'bullalaw18.PoolDoes': WHATEVER THE INPUT: true; the input reads as it did. -/
def poolDoesSpec : ChangeSpec := { name := "poolDoes", fn := fun _ => fun
  | [d] => { results := [.lit (.bool true)], args := [d] }
  | _ => none }
def poolDoesRow : OpenClaim := { program := "ytfnnejokhikefaa", sum := "56a02f4c7dd7a0b2af28d15daff0ff613cd6bbbfed16985e8ecc7db998e13166", func := "bulla/bullalaw18.PoolDoes", spec := "poolDoes", unfollowed := true, recurses := true, apart := false }
def PoolDoesSaid : Prop := poolDoesRow.holds Try.pinned (OpenSpec.ofChange poolDoesSpec)

/-- ITS FALSE NEIGHBOUR: 'it returns false'. Refute it at one input. -/
def poolDoesWrong : ChangeSpec := { name := "poolDoes", fn := fun _ => fun
  | [d] => { results := [.lit (.bool false)], args := [d] }
  | _ => none }
def PoolDoesWrongFalsely : Prop := poolDoesRow.holds Try.pinned (OpenSpec.ofChange poolDoesWrong)

/-- 'bullalaw18.PoolNone': WHATEVER THE INPUT: true; the input reads as it did. -/
def poolNoneSpec : ChangeSpec := { name := "poolNone", fn := fun _ => fun
  | [d] => { results := [.lit (.bool true)], args := [d] }
  | _ => none }
def poolNoneRow : OpenClaim := { program := "ytfnnejokhikefaa", sum := "56a02f4c7dd7a0b2af28d15daff0ff613cd6bbbfed16985e8ecc7db998e13166", func := "bulla/bullalaw18.PoolNone", spec := "poolNone", unfollowed := true, recurses := true, apart := false }
def PoolNoneSaid : Prop := poolNoneRow.holds Try.pinned (OpenSpec.ofChange poolNoneSpec)

/-- ITS FALSE NEIGHBOUR: 'it returns false'. Refute it at one input. -/
def poolNoneWrong : ChangeSpec := { name := "poolNone", fn := fun _ => fun
  | [d] => { results := [.lit (.bool false)], args := [d] }
  | _ => none }
def PoolNoneWrongFalsely : Prop := poolNoneRow.holds Try.pinned (OpenSpec.ofChange poolNoneWrong)

/- THE SECOND FORM. 'bulk': how many values and letters a reading holds, each counted each time it is reached (what is shared counts as often as it is met; a slice's spare places count too). A statement '..UptoSaid' is the law's where the arguments, and the package variables that the reading takes, are together of bulk at most 1048576: NARROWER than '..Said'. Prove '..Said' where nothing that the law and all that it calls make is longer than what came in: it says more and counts as full. Else prove '..UptoSaid'. A law counts once. -/
mutual
def uptoBulk {H : Type} : DataW H → Nat
  | .lit (.string bytes) => bytes.length + 1
  | .lit _ => 1
  | .nil => 1
  | .ptr d => uptoBulk d + 1
  | .slice elems spare => uptoBulkAll elems + uptoBulkAll spare + 1
  | .agg parts => uptoBulkAll parts + 1
  | .iface _ d => uptoBulk d + 1
  | .map entries => uptoBulkEntries entries + 1
  | .held _ => 1
def uptoBulkAll {H : Type} : List (DataW H) → Nat
  | [] => 0
  | d :: r => uptoBulk d + uptoBulkAll r
def uptoBulkEntries {H : Type} : List (Lit × DataW H) → Nat
  | [] => 0
  | x :: r => uptoBulkEntry x + uptoBulkEntries r
def uptoBulkEntry {H : Type} : Lit × DataW H → Nat
  | (.string bytes, d) => bytes.length + uptoBulk d + 1
  | (_, d) => uptoBulk d + 1
 end
def uptoSmall : (H : Type) → List (DataW H) → Bool := fun _ ds => decide (uptoBulkAll ds ≤ 1048576)
def OpenSpec.upto (s : _root_.Go.ChangeSpec) : _root_.Go.OpenSpec := { _root_.Go.OpenSpec.ofChange s with cond := some uptoSmall }

/-- 'bullalaw18.PoolOnce', WHERE WHAT IT READS IS OF BULK AT MOST 1048576: true; the input reads as it did. -/
def poolOnceUptoRow : OpenClaim := { program := "ytfnnejokhikefaa", sum := "56a02f4c7dd7a0b2af28d15daff0ff613cd6bbbfed16985e8ecc7db998e13166", func := "bulla/bullalaw18.PoolOnce", spec := "poolOnce", unfollowed := true, recurses := true, apart := false, narrowed := true }
def PoolOnceUptoSaid : Prop := poolOnceUptoRow.holds Try.pinned (OpenSpec.upto poolOnceSpec)

/-- 'bullalaw18.PoolLatest', WHERE WHAT IT READS IS OF BULK AT MOST 1048576: true; the input reads as it did. -/
def poolLatestUptoRow : OpenClaim := { program := "ytfnnejokhikefaa", sum := "56a02f4c7dd7a0b2af28d15daff0ff613cd6bbbfed16985e8ecc7db998e13166", func := "bulla/bullalaw18.PoolLatest", spec := "poolLatest", unfollowed := true, recurses := true, apart := false, narrowed := true }
def PoolLatestUptoSaid : Prop := poolLatestUptoRow.holds Try.pinned (OpenSpec.upto poolLatestSpec)

/-- 'bullalaw18.PoolFrom', WHERE WHAT IT READS IS OF BULK AT MOST 1048576: true; the input reads as it did. -/
def poolFromUptoRow : OpenClaim := { program := "ytfnnejokhikefaa", sum := "56a02f4c7dd7a0b2af28d15daff0ff613cd6bbbfed16985e8ecc7db998e13166", func := "bulla/bullalaw18.PoolFrom", spec := "poolFrom", unfollowed := true, recurses := true, apart := false, narrowed := true }
def PoolFromUptoSaid : Prop := poolFromUptoRow.holds Try.pinned (OpenSpec.upto poolFromSpec)

/-- 'bullalaw18.PoolDoes', WHERE WHAT IT READS IS OF BULK AT MOST 1048576: true; the input reads as it did. -/
def poolDoesUptoRow : OpenClaim := { program := "ytfnnejokhikefaa", sum := "56a02f4c7dd7a0b2af28d15daff0ff613cd6bbbfed16985e8ecc7db998e13166", func := "bulla/bullalaw18.PoolDoes", spec := "poolDoes", unfollowed := true, recurses := true, apart := false, narrowed := true }
def PoolDoesUptoSaid : Prop := poolDoesUptoRow.holds Try.pinned (OpenSpec.upto poolDoesSpec)

/-- 'bullalaw18.PoolNone', WHERE WHAT IT READS IS OF BULK AT MOST 1048576: true; the input reads as it did. -/
def poolNoneUptoRow : OpenClaim := { program := "ytfnnejokhikefaa", sum := "56a02f4c7dd7a0b2af28d15daff0ff613cd6bbbfed16985e8ecc7db998e13166", func := "bulla/bullalaw18.PoolNone", spec := "poolNone", unfollowed := true, recurses := true, apart := false, narrowed := true }
def PoolNoneUptoSaid : Prop := poolNoneUptoRow.holds Try.pinned (OpenSpec.upto poolNoneSpec)

end Rows
end Go.Proofs.Ytfnnejokhikefaa

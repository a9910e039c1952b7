/-
  No cell of these rows narrows 'for every input' (looked for: loops, veiled, ifaces, maps, wideKeys, modest, calm, conditions, laid).
  DERIVED. THE GIVEN ROWS OF THIS SEAT. 3 by the template 'for every input the law returns true; each argument reads behind the call as it read before'; 0 by the template 'total and deterministic' (their statements: YtjjchfbckfopkaaGreatTotals.lean).
  GIVEN WITH THE SEED: the statements are not yours to turn. If you find one false, say at which input.
  Laid BY PROGRAM, IN A SANDBOX (cutbox-rows.mjs): the forced cells as the released guide's own fill.sh prints them over the translation 7ca8d4dcfe04c92a… (all of the seat's roots in one cut). By AI agents, Wed Nov 11 2026. No macro, syntax, notation, axiom, sorry.
-/
import Derived.Test.YtjjchfbckfopkaaGreatChecked
import GoSem.Claim
import GoSem.ClaimJoined
import GoSem.ClaimMapViews
import Derived.JoinedTies
import Derived.KernelRfl
namespace Go.Proofs.YtjjchfbckfopkaaGreat
/- THE CELL 'sum', in the pinned program and in every row, IS THE sha256 OF THE DUMP (.gsa) THAT YtjjchfbckfopkaaGreatProg.lean LOADS. Nothing in Lean hashes anything: it is a label: what it is worth is what the hold of that sum in a sandbox is worth. -/
noncomputable def Tryz.pinned : Pinned := { name := "ytjjchfbckfopkaagreat", sum := "7ca8d4dcfe04c92ac88ae0971f44a6d37e215f7a0780706ebe2e1fbf42acc711", checked := Tryz.checked }
namespace Rows
def none {H : Type} : Left H := { results := [], args := [] }

/-- 'bullalaw15.PreparedNone': WHATEVER THE INPUT: true; the input reads as it did. -/
def preparedNoneSpec : ChangeSpec := { name := "preparedNone", fn := fun _ => fun
  | [d1, d2] => { results := [.lit (.bool true)], args := [d1, d2] }
  | _ => none }
def preparedNoneRow : OpenClaim := { program := "ytjjchfbckfopkaagreat", sum := "7ca8d4dcfe04c92ac88ae0971f44a6d37e215f7a0780706ebe2e1fbf42acc711", func := "bulla/bullalaw15.PreparedNone", spec := "preparedNone", unfollowed := true, recurses := true, plainKeys := false, apart := false }
def PreparedNoneSaid : Prop := preparedNoneRow.holds Tryz.pinned (OpenSpec.ofChange preparedNoneSpec)

/-- ITS FALSE NEIGHBOUR: 'it returns false'. Refute it at one input. -/
def preparedNoneWrong : ChangeSpec := { name := "preparedNone", fn := fun _ => fun
  | [d1, d2] => { results := [.lit (.bool false)], args := [d1, d2] }
  | _ => none }
def PreparedNoneWrongFalsely : Prop := preparedNoneRow.holds Tryz.pinned (OpenSpec.ofChange preparedNoneWrong)

/-- 'bullalaw15.PreparedFrom': WHATEVER THE INPUT: true; the input reads as it did. -/
def preparedFromSpec : ChangeSpec := { name := "preparedFrom", fn := fun _ => fun
  | [d1, d2, d3] => { results := [.lit (.bool true)], args := [d1, d2, d3] }
  | _ => none }
def preparedFromRow : OpenClaim := { program := "ytjjchfbckfopkaagreat", sum := "7ca8d4dcfe04c92ac88ae0971f44a6d37e215f7a0780706ebe2e1fbf42acc711", func := "bulla/bullalaw15.PreparedFrom", spec := "preparedFrom", unfollowed := true, recurses := true, plainKeys := false, apart := false }
def PreparedFromSaid : Prop := preparedFromRow.holds Tryz.pinned (OpenSpec.ofChange preparedFromSpec)

/-- ITS FALSE NEIGHBOUR: 'it returns false'. Refute it at one input. -/
def preparedFromWrong : ChangeSpec := { name := "preparedFrom", fn := fun _ => fun
  | [d1, d2, d3] => { results := [.lit (.bool false)], args := [d1, d2, d3] }
  | _ => none }
def PreparedFromWrongFalsely : Prop := preparedFromRow.holds Tryz.pinned (OpenSpec.ofChange preparedFromWrong)

/-- 'bullalaw15.PreparedHolds': WHATEVER THE INPUT: true; the input reads as it did. -/
def preparedHoldsSpec : ChangeSpec := { name := "preparedHolds", fn := fun _ => fun
  | [d1, d2] => { results := [.lit (.bool true)], args := [d1, d2] }
  | _ => none }
def preparedHoldsRow : OpenClaim := { program := "ytjjchfbckfopkaagreat", sum := "7ca8d4dcfe04c92ac88ae0971f44a6d37e215f7a0780706ebe2e1fbf42acc711", func := "bulla/bullalaw15.PreparedHolds", spec := "preparedHolds", unfollowed := true, recurses := true, plainKeys := false, apart := false }
def PreparedHoldsSaid : Prop := preparedHoldsRow.holds Tryz.pinned (OpenSpec.ofChange preparedHoldsSpec)

/-- ITS FALSE NEIGHBOUR: 'it returns false'. Refute it at one input. -/
def preparedHoldsWrong : ChangeSpec := { name := "preparedHolds", fn := fun _ => fun
  | [d1, d2] => { results := [.lit (.bool false)], args := [d1, d2] }
  | _ => none }
def PreparedHoldsWrongFalsely : Prop := preparedHoldsRow.holds Tryz.pinned (OpenSpec.ofChange preparedHoldsWrong)

/- THE SECOND FORM. 'bulk': how many values and letters a reading holds, each counted each time it is reached (what is shared counts as often as it is met; a slice's spare places count too). A statement '..UptoSaid' is the law's where the arguments, and the package variables that the reading takes, are together of bulk at most 1048576: NARROWER than '..Said'. Prove '..Said' where nothing that the law and all that it calls make is longer than what came in: it says more and counts as full. Else prove '..UptoSaid'. A law counts once. -/
mutual
def uptoBulk {H : Type} : DataW H → Nat
  | .lit (.string bytes) => bytes.length + 1
  | .lit _ => 1
  | .nil => 1
  | .ptr d => uptoBulk d + 1
  | .slice elems spare => uptoBulkAll elems + uptoBulkAll spare + 1
  | .agg parts => uptoBulkAll parts + 1
  | .iface _ d => uptoBulk d + 1
  | .map entries => uptoBulkEntries entries + 1
  | .held _ => 1
def uptoBulkAll {H : Type} : List (DataW H) → Nat
  | [] => 0
  | d :: r => uptoBulk d + uptoBulkAll r
def uptoBulkEntries {H : Type} : List (Lit × DataW H) → Nat
  | [] => 0
  | x :: r => uptoBulkEntry x + uptoBulkEntries r
def uptoBulkEntry {H : Type} : Lit × DataW H → Nat
  | (.string bytes, d) => bytes.length + uptoBulk d + 1
  | (_, d) => uptoBulk d + 1
 end
def uptoSmall : (H : Type) → List (DataW H) → Bool := fun _ ds => decide (uptoBulkAll ds ≤ 1048576)
def OpenSpec.upto (s : _root_.Go.ChangeSpec) : _root_.Go.OpenSpec := { _root_.Go.OpenSpec.ofChange s with cond := some uptoSmall }

/-- 'bullalaw15.PreparedNone', WHERE WHAT IT READS IS OF BULK AT MOST 1048576: true; the input reads as it did. -/
def preparedNoneUptoRow : OpenClaim := { program := "ytjjchfbckfopkaagreat", sum := "7ca8d4dcfe04c92ac88ae0971f44a6d37e215f7a0780706ebe2e1fbf42acc711", func := "bulla/bullalaw15.PreparedNone", spec := "preparedNone", unfollowed := true, recurses := true, plainKeys := false, apart := false, narrowed := true }
def PreparedNoneUptoSaid : Prop := preparedNoneUptoRow.holds Tryz.pinned (OpenSpec.upto preparedNoneSpec)

/-- 'bullalaw15.PreparedFrom', WHERE WHAT IT READS IS OF BULK AT MOST 1048576: true; the input reads as it did. -/
def preparedFromUptoRow : OpenClaim := { program := "ytjjchfbckfopkaagreat", sum := "7ca8d4dcfe04c92ac88ae0971f44a6d37e215f7a0780706ebe2e1fbf42acc711", func := "bulla/bullalaw15.PreparedFrom", spec := "preparedFrom", unfollowed := true, recurses := true, plainKeys := false, apart := false, narrowed := true }
def PreparedFromUptoSaid : Prop := preparedFromUptoRow.holds Tryz.pinned (OpenSpec.upto preparedFromSpec)

/-- 'bullalaw15.PreparedHolds', WHERE WHAT IT READS IS OF BULK AT MOST 1048576: true; the input reads as it did. -/
def preparedHoldsUptoRow : OpenClaim := { program := "ytjjchfbckfopkaagreat", sum := "7ca8d4dcfe04c92ac88ae0971f44a6d37e215f7a0780706ebe2e1fbf42acc711", func := "bulla/bullalaw15.PreparedHolds", spec := "preparedHolds", unfollowed := true, recurses := true, plainKeys := false, apart := false, narrowed := true }
def PreparedHoldsUptoSaid : Prop := preparedHoldsUptoRow.holds Tryz.pinned (OpenSpec.upto preparedHoldsSpec)

end Rows
end Go.Proofs.YtjjchfbckfopkaaGreat

/-
  No cell of these rows narrows 'for every input' (looked for: loops, veiled, ifaces, maps, wideKeys, modest, calm, conditions, laid).
  DERIVED. THE GIVEN ROWS OF THIS SEAT. 3 by the template 'for every input the law returns true; each argument reads behind the call as it read before'; 0 by the template 'total and deterministic' (their statements: YtndpnfbcnmebjaaTotals.lean).
  GIVEN WITH THE SEED: the statements are not yours to turn. If you find one false, say at which input.
  Laid BY PROGRAM, IN A SANDBOX (cutbox-rows.mjs): the forced cells as the released guide's own fill.sh prints them over the translation ac8a9bd7578204fa… (all of the seat's roots in one cut). By AI agents, Wed Nov 11 2026. No macro, syntax, notation, axiom, sorry.
-/
import Derived.Test.YtndpnfbcnmebjaaChecked
import GoSem.Claim
import GoSem.ClaimJoined
import GoSem.ClaimMapViews
import Derived.JoinedTies
import Derived.KernelRfl
namespace Go.Proofs.Ytndpnfbcnmebjaa
/- THE CELL 'sum', in the pinned program and in every row, IS THE sha256 OF THE DUMP (.gsa) THAT YtndpnfbcnmebjaaProg.lean LOADS. Nothing in Lean hashes anything: it is a label: what it is worth is what the hold of that sum in a sandbox is worth. -/
noncomputable def Try.pinned : Pinned := { name := "ytndpnfbcnmebjaa", sum := "ac8a9bd7578204faaf33bf5b5f4d6ee412cec28b5723e95dd3467dd757d45b2d", checked := Try.checked }
namespace Rows
def none {H : Type} : Left H := { results := [], args := [] }

/-- 'bullalaw16.NewviewSelects': WHATEVER THE INPUT: true; the input reads as it did. -/
def newviewSelectsSpec : ChangeSpec := { name := "newviewSelects", fn := fun _ => fun
  | [d1, d2, d3] => { results := [.lit (.bool true)], args := [d1, d2, d3] }
  | _ => none }
def newviewSelectsRow : OpenClaim := { program := "ytndpnfbcnmebjaa", sum := "ac8a9bd7578204faaf33bf5b5f4d6ee412cec28b5723e95dd3467dd757d45b2d", func := "bulla/bullalaw16.NewviewSelects", spec := "newviewSelects", apart := false }
def NewviewSelectsSaid : Prop := newviewSelectsRow.holds Try.pinned (OpenSpec.ofChange newviewSelectsSpec)

/-- ITS FALSE NEIGHBOUR: 'it returns false'. Refute it at one input. -/
def newviewSelectsWrong : ChangeSpec := { name := "newviewSelects", fn := fun _ => fun
  | [d1, d2, d3] => { results := [.lit (.bool false)], args := [d1, d2, d3] }
  | _ => none }
def NewviewSelectsWrongFalsely : Prop := newviewSelectsRow.holds Try.pinned (OpenSpec.ofChange newviewSelectsWrong)

/-- 'bullalaw16.NewviewGaps': WHATEVER THE INPUT: true; the input reads as it did. -/
def newviewGapsSpec : ChangeSpec := { name := "newviewGaps", fn := fun _ => fun
  | [d1, d2, d3] => { results := [.lit (.bool true)], args := [d1, d2, d3] }
  | _ => none }
def newviewGapsRow : OpenClaim := { program := "ytndpnfbcnmebjaa", sum := "ac8a9bd7578204faaf33bf5b5f4d6ee412cec28b5723e95dd3467dd757d45b2d", func := "bulla/bullalaw16.NewviewGaps", spec := "newviewGaps", apart := false }
def NewviewGapsSaid : Prop := newviewGapsRow.holds Try.pinned (OpenSpec.ofChange newviewGapsSpec)

/-- ITS FALSE NEIGHBOUR: 'it returns false'. Refute it at one input. -/
def newviewGapsWrong : ChangeSpec := { name := "newviewGaps", fn := fun _ => fun
  | [d1, d2, d3] => { results := [.lit (.bool false)], args := [d1, d2, d3] }
  | _ => none }
def NewviewGapsWrongFalsely : Prop := newviewGapsRow.holds Try.pinned (OpenSpec.ofChange newviewGapsWrong)

/-- 'bullalaw16.NewviewKeeps': WHATEVER THE INPUT: true; the input reads as it did. -/
def newviewKeepsSpec : ChangeSpec := { name := "newviewKeeps", fn := fun _ => fun
  | [d1, d2, d3, d4, d5, d6] => { results := [.lit (.bool true)], args := [d1, d2, d3, d4, d5, d6] }
  | _ => none }
def newviewKeepsRow : OpenClaim := { program := "ytndpnfbcnmebjaa", sum := "ac8a9bd7578204faaf33bf5b5f4d6ee412cec28b5723e95dd3467dd757d45b2d", func := "bulla/bullalaw16.NewviewKeeps", spec := "newviewKeeps", unfollowed := true, recurses := true, apart := false }
def NewviewKeepsSaid : Prop := newviewKeepsRow.holds Try.pinned (OpenSpec.ofChange newviewKeepsSpec)

/-- ITS FALSE NEIGHBOUR: 'it returns false'. Refute it at one input. -/
def newviewKeepsWrong : ChangeSpec := { name := "newviewKeeps", fn := fun _ => fun
  | [d1, d2, d3, d4, d5, d6] => { results := [.lit (.bool false)], args := [d1, d2, d3, d4, d5, d6] }
  | _ => none }
def NewviewKeepsWrongFalsely : Prop := newviewKeepsRow.holds Try.pinned (OpenSpec.ofChange newviewKeepsWrong)

/- THE SECOND FORM. 'bulk': how many values and letters a reading holds, each counted each time it is reached (what is shared counts as often as it is met; a slice's spare places count too). A statement '..UptoSaid' is the law's where the arguments, and the package variables that the reading takes, are together of bulk at most 1048576: NARROWER than '..Said'. Prove '..Said' where nothing that the law and all that it calls make is longer than what came in: it says more and counts as full. Else prove '..UptoSaid'. A law counts once. -/
mutual
def uptoBulk {H : Type} : DataW H → Nat
  | .lit (.string bytes) => bytes.length + 1
  | .lit _ => 1
  | .nil => 1
  | .ptr d => uptoBulk d + 1
  | .slice elems spare => uptoBulkAll elems + uptoBulkAll spare + 1
  | .agg parts => uptoBulkAll parts + 1
  | .iface _ d => uptoBulk d + 1
  | .map entries => uptoBulkEntries entries + 1
  | .held _ => 1
def uptoBulkAll {H : Type} : List (DataW H) → Nat
  | [] => 0
  | d :: r => uptoBulk d + uptoBulkAll r
def uptoBulkEntries {H : Type} : List (Lit × DataW H) → Nat
  | [] => 0
  | x :: r => uptoBulkEntry x + uptoBulkEntries r
def uptoBulkEntry {H : Type} : Lit × DataW H → Nat
  | (.string bytes, d) => bytes.length + uptoBulk d + 1
  | (_, d) => uptoBulk d + 1
 end
def uptoSmall : (H : Type) → List (DataW H) → Bool := fun _ ds => decide (uptoBulkAll ds ≤ 1048576)
def OpenSpec.upto (s : _root_.Go.ChangeSpec) : _root_.Go.OpenSpec := { _root_.Go.OpenSpec.ofChange s with cond := some uptoSmall }

/-- 'bullalaw16.NewviewSelects', WHERE WHAT IT READS IS OF BULK AT MOST 1048576: true; the input reads as it did. -/
def newviewSelectsUptoRow : OpenClaim := { program := "ytndpnfbcnmebjaa", sum := "ac8a9bd7578204faaf33bf5b5f4d6ee412cec28b5723e95dd3467dd757d45b2d", func := "bulla/bullalaw16.NewviewSelects", spec := "newviewSelects", apart := false, narrowed := true }
def NewviewSelectsUptoSaid : Prop := newviewSelectsUptoRow.holds Try.pinned (OpenSpec.upto newviewSelectsSpec)

/-- 'bullalaw16.NewviewGaps', WHERE WHAT IT READS IS OF BULK AT MOST 1048576: true; the input reads as it did. -/
def newviewGapsUptoRow : OpenClaim := { program := "ytndpnfbcnmebjaa", sum := "ac8a9bd7578204faaf33bf5b5f4d6ee412cec28b5723e95dd3467dd757d45b2d", func := "bulla/bullalaw16.NewviewGaps", spec := "newviewGaps", apart := false, narrowed := true }
def NewviewGapsUptoSaid : Prop := newviewGapsUptoRow.holds Try.pinned (OpenSpec.upto newviewGapsSpec)

/-- 'bullalaw16.NewviewKeeps', WHERE WHAT IT READS IS OF BULK AT MOST 1048576: true; the input reads as it did. -/
def newviewKeepsUptoRow : OpenClaim := { program := "ytndpnfbcnmebjaa", sum := "ac8a9bd7578204faaf33bf5b5f4d6ee412cec28b5723e95dd3467dd757d45b2d", func := "bulla/bullalaw16.NewviewKeeps", spec := "newviewKeeps", unfollowed := true, recurses := true, apart := false, narrowed := true }
def NewviewKeepsUptoSaid : Prop := newviewKeepsUptoRow.holds Try.pinned (OpenSpec.upto newviewKeepsSpec)

end Rows
end Go.Proofs.Ytndpnfbcnmebjaa

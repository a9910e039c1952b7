/-
  No cell of these rows narrows 'for every input' (looked for: loops, veiled, ifaces, maps, wideKeys, modest, calm, conditions, laid).
  DERIVED. THE GIVEN ROWS OF THIS SEAT. 3 by the template 'for every input the law returns true; each argument reads behind the call as it read before'; 0 by the template 'total and deterministic' (their statements: YthpnelbciibjeaaGreatTotals.lean).
  GIVEN WITH THE SEED: the statements are not yours to turn. If you find one false, say at which input.
  Laid BY PROGRAM, IN A SANDBOX (cutbox-rows.mjs): the forced cells as the released guide's own fill.sh prints them over the translation 8e8315fda904556a… (all of the seat's roots in one cut). By AI agents, Wed Nov 11 2026. No macro, syntax, notation, axiom, sorry.
-/
import Derived.Test.YthpnelbciibjeaaGreatChecked
import GoSem.Claim
import GoSem.ClaimJoined
import GoSem.ClaimMapViews
import Derived.JoinedTies
import Derived.KernelRfl
namespace Go.Proofs.YthpnelbciibjeaaGreat
/- THE CELL 'sum', in the pinned program and in every row, IS THE sha256 OF THE DUMP (.gsa) THAT YthpnelbciibjeaaGreatProg.lean LOADS. Nothing in Lean hashes anything: it is a label: what it is worth is what the hold of that sum in a sandbox is worth. -/
noncomputable def Tryz.pinned : Pinned := { name := "ythpnelbciibjeaagreat", sum := "8e8315fda904556af063547a1f695d03c65e4fff2dd97a4b9af822236b7f7e78", checked := Tryz.checked }
namespace Rows
def none {H : Type} : Left H := { results := [], args := [] }

/-- 'bullalaw09.BlockPast': WHATEVER THE INPUT: true; the input reads as it did. -/
def blockPastSpec : ChangeSpec := { name := "blockPast", fn := fun _ => fun
  | [d1, d2] => { results := [.lit (.bool true)], args := [d1, d2] }
  | _ => none }
def blockPastRow : OpenClaim := { program := "ythpnelbciibjeaagreat", sum := "8e8315fda904556af063547a1f695d03c65e4fff2dd97a4b9af822236b7f7e78", func := "bulla/bullalaw09.BlockPast", spec := "blockPast", inPlace := ["maps.clone"], unfollowed := true, recurses := true, apart := false }
def BlockPastSaid : Prop := blockPastRow.holds Tryz.pinned (OpenSpec.ofChange blockPastSpec)

/-- ITS FALSE NEIGHBOUR: 'it returns false'. Refute it at one input. -/
def blockPastWrong : ChangeSpec := { name := "blockPast", fn := fun _ => fun
  | [d1, d2] => { results := [.lit (.bool false)], args := [d1, d2] }
  | _ => none }
def BlockPastWrongFalsely : Prop := blockPastRow.holds Tryz.pinned (OpenSpec.ofChange blockPastWrong)

/-- 'bullalaw09.BlockHeaders': WHATEVER THE INPUT: true; the input reads as it did. -/
def blockHeadersSpec : ChangeSpec := { name := "blockHeaders", fn := fun _ => fun
  | [d1, d2] => { results := [.lit (.bool true)], args := [d1, d2] }
  | _ => none }
def blockHeadersRow : OpenClaim := { program := "ythpnelbciibjeaagreat", sum := "8e8315fda904556af063547a1f695d03c65e4fff2dd97a4b9af822236b7f7e78", func := "bulla/bullalaw09.BlockHeaders", spec := "blockHeaders", inPlace := ["maps.clone"], unfollowed := true, recurses := true, apart := false }
def BlockHeadersSaid : Prop := blockHeadersRow.holds Tryz.pinned (OpenSpec.ofChange blockHeadersSpec)

/-- ITS FALSE NEIGHBOUR: 'it returns false'. Refute it at one input. -/
def blockHeadersWrong : ChangeSpec := { name := "blockHeaders", fn := fun _ => fun
  | [d1, d2] => { results := [.lit (.bool false)], args := [d1, d2] }
  | _ => none }
def BlockHeadersWrongFalsely : Prop := blockHeadersRow.holds Tryz.pinned (OpenSpec.ofChange blockHeadersWrong)

/-- 'bullalaw09.BlockBack': WHATEVER THE INPUT: true; the input reads as it did. -/
def blockBackSpec : ChangeSpec := { name := "blockBack", fn := fun _ => fun
  | [d1, d2] => { results := [.lit (.bool true)], args := [d1, d2] }
  | _ => none }
def blockBackRow : OpenClaim := { program := "ythpnelbciibjeaagreat", sum := "8e8315fda904556af063547a1f695d03c65e4fff2dd97a4b9af822236b7f7e78", func := "bulla/bullalaw09.BlockBack", spec := "blockBack", inPlace := ["maps.clone"], unfollowed := true, recurses := true, apart := false }
def BlockBackSaid : Prop := blockBackRow.holds Tryz.pinned (OpenSpec.ofChange blockBackSpec)

/-- ITS FALSE NEIGHBOUR: 'it returns false'. Refute it at one input. -/
def blockBackWrong : ChangeSpec := { name := "blockBack", fn := fun _ => fun
  | [d1, d2] => { results := [.lit (.bool false)], args := [d1, d2] }
  | _ => none }
def BlockBackWrongFalsely : Prop := blockBackRow.holds Tryz.pinned (OpenSpec.ofChange blockBackWrong)

/- THE SECOND FORM. 'bulk': how many values and letters a reading holds, each counted each time it is reached (what is shared counts as often as it is met; a slice's spare places count too). A statement '..UptoSaid' is the law's where the arguments, and the package variables that the reading takes, are together of bulk at most 1048576: NARROWER than '..Said'. Prove '..Said' where nothing that the law and all that it calls make is longer than what came in: it says more and counts as full. Else prove '..UptoSaid'. A law counts once. -/
mutual
def uptoBulk {H : Type} : DataW H → Nat
  | .lit (.string bytes) => bytes.length + 1
  | .lit _ => 1
  | .nil => 1
  | .ptr d => uptoBulk d + 1
  | .slice elems spare => uptoBulkAll elems + uptoBulkAll spare + 1
  | .agg parts => uptoBulkAll parts + 1
  | .iface _ d => uptoBulk d + 1
  | .map entries => uptoBulkEntries entries + 1
  | .held _ => 1
def uptoBulkAll {H : Type} : List (DataW H) → Nat
  | [] => 0
  | d :: r => uptoBulk d + uptoBulkAll r
def uptoBulkEntries {H : Type} : List (Lit × DataW H) → Nat
  | [] => 0
  | x :: r => uptoBulkEntry x + uptoBulkEntries r
def uptoBulkEntry {H : Type} : Lit × DataW H → Nat
  | (.string bytes, d) => bytes.length + uptoBulk d + 1
  | (_, d) => uptoBulk d + 1
 end
def uptoSmall : (H : Type) → List (DataW H) → Bool := fun _ ds => decide (uptoBulkAll ds ≤ 1048576)
def OpenSpec.upto (s : _root_.Go.ChangeSpec) : _root_.Go.OpenSpec := { _root_.Go.OpenSpec.ofChange s with cond := some uptoSmall }

/-- 'bullalaw09.BlockPast', WHERE WHAT IT READS IS OF BULK AT MOST 1048576: true; the input reads as it did. -/
def blockPastUptoRow : OpenClaim := { program := "ythpnelbciibjeaagreat", sum := "8e8315fda904556af063547a1f695d03c65e4fff2dd97a4b9af822236b7f7e78", func := "bulla/bullalaw09.BlockPast", spec := "blockPast", inPlace := ["maps.clone"], unfollowed := true, recurses := true, apart := false, narrowed := true }
def BlockPastUptoSaid : Prop := blockPastUptoRow.holds Tryz.pinned (OpenSpec.upto blockPastSpec)

/-- 'bullalaw09.BlockHeaders', WHERE WHAT IT READS IS OF BULK AT MOST 1048576: true; the input reads as it did. -/
def blockHeadersUptoRow : OpenClaim := { program := "ythpnelbciibjeaagreat", sum := "8e8315fda904556af063547a1f695d03c65e4fff2dd97a4b9af822236b7f7e78", func := "bulla/bullalaw09.BlockHeaders", spec := "blockHeaders", inPlace := ["maps.clone"], unfollowed := true, recurses := true, apart := false, narrowed := true }
def BlockHeadersUptoSaid : Prop := blockHeadersUptoRow.holds Tryz.pinned (OpenSpec.upto blockHeadersSpec)

/-- 'bullalaw09.BlockBack', WHERE WHAT IT READS IS OF BULK AT MOST 1048576: true; the input reads as it did. -/
def blockBackUptoRow : OpenClaim := { program := "ythpnelbciibjeaagreat", sum := "8e8315fda904556af063547a1f695d03c65e4fff2dd97a4b9af822236b7f7e78", func := "bulla/bullalaw09.BlockBack", spec := "blockBack", inPlace := ["maps.clone"], unfollowed := true, recurses := true, apart := false, narrowed := true }
def BlockBackUptoSaid : Prop := blockBackUptoRow.holds Tryz.pinned (OpenSpec.upto blockBackSpec)

end Rows
end Go.Proofs.YthpnelbciibjeaaGreat

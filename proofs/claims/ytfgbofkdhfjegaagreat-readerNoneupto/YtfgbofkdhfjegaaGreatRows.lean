/-
  No cell of these rows narrows 'for every input' (looked for: loops, veiled, ifaces, maps, wideKeys, modest, calm, conditions, laid).
  DERIVED. THE GIVEN ROWS OF THIS SEAT. 4 by the template 'for every input the law returns true; each argument reads behind the call as it read before'; 0 by the template 'total and deterministic' (their statements: YtfgbofkdhfjegaaGreatTotals.lean).
  GIVEN WITH THE SEED: the statements are not yours to turn. If you find one false, say at which input.
  Laid BY PROGRAM, IN A SANDBOX (cutbox-rows.mjs): the forced cells as the released guide's own fill.sh prints them over the translation f0e031c468d32289… (all of the seat's roots in one cut). By AI agents, Wed Nov 11 2026. No macro, syntax, notation, axiom, sorry.
-/
import Derived.Test.YtfgbofkdhfjegaaGreatChecked
import GoSem.Claim
import GoSem.ClaimJoined
import GoSem.ClaimMapViews
import Derived.JoinedTies
import Derived.KernelRfl
namespace Go.Proofs.YtfgbofkdhfjegaaGreat
/- THE CELL 'sum', in the pinned program and in every row, IS THE sha256 OF THE DUMP (.gsa) THAT YtfgbofkdhfjegaaGreatProg.lean LOADS. Nothing in Lean hashes anything: it is a label: what it is worth is what the hold of that sum in a sandbox is worth. -/
noncomputable def Tryz.pinned : Pinned := { name := "ytfgbofkdhfjegaagreat", sum := "f0e031c468d3228982d5c60598590f5595b54449f558abb0528a51428d45ed7c", checked := Tryz.checked }
namespace Rows
def none {H : Type} : Left H := { results := [], args := [] }

/-- 'bullalaw25.ReaderSound': WHATEVER THE INPUT: true; the input reads as it did. -/
def readerSoundSpec : ChangeSpec := { name := "readerSound", fn := fun _ => fun
  | [d1, d2] => { results := [.lit (.bool true)], args := [d1, d2] }
  | _ => none }
def readerSoundRow : OpenClaim := { program := "ytfgbofkdhfjegaagreat", sum := "f0e031c468d3228982d5c60598590f5595b54449f558abb0528a51428d45ed7c", func := "bulla/bullalaw25.ReaderSound", spec := "readerSound", unfollowed := true, recurses := true, plainKeys := false, apart := false }
def ReaderSoundSaid : Prop := readerSoundRow.holds Tryz.pinned (OpenSpec.ofChange readerSoundSpec)

/-- ITS FALSE NEIGHBOUR: 'it returns false'. Refute it at one input. -/
def readerSoundWrong : ChangeSpec := { name := "readerSound", fn := fun _ => fun
  | [d1, d2] => { results := [.lit (.bool false)], args := [d1, d2] }
  | _ => none }
def ReaderSoundWrongFalsely : Prop := readerSoundRow.holds Tryz.pinned (OpenSpec.ofChange readerSoundWrong)

/-- 'bullalaw25.ReaderOrder': WHATEVER THE INPUT: true; the input reads as it did. -/
def readerOrderSpec : ChangeSpec := { name := "readerOrder", fn := fun _ => fun
  | [d] => { results := [.lit (.bool true)], args := [d] }
  | _ => none }
def readerOrderRow : OpenClaim := { program := "ytfgbofkdhfjegaagreat", sum := "f0e031c468d3228982d5c60598590f5595b54449f558abb0528a51428d45ed7c", func := "bulla/bullalaw25.ReaderOrder", spec := "readerOrder", unfollowed := true, recurses := true, plainKeys := false, apart := false }
def ReaderOrderSaid : Prop := readerOrderRow.holds Tryz.pinned (OpenSpec.ofChange readerOrderSpec)

/-- ITS FALSE NEIGHBOUR: 'it returns false'. Refute it at one input. -/
def readerOrderWrong : ChangeSpec := { name := "readerOrder", fn := fun _ => fun
  | [d] => { results := [.lit (.bool false)], args := [d] }
  | _ => none }
def ReaderOrderWrongFalsely : Prop := readerOrderRow.holds Tryz.pinned (OpenSpec.ofChange readerOrderWrong)

/-- 'bullalaw25.ReaderDoes': WHATEVER THE INPUT: true; the input reads as it did. -/
def readerDoesSpec : ChangeSpec := { name := "readerDoes", fn := fun _ => fun
  | [d] => { results := [.lit (.bool true)], args := [d] }
  | _ => none }
def readerDoesRow : OpenClaim := { program := "ytfgbofkdhfjegaagreat", sum := "f0e031c468d3228982d5c60598590f5595b54449f558abb0528a51428d45ed7c", func := "bulla/bullalaw25.ReaderDoes", spec := "readerDoes", unfollowed := true, recurses := true, plainKeys := false, apart := false }
def ReaderDoesSaid : Prop := readerDoesRow.holds Tryz.pinned (OpenSpec.ofChange readerDoesSpec)

/-- ITS FALSE NEIGHBOUR: 'it returns false'. Refute it at one input. -/
def readerDoesWrong : ChangeSpec := { name := "readerDoes", fn := fun _ => fun
  | [d] => { results := [.lit (.bool false)], args := [d] }
  | _ => none }
def ReaderDoesWrongFalsely : Prop := readerDoesRow.holds Tryz.pinned (OpenSpec.ofChange readerDoesWrong)

/-- 'bullalaw25.ReaderNone': WHATEVER THE INPUT: true; the input reads as it did. -/
def readerNoneSpec : ChangeSpec := { name := "readerNone", fn := fun _ => fun
  | [d] => { results := [.lit (.bool true)], args := [d] }
  | _ => none }
def readerNoneRow : OpenClaim := { program := "ytfgbofkdhfjegaagreat", sum := "f0e031c468d3228982d5c60598590f5595b54449f558abb0528a51428d45ed7c", func := "bulla/bullalaw25.ReaderNone", spec := "readerNone", unfollowed := true, recurses := true, plainKeys := false, apart := false }
def ReaderNoneSaid : Prop := readerNoneRow.holds Tryz.pinned (OpenSpec.ofChange readerNoneSpec)

/-- ITS FALSE NEIGHBOUR: 'it returns false'. Refute it at one input. -/
def readerNoneWrong : ChangeSpec := { name := "readerNone", fn := fun _ => fun
  | [d] => { results := [.lit (.bool false)], args := [d] }
  | _ => none }
def ReaderNoneWrongFalsely : Prop := readerNoneRow.holds Tryz.pinned (OpenSpec.ofChange readerNoneWrong)

/- THE SECOND FORM. 'bulk': how many values and letters a reading holds, each counted each time it is reached (what is shared counts as often as it is met; a slice's spare places count too). A statement '..UptoSaid' is the law's where the arguments, and the package variables that the reading takes, are together of bulk at most 1048576: NARROWER than '..Said'. Prove '..Said' where nothing that the law and all that it calls make is longer than what came in: it says more and counts as full. Else prove '..UptoSaid'. A law counts once. -/
mutual
def uptoBulk {H : Type} : DataW H → Nat
  | .lit (.string bytes) => bytes.length + 1
  | .lit _ => 1
  | .nil => 1
  | .ptr d => uptoBulk d + 1
  | .slice elems spare => uptoBulkAll elems + uptoBulkAll spare + 1
  | .agg parts => uptoBulkAll parts + 1
  | .iface _ d => uptoBulk d + 1
  | .map entries => uptoBulkEntries entries + 1
  | .held _ => 1
def uptoBulkAll {H : Type} : List (DataW H) → Nat
  | [] => 0
  | d :: r => uptoBulk d + uptoBulkAll r
def uptoBulkEntries {H : Type} : List (Lit × DataW H) → Nat
  | [] => 0
  | x :: r => uptoBulkEntry x + uptoBulkEntries r
def uptoBulkEntry {H : Type} : Lit × DataW H → Nat
  | (.string bytes, d) => bytes.length + uptoBulk d + 1
  | (_, d) => uptoBulk d + 1
 end
def uptoSmall : (H : Type) → List (DataW H) → Bool := fun _ ds => decide (uptoBulkAll ds ≤ 1048576)
def OpenSpec.upto (s : _root_.Go.ChangeSpec) : _root_.Go.OpenSpec := { _root_.Go.OpenSpec.ofChange s with cond := some uptoSmall }

/-- 'bullalaw25.ReaderSound', WHERE WHAT IT READS IS OF BULK AT MOST 1048576: true; the input reads as it did. -/
def readerSoundUptoRow : OpenClaim := { program := "ytfgbofkdhfjegaagreat", sum := "f0e031c468d3228982d5c60598590f5595b54449f558abb0528a51428d45ed7c", func := "bulla/bullalaw25.ReaderSound", spec := "readerSound", unfollowed := true, recurses := true, plainKeys := false, apart := false, narrowed := true }
def ReaderSoundUptoSaid : Prop := readerSoundUptoRow.holds Tryz.pinned (OpenSpec.upto readerSoundSpec)

/-- 'bullalaw25.ReaderOrder', WHERE WHAT IT READS IS OF BULK AT MOST 1048576: true; the input reads as it did. -/
def readerOrderUptoRow : OpenClaim := { program := "ytfgbofkdhfjegaagreat", sum := "f0e031c468d3228982d5c60598590f5595b54449f558abb0528a51428d45ed7c", func := "bulla/bullalaw25.ReaderOrder", spec := "readerOrder", unfollowed := true, recurses := true, plainKeys := false, apart := false, narrowed := true }
def ReaderOrderUptoSaid : Prop := readerOrderUptoRow.holds Tryz.pinned (OpenSpec.upto readerOrderSpec)

/-- 'bullalaw25.ReaderDoes', WHERE WHAT IT READS IS OF BULK AT MOST 1048576: true; the input reads as it did. -/
def readerDoesUptoRow : OpenClaim := { program := "ytfgbofkdhfjegaagreat", sum := "f0e031c468d3228982d5c60598590f5595b54449f558abb0528a51428d45ed7c", func := "bulla/bullalaw25.ReaderDoes", spec := "readerDoes", unfollowed := true, recurses := true, plainKeys := false, apart := false, narrowed := true }
def ReaderDoesUptoSaid : Prop := readerDoesUptoRow.holds Tryz.pinned (OpenSpec.upto readerDoesSpec)

/-- 'bullalaw25.ReaderNone', WHERE WHAT IT READS IS OF BULK AT MOST 1048576: true; the input reads as it did. -/
def readerNoneUptoRow : OpenClaim := { program := "ytfgbofkdhfjegaagreat", sum := "f0e031c468d3228982d5c60598590f5595b54449f558abb0528a51428d45ed7c", func := "bulla/bullalaw25.ReaderNone", spec := "readerNone", unfollowed := true, recurses := true, plainKeys := false, apart := false, narrowed := true }
def ReaderNoneUptoSaid : Prop := readerNoneUptoRow.holds Tryz.pinned (OpenSpec.upto readerNoneSpec)

end Rows
end Go.Proofs.YtfgbofkdhfjegaaGreat

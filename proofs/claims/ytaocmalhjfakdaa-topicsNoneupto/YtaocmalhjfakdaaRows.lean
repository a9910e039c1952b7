/-
  No cell of these rows narrows 'for every input' (looked for: loops, veiled, ifaces, maps, wideKeys, modest, calm, conditions, laid).
  DERIVED. THE GIVEN ROWS OF THIS SEAT. 5 by the template 'for every input the law returns true; each argument reads behind the call as it read before'; 0 by the template 'total and deterministic' (their statements: YtaocmalhjfakdaaTotals.lean).
  GIVEN WITH THE SEED: the statements are not yours to turn. If you find one false, say at which input.
  Laid BY PROGRAM, IN A SANDBOX (cutbox-rows.mjs): the forced cells as the released guide's own fill.sh prints them over the translation 8f440b241e3b52c4… (all of the seat's roots in one cut). By AI agents, Wed Nov 11 2026. No macro, syntax, notation, axiom, sorry.
-/
import Derived.Test.YtaocmalhjfakdaaChecked
import GoSem.Claim
import GoSem.ClaimJoined
import GoSem.ClaimMapViews
import Derived.JoinedTies
import Derived.KernelRfl
namespace Go.Proofs.Ytaocmalhjfakdaa
/- THE CELL 'sum', in the pinned program and in every row, IS THE sha256 OF THE DUMP (.gsa) THAT YtaocmalhjfakdaaProg.lean LOADS. Nothing in Lean hashes anything: it is a label: what it is worth is what the hold of that sum in a sandbox is worth. -/
noncomputable def Try.pinned : Pinned := { name := "ytaocmalhjfakdaa", sum := "8f440b241e3b52c4eca0b225721d205cc881dcd8f99d97166e47b1c82ed6836a", checked := Try.checked }
namespace Rows
def none {H : Type} : Left H := { results := [], args := [] }

/-- 'bullalaw07.TopicsStays': WHATEVER THE INPUT: true; the input reads as it did. -/
def topicsStaysSpec : ChangeSpec := { name := "topicsStays", fn := fun _ => fun
  | [d] => { results := [.lit (.bool true)], args := [d] }
  | _ => none }
def topicsStaysRow : OpenClaim := { program := "ytaocmalhjfakdaa", sum := "8f440b241e3b52c4eca0b225721d205cc881dcd8f99d97166e47b1c82ed6836a", func := "bulla/bullalaw07.TopicsStays", spec := "topicsStays", unfollowed := true, recurses := true, plainKeys := false, apart := false }
def TopicsStaysSaid : Prop := topicsStaysRow.holds Try.pinned (OpenSpec.ofChange topicsStaysSpec)

/-- ITS FALSE NEIGHBOUR: 'it returns false'. Refute it at one input. -/
def topicsStaysWrong : ChangeSpec := { name := "topicsStays", fn := fun _ => fun
  | [d] => { results := [.lit (.bool false)], args := [d] }
  | _ => none }
def TopicsStaysWrongFalsely : Prop := topicsStaysRow.holds Try.pinned (OpenSpec.ofChange topicsStaysWrong)

/-- 'bullalaw07.TopicsOnce': WHATEVER THE INPUT: true; the input reads as it did. -/
def topicsOnceSpec : ChangeSpec := { name := "topicsOnce", fn := fun _ => fun
  | [d] => { results := [.lit (.bool true)], args := [d] }
  | _ => none }
def topicsOnceRow : OpenClaim := { program := "ytaocmalhjfakdaa", sum := "8f440b241e3b52c4eca0b225721d205cc881dcd8f99d97166e47b1c82ed6836a", func := "bulla/bullalaw07.TopicsOnce", spec := "topicsOnce", unfollowed := true, recurses := true, plainKeys := false, apart := false }
def TopicsOnceSaid : Prop := topicsOnceRow.holds Try.pinned (OpenSpec.ofChange topicsOnceSpec)

/-- ITS FALSE NEIGHBOUR: 'it returns false'. Refute it at one input. -/
def topicsOnceWrong : ChangeSpec := { name := "topicsOnce", fn := fun _ => fun
  | [d] => { results := [.lit (.bool false)], args := [d] }
  | _ => none }
def TopicsOnceWrongFalsely : Prop := topicsOnceRow.holds Try.pinned (OpenSpec.ofChange topicsOnceWrong)

/-- 'bullalaw07.TopicsDoes': WHATEVER THE INPUT: true; the input reads as it did. -/
def topicsDoesSpec : ChangeSpec := { name := "topicsDoes", fn := fun _ => fun
  | [d] => { results := [.lit (.bool true)], args := [d] }
  | _ => none }
def topicsDoesRow : OpenClaim := { program := "ytaocmalhjfakdaa", sum := "8f440b241e3b52c4eca0b225721d205cc881dcd8f99d97166e47b1c82ed6836a", func := "bulla/bullalaw07.TopicsDoes", spec := "topicsDoes", inPlace := ["maps.clone"], unfollowed := true, recurses := true, plainKeys := false, apart := false }
def TopicsDoesSaid : Prop := topicsDoesRow.holds Try.pinned (OpenSpec.ofChange topicsDoesSpec)

/-- ITS FALSE NEIGHBOUR: 'it returns false'. Refute it at one input. -/
def topicsDoesWrong : ChangeSpec := { name := "topicsDoes", fn := fun _ => fun
  | [d] => { results := [.lit (.bool false)], args := [d] }
  | _ => none }
def TopicsDoesWrongFalsely : Prop := topicsDoesRow.holds Try.pinned (OpenSpec.ofChange topicsDoesWrong)

/-- 'bullalaw07.TopicsNone': WHATEVER THE INPUT: true; the input reads as it did. -/
def topicsNoneSpec : ChangeSpec := { name := "topicsNone", fn := fun _ => fun
  | [d1, d2] => { results := [.lit (.bool true)], args := [d1, d2] }
  | _ => none }
def topicsNoneRow : OpenClaim := { program := "ytaocmalhjfakdaa", sum := "8f440b241e3b52c4eca0b225721d205cc881dcd8f99d97166e47b1c82ed6836a", func := "bulla/bullalaw07.TopicsNone", spec := "topicsNone", inPlace := ["maps.clone"], unfollowed := true, recurses := true, plainKeys := false, apart := false }
def TopicsNoneSaid : Prop := topicsNoneRow.holds Try.pinned (OpenSpec.ofChange topicsNoneSpec)

/-- ITS FALSE NEIGHBOUR: 'it returns false'. Refute it at one input. -/
def topicsNoneWrong : ChangeSpec := { name := "topicsNone", fn := fun _ => fun
  | [d1, d2] => { results := [.lit (.bool false)], args := [d1, d2] }
  | _ => none }
def TopicsNoneWrongFalsely : Prop := topicsNoneRow.holds Try.pinned (OpenSpec.ofChange topicsNoneWrong)

/-- 'bullalaw07.TopicsBack': WHATEVER THE INPUT: true; the input reads as it did. -/
def topicsBackSpec : ChangeSpec := { name := "topicsBack", fn := fun _ => fun
  | [d1, d2] => { results := [.lit (.bool true)], args := [d1, d2] }
  | _ => none }
def topicsBackRow : OpenClaim := { program := "ytaocmalhjfakdaa", sum := "8f440b241e3b52c4eca0b225721d205cc881dcd8f99d97166e47b1c82ed6836a", func := "bulla/bullalaw07.TopicsBack", spec := "topicsBack", unfollowed := true, recurses := true, plainKeys := false, apart := false }
def TopicsBackSaid : Prop := topicsBackRow.holds Try.pinned (OpenSpec.ofChange topicsBackSpec)

/-- ITS FALSE NEIGHBOUR: 'it returns false'. Refute it at one input. -/
def topicsBackWrong : ChangeSpec := { name := "topicsBack", fn := fun _ => fun
  | [d1, d2] => { results := [.lit (.bool false)], args := [d1, d2] }
  | _ => none }
def TopicsBackWrongFalsely : Prop := topicsBackRow.holds Try.pinned (OpenSpec.ofChange topicsBackWrong)

/- THE SECOND FORM. 'bulk': how many values and letters a reading holds, each counted each time it is reached (what is shared counts as often as it is met; a slice's spare places count too). A statement '..UptoSaid' is the law's where the arguments, and the package variables that the reading takes, are together of bulk at most 1048576: NARROWER than '..Said'. Prove '..Said' where nothing that the law and all that it calls make is longer than what came in: it says more and counts as full. Else prove '..UptoSaid'. A law counts once. -/
mutual
def uptoBulk {H : Type} : DataW H → Nat
  | .lit (.string bytes) => bytes.length + 1
  | .lit _ => 1
  | .nil => 1
  | .ptr d => uptoBulk d + 1
  | .slice elems spare => uptoBulkAll elems + uptoBulkAll spare + 1
  | .agg parts => uptoBulkAll parts + 1
  | .iface _ d => uptoBulk d + 1
  | .map entries => uptoBulkEntries entries + 1
  | .held _ => 1
def uptoBulkAll {H : Type} : List (DataW H) → Nat
  | [] => 0
  | d :: r => uptoBulk d + uptoBulkAll r
def uptoBulkEntries {H : Type} : List (Lit × DataW H) → Nat
  | [] => 0
  | x :: r => uptoBulkEntry x + uptoBulkEntries r
def uptoBulkEntry {H : Type} : Lit × DataW H → Nat
  | (.string bytes, d) => bytes.length + uptoBulk d + 1
  | (_, d) => uptoBulk d + 1
 end
def uptoSmall : (H : Type) → List (DataW H) → Bool := fun _ ds => decide (uptoBulkAll ds ≤ 1048576)
def OpenSpec.upto (s : _root_.Go.ChangeSpec) : _root_.Go.OpenSpec := { _root_.Go.OpenSpec.ofChange s with cond := some uptoSmall }

/-- 'bullalaw07.TopicsStays', WHERE WHAT IT READS IS OF BULK AT MOST 1048576: true; the input reads as it did. -/
def topicsStaysUptoRow : OpenClaim := { program := "ytaocmalhjfakdaa", sum := "8f440b241e3b52c4eca0b225721d205cc881dcd8f99d97166e47b1c82ed6836a", func := "bulla/bullalaw07.TopicsStays", spec := "topicsStays", unfollowed := true, recurses := true, plainKeys := false, apart := false, narrowed := true }
def TopicsStaysUptoSaid : Prop := topicsStaysUptoRow.holds Try.pinned (OpenSpec.upto topicsStaysSpec)

/-- 'bullalaw07.TopicsOnce', WHERE WHAT IT READS IS OF BULK AT MOST 1048576: true; the input reads as it did. -/
def topicsOnceUptoRow : OpenClaim := { program := "ytaocmalhjfakdaa", sum := "8f440b241e3b52c4eca0b225721d205cc881dcd8f99d97166e47b1c82ed6836a", func := "bulla/bullalaw07.TopicsOnce", spec := "topicsOnce", unfollowed := true, recurses := true, plainKeys := false, apart := false, narrowed := true }
def TopicsOnceUptoSaid : Prop := topicsOnceUptoRow.holds Try.pinned (OpenSpec.upto topicsOnceSpec)

/-- 'bullalaw07.TopicsDoes', WHERE WHAT IT READS IS OF BULK AT MOST 1048576: true; the input reads as it did. -/
def topicsDoesUptoRow : OpenClaim := { program := "ytaocmalhjfakdaa", sum := "8f440b241e3b52c4eca0b225721d205cc881dcd8f99d97166e47b1c82ed6836a", func := "bulla/bullalaw07.TopicsDoes", spec := "topicsDoes", inPlace := ["maps.clone"], unfollowed := true, recurses := true, plainKeys := false, apart := false, narrowed := true }
def TopicsDoesUptoSaid : Prop := topicsDoesUptoRow.holds Try.pinned (OpenSpec.upto topicsDoesSpec)

/-- 'bullalaw07.TopicsNone', WHERE WHAT IT READS IS OF BULK AT MOST 1048576: true; the input reads as it did. -/
def topicsNoneUptoRow : OpenClaim := { program := "ytaocmalhjfakdaa", sum := "8f440b241e3b52c4eca0b225721d205cc881dcd8f99d97166e47b1c82ed6836a", func := "bulla/bullalaw07.TopicsNone", spec := "topicsNone", inPlace := ["maps.clone"], unfollowed := true, recurses := true, plainKeys := false, apart := false, narrowed := true }
def TopicsNoneUptoSaid : Prop := topicsNoneUptoRow.holds Try.pinned (OpenSpec.upto topicsNoneSpec)

/-- 'bullalaw07.TopicsBack', WHERE WHAT IT READS IS OF BULK AT MOST 1048576: true; the input reads as it did. -/
def topicsBackUptoRow : OpenClaim := { program := "ytaocmalhjfakdaa", sum := "8f440b241e3b52c4eca0b225721d205cc881dcd8f99d97166e47b1c82ed6836a", func := "bulla/bullalaw07.TopicsBack", spec := "topicsBack", unfollowed := true, recurses := true, plainKeys := false, apart := false, narrowed := true }
def TopicsBackUptoSaid : Prop := topicsBackUptoRow.holds Try.pinned (OpenSpec.upto topicsBackSpec)

end Rows
end Go.Proofs.Ytaocmalhjfakdaa

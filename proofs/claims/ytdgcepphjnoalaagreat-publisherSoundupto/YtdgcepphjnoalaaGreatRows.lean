/-
  No cell of these rows narrows 'for every input' (looked for: loops, veiled, ifaces, maps, wideKeys, modest, calm, conditions, laid).
  DERIVED. THE GIVEN ROWS OF THIS SEAT. 4 by the template 'for every input the law returns true; each argument reads behind the call as it read before'; 0 by the template 'total and deterministic' (their statements: YtdgcepphjnoalaaGreatTotals.lean).
  GIVEN WITH THE SEED: the statements are not yours to turn. If you find one false, say at which input.
  Laid BY PROGRAM, IN A SANDBOX (cutbox-rows.mjs): the forced cells as the released guide's own fill.sh prints them over the translation 6d62879eceed5778… (all of the seat's roots in one cut). By AI agents, Wed Nov 11 2026. No macro, syntax, notation, axiom, sorry.
-/
import Derived.Test.YtdgcepphjnoalaaGreatChecked
import GoSem.Claim
import GoSem.ClaimJoined
import GoSem.ClaimMapViews
import Derived.JoinedTies
import Derived.KernelRfl
namespace Go.Proofs.YtdgcepphjnoalaaGreat
/- THE CELL 'sum', in the pinned program and in every row, IS THE sha256 OF THE DUMP (.gsa) THAT YtdgcepphjnoalaaGreatProg.lean LOADS. Nothing in Lean hashes anything: it is a label: what it is worth is what the hold of that sum in a sandbox is worth. -/
noncomputable def Tryz.pinned : Pinned := { name := "ytdgcepphjnoalaagreat", sum := "6d62879eceed57784e67dde64418d24def84b364317f02f71afcf88c3af5cc35", checked := Tryz.checked }
namespace Rows
def none {H : Type} : Left H := { results := [], args := [] }

/-- 'bullalaw24.PublisherSound': WHATEVER THE INPUT: true; the input reads as it did. -/
def publisherSoundSpec : ChangeSpec := { name := "publisherSound", fn := fun _ => fun
  | [d1, d2, d3, d4] => { results := [.lit (.bool true)], args := [d1, d2, d3, d4] }
  | _ => none }
def publisherSoundRow : OpenClaim := { program := "ytdgcepphjnoalaagreat", sum := "6d62879eceed57784e67dde64418d24def84b364317f02f71afcf88c3af5cc35", func := "bulla/bullalaw24.PublisherSound", spec := "publisherSound", unfollowed := true, recurses := true, plainKeys := false, apart := false }
def PublisherSoundSaid : Prop := publisherSoundRow.holds Tryz.pinned (OpenSpec.ofChange publisherSoundSpec)

/-- ITS FALSE NEIGHBOUR: 'it returns false'. Refute it at one input. -/
def publisherSoundWrong : ChangeSpec := { name := "publisherSound", fn := fun _ => fun
  | [d1, d2, d3, d4] => { results := [.lit (.bool false)], args := [d1, d2, d3, d4] }
  | _ => none }
def PublisherSoundWrongFalsely : Prop := publisherSoundRow.holds Tryz.pinned (OpenSpec.ofChange publisherSoundWrong)

/-- 'bullalaw24.PublisherOnce': WHATEVER THE INPUT: true; the input reads as it did. -/
def publisherOnceSpec : ChangeSpec := { name := "publisherOnce", fn := fun _ => fun
  | [d1, d2, d3] => { results := [.lit (.bool true)], args := [d1, d2, d3] }
  | _ => none }
def publisherOnceRow : OpenClaim := { program := "ytdgcepphjnoalaagreat", sum := "6d62879eceed57784e67dde64418d24def84b364317f02f71afcf88c3af5cc35", func := "bulla/bullalaw24.PublisherOnce", spec := "publisherOnce", unfollowed := true, recurses := true, plainKeys := false, apart := false }
def PublisherOnceSaid : Prop := publisherOnceRow.holds Tryz.pinned (OpenSpec.ofChange publisherOnceSpec)

/-- ITS FALSE NEIGHBOUR: 'it returns false'. Refute it at one input. -/
def publisherOnceWrong : ChangeSpec := { name := "publisherOnce", fn := fun _ => fun
  | [d1, d2, d3] => { results := [.lit (.bool false)], args := [d1, d2, d3] }
  | _ => none }
def PublisherOnceWrongFalsely : Prop := publisherOnceRow.holds Tryz.pinned (OpenSpec.ofChange publisherOnceWrong)

/-- 'bullalaw24.PublisherDoes': WHATEVER THE INPUT: true; the input reads as it did. -/
def publisherDoesSpec : ChangeSpec := { name := "publisherDoes", fn := fun _ => fun
  | [d1, d2, d3] => { results := [.lit (.bool true)], args := [d1, d2, d3] }
  | _ => none }
def publisherDoesRow : OpenClaim := { program := "ytdgcepphjnoalaagreat", sum := "6d62879eceed57784e67dde64418d24def84b364317f02f71afcf88c3af5cc35", func := "bulla/bullalaw24.PublisherDoes", spec := "publisherDoes", unfollowed := true, recurses := true, plainKeys := false, apart := false }
def PublisherDoesSaid : Prop := publisherDoesRow.holds Tryz.pinned (OpenSpec.ofChange publisherDoesSpec)

/-- ITS FALSE NEIGHBOUR: 'it returns false'. Refute it at one input. -/
def publisherDoesWrong : ChangeSpec := { name := "publisherDoes", fn := fun _ => fun
  | [d1, d2, d3] => { results := [.lit (.bool false)], args := [d1, d2, d3] }
  | _ => none }
def PublisherDoesWrongFalsely : Prop := publisherDoesRow.holds Tryz.pinned (OpenSpec.ofChange publisherDoesWrong)

/-- 'bullalaw24.PublisherNone': WHATEVER THE INPUT: true; the input reads as it did. -/
def publisherNoneSpec : ChangeSpec := { name := "publisherNone", fn := fun _ => fun
  | [d] => { results := [.lit (.bool true)], args := [d] }
  | _ => none }
def publisherNoneRow : OpenClaim := { program := "ytdgcepphjnoalaagreat", sum := "6d62879eceed57784e67dde64418d24def84b364317f02f71afcf88c3af5cc35", func := "bulla/bullalaw24.PublisherNone", spec := "publisherNone", unfollowed := true, recurses := true, plainKeys := false, apart := false }
def PublisherNoneSaid : Prop := publisherNoneRow.holds Tryz.pinned (OpenSpec.ofChange publisherNoneSpec)

/-- ITS FALSE NEIGHBOUR: 'it returns false'. Refute it at one input. -/
def publisherNoneWrong : ChangeSpec := { name := "publisherNone", fn := fun _ => fun
  | [d] => { results := [.lit (.bool false)], args := [d] }
  | _ => none }
def PublisherNoneWrongFalsely : Prop := publisherNoneRow.holds Tryz.pinned (OpenSpec.ofChange publisherNoneWrong)

/- THE SECOND FORM. 'bulk': how many values and letters a reading holds, each counted each time it is reached (what is shared counts as often as it is met; a slice's spare places count too). A statement '..UptoSaid' is the law's where the arguments, and the package variables that the reading takes, are together of bulk at most 1048576: NARROWER than '..Said'. Prove '..Said' where nothing that the law and all that it calls make is longer than what came in: it says more and counts as full. Else prove '..UptoSaid'. A law counts once. -/
mutual
def uptoBulk {H : Type} : DataW H → Nat
  | .lit (.string bytes) => bytes.length + 1
  | .lit _ => 1
  | .nil => 1
  | .ptr d => uptoBulk d + 1
  | .slice elems spare => uptoBulkAll elems + uptoBulkAll spare + 1
  | .agg parts => uptoBulkAll parts + 1
  | .iface _ d => uptoBulk d + 1
  | .map entries => uptoBulkEntries entries + 1
  | .held _ => 1
def uptoBulkAll {H : Type} : List (DataW H) → Nat
  | [] => 0
  | d :: r => uptoBulk d + uptoBulkAll r
def uptoBulkEntries {H : Type} : List (Lit × DataW H) → Nat
  | [] => 0
  | x :: r => uptoBulkEntry x + uptoBulkEntries r
def uptoBulkEntry {H : Type} : Lit × DataW H → Nat
  | (.string bytes, d) => bytes.length + uptoBulk d + 1
  | (_, d) => uptoBulk d + 1
 end
def uptoSmall : (H : Type) → List (DataW H) → Bool := fun _ ds => decide (uptoBulkAll ds ≤ 1048576)
def OpenSpec.upto (s : _root_.Go.ChangeSpec) : _root_.Go.OpenSpec := { _root_.Go.OpenSpec.ofChange s with cond := some uptoSmall }

/-- 'bullalaw24.PublisherSound', WHERE WHAT IT READS IS OF BULK AT MOST 1048576: true; the input reads as it did. -/
def publisherSoundUptoRow : OpenClaim := { program := "ytdgcepphjnoalaagreat", sum := "6d62879eceed57784e67dde64418d24def84b364317f02f71afcf88c3af5cc35", func := "bulla/bullalaw24.PublisherSound", spec := "publisherSound", unfollowed := true, recurses := true, plainKeys := false, apart := false, narrowed := true }
def PublisherSoundUptoSaid : Prop := publisherSoundUptoRow.holds Tryz.pinned (OpenSpec.upto publisherSoundSpec)

/-- 'bullalaw24.PublisherOnce', WHERE WHAT IT READS IS OF BULK AT MOST 1048576: true; the input reads as it did. -/
def publisherOnceUptoRow : OpenClaim := { program := "ytdgcepphjnoalaagreat", sum := "6d62879eceed57784e67dde64418d24def84b364317f02f71afcf88c3af5cc35", func := "bulla/bullalaw24.PublisherOnce", spec := "publisherOnce", unfollowed := true, recurses := true, plainKeys := false, apart := false, narrowed := true }
def PublisherOnceUptoSaid : Prop := publisherOnceUptoRow.holds Tryz.pinned (OpenSpec.upto publisherOnceSpec)

/-- 'bullalaw24.PublisherDoes', WHERE WHAT IT READS IS OF BULK AT MOST 1048576: true; the input reads as it did. -/
def publisherDoesUptoRow : OpenClaim := { program := "ytdgcepphjnoalaagreat", sum := "6d62879eceed57784e67dde64418d24def84b364317f02f71afcf88c3af5cc35", func := "bulla/bullalaw24.PublisherDoes", spec := "publisherDoes", unfollowed := true, recurses := true, plainKeys := false, apart := false, narrowed := true }
def PublisherDoesUptoSaid : Prop := publisherDoesUptoRow.holds Tryz.pinned (OpenSpec.upto publisherDoesSpec)

/-- 'bullalaw24.PublisherNone', WHERE WHAT IT READS IS OF BULK AT MOST 1048576: true; the input reads as it did. -/
def publisherNoneUptoRow : OpenClaim := { program := "ytdgcepphjnoalaagreat", sum := "6d62879eceed57784e67dde64418d24def84b364317f02f71afcf88c3af5cc35", func := "bulla/bullalaw24.PublisherNone", spec := "publisherNone", unfollowed := true, recurses := true, plainKeys := false, apart := false, narrowed := true }
def PublisherNoneUptoSaid : Prop := publisherNoneUptoRow.holds Tryz.pinned (OpenSpec.upto publisherNoneSpec)

end Rows
end Go.Proofs.YtdgcepphjnoalaaGreat

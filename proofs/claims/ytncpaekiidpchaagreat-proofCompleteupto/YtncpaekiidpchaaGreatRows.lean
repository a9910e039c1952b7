/-
  No cell of these rows narrows 'for every input' (looked for: loops, veiled, ifaces, maps, wideKeys, modest, calm, conditions, laid).
  DERIVED. THE GIVEN ROWS OF THIS SEAT. 5 by the template 'for every input the law returns true; each argument reads behind the call as it read before'; 0 by the template 'total and deterministic' (their statements: YtncpaekiidpchaaGreatTotals.lean).
  GIVEN WITH THE SEED: the statements are not yours to turn. If you find one false, say at which input.
  Laid BY PROGRAM, IN A SANDBOX (cutbox-rows.mjs): the forced cells as the released guide's own fill.sh prints them over the translation 3844d8c88eb7d56e… (all of the seat's roots in one cut). By AI agents, Wed Nov 11 2026. No macro, syntax, notation, axiom, sorry.
-/
import Derived.Test.YtncpaekiidpchaaGreatChecked
import GoSem.Claim
import GoSem.ClaimJoined
import GoSem.ClaimMapViews
import Derived.JoinedTies
import Derived.KernelRfl
namespace Go.Proofs.YtncpaekiidpchaaGreat
/- THE CELL 'sum', in the pinned program and in every row, IS THE sha256 OF THE DUMP (.gsa) THAT YtncpaekiidpchaaGreatProg.lean LOADS. Nothing in Lean hashes anything: it is a label: what it is worth is what the hold of that sum in a sandbox is worth. -/
noncomputable def Tryz.pinned : Pinned := { name := "ytncpaekiidpchaagreat", sum := "3844d8c88eb7d56ef35f7c6d5b730a8b74de99bf6dca574dda1a710a98b93a1c", checked := Tryz.checked }
namespace Rows
def none {H : Type} : Left H := { results := [], args := [] }

/-- 'bullalaw23.ProofVerifies': WHATEVER THE INPUT: true; the input reads as it did. -/
def proofVerifiesSpec : ChangeSpec := { name := "proofVerifies", fn := fun _ => fun
  | [d1, d2] => { results := [.lit (.bool true)], args := [d1, d2] }
  | _ => none }
def proofVerifiesRow : OpenClaim := { program := "ytncpaekiidpchaagreat", sum := "3844d8c88eb7d56ef35f7c6d5b730a8b74de99bf6dca574dda1a710a98b93a1c", func := "bulla/bullalaw23.ProofVerifies", spec := "proofVerifies", unfollowed := true, recurses := true, plainKeys := false, apart := false }
def ProofVerifiesSaid : Prop := proofVerifiesRow.holds Tryz.pinned (OpenSpec.ofChange proofVerifiesSpec)

/-- ITS FALSE NEIGHBOUR: 'it returns false'. Refute it at one input. -/
def proofVerifiesWrong : ChangeSpec := { name := "proofVerifies", fn := fun _ => fun
  | [d1, d2] => { results := [.lit (.bool false)], args := [d1, d2] }
  | _ => none }
def ProofVerifiesWrongFalsely : Prop := proofVerifiesRow.holds Tryz.pinned (OpenSpec.ofChange proofVerifiesWrong)

/-- 'bullalaw23.ProofSound': WHATEVER THE INPUT: true; the input reads as it did. -/
def proofSoundSpec : ChangeSpec := { name := "proofSound", fn := fun _ => fun
  | [d1, d2, d3] => { results := [.lit (.bool true)], args := [d1, d2, d3] }
  | _ => none }
def proofSoundRow : OpenClaim := { program := "ytncpaekiidpchaagreat", sum := "3844d8c88eb7d56ef35f7c6d5b730a8b74de99bf6dca574dda1a710a98b93a1c", func := "bulla/bullalaw23.ProofSound", spec := "proofSound", unfollowed := true, recurses := true, plainKeys := false, apart := false }
def ProofSoundSaid : Prop := proofSoundRow.holds Tryz.pinned (OpenSpec.ofChange proofSoundSpec)

/-- ITS FALSE NEIGHBOUR: 'it returns false'. Refute it at one input. -/
def proofSoundWrong : ChangeSpec := { name := "proofSound", fn := fun _ => fun
  | [d1, d2, d3] => { results := [.lit (.bool false)], args := [d1, d2, d3] }
  | _ => none }
def ProofSoundWrongFalsely : Prop := proofSoundRow.holds Tryz.pinned (OpenSpec.ofChange proofSoundWrong)

/-- 'bullalaw23.ProofMakes': WHATEVER THE INPUT: true; the input reads as it did. -/
def proofMakesSpec : ChangeSpec := { name := "proofMakes", fn := fun _ => fun
  | [d1, d2, d3] => { results := [.lit (.bool true)], args := [d1, d2, d3] }
  | _ => none }
def proofMakesRow : OpenClaim := { program := "ytncpaekiidpchaagreat", sum := "3844d8c88eb7d56ef35f7c6d5b730a8b74de99bf6dca574dda1a710a98b93a1c", func := "bulla/bullalaw23.ProofMakes", spec := "proofMakes", unfollowed := true, recurses := true, plainKeys := false, apart := false }
def ProofMakesSaid : Prop := proofMakesRow.holds Tryz.pinned (OpenSpec.ofChange proofMakesSpec)

/-- ITS FALSE NEIGHBOUR: 'it returns false'. Refute it at one input. -/
def proofMakesWrong : ChangeSpec := { name := "proofMakes", fn := fun _ => fun
  | [d1, d2, d3] => { results := [.lit (.bool false)], args := [d1, d2, d3] }
  | _ => none }
def ProofMakesWrongFalsely : Prop := proofMakesRow.holds Tryz.pinned (OpenSpec.ofChange proofMakesWrong)

/-- 'bullalaw23.ProofComplete': WHATEVER THE INPUT: true; the input reads as it did. -/
def proofCompleteSpec : ChangeSpec := { name := "proofComplete", fn := fun _ => fun
  | [d] => { results := [.lit (.bool true)], args := [d] }
  | _ => none }
def proofCompleteRow : OpenClaim := { program := "ytncpaekiidpchaagreat", sum := "3844d8c88eb7d56ef35f7c6d5b730a8b74de99bf6dca574dda1a710a98b93a1c", func := "bulla/bullalaw23.ProofComplete", spec := "proofComplete", unfollowed := true, recurses := true, plainKeys := false, apart := false }
def ProofCompleteSaid : Prop := proofCompleteRow.holds Tryz.pinned (OpenSpec.ofChange proofCompleteSpec)

/-- ITS FALSE NEIGHBOUR: 'it returns false'. Refute it at one input. -/
def proofCompleteWrong : ChangeSpec := { name := "proofComplete", fn := fun _ => fun
  | [d] => { results := [.lit (.bool false)], args := [d] }
  | _ => none }
def ProofCompleteWrongFalsely : Prop := proofCompleteRow.holds Tryz.pinned (OpenSpec.ofChange proofCompleteWrong)

/-- 'bullalaw23.ProofNone': WHATEVER THE INPUT: true; the input reads as it did. -/
def proofNoneSpec : ChangeSpec := { name := "proofNone", fn := fun _ => fun
  | [d1, d2] => { results := [.lit (.bool true)], args := [d1, d2] }
  | _ => none }
def proofNoneRow : OpenClaim := { program := "ytncpaekiidpchaagreat", sum := "3844d8c88eb7d56ef35f7c6d5b730a8b74de99bf6dca574dda1a710a98b93a1c", func := "bulla/bullalaw23.ProofNone", spec := "proofNone", unfollowed := true, recurses := true, plainKeys := false, apart := false }
def ProofNoneSaid : Prop := proofNoneRow.holds Tryz.pinned (OpenSpec.ofChange proofNoneSpec)

/-- ITS FALSE NEIGHBOUR: 'it returns false'. Refute it at one input. -/
def proofNoneWrong : ChangeSpec := { name := "proofNone", fn := fun _ => fun
  | [d1, d2] => { results := [.lit (.bool false)], args := [d1, d2] }
  | _ => none }
def ProofNoneWrongFalsely : Prop := proofNoneRow.holds Tryz.pinned (OpenSpec.ofChange proofNoneWrong)

/- THE SECOND FORM. 'bulk': how many values and letters a reading holds, each counted each time it is reached (what is shared counts as often as it is met; a slice's spare places count too). A statement '..UptoSaid' is the law's where the arguments, and the package variables that the reading takes, are together of bulk at most 1048576: NARROWER than '..Said'. Prove '..Said' where nothing that the law and all that it calls make is longer than what came in: it says more and counts as full. Else prove '..UptoSaid'. A law counts once. -/
mutual
def uptoBulk {H : Type} : DataW H → Nat
  | .lit (.string bytes) => bytes.length + 1
  | .lit _ => 1
  | .nil => 1
  | .ptr d => uptoBulk d + 1
  | .slice elems spare => uptoBulkAll elems + uptoBulkAll spare + 1
  | .agg parts => uptoBulkAll parts + 1
  | .iface _ d => uptoBulk d + 1
  | .map entries => uptoBulkEntries entries + 1
  | .held _ => 1
def uptoBulkAll {H : Type} : List (DataW H) → Nat
  | [] => 0
  | d :: r => uptoBulk d + uptoBulkAll r
def uptoBulkEntries {H : Type} : List (Lit × DataW H) → Nat
  | [] => 0
  | x :: r => uptoBulkEntry x + uptoBulkEntries r
def uptoBulkEntry {H : Type} : Lit × DataW H → Nat
  | (.string bytes, d) => bytes.length + uptoBulk d + 1
  | (_, d) => uptoBulk d + 1
 end
def uptoSmall : (H : Type) → List (DataW H) → Bool := fun _ ds => decide (uptoBulkAll ds ≤ 1048576)
def OpenSpec.upto (s : _root_.Go.ChangeSpec) : _root_.Go.OpenSpec := { _root_.Go.OpenSpec.ofChange s with cond := some uptoSmall }

/-- 'bullalaw23.ProofVerifies', WHERE WHAT IT READS IS OF BULK AT MOST 1048576: true; the input reads as it did. -/
def proofVerifiesUptoRow : OpenClaim := { program := "ytncpaekiidpchaagreat", sum := "3844d8c88eb7d56ef35f7c6d5b730a8b74de99bf6dca574dda1a710a98b93a1c", func := "bulla/bullalaw23.ProofVerifies", spec := "proofVerifies", unfollowed := true, recurses := true, plainKeys := false, apart := false, narrowed := true }
def ProofVerifiesUptoSaid : Prop := proofVerifiesUptoRow.holds Tryz.pinned (OpenSpec.upto proofVerifiesSpec)

/-- 'bullalaw23.ProofSound', WHERE WHAT IT READS IS OF BULK AT MOST 1048576: true; the input reads as it did. -/
def proofSoundUptoRow : OpenClaim := { program := "ytncpaekiidpchaagreat", sum := "3844d8c88eb7d56ef35f7c6d5b730a8b74de99bf6dca574dda1a710a98b93a1c", func := "bulla/bullalaw23.ProofSound", spec := "proofSound", unfollowed := true, recurses := true, plainKeys := false, apart := false, narrowed := true }
def ProofSoundUptoSaid : Prop := proofSoundUptoRow.holds Tryz.pinned (OpenSpec.upto proofSoundSpec)

/-- 'bullalaw23.ProofMakes', WHERE WHAT IT READS IS OF BULK AT MOST 1048576: true; the input reads as it did. -/
def proofMakesUptoRow : OpenClaim := { program := "ytncpaekiidpchaagreat", sum := "3844d8c88eb7d56ef35f7c6d5b730a8b74de99bf6dca574dda1a710a98b93a1c", func := "bulla/bullalaw23.ProofMakes", spec := "proofMakes", unfollowed := true, recurses := true, plainKeys := false, apart := false, narrowed := true }
def ProofMakesUptoSaid : Prop := proofMakesUptoRow.holds Tryz.pinned (OpenSpec.upto proofMakesSpec)

/-- 'bullalaw23.ProofComplete', WHERE WHAT IT READS IS OF BULK AT MOST 1048576: true; the input reads as it did. -/
def proofCompleteUptoRow : OpenClaim := { program := "ytncpaekiidpchaagreat", sum := "3844d8c88eb7d56ef35f7c6d5b730a8b74de99bf6dca574dda1a710a98b93a1c", func := "bulla/bullalaw23.ProofComplete", spec := "proofComplete", unfollowed := true, recurses := true, plainKeys := false, apart := false, narrowed := true }
def ProofCompleteUptoSaid : Prop := proofCompleteUptoRow.holds Tryz.pinned (OpenSpec.upto proofCompleteSpec)

/-- 'bullalaw23.ProofNone', WHERE WHAT IT READS IS OF BULK AT MOST 1048576: true; the input reads as it did. -/
def proofNoneUptoRow : OpenClaim := { program := "ytncpaekiidpchaagreat", sum := "3844d8c88eb7d56ef35f7c6d5b730a8b74de99bf6dca574dda1a710a98b93a1c", func := "bulla/bullalaw23.ProofNone", spec := "proofNone", unfollowed := true, recurses := true, plainKeys := false, apart := false, narrowed := true }
def ProofNoneUptoSaid : Prop := proofNoneUptoRow.holds Tryz.pinned (OpenSpec.upto proofNoneSpec)

end Rows
end Go.Proofs.YtncpaekiidpchaaGreat

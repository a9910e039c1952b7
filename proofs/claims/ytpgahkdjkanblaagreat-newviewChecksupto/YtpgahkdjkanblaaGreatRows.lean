/-
  No cell of these rows narrows 'for every input' (looked for: loops, veiled, ifaces, maps, wideKeys, modest, calm, conditions, laid).
  DERIVED. THE GIVEN ROWS OF THIS SEAT. 4 by the template 'for every input the law returns true; each argument reads behind the call as it read before'; 0 by the template 'total and deterministic' (their statements: YtpgahkdjkanblaaGreatTotals.lean).
  GIVEN WITH THE SEED: the statements are not yours to turn. If you find one false, say at which input.
  Laid BY PROGRAM, IN A SANDBOX (cutbox-rows.mjs): the forced cells as the released guide's own fill.sh prints them over the translation bcc23dc72691de2d… (all of the seat's roots in one cut). By AI agents, Wed Nov 11 2026. No macro, syntax, notation, axiom, sorry.
-/
import Derived.Test.YtpgahkdjkanblaaGreatChecked
import GoSem.Claim
import GoSem.ClaimJoined
import GoSem.ClaimMapViews
import Derived.JoinedTies
import Derived.KernelRfl
namespace Go.Proofs.YtpgahkdjkanblaaGreat
/- THE CELL 'sum', in the pinned program and in every row, IS THE sha256 OF THE DUMP (.gsa) THAT YtpgahkdjkanblaaGreatProg.lean LOADS. Nothing in Lean hashes anything: it is a label: what it is worth is what the hold of that sum in a sandbox is worth. -/
noncomputable def Tryz.pinned : Pinned := { name := "ytpgahkdjkanblaagreat", sum := "bcc23dc72691de2d98aac197632eac219e18583bb71d11c247a2e385e821bd42", checked := Tryz.checked }
namespace Rows
def none {H : Type} : Left H := { results := [], args := [] }

/-- 'bullalaw16.NewviewChecks': WHATEVER THE INPUT: true; the input reads as it did. -/
def newviewChecksSpec : ChangeSpec := { name := "newviewChecks", fn := fun _ => fun
  | [d1, d2, d3, d4, d5] => { results := [.lit (.bool true)], args := [d1, d2, d3, d4, d5] }
  | _ => none }
def newviewChecksRow : OpenClaim := { program := "ytpgahkdjkanblaagreat", sum := "bcc23dc72691de2d98aac197632eac219e18583bb71d11c247a2e385e821bd42", func := "bulla/bullalaw16.NewviewChecks", spec := "newviewChecks", unfollowed := true, recurses := true, plainKeys := false, apart := false }
def NewviewChecksSaid : Prop := newviewChecksRow.holds Tryz.pinned (OpenSpec.ofChange newviewChecksSpec)

/-- ITS FALSE NEIGHBOUR: 'it returns false'. Refute it at one input. -/
def newviewChecksWrong : ChangeSpec := { name := "newviewChecks", fn := fun _ => fun
  | [d1, d2, d3, d4, d5] => { results := [.lit (.bool false)], args := [d1, d2, d3, d4, d5] }
  | _ => none }
def NewviewChecksWrongFalsely : Prop := newviewChecksRow.holds Tryz.pinned (OpenSpec.ofChange newviewChecksWrong)

/-- 'bullalaw16.NewviewTaken': WHATEVER THE INPUT: true; the input reads as it did. -/
def newviewTakenSpec : ChangeSpec := { name := "newviewTaken", fn := fun _ => fun
  | [d1, d2, d3, d4] => { results := [.lit (.bool true)], args := [d1, d2, d3, d4] }
  | _ => none }
def newviewTakenRow : OpenClaim := { program := "ytpgahkdjkanblaagreat", sum := "bcc23dc72691de2d98aac197632eac219e18583bb71d11c247a2e385e821bd42", func := "bulla/bullalaw16.NewviewTaken", spec := "newviewTaken", unfollowed := true, recurses := true, plainKeys := false, apart := false }
def NewviewTakenSaid : Prop := newviewTakenRow.holds Tryz.pinned (OpenSpec.ofChange newviewTakenSpec)

/-- ITS FALSE NEIGHBOUR: 'it returns false'. Refute it at one input. -/
def newviewTakenWrong : ChangeSpec := { name := "newviewTaken", fn := fun _ => fun
  | [d1, d2, d3, d4] => { results := [.lit (.bool false)], args := [d1, d2, d3, d4] }
  | _ => none }
def NewviewTakenWrongFalsely : Prop := newviewTakenRow.holds Tryz.pinned (OpenSpec.ofChange newviewTakenWrong)

/-- 'bullalaw16.NewviewValid': WHATEVER THE INPUT: true; the input reads as it did. -/
def newviewValidSpec : ChangeSpec := { name := "newviewValid", fn := fun _ => fun
  | [d1, d2, d3, d4] => { results := [.lit (.bool true)], args := [d1, d2, d3, d4] }
  | _ => none }
def newviewValidRow : OpenClaim := { program := "ytpgahkdjkanblaagreat", sum := "bcc23dc72691de2d98aac197632eac219e18583bb71d11c247a2e385e821bd42", func := "bulla/bullalaw16.NewviewValid", spec := "newviewValid", unfollowed := true, recurses := true, plainKeys := false, apart := false }
def NewviewValidSaid : Prop := newviewValidRow.holds Tryz.pinned (OpenSpec.ofChange newviewValidSpec)

/-- ITS FALSE NEIGHBOUR: 'it returns false'. Refute it at one input. -/
def newviewValidWrong : ChangeSpec := { name := "newviewValid", fn := fun _ => fun
  | [d1, d2, d3, d4] => { results := [.lit (.bool false)], args := [d1, d2, d3, d4] }
  | _ => none }
def NewviewValidWrongFalsely : Prop := newviewValidRow.holds Tryz.pinned (OpenSpec.ofChange newviewValidWrong)

/-- 'bullalaw16.NewviewMakes': WHATEVER THE INPUT: true; the input reads as it did. -/
def newviewMakesSpec : ChangeSpec := { name := "newviewMakes", fn := fun _ => fun
  | [d1, d2, d3, d4] => { results := [.lit (.bool true)], args := [d1, d2, d3, d4] }
  | _ => none }
def newviewMakesRow : OpenClaim := { program := "ytpgahkdjkanblaagreat", sum := "bcc23dc72691de2d98aac197632eac219e18583bb71d11c247a2e385e821bd42", func := "bulla/bullalaw16.NewviewMakes", spec := "newviewMakes", unfollowed := true, recurses := true, plainKeys := false, apart := false }
def NewviewMakesSaid : Prop := newviewMakesRow.holds Tryz.pinned (OpenSpec.ofChange newviewMakesSpec)

/-- ITS FALSE NEIGHBOUR: 'it returns false'. Refute it at one input. -/
def newviewMakesWrong : ChangeSpec := { name := "newviewMakes", fn := fun _ => fun
  | [d1, d2, d3, d4] => { results := [.lit (.bool false)], args := [d1, d2, d3, d4] }
  | _ => none }
def NewviewMakesWrongFalsely : Prop := newviewMakesRow.holds Tryz.pinned (OpenSpec.ofChange newviewMakesWrong)

/- THE SECOND FORM. 'bulk': how many values and letters a reading holds, each counted each time it is reached (what is shared counts as often as it is met; a slice's spare places count too). A statement '..UptoSaid' is the law's where the arguments, and the package variables that the reading takes, are together of bulk at most 1048576: NARROWER than '..Said'. Prove '..Said' where nothing that the law and all that it calls make is longer than what came in: it says more and counts as full. Else prove '..UptoSaid'. A law counts once. -/
mutual
def uptoBulk {H : Type} : DataW H → Nat
  | .lit (.string bytes) => bytes.length + 1
  | .lit _ => 1
  | .nil => 1
  | .ptr d => uptoBulk d + 1
  | .slice elems spare => uptoBulkAll elems + uptoBulkAll spare + 1
  | .agg parts => uptoBulkAll parts + 1
  | .iface _ d => uptoBulk d + 1
  | .map entries => uptoBulkEntries entries + 1
  | .held _ => 1
def uptoBulkAll {H : Type} : List (DataW H) → Nat
  | [] => 0
  | d :: r => uptoBulk d + uptoBulkAll r
def uptoBulkEntries {H : Type} : List (Lit × DataW H) → Nat
  | [] => 0
  | x :: r => uptoBulkEntry x + uptoBulkEntries r
def uptoBulkEntry {H : Type} : Lit × DataW H → Nat
  | (.string bytes, d) => bytes.length + uptoBulk d + 1
  | (_, d) => uptoBulk d + 1
 end
def uptoSmall : (H : Type) → List (DataW H) → Bool := fun _ ds => decide (uptoBulkAll ds ≤ 1048576)
def OpenSpec.upto (s : _root_.Go.ChangeSpec) : _root_.Go.OpenSpec := { _root_.Go.OpenSpec.ofChange s with cond := some uptoSmall }

/-- 'bullalaw16.NewviewChecks', WHERE WHAT IT READS IS OF BULK AT MOST 1048576: true; the input reads as it did. -/
def newviewChecksUptoRow : OpenClaim := { program := "ytpgahkdjkanblaagreat", sum := "bcc23dc72691de2d98aac197632eac219e18583bb71d11c247a2e385e821bd42", func := "bulla/bullalaw16.NewviewChecks", spec := "newviewChecks", unfollowed := true, recurses := true, plainKeys := false, apart := false, narrowed := true }
def NewviewChecksUptoSaid : Prop := newviewChecksUptoRow.holds Tryz.pinned (OpenSpec.upto newviewChecksSpec)

/-- 'bullalaw16.NewviewTaken', WHERE WHAT IT READS IS OF BULK AT MOST 1048576: true; the input reads as it did. -/
def newviewTakenUptoRow : OpenClaim := { program := "ytpgahkdjkanblaagreat", sum := "bcc23dc72691de2d98aac197632eac219e18583bb71d11c247a2e385e821bd42", func := "bulla/bullalaw16.NewviewTaken", spec := "newviewTaken", unfollowed := true, recurses := true, plainKeys := false, apart := false, narrowed := true }
def NewviewTakenUptoSaid : Prop := newviewTakenUptoRow.holds Tryz.pinned (OpenSpec.upto newviewTakenSpec)

/-- 'bullalaw16.NewviewValid', WHERE WHAT IT READS IS OF BULK AT MOST 1048576: true; the input reads as it did. -/
def newviewValidUptoRow : OpenClaim := { program := "ytpgahkdjkanblaagreat", sum := "bcc23dc72691de2d98aac197632eac219e18583bb71d11c247a2e385e821bd42", func := "bulla/bullalaw16.NewviewValid", spec := "newviewValid", unfollowed := true, recurses := true, plainKeys := false, apart := false, narrowed := true }
def NewviewValidUptoSaid : Prop := newviewValidUptoRow.holds Tryz.pinned (OpenSpec.upto newviewValidSpec)

/-- 'bullalaw16.NewviewMakes', WHERE WHAT IT READS IS OF BULK AT MOST 1048576: true; the input reads as it did. -/
def newviewMakesUptoRow : OpenClaim := { program := "ytpgahkdjkanblaagreat", sum := "bcc23dc72691de2d98aac197632eac219e18583bb71d11c247a2e385e821bd42", func := "bulla/bullalaw16.NewviewMakes", spec := "newviewMakes", unfollowed := true, recurses := true, plainKeys := false, apart := false, narrowed := true }
def NewviewMakesUptoSaid : Prop := newviewMakesUptoRow.holds Tryz.pinned (OpenSpec.upto newviewMakesSpec)

end Rows
end Go.Proofs.YtpgahkdjkanblaaGreat

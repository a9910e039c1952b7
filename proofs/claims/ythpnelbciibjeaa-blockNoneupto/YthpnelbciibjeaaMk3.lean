/- Contracts: the digest to which a proof comes, on both sides. -/
import Derived.Test.YthpnelbciibjeaaMk1
import Derived.Test.YthpnelbciibjeaaSpUtf
import Derived.Test.YthpnelbciibjeaaOp1
import Derived.Test.YthpnelbciibjeaaOpC
import Derived.Test.YthpnelbciibjeaaCodec1
import Derived.Test.YthpnelbciibjeaaSpTake
import Derived.Test.YthpnelbciibjeaaHd2
import Derived.Test.YthpnelbciibjeaaAwFrz
set_option linter.all false
set_option maxRecDepth 100000
set_option linter.unusedSimpArgs false
set_option linter.unusedVariables false
namespace Go.Proofs.Ythpnelbciibjeaa
open Go.AW



theorem zcb {σ : List zc} {id m t j : Nat} (L : List (List UInt8)) (h1 : j ≠ id) (h2 : j ≠ m) (h3 : j ≠ t) : (putTab σ id m t L)[j]? = σ[j]? := by
  unfold putTab
  rw [List.getElem?_set_ne (fun e => h2 e.symm), List.getElem?_set_ne (fun e => h1 e.symm), List.getElem?_set_ne (fun e => h3 e.symm)]
end Go.Proofs.Ythpnelbciibjeaa

/- Which proofs may be: the first error of all that is asked. No program in sight. -/
set_option linter.unusedSimpArgs false
set_option linter.unusedVariables false
namespace Go.AW

structure TProof where
  topic : List UInt8
  offset : Int
  rec_ : List UInt8
  headers : List zfc
  index : Int
  count : Int
  path : List Int
  cert : TCert
end Go.AW

/- Contracts: what is asked of a proof, the program's. -/
set_option maxRecDepth 100000
set_option linter.unusedSimpArgs false
set_option linter.unusedVariables false
namespace Go.Proofs.Ythpnelbciibjeaa
open Go.AW

theorem wkc (k : Nat) (h : k ≤ 1073741824) : IntKind.i64.wrap ((k : Int) + 1) = ((k + 1 : Nat) : Int) := by rw [zbJ (by omega) (by omega)]; rfl
end Go.Proofs.Ythpnelbciibjeaa

/- The proof of a record in blocks. No program in sight. -/
set_option linter.unusedSimpArgs false
set_option linter.unusedVariables false
namespace Go.AW

structure TBlock where
  header : zfc
  batch : List zh
  placed : List zcy
end Go.AW

/- Contracts: the proof of a record: where it stands, which headers lead to the certificate; on both sides. -/
set_option maxRecDepth 100000
set_option linter.unusedSimpArgs false
set_option linter.unusedVariables false
namespace Go.Proofs.Ythpnelbciibjeaa
open Go.AW

structure smallBk (b : TBlock) : Prop where
  seq : i64r b.header.seq
  len : b.placed.length ≤ 1048576
  each : ∀ p ∈ b.placed, znw p
end Go.Proofs.Ythpnelbciibjeaa

/- Requests that wait: of each client at most one. No program in sight. -/
set_option linter.unusedSimpArgs false
set_option linter.unusedVariables false
namespace Go.AW

abbrev PQ := List (Option zh)
structure zeV (q : PQ) : Prop where
  len : q.length = 8
  at_ : ∀ (i : Nat) x, q[i]? = some (some x) → x.client = i ∧ zC [x] = 0 ∧ okO x.op
def zcq (q : PQ) : List zh := q.filterMap id
def ofF (q : PQ) (c : Int) : Option zh := if 0 ≤ c ∧ c < 8 then (q[c.toNat]?).join else none
def mayPut : Option zh → Int → Bool
  | some y, t => decide (y.time < t)
  | none, _ => true
def mayDone : Option zh → Int → Bool
  | some y, t => decide (y.time ≤ t)
  | none, _ => false
def canPut (q : PQ) (x : zh) : Bool := decide (zC [x] = 0) && mayPut (ofF q x.client) x.time
def putQ (q : PQ) (x : zh) : PQ := if canPut q x = true then q.set x.client.toNat (some x) else q
def canDone (q : PQ) (c t : Int) : Bool := mayDone (ofF q c) t
def doneQ (q : PQ) (c t : Int) : PQ := if canDone q c t = true then q.set c.toNat none else q

theorem one_ok {x : zh} (h : zC [x] = 0) : 0 ≤ x.client ∧ x.client < 8 ∧ 1 ≤ x.time ∧ x.time ≤ 9007199254740992 ∧ zai zcs x.op = 0 ∧ zao x = 0 ∧ zaF x.key x.dig = 0 := by
  simp only [zC, List.length_singleton, zhi, errF] at h
  have h1 : ¬ (1 > 4) := by omega
  rw [if_neg h1] at h
  by_cases hr : zao x = 0
  · by_cases hs : zaF x.key x.dig = 0
    · unfold zao at hr
      split at hr
      · cases hr
      · rename_i hc
        have hr' : zao x = 0 := by unfold zao; rw [if_neg hc]; exact hr
        exact ⟨by omega, by omega, by omega, by omega, hr, hr', hs⟩
    · exfalso
      simp [hr, hs] at h
  · exfalso
    simp [hr] at h
theorem ofF_some {q : PQ} {c : Int} {x : zh} (h : ofF q c = some x) : 0 ≤ c ∧ c < 8 ∧ q[c.toNat]? = some (some x) := by
  unfold ofF at h
  split at h
  · rename_i hc
    refine ⟨hc.1, hc.2, ?_⟩
    cases hq : q[c.toNat]? with
    | none => rw [hq] at h; cases h
    | some o => rw [hq] at h; simp at h; rw [h]
  · cases h
theorem zeV.get {q : PQ} (hq : zeV q) {c : Int} (h0 : 0 ≤ c) (h8 : c < 8) : q[c.toNat]? = some (ofF q c) := by
  have hl := hq.len
  have : q[c.toNat]? = some (q[c.toNat]'(by omega)) := List.getElem?_eq_getElem _
  unfold ofF
  rw [if_pos ⟨h0, h8⟩, this]
  rfl
theorem zeV.put {q : PQ} (hq : zeV q) {x : zh} (hx : okO x.op) : zeV (putQ q x) := by
  unfold putQ
  split
  · rename_i hc
    simp only [canPut, Bool.and_eq_true, decide_eq_true_eq] at hc
    obtain ⟨h0, h8, _⟩ := one_ok hc.1
    refine ⟨by simp [hq.len], fun i y h => ?_⟩
    rw [List.getElem?_set] at h
    split at h
    · rename_i e
      split at h
      · simp at h; subst h
        exact ⟨by omega, hc.1, hx⟩
      · cases h
    · exact hq.at_ i y h
  · exact hq
theorem zeV.done {q : PQ} (hq : zeV q) {c t : Int} : zeV (doneQ q c t) := by
  unfold doneQ
  split
  · refine ⟨by simp [hq.len], fun i y h => ?_⟩
    rw [List.getElem?_set] at h
    split at h
    · split at h
      · simp at h
      · cases h
    · exact hq.at_ i y h
  · exact hq
theorem ziW {q : PQ} {x : zh} (h : x ∈ zcq q) : ∃ i : Nat, q[i]? = some (some x) := by
  simp only [zcq, List.mem_filterMap, id_eq, exists_eq_right] at h
  exact List.mem_iff_getElem?.1 h
end Go.AW

/- Contracts: the digest of leaves, on both sides. -/
import Derived.Test.YtaocmalhjfakdaaMk1
import Derived.Test.YtaocmalhjfakdaaOpC
import Derived.Test.YtaocmalhjfakdaaSpTab
import Derived.Test.YtaocmalhjfakdaaSpUtf
import Derived.Test.YtaocmalhjfakdaaId3
import Derived.Test.YtaocmalhjfakdaaCl1
import Derived.Test.YtaocmalhjfakdaaCodec1
import Derived.Test.YtaocmalhjfakdaaOp1
import Derived.Test.YtaocmalhjfakdaaAwFrz
set_option linter.all false
set_option maxRecDepth 100000
set_option linter.unusedSimpArgs false
set_option linter.unusedVariables false
namespace Go.Proofs.Ytaocmalhjfakdaa
open Go.AW

end Go.Proofs.Ytaocmalhjfakdaa

/- Votes: their bytes, and whether they are signed. No program in sight. -/
set_option linter.unusedSimpArgs false
set_option linter.unusedVariables false
namespace Go.AW

end Go.AW

/- Contracts: the digest to which a proof comes, on both sides. -/
set_option maxRecDepth 100000
set_option linter.unusedSimpArgs false
set_option linter.unusedVariables false
namespace Go.Proofs.Ytaocmalhjfakdaa
open Go.AW




end Go.Proofs.Ytaocmalhjfakdaa

/- Headers, and records at their places: their bytes; chains. No program in sight. -/
set_option linter.unusedSimpArgs false
set_option linter.unusedVariables false
namespace Go.AW

structure THdr where
  seq : Int
  prev : Int
  batch : Int
  root : Int
  state : Int
deriving DecidableEq
structure zfd where
  topic : List UInt8
  offset : Int
  rec_ : List UInt8
abbrev zkD (p : zfd) : List D := [.str p.topic, .int .i64 p.offset, .slice (bcs p.rec_)]
abbrev zdb (l : List zfd) : List (List D) := l.map zkD
end Go.AW

/- Contracts: headers, and records at their places, on both sides. -/
set_option maxRecDepth 100000
set_option linter.unusedSimpArgs false
set_option linter.unusedVariables false
namespace Go.Proofs.Ytaocmalhjfakdaa
open Go.AW

structure smallPl (p : zfd) : Prop where
  off : i64r p.offset
  topic : p.topic.length ≤ 16777216
  rec_ : p.rec_.length ≤ 16777216

end Go.Proofs.Ytaocmalhjfakdaa

/- Which proofs may be: the first error of all that is asked. No program in sight. -/
set_option linter.unusedSimpArgs false
set_option linter.unusedVariables false
namespace Go.AW

structure TProof where
  topic : List UInt8
  offset : Int
  rec_ : List UInt8
  headers : List THdr
  index : Int
  count : Int
  path : List Int
  cert : TCert
end Go.AW

/- Contracts: what is asked of a proof, the program's. -/
set_option maxRecDepth 100000
set_option linter.unusedSimpArgs false
set_option linter.unusedVariables false
namespace Go.Proofs.Ytaocmalhjfakdaa
open Go.AW

theorem wkc (k : Nat) (h : k ≤ 1073741824) : IntKind.i64.wrap ((k : Int) + 1) = ((k + 1 : Nat) : Int) := by rw [zbJ (by omega) (by omega)]; rfl
end Go.Proofs.Ytaocmalhjfakdaa

/- The proof of a record in blocks. No program in sight. -/
set_option linter.unusedSimpArgs false
set_option linter.unusedVariables false
namespace Go.AW

structure TBlock where
  header : THdr
  batch : List zJ
  placed : List zfd
end Go.AW

/- Contracts: the proof of a record: where it stands, which headers lead to the certificate; on both sides. -/
set_option maxRecDepth 100000
set_option linter.unusedSimpArgs false
set_option linter.unusedVariables false
namespace Go.Proofs.Ytaocmalhjfakdaa
open Go.AW

structure smallBk (b : TBlock) : Prop where
  seq : i64r b.header.seq
  len : b.placed.length ≤ 1048576
  each : ∀ p ∈ b.placed, smallPl p
end Go.Proofs.Ytaocmalhjfakdaa

/- Requests that wait: of each client at most one. No program in sight. -/
set_option linter.unusedSimpArgs false
set_option linter.unusedVariables false
namespace Go.AW

abbrev PQ := List (Option zJ)
structure zeE (q : PQ) : Prop where
  len : q.length = 8
  at_ : ∀ (i : Nat) x, q[i]? = some (some x) → x.client = i ∧ zcP [x] = 0 ∧ okO x.op
def zcc (q : PQ) : List zJ := q.filterMap id
def ofF (q : PQ) (c : Int) : Option zJ := if 0 ≤ c ∧ c < 8 then (q[c.toNat]?).join else none
def mayPut : Option zJ → Int → Bool
  | some y, t => decide (y.time < t)
  | none, _ => true
def mayDone : Option zJ → Int → Bool
  | some y, t => decide (y.time ≤ t)
  | none, _ => false
def canPut (q : PQ) (x : zJ) : Bool := decide (zcP [x] = 0) && mayPut (ofF q x.client) x.time
def putQ (q : PQ) (x : zJ) : PQ := if canPut q x = true then q.set x.client.toNat (some x) else q
def canDone (q : PQ) (c t : Int) : Bool := mayDone (ofF q c) t
def doneQ (q : PQ) (c t : Int) : PQ := if canDone q c t = true then q.set c.toNat none else q

theorem one_ok {x : zJ} (h : zcP [x] = 0) : 0 ≤ x.client ∧ x.client < 8 ∧ 1 ≤ x.time ∧ x.time ≤ 9007199254740992 ∧ zar zbn x.op = 0 ∧ zfc x = 0 ∧ zjw x.key x.dig = 0 := by
  simp only [zcP, List.length_singleton, errsF, errF] at h
  have h1 : ¬ (1 > 4) := by omega
  rw [if_neg h1] at h
  by_cases hr : zfc x = 0
  · by_cases hs : zjw x.key x.dig = 0
    · unfold zfc at hr
      split at hr
      · cases hr
      · rename_i hc
        have hr' : zfc x = 0 := by unfold zfc; rw [if_neg hc]; exact hr
        exact ⟨by omega, by omega, by omega, by omega, hr, hr', hs⟩
    · exfalso
      simp [hr, hs] at h
  · exfalso
    simp [hr] at h
theorem ofF_some {q : PQ} {c : Int} {x : zJ} (h : ofF q c = some x) : 0 ≤ c ∧ c < 8 ∧ q[c.toNat]? = some (some x) := by
  unfold ofF at h
  split at h
  · rename_i hc
    refine ⟨hc.1, hc.2, ?_⟩
    cases hq : q[c.toNat]? with
    | none => rw [hq] at h; cases h
    | some o => rw [hq] at h; simp at h; rw [h]
  · cases h
theorem zeE.get {q : PQ} (hq : zeE q) {c : Int} (h0 : 0 ≤ c) (h8 : c < 8) : q[c.toNat]? = some (ofF q c) := by
  have hl := hq.len
  have : q[c.toNat]? = some (q[c.toNat]'(by omega)) := List.getElem?_eq_getElem _
  unfold ofF
  rw [if_pos ⟨h0, h8⟩, this]
  rfl
theorem zeE.put {q : PQ} (hq : zeE q) {x : zJ} (hx : okO x.op) : zeE (putQ q x) := by
  unfold putQ
  split
  · rename_i hc
    simp only [canPut, Bool.and_eq_true, decide_eq_true_eq] at hc
    obtain ⟨h0, h8, _⟩ := one_ok hc.1
    refine ⟨by simp [hq.len], fun i y h => ?_⟩
    rw [List.getElem?_set] at h
    split at h
    · rename_i e
      split at h
      · simp at h; subst h
        exact ⟨by omega, hc.1, hx⟩
      · cases h
    · exact hq.at_ i y h
  · exact hq
theorem zeE.done {q : PQ} (hq : zeE q) {c t : Int} : zeE (doneQ q c t) := by
  unfold doneQ
  split
  · refine ⟨by simp [hq.len], fun i y h => ?_⟩
    rw [List.getElem?_set] at h
    split at h
    · split at h
      · simp at h
      · cases h
    · exact hq.at_ i y h
  · exact hq
theorem ziq {q : PQ} {x : zJ} (h : x ∈ zcc q) : ∃ i : Nat, q[i]? = some (some x) := by
  simp only [zcc, List.mem_filterMap, id_eq, exists_eq_right] at h
  exact List.mem_iff_getElem?.1 h
end Go.AW

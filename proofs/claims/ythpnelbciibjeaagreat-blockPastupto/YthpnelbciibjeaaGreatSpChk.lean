/- Which proofs may be: the first error of all that is asked. No program in sight. -/
import Derived.Test.YthpnelbciibjeaaGreatMk2
import Derived.Test.YthpnelbciibjeaaGreatSpUtf
import Derived.Test.YthpnelbciibjeaaGreatOp1
import Derived.Test.YthpnelbciibjeaaGreatRc1
import Derived.Test.YthpnelbciibjeaaGreatCodec1
import Derived.Test.YthpnelbciibjeaaGreatHd2
import Derived.Test.YthpnelbciibjeaaGreatAwFrz
import Derived.Test.YthpnelbciibjeaaGreatRc2
import Derived.Test.YthpnelbciibjeaaGreatRq2
import Derived.Test.YthpnelbciibjeaaGreatCl1
import Derived.Test.YthpnelbciibjeaaGreatSh
import Derived.Test.YthpnelbciibjeaaGreatAwEnd
set_option linter.all false
set_option linter.unusedSimpArgs false
set_option linter.unusedVariables false
namespace Go.AW

structure TProof where
  topic : List UInt8
  offset : Int
  rec_ : List UInt8
  headers : List zbZ
  index : Int
  count : Int
  path : List Int
  cert : TCert
end Go.AW

/- Contracts: what is asked of a proof, the program's. -/
set_option maxRecDepth 100000
set_option linter.unusedSimpArgs false
set_option linter.unusedVariables false
namespace Go.Proofs.YthpnelbciibjeaaGreat
open Go.AW

theorem wkc (k : Nat) (h : k ≤ 1073741824) : IntKind.i64.wrap ((k : Int) + 1) = ((k + 1 : Nat) : Int) := by rw [zaD (by omega) (by omega)]; rfl
end Go.Proofs.YthpnelbciibjeaaGreat

/- The proof of a record in blocks. No program in sight. -/
set_option linter.unusedSimpArgs false
set_option linter.unusedVariables false
namespace Go.AW

structure zig where
  header : zbZ
  batch : List zf
  placed : List zcs
end Go.AW

/- Contracts: the proof of a record: where it stands, which headers lead to the certificate; on both sides. -/
set_option maxRecDepth 100000
set_option linter.unusedSimpArgs false
set_option linter.unusedVariables false
namespace Go.Proofs.YthpnelbciibjeaaGreat
open Go.AW

structure smallBk (b : zig) : Prop where
  seq : i64r b.header.seq
  len : b.placed.length ≤ 1048576
  each : ∀ p ∈ b.placed, zmA p
end Go.Proofs.YthpnelbciibjeaaGreat

/- Requests that wait: of each client at most one. No program in sight. -/
set_option linter.unusedSimpArgs false
set_option linter.unusedVariables false
namespace Go.AW

abbrev PQ := List (Option zf)
structure zfs (q : PQ) : Prop where
  len : q.length = 8
  at_ : ∀ (i : Nat) x, q[i]? = some (some x) → x.client = i ∧ zh [x] = 0 ∧ okO x.op
def zcU (q : PQ) : List zf := q.filterMap id
def ofF (q : PQ) (c : Int) : Option zf := if 0 ≤ c ∧ c < 8 then (q[c.toNat]?).join else none
def mayPut : Option zf → Int → Bool
  | some y, t => decide (y.time < t)
  | none, _ => true
def mayDone : Option zf → Int → Bool
  | some y, t => decide (y.time ≤ t)
  | none, _ => false
def canPut (q : PQ) (x : zf) : Bool := decide (zh [x] = 0) && mayPut (ofF q x.client) x.time
def putQ (q : PQ) (x : zf) : PQ := if canPut q x = true then q.set x.client.toNat (some x) else q
def canDone (q : PQ) (c t : Int) : Bool := mayDone (ofF q c) t
def doneQ (q : PQ) (c t : Int) : PQ := if canDone q c t = true then q.set c.toNat none else q

theorem one_ok {x : zf} (h : zh [x] = 0) : 0 ≤ x.client ∧ x.client < 8 ∧ 1 ≤ x.time ∧ x.time ≤ 9007199254740992 ∧ zV zbH x.op = 0 ∧ zK x = 0 ∧ zR x.key x.dig = 0 := by
  simp only [zh, List.length_singleton, zht, zoG] at h
  have h1 : ¬ (1 > 4) := by omega
  rw [if_neg h1] at h
  by_cases hr : zK x = 0
  · by_cases hs : zR x.key x.dig = 0
    · unfold zK at hr
      split at hr
      · cases hr
      · rename_i hc
        have hr' : zK x = 0 := by unfold zK; rw [if_neg hc]; exact hr
        exact ⟨by omega, by omega, by omega, by omega, hr, hr', hs⟩
    · exfalso
      simp [hr, hs] at h
  · exfalso
    simp [hr] at h
theorem ofF_some {q : PQ} {c : Int} {x : zf} (h : ofF q c = some x) : 0 ≤ c ∧ c < 8 ∧ q[c.toNat]? = some (some x) := by
  unfold ofF at h
  split at h
  · rename_i hc
    refine ⟨hc.1, hc.2, ?_⟩
    cases hq : q[c.toNat]? with
    | none => rw [hq] at h; cases h
    | some o => rw [hq] at h; simp at h; rw [h]
  · cases h
theorem zfs.get {q : PQ} (hq : zfs q) {c : Int} (h0 : 0 ≤ c) (h8 : c < 8) : q[c.toNat]? = some (ofF q c) := by
  have hl := hq.len
  have : q[c.toNat]? = some (q[c.toNat]'(by omega)) := List.getElem?_eq_getElem _
  unfold ofF
  rw [if_pos ⟨h0, h8⟩, this]
  rfl
theorem zfs.put {q : PQ} (hq : zfs q) {x : zf} (hx : okO x.op) : zfs (putQ q x) := by
  unfold putQ
  split
  · rename_i hc
    simp only [canPut, Bool.and_eq_true, decide_eq_true_eq] at hc
    obtain ⟨h0, h8, _⟩ := one_ok hc.1
    refine ⟨by simp [hq.len], fun i y h => ?_⟩
    rw [List.getElem?_set] at h
    split at h
    · rename_i e
      split at h
      · simp at h; subst h
        exact ⟨by omega, hc.1, hx⟩
      · cases h
    · exact hq.at_ i y h
  · exact hq
theorem zfs.done {q : PQ} (hq : zfs q) {c t : Int} : zfs (doneQ q c t) := by
  unfold doneQ
  split
  · refine ⟨by simp [hq.len], fun i y h => ?_⟩
    rw [List.getElem?_set] at h
    split at h
    · split at h
      · simp at h
      · cases h
    · exact hq.at_ i y h
  · exact hq
theorem zjO {q : PQ} {x : zf} (h : x ∈ zcU q) : ∃ i : Nat, q[i]? = some (some x) := by
  simp only [zcU, List.mem_filterMap, id_eq, exists_eq_right] at h
  exact List.mem_iff_getElem?.1 h
abbrev openE (l : List (List zf)) : List (List D) := l.map fun b => [D.slice (zce b)]
end Go.AW

/- Contracts: a pool: made, asked, put into, done. -/
set_option maxRecDepth 100000
set_option linter.unusedSimpArgs false
set_option linter.unusedVariables false
namespace Go.Proofs.YthpnelbciibjeaaGreat
open Go.AW


def z9 : List AV := [.d (.int .i64 0), .d (.int .i64 0), .d (.int .i64 0), .d (.str []), .d (.str []), .d (.int .i64 0), .exact [], .d (.int .i64 0), .d (.int .i64 0)]


def digE (L : List (List UInt8)) (l : List zf) : Int := if zh l ≠ 0 then zh l else if zex L (zdb l) = 0 then 6 else 0
def zoI (L : List (List UInt8)) (l : List zf) : Int := if zh l ≠ 0 then 0 else zex L (zdb l)
def zdF (L : List (List UInt8)) (l : List zf) : List (List UInt8) := if zh l ≠ 0 then L else zee L (zdb l)
theorem c_rqDigest {σ : List zc} {id m t : Nat} {L : List (List UInt8)} {l : List zf} (hT : zbC σ id m t L) (hL : zhJ L)
    (hx : ∀ s ∈ l, zfc s.op ≤ 20971520) (hll : l.length ≤ 1073741824) {K : AV → List zc → Prop} (hK : K (.tup [.d (.int .i64 (zoI L l)), .d (.int .i64 (digE L l))]) (putTab σ id m t (zdF L l))) :
    zt Tryz.prog zeZ [.box id 0, .d (.slice (zce l))] σ K := by
  refine zlO zlZ fun hl => ?_
  have hok : okB l := ⟨hll, fun s hs => sizes (hx s hs)⟩
  simp only [zhn, iN, bT, bF, eN]
  refine gq1 ?_
  refine zlN hok ?_
  by_cases hc : zh l = 0
  · have hq : (zh l != 0) = false := by simpa using hc
    have hbl := zgn hx
    have hc' : ¬ zh l ≠ 0 := by simpa using hc
    rw [show zoI L l = zex L (zdb l) from if_neg hc', show zdF L l = zee L (zdb l) from if_neg hc', show digE L l = if zex L (zdb l) = 0 then 6 else 0 from if_neg hc'] at hK
    refine gq2 hq ?_
    refine c_known hT hL.nd hL.len hL.each ?_
    refine gq1 ?_
    refine c_PutBatch (b := []) (by simp) hx hll ?_
    rw [List.nil_append, show zda l = zdb l from if_pos hc] at *
    refine gq1 ?_
    refine zlL hT (by omega) hL.len ?_
    have hl1 := hT.lows hl (zee L (zdb l))
    have hs1 := zaR σ id m t (zee L (zdb l))
    by_cases h0 : zex L (zdb l) = 0
    · rw [if_pos h0] at hK
      rw [h0] at hK ⊢
      refine gq4 ?_
      refine zdV hs1 ?_ hl1 ?_
      · simp [zgo, dmT, dm, dm1, zcE, zio]
      · exact hK
    · rw [if_neg h0] at hK
      have h0' : (zex L (zdb l) == 0) = false := by simpa using h0
      refine gq2 h0' ?_
      refine zdV hs1 ?_ hl1 ?_
      · simp [zgo, dmT, dm, dm1, zcE, zio]
      · exact hK
  · have hq : (zh l != 0) = true := by simpa using hc
    rw [zoI, digE, zdF, if_pos hc, if_pos hc, if_pos hc, hT.self] at hK
    refine gq2 hq ?_
    refine zbj hl ?_
    exact hK



end Go.Proofs.YthpnelbciibjeaaGreat

/- What a new view goes on with. No program in sight. -/
set_option linter.unusedSimpArgs false
namespace Go.AW

end Go.AW

/- Contracts: how many brokers there are, and a quorum has. -/
set_option maxRecDepth 100000
set_option linter.unusedSimpArgs false
namespace Go.Proofs.YthpnelbciibjeaaGreat
open Go.AW



abbrev prepA (p : zod) : AV := .agg [.d (.int .i64 p.view), .d (.int .i64 p.seq), .d (.int .i64 p.dig), .d (.int .i64 p.fkey), .d (.int .i64 p.fdig), .d (.slice (signsE p.signs)), .d (.slice (zce p.batch))]


structure smallP (p : zod) : Prop where
  ops : ∀ x ∈ p.batch, zfc x.op ≤ 20971520
  batch : p.batch.length ≤ 1073741824
  signs : p.signs.length ≤ 1073741824


end Go.Proofs.YthpnelbciibjeaaGreat

/- Checkpoints' certificates: which are valid. No program in sight. -/
set_option linter.unusedSimpArgs false
set_option linter.unusedVariables false
namespace Go.AW

end Go.AW

/- Contracts: checkpoints' certificates, on both sides. -/
set_option maxRecDepth 100000
set_option linter.unusedSimpArgs false
set_option linter.unusedVariables false
namespace Go.Proofs.YthpnelbciibjeaaGreat
open Go.AW



structure smallPf (p : TProof) : Prop where
  topic : p.topic.length ≤ 16777216
  rec_ : p.rec_.length ≤ 16777216
  headers : p.headers.length ≤ 1073741824
  path : p.path.length ≤ 1073741824
  signs : p.cert.signs.length ≤ 1073741824
  off : i64r p.offset
  index : i64r p.index
  count : i64r p.count
  paths : ∀ x ∈ p.path, i64r x


end Go.Proofs.YthpnelbciibjeaaGreat

/- Contracts: the digest of leaves, on both sides. -/
import Derived.Test.YtaocmalhjfakdaaGreatSpReq3
import Derived.Test.YtaocmalhjfakdaaGreatOpC
import Derived.Test.YtaocmalhjfakdaaGreatSpNum
import Derived.Test.YtaocmalhjfakdaaGreatCl1
import Derived.Test.YtaocmalhjfakdaaGreatCodec1
import Derived.Test.YtaocmalhjfakdaaGreatOp1
import Derived.Test.YtaocmalhjfakdaaGreatAwEnd
set_option linter.all false
set_option maxRecDepth 100000
set_option linter.unusedSimpArgs false
set_option linter.unusedVariables false
namespace Go.Proofs.YtaocmalhjfakdaaGreat
open Go.AW






theorem zt {A P Q : Prop} (a : A) (h : Q) (e : A → Hd Q → P := by intro a h; (repeat' first | simp -dsimp only [↓zhB, ↓zbf, ↓zcv, ↓zhC, ↓zhx, ↓zhv, ↓zhy, ↓zhw, ↓zcA, ↓zcw, ↓zcB, ↓zcx, ↓zhz, ↓zcu, ↓zcC, ↓zcy, ↓zcD, ↓zcz, ↓zhu, ↓zhA, ↓zct, ↓zcE, ↓zhs, ↓zhr, ↓zht, iN, bT, bF, eN, ↓zea, ↓unC, ↓zad, ↓zN, ↓zO, ↓zU, ↓zaw, ↓zbe, ↓zdk, ↓zaa, ↓zcX, ↓zai, ↓zk, ↓zi, ↓zbE, ↓zh, ↓zar, ↓zC, ↓zbb, ↓zbp, ↓ze, ↓zy, ↓zq, ↓zr, ↓zaA, ↓zeC, ↓zeS, ↓zaI, ↓zaT, ↓zbd, ↓zbF, ↓zbU, ↓zx, ↓zav, ↓zL, ↓zA, ↓zau, zeH, zcn, zcf, unA, zeV, bnd, zfP, zah, zX, zft, dm, dm1, zp, zaG, zgx, zgw, zS, Q0, Q1, Q2, Q3, Q4, Q5, zap, zE, zj, zat, zP, Q6, Q7, Q8, Q9, Q10, Q11, Q12, Q13, Q14, Nat.reduceAdd, Q15, Int.reduceToNat, Q16, Q17, Q18, Q19, Q20, reduceIte, Q21, Q22, zo, rep, zab, zgT, toD, zao, Q23, Q24, Q25, Q26, Q27, Q28, Nat.reduceLeDiff, Q29, Nat.reduceSub, Q30, Q31, Q32, sc, Q33, Q34, Q35, Q36, Q37, Q26, Q38, Q39, n0gt, n1gt, n2gt, n0eq, zjQ, n1eq, n2eq, n0ne, n1ne, zjP, zjR, i0ne, i0eq, Bool.not_true, Bool.not_false, List.length_map, a] | with_reducible refine andA ?_ | fail); exact h.go) : P := e a ⟨h⟩
theorem zby {P Q : Prop} (h : Q) (e : Hd Q → P := by intro h; (repeat' first | simp -dsimp only [↓zhB, ↓zbf, ↓zcv, ↓zhC, ↓zhx, ↓zhv, ↓zhy, ↓zhw, ↓zcA, ↓zcw, ↓zcB, ↓zcx, ↓zhz, ↓zcu, ↓zcC, ↓zcy, ↓zcD, ↓zcz, ↓zhu, ↓zhA, ↓zct, ↓zcE, ↓zhs, ↓zhr, ↓zht, iN, bT, bF, eN, ↓zea, ↓unC, ↓zad, ↓zN, ↓zO, ↓zU, ↓zaw, ↓zbe, ↓zdk, ↓zaa, ↓zcX, ↓zai, ↓zk, ↓zi, ↓zbE, ↓zh, ↓zar, ↓zC, ↓zbb, ↓zbp, ↓ze, ↓zy, ↓zq, ↓zr, ↓zaA, ↓zeC, ↓zeS, ↓zaI, ↓zaT, ↓zbd, ↓zbF, ↓zbU, ↓zx, ↓zav, ↓zL, ↓zA, ↓zau, zeH, zcn, zcf, unA, zeV, bnd, zfP, zah, zX, zft, dm, dm1, zp, zaG, zgx, zgw, zS, Q0, Q1, Q2, Q3, Q4, Q5, zap, zE, zj, zat, zP, Q6, Q7, Q8, Q9, Q10, Q11, Q12, Q13, Q14, Nat.reduceAdd, Q15, Int.reduceToNat, Q16, Q17, Q18, Q19, Q20, reduceIte, Q21, Q22, zo, rep, zab, zgT, toD, zao, Q23, Q24, Q25, Q26, Q27, Q28, Nat.reduceLeDiff, Q29, Nat.reduceSub, Q30, Q31, Q32, sc, Q33, Q34, Q35, Q36, Q37, Q26, Q38, Q39, n0gt, n1gt, n2gt, n0eq, zjQ, n1eq, n2eq, n0ne, n1ne, zjP, zjR, i0ne, i0eq, Bool.not_true, Bool.not_false, List.length_map] | with_reducible refine andA ?_ | fail); exact h.go) : P := e ⟨h⟩
theorem ziG {σ : List zc} {b : List UInt8} {n : Nat} (hb : b.length ≤ 1073741000) (hn : n < 9223372036854775808) {K : KT} (hK : K (.d (.slice (bcs (b ++ zbQ n)))) σ) : zn Tryz.prog zdI [.d (.slice (bcs b)), .d (.int .i64 n)] σ K := by
  refine znT e_r07_put fun hl => ?_
  have hw : IntKind.u64.wrap (n : Int) = (n : Int) := zcH (by omega)
  simp only [S_r07_put, iN, bT, bF, eN]
  refine zt hw ?_
  refine c_rPutNum (by omega) (by omega) ?_
  refine zby ?_
  refine zdv hl ?_
  exact hK
structure smallPl (p : zgR) : Prop where
  off : i64r p.offset
  topic : p.topic.length ≤ 16777216
  rec_ : p.rec_.length ≤ 16777216

end Go.Proofs.YtaocmalhjfakdaaGreat

/- Which proofs may be: the first error of all that is asked. No program in sight. -/
set_option linter.unusedSimpArgs false
set_option linter.unusedVariables false
namespace Go.AW

structure TProof where
  topic : List UInt8
  offset : Int
  rec_ : List UInt8
  headers : List THdr
  index : Int
  count : Int
  path : List Int
  cert : TCert
end Go.AW

/- Contracts: what is asked of a proof, the program's. -/
set_option maxRecDepth 100000
set_option linter.unusedSimpArgs false
set_option linter.unusedVariables false
namespace Go.Proofs.YtaocmalhjfakdaaGreat
open Go.AW

theorem wkc (k : Nat) (h : k ≤ 1073741824) : IntKind.i64.wrap ((k : Int) + 1) = ((k + 1 : Nat) : Int) := by rw [zam (by omega) (by omega)]; rfl
end Go.Proofs.YtaocmalhjfakdaaGreat

/- The proof of a record in blocks. No program in sight. -/
set_option linter.unusedSimpArgs false
set_option linter.unusedVariables false
namespace Go.AW

structure TBlock where
  header : THdr
  batch : List zag
  placed : List zgR
end Go.AW

/- Contracts: the proof of a record: where it stands, which headers lead to the certificate; on both sides. -/
set_option maxRecDepth 100000
set_option linter.unusedSimpArgs false
set_option linter.unusedVariables false
namespace Go.Proofs.YtaocmalhjfakdaaGreat
open Go.AW

structure smallBk (b : TBlock) : Prop where
  seq : i64r b.header.seq
  len : b.placed.length ≤ 1048576
  each : ∀ p ∈ b.placed, smallPl p
end Go.Proofs.YtaocmalhjfakdaaGreat

/- Requests that wait: of each client at most one. No program in sight. -/
set_option linter.unusedSimpArgs false
set_option linter.unusedVariables false
namespace Go.AW

abbrev PQ := List (Option zag)
structure zfS (q : PQ) : Prop where
  len : q.length = 8
  at_ : ∀ (i : Nat) x, q[i]? = some (some x) → x.client = i ∧ zdT [x] = 0 ∧ okO x.op
def zdm (q : PQ) : List zag := q.filterMap id
def ofF (q : PQ) (c : Int) : Option zag := if 0 ≤ c ∧ c < 8 then (q[c.toNat]?).join else none
def mayPut : Option zag → Int → Bool
  | some y, t => decide (y.time < t)
  | none, _ => true
def mayDone : Option zag → Int → Bool
  | some y, t => decide (y.time ≤ t)
  | none, _ => false
def canPut (q : PQ) (x : zag) : Bool := decide (zdT [x] = 0) && mayPut (ofF q x.client) x.time
def putQ (q : PQ) (x : zag) : PQ := if canPut q x = true then q.set x.client.toNat (some x) else q
def canDone (q : PQ) (c t : Int) : Bool := mayDone (ofF q c) t
def doneQ (q : PQ) (c t : Int) : PQ := if canDone q c t = true then q.set c.toNat none else q

theorem one_ok {x : zag} (h : zdT [x] = 0) : 0 ≤ x.client ∧ x.client < 8 ∧ 1 ≤ x.time ∧ x.time ≤ 9007199254740992 ∧ zaD zaZ x.op = 0 ∧ zgm x = 0 ∧ zlJ x.key x.dig = 0 := by
  simp only [zdT, List.length_singleton, errsF, errF] at h
  have h1 : ¬ (1 > 4) := by omega
  rw [if_neg h1] at h
  by_cases hr : zgm x = 0
  · by_cases hs : zlJ x.key x.dig = 0
    · unfold zgm at hr
      split at hr
      · cases hr
      · rename_i hc
        have hr' : zgm x = 0 := by unfold zgm; rw [if_neg hc]; exact hr
        exact ⟨by omega, by omega, by omega, by omega, hr, hr', hs⟩
    · exfalso
      simp [hr, hs] at h
  · exfalso
    simp [hr] at h
theorem ofF_some {q : PQ} {c : Int} {x : zag} (h : ofF q c = some x) : 0 ≤ c ∧ c < 8 ∧ q[c.toNat]? = some (some x) := by
  unfold ofF at h
  split at h
  · rename_i hc
    refine ⟨hc.1, hc.2, ?_⟩
    cases hq : q[c.toNat]? with
    | none => rw [hq] at h; cases h
    | some o => rw [hq] at h; simp at h; rw [h]
  · cases h
theorem zfS.get {q : PQ} (hq : zfS q) {c : Int} (h0 : 0 ≤ c) (h8 : c < 8) : q[c.toNat]? = some (ofF q c) := by
  have hl := hq.len
  have : q[c.toNat]? = some (q[c.toNat]'(by omega)) := List.getElem?_eq_getElem _
  unfold ofF
  rw [if_pos ⟨h0, h8⟩, this]
  rfl
theorem zfS.put {q : PQ} (hq : zfS q) {x : zag} (hx : okO x.op) : zfS (putQ q x) := by
  unfold putQ
  split
  · rename_i hc
    simp only [canPut, Bool.and_eq_true, decide_eq_true_eq] at hc
    obtain ⟨h0, h8, _⟩ := one_ok hc.1
    refine ⟨by simp [hq.len], fun i y h => ?_⟩
    rw [List.getElem?_set] at h
    split at h
    · rename_i e
      split at h
      · simp at h; subst h
        exact ⟨by omega, hc.1, hx⟩
      · cases h
    · exact hq.at_ i y h
  · exact hq
theorem zfS.done {q : PQ} (hq : zfS q) {c t : Int} : zfS (doneQ q c t) := by
  unfold doneQ
  split
  · refine ⟨by simp [hq.len], fun i y h => ?_⟩
    rw [List.getElem?_set] at h
    split at h
    · split at h
      · simp at h
      · cases h
    · exact hq.at_ i y h
  · exact hq
theorem zkm {q : PQ} {x : zag} (h : x ∈ zdm q) : ∃ i : Nat, q[i]? = some (some x) := by
  simp only [zdm, List.mem_filterMap, id_eq, exists_eq_right] at h
  exact List.mem_iff_getElem?.1 h
end Go.AW

/- Contracts: how many brokers there are, and a quorum has. -/
import Derived.Test.YtcappjcojggehaaGreatSh
import Derived.Test.YtcappjcojggehaaGreatSpNv
import Derived.Test.YtcappjcojggehaaGreatAwEnd
set_option linter.all false
set_option maxRecDepth 100000
set_option linter.unusedSimpArgs false
namespace Go.Proofs.YtcappjcojggehaaGreat
open Go.AW

theorem gqc3 {A B : Prop} (a : A) (b : B) : A ∧ B := ⟨a, b⟩
theorem gq59 {A P Q : Prop} (a : A) (h : Q) (e : A → P = Q := by intro a; simp -dsimp only [↓zcS, ↓zal, ↓zaI, ↓zcT, ↓zcN, ↓zcL, ↓zcO, ↓zcM, ↓zaN, ↓zaJ, ↓zaO, ↓zaK, ↓zcP, ↓zaH, ↓zaP, ↓zaL, ↓zaQ, ↓zaM, ↓zcK, ↓zcQ, ↓zaG, ↓zaR, ↓zcH, ↓zcG, ↓zcJ, iN, bT, bF, eN, ↓zbI, ↓unC, ↓zJ, ↓zx, ↓zy, ↓zC, ↓zQ, ↓zaA, ↓zbD, ↓zaa, ↓zbg, ↓zU, ↓zl, ↓zu, ↓zba, ↓ze, ↓zY, ↓zH, ↓zap, ↓zaw, ↓zc, ↓zD, ↓zj, ↓zo, ↓zad, ↓zbM, ↓zbX, ↓zaf, ↓zaj, ↓zar, ↓zax, ↓zaC, ↓zh, ↓zZ, ↓zB, ↓zk, ↓zO, zbS, zaF, zaD, unA, zcd, bnd, zcp, zT, zag, zcs, dm, dm1, zN, zaq, zcv, zcu, zL, Q0, Q1, Q2, Q3, Q4, Q5, zI, zg, zr, zt, zw, Q6, Q7, Q8, Q9, Q10, Q11, Q12, Q13, Q14, Nat.reduceAdd, Q15, Int.reduceToNat, Q16, Q17, Q18, Q19, Q20, reduceIte, Q21, Q22, zq, rep, zP, zcI, toD, zae, Q23, Q24, Q25, Q26, Q27, Q28, Nat.reduceLeDiff, Q29, Nat.reduceSub, Q30, Q31, Q32, sc, Q33, Q34, Q35, a]; rfl) : P := (e a).mpr h
theorem zms {σ : List zb} {f : Int} {K : AV → List zb → Prop} (hK : K (.d (.int .i64 (zcY f))) σ) : zK Tryz.prog zcW [.d (.int .i64 f)] σ K := by
  refine zi ziy.is rfl fun hl _ => ziy.goes ?_
  simp only [ziH, iN, bT, bF, eN]
  cases h1 : decide (f < 1) <;> cases h2 : decide (f > 4)
  all_goals
    (refine gq59 (gqc3 h1 h2) ?_; try with_reducible exact True.intro)
    (first | refine zai hl ?_ | refine zah hl ?_)
    simp only [decide_eq_true_eq, decide_eq_false_iff_not] at h1 h2
  · rw [zcY, if_neg (by omega)] at hK; exact hK
  all_goals (rw [zcY, if_pos (by omega)] at hK; exact hK)
theorem zmr {σ : List zb} {f : Int} {K : AV → List zb → Prop} (hK : K (.d (.int .i64 (zcY f))) σ) : zK Tryz.prog zeE [.d (.int .i64 f)] σ K := by
  refine zi zmd.is rfl fun hl _ => zmd.goes ?_
  simp only [zmD, iN, bT, bF, eN]
  cases h1 : decide (f < 1) <;> cases h2 : decide (f > 4)
  all_goals
    (refine gq59 (gqc3 h1 h2) ?_; try with_reducible exact True.intro)
    (first | refine zai hl ?_ | refine zah hl ?_)
    simp only [decide_eq_true_eq, decide_eq_false_iff_not] at h1 h2
  · rw [zcY, if_neg (by omega)] at hK; exact hK
  all_goals (rw [zcY, if_pos (by omega)] at hK; exact hK)
theorem gq60 {P Q : Prop} (h : Q) (e : P = Q := by simp -dsimp only [↓zcS, ↓zal, ↓zaI, ↓zcT, ↓zcN, ↓zcL, ↓zcO, ↓zcM, ↓zaN, ↓zaJ, ↓zaO, ↓zaK, ↓zcP, ↓zaH, ↓zaP, ↓zaL, ↓zaQ, ↓zaM, ↓zcK, ↓zcQ, ↓zaG, ↓zaR, ↓zcH, ↓zcG, ↓zcJ, iN, bT, bF, eN, ↓zbI, ↓unC, ↓zJ, ↓zx, ↓zy, ↓zC, ↓zQ, ↓zaA, ↓zbD, ↓zaa, ↓zbg, ↓zU, ↓zl, ↓zu, ↓zba, ↓ze, ↓zY, ↓zH, ↓zap, ↓zaw, ↓zc, ↓zD, ↓zj, ↓zo, ↓zad, ↓zbM, ↓zbX, ↓zaf, ↓zaj, ↓zar, ↓zax, ↓zaC, ↓zh, ↓zZ, ↓zB, ↓zk, ↓zO, zbS, zaF, zaD, unA, zcd, bnd, zcp, zT, zag, zcs, dm, dm1, zN, zaq, zcv, zcu, zL, Q0, Q1, Q2, Q3, Q4, Q5, zI, zg, zr, zt, zw, Q6, Q7, Q8, Q9, Q10, Q11, Q12, Q13, Q14, Nat.reduceAdd, Q15, Int.reduceToNat, Q16, Q17, Q18, Q19, Q20, reduceIte, Q21, Q22, zq, rep, zP, zcI, toD, zae, Q23, Q24, Q25, Q26, Q27, Q28, Nat.reduceLeDiff, Q29, Nat.reduceSub, Q30, Q31, Q32, sc, Q33, Q34, Q35]; rfl) : P := e.mpr h
theorem c_times {σ : List zb} {n f : Int} (hn : 0 ≤ n ∧ n ≤ 3) {K : AV → List zb → Prop} (hK : K (.d (.int .i64 (zfC n f))) σ) : zK Tryz.prog zfx [.d (.int .i64 n), .d (.int .i64 f)] σ K := by
  refine zi zix.is rfl fun hl _ => zix.goes ?_
  simp only [ziG, iN, bT, bF, eN]
  (refine gq60 ?_; try with_reducible exact True.intro)
  refine zms ?_
  by_cases h : f < 1 ∨ f > 4
  · rw [zfC, if_pos h] at hK
    rw [zcY, if_pos h]
    (refine gq59 (show ((120 : Int) != 0) = true from rfl) ?_; try with_reducible exact True.intro)
    (first | refine zai hl ?_ | refine zah hl ?_)
    exact hK
  · rw [zfC, if_neg h] at hK
    rw [zcY, if_neg h]
    have h1 : 0 ≤ n * f := Int.mul_nonneg hn.1 (by omega)
    have h2 : n * f ≤ 3 * 4 := Int.mul_le_mul hn.2 (by omega) (by omega) (by omega)
    have w1 : IntKind.i64.wrap (n * f) = n * f := zak (by omega) (by omega)
    have w2 : IntKind.i64.wrap (n * f + 1) = n * f + 1 := zak (by omega) (by omega)
    (refine gq59 (gqc3 (show ((0 : Int) != 0) = false from rfl) (gqc3 w1 w2)) ?_; try with_reducible exact True.intro)
    (first | refine zai hl ?_ | refine zah hl ?_)
    exact hK
theorem zmt {σ : List zb} {f : Int} {K : AV → List zb → Prop} (hK : K (.d (.int .i64 (zfC 3 f))) σ) : zK Tryz.prog zda [.d (.int .i64 f)] σ K := by
  refine zi zgP.is rfl fun hl _ => zgP.goes ?_
  simp only [zhd, iN, bT, bF, eN]
  (refine gq60 ?_; try with_reducible exact True.intro)
  refine c_times (by omega) ?_
  (refine gq60 ?_; try with_reducible exact True.intro)
  (first | refine zai hl ?_ | refine zah hl ?_)
  exact hK
theorem znQ {σ : List zb} {f : Int} {K : AV → List zb → Prop} (hK : K (.d (.int .i64 (zfC 3 f))) σ) : zK Tryz.prog zev [.d (.int .i64 f)] σ K := by
  refine zi zjt.is rfl fun hl _ => zjt.goes ?_
  simp only [zjM, iN, bT, bF, eN]
  (refine gq60 ?_; try with_reducible exact True.intro)
  refine zmr ?_
  by_cases h : f < 1 ∨ f > 4
  · rw [zfC, if_pos h] at hK
    rw [zcY, if_pos h]
    (refine gq59 (show ((120 : Int) != 0) = true from rfl) ?_; try with_reducible exact True.intro)
    (first | refine zai hl ?_ | refine zah hl ?_)
    exact hK
  · rw [zfC, if_neg h] at hK
    rw [zcY, if_neg h]
    have w1 : IntKind.i64.wrap (3 * f) = 3 * f := zak (by omega) (by omega)
    have w2 : IntKind.i64.wrap (3 * f + 1) = 3 * f + 1 := zak (by omega) (by omega)
    (refine gq59 (gqc3 (show ((0 : Int) != 0) = false from rfl) (gqc3 w1 w2)) ?_; try with_reducible exact True.intro)
    (first | refine zai hl ?_ | refine zah hl ?_)
    exact hK
end Go.Proofs.YtcappjcojggehaaGreat

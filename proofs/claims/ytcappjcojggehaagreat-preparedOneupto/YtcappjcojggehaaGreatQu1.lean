/- Contracts: how many brokers there are, and a quorum has. -/
import Derived.Test.YtcappjcojggehaaGreatSh
import Derived.Test.YtcappjcojggehaaGreatSpNv
import Derived.Test.YtcappjcojggehaaGreatAwEnd
import Derived.Test.YtcappjcojggehaaGreatAu2
set_option linter.all false
set_option maxRecDepth 100000
set_option linter.unusedSimpArgs false
namespace Go.Proofs.YtcappjcojggehaaGreat
open Go.AW

theorem zhg {A B : Prop} (a : A) (b : B) : A ∧ B := ⟨a, b⟩
theorem gq58 {A P Q : Prop} (a : A) (h : Q) (e : A → P = Q := by intro a; simp -dsimp only [↓zcI, ↓zai, ↓zaH, ↓zcJ, ↓zcE, ↓zcC, ↓zcF, ↓zcD, ↓zaM, ↓zaI, ↓zaN, ↓zaJ, ↓zcG, ↓zaG, ↓zaO, ↓zaK, ↓zaP, ↓zaL, ↓zcB, ↓zcH, ↓zaF, ↓zaQ, ↓zcy, ↓zcx, ↓zcA, iN, bT, bF, eN, ↓zbL, ↓unC, ↓zH, ↓zw, ↓zx, ↓zB, ↓zK, ↓zaz, ↓zbv, ↓zY, ↓zbh, ↓zP, ↓zr, ↓zp, ↓zbj, ↓zf, ↓zU, ↓zF, ↓zan, ↓zas, ↓zc, ↓zC, ↓zj, ↓zl, ↓zab, ↓zbK, ↓zbJ, ↓zae, ↓zah, ↓zam, ↓zav, ↓zaB, ↓zg, ↓zW, ↓zy, ↓zi, ↓zJ, zbM, zaE, zaD, unA, zbQ, bnd, zcb, zQ, zag, zcd, dm, dm1, zM, zao, zcr, zcq, zS, Q0, Q1, Q2, Q3, Q4, Q5, zG, zh, zn, zq, zt, Q6, Q7, Q8, Q9, Q10, Q11, Q12, Q13, Q14, Nat.reduceAdd, Q15, Int.reduceToNat, Q16, Q17, Q18, Q19, Q20, reduceIte, Q21, Q22, zm, rep, zL, zcz, toD, zac, Q23, Q24, Q25, Q26, Q27, Q28, Nat.reduceLeDiff, Q29, Nat.reduceSub, Q30, Q31, Q32, sc, Q33, Q34, Q35, a]; rfl) : P := (e a).mpr h
theorem zme {σ : List zb} {f : Int} {K : AV → List zb → Prop} (hK : K (.d (.int .i64 (zdu f))) σ) : zN Tryz.prog zcX [.d (.int .i64 f)] σ K := by
  refine zk zii.is rfl fun hl _ => zii.goes ?_
  simp only [zit, iN, bT, bF, eN]
  cases h1 : decide (f < 1) <;> cases h2 : decide (f > 4)
  all_goals
    (refine gq58 (zhg h1 h2) ?_; try with_reducible exact True.intro)
    (first | refine zar hl ?_ | refine zaq hl ?_)
    simp only [decide_eq_true_eq, decide_eq_false_iff_not] at h1 h2
  · rw [zdu, if_neg (by omega)] at hK; exact hK
  all_goals (rw [zdu, if_pos (by omega)] at hK; exact hK)
theorem c_rCheckF {σ : List zb} {f : Int} {K : AV → List zb → Prop} (hK : K (.d (.int .i64 (zdu f))) σ) : zN Tryz.prog zgm [.d (.int .i64 f)] σ K := by
  refine zk zlT.is rfl fun hl _ => zlT.goes ?_
  simp only [zmo, iN, bT, bF, eN]
  cases h1 : decide (f < 1) <;> cases h2 : decide (f > 4)
  all_goals
    (refine gq58 (zhg h1 h2) ?_; try with_reducible exact True.intro)
    (first | refine zar hl ?_ | refine zaq hl ?_)
    simp only [decide_eq_true_eq, decide_eq_false_iff_not] at h1 h2
  · rw [zdu, if_neg (by omega)] at hK; exact hK
  all_goals (rw [zdu, if_pos (by omega)] at hK; exact hK)
theorem gq59 {P Q : Prop} (h : Q) (e : P = Q := by simp -dsimp only [↓zcI, ↓zai, ↓zaH, ↓zcJ, ↓zcE, ↓zcC, ↓zcF, ↓zcD, ↓zaM, ↓zaI, ↓zaN, ↓zaJ, ↓zcG, ↓zaG, ↓zaO, ↓zaK, ↓zaP, ↓zaL, ↓zcB, ↓zcH, ↓zaF, ↓zaQ, ↓zcy, ↓zcx, ↓zcA, iN, bT, bF, eN, ↓zbL, ↓unC, ↓zH, ↓zw, ↓zx, ↓zB, ↓zK, ↓zaz, ↓zbv, ↓zY, ↓zbh, ↓zP, ↓zr, ↓zp, ↓zbj, ↓zf, ↓zU, ↓zF, ↓zan, ↓zas, ↓zc, ↓zC, ↓zj, ↓zl, ↓zab, ↓zbK, ↓zbJ, ↓zae, ↓zah, ↓zam, ↓zav, ↓zaB, ↓zg, ↓zW, ↓zy, ↓zi, ↓zJ, zbM, zaE, zaD, unA, zbQ, bnd, zcb, zQ, zag, zcd, dm, dm1, zM, zao, zcr, zcq, zS, Q0, Q1, Q2, Q3, Q4, Q5, zG, zh, zn, zq, zt, Q6, Q7, Q8, Q9, Q10, Q11, Q12, Q13, Q14, Nat.reduceAdd, Q15, Int.reduceToNat, Q16, Q17, Q18, Q19, Q20, reduceIte, Q21, Q22, zm, rep, zL, zcz, toD, zac, Q23, Q24, Q25, Q26, Q27, Q28, Nat.reduceLeDiff, Q29, Nat.reduceSub, Q30, Q31, Q32, sc, Q33, Q34, Q35]; rfl) : P := e.mpr h
theorem c_times {σ : List zb} {n f : Int} (hn : 0 ≤ n ∧ n ≤ 3) {K : AV → List zb → Prop} (hK : K (.d (.int .i64 (zcw n f))) σ) : zN Tryz.prog zfw [.d (.int .i64 n), .d (.int .i64 f)] σ K := by
  refine zk zih.is rfl fun hl _ => zih.goes ?_
  simp only [zis, iN, bT, bF, eN]
  (refine gq59 ?_; try with_reducible exact True.intro)
  refine zme ?_
  by_cases h : f < 1 ∨ f > 4
  · rw [zcw, if_pos h] at hK
    rw [zdu, if_pos h]
    (refine gq58 (show ((120 : Int) != 0) = true from rfl) ?_; try with_reducible exact True.intro)
    (first | refine zar hl ?_ | refine zaq hl ?_)
    exact hK
  · rw [zcw, if_neg h] at hK
    rw [zdu, if_neg h]
    have h1 : 0 ≤ n * f := Int.mul_nonneg hn.1 (by omega)
    have h2 : n * f ≤ 3 * 4 := Int.mul_le_mul hn.2 (by omega) (by omega) (by omega)
    have w1 : IntKind.i64.wrap (n * f) = n * f := zaj (by omega) (by omega)
    have w2 : IntKind.i64.wrap (n * f + 1) = n * f + 1 := zaj (by omega) (by omega)
    (refine gq58 (zhg (show ((0 : Int) != 0) = false from rfl) (zhg w1 w2)) ?_; try with_reducible exact True.intro)
    (first | refine zar hl ?_ | refine zaq hl ?_)
    exact hK
theorem zmf {σ : List zb} {f : Int} {K : AV → List zb → Prop} (hK : K (.d (.int .i64 (zcw 3 f))) σ) : zN Tryz.prog zda [.d (.int .i64 f)] σ K := by
  refine zk zgI.is rfl fun hl _ => zgI.goes ?_
  simp only [zgU, iN, bT, bF, eN]
  (refine gq59 ?_; try with_reducible exact True.intro)
  refine c_times (by omega) ?_
  (refine gq59 ?_; try with_reducible exact True.intro)
  (first | refine zar hl ?_ | refine zaq hl ?_)
  exact hK
theorem c_rBrokers {σ : List zb} {f : Int} {K : AV → List zb → Prop} (hK : K (.d (.int .i64 (zcw 3 f))) σ) : zN Tryz.prog zgn [.d (.int .i64 f)] σ K := by
  refine zk zje.is rfl fun hl _ => zje.goes ?_
  simp only [zju, iN, bT, bF, eN]
  (refine gq59 ?_; try with_reducible exact True.intro)
  refine c_rCheckF ?_
  by_cases h : f < 1 ∨ f > 4
  · rw [zcw, if_pos h] at hK
    rw [zdu, if_pos h]
    (refine gq58 (show ((120 : Int) != 0) = true from rfl) ?_; try with_reducible exact True.intro)
    (first | refine zar hl ?_ | refine zaq hl ?_)
    exact hK
  · rw [zcw, if_neg h] at hK
    rw [zdu, if_neg h]
    have w1 : IntKind.i64.wrap (3 * f) = 3 * f := zaj (by omega) (by omega)
    have w2 : IntKind.i64.wrap (3 * f + 1) = 3 * f + 1 := zaj (by omega) (by omega)
    (refine gq58 (zhg (show ((0 : Int) != 0) = false from rfl) (zhg w1 w2)) ?_; try with_reducible exact True.intro)
    (first | refine zar hl ?_ | refine zaq hl ?_)
    exact hK
end Go.Proofs.YtcappjcojggehaaGreat

/- Contracts: whether a certificate is valid, the program's. -/
set_option maxRecDepth 100000
set_option linter.unusedSimpArgs false
set_option linter.unusedVariables false
namespace Go.Proofs.YtcappjcojggehaaGreat
open Go.AW

theorem c_quView {σ : List zb} {f v : Int} {K : AV → List zb → Prop} (hK : K (.d (.bool (!decide ((f < 1 ∨ f > 4) ∨ v < 0 ∨ v > 9007199254740992)))) σ) : zN Tryz.prog zgs [.d (.int .i64 f), .d (.int .i64 v)] σ K := by
  refine zk zjg.is rfl fun hl _ => zjg.goes ?_
  simp only [zjw, iN, bT, bF, eN]
  (repeat' first | refine gq1 ?_ | with_reducible first | exact ⟨⟩ | refine zA ?_ | fail)
  refine zme ?_
  by_cases h : f < 1 ∨ f > 4
  · rw [decide_eq_true (.inl h)] at hK
    rw [zdu, if_pos h]
    (repeat' first | refine gq2 (show ((120 : Int) == 0) = false from rfl) ?_ | with_reducible first | exact ⟨⟩ | refine zA ?_ | fail)
    (first | refine zar hl ?_ | refine zaq hl ?_)
    exact hK
  · rw [zdu, if_neg h]
    cases h1 : decide (v ≥ 0)
    · rw [decide_eq_true (.inr (.inl (by simpa using h1)))] at hK
      (repeat' first | refine gq2 (zu (show ((0 : Int) == 0) = true from rfl) h1) ?_ | with_reducible first | exact ⟨⟩ | refine zA ?_ | fail)
      (first | refine zar hl ?_ | refine zaq hl ?_)
      exact hK
    · have h0 : ¬ v < 0 := by simp at h1; omega
      (repeat' first | refine gq2 (zu (show ((0 : Int) == 0) = true from rfl) h1) ?_ | with_reducible first | exact ⟨⟩ | refine zA ?_ | fail)
      (first | refine zar hl ?_ | refine zaq hl ?_)
      rw [show decide (v ≤ 9007199254740992) = !decide ((f < 1 ∨ f > 4) ∨ v < 0 ∨ v > 9007199254740992) by
        by_cases h2 : v ≤ 9007199254740992
        · rw [decide_eq_true h2, decide_eq_false (by omega)]; rfl
        · rw [decide_eq_false h2, decide_eq_true (by omega)]; rfl]
      exact hK
theorem c_quPrimary {σ : List zb} {f v : Int} {K : AV → List zb → Prop} (hK : K (.d (.int .i64 (zlt f v))) σ) : zN Tryz.prog zdY [.d (.int .i64 f), .d (.int .i64 v)] σ K := by
  refine zk zgH.is rfl fun hl _ => zgH.goes ?_
  simp only [zgT, iN, bT, bF, eN]
  (repeat' first | refine gq1 ?_ | with_reducible first | exact ⟨⟩ | refine zA ?_ | fail)
  refine c_quView ?_
  by_cases h : (f < 1 ∨ f > 4) ∨ v < 0 ∨ v > 9007199254740992
  · rw [zlt, if_pos h] at hK
    rw [decide_eq_true h]
    (repeat' first | refine gq1 ?_ | with_reducible first | exact ⟨⟩ | refine zA ?_ | fail)
    (first | refine zar hl ?_ | refine zaq hl ?_)
    exact hK
  · rw [zlt, if_neg h] at hK
    rw [decide_eq_false h]
    have hf : ¬ (f < 1 ∨ f > 4) := fun e => h (.inl e)
    (repeat' first | refine gq1 ?_ | with_reducible first | exact ⟨⟩ | refine zA ?_ | fail)
    refine zmf ?_
    rw [zcw, if_neg hf]
    have := prim_tmod hf (fun e => h (.inr (.inl e))) (fun e => h (.inr (.inr e)))
    have hw : IntKind.i64.wrap (v.tmod (3 * f + 1)) = v.tmod (3 * f + 1) := zaj (by omega) (by omega)
    have hz : (3 * f + 1 == 0) = false := by simp; omega
    (repeat' first | refine gq2 (zu hw hz) ?_ | with_reducible first | exact ⟨⟩ | refine zA ?_ | fail)
    (first | refine zar hl ?_ | refine zaq hl ?_)
    exact hK
end Go.Proofs.YtcappjcojggehaaGreat

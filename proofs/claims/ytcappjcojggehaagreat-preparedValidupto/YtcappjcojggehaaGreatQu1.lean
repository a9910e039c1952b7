/- Contracts: how many brokers there are, and a quorum has. -/
import Derived.Test.YtcappjcojggehaaGreatSh
import Derived.Test.YtcappjcojggehaaGreatSpNv
import Derived.Test.YtcappjcojggehaaGreatAwEnd
import Derived.Test.YtcappjcojggehaaGreatAu2
set_option linter.all false
set_option maxRecDepth 100000
set_option linter.unusedSimpArgs false
namespace Go.Proofs.YtcappjcojggehaaGreat
open Go.AW

theorem gqc3 {A B : Prop} (a : A) (b : B) : A ∧ B := ⟨a, b⟩
theorem gq59 {A P Q : Prop} (a : A) (h : Q) (e : A → P = Q := by intro a; simp -dsimp only [↓zae, ↓loopL, ↓binC, ↓unC, ↓zL, ↓zD, ↓zE, ↓zF, ↓zP, ↓lenC, ↓slcC, ↓convC, ↓boxC, ↓zH, ↓loadC, ↓zp, ↓nilC, ↓zh, ↓zV, ↓zr, ↓idxSC, ↓idxAC, ↓zi, ↓zG, ↓zl, ↓zt, ↓zZ, ↓maxC, ↓minC, ↓zab, ↓zac, ↓mgetC, ↓msetC, ↓mdelC, ↓zn, ↓zW, ↓zC, ↓zq, ↓zN, binA, intOp, strOp, unA, esOf, bnd, intV, zR, fillV, srcE, dm, dm1, consO, cellA, maxL, minL, keepO, Q0, Q1, Q2, Q3, Q4, Q5, zK, zm, zw, zx, zy, Q6, Q7, Q8, Q9, Q10, Q11, Q12, Q13, Q14, Nat.reduceAdd, Q15, Int.reduceToNat, Q16, Q17, Q18, Q19, Q20, reduceIte, Q21, Q22, zu, rep, zO, toDs, toD, zaa, Q23, Q24, Q25, Q26, Q27, Q28, Nat.reduceLeDiff, Q29, Nat.reduceSub, Q30, Q31, Q32, sc, Q33, Q34, Q35, a]; rfl) : P := (e a).mpr h
theorem zlV {σ : List AObj} {f : Int} {K : AV → List AObj → Prop} (hK : K (.d (.int .i64 (zbU f))) σ) : ACall Tryz.prog zbT [.d (.int .i64 f)] σ K := by
  refine zo zkT rfl fun hl _ => zmx ?_
  simp only [zhr]
  cases h1 : decide (f < 1) <;> cases h2 : decide (f > 4)
  all_goals
    (refine gq59 (gqc3 h1 h2) ?_; try with_reducible exact True.intro)
    (first | refine zg (by simp [Low_d, dmT, dm, dm1, pack, zd, ze, zb]) hl ?_ | refine zf (by simp [Low_d, dmT, dm, dm1, pack, zd, ze, zb]) hl ?_)
    simp only [decide_eq_true_eq, decide_eq_false_iff_not] at h1 h2
  · rw [zbU, if_neg (by omega)] at hK; exact hK
  all_goals (rw [zbU, if_pos (by omega)] at hK; exact hK)
theorem zlU {σ : List AObj} {f : Int} {K : AV → List AObj → Prop} (hK : K (.d (.int .i64 (zbU f))) σ) : ACall Tryz.prog zdM [.d (.int .i64 f)] σ K := by
  refine zo zoa rfl fun hl _ => s_r12_Check ?_
  simp only [zmd]
  cases h1 : decide (f < 1) <;> cases h2 : decide (f > 4)
  all_goals
    (refine gq59 (gqc3 h1 h2) ?_; try with_reducible exact True.intro)
    (first | refine zg (by simp [Low_d, dmT, dm, dm1, pack, zd, ze, zb]) hl ?_ | refine zf (by simp [Low_d, dmT, dm, dm1, pack, zd, ze, zb]) hl ?_)
    simp only [decide_eq_true_eq, decide_eq_false_iff_not] at h1 h2
  · rw [zbU, if_neg (by omega)] at hK; exact hK
  all_goals (rw [zbU, if_pos (by omega)] at hK; exact hK)
theorem gq60 {P Q : Prop} (h : Q) (e : P = Q := by simp -dsimp only [↓zae, ↓loopL, ↓binC, ↓unC, ↓zL, ↓zD, ↓zE, ↓zF, ↓zP, ↓lenC, ↓slcC, ↓convC, ↓boxC, ↓zH, ↓loadC, ↓zp, ↓nilC, ↓zh, ↓zV, ↓zr, ↓idxSC, ↓idxAC, ↓zi, ↓zG, ↓zl, ↓zt, ↓zZ, ↓maxC, ↓minC, ↓zab, ↓zac, ↓mgetC, ↓msetC, ↓mdelC, ↓zn, ↓zW, ↓zC, ↓zq, ↓zN, binA, intOp, strOp, unA, esOf, bnd, intV, zR, fillV, srcE, dm, dm1, consO, cellA, maxL, minL, keepO, Q0, Q1, Q2, Q3, Q4, Q5, zK, zm, zw, zx, zy, Q6, Q7, Q8, Q9, Q10, Q11, Q12, Q13, Q14, Nat.reduceAdd, Q15, Int.reduceToNat, Q16, Q17, Q18, Q19, Q20, reduceIte, Q21, Q22, zu, rep, zO, toDs, toD, zaa, Q23, Q24, Q25, Q26, Q27, Q28, Nat.reduceLeDiff, Q29, Nat.reduceSub, Q30, Q31, Q32, sc, Q33, Q34, Q35]; rfl) : P := e.mpr h
theorem c_times {σ : List AObj} {n f : Int} (hn : 0 ≤ n ∧ n ≤ 3) {K : AV → List AObj → Prop} (hK : K (.d (.int .i64 (zeF n f))) σ) : ACall Tryz.prog zev [.d (.int .i64 n), .d (.int .i64 f)] σ K := by
  refine zo zkS rfl fun hl _ => zmw ?_
  simp only [zhq]
  (refine gq60 ?_; try with_reducible exact True.intro)
  refine zlV ?_
  by_cases h : f < 1 ∨ f > 4
  · rw [zeF, if_pos h] at hK
    rw [zbU, if_pos h]
    (refine gq59 (show ((120 : Int) != 0) = true from rfl) ?_; try with_reducible exact True.intro)
    (first | refine zg (by simp [Low_d, dmT, dm, dm1, pack, zd, ze, zb]) hl ?_ | refine zf (by simp [Low_d, dmT, dm, dm1, pack, zd, ze, zb]) hl ?_)
    exact hK
  · rw [zeF, if_neg h] at hK
    rw [zbU, if_neg h]
    have h1 : 0 ≤ n * f := Int.mul_nonneg hn.1 (by omega)
    have h2 : n * f ≤ 3 * 4 := Int.mul_le_mul hn.2 (by omega) (by omega) (by omega)
    have w1 : IntKind.i64.wrap (n * f) = n * f := zad (by omega) (by omega)
    have w2 : IntKind.i64.wrap (n * f + 1) = n * f + 1 := zad (by omega) (by omega)
    (refine gq59 (gqc3 (show ((0 : Int) != 0) = false from rfl) (gqc3 w1 w2)) ?_; try with_reducible exact True.intro)
    (first | refine zg (by simp [Low_d, dmT, dm, dm1, pack, zd, ze, zb]) hl ?_ | refine zf (by simp [Low_d, dmT, dm, dm1, pack, zd, ze, zb]) hl ?_)
    exact hK
theorem zlW {σ : List AObj} {f : Int} {K : AV → List AObj → Prop} (hK : K (.d (.int .i64 (zeF 3 f))) σ) : ACall Tryz.prog zbW [.d (.int .i64 f)] σ K := by
  refine zo ziy rfl fun hl _ => zkG ?_
  simp only [zfI]
  (refine gq60 ?_; try with_reducible exact True.intro)
  refine c_times (by omega) ?_
  (refine gq60 ?_; try with_reducible exact True.intro)
  (first | refine zg (by simp [Low_d, dmT, dm, dm1, pack, zd, ze, zb]) hl ?_ | refine zf (by simp [Low_d, dmT, dm, dm1, pack, zd, ze, zb]) hl ?_)
  exact hK
theorem zni {σ : List AObj} {f : Int} {K : AV → List AObj → Prop} (hK : K (.d (.int .i64 (zeF 3 f))) σ) : ACall Tryz.prog zdF [.d (.int .i64 f)] σ K := by
  refine zo zlE rfl fun hl _ => znG ?_
  simp only [ziX]
  (refine gq60 ?_; try with_reducible exact True.intro)
  refine zlU ?_
  by_cases h : f < 1 ∨ f > 4
  · rw [zeF, if_pos h] at hK
    rw [zbU, if_pos h]
    (refine gq59 (show ((120 : Int) != 0) = true from rfl) ?_; try with_reducible exact True.intro)
    (first | refine zg (by simp [Low_d, dmT, dm, dm1, pack, zd, ze, zb]) hl ?_ | refine zf (by simp [Low_d, dmT, dm, dm1, pack, zd, ze, zb]) hl ?_)
    exact hK
  · rw [zeF, if_neg h] at hK
    rw [zbU, if_neg h]
    have w1 : IntKind.i64.wrap (3 * f) = 3 * f := zad (by omega) (by omega)
    have w2 : IntKind.i64.wrap (3 * f + 1) = 3 * f + 1 := zad (by omega) (by omega)
    (refine gq59 (gqc3 (show ((0 : Int) != 0) = false from rfl) (gqc3 w1 w2)) ?_; try with_reducible exact True.intro)
    (first | refine zg (by simp [Low_d, dmT, dm, dm1, pack, zd, ze, zb]) hl ?_ | refine zf (by simp [Low_d, dmT, dm, dm1, pack, zd, ze, zb]) hl ?_)
    exact hK
end Go.Proofs.YtcappjcojggehaaGreat

/- Contracts: whether a certificate is valid, the program's. -/
set_option maxRecDepth 100000
set_option linter.unusedSimpArgs false
set_option linter.unusedVariables false
namespace Go.Proofs.YtcappjcojggehaaGreat
open Go.AW

theorem c_quView {σ : List AObj} {f v : Int} {K : AV → List AObj → Prop} (hK : K (.d (.bool (!decide ((f < 1 ∨ f > 4) ∨ v < 0 ∨ v > 9007199254740992)))) σ) : ACall Tryz.prog zfk [.d (.int .i64 f), .d (.int .i64 v)] σ K := by
  refine zo zlG rfl fun hl _ => znI ?_
  simp only [ziZ]
  (repeat' (first | (refine gq1 ?_; try with_reducible exact True.intro) | ((with_reducible refine And.intro ?_ ?_); focus (first | omega | rfl | decide | (simp; done)))))
  refine zlV ?_
  by_cases h : f < 1 ∨ f > 4
  · rw [decide_eq_true (.inl h)] at hK
    rw [zbU, if_pos h]
    (repeat' (first | (refine gq2 (show ((120 : Int) == 0) = false from rfl) ?_; try with_reducible exact True.intro) | ((with_reducible refine And.intro ?_ ?_); focus (first | omega | rfl | decide | (simp; done)))))
    (first | refine zg (by simp [Low_d, dmT, dm, dm1, pack, zd, ze, zb]) hl ?_ | refine zf (by simp [Low_d, dmT, dm, dm1, pack, zd, ze, zb]) hl ?_)
    exact hK
  · rw [zbU, if_neg h]
    cases h1 : decide (v ≥ 0)
    · rw [decide_eq_true (.inr (.inl (by simpa using h1)))] at hK
      (repeat' (first | (refine gq2 (gqc0 (show ((0 : Int) == 0) = true from rfl) h1) ?_; try with_reducible exact True.intro) | ((with_reducible refine And.intro ?_ ?_); focus (first | omega | rfl | decide | (simp; done)))))
      (first | refine zg (by simp [Low_d, dmT, dm, dm1, pack, zd, ze, zb]) hl ?_ | refine zf (by simp [Low_d, dmT, dm, dm1, pack, zd, ze, zb]) hl ?_)
      exact hK
    · have h0 : ¬ v < 0 := by simp at h1; omega
      (repeat' (first | (refine gq2 (gqc0 (show ((0 : Int) == 0) = true from rfl) h1) ?_; try with_reducible exact True.intro) | ((with_reducible refine And.intro ?_ ?_); focus (first | omega | rfl | decide | (simp; done)))))
      (first | refine zg (by simp [Low_d, dmT, dm, dm1, pack, zd, ze, zb]) hl ?_ | refine zf (by simp [Low_d, dmT, dm, dm1, pack, zd, ze, zb]) hl ?_)
      rw [show decide (v ≤ 9007199254740992) = !decide ((f < 1 ∨ f > 4) ∨ v < 0 ∨ v > 9007199254740992) by
        by_cases h2 : v ≤ 9007199254740992
        · rw [decide_eq_true h2, decide_eq_false (by omega)]; rfl
        · rw [decide_eq_false h2, decide_eq_true (by omega)]; rfl]
      exact hK
theorem c_quPrimary {σ : List AObj} {f v : Int} {K : AV → List AObj → Prop} (hK : K (.d (.int .i64 (primF f v))) σ) : ACall Tryz.prog zdf [.d (.int .i64 f), .d (.int .i64 v)] σ K := by
  refine zo zix rfl fun hl _ => zkF ?_
  simp only [zfH]
  (repeat' (first | (refine gq1 ?_; try with_reducible exact True.intro) | ((with_reducible refine And.intro ?_ ?_); focus (first | omega | rfl | decide | (simp; done)))))
  refine c_quView ?_
  by_cases h : (f < 1 ∨ f > 4) ∨ v < 0 ∨ v > 9007199254740992
  · rw [primF, if_pos h] at hK
    rw [decide_eq_true h]
    (repeat' (first | (refine gq1 ?_; try with_reducible exact True.intro) | ((with_reducible refine And.intro ?_ ?_); focus (first | omega | rfl | decide | (simp; done)))))
    (first | refine zg (by simp [Low_d, dmT, dm, dm1, pack, zd, ze, zb]) hl ?_ | refine zf (by simp [Low_d, dmT, dm, dm1, pack, zd, ze, zb]) hl ?_)
    exact hK
  · rw [primF, if_neg h] at hK
    rw [decide_eq_false h]
    have hf : ¬ (f < 1 ∨ f > 4) := fun e => h (.inl e)
    (repeat' (first | (refine gq1 ?_; try with_reducible exact True.intro) | ((with_reducible refine And.intro ?_ ?_); focus (first | omega | rfl | decide | (simp; done)))))
    refine zlW ?_
    rw [zeF, if_neg hf]
    have := prim_tmod hf (fun e => h (.inr (.inl e))) (fun e => h (.inr (.inr e)))
    have hw : IntKind.i64.wrap (v.tmod (3 * f + 1)) = v.tmod (3 * f + 1) := zad (by omega) (by omega)
    have hz : (3 * f + 1 == 0) = false := by simp; omega
    (repeat' (first | (refine gq2 (gqc0 hw hz) ?_; try with_reducible exact True.intro) | ((with_reducible refine And.intro ?_ ?_); focus (first | omega | rfl | decide | (simp; done)))))
    (first | refine zg (by simp [Low_d, dmT, dm, dm1, pack, zd, ze, zb]) hl ?_ | refine zf (by simp [Low_d, dmT, dm, dm1, pack, zd, ze, zb]) hl ?_)
    exact hK
end Go.Proofs.YtcappjcojggehaaGreat

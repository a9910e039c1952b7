/- Contracts: how many brokers there are, and a quorum has. -/
import Derived.Test.YtpgahkdjkanblaaGreatSh
import Derived.Test.YtpgahkdjkanblaaGreatSpOp
import Derived.Test.YtpgahkdjkanblaaGreatAwEnd
set_option linter.all false
set_option maxRecDepth 100000
set_option linter.unusedSimpArgs false
namespace Go.Proofs.YtpgahkdjkanblaaGreat
open Go.AW

theorem zB {A B : Prop} (a : A) (b : B) : A ∧ B := ⟨a, b⟩
theorem gq1 {A P Q : Prop} (a : A) (h : Q) (e : A → P = Q := by intro a; simp -dsimp only [↓zey, ↓zay, ↓zbs, ↓zez, ↓zeu, ↓zes, ↓zev, ↓zet, ↓zbx, ↓zbt, ↓zby, ↓zbu, ↓zew, ↓zbr, ↓zbz, ↓zbv, ↓zbA, ↓zbw, ↓zer, ↓zex, ↓zbp, ↓zbB, ↓zep, ↓zeo, ↓zeq, iN, bT, bF, eN, ↓zcv, ↓unC, ↓zU, ↓zI, ↓zJ, ↓zM, ↓zX, ↓zal, ↓zcX, ↓zai, ↓zaJ, ↓zW, ↓zg, ↓zn, ↓zbP, ↓zb, ↓zaf, ↓zD, ↓zaI, ↓zaQ, ↓zd, ↓zF, ↓zj, ↓zG, ↓zam, ↓zdc, ↓zdj, ↓zak, ↓zau, ↓zaL, ↓zaY, ↓zbh, ↓zo, ↓zaj, ↓zK, ↓zr, ↓zV, zdk, zbn, zbk, unA, zdu, bnd, zdG, zae, zO, zdW, dm, dm1, zR, zaF, zea, zdZ, zw, Q0, Q1, Q2, Q3, Q4, Q5, zY, zC, zt, zN, zE, Q6, Q7, Q8, Q9, Q10, Q11, Q12, Q13, Q14, Nat.reduceAdd, Q15, Int.reduceToNat, Q16, Q17, Q18, Q19, Q20, reduceIte, Q21, Q22, zA, rep, zZ, zeB, toD, zap, Q23, Q24, Q25, Q26, Q27, Q28, Nat.reduceLeDiff, Q29, Nat.reduceSub, Q30, Q31, Q32, sc, Q33, Q34, Q35, a]; rfl) : P := (e a).mpr h
theorem zks {σ : List zf} {f : Int} {K : KT} (hK : K (.d (.int .i64 (zbK f))) σ) : zm Tryz.prog zcL [.d (.int .i64 f)] σ K := by
  refine zc znG.is rfl fun hl _ => znG.goes ?_
  simp only [znU, iN, bT, bF, eN]
  cases h1 : decide (f < 1) <;> cases h2 : decide (f > 4)
  all_goals
    (refine gq1 (zB h1 h2) ?_; try with_reducible exact True.intro)
    refine zq hl ?_
    simp only [decide_eq_true_eq, decide_eq_false_iff_not] at h1 h2
  · rw [zbK, if_neg (by omega)] at hK; exact hK
  all_goals (rw [zbK, if_pos (by omega)] at hK; exact hK)
theorem zkr {σ : List zf} {f : Int} {K : KT} (hK : K (.d (.int .i64 (zbK f))) σ) : zm Tryz.prog zeC [.d (.int .i64 f)] σ K := by
  refine zc zsG.is rfl fun hl _ => zsG.goes ?_
  simp only [ztw, iN, bT, bF, eN]
  cases h1 : decide (f < 1) <;> cases h2 : decide (f > 4)
  all_goals
    (refine gq1 (zB h1 h2) ?_; try with_reducible exact True.intro)
    refine zq hl ?_
    simp only [decide_eq_true_eq, decide_eq_false_iff_not] at h1 h2
  · rw [zbK, if_neg (by omega)] at hK; exact hK
  all_goals (rw [zbK, if_pos (by omega)] at hK; exact hK)
theorem gq2 {P Q : Prop} (h : Q) (e : P = Q := by simp -dsimp only [↓zey, ↓zay, ↓zbs, ↓zez, ↓zeu, ↓zes, ↓zev, ↓zet, ↓zbx, ↓zbt, ↓zby, ↓zbu, ↓zew, ↓zbr, ↓zbz, ↓zbv, ↓zbA, ↓zbw, ↓zer, ↓zex, ↓zbp, ↓zbB, ↓zep, ↓zeo, ↓zeq, iN, bT, bF, eN, ↓zcv, ↓unC, ↓zU, ↓zI, ↓zJ, ↓zM, ↓zX, ↓zal, ↓zcX, ↓zai, ↓zaJ, ↓zW, ↓zg, ↓zn, ↓zbP, ↓zb, ↓zaf, ↓zD, ↓zaI, ↓zaQ, ↓zd, ↓zF, ↓zj, ↓zG, ↓zam, ↓zdc, ↓zdj, ↓zak, ↓zau, ↓zaL, ↓zaY, ↓zbh, ↓zo, ↓zaj, ↓zK, ↓zr, ↓zV, zdk, zbn, zbk, unA, zdu, bnd, zdG, zae, zO, zdW, dm, dm1, zR, zaF, zea, zdZ, zw, Q0, Q1, Q2, Q3, Q4, Q5, zY, zC, zt, zN, zE, Q6, Q7, Q8, Q9, Q10, Q11, Q12, Q13, Q14, Nat.reduceAdd, Q15, Int.reduceToNat, Q16, Q17, Q18, Q19, Q20, reduceIte, Q21, Q22, zA, rep, zZ, zeB, toD, zap, Q23, Q24, Q25, Q26, Q27, Q28, Nat.reduceLeDiff, Q29, Nat.reduceSub, Q30, Q31, Q32, sc, Q33, Q34, Q35]; rfl) : P := e.mpr h
theorem c_times {σ : List zf} {n f : Int} (hn : 0 ≤ n ∧ n ≤ 3) {K : KT} (hK : K (.d (.int .i64 (zcJ n f))) σ) : zm Tryz.prog zgZ [.d (.int .i64 n), .d (.int .i64 f)] σ K := by
  refine zc znF.is rfl fun hl _ => znF.goes ?_
  simp only [znT, iN, bT, bF, eN]
  (refine gq2 ?_; try with_reducible exact True.intro)
  refine zks ?_
  by_cases h : f < 1 ∨ f > 4
  · rw [zcJ, if_pos h] at hK
    rw [zbK, if_pos h]
    (refine gq1 (show ((120 : Int) != 0) = true from rfl) ?_; try with_reducible exact True.intro)
    refine zq hl ?_
    exact hK
  · rw [zcJ, if_neg h] at hK
    rw [zbK, if_neg h]
    have h1 : 0 ≤ n * f := Int.mul_nonneg hn.1 (by omega)
    have h2 : n * f ≤ 3 * 4 := Int.mul_le_mul hn.2 (by omega) (by omega) (by omega)
    have w1 : IntKind.i64.wrap (n * f) = n * f := zat (by omega) (by omega)
    have w2 : IntKind.i64.wrap (n * f + 1) = n * f + 1 := zat (by omega) (by omega)
    (refine gq1 (zB (show ((0 : Int) != 0) = false from rfl) (zB w1 w2)) ?_; try with_reducible exact True.intro)
    refine zq hl ?_
    exact hK
theorem c_quBig {σ : List zf} {f : Int} {K : KT} (hK : K (.d (.int .i64 (zcJ 2 f))) σ) : zm Tryz.prog zjg [.d (.int .i64 f)] σ K := by
  refine zc zrk.is rfl fun hl _ => zrk.goes ?_
  simp only [zrv, iN, bT, bF, eN]
  (refine gq2 ?_; try with_reducible exact True.intro)
  refine c_times (by omega) ?_
  (refine gq2 ?_; try with_reducible exact True.intro)
  refine zq hl ?_
  exact hK
theorem ziM {σ : List zf} {f : Int} {K : KT} (hK : K (.d (.int .i64 (zcJ 3 f))) σ) : zm Tryz.prog zcG [.d (.int .i64 f)] σ K := by
  refine zc zlo.is rfl fun hl _ => zlo.goes ?_
  simp only [zlG, iN, bT, bF, eN]
  (refine gq2 ?_; try with_reducible exact True.intro)
  refine c_times (by omega) ?_
  (refine gq2 ?_; try with_reducible exact True.intro)
  refine zq hl ?_
  exact hK
theorem znn {σ : List zf} {f : Int} {K : KT} (hK : K (.d (.int .i64 (zcJ 3 f))) σ) : zm Tryz.prog zeK [.d (.int .i64 f)] σ K := by
  refine zc zpe.is rfl fun hl _ => zpe.goes ?_
  simp only [zpF, iN, bT, bF, eN]
  (refine gq2 ?_; try with_reducible exact True.intro)
  refine zkr ?_
  by_cases h : f < 1 ∨ f > 4
  · rw [zcJ, if_pos h] at hK
    rw [zbK, if_pos h]
    (refine gq1 (show ((120 : Int) != 0) = true from rfl) ?_; try with_reducible exact True.intro)
    refine zq hl ?_
    exact hK
  · rw [zcJ, if_neg h] at hK
    rw [zbK, if_neg h]
    have w1 : IntKind.i64.wrap (3 * f) = 3 * f := zat (by omega) (by omega)
    have w2 : IntKind.i64.wrap (3 * f + 1) = 3 * f + 1 := zat (by omega) (by omega)
    (refine gq1 (zB (show ((0 : Int) != 0) = false from rfl) (zB w1 w2)) ?_; try with_reducible exact True.intro)
    refine zq hl ?_
    exact hK
theorem c_rBig {σ : List zf} {f : Int} {K : KT} (hK : K (.d (.int .i64 (zcJ 2 f))) σ) : zm Tryz.prog zsk [.d (.int .i64 f)] σ K := by
  refine zc e_r12_Big.is rfl fun hl _ => e_r12_Big.goes ?_
  simp only [S_r12_Big, iN, bT, bF, eN]
  (refine gq2 ?_; try with_reducible exact True.intro)
  refine zkr ?_
  by_cases h : f < 1 ∨ f > 4
  · rw [zcJ, if_pos h] at hK
    rw [zbK, if_pos h]
    (refine gq1 (show ((120 : Int) != 0) = true from rfl) ?_; try with_reducible exact True.intro)
    refine zq hl ?_
    exact hK
  · rw [zcJ, if_neg h] at hK
    rw [zbK, if_neg h]
    have w1 : IntKind.i64.wrap (2 * f) = 2 * f := zat (by omega) (by omega)
    have w2 : IntKind.i64.wrap (2 * f + 1) = 2 * f + 1 := zat (by omega) (by omega)
    (refine gq1 (zB (show ((0 : Int) != 0) = false from rfl) (zB w1 w2)) ?_; try with_reducible exact True.intro)
    refine zq hl ?_
    exact hK
end Go.Proofs.YtpgahkdjkanblaaGreat

/- Contracts: bytes.Clone. -/
set_option maxRecDepth 100000
set_option linter.unusedSimpArgs false
namespace Go.Proofs.YtpgahkdjkanblaaGreat
open Go.AW

theorem zeP {σ : List zf} {es : List (List D)} {K : KT} (he : ∀ e ∈ es, e.length = 1) (hn : es.length ≤ 1073741824) (hK : K (.own σ.length es) (σ ++ [.tok 1 es.length])) : zm Tryz.prog zdP [.d (.slice es)] σ K := by
  refine zm.tok he ?_ hK
  refine zcl zpn.is rfl (fun s => if s.length = σ.length then [] else [σ.length]) fun hl _ => zpn.goes ?_
  simp only [zpO, iN, bT, bF, eN, zam, zdu]
  cases es with
  | nil =>
    refine ⟨?_, ?_⟩
    · simp only [zU, zK, zR]
      exact zsB (by simp) hl rfl (by simp)
    · simp only [zU, zr, zR, zO, rep, zj, zeB, zap, zG, zdW]
      refine ⟨by simp, by simp, by simp, ?_⟩
      exact zkg hl (by simp) (by simp)
  | cons e es =>
    simp only [zU, zr, zR, zO, rep, zj, zeB, zap, zG, zdW]
    refine ⟨he, by simp, by simp at hn ⊢; omega, ?_⟩
    exact zkg hl (by simp) (by simp)
end Go.Proofs.YtpgahkdjkanblaaGreat

/- Contracts: an operation in memory of its own. -/
set_option maxRecDepth 100000
set_option linter.unusedSimpArgs false
namespace Go.Proofs.YtpgahkdjkanblaaGreat
open Go.AW

theorem zmc {rs : List (List UInt8)} {k : Nat} {x : List UInt8} (h : rs[k]? = some x) : zeT (rs.take k) ++ [[D.slice (bcs x)]] = zeT (rs.take (k + 1)) := by
  rw [List.take_add_one, h]; simp [zeT]
theorem zi {A B : Prop} (a : A) (b : B) : A ∧ B := ⟨a, b⟩
theorem gq3 {P Q : Prop} (h : Q) (e : P = Q := by simp -dsimp only [↓zey, ↓zay, ↓zbs, ↓zez, ↓zeu, ↓zes, ↓zev, ↓zet, ↓zbx, ↓zbt, ↓zby, ↓zbu, ↓zew, ↓zbr, ↓zbz, ↓zbv, ↓zbA, ↓zbw, ↓zer, ↓zex, ↓zbp, ↓zbB, ↓zep, ↓zeo, ↓zeq, iN, bT, bF, eN, ↓zcv, ↓unC, ↓zU, ↓zI, ↓zJ, ↓zM, ↓zX, ↓zal, ↓zcX, ↓zai, ↓zaJ, ↓zW, ↓zg, ↓zn, ↓zbP, ↓zb, ↓zaf, ↓zD, ↓zaI, ↓zaQ, ↓zd, ↓zF, ↓zj, ↓zG, ↓zam, ↓zdc, ↓zdj, ↓zak, ↓zau, ↓zaL, ↓zaY, ↓zbh, ↓zo, ↓zaj, ↓zK, ↓zr, ↓zV, zdk, zbn, zbk, unA, zdu, bnd, zdG, zae, zO, zdW, dm, dm1, zR, zaF, zea, zdZ, zw, Q0, Q1, Q2, Q3, Q4, Q5, zY, zC, zt, zN, zE, Q6, Q7, Q8, Q9, Q10, Q11, Q12, Q13, Q14, Nat.reduceAdd, Q15, Int.reduceToNat, Q16, Q17, Q18, Q19, Q20, reduceIte, Q21, Q22, zA, rep, zZ, zeB, toD, zap, Q23, Q24, Q25, Q26, Q27, Q28, Nat.reduceLeDiff, Q29, Nat.reduceSub, Q30, Q31, Q32, sc, Q33, Q34, Q35]; rfl) : P := e.mpr h
theorem gq4 {A P Q : Prop} (a : A) (h : Q) (e : A → P = Q := by intro a; simp -dsimp only [↓zey, ↓zay, ↓zbs, ↓zez, ↓zeu, ↓zes, ↓zev, ↓zet, ↓zbx, ↓zbt, ↓zby, ↓zbu, ↓zew, ↓zbr, ↓zbz, ↓zbv, ↓zbA, ↓zbw, ↓zer, ↓zex, ↓zbp, ↓zbB, ↓zep, ↓zeo, ↓zeq, iN, bT, bF, eN, ↓zcv, ↓unC, ↓zU, ↓zI, ↓zJ, ↓zM, ↓zX, ↓zal, ↓zcX, ↓zai, ↓zaJ, ↓zW, ↓zg, ↓zn, ↓zbP, ↓zb, ↓zaf, ↓zD, ↓zaI, ↓zaQ, ↓zd, ↓zF, ↓zj, ↓zG, ↓zam, ↓zdc, ↓zdj, ↓zak, ↓zau, ↓zaL, ↓zaY, ↓zbh, ↓zo, ↓zaj, ↓zK, ↓zr, ↓zV, zdk, zbn, zbk, unA, zdu, bnd, zdG, zae, zO, zdW, dm, dm1, zR, zaF, zea, zdZ, zw, Q0, Q1, Q2, Q3, Q4, Q5, zY, zC, zt, zN, zE, Q6, Q7, Q8, Q9, Q10, Q11, Q12, Q13, Q14, Nat.reduceAdd, Q15, Int.reduceToNat, Q16, Q17, Q18, Q19, Q20, reduceIte, Q21, Q22, zA, rep, zZ, zeB, toD, zap, Q23, Q24, Q25, Q26, Q27, Q28, Nat.reduceLeDiff, Q29, Nat.reduceSub, Q30, Q31, Q32, sc, Q33, Q34, Q35, a]; rfl) : P := (e a).mpr h
theorem gq5 {P Q : Prop} (h : Q) (e : P = Q := by simp -dsimp only [↓zey, ↓zay, ↓zbs, ↓zez, ↓zeu, ↓zes, ↓zev, ↓zet, ↓zbx, ↓zbt, ↓zby, ↓zbu, ↓zew, ↓zbr, ↓zbz, ↓zbv, ↓zbA, ↓zbw, ↓zer, ↓zex, ↓zbp, ↓zbB, ↓zep, ↓zeo, ↓zeq, iN, bT, bF, eN, ↓zcv, ↓unC, ↓zU, ↓zI, ↓zJ, ↓zM, ↓zX, ↓zal, ↓zcX, ↓zai, ↓zaJ, ↓zW, ↓zg, ↓zn, ↓zbP, ↓zb, ↓zaf, ↓zD, ↓zaI, ↓zaQ, ↓zd, ↓zF, ↓zj, ↓zG, ↓zam, ↓zdc, ↓zdj, ↓zak, ↓zau, ↓zaL, ↓zaY, ↓zbh, ↓zo, ↓zaj, ↓zK, ↓zr, ↓zV, zdk, zbn, zbk, unA, zdu, bnd, zdG, zae, zO, zdW, dm, dm1, zR, zaF, zea, zdZ, zw, Q0, Q1, Q2, Q3, Q4, Q5, zY, zC, zt, zN, zE, Q6, Q7, Q8, Q9, Q10, Q11, Q12, Q13, Q14, Nat.reduceAdd, Q15, Int.reduceToNat, Q16, Q17, Q18, Q19, Q20, reduceIte, Q21, Q22, zA, rep, zZ, zeB, toD, zap, Q23, Q24, Q25, Q26, Q27, Q28, Nat.reduceLeDiff, Q29, Nat.reduceSub, Q30, Q31, Q32, sc, Q33, Q34, Q35, zeQ]; rfl) : P := e.mpr h
theorem gq6 {P Q : Prop} (h : Q) (e : P = Q := by simp -dsimp only [↓zey, ↓zay, ↓zbs, ↓zez, ↓zeu, ↓zes, ↓zev, ↓zet, ↓zbx, ↓zbt, ↓zby, ↓zbu, ↓zew, ↓zbr, ↓zbz, ↓zbv, ↓zbA, ↓zbw, ↓zer, ↓zex, ↓zbp, ↓zbB, ↓zep, ↓zeo, ↓zeq, iN, bT, bF, eN, ↓zcv, ↓unC, ↓zU, ↓zI, ↓zJ, ↓zM, ↓zX, ↓zal, ↓zcX, ↓zai, ↓zaJ, ↓zW, ↓zg, ↓zn, ↓zbP, ↓zb, ↓zaf, ↓zD, ↓zaI, ↓zaQ, ↓zd, ↓zF, ↓zj, ↓zG, ↓zam, ↓zdc, ↓zdj, ↓zak, ↓zau, ↓zaL, ↓zaY, ↓zbh, ↓zo, ↓zaj, ↓zK, ↓zr, ↓zV, zdk, zbn, zbk, unA, zdu, bnd, zdG, zae, zO, zdW, dm, dm1, zR, zaF, zea, zdZ, zw, Q0, Q1, Q2, Q3, Q4, Q5, zY, zC, zt, zN, zE, Q6, Q7, Q8, Q9, Q10, Q11, Q12, Q13, Q14, Nat.reduceAdd, Q15, Int.reduceToNat, Q16, Q17, Q18, Q19, Q20, reduceIte, Q21, Q22, zA, rep, zZ, zeB, toD, zap, Q23, Q24, Q25, Q26, Q27, Q28, Nat.reduceLeDiff, Q29, Nat.reduceSub, Q30, Q31, Q32, sc, Q33, Q34, Q35, List.take_length]; rfl) : P := e.mpr h
theorem c_opClone {σ : List zf} {o : TOp} (hr : o.recs.length ≤ 1073741824) (hb : ∀ r ∈ o.recs, r.length ≤ 1073741824) {K : KT} (hK : K (opA o) σ) : zm Tryz.prog zqu [opA o] σ K := by
  refine zc zuV.is rfl fun hl _ => zuV.goes ?_
  simp only [zvC, iN, bT, bF, eN, opA]
  (refine gq3 ?_; try with_reducible exact True.intro)
  refine zl o.recs.length (fun j vs q => ∃ l0 T, vs = [if j = 0 then .exact [] else .own (σ.length + 3) (zeT (o.recs.take j)), .d (.int .i64 j)] ∧ q = σ ++ ([.box [.d (.int .i64 o.kind), .d (.str o.topic), .d (.str o.group), .d (.int .i64 o.offset), .d (.slice (zeT o.recs))], .box [.d (.int .i64 0), .d (.str []), .d (.str []), .d (.int .i64 0), .exact []]] ++ (if j = 0 then [] else .tok 1 l0 :: .tok 1 (zeT (o.recs.take j)).length :: T))) ⟨0, [], rfl, rfl⟩ ?_
  rintro j vs q hj ⟨l0, T, rfl, rfl⟩
  by_cases hj0 : j = 0
  · subst hj0
    simp only [if_true]
    (refine gq3 ?_; try with_reducible exact True.intro)
    refine zS (fun h => ?_) (fun h => ?_)
    · have hlt : 0 < o.recs.length := by simp at h; omega
      have hx : o.recs[0]? = some o.recs[0] := by simp [hlt]
      have hbx := hb _ (List.getElem_mem hlt)
      (refine gq4 (zi (show ((0 : Nat) : Int) = 0 from rfl) (zeZ hx)) ?_; try with_reducible exact True.intro)
      refine ⟨by omega, zeP zgS (by rw [zeQ]; omega) ?_⟩
      (refine gq5 ?_; try with_reducible exact True.intro)
      refine ⟨by simp, by simp, by simp, ?_⟩
      refine zaG.next hlt ⟨o.recs[0].length, [], ?_, ?_⟩
      · rw [if_neg (by omega), ← zmc hx]; rfl
      · rw [if_neg (by omega), show (List.take (0 + 1) o.recs).length = 1 by rw [List.length_take]; omega]
    · have hn : o.recs = [] := by simp at h; exact h
      try (refine gq3 ?_; try with_reducible exact True.intro)
      refine zq hl ?_
      rw [opA, hn] at hK
      exact hK
  · simp only [if_neg hj0]
    have hlj : (o.recs.take j).length = j := by rw [List.length_take]; omega
    (refine gq3 ?_; try with_reducible exact True.intro)
    refine zS (fun h => ?_) (fun h => ?_)
    · have hlt : j < o.recs.length := by simp at h; omega
      have hx : o.recs[j]? = some o.recs[j] := by simp [hlt]
      have hbx := hb _ (List.getElem_mem hlt)
      (refine gq4 (zeZ hx) ?_; try with_reducible exact True.intro)
      refine ⟨by omega, zeP zgS (by rw [zeQ]; omega) ?_⟩
      (refine gq5 ?_; try with_reducible exact True.intro)
      refine ⟨by simp, by omega, ?_⟩
      refine zaG.next hlt ⟨l0, T ++ [.tok 1 o.recs[j].length], ?_, ?_⟩
      · rw [if_neg (by omega), ← zmc hx, show (j : Int) + 1 = ((j + 1 : Nat) : Int) by omega, zat (by omega) (by omega)]
      · rw [if_neg (by omega)]
        simp only [zA, List.length_take, zeQ, List.cons_append]
        rw [show min j o.recs.length + 1 = min (j + 1) o.recs.length by omega]
    · have hn : j = o.recs.length := by simp at h; omega
      subst hn
      (refine gq6 ?_; try with_reducible exact True.intro)
      refine zq hl ?_
      exact hK
end Go.Proofs.YtpgahkdjkanblaaGreat

/- Contracts: which operations are the same, by the reference. -/

set_option maxRecDepth 100000
set_option linter.unusedSimpArgs false
namespace Go.Proofs.YtpgahkdjkanblaaGreat
open Go.AW

theorem gqc2 {A B : Prop} (a : A) (b : B) : A ∧ B := ⟨a, b⟩
theorem gq7 {P Q : Prop} (h : Q) (e : P = Q := by simp -dsimp only [↓zey, ↓zay, ↓zbs, ↓zez, ↓zeu, ↓zes, ↓zev, ↓zet, ↓zbx, ↓zbt, ↓zby, ↓zbu, ↓zew, ↓zbr, ↓zbz, ↓zbv, ↓zbA, ↓zbw, ↓zer, ↓zex, ↓zbp, ↓zbB, ↓zep, ↓zeo, ↓zeq, iN, bT, bF, eN, ↓zcv, ↓unC, ↓zU, ↓zI, ↓zJ, ↓zM, ↓zX, ↓zal, ↓zcX, ↓zai, ↓zaJ, ↓zW, ↓zg, ↓zn, ↓zbP, ↓zb, ↓zaf, ↓zD, ↓zaI, ↓zaQ, ↓zd, ↓zF, ↓zj, ↓zG, ↓zam, ↓zdc, ↓zdj, ↓zak, ↓zau, ↓zaL, ↓zaY, ↓zbh, ↓zo, ↓zaj, ↓zK, ↓zr, ↓zV, zdk, zbn, zbk, unA, zdu, bnd, zdG, zae, zO, zdW, dm, dm1, zR, zaF, zea, zdZ, zw, Q0, Q1, Q2, Q3, Q4, Q5, zY, zC, zt, zN, zE, Q6, Q7, Q8, Q9, Q10, Q11, Q12, Q13, Q14, Nat.reduceAdd, Q15, Int.reduceToNat, Q16, Q17, Q18, Q19, Q20, reduceIte, Q21, Q22, zA, rep, zZ, zeB, toD, zap, Q23, Q24, Q25, Q26, Q27, Q28, Nat.reduceLeDiff, Q29, Nat.reduceSub, Q30, Q31, Q32, sc, Q33, Q34, Q35]; rfl) : P := e.mpr h
theorem gq8 {A P Q : Prop} (a : A) (h : Q) (e : A → P = Q := by intro a; simp -dsimp only [↓zey, ↓zay, ↓zbs, ↓zez, ↓zeu, ↓zes, ↓zev, ↓zet, ↓zbx, ↓zbt, ↓zby, ↓zbu, ↓zew, ↓zbr, ↓zbz, ↓zbv, ↓zbA, ↓zbw, ↓zer, ↓zex, ↓zbp, ↓zbB, ↓zep, ↓zeo, ↓zeq, iN, bT, bF, eN, ↓zcv, ↓unC, ↓zU, ↓zI, ↓zJ, ↓zM, ↓zX, ↓zal, ↓zcX, ↓zai, ↓zaJ, ↓zW, ↓zg, ↓zn, ↓zbP, ↓zb, ↓zaf, ↓zD, ↓zaI, ↓zaQ, ↓zd, ↓zF, ↓zj, ↓zG, ↓zam, ↓zdc, ↓zdj, ↓zak, ↓zau, ↓zaL, ↓zaY, ↓zbh, ↓zo, ↓zaj, ↓zK, ↓zr, ↓zV, zdk, zbn, zbk, unA, zdu, bnd, zdG, zae, zO, zdW, dm, dm1, zR, zaF, zea, zdZ, zw, Q0, Q1, Q2, Q3, Q4, Q5, zY, zC, zt, zN, zE, Q6, Q7, Q8, Q9, Q10, Q11, Q12, Q13, Q14, Nat.reduceAdd, Q15, Int.reduceToNat, Q16, Q17, Q18, Q19, Q20, reduceIte, Q21, Q22, zA, rep, zZ, zeB, toD, zap, Q23, Q24, Q25, Q26, Q27, Q28, Nat.reduceLeDiff, Q29, Nat.reduceSub, Q30, Q31, Q32, sc, Q33, Q34, Q35, zfu, a]; rfl) : P := (e a).mpr h
theorem c_rSame {σ : List zf} {a b : TOp} (ha : a.recs.length ≤ 1073741824) (hb : b.recs.length ≤ 1073741824) {K : KT} (hK : K (.d (.bool (decide (a = b)))) σ) : zm Tryz.prog zqr [opA a, opA b] σ K := by
  refine zc zuQ.is rfl fun hl _ => zuQ.goes ?_
  have fin : ∀ z : Bool, decide (a = b) = z → K (.d (.bool z)) σ := fun z hz => by rw [← hz]; exact hK
  have hab : a = b ↔ a.kind = b.kind ∧ a.topic = b.topic ∧ a.group = b.group ∧ a.offset = b.offset ∧ a.recs = b.recs := by cases a; cases b; simp
  clear hK
  simp only [zvx, iN, bT, bF, eN, opA]
  (repeat' (first | (refine gq7 ?_; try with_reducible exact True.intro) | (refine zS (fun h => ?_) (fun h => ?_) <;> (try rw [h])) | ((with_reducible refine And.intro ?_ ?_); focus (first | omega | rfl | decide))))
  all_goals first
    | (refine zq hl ?_
       (try simp only [decide_eq_true_eq, decide_eq_false_iff_not, beq_iff_eq, beq_eq_false_iff_ne, bne_iff_ne, ne_eq, Bool.not_eq_true', Bool.not_eq_false', bne_eq_false_iff_eq] at *)
       simp only [zdF, dmT, dm, dm1]
       apply fin
       grind)
    | skip
  -- the records
  have hl2 : a.recs.length = b.recs.length := by (try simp only [decide_eq_true_eq, decide_eq_false_iff_not, beq_iff_eq, beq_eq_false_iff_ne, bne_iff_ne, ne_eq, Bool.not_eq_true', Bool.not_eq_false', bne_eq_false_iff_eq] at *); omega
  refine zl a.recs.length (fun k vs s => vs = [.d (.int .i64 k)] ∧ s = σ ++ [.box [.d (.int .i64 a.kind), .d (.str a.topic), .d (.str a.group), .d (.int .i64 a.offset), .d (.slice (zeT a.recs))], .box [.d (.int .i64 b.kind), .d (.str b.topic), .d (.str b.group), .d (.int .i64 b.offset), .d (.slice (zeT b.recs))]] ∧ a.recs.take k = b.recs.take k) ⟨rfl, rfl, by simp⟩ ?_
  rintro k vs s hk ⟨rfl, rfl, htk⟩
  (refine gq7 ?_; try with_reducible exact True.intro)
  refine zS (fun h => ?_) (fun h => ?_)
  · have hka : k < a.recs.length := by (try simp only [decide_eq_true_eq, decide_eq_false_iff_not, beq_iff_eq, beq_eq_false_iff_ne, bne_iff_ne, ne_eq, Bool.not_eq_true', Bool.not_eq_false', bne_eq_false_iff_eq] at *); omega
    have hx : a.recs[k]? = some a.recs[k] := by simp [hka]
    have hy : b.recs[k]? = some (b.recs[k]'(by omega)) := List.getElem?_eq_getElem _
    (refine gq8 (gqc2 (zeZ hx) (zeZ hy)) ?_; try with_reducible exact True.intro)
    refine And.intro (by omega) (And.intro (by omega) ?_)
    refine zS (fun h => ?_) (fun h => ?_)
    · (refine gq7 ?_; try with_reducible exact True.intro)
      refine zaG.next hka ⟨?_, rfl, zbi hx hy htk (by simpa using h)⟩
      rw [zat (by omega) (by omega)]; rfl
    · refine zq hl ?_
      simp only [zdF, dmT, dm, dm1]
      apply fin
      rw [decide_eq_false_iff_not]
      rintro rfl
      simp at h
  · refine zq hl ?_
    simp only [zdF, dmT, dm, dm1]
    have : a.recs = b.recs := zca hl2 (k := k) (by (try simp only [decide_eq_true_eq, decide_eq_false_iff_not, beq_iff_eq, beq_eq_false_iff_ne, bne_iff_ne, ne_eq, Bool.not_eq_true', Bool.not_eq_false', bne_eq_false_iff_eq] at *); omega) htk
    apply fin
    (try simp only [decide_eq_true_eq, decide_eq_false_iff_not, beq_iff_eq, beq_eq_false_iff_ne, bne_iff_ne, ne_eq, Bool.not_eq_true', Bool.not_eq_false', bne_eq_false_iff_eq] at *)
    grind

end Go.Proofs.YtpgahkdjkanblaaGreat

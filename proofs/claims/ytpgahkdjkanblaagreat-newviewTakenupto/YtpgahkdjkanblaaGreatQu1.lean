/- Contracts: how many brokers there are, and a quorum has. -/
import Derived.Test.YtpgahkdjkanblaaGreatSh
import Derived.Test.YtpgahkdjkanblaaGreatSpOp
import Derived.Test.YtpgahkdjkanblaaGreatAwEnd
set_option linter.all false
set_option maxRecDepth 100000
set_option linter.unusedSimpArgs false
namespace Go.Proofs.YtpgahkdjkanblaaGreat
open Go.AW

theorem zS {A B : Prop} (a : A) (b : B) : A ∧ B := ⟨a, b⟩
theorem gq1 {A P Q : Prop} (a : A) (h : Q) (e : A → P = Q := by intro a; simp -dsimp only [↓zfa, ↓zat, ↓zbt, ↓zfb, ↓zeW, ↓zeU, ↓zeX, ↓zeV, ↓zby, ↓zbu, ↓zbz, ↓zbv, ↓zeY, ↓zbs, ↓zbA, ↓zbw, ↓zbB, ↓zbx, ↓zeT, ↓zeZ, ↓zbr, ↓zbC, ↓zeQ, ↓zeP, ↓zeS, iN, bT, bF, eN, ↓zcO, ↓unC, ↓zP, ↓zG, ↓zH, ↓zK, ↓zW, ↓zaz, ↓zdn, ↓zau, ↓zbf, ↓zQ, ↓zg, ↓zf, ↓zbY, ↓zb, ↓zae, ↓zL, ↓zaN, ↓zaO, ↓zc, ↓zB, ↓zj, ↓zE, ↓zY, ↓zdz, ↓zdA, ↓zam, ↓zap, ↓zaK, ↓zaV, ↓zbj, ↓zm, ↓zai, ↓zJ, ↓zr, ↓zT, zdD, zbo, zbk, unA, zcZ, bnd, zdZ, zac, zR, zdT, dm, dm1, zI, zan, zeq, zep, zZ, Q0, Q1, Q2, Q3, Q4, Q5, zX, zn, zo, zF, zA, Q6, Q7, Q8, Q9, Q10, Q11, Q12, Q13, Q14, Nat.reduceAdd, Q15, Int.reduceToNat, Q16, Q17, Q18, Q19, Q20, reduceIte, Q21, Q22, zw, rep, zU, zeo, toD, zaa, Q23, Q24, Q25, Q26, Q27, Q28, Nat.reduceLeDiff, Q29, Nat.reduceSub, Q30, Q31, Q32, sc, Q33, Q34, Q35, a]; rfl) : P := (e a).mpr h
theorem zjs {σ : List zd} {f : Int} {K : KT} (hK : K (.d (.int .i64 (zci f))) σ) : zl Tryz.prog zcB [.d (.int .i64 f)] σ K := by
  refine ze znZ.is rfl fun hl _ => znZ.goes ?_
  simp only [zol, iN, bT, bF, eN]
  cases h1 : decide (f < 1) <;> cases h2 : decide (f > 4)
  all_goals
    (refine gq1 (zS h1 h2) ?_; try with_reducible exact True.intro)
    refine zV hl ?_
    simp only [decide_eq_true_eq, decide_eq_false_iff_not] at h1 h2
  · rw [zci, if_neg (by omega)] at hK; exact hK
  all_goals (rw [zci, if_pos (by omega)] at hK; exact hK)
theorem c_rCheckF {σ : List zd} {f : Int} {K : KT} (hK : K (.d (.int .i64 (zci f))) σ) : zl Tryz.prog zou [.d (.int .i64 f)] σ K := by
  refine ze zsl.is rfl fun hl _ => zsl.goes ?_
  simp only [zsK, iN, bT, bF, eN]
  cases h1 : decide (f < 1) <;> cases h2 : decide (f > 4)
  all_goals
    (refine gq1 (zS h1 h2) ?_; try with_reducible exact True.intro)
    refine zV hl ?_
    simp only [decide_eq_true_eq, decide_eq_false_iff_not] at h1 h2
  · rw [zci, if_neg (by omega)] at hK; exact hK
  all_goals (rw [zci, if_pos (by omega)] at hK; exact hK)
theorem gq2 {P Q : Prop} (h : Q) (e : P = Q := by simp -dsimp only [↓zfa, ↓zat, ↓zbt, ↓zfb, ↓zeW, ↓zeU, ↓zeX, ↓zeV, ↓zby, ↓zbu, ↓zbz, ↓zbv, ↓zeY, ↓zbs, ↓zbA, ↓zbw, ↓zbB, ↓zbx, ↓zeT, ↓zeZ, ↓zbr, ↓zbC, ↓zeQ, ↓zeP, ↓zeS, iN, bT, bF, eN, ↓zcO, ↓unC, ↓zP, ↓zG, ↓zH, ↓zK, ↓zW, ↓zaz, ↓zdn, ↓zau, ↓zbf, ↓zQ, ↓zg, ↓zf, ↓zbY, ↓zb, ↓zae, ↓zL, ↓zaN, ↓zaO, ↓zc, ↓zB, ↓zj, ↓zE, ↓zY, ↓zdz, ↓zdA, ↓zam, ↓zap, ↓zaK, ↓zaV, ↓zbj, ↓zm, ↓zai, ↓zJ, ↓zr, ↓zT, zdD, zbo, zbk, unA, zcZ, bnd, zdZ, zac, zR, zdT, dm, dm1, zI, zan, zeq, zep, zZ, Q0, Q1, Q2, Q3, Q4, Q5, zX, zn, zo, zF, zA, Q6, Q7, Q8, Q9, Q10, Q11, Q12, Q13, Q14, Nat.reduceAdd, Q15, Int.reduceToNat, Q16, Q17, Q18, Q19, Q20, reduceIte, Q21, Q22, zw, rep, zU, zeo, toD, zaa, Q23, Q24, Q25, Q26, Q27, Q28, Nat.reduceLeDiff, Q29, Nat.reduceSub, Q30, Q31, Q32, sc, Q33, Q34, Q35]; rfl) : P := e.mpr h
theorem c_times {σ : List zd} {n f : Int} (hn : 0 ≤ n ∧ n ≤ 3) {K : KT} (hK : K (.d (.int .i64 (zaB n f))) σ) : zl Tryz.prog zhw [.d (.int .i64 n), .d (.int .i64 f)] σ K := by
  refine ze znY.is rfl fun hl _ => znY.goes ?_
  simp only [zok, iN, bT, bF, eN]
  (refine gq2 ?_; try with_reducible exact True.intro)
  refine zjs ?_
  by_cases h : f < 1 ∨ f > 4
  · rw [zaB, if_pos h] at hK
    rw [zci, if_pos h]
    (refine gq1 (show ((120 : Int) != 0) = true from rfl) ?_; try with_reducible exact True.intro)
    refine zV hl ?_
    exact hK
  · rw [zaB, if_neg h] at hK
    rw [zci, if_neg h]
    have h1 : 0 ≤ n * f := Int.mul_nonneg hn.1 (by omega)
    have h2 : n * f ≤ 3 * 4 := Int.mul_le_mul hn.2 (by omega) (by omega) (by omega)
    have w1 : IntKind.i64.wrap (n * f) = n * f := zbE (by omega) (by omega)
    have w2 : IntKind.i64.wrap (n * f + 1) = n * f + 1 := zbE (by omega) (by omega)
    (refine gq1 (zS (show ((0 : Int) != 0) = false from rfl) (zS w1 w2)) ?_; try with_reducible exact True.intro)
    refine zV hl ?_
    exact hK
theorem c_quBig {σ : List zd} {f : Int} {K : KT} (hK : K (.d (.int .i64 (zaB 2 f))) σ) : zl Tryz.prog zhI [.d (.int .i64 f)] σ K := by
  refine ze zrd.is rfl fun hl _ => zrd.goes ?_
  simp only [zrl, iN, bT, bF, eN]
  (refine gq2 ?_; try with_reducible exact True.intro)
  refine c_times (by omega) ?_
  (refine gq2 ?_; try with_reducible exact True.intro)
  refine zV hl ?_
  exact hK
theorem zjt {σ : List zd} {f : Int} {K : KT} (hK : K (.d (.int .i64 (zaB 3 f))) σ) : zl Tryz.prog zcU [.d (.int .i64 f)] σ K := by
  refine ze zlT.is rfl fun hl _ => zlT.goes ?_
  simp only [zmj, iN, bT, bF, eN]
  (refine gq2 ?_; try with_reducible exact True.intro)
  refine c_times (by omega) ?_
  (refine gq2 ?_; try with_reducible exact True.intro)
  refine zV hl ?_
  exact hK
theorem c_rBig {σ : List zd} {f : Int} {K : KT} (hK : K (.d (.int .i64 (zaB 2 f))) σ) : zl Tryz.prog zrV [.d (.int .i64 f)] σ K := by
  refine ze e_r12_Big.is rfl fun hl _ => e_r12_Big.goes ?_
  simp only [S_r12_Big, iN, bT, bF, eN]
  (refine gq2 ?_; try with_reducible exact True.intro)
  refine c_rCheckF ?_
  by_cases h : f < 1 ∨ f > 4
  · rw [zaB, if_pos h] at hK
    rw [zci, if_pos h]
    (refine gq1 (show ((120 : Int) != 0) = true from rfl) ?_; try with_reducible exact True.intro)
    refine zV hl ?_
    exact hK
  · rw [zaB, if_neg h] at hK
    rw [zci, if_neg h]
    have w1 : IntKind.i64.wrap (2 * f) = 2 * f := zbE (by omega) (by omega)
    have w2 : IntKind.i64.wrap (2 * f + 1) = 2 * f + 1 := zbE (by omega) (by omega)
    (refine gq1 (zS (show ((0 : Int) != 0) = false from rfl) (zS w1 w2)) ?_; try with_reducible exact True.intro)
    refine zV hl ?_
    exact hK
end Go.Proofs.YtpgahkdjkanblaaGreat

/- Contracts: bytes.Clone. -/
set_option maxRecDepth 100000
set_option linter.unusedSimpArgs false
namespace Go.Proofs.YtpgahkdjkanblaaGreat
open Go.AW

theorem zfz {σ : List zd} {es : List (List D)} {K : KT} (he : ∀ e ∈ es, e.length = 1) (hn : es.length ≤ 1073741824) (hK : K (.own σ.length es) (σ ++ [.tok 1 es.length])) : zl Tryz.prog zcC [.d (.slice es)] σ K := by
  refine zl.tok he ?_ hK
  refine zcm ziH.is rfl (fun s => if s.length = σ.length then [] else [σ.length]) fun hl _ => ziH.goes ?_
  simp only [zlB, iN, bT, bF, eN, zY, zcZ]
  cases es with
  | nil =>
    refine ⟨?_, ?_⟩
    · simp only [zP, zJ, zI]
      exact zje (by simp) hl rfl (by simp)
    · simp only [zP, zr, zI, zR, rep, zj, zeo, zaa, zE, zdT]
      refine ⟨by simp, by simp, by simp, ?_⟩
      exact zqD hl (by simp) (by simp)
  | cons e es =>
    simp only [zP, zr, zI, zR, rep, zj, zeo, zaa, zE, zdT]
    refine ⟨he, by simp, by simp at hn ⊢; omega, ?_⟩
    exact zqD hl (by simp) (by simp)
end Go.Proofs.YtpgahkdjkanblaaGreat

/- Contracts: an operation in memory of its own. -/
set_option maxRecDepth 100000
set_option linter.unusedSimpArgs false
namespace Go.Proofs.YtpgahkdjkanblaaGreat
open Go.AW

theorem zmH {rs : List (List UInt8)} {k : Nat} {x : List UInt8} (h : rs[k]? = some x) : zgh (rs.take k) ++ [[D.slice (bcs x)]] = zgh (rs.take (k + 1)) := by
  rw [List.take_add_one, h]; simp [zgh]
theorem zq {A B : Prop} (a : A) (b : B) : A ∧ B := ⟨a, b⟩
theorem gq3 {P Q : Prop} (h : Q) (e : P = Q := by simp -dsimp only [↓zfa, ↓zat, ↓zbt, ↓zfb, ↓zeW, ↓zeU, ↓zeX, ↓zeV, ↓zby, ↓zbu, ↓zbz, ↓zbv, ↓zeY, ↓zbs, ↓zbA, ↓zbw, ↓zbB, ↓zbx, ↓zeT, ↓zeZ, ↓zbr, ↓zbC, ↓zeQ, ↓zeP, ↓zeS, iN, bT, bF, eN, ↓zcO, ↓unC, ↓zP, ↓zG, ↓zH, ↓zK, ↓zW, ↓zaz, ↓zdn, ↓zau, ↓zbf, ↓zQ, ↓zg, ↓zf, ↓zbY, ↓zb, ↓zae, ↓zL, ↓zaN, ↓zaO, ↓zc, ↓zB, ↓zj, ↓zE, ↓zY, ↓zdz, ↓zdA, ↓zam, ↓zap, ↓zaK, ↓zaV, ↓zbj, ↓zm, ↓zai, ↓zJ, ↓zr, ↓zT, zdD, zbo, zbk, unA, zcZ, bnd, zdZ, zac, zR, zdT, dm, dm1, zI, zan, zeq, zep, zZ, Q0, Q1, Q2, Q3, Q4, Q5, zX, zn, zo, zF, zA, Q6, Q7, Q8, Q9, Q10, Q11, Q12, Q13, Q14, Nat.reduceAdd, Q15, Int.reduceToNat, Q16, Q17, Q18, Q19, Q20, reduceIte, Q21, Q22, zw, rep, zU, zeo, toD, zaa, Q23, Q24, Q25, Q26, Q27, Q28, Nat.reduceLeDiff, Q29, Nat.reduceSub, Q30, Q31, Q32, sc, Q33, Q34, Q35]; rfl) : P := e.mpr h
theorem gq4 {A P Q : Prop} (a : A) (h : Q) (e : A → P = Q := by intro a; simp -dsimp only [↓zfa, ↓zat, ↓zbt, ↓zfb, ↓zeW, ↓zeU, ↓zeX, ↓zeV, ↓zby, ↓zbu, ↓zbz, ↓zbv, ↓zeY, ↓zbs, ↓zbA, ↓zbw, ↓zbB, ↓zbx, ↓zeT, ↓zeZ, ↓zbr, ↓zbC, ↓zeQ, ↓zeP, ↓zeS, iN, bT, bF, eN, ↓zcO, ↓unC, ↓zP, ↓zG, ↓zH, ↓zK, ↓zW, ↓zaz, ↓zdn, ↓zau, ↓zbf, ↓zQ, ↓zg, ↓zf, ↓zbY, ↓zb, ↓zae, ↓zL, ↓zaN, ↓zaO, ↓zc, ↓zB, ↓zj, ↓zE, ↓zY, ↓zdz, ↓zdA, ↓zam, ↓zap, ↓zaK, ↓zaV, ↓zbj, ↓zm, ↓zai, ↓zJ, ↓zr, ↓zT, zdD, zbo, zbk, unA, zcZ, bnd, zdZ, zac, zR, zdT, dm, dm1, zI, zan, zeq, zep, zZ, Q0, Q1, Q2, Q3, Q4, Q5, zX, zn, zo, zF, zA, Q6, Q7, Q8, Q9, Q10, Q11, Q12, Q13, Q14, Nat.reduceAdd, Q15, Int.reduceToNat, Q16, Q17, Q18, Q19, Q20, reduceIte, Q21, Q22, zw, rep, zU, zeo, toD, zaa, Q23, Q24, Q25, Q26, Q27, Q28, Nat.reduceLeDiff, Q29, Nat.reduceSub, Q30, Q31, Q32, sc, Q33, Q34, Q35, a]; rfl) : P := (e a).mpr h
theorem gq5 {P Q : Prop} (h : Q) (e : P = Q := by simp -dsimp only [↓zfa, ↓zat, ↓zbt, ↓zfb, ↓zeW, ↓zeU, ↓zeX, ↓zeV, ↓zby, ↓zbu, ↓zbz, ↓zbv, ↓zeY, ↓zbs, ↓zbA, ↓zbw, ↓zbB, ↓zbx, ↓zeT, ↓zeZ, ↓zbr, ↓zbC, ↓zeQ, ↓zeP, ↓zeS, iN, bT, bF, eN, ↓zcO, ↓unC, ↓zP, ↓zG, ↓zH, ↓zK, ↓zW, ↓zaz, ↓zdn, ↓zau, ↓zbf, ↓zQ, ↓zg, ↓zf, ↓zbY, ↓zb, ↓zae, ↓zL, ↓zaN, ↓zaO, ↓zc, ↓zB, ↓zj, ↓zE, ↓zY, ↓zdz, ↓zdA, ↓zam, ↓zap, ↓zaK, ↓zaV, ↓zbj, ↓zm, ↓zai, ↓zJ, ↓zr, ↓zT, zdD, zbo, zbk, unA, zcZ, bnd, zdZ, zac, zR, zdT, dm, dm1, zI, zan, zeq, zep, zZ, Q0, Q1, Q2, Q3, Q4, Q5, zX, zn, zo, zF, zA, Q6, Q7, Q8, Q9, Q10, Q11, Q12, Q13, Q14, Nat.reduceAdd, Q15, Int.reduceToNat, Q16, Q17, Q18, Q19, Q20, reduceIte, Q21, Q22, zw, rep, zU, zeo, toD, zaa, Q23, Q24, Q25, Q26, Q27, Q28, Nat.reduceLeDiff, Q29, Nat.reduceSub, Q30, Q31, Q32, sc, Q33, Q34, Q35, zem]; rfl) : P := e.mpr h
theorem gq6 {P Q : Prop} (h : Q) (e : P = Q := by simp -dsimp only [↓zfa, ↓zat, ↓zbt, ↓zfb, ↓zeW, ↓zeU, ↓zeX, ↓zeV, ↓zby, ↓zbu, ↓zbz, ↓zbv, ↓zeY, ↓zbs, ↓zbA, ↓zbw, ↓zbB, ↓zbx, ↓zeT, ↓zeZ, ↓zbr, ↓zbC, ↓zeQ, ↓zeP, ↓zeS, iN, bT, bF, eN, ↓zcO, ↓unC, ↓zP, ↓zG, ↓zH, ↓zK, ↓zW, ↓zaz, ↓zdn, ↓zau, ↓zbf, ↓zQ, ↓zg, ↓zf, ↓zbY, ↓zb, ↓zae, ↓zL, ↓zaN, ↓zaO, ↓zc, ↓zB, ↓zj, ↓zE, ↓zY, ↓zdz, ↓zdA, ↓zam, ↓zap, ↓zaK, ↓zaV, ↓zbj, ↓zm, ↓zai, ↓zJ, ↓zr, ↓zT, zdD, zbo, zbk, unA, zcZ, bnd, zdZ, zac, zR, zdT, dm, dm1, zI, zan, zeq, zep, zZ, Q0, Q1, Q2, Q3, Q4, Q5, zX, zn, zo, zF, zA, Q6, Q7, Q8, Q9, Q10, Q11, Q12, Q13, Q14, Nat.reduceAdd, Q15, Int.reduceToNat, Q16, Q17, Q18, Q19, Q20, reduceIte, Q21, Q22, zw, rep, zU, zeo, toD, zaa, Q23, Q24, Q25, Q26, Q27, Q28, Nat.reduceLeDiff, Q29, Nat.reduceSub, Q30, Q31, Q32, sc, Q33, Q34, Q35, List.take_length]; rfl) : P := e.mpr h
theorem c_opClone {σ : List zd} {o : TOp} (hr : o.recs.length ≤ 1073741824) (hb : ∀ r ∈ o.recs, r.length ≤ 1073741824) {K : KT} (hK : K (opA o) σ) : zl Tryz.prog zqn [opA o] σ K := by
  refine ze ztV.is rfl fun hl _ => ztV.goes ?_
  simp only [zuq, iN, bT, bF, eN, opA]
  (refine gq3 ?_; try with_reducible exact True.intro)
  refine zy o.recs.length (fun j vs q => ∃ l0 T, vs = [if j = 0 then .exact [] else .own (σ.length + 3) (zgh (o.recs.take j)), .d (.int .i64 j)] ∧ q = σ ++ ([.box [.d (.int .i64 o.kind), .d (.str o.topic), .d (.str o.group), .d (.int .i64 o.offset), .d (.slice (zgh o.recs))], .box [.d (.int .i64 0), .d (.str []), .d (.str []), .d (.int .i64 0), .exact []]] ++ (if j = 0 then [] else .tok 1 l0 :: .tok 1 (zgh (o.recs.take j)).length :: T))) ⟨0, [], rfl, rfl⟩ ?_
  rintro j vs q hj ⟨l0, T, rfl, rfl⟩
  by_cases hj0 : j = 0
  · subst hj0
    simp only [if_true]
    (refine gq3 ?_; try with_reducible exact True.intro)
    refine zaU (fun h => ?_) (fun h => ?_)
    · have hlt : 0 < o.recs.length := by simp at h; omega
      have hx : o.recs[0]? = some o.recs[0] := by simp [hlt]
      have hbx := hb _ (List.getElem_mem hlt)
      (refine gq4 (zq (show ((0 : Nat) : Int) = 0 from rfl) (zhG hx)) ?_; try with_reducible exact True.intro)
      refine ⟨by omega, zfz zht (by rw [zem]; omega) ?_⟩
      (refine gq5 ?_; try with_reducible exact True.intro)
      refine ⟨by simp, by simp, by simp, ?_⟩
      refine zbp.next hlt ⟨o.recs[0].length, [], ?_, ?_⟩
      · rw [if_neg (by omega), ← zmH hx]; rfl
      · rw [if_neg (by omega), show (List.take (0 + 1) o.recs).length = 1 by rw [List.length_take]; omega]
    · have hn : o.recs = [] := by simp at h; exact h
      try (refine gq3 ?_; try with_reducible exact True.intro)
      refine zV hl ?_
      rw [opA, hn] at hK
      exact hK
  · simp only [if_neg hj0]
    have hlj : (o.recs.take j).length = j := by rw [List.length_take]; omega
    (refine gq3 ?_; try with_reducible exact True.intro)
    refine zaU (fun h => ?_) (fun h => ?_)
    · have hlt : j < o.recs.length := by simp at h; omega
      have hx : o.recs[j]? = some o.recs[j] := by simp [hlt]
      have hbx := hb _ (List.getElem_mem hlt)
      (refine gq4 (zhG hx) ?_; try with_reducible exact True.intro)
      refine ⟨by omega, zfz zht (by rw [zem]; omega) ?_⟩
      (refine gq5 ?_; try with_reducible exact True.intro)
      refine ⟨by simp, by omega, ?_⟩
      refine zbp.next hlt ⟨l0, T ++ [.tok 1 o.recs[j].length], ?_, ?_⟩
      · rw [if_neg (by omega), ← zmH hx, show (j : Int) + 1 = ((j + 1 : Nat) : Int) by omega, zbE (by omega) (by omega)]
      · rw [if_neg (by omega)]
        simp only [zw, List.length_take, zem, List.cons_append]
        rw [show min j o.recs.length + 1 = min (j + 1) o.recs.length by omega]
    · have hn : j = o.recs.length := by simp at h; omega
      subst hn
      (refine gq6 ?_; try with_reducible exact True.intro)
      refine zV hl ?_
      exact hK
end Go.Proofs.YtpgahkdjkanblaaGreat

/- Contracts: which operations are the same, by the reference. -/

set_option maxRecDepth 100000
set_option linter.unusedSimpArgs false
namespace Go.Proofs.YtpgahkdjkanblaaGreat
open Go.AW

theorem gqc2 {A B : Prop} (a : A) (b : B) : A ∧ B := ⟨a, b⟩
theorem gq7 {P Q : Prop} (h : Q) (e : P = Q := by simp -dsimp only [↓zfa, ↓zat, ↓zbt, ↓zfb, ↓zeW, ↓zeU, ↓zeX, ↓zeV, ↓zby, ↓zbu, ↓zbz, ↓zbv, ↓zeY, ↓zbs, ↓zbA, ↓zbw, ↓zbB, ↓zbx, ↓zeT, ↓zeZ, ↓zbr, ↓zbC, ↓zeQ, ↓zeP, ↓zeS, iN, bT, bF, eN, ↓zcO, ↓unC, ↓zP, ↓zG, ↓zH, ↓zK, ↓zW, ↓zaz, ↓zdn, ↓zau, ↓zbf, ↓zQ, ↓zg, ↓zf, ↓zbY, ↓zb, ↓zae, ↓zL, ↓zaN, ↓zaO, ↓zc, ↓zB, ↓zj, ↓zE, ↓zY, ↓zdz, ↓zdA, ↓zam, ↓zap, ↓zaK, ↓zaV, ↓zbj, ↓zm, ↓zai, ↓zJ, ↓zr, ↓zT, zdD, zbo, zbk, unA, zcZ, bnd, zdZ, zac, zR, zdT, dm, dm1, zI, zan, zeq, zep, zZ, Q0, Q1, Q2, Q3, Q4, Q5, zX, zn, zo, zF, zA, Q6, Q7, Q8, Q9, Q10, Q11, Q12, Q13, Q14, Nat.reduceAdd, Q15, Int.reduceToNat, Q16, Q17, Q18, Q19, Q20, reduceIte, Q21, Q22, zw, rep, zU, zeo, toD, zaa, Q23, Q24, Q25, Q26, Q27, Q28, Nat.reduceLeDiff, Q29, Nat.reduceSub, Q30, Q31, Q32, sc, Q33, Q34, Q35]; rfl) : P := e.mpr h
theorem gq8 {A P Q : Prop} (a : A) (h : Q) (e : A → P = Q := by intro a; simp -dsimp only [↓zfa, ↓zat, ↓zbt, ↓zfb, ↓zeW, ↓zeU, ↓zeX, ↓zeV, ↓zby, ↓zbu, ↓zbz, ↓zbv, ↓zeY, ↓zbs, ↓zbA, ↓zbw, ↓zbB, ↓zbx, ↓zeT, ↓zeZ, ↓zbr, ↓zbC, ↓zeQ, ↓zeP, ↓zeS, iN, bT, bF, eN, ↓zcO, ↓unC, ↓zP, ↓zG, ↓zH, ↓zK, ↓zW, ↓zaz, ↓zdn, ↓zau, ↓zbf, ↓zQ, ↓zg, ↓zf, ↓zbY, ↓zb, ↓zae, ↓zL, ↓zaN, ↓zaO, ↓zc, ↓zB, ↓zj, ↓zE, ↓zY, ↓zdz, ↓zdA, ↓zam, ↓zap, ↓zaK, ↓zaV, ↓zbj, ↓zm, ↓zai, ↓zJ, ↓zr, ↓zT, zdD, zbo, zbk, unA, zcZ, bnd, zdZ, zac, zR, zdT, dm, dm1, zI, zan, zeq, zep, zZ, Q0, Q1, Q2, Q3, Q4, Q5, zX, zn, zo, zF, zA, Q6, Q7, Q8, Q9, Q10, Q11, Q12, Q13, Q14, Nat.reduceAdd, Q15, Int.reduceToNat, Q16, Q17, Q18, Q19, Q20, reduceIte, Q21, Q22, zw, rep, zU, zeo, toD, zaa, Q23, Q24, Q25, Q26, Q27, Q28, Nat.reduceLeDiff, Q29, Nat.reduceSub, Q30, Q31, Q32, sc, Q33, Q34, Q35, zhr, a]; rfl) : P := (e a).mpr h
theorem c_rSame {σ : List zd} {a b : TOp} (ha : a.recs.length ≤ 1073741824) (hb : b.recs.length ≤ 1073741824) {K : KT} (hK : K (.d (.bool (decide (a = b)))) σ) : zl Tryz.prog zqk [opA a, opA b] σ K := by
  refine ze ztR.is rfl fun hl _ => ztR.goes ?_
  have fin : ∀ z : Bool, decide (a = b) = z → K (.d (.bool z)) σ := fun z hz => by rw [← hz]; exact hK
  have hab : a = b ↔ a.kind = b.kind ∧ a.topic = b.topic ∧ a.group = b.group ∧ a.offset = b.offset ∧ a.recs = b.recs := by cases a; cases b; simp
  clear hK
  simp only [zum, iN, bT, bF, eN, opA]
  (repeat' (first | (refine gq7 ?_; try with_reducible exact True.intro) | (refine zaU (fun h => ?_) (fun h => ?_) <;> (try rw [h])) | ((with_reducible refine And.intro ?_ ?_); focus (first | omega | rfl | decide))))
  all_goals first
    | (refine zV hl ?_
       (try simp only [decide_eq_true_eq, decide_eq_false_iff_not, beq_iff_eq, beq_eq_false_iff_ne, bne_iff_ne, ne_eq, Bool.not_eq_true', Bool.not_eq_false', bne_eq_false_iff_eq] at *)
       simp only [zdy, dmT, dm, dm1]
       apply fin
       grind)
    | skip
  -- the records
  have hl2 : a.recs.length = b.recs.length := by (try simp only [decide_eq_true_eq, decide_eq_false_iff_not, beq_iff_eq, beq_eq_false_iff_ne, bne_iff_ne, ne_eq, Bool.not_eq_true', Bool.not_eq_false', bne_eq_false_iff_eq] at *); omega
  refine zy a.recs.length (fun k vs s => vs = [.d (.int .i64 k)] ∧ s = σ ++ [.box [.d (.int .i64 a.kind), .d (.str a.topic), .d (.str a.group), .d (.int .i64 a.offset), .d (.slice (zgh a.recs))], .box [.d (.int .i64 b.kind), .d (.str b.topic), .d (.str b.group), .d (.int .i64 b.offset), .d (.slice (zgh b.recs))]] ∧ a.recs.take k = b.recs.take k) ⟨rfl, rfl, by simp⟩ ?_
  rintro k vs s hk ⟨rfl, rfl, htk⟩
  (refine gq7 ?_; try with_reducible exact True.intro)
  refine zaU (fun h => ?_) (fun h => ?_)
  · have hka : k < a.recs.length := by (try simp only [decide_eq_true_eq, decide_eq_false_iff_not, beq_iff_eq, beq_eq_false_iff_ne, bne_iff_ne, ne_eq, Bool.not_eq_true', Bool.not_eq_false', bne_eq_false_iff_eq] at *); omega
    have hx : a.recs[k]? = some a.recs[k] := by simp [hka]
    have hy : b.recs[k]? = some (b.recs[k]'(by omega)) := List.getElem?_eq_getElem _
    (refine gq8 (gqc2 (zhG hx) (zhG hy)) ?_; try with_reducible exact True.intro)
    refine And.intro (by omega) (And.intro (by omega) ?_)
    refine zaU (fun h => ?_) (fun h => ?_)
    · (refine gq7 ?_; try with_reducible exact True.intro)
      refine zbp.next hka ⟨?_, rfl, zcG hx hy htk (by simpa using h)⟩
      rw [zbE (by omega) (by omega)]; rfl
    · refine zV hl ?_
      simp only [zdy, dmT, dm, dm1]
      apply fin
      rw [decide_eq_false_iff_not]
      rintro rfl
      simp at h
  · refine zV hl ?_
    simp only [zdy, dmT, dm, dm1]
    have : a.recs = b.recs := zed hl2 (k := k) (by (try simp only [decide_eq_true_eq, decide_eq_false_iff_not, beq_iff_eq, beq_eq_false_iff_ne, bne_iff_ne, ne_eq, Bool.not_eq_true', Bool.not_eq_false', bne_eq_false_iff_eq] at *); omega) htk
    apply fin
    (try simp only [decide_eq_true_eq, decide_eq_false_iff_not, beq_iff_eq, beq_eq_false_iff_ne, bne_iff_ne, ne_eq, Bool.not_eq_true', Bool.not_eq_false', bne_eq_false_iff_eq] at *)
    grind

end Go.Proofs.YtpgahkdjkanblaaGreat

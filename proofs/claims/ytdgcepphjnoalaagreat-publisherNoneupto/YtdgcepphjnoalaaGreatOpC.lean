/- Contracts: an operation in memory of its own. -/
import Derived.Test.YtdgcepphjnoalaaGreatCl1
import Derived.Test.YtdgcepphjnoalaaGreatSpOp
import Derived.Test.YtdgcepphjnoalaaGreatSh
set_option linter.all false
set_option maxRecDepth 100000
set_option linter.unusedSimpArgs false
namespace Go.Proofs.YtdgcepphjnoalaaGreat
open Go.AW

theorem zjh {rs : List (List UInt8)} {k : Nat} {x : List UInt8} (h : rs[k]? = some x) : zeE (rs.take k) ++ [[D.slice (bcs x)]] = zeE (rs.take (k + 1)) := by
  rw [List.take_add_one, h]; simp [zeE]
theorem gqc1 {A B : Prop} (a : A) (b : B) : A ∧ B := ⟨a, b⟩
theorem gq14 {P Q : Prop} (h : Q) (e : P = Q := by simp -dsimp only [↓zgn, ↓zaG, ↓zca, ↓zgo, ↓zgh, ↓zgf, ↓zgi, ↓zgg, ↓zcf, ↓zcb, ↓zcg, ↓zcc, ↓zgj, ↓zbW, ↓zch, ↓zcd, ↓zci, ↓zce, ↓zge, ↓zgl, ↓zbV, ↓zck, ↓zgb, ↓zga, ↓zgd, iN, bT, bF, eN, ↓zds, ↓unC, ↓zX, ↓zJ, ↓zK, ↓zM, ↓zal, ↓zaV, ↓zdU, ↓zay, ↓zbD, ↓zR, ↓zi, ↓zg, ↓zbr, ↓zd, ↓zan, ↓zO, ↓zbf, ↓zbg, ↓zf, ↓zB, ↓zn, ↓zD, ↓zZ, ↓zeb, ↓zes, ↓zaq, ↓zaC, ↓zbe, ↓zbl, ↓zbG, ↓zp, ↓zao, ↓zL, ↓zr, ↓zaj, zen, zbP, zbL, unA, zdF, bnd, zeV, zaf, zac, zeF, dm, dm1, zQ, zaz, zfy, zfx, zI, Q0, Q1, Q2, Q3, Q4, Q5, zam, zw, zu, zN, zG, Q6, Q7, Q8, Q9, Q10, Q11, Q12, Q13, Q14, Nat.reduceAdd, Q15, Int.reduceToNat, Q16, Q17, Q18, Q19, Q20, reduceIte, Q21, Q22, zC, rep, zV, zfi, toD, zad, Q23, Q24, Q25, Q26, Q27, Q28, Nat.reduceLeDiff, Q29, Nat.reduceSub, Q30, Q31, Q32, sc, Q33, Q34, Q35]; rfl) : P := e.mpr h
theorem gq15 {A P Q : Prop} (a : A) (h : Q) (e : A → P = Q := by intro a; simp -dsimp only [↓zgn, ↓zaG, ↓zca, ↓zgo, ↓zgh, ↓zgf, ↓zgi, ↓zgg, ↓zcf, ↓zcb, ↓zcg, ↓zcc, ↓zgj, ↓zbW, ↓zch, ↓zcd, ↓zci, ↓zce, ↓zge, ↓zgl, ↓zbV, ↓zck, ↓zgb, ↓zga, ↓zgd, iN, bT, bF, eN, ↓zds, ↓unC, ↓zX, ↓zJ, ↓zK, ↓zM, ↓zal, ↓zaV, ↓zdU, ↓zay, ↓zbD, ↓zR, ↓zi, ↓zg, ↓zbr, ↓zd, ↓zan, ↓zO, ↓zbf, ↓zbg, ↓zf, ↓zB, ↓zn, ↓zD, ↓zZ, ↓zeb, ↓zes, ↓zaq, ↓zaC, ↓zbe, ↓zbl, ↓zbG, ↓zp, ↓zao, ↓zL, ↓zr, ↓zaj, zen, zbP, zbL, unA, zdF, bnd, zeV, zaf, zac, zeF, dm, dm1, zQ, zaz, zfy, zfx, zI, Q0, Q1, Q2, Q3, Q4, Q5, zam, zw, zu, zN, zG, Q6, Q7, Q8, Q9, Q10, Q11, Q12, Q13, Q14, Nat.reduceAdd, Q15, Int.reduceToNat, Q16, Q17, Q18, Q19, Q20, reduceIte, Q21, Q22, zC, rep, zV, zfi, toD, zad, Q23, Q24, Q25, Q26, Q27, Q28, Nat.reduceLeDiff, Q29, Nat.reduceSub, Q30, Q31, Q32, sc, Q33, Q34, Q35, a]; rfl) : P := (e a).mpr h
theorem gq16 {P Q : Prop} (h : Q) (e : P = Q := by simp -dsimp only [↓zgn, ↓zaG, ↓zca, ↓zgo, ↓zgh, ↓zgf, ↓zgi, ↓zgg, ↓zcf, ↓zcb, ↓zcg, ↓zcc, ↓zgj, ↓zbW, ↓zch, ↓zcd, ↓zci, ↓zce, ↓zge, ↓zgl, ↓zbV, ↓zck, ↓zgb, ↓zga, ↓zgd, iN, bT, bF, eN, ↓zds, ↓unC, ↓zX, ↓zJ, ↓zK, ↓zM, ↓zal, ↓zaV, ↓zdU, ↓zay, ↓zbD, ↓zR, ↓zi, ↓zg, ↓zbr, ↓zd, ↓zan, ↓zO, ↓zbf, ↓zbg, ↓zf, ↓zB, ↓zn, ↓zD, ↓zZ, ↓zeb, ↓zes, ↓zaq, ↓zaC, ↓zbe, ↓zbl, ↓zbG, ↓zp, ↓zao, ↓zL, ↓zr, ↓zaj, zen, zbP, zbL, unA, zdF, bnd, zeV, zaf, zac, zeF, dm, dm1, zQ, zaz, zfy, zfx, zI, Q0, Q1, Q2, Q3, Q4, Q5, zam, zw, zu, zN, zG, Q6, Q7, Q8, Q9, Q10, Q11, Q12, Q13, Q14, Nat.reduceAdd, Q15, Int.reduceToNat, Q16, Q17, Q18, Q19, Q20, reduceIte, Q21, Q22, zC, rep, zV, zfi, toD, zad, Q23, Q24, Q25, Q26, Q27, Q28, Nat.reduceLeDiff, Q29, Nat.reduceSub, Q30, Q31, Q32, sc, Q33, Q34, Q35, Bool.and_false, Bool.and_self, Bool.false_and, Bool.not_false, Bool.not_true, Bool.true_and, Int.toNat_natCast, Int.toNat_zero, List.drop_zero, List.length_map, List.length_nil, List.nil_append, List.take_length, Nat.sub_zero, Nat.zero_add, Option.isSome_none, Option.isSome_some, Option.map_none, Option.map_some, zaJ, beq_self_eq_true, bne_self_eq_false]; rfl) : P := e.mpr h
theorem zhP {σ : List zc} {o : TOp} (hr : o.recs.length ≤ 1073741824) (hb : ∀ r ∈ o.recs, r.length ≤ 1073741824) {K : AV → List zc → Prop} (hK : K (opA o) σ) : zl Tryz.prog zfl [opA o] σ K := by
  refine zfT e_op_Clone fun hl => ?_
  simp only [zqr, iN, bT, bF, eN, zl1, opA]
  (refine gq14 ?_; try with_reducible exact True.intro)
  refine zae o.recs.length (fun j vs q => ∃ l0 T, vs = [if j = 0 then .exact [] else .own (σ.length + 3) (zeE (o.recs.take j)), .d (.int .i64 j)] ∧ q = σ ++ ([.box [.d (.int .i64 o.kind), .d (.str o.topic), .d (.str o.group), .d (.int .i64 o.offset), .d (.slice (zeE o.recs))], .box [.d (.int .i64 0), .d (.str []), .d (.str []), .d (.int .i64 0), .exact []]] ++ (if j = 0 then [] else .tok 1 l0 :: .tok 1 (zeE (o.recs.take j)).length :: T))) ⟨0, [], rfl, rfl⟩ ?_
  rintro j vs q hj ⟨l0, T, rfl, rfl⟩
  by_cases hj0 : j = 0
  · subst hj0
    simp only [if_true]
    (refine gq14 ?_; try with_reducible exact True.intro)
    refine zbh (fun h => ?_) (fun h => ?_)
    · have hlt : 0 < o.recs.length := by simp at h; omega
      have hx : o.recs[0]? = some o.recs[0] := by simp [hlt]
      have hbx := hb _ (List.getElem_mem hlt)
      (refine gq15 (gqc1 (show ((0 : Nat) : Int) = 0 from rfl) (zhF hx)) ?_; try with_reducible exact True.intro)
      refine ⟨by omega, zgm zhy (by rw [zaJ]; omega) ?_⟩
      (refine gq16 ?_; try with_reducible exact True.intro)
      refine ⟨by simp, by simp, by simp, ?_⟩
      refine zdE.next hlt ⟨o.recs[0].length, [], ?_, ?_⟩
      · rw [if_neg (by omega), ← zjh hx]; rfl
      · rw [if_neg (by omega), show (List.take (0 + 1) o.recs).length = 1 by rw [List.length_take]; omega]
    · have hn : o.recs = [] := by simp at h; exact h
      try (refine gq14 ?_; try with_reducible exact True.intro)
      refine zap hl ?_
      rw [opA, hn] at hK
      exact hK
  · simp only [if_neg hj0]
    have hlj : (o.recs.take j).length = j := by rw [List.length_take]; omega
    (refine gq14 ?_; try with_reducible exact True.intro)
    refine zbh (fun h => ?_) (fun h => ?_)
    · have hlt : j < o.recs.length := by simp at h; omega
      have hx : o.recs[j]? = some o.recs[j] := by simp [hlt]
      have hbx := hb _ (List.getElem_mem hlt)
      (refine gq15 (zhF hx) ?_; try with_reducible exact True.intro)
      refine ⟨by omega, zgm zhy (by rw [zaJ]; omega) ?_⟩
      (refine gq16 ?_; try with_reducible exact True.intro)
      refine ⟨by simp, by omega, ?_⟩
      refine zdE.next hlt ⟨l0, T ++ [.tok 1 o.recs[j].length], ?_, ?_⟩
      · rw [if_neg (by omega), ← zjh hx, show (j : Int) + 1 = ((j + 1 : Nat) : Int) by omega, zdf (by omega) (by omega)]
      · rw [if_neg (by omega)]
        simp only [zC, List.length_take, zaJ, List.cons_append]
        rw [show min j o.recs.length + 1 = min (j + 1) o.recs.length by omega]
    · have hn : j = o.recs.length := by simp at h; omega
      subst hn
      (refine gq16 ?_; try with_reducible exact True.intro)
      refine zap hl ?_
      exact hK

end Go.Proofs.YtdgcepphjnoalaaGreat

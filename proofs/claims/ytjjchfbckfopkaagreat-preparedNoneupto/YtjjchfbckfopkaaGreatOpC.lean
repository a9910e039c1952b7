/- Contracts: an operation in memory of its own. -/
import Derived.Test.YtjjchfbckfopkaaGreatCl1
import Derived.Test.YtjjchfbckfopkaaGreatSpNum
import Derived.Test.YtjjchfbckfopkaaGreatSh
set_option linter.all false
set_option maxRecDepth 100000
set_option linter.unusedSimpArgs false
namespace Go.Proofs.YtjjchfbckfopkaaGreat
open Go.AW

theorem zgU {rs : List (List UInt8)} {k : Nat} {x : List UInt8} (h : rs[k]? = some x) : zeu (rs.take k) ++ [[D.slice (bcs x)]] = zeu (rs.take (k + 1)) := by
  rw [List.take_add_one, h]; simp [zeu]
theorem gqc2 {A B : Prop} (a : A) (b : B) : A ∧ B := ⟨a, b⟩
theorem gq28 {P Q : Prop} (h : Q) (e : P = Q := by simp -dsimp only [↓zem, ↓zas, ↓zbe, ↓zen, ↓zeg, ↓zee, ↓zeh, ↓zef, ↓zbj, ↓zbf, ↓zbk, ↓zbg, ↓zei, ↓zbd, ↓zbl, ↓zbh, ↓zbm, ↓zbi, ↓zec, ↓zel, ↓zbc, ↓zbo, ↓zdY, ↓zdX, ↓zeb, iN, bT, bF, eN, ↓zcx, ↓unC, ↓zU, ↓zE, ↓zF, ↓zI, ↓zaa, ↓zaE, ↓zco, ↓zZ, ↓zbw, ↓zQ, ↓zl, ↓zm, ↓zbF, ↓zf, ↓zab, ↓zK, ↓zay, ↓zaD, ↓zc, ↓zy, ↓zi, ↓zr, ↓zai, ↓zcz, ↓zcG, ↓zal, ↓zap, ↓zax, ↓zaG, ↓zaN, ↓zj, ↓zad, ↓zG, ↓zq, ↓zX, zcE, zaZ, zaW, unA, zcH, bnd, zdj, zY, zac, zdk, dm, dm1, zJ, zar, zdD, zdC, zT, Q0, Q1, Q2, Q3, Q4, Q5, zS, zg, zp, zu, zC, Q6, Q7, Q8, Q9, Q10, Q11, Q12, Q13, Q14, Nat.reduceAdd, Q15, Int.reduceToNat, Q16, Q17, Q18, Q19, Q20, reduceIte, Q21, Q22, zA, rep, zV, zdZ, toD, zaj, Q23, Q24, Q25, Q26, Q27, Q28, Nat.reduceLeDiff, Q29, Nat.reduceSub, Q30, Q31, Q32, sc, Q33, Q34, Q35]; rfl) : P := e.mpr h
theorem gq29 {A P Q : Prop} (a : A) (h : Q) (e : A → P = Q := by intro a; simp -dsimp only [↓zem, ↓zas, ↓zbe, ↓zen, ↓zeg, ↓zee, ↓zeh, ↓zef, ↓zbj, ↓zbf, ↓zbk, ↓zbg, ↓zei, ↓zbd, ↓zbl, ↓zbh, ↓zbm, ↓zbi, ↓zec, ↓zel, ↓zbc, ↓zbo, ↓zdY, ↓zdX, ↓zeb, iN, bT, bF, eN, ↓zcx, ↓unC, ↓zU, ↓zE, ↓zF, ↓zI, ↓zaa, ↓zaE, ↓zco, ↓zZ, ↓zbw, ↓zQ, ↓zl, ↓zm, ↓zbF, ↓zf, ↓zab, ↓zK, ↓zay, ↓zaD, ↓zc, ↓zy, ↓zi, ↓zr, ↓zai, ↓zcz, ↓zcG, ↓zal, ↓zap, ↓zax, ↓zaG, ↓zaN, ↓zj, ↓zad, ↓zG, ↓zq, ↓zX, zcE, zaZ, zaW, unA, zcH, bnd, zdj, zY, zac, zdk, dm, dm1, zJ, zar, zdD, zdC, zT, Q0, Q1, Q2, Q3, Q4, Q5, zS, zg, zp, zu, zC, Q6, Q7, Q8, Q9, Q10, Q11, Q12, Q13, Q14, Nat.reduceAdd, Q15, Int.reduceToNat, Q16, Q17, Q18, Q19, Q20, reduceIte, Q21, Q22, zA, rep, zV, zdZ, toD, zaj, Q23, Q24, Q25, Q26, Q27, Q28, Nat.reduceLeDiff, Q29, Nat.reduceSub, Q30, Q31, Q32, sc, Q33, Q34, Q35, a]; rfl) : P := (e a).mpr h
theorem gq30 {P Q : Prop} (h : Q) (e : P = Q := by simp -dsimp only [↓zem, ↓zas, ↓zbe, ↓zen, ↓zeg, ↓zee, ↓zeh, ↓zef, ↓zbj, ↓zbf, ↓zbk, ↓zbg, ↓zei, ↓zbd, ↓zbl, ↓zbh, ↓zbm, ↓zbi, ↓zec, ↓zel, ↓zbc, ↓zbo, ↓zdY, ↓zdX, ↓zeb, iN, bT, bF, eN, ↓zcx, ↓unC, ↓zU, ↓zE, ↓zF, ↓zI, ↓zaa, ↓zaE, ↓zco, ↓zZ, ↓zbw, ↓zQ, ↓zl, ↓zm, ↓zbF, ↓zf, ↓zab, ↓zK, ↓zay, ↓zaD, ↓zc, ↓zy, ↓zi, ↓zr, ↓zai, ↓zcz, ↓zcG, ↓zal, ↓zap, ↓zax, ↓zaG, ↓zaN, ↓zj, ↓zad, ↓zG, ↓zq, ↓zX, zcE, zaZ, zaW, unA, zcH, bnd, zdj, zY, zac, zdk, dm, dm1, zJ, zar, zdD, zdC, zT, Q0, Q1, Q2, Q3, Q4, Q5, zS, zg, zp, zu, zC, Q6, Q7, Q8, Q9, Q10, Q11, Q12, Q13, Q14, Nat.reduceAdd, Q15, Int.reduceToNat, Q16, Q17, Q18, Q19, Q20, reduceIte, Q21, Q22, zA, rep, zV, zdZ, toD, zaj, Q23, Q24, Q25, Q26, Q27, Q28, Nat.reduceLeDiff, Q29, Nat.reduceSub, Q30, Q31, Q32, sc, Q33, Q34, Q35, Bool.and_false, Bool.and_self, Bool.false_and, Bool.not_false, Bool.not_true, Bool.true_and, Int.toNat_natCast, Int.toNat_zero, List.drop_zero, List.length_map, List.length_nil, List.nil_append, List.take_length, Nat.sub_zero, Nat.zero_add, Option.isSome_none, Option.isSome_some, Option.map_none, Option.map_some, zaq, beq_self_eq_true, bne_self_eq_false]; rfl) : P := e.mpr h
theorem c_opClone {σ : List zb} {o : TOp} (hr : o.recs.length ≤ 1073741824) (hb : ∀ r ∈ o.recs, r.length ≤ 1073741824) {K : AV → List zb → Prop} (hK : K (opA o) σ) : zn Tryz.prog zjB [opA o] σ K := by
  refine zfz e_op_Clone fun hl => ?_
  simp only [znM, iN, bT, bF, eN, zl3, opA]
  (refine gq28 ?_; try with_reducible exact True.intro)
  refine zR o.recs.length (fun j vs q => ∃ l0 T, vs = [if j = 0 then .exact [] else .own (σ.length + 3) (zeu (o.recs.take j)), .d (.int .i64 j)] ∧ q = σ ++ ([.box [.d (.int .i64 o.kind), .d (.str o.topic), .d (.str o.group), .d (.int .i64 o.offset), .d (.slice (zeu o.recs))], .box [.d (.int .i64 0), .d (.str []), .d (.str []), .d (.int .i64 0), .exact []]] ++ (if j = 0 then [] else .tok 1 l0 :: .tok 1 (zeu (o.recs.take j)).length :: T))) ⟨0, [], rfl, rfl⟩ ?_
  rintro j vs q hj ⟨l0, T, rfl, rfl⟩
  by_cases hj0 : j = 0
  · subst hj0
    simp only [if_true]
    (refine gq28 ?_; try with_reducible exact True.intro)
    refine zM (fun h => ?_) (fun h => ?_)
    · have hlt : 0 < o.recs.length := by simp at h; omega
      have hx : o.recs[0]? = some o.recs[0] := by simp [hlt]
      have hbx := hb _ (List.getElem_mem hlt)
      (refine gq29 (gqc2 (show ((0 : Nat) : Int) = 0 from rfl) (zea hx)) ?_; try with_reducible exact True.intro)
      refine ⟨by omega, zcD zdR (by rw [zaq]; omega) ?_⟩
      (refine gq30 ?_; try with_reducible exact True.intro)
      refine ⟨by simp, by simp, by simp, ?_⟩
      refine zbq.next hlt ⟨o.recs[0].length, [], ?_, ?_⟩
      · rw [if_neg (by omega), ← zgU hx]; rfl
      · rw [if_neg (by omega), show (List.take (0 + 1) o.recs).length = 1 by rw [List.length_take]; omega]
    · have hn : o.recs = [] := by simp at h; exact h
      try (refine gq28 ?_; try with_reducible exact True.intro)
      refine zam hl ?_
      rw [opA, hn] at hK
      exact hK
  · simp only [if_neg hj0]
    have hlj : (o.recs.take j).length = j := by rw [List.length_take]; omega
    (refine gq28 ?_; try with_reducible exact True.intro)
    refine zM (fun h => ?_) (fun h => ?_)
    · have hlt : j < o.recs.length := by simp at h; omega
      have hx : o.recs[j]? = some o.recs[j] := by simp [hlt]
      have hbx := hb _ (List.getElem_mem hlt)
      (refine gq29 (zea hx) ?_; try with_reducible exact True.intro)
      refine ⟨by omega, zcD zdR (by rw [zaq]; omega) ?_⟩
      (refine gq30 ?_; try with_reducible exact True.intro)
      refine ⟨by simp, by omega, ?_⟩
      refine zbq.next hlt ⟨l0, T ++ [.tok 1 o.recs[j].length], ?_, ?_⟩
      · rw [if_neg (by omega), ← zgU hx, show (j : Int) + 1 = ((j + 1 : Nat) : Int) by omega, zao (by omega) (by omega)]
      · rw [if_neg (by omega)]
        simp only [zA, List.length_take, zaq, List.cons_append]
        rw [show min j o.recs.length + 1 = min (j + 1) o.recs.length by omega]
    · have hn : j = o.recs.length := by simp at h; omega
      subst hn
      (refine gq30 ?_; try with_reducible exact True.intro)
      refine zam hl ?_
      exact hK

end Go.Proofs.YtjjchfbckfopkaaGreat

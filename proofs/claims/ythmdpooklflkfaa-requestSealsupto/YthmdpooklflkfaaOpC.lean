/- Contracts: an operation in memory of its own. -/
import Derived.Test.YthmdpooklflkfaaCl1
import Derived.Test.YthmdpooklflkfaaSpNum
set_option linter.all false
set_option maxRecDepth 100000
set_option linter.unusedSimpArgs false
namespace Go.Proofs.Ythmdpooklflkfaa
open Go.AW

theorem zeK {rs : List (List UInt8)} {k : Nat} {x : List UInt8} (h : rs[k]? = some x) : recsE (rs.take k) ++ [[D.slice (bcs x)]] = recsE (rs.take (k + 1)) := by
  rw [List.take_add_one, h]; simp [recsE]
theorem c_opClone {σ : List AObj} {o : TOp} (hr : o.recs.length ≤ 1073741824) (hb : ∀ r ∈ o.recs, r.length ≤ 1073741824) {K : AV → List AObj → Prop} (hK : K (opA o) σ) : ACall Try.prog zhA [opA o] σ K := by
  refine zU isA_op_Clone rfl fun hl _ => s_op_Clone ?_
  simp only [zkQ, opA]
  simp -dsimp only [↓zM, ↓loopL, ↓binC, ↓unC, ↓zr, ↓zj, ↓zk, ↓zl, ↓zu, ↓lenC, ↓slcC, ↓convC, ↓boxC, ↓zC, ↓loadC, ↓zx, ↓nilC, ↓zm, ↓zG, ↓zy, ↓idxSC, ↓idxAC, ↓zd, ↓zA, ↓zf, ↓zo, ↓zJ, ↓maxC, ↓minC, ↓zK, ↓zL, ↓mgetC, ↓msetC, ↓mdelC, ↓zb, ↓zH, ↓zi, ↓zc, ↓zt, binA, intOp, strOp, unA, esOf, bnd, intV, zF, fillV, srcE, dm, dm1, consO, cellA, maxL, minL, keepO, Q0, Q1, Q2, Q3, Q4, Q5, zw, zp, zg, zq, zh, Q6, Q7, Q8, Q9, Q10, Q11, Q12, Q13, Q14, Nat.reduceAdd, Q15, Int.reduceToNat, Q16, Q17, Q18, Q19, Q20, reduceIte, Q21, Q22, ze, rep, zN, toDs, toD, zO, Q23, Q24, Q25, Q26, Q27, Q28, Nat.reduceLeDiff, Q29, Nat.reduceSub, Q30, Q31, Q32, sc, Q33, Q34, Q35]
  refine zac o.recs.length (fun j vs q => ∃ l0 T, vs = [if j = 0 then .exact [] else .own (σ.length + 3) (recsE (o.recs.take j)), .d (.int .i64 j)] ∧ q = σ ++ ([.box [.d (.int .i64 o.kind), .d (.str o.topic), .d (.str o.group), .d (.int .i64 o.offset), .d (.slice (recsE o.recs))], .box [.d (.int .i64 0), .d (.str []), .d (.str []), .d (.int .i64 0), .exact []]] ++ (if j = 0 then [] else .tok 1 l0 :: .tok 1 (recsE (o.recs.take j)).length :: T))) ⟨0, [], rfl, rfl⟩ ?_
  rintro j vs q hj ⟨l0, T, rfl, rfl⟩
  by_cases hj0 : j = 0
  · subst hj0
    simp only [if_true]
    simp -dsimp only [↓zM, ↓loopL, ↓binC, ↓unC, ↓zr, ↓zj, ↓zk, ↓zl, ↓zu, ↓lenC, ↓slcC, ↓convC, ↓boxC, ↓zC, ↓loadC, ↓zx, ↓nilC, ↓zm, ↓zG, ↓zy, ↓idxSC, ↓idxAC, ↓zd, ↓zA, ↓zf, ↓zo, ↓zJ, ↓maxC, ↓minC, ↓zK, ↓zL, ↓mgetC, ↓msetC, ↓mdelC, ↓zb, ↓zH, ↓zi, ↓zc, ↓zt, binA, intOp, strOp, unA, esOf, bnd, intV, zF, fillV, srcE, dm, dm1, consO, cellA, maxL, minL, keepO, Q0, Q1, Q2, Q3, Q4, Q5, zw, zp, zg, zq, zh, Q6, Q7, Q8, Q9, Q10, Q11, Q12, Q13, Q14, Nat.reduceAdd, Q15, Int.reduceToNat, Q16, Q17, Q18, Q19, Q20, reduceIte, Q21, Q22, ze, rep, zN, toDs, toD, zO, Q23, Q24, Q25, Q26, Q27, Q28, Nat.reduceLeDiff, Q29, Nat.reduceSub, Q30, Q31, Q32, sc, Q33, Q34, Q35]
    refine zY (fun h => ?_) (fun h => ?_)
    · have hlt : 0 < o.recs.length := by simp at h; omega
      have hx : o.recs[0]? = some o.recs[0] := by simp [hlt]
      have hbx := hb _ (List.getElem_mem hlt)
      simp -dsimp only [↓zM, ↓loopL, ↓binC, ↓unC, ↓zr, ↓zj, ↓zk, ↓zl, ↓zu, ↓lenC, ↓slcC, ↓convC, ↓boxC, ↓zC, ↓loadC, ↓zx, ↓nilC, ↓zm, ↓zG, ↓zy, ↓idxSC, ↓idxAC, ↓zd, ↓zA, ↓zf, ↓zo, ↓zJ, ↓maxC, ↓minC, ↓zK, ↓zL, ↓mgetC, ↓msetC, ↓mdelC, ↓zb, ↓zH, ↓zi, ↓zc, ↓zt, binA, intOp, strOp, unA, esOf, bnd, intV, zF, fillV, srcE, dm, dm1, consO, cellA, maxL, minL, keepO, Q0, Q1, Q2, Q3, Q4, Q5, zw, zp, zg, zq, zh, Q6, Q7, Q8, Q9, Q10, Q11, Q12, Q13, Q14, Nat.reduceAdd, Q15, Int.reduceToNat, Q16, Q17, Q18, Q19, Q20, reduceIte, Q21, Q22, ze, rep, zN, toDs, toD, zO, Q23, Q24, Q25, Q26, Q27, Q28, Nat.reduceLeDiff, Q29, Nat.reduceSub, Q30, Q31, Q32, sc, Q33, Q34, Q35, show ((0 : Nat) : Int) = 0 from rfl, zbJ hx]
      refine ⟨by omega, zby zcx (by rw [zbk]; omega) ?_⟩
      simp -dsimp only [↓zM, ↓loopL, ↓binC, ↓unC, ↓zr, ↓zj, ↓zk, ↓zl, ↓zu, ↓lenC, ↓slcC, ↓convC, ↓boxC, ↓zC, ↓loadC, ↓zx, ↓nilC, ↓zm, ↓zG, ↓zy, ↓idxSC, ↓idxAC, ↓zd, ↓zA, ↓zf, ↓zo, ↓zJ, ↓maxC, ↓minC, ↓zK, ↓zL, ↓mgetC, ↓msetC, ↓mdelC, ↓zb, ↓zH, ↓zi, ↓zc, ↓zt, binA, intOp, strOp, unA, esOf, bnd, intV, zF, fillV, srcE, dm, dm1, consO, cellA, maxL, minL, keepO, Q0, Q1, Q2, Q3, Q4, Q5, zw, zp, zg, zq, zh, Q6, Q7, Q8, Q9, Q10, Q11, Q12, Q13, Q14, Nat.reduceAdd, Q15, Int.reduceToNat, Q16, Q17, Q18, Q19, Q20, reduceIte, Q21, Q22, ze, rep, zN, toDs, toD, zO, Q23, Q24, Q25, Q26, Q27, Q28, Nat.reduceLeDiff, Q29, Nat.reduceSub, Q30, Q31, Q32, sc, Q33, Q34, Q35, zbk]
      refine ⟨by simp, by simp, by simp, ?_⟩
      refine Again.next hlt ⟨o.recs[0].length, [], ?_, ?_⟩
      · rw [if_neg (by omega), ← zeK hx]; rfl
      · rw [if_neg (by omega), show (List.take (0 + 1) o.recs).length = 1 by rw [List.length_take]; omega]
    · have hn : o.recs = [] := by simp at h; exact h
      try simp -dsimp only [↓zM, ↓loopL, ↓binC, ↓unC, ↓zr, ↓zj, ↓zk, ↓zl, ↓zu, ↓lenC, ↓slcC, ↓convC, ↓boxC, ↓zC, ↓loadC, ↓zx, ↓nilC, ↓zm, ↓zG, ↓zy, ↓idxSC, ↓idxAC, ↓zd, ↓zA, ↓zf, ↓zo, ↓zJ, ↓maxC, ↓minC, ↓zK, ↓zL, ↓mgetC, ↓msetC, ↓mdelC, ↓zb, ↓zH, ↓zi, ↓zc, ↓zt, binA, intOp, strOp, unA, esOf, bnd, intV, zF, fillV, srcE, dm, dm1, consO, cellA, maxL, minL, keepO, Q0, Q1, Q2, Q3, Q4, Q5, zw, zp, zg, zq, zh, Q6, Q7, Q8, Q9, Q10, Q11, Q12, Q13, Q14, Nat.reduceAdd, Q15, Int.reduceToNat, Q16, Q17, Q18, Q19, Q20, reduceIte, Q21, Q22, ze, rep, zN, toDs, toD, zO, Q23, Q24, Q25, Q26, Q27, Q28, Nat.reduceLeDiff, Q29, Nat.reduceSub, Q30, Q31, Q32, sc, Q33, Q34, Q35]
      (first | refine zP (by simp [Low_d, dmT, dm, dm1, pack, zB, zD, zn]) hl ?_ | refine zE (by simp [Low_d, dmT, dm, dm1, pack, zB, zD, zn]) hl ?_)
      rw [opA, hn] at hK
      exact hK
  · simp only [if_neg hj0]
    have hlj : (o.recs.take j).length = j := by rw [List.length_take]; omega
    simp -dsimp only [↓zM, ↓loopL, ↓binC, ↓unC, ↓zr, ↓zj, ↓zk, ↓zl, ↓zu, ↓lenC, ↓slcC, ↓convC, ↓boxC, ↓zC, ↓loadC, ↓zx, ↓nilC, ↓zm, ↓zG, ↓zy, ↓idxSC, ↓idxAC, ↓zd, ↓zA, ↓zf, ↓zo, ↓zJ, ↓maxC, ↓minC, ↓zK, ↓zL, ↓mgetC, ↓msetC, ↓mdelC, ↓zb, ↓zH, ↓zi, ↓zc, ↓zt, binA, intOp, strOp, unA, esOf, bnd, intV, zF, fillV, srcE, dm, dm1, consO, cellA, maxL, minL, keepO, Q0, Q1, Q2, Q3, Q4, Q5, zw, zp, zg, zq, zh, Q6, Q7, Q8, Q9, Q10, Q11, Q12, Q13, Q14, Nat.reduceAdd, Q15, Int.reduceToNat, Q16, Q17, Q18, Q19, Q20, reduceIte, Q21, Q22, ze, rep, zN, toDs, toD, zO, Q23, Q24, Q25, Q26, Q27, Q28, Nat.reduceLeDiff, Q29, Nat.reduceSub, Q30, Q31, Q32, sc, Q33, Q34, Q35]
    refine zY (fun h => ?_) (fun h => ?_)
    · have hlt : j < o.recs.length := by simp at h; omega
      have hx : o.recs[j]? = some o.recs[j] := by simp [hlt]
      have hbx := hb _ (List.getElem_mem hlt)
      simp -dsimp only [↓zM, ↓loopL, ↓binC, ↓unC, ↓zr, ↓zj, ↓zk, ↓zl, ↓zu, ↓lenC, ↓slcC, ↓convC, ↓boxC, ↓zC, ↓loadC, ↓zx, ↓nilC, ↓zm, ↓zG, ↓zy, ↓idxSC, ↓idxAC, ↓zd, ↓zA, ↓zf, ↓zo, ↓zJ, ↓maxC, ↓minC, ↓zK, ↓zL, ↓mgetC, ↓msetC, ↓mdelC, ↓zb, ↓zH, ↓zi, ↓zc, ↓zt, binA, intOp, strOp, unA, esOf, bnd, intV, zF, fillV, srcE, dm, dm1, consO, cellA, maxL, minL, keepO, Q0, Q1, Q2, Q3, Q4, Q5, zw, zp, zg, zq, zh, Q6, Q7, Q8, Q9, Q10, Q11, Q12, Q13, Q14, Nat.reduceAdd, Q15, Int.reduceToNat, Q16, Q17, Q18, Q19, Q20, reduceIte, Q21, Q22, ze, rep, zN, toDs, toD, zO, Q23, Q24, Q25, Q26, Q27, Q28, Nat.reduceLeDiff, Q29, Nat.reduceSub, Q30, Q31, Q32, sc, Q33, Q34, Q35, zbJ hx]
      refine ⟨by omega, zby zcx (by rw [zbk]; omega) ?_⟩
      simp -dsimp only [↓zM, ↓loopL, ↓binC, ↓unC, ↓zr, ↓zj, ↓zk, ↓zl, ↓zu, ↓lenC, ↓slcC, ↓convC, ↓boxC, ↓zC, ↓loadC, ↓zx, ↓nilC, ↓zm, ↓zG, ↓zy, ↓idxSC, ↓idxAC, ↓zd, ↓zA, ↓zf, ↓zo, ↓zJ, ↓maxC, ↓minC, ↓zK, ↓zL, ↓mgetC, ↓msetC, ↓mdelC, ↓zb, ↓zH, ↓zi, ↓zc, ↓zt, binA, intOp, strOp, unA, esOf, bnd, intV, zF, fillV, srcE, dm, dm1, consO, cellA, maxL, minL, keepO, Q0, Q1, Q2, Q3, Q4, Q5, zw, zp, zg, zq, zh, Q6, Q7, Q8, Q9, Q10, Q11, Q12, Q13, Q14, Nat.reduceAdd, Q15, Int.reduceToNat, Q16, Q17, Q18, Q19, Q20, reduceIte, Q21, Q22, ze, rep, zN, toDs, toD, zO, Q23, Q24, Q25, Q26, Q27, Q28, Nat.reduceLeDiff, Q29, Nat.reduceSub, Q30, Q31, Q32, sc, Q33, Q34, Q35, zbk]
      refine ⟨by simp, by omega, ?_⟩
      refine Again.next hlt ⟨l0, T ++ [.tok 1 o.recs[j].length], ?_, ?_⟩
      · rw [if_neg (by omega), ← zeK hx, show (j : Int) + 1 = ((j + 1 : Nat) : Int) by omega, zaI (by omega) (by omega)]
      · rw [if_neg (by omega)]
        simp only [ze, List.length_take, zbk, List.cons_append]
        rw [show min j o.recs.length + 1 = min (j + 1) o.recs.length by omega]
    · have hn : j = o.recs.length := by simp at h; omega
      subst hn
      simp -dsimp only [↓zM, ↓loopL, ↓binC, ↓unC, ↓zr, ↓zj, ↓zk, ↓zl, ↓zu, ↓lenC, ↓slcC, ↓convC, ↓boxC, ↓zC, ↓loadC, ↓zx, ↓nilC, ↓zm, ↓zG, ↓zy, ↓idxSC, ↓idxAC, ↓zd, ↓zA, ↓zf, ↓zo, ↓zJ, ↓maxC, ↓minC, ↓zK, ↓zL, ↓mgetC, ↓msetC, ↓mdelC, ↓zb, ↓zH, ↓zi, ↓zc, ↓zt, binA, intOp, strOp, unA, esOf, bnd, intV, zF, fillV, srcE, dm, dm1, consO, cellA, maxL, minL, keepO, Q0, Q1, Q2, Q3, Q4, Q5, zw, zp, zg, zq, zh, Q6, Q7, Q8, Q9, Q10, Q11, Q12, Q13, Q14, Nat.reduceAdd, Q15, Int.reduceToNat, Q16, Q17, Q18, Q19, Q20, reduceIte, Q21, Q22, ze, rep, zN, toDs, toD, zO, Q23, Q24, Q25, Q26, Q27, Q28, Nat.reduceLeDiff, Q29, Nat.reduceSub, Q30, Q31, Q32, sc, Q33, Q34, Q35, List.take_length]
      (first | refine zP (by simp [Low_d, dmT, dm, dm1, pack, zB, zD, zn]) hl ?_ | refine zE (by simp [Low_d, dmT, dm, dm1, pack, zB, zD, zn]) hl ?_)
      exact hK
end Go.Proofs.Ythmdpooklflkfaa

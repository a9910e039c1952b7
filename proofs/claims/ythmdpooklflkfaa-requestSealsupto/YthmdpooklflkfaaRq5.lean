/- Contracts: what the document says of sealed requests. -/
import Derived.Test.YthmdpooklflkfaaRq4
set_option linter.all false
set_option maxRecDepth 100000
set_option linter.unusedSimpArgs false
set_option linter.unusedVariables false
namespace Go.Proofs.Ythmdpooklflkfaa
open Go.AW

theorem c_rqrKey {σ : List AObj} {c : Int} {K : AV → List AObj → Prop} (hK : K (.d (.int .i64 (keyF c))) σ) : ACall Try.prog zdN [.d (.int .i64 c)] σ K := c_rKey hK
theorem c_rqrSeal {σ : List AObj} {id id2 : Nat} {L : List (List UInt8)} {G : List TSign} {x : zR} (hT : σ[id]? = some (rtO L)) (hG : σ[id2]? = some (rlO G)) (h1 : id ≠ id2) (hL : TabI L) (hGl : G.length ≤ 1073741824)
    (hx : opSz x.op ≤ 20971520) {K : AV → List AObj → Prop}
    (hK : K (.tup [zbC (sealS L x), .d (.int .i64 (sealE L x))]) ((σ.set id (rtO (sealL L x))).set id2 (rlO (sealG L G x)))) : ACall Try.prog zhu [.box id 0, .box id2 0, reqA x] σ K := by
  refine zU isA_r08_Seal rfl fun hl _ => s_r08_Seal ?_
  have hsz := sizes hx
  simp only [zkJ, reqA]
  (repeat' (first | simp -dsimp only [↓zM, ↓loopL, ↓binC, ↓unC, ↓zr, ↓zj, ↓zk, ↓zl, ↓zu, ↓lenC, ↓slcC, ↓convC, ↓boxC, ↓zC, ↓loadC, ↓zx, ↓nilC, ↓zm, ↓zG, ↓zy, ↓idxSC, ↓idxAC, ↓zd, ↓zA, ↓zf, ↓zo, ↓zJ, ↓maxC, ↓minC, ↓zK, ↓zL, ↓mgetC, ↓msetC, ↓mdelC, ↓zb, ↓zH, ↓zi, ↓zc, ↓zt, binA, intOp, strOp, unA, esOf, bnd, intV, zF, fillV, srcE, dm, dm1, consO, cellA, maxL, minL, keepO, Q0, Q1, Q2, Q3, Q4, Q5, zw, zp, zg, zq, zh, Q6, Q7, Q8, Q9, Q10, Q11, Q12, Q13, Q14, Nat.reduceAdd, Q15, Int.reduceToNat, Q16, Q17, Q18, Q19, Q20, reduceIte, Q21, Q22, ze, rep, zN, toDs, toD, zO, Q23, Q24, Q25, Q26, Q27, Q28, Nat.reduceLeDiff, Q29, Nat.reduceSub, Q30, Q31, Q32, sc, Q33, Q34, Q35, Q36, Q37, Q26, Q38, Q39, n0gt, n1gt, n2gt, n0eq, n1eq0, n1eq, n2eq, n0ne, n1ne, n1ne0, n0ne1, i0ne, i0eq, Bool.not_true, Bool.not_false, List.length_map] | ((with_reducible refine And.intro ?_ ?_); focus (first | omega | rfl | decide | (simp; done)))))
  refine zhP (x := x) hx ?_
  by_cases hc : zT x = 0
  · have hb : (zT x != 0) = false := by simpa using hc
    have hrl := zgI (x := x) (by omega) hc
    (repeat' (first | simp -dsimp only [↓zM, ↓loopL, ↓binC, ↓unC, ↓zr, ↓zj, ↓zk, ↓zl, ↓zu, ↓lenC, ↓slcC, ↓convC, ↓boxC, ↓zC, ↓loadC, ↓zx, ↓nilC, ↓zm, ↓zG, ↓zy, ↓idxSC, ↓idxAC, ↓zd, ↓zA, ↓zf, ↓zo, ↓zJ, ↓maxC, ↓minC, ↓zK, ↓zL, ↓mgetC, ↓msetC, ↓mdelC, ↓zb, ↓zH, ↓zi, ↓zc, ↓zt, binA, intOp, strOp, unA, esOf, bnd, intV, zF, fillV, srcE, dm, dm1, consO, cellA, maxL, minL, keepO, Q0, Q1, Q2, Q3, Q4, Q5, zw, zp, zg, zq, zh, Q6, Q7, Q8, Q9, Q10, Q11, Q12, Q13, Q14, Nat.reduceAdd, Q15, Int.reduceToNat, Q16, Q17, Q18, Q19, Q20, reduceIte, Q21, Q22, ze, rep, zN, toDs, toD, zO, Q23, Q24, Q25, Q26, Q27, Q28, Nat.reduceLeDiff, Q29, Nat.reduceSub, Q30, Q31, Q32, sc, Q33, Q34, Q35, Q36, Q37, Q26, Q38, Q39, n0gt, n1gt, n2gt, n0eq, n1eq0, n1eq, n2eq, n0ne, n1ne, n1ne0, n0ne1, i0ne, i0eq, Bool.not_true, Bool.not_false, List.length_map, hb] | ((with_reducible refine And.intro ?_ ?_); focus (first | omega | rfl | decide | (simp; done)))))
    refine c_rqrKey ?_
    rw [show zaJ x = reqB x from if_pos hc]
    (repeat' (first | simp -dsimp only [↓zM, ↓loopL, ↓binC, ↓unC, ↓zr, ↓zj, ↓zk, ↓zl, ↓zu, ↓lenC, ↓slcC, ↓convC, ↓boxC, ↓zC, ↓loadC, ↓zx, ↓nilC, ↓zm, ↓zG, ↓zy, ↓idxSC, ↓idxAC, ↓zd, ↓zA, ↓zf, ↓zo, ↓zJ, ↓maxC, ↓minC, ↓zK, ↓zL, ↓mgetC, ↓msetC, ↓mdelC, ↓zb, ↓zH, ↓zi, ↓zc, ↓zt, binA, intOp, strOp, unA, esOf, bnd, intV, zF, fillV, srcE, dm, dm1, consO, cellA, maxL, minL, keepO, Q0, Q1, Q2, Q3, Q4, Q5, zw, zp, zg, zq, zh, Q6, Q7, Q8, Q9, Q10, Q11, Q12, Q13, Q14, Nat.reduceAdd, Q15, Int.reduceToNat, Q16, Q17, Q18, Q19, Q20, reduceIte, Q21, Q22, ze, rep, zN, toDs, toD, zO, Q23, Q24, Q25, Q26, Q27, Q28, Nat.reduceLeDiff, Q29, Nat.reduceSub, Q30, Q31, Q32, sc, Q33, Q34, Q35, Q36, Q37, Q26, Q38, Q39, n0gt, n1gt, n2gt, n0eq, n1eq0, n1eq, n2eq, n0ne, n1ne, n1ne0, n0ne1, i0ne, i0eq, Bool.not_true, Bool.not_false, List.length_map] | ((with_reducible refine And.intro ?_ ?_); focus (first | omega | rfl | decide | (simp; done)))))
    refine c_rtSum (zae hT) (by omega) hL.len ?_
    rw [zbo hT]
    simp only [sealL, sealG, hc, ne_eq, not_true_eq_false, if_false] at hK
    have e1 : sealE L x = signF (keyF x.client) (sumN L (reqB x)) := by rw [sealE, if_neg (by simpa using hc)]
    rw [e1] at hK
    have hl1 : Lows σ.length (σ.set id (rtO (sumL L (reqB x)))) := hl.setO (rtO_low _ _)
    have hs1 : (σ.set id (rtO (sumL L (reqB x)))).length = σ.length := by simp
    have hG1 : (σ.set id (rtO (sumL L (reqB x))))[id2]? = some (rlO G) := by rw [List.getElem?_set_ne h1]; exact hG
    obtain ⟨S1, hS1⟩ : ∃ S1, σ.set id (rtO (sumL L (reqB x))) = S1 := ⟨_, rfl⟩
    rw [hS1] at hK hG1 hs1 hl1 ⊢
    have r1 : σ.length = S1.length := hs1.symm
    (repeat' (first | simp -dsimp only [↓zM, ↓loopL, ↓binC, ↓unC, ↓zr, ↓zj, ↓zk, ↓zl, ↓zu, ↓lenC, ↓slcC, ↓convC, ↓boxC, ↓zC, ↓loadC, ↓zx, ↓nilC, ↓zm, ↓zG, ↓zy, ↓idxSC, ↓idxAC, ↓zd, ↓zA, ↓zf, ↓zo, ↓zJ, ↓maxC, ↓minC, ↓zK, ↓zL, ↓mgetC, ↓msetC, ↓mdelC, ↓zb, ↓zH, ↓zi, ↓zc, ↓zt, binA, intOp, strOp, unA, esOf, bnd, intV, zF, fillV, srcE, dm, dm1, consO, cellA, maxL, minL, keepO, Q0, Q1, Q2, Q3, Q4, Q5, zw, zp, zg, zq, zh, Q6, Q7, Q8, Q9, Q10, Q11, Q12, Q13, Q14, Nat.reduceAdd, Q15, Int.reduceToNat, Q16, Q17, Q18, Q19, Q20, reduceIte, Q21, Q22, ze, rep, zN, toDs, toD, zO, Q23, Q24, Q25, Q26, Q27, Q28, Nat.reduceLeDiff, Q29, Nat.reduceSub, Q30, Q31, Q32, sc, Q33, Q34, Q35, Q36, Q37, Q26, Q38, Q39, n0gt, n1gt, n2gt, n0eq, n1eq0, n1eq, n2eq, n0ne, n1ne, n1ne0, n0ne1, i0ne, i0eq, Bool.not_true, Bool.not_false, List.length_map, r1] | ((with_reducible refine And.intro ?_ ?_); focus (first | omega | rfl | decide | (simp; done)))))
    refine c_rgSign (zae hG1) hGl ?_
    rw [zbo hG1]
    obtain ⟨N, hN⟩ : ∃ N, signF (keyF x.client) (sumN L (reqB x)) = N := ⟨_, rfl⟩
    have hl2 : Lows σ.length (S1.set id2 (rlO (signG G (keyF x.client) (sumN L (reqB x))))) := hl1.setO (rlO_low _ _)
    have hs2 : (S1.set id2 (rlO (signG G (keyF x.client) (sumN L (reqB x))))).length = S1.length := by simp
    obtain ⟨S2, hS2⟩ : ∃ S2, S1.set id2 (rlO (signG G (keyF x.client) (sumN L (reqB x)))) = S2 := ⟨_, rfl⟩
    rw [hS2] at hK hs2 hl2 ⊢
    have r2 : σ.length = S2.length := by rw [r1]; exact hs2.symm
    have r3 : S1.length = S2.length := hs2.symm
    rw [r2] at hl2
    rw [hN] at hK ⊢
    simp only [signA]
    by_cases hN0 : N = 0
    · have hq : (N != 0) = false := by simpa using hN0
      have e2 : sealS L x = ⟨x.client, x.time, x.op, keyF x.client, sumN L (reqB x)⟩ := by rw [sealS, if_pos (by rw [e1, hN, hN0])]
      have e3 : signR (keyF x.client) (sumN L (reqB x)) = ⟨keyF x.client, sumN L (reqB x)⟩ := by rw [signR, if_pos (by rw [hN, hN0])]
      rw [e2] at hK
      rw [e3]
      (repeat' (first | simp -dsimp only [↓zM, ↓loopL, ↓binC, ↓unC, ↓zr, ↓zj, ↓zk, ↓zl, ↓zu, ↓lenC, ↓slcC, ↓convC, ↓boxC, ↓zC, ↓loadC, ↓zx, ↓nilC, ↓zm, ↓zG, ↓zy, ↓idxSC, ↓idxAC, ↓zd, ↓zA, ↓zf, ↓zo, ↓zJ, ↓maxC, ↓minC, ↓zK, ↓zL, ↓mgetC, ↓msetC, ↓mdelC, ↓zb, ↓zH, ↓zi, ↓zc, ↓zt, binA, intOp, strOp, unA, esOf, bnd, intV, zF, fillV, srcE, dm, dm1, consO, cellA, maxL, minL, keepO, Q0, Q1, Q2, Q3, Q4, Q5, zw, zp, zg, zq, zh, Q6, Q7, Q8, Q9, Q10, Q11, Q12, Q13, Q14, Nat.reduceAdd, Q15, Int.reduceToNat, Q16, Q17, Q18, Q19, Q20, reduceIte, Q21, Q22, ze, rep, zN, toDs, toD, zO, Q23, Q24, Q25, Q26, Q27, Q28, Nat.reduceLeDiff, Q29, Nat.reduceSub, Q30, Q31, Q32, sc, Q33, Q34, Q35, Q36, Q37, Q26, Q38, Q39, n0gt, n1gt, n2gt, n0eq, n1eq0, n1eq, n2eq, n0ne, n1ne, n1ne0, n0ne1, i0ne, i0eq, Bool.not_true, Bool.not_false, List.length_map, hq, r2, r3] | ((with_reducible refine And.intro ?_ ?_); focus (first | omega | rfl | decide | (simp; done)))))
      rw [hN0] at hK
      refine zeo rfl ?_ hl2 ?_
      · simp [Low_d, dmT, dm, dm1, pack, zB, zD]
      · exact hK
    · have hq : (N != 0) = true := by simpa using hN0
      have e2 : sealS L x = noSg := by rw [sealS, if_neg (by rw [e1, hN]; exact hN0)]
      rw [e2] at hK
      rw [show signR (keyF x.client) (sumN L (reqB x)) = ⟨0, 0⟩ from by rw [signR, if_neg (by rw [hN]; exact hN0)]]
      (repeat' (first | simp -dsimp only [↓zM, ↓loopL, ↓binC, ↓unC, ↓zr, ↓zj, ↓zk, ↓zl, ↓zu, ↓lenC, ↓slcC, ↓convC, ↓boxC, ↓zC, ↓loadC, ↓zx, ↓nilC, ↓zm, ↓zG, ↓zy, ↓idxSC, ↓idxAC, ↓zd, ↓zA, ↓zf, ↓zo, ↓zJ, ↓maxC, ↓minC, ↓zK, ↓zL, ↓mgetC, ↓msetC, ↓mdelC, ↓zb, ↓zH, ↓zi, ↓zc, ↓zt, binA, intOp, strOp, unA, esOf, bnd, intV, zF, fillV, srcE, dm, dm1, consO, cellA, maxL, minL, keepO, Q0, Q1, Q2, Q3, Q4, Q5, zw, zp, zg, zq, zh, Q6, Q7, Q8, Q9, Q10, Q11, Q12, Q13, Q14, Nat.reduceAdd, Q15, Int.reduceToNat, Q16, Q17, Q18, Q19, Q20, reduceIte, Q21, Q22, ze, rep, zN, toDs, toD, zO, Q23, Q24, Q25, Q26, Q27, Q28, Nat.reduceLeDiff, Q29, Nat.reduceSub, Q30, Q31, Q32, sc, Q33, Q34, Q35, Q36, Q37, Q26, Q38, Q39, n0gt, n1gt, n2gt, n0eq, n1eq0, n1eq, n2eq, n0ne, n1ne, n1ne0, n0ne1, i0ne, i0eq, Bool.not_true, Bool.not_false, List.length_map, hq, r2, r3] | ((with_reducible refine And.intro ?_ ?_); focus (first | omega | rfl | decide | (simp; done)))))
      refine zeo rfl ?_ hl2 ?_
      · simp [Low_d, dmT, dm, dm1, pack, zB, zD]
      · exact hK
  · have hb : (zT x != 0) = true := by simpa using hc
    have e1 : sealE L x = zT x := if_pos hc
    have e2 : sealS L x = noSg := by rw [sealS, if_neg (by rw [e1]; exact hc)]
    rw [e1, e2, sealL, sealG, if_pos hc, if_pos hc, zbw hT, zbw hG] at hK
    (repeat' (first | simp -dsimp only [↓zM, ↓loopL, ↓binC, ↓unC, ↓zr, ↓zj, ↓zk, ↓zl, ↓zu, ↓lenC, ↓slcC, ↓convC, ↓boxC, ↓zC, ↓loadC, ↓zx, ↓nilC, ↓zm, ↓zG, ↓zy, ↓idxSC, ↓idxAC, ↓zd, ↓zA, ↓zf, ↓zo, ↓zJ, ↓maxC, ↓minC, ↓zK, ↓zL, ↓mgetC, ↓msetC, ↓mdelC, ↓zb, ↓zH, ↓zi, ↓zc, ↓zt, binA, intOp, strOp, unA, esOf, bnd, intV, zF, fillV, srcE, dm, dm1, consO, cellA, maxL, minL, keepO, Q0, Q1, Q2, Q3, Q4, Q5, zw, zp, zg, zq, zh, Q6, Q7, Q8, Q9, Q10, Q11, Q12, Q13, Q14, Nat.reduceAdd, Q15, Int.reduceToNat, Q16, Q17, Q18, Q19, Q20, reduceIte, Q21, Q22, ze, rep, zN, toDs, toD, zO, Q23, Q24, Q25, Q26, Q27, Q28, Nat.reduceLeDiff, Q29, Nat.reduceSub, Q30, Q31, Q32, sc, Q33, Q34, Q35, Q36, Q37, Q26, Q38, Q39, n0gt, n1gt, n2gt, n0eq, n1eq0, n1eq, n2eq, n0ne, n1ne, n1ne0, n0ne1, i0ne, i0eq, Bool.not_true, Bool.not_false, List.length_map, hb] | ((with_reducible refine And.intro ?_ ?_); focus (first | omega | rfl | decide | (simp; done)))))
    (first | refine zP (by simp [Low_d, dmT, dm, dm1, pack, zB, zD, zn]) hl ?_ | refine zE (by simp [Low_d, dmT, dm, dm1, pack, zB, zD, zn]) hl ?_)
    exact hK
theorem zhO {σ : List AObj} {id id2 : Nat} {L : List (List UInt8)} {G : List TSign} {s : zR} (hT : σ[id]? = some (rtO L)) (hG : σ[id2]? = some (rlO G)) (hL : TabI L) (hGl : G.length ≤ 1073741824)
    (hx : opSz s.op ≤ 20971520) {K : AV → List AObj → Prop} (hK : K (.d (.bool (zbz L G s))) σ) : ACall Try.prog zef [.box id 0, .box id2 0, zbC s] σ K := by
  refine zU zlh rfl fun hl _ => s_r08_Valid ?_
  have fin : ∀ z, zbz L G s = z → K (.d (.bool z)) σ := fun z h => h ▸ hK
  clear hK
  simp only [zjB, zbC]
  (repeat' (first | simp -dsimp only [↓zM, ↓loopL, ↓binC, ↓unC, ↓zr, ↓zj, ↓zk, ↓zl, ↓zu, ↓lenC, ↓slcC, ↓convC, ↓boxC, ↓zC, ↓loadC, ↓zx, ↓nilC, ↓zm, ↓zG, ↓zy, ↓idxSC, ↓idxAC, ↓zd, ↓zA, ↓zf, ↓zo, ↓zJ, ↓maxC, ↓minC, ↓zK, ↓zL, ↓mgetC, ↓msetC, ↓mdelC, ↓zb, ↓zH, ↓zi, ↓zc, ↓zt, binA, intOp, strOp, unA, esOf, bnd, intV, zF, fillV, srcE, dm, dm1, consO, cellA, maxL, minL, keepO, Q0, Q1, Q2, Q3, Q4, Q5, zw, zp, zg, zq, zh, Q6, Q7, Q8, Q9, Q10, Q11, Q12, Q13, Q14, Nat.reduceAdd, Q15, Int.reduceToNat, Q16, Q17, Q18, Q19, Q20, reduceIte, Q21, Q22, ze, rep, zN, toDs, toD, zO, Q23, Q24, Q25, Q26, Q27, Q28, Nat.reduceLeDiff, Q29, Nat.reduceSub, Q30, Q31, Q32, sc, Q33, Q34, Q35, Q36, Q37, Q26, Q38, Q39, n0gt, n1gt, n2gt, n0eq, n1eq0, n1eq, n2eq, n0ne, n1ne, n1ne0, n0ne1, i0ne, i0eq, Bool.not_true, Bool.not_false, List.length_map] | ((with_reducible refine And.intro ?_ ?_); focus (first | omega | rfl | decide | (simp; done)))))
  refine zhP (x := s) hx ?_
  by_cases hc : zT s = 0
  · have hb : (zT s != 0) = false := by simpa using hc
    rw [show zaJ s = reqB s from if_pos hc]
    (repeat' (first | simp -dsimp only [↓zM, ↓loopL, ↓binC, ↓unC, ↓zr, ↓zj, ↓zk, ↓zl, ↓zu, ↓lenC, ↓slcC, ↓convC, ↓boxC, ↓zC, ↓loadC, ↓zx, ↓nilC, ↓zm, ↓zG, ↓zy, ↓idxSC, ↓idxAC, ↓zd, ↓zA, ↓zf, ↓zo, ↓zJ, ↓maxC, ↓minC, ↓zK, ↓zL, ↓mgetC, ↓msetC, ↓mdelC, ↓zb, ↓zH, ↓zi, ↓zc, ↓zt, binA, intOp, strOp, unA, esOf, bnd, intV, zF, fillV, srcE, dm, dm1, consO, cellA, maxL, minL, keepO, Q0, Q1, Q2, Q3, Q4, Q5, zw, zp, zg, zq, zh, Q6, Q7, Q8, Q9, Q10, Q11, Q12, Q13, Q14, Nat.reduceAdd, Q15, Int.reduceToNat, Q16, Q17, Q18, Q19, Q20, reduceIte, Q21, Q22, ze, rep, zN, toDs, toD, zO, Q23, Q24, Q25, Q26, Q27, Q28, Nat.reduceLeDiff, Q29, Nat.reduceSub, Q30, Q31, Q32, sc, Q33, Q34, Q35, Q36, Q37, Q26, Q38, Q39, n0gt, n1gt, n2gt, n0eq, n1eq0, n1eq, n2eq, n0ne, n1ne, n1ne0, n0ne1, i0ne, i0eq, Bool.not_true, Bool.not_false, List.length_map, hb] | ((with_reducible refine And.intro ?_ ?_); focus (first | omega | rfl | decide | (simp; done)))))
    refine c_rqrKey ?_
    cases h1 : (s.key != keyF s.client)
    · (repeat' (first | simp -dsimp only [↓zM, ↓loopL, ↓binC, ↓unC, ↓zr, ↓zj, ↓zk, ↓zl, ↓zu, ↓lenC, ↓slcC, ↓convC, ↓boxC, ↓zC, ↓loadC, ↓zx, ↓nilC, ↓zm, ↓zG, ↓zy, ↓idxSC, ↓idxAC, ↓zd, ↓zA, ↓zf, ↓zo, ↓zJ, ↓maxC, ↓minC, ↓zK, ↓zL, ↓mgetC, ↓msetC, ↓mdelC, ↓zb, ↓zH, ↓zi, ↓zc, ↓zt, binA, intOp, strOp, unA, esOf, bnd, intV, zF, fillV, srcE, dm, dm1, consO, cellA, maxL, minL, keepO, Q0, Q1, Q2, Q3, Q4, Q5, zw, zp, zg, zq, zh, Q6, Q7, Q8, Q9, Q10, Q11, Q12, Q13, Q14, Nat.reduceAdd, Q15, Int.reduceToNat, Q16, Q17, Q18, Q19, Q20, reduceIte, Q21, Q22, ze, rep, zN, toDs, toD, zO, Q23, Q24, Q25, Q26, Q27, Q28, Nat.reduceLeDiff, Q29, Nat.reduceSub, Q30, Q31, Q32, sc, Q33, Q34, Q35, Q36, Q37, Q26, Q38, Q39, n0gt, n1gt, n2gt, n0eq, n1eq0, n1eq, n2eq, n0ne, n1ne, n1ne0, n0ne1, i0ne, i0eq, Bool.not_true, Bool.not_false, List.length_map, h1] | ((with_reducible refine And.intro ?_ ?_); focus (first | omega | rfl | decide | (simp; done)))))
      refine c_rtLook (zae hT) hL.len ?_
      cases ho : lookF L (reqB s) with
      | none =>
        (repeat' (first | simp -dsimp only [↓zM, ↓loopL, ↓binC, ↓unC, ↓zr, ↓zj, ↓zk, ↓zl, ↓zu, ↓lenC, ↓slcC, ↓convC, ↓boxC, ↓zC, ↓loadC, ↓zx, ↓nilC, ↓zm, ↓zG, ↓zy, ↓idxSC, ↓idxAC, ↓zd, ↓zA, ↓zf, ↓zo, ↓zJ, ↓maxC, ↓minC, ↓zK, ↓zL, ↓mgetC, ↓msetC, ↓mdelC, ↓zb, ↓zH, ↓zi, ↓zc, ↓zt, binA, intOp, strOp, unA, esOf, bnd, intV, zF, fillV, srcE, dm, dm1, consO, cellA, maxL, minL, keepO, Q0, Q1, Q2, Q3, Q4, Q5, zw, zp, zg, zq, zh, Q6, Q7, Q8, Q9, Q10, Q11, Q12, Q13, Q14, Nat.reduceAdd, Q15, Int.reduceToNat, Q16, Q17, Q18, Q19, Q20, reduceIte, Q21, Q22, ze, rep, zN, toDs, toD, zO, Q23, Q24, Q25, Q26, Q27, Q28, Nat.reduceLeDiff, Q29, Nat.reduceSub, Q30, Q31, Q32, sc, Q33, Q34, Q35, Q36, Q37, Q26, Q38, Q39, n0gt, n1gt, n2gt, n0eq, n1eq0, n1eq, n2eq, n0ne, n1ne, n1ne0, n0ne1, i0ne, i0eq, Bool.not_true, Bool.not_false, List.length_map, Option.isSome_none] | ((with_reducible refine And.intro ?_ ?_); focus (first | omega | rfl | decide | (simp; done)))))
        (first | refine zP (by simp [Low_d, dmT, dm, dm1, pack, zB, zD, zn]) hl ?_ | refine zE (by simp [Low_d, dmT, dm, dm1, pack, zB, zD, zn]) hl ?_)
        exact fin _ (by simp [zbz, ho])
      | some i =>
        simp only [numOf]
        cases h2 : (((i + 1 : Nat) : Int) == s.dig)
        · (repeat' (first | simp -dsimp only [↓zM, ↓loopL, ↓binC, ↓unC, ↓zr, ↓zj, ↓zk, ↓zl, ↓zu, ↓lenC, ↓slcC, ↓convC, ↓boxC, ↓zC, ↓loadC, ↓zx, ↓nilC, ↓zm, ↓zG, ↓zy, ↓idxSC, ↓idxAC, ↓zd, ↓zA, ↓zf, ↓zo, ↓zJ, ↓maxC, ↓minC, ↓zK, ↓zL, ↓mgetC, ↓msetC, ↓mdelC, ↓zb, ↓zH, ↓zi, ↓zc, ↓zt, binA, intOp, strOp, unA, esOf, bnd, intV, zF, fillV, srcE, dm, dm1, consO, cellA, maxL, minL, keepO, Q0, Q1, Q2, Q3, Q4, Q5, zw, zp, zg, zq, zh, Q6, Q7, Q8, Q9, Q10, Q11, Q12, Q13, Q14, Nat.reduceAdd, Q15, Int.reduceToNat, Q16, Q17, Q18, Q19, Q20, reduceIte, Q21, Q22, ze, rep, zN, toDs, toD, zO, Q23, Q24, Q25, Q26, Q27, Q28, Nat.reduceLeDiff, Q29, Nat.reduceSub, Q30, Q31, Q32, sc, Q33, Q34, Q35, Q36, Q37, Q26, Q38, Q39, n0gt, n1gt, n2gt, n0eq, n1eq0, n1eq, n2eq, n0ne, n1ne, n1ne0, n0ne1, i0ne, i0eq, Bool.not_true, Bool.not_false, List.length_map, Option.isSome_some, h2] | ((with_reducible refine And.intro ?_ ?_); focus (first | omega | rfl | decide | (simp; done)))))
          (first | refine zP (by simp [Low_d, dmT, dm, dm1, pack, zB, zD, zn]) hl ?_ | refine zE (by simp [Low_d, dmT, dm, dm1, pack, zB, zD, zn]) hl ?_)
          exact fin _ (by simp at h1 h2; simp [zbz, ho, h1]; intro _ h; omega)
        · (repeat' (first | simp -dsimp only [↓zM, ↓loopL, ↓binC, ↓unC, ↓zr, ↓zj, ↓zk, ↓zl, ↓zu, ↓lenC, ↓slcC, ↓convC, ↓boxC, ↓zC, ↓loadC, ↓zx, ↓nilC, ↓zm, ↓zG, ↓zy, ↓idxSC, ↓idxAC, ↓zd, ↓zA, ↓zf, ↓zo, ↓zJ, ↓maxC, ↓minC, ↓zK, ↓zL, ↓mgetC, ↓msetC, ↓mdelC, ↓zb, ↓zH, ↓zi, ↓zc, ↓zt, binA, intOp, strOp, unA, esOf, bnd, intV, zF, fillV, srcE, dm, dm1, consO, cellA, maxL, minL, keepO, Q0, Q1, Q2, Q3, Q4, Q5, zw, zp, zg, zq, zh, Q6, Q7, Q8, Q9, Q10, Q11, Q12, Q13, Q14, Nat.reduceAdd, Q15, Int.reduceToNat, Q16, Q17, Q18, Q19, Q20, reduceIte, Q21, Q22, ze, rep, zN, toDs, toD, zO, Q23, Q24, Q25, Q26, Q27, Q28, Nat.reduceLeDiff, Q29, Nat.reduceSub, Q30, Q31, Q32, sc, Q33, Q34, Q35, Q36, Q37, Q26, Q38, Q39, n0gt, n1gt, n2gt, n0eq, n1eq0, n1eq, n2eq, n0ne, n1ne, n1ne0, n0ne1, i0ne, i0eq, Bool.not_true, Bool.not_false, List.length_map, Option.isSome_some, h2] | ((with_reducible refine And.intro ?_ ?_); focus (first | omega | rfl | decide | (simp; done)))))
          refine zkB (s := ⟨s.key, s.dig⟩) (zae hG) hGl ?_
          (repeat' (first | simp -dsimp only [↓zM, ↓loopL, ↓binC, ↓unC, ↓zr, ↓zj, ↓zk, ↓zl, ↓zu, ↓lenC, ↓slcC, ↓convC, ↓boxC, ↓zC, ↓loadC, ↓zx, ↓nilC, ↓zm, ↓zG, ↓zy, ↓idxSC, ↓idxAC, ↓zd, ↓zA, ↓zf, ↓zo, ↓zJ, ↓maxC, ↓minC, ↓zK, ↓zL, ↓mgetC, ↓msetC, ↓mdelC, ↓zb, ↓zH, ↓zi, ↓zc, ↓zt, binA, intOp, strOp, unA, esOf, bnd, intV, zF, fillV, srcE, dm, dm1, consO, cellA, maxL, minL, keepO, Q0, Q1, Q2, Q3, Q4, Q5, zw, zp, zg, zq, zh, Q6, Q7, Q8, Q9, Q10, Q11, Q12, Q13, Q14, Nat.reduceAdd, Q15, Int.reduceToNat, Q16, Q17, Q18, Q19, Q20, reduceIte, Q21, Q22, ze, rep, zN, toDs, toD, zO, Q23, Q24, Q25, Q26, Q27, Q28, Nat.reduceLeDiff, Q29, Nat.reduceSub, Q30, Q31, Q32, sc, Q33, Q34, Q35, Q36, Q37, Q26, Q38, Q39, n0gt, n1gt, n2gt, n0eq, n1eq0, n1eq, n2eq, n0ne, n1ne, n1ne0, n0ne1, i0ne, i0eq, Bool.not_true, Bool.not_false, List.length_map] | ((with_reducible refine And.intro ?_ ?_); focus (first | omega | rfl | decide | (simp; done)))))
          (first | refine zP (by simp [Low_d, dmT, dm, dm1, pack, zB, zD, zn]) hl ?_ | refine zE (by simp [Low_d, dmT, dm, dm1, pack, zB, zD, zn]) hl ?_)
          refine fin _ ?_
          have h2' : s.dig = ((i + 1 : Nat) : Int) := by have := eq_of_beq h2; exact this.symm
          have h1' : s.key = keyF s.client := by simpa using h1
          simp [zbz, ho, hc, h1', h2']
    · (repeat' (first | simp -dsimp only [↓zM, ↓loopL, ↓binC, ↓unC, ↓zr, ↓zj, ↓zk, ↓zl, ↓zu, ↓lenC, ↓slcC, ↓convC, ↓boxC, ↓zC, ↓loadC, ↓zx, ↓nilC, ↓zm, ↓zG, ↓zy, ↓idxSC, ↓idxAC, ↓zd, ↓zA, ↓zf, ↓zo, ↓zJ, ↓maxC, ↓minC, ↓zK, ↓zL, ↓mgetC, ↓msetC, ↓mdelC, ↓zb, ↓zH, ↓zi, ↓zc, ↓zt, binA, intOp, strOp, unA, esOf, bnd, intV, zF, fillV, srcE, dm, dm1, consO, cellA, maxL, minL, keepO, Q0, Q1, Q2, Q3, Q4, Q5, zw, zp, zg, zq, zh, Q6, Q7, Q8, Q9, Q10, Q11, Q12, Q13, Q14, Nat.reduceAdd, Q15, Int.reduceToNat, Q16, Q17, Q18, Q19, Q20, reduceIte, Q21, Q22, ze, rep, zN, toDs, toD, zO, Q23, Q24, Q25, Q26, Q27, Q28, Nat.reduceLeDiff, Q29, Nat.reduceSub, Q30, Q31, Q32, sc, Q33, Q34, Q35, Q36, Q37, Q26, Q38, Q39, n0gt, n1gt, n2gt, n0eq, n1eq0, n1eq, n2eq, n0ne, n1ne, n1ne0, n0ne1, i0ne, i0eq, Bool.not_true, Bool.not_false, List.length_map, h1] | ((with_reducible refine And.intro ?_ ?_); focus (first | omega | rfl | decide | (simp; done)))))
      (first | refine zP (by simp [Low_d, dmT, dm, dm1, pack, zB, zD, zn]) hl ?_ | refine zE (by simp [Low_d, dmT, dm, dm1, pack, zB, zD, zn]) hl ?_)
      refine fin _ ?_
      have h1' : ¬ s.key = keyF s.client := by simpa using h1
      simp only [zbz]
      cases lookF L (reqB s) <;> simp [h1']
  · have hb : (zT s != 0) = true := by simpa using hc
    (repeat' (first | simp -dsimp only [↓zM, ↓loopL, ↓binC, ↓unC, ↓zr, ↓zj, ↓zk, ↓zl, ↓zu, ↓lenC, ↓slcC, ↓convC, ↓boxC, ↓zC, ↓loadC, ↓zx, ↓nilC, ↓zm, ↓zG, ↓zy, ↓idxSC, ↓idxAC, ↓zd, ↓zA, ↓zf, ↓zo, ↓zJ, ↓maxC, ↓minC, ↓zK, ↓zL, ↓mgetC, ↓msetC, ↓mdelC, ↓zb, ↓zH, ↓zi, ↓zc, ↓zt, binA, intOp, strOp, unA, esOf, bnd, intV, zF, fillV, srcE, dm, dm1, consO, cellA, maxL, minL, keepO, Q0, Q1, Q2, Q3, Q4, Q5, zw, zp, zg, zq, zh, Q6, Q7, Q8, Q9, Q10, Q11, Q12, Q13, Q14, Nat.reduceAdd, Q15, Int.reduceToNat, Q16, Q17, Q18, Q19, Q20, reduceIte, Q21, Q22, ze, rep, zN, toDs, toD, zO, Q23, Q24, Q25, Q26, Q27, Q28, Nat.reduceLeDiff, Q29, Nat.reduceSub, Q30, Q31, Q32, sc, Q33, Q34, Q35, Q36, Q37, Q26, Q38, Q39, n0gt, n1gt, n2gt, n0eq, n1eq0, n1eq, n2eq, n0ne, n1ne, n1ne0, n0ne1, i0ne, i0eq, Bool.not_true, Bool.not_false, List.length_map, hb] | ((with_reducible refine And.intro ?_ ?_); focus (first | omega | rfl | decide | (simp; done)))))
    (first | refine zP (by simp [Low_d, dmT, dm, dm1, pack, zB, zD, zn]) hl ?_ | refine zE (by simp [Low_d, dmT, dm, dm1, pack, zB, zD, zn]) hl ?_)
    exact fin _ (by simp [zbz, hc])
theorem zeX {σ : List AObj} {id id2 : Nat} {L : List (List UInt8)} {G : List TSign} {b : List zR} (hT : σ[id]? = some (rtO L)) (hG : σ[id2]? = some (rlO G)) (hL : TabI L) (hGl : G.length ≤ 1073741824)
    (hx : ∀ s ∈ b, opSz s.op ≤ 20971520) (hbl : b.length ≤ 1073741824) {K : AV → List AObj → Prop} (hK : K (.d (.bool (zhj L G b))) σ) : ACall Try.prog zcK [.box id 0, .box id2 0, .d (.slice (zbq b))] σ K := by
  refine zU zgR rfl fun hl _ => ziA ?_
  have hok : okB b := ⟨hbl, fun s hs => sizes (hx s hs)⟩
  simp only [zex]
  (repeat' (first | simp -dsimp only [↓zM, ↓loopL, ↓binC, ↓unC, ↓zr, ↓zj, ↓zk, ↓zl, ↓zu, ↓lenC, ↓slcC, ↓convC, ↓boxC, ↓zC, ↓loadC, ↓zx, ↓nilC, ↓zm, ↓zG, ↓zy, ↓idxSC, ↓idxAC, ↓zd, ↓zA, ↓zf, ↓zo, ↓zJ, ↓maxC, ↓minC, ↓zK, ↓zL, ↓mgetC, ↓msetC, ↓mdelC, ↓zb, ↓zH, ↓zi, ↓zc, ↓zt, binA, intOp, strOp, unA, esOf, bnd, intV, zF, fillV, srcE, dm, dm1, consO, cellA, maxL, minL, keepO, Q0, Q1, Q2, Q3, Q4, Q5, zw, zp, zg, zq, zh, Q6, Q7, Q8, Q9, Q10, Q11, Q12, Q13, Q14, Nat.reduceAdd, Q15, Int.reduceToNat, Q16, Q17, Q18, Q19, Q20, reduceIte, Q21, Q22, ze, rep, zN, toDs, toD, zO, Q23, Q24, Q25, Q26, Q27, Q28, Nat.reduceLeDiff, Q29, Nat.reduceSub, Q30, Q31, Q32, sc, Q33, Q34, Q35, Q36, Q37, Q26, Q38, Q39, n0gt, n1gt, n2gt, n0eq, n1eq0, n1eq, n2eq, n0ne, n1ne, n1ne0, n0ne1, i0ne, i0eq, Bool.not_true, Bool.not_false, List.length_map] | ((with_reducible refine And.intro ?_ ?_); focus (first | omega | rfl | decide | (simp; done)))))
  refine zep hok ?_
  by_cases hc : zS b = 0
  · have hq : (zS b != 0) = false := by simpa using hc
    rw [zhj, decide_eq_true hc, Bool.true_and] at hK
    (repeat' (first | simp -dsimp only [↓zM, ↓loopL, ↓binC, ↓unC, ↓zr, ↓zj, ↓zk, ↓zl, ↓zu, ↓lenC, ↓slcC, ↓convC, ↓boxC, ↓zC, ↓loadC, ↓zx, ↓nilC, ↓zm, ↓zG, ↓zy, ↓idxSC, ↓idxAC, ↓zd, ↓zA, ↓zf, ↓zo, ↓zJ, ↓maxC, ↓minC, ↓zK, ↓zL, ↓mgetC, ↓msetC, ↓mdelC, ↓zb, ↓zH, ↓zi, ↓zc, ↓zt, binA, intOp, strOp, unA, esOf, bnd, intV, zF, fillV, srcE, dm, dm1, consO, cellA, maxL, minL, keepO, Q0, Q1, Q2, Q3, Q4, Q5, zw, zp, zg, zq, zh, Q6, Q7, Q8, Q9, Q10, Q11, Q12, Q13, Q14, Nat.reduceAdd, Q15, Int.reduceToNat, Q16, Q17, Q18, Q19, Q20, reduceIte, Q21, Q22, ze, rep, zN, toDs, toD, zO, Q23, Q24, Q25, Q26, Q27, Q28, Nat.reduceLeDiff, Q29, Nat.reduceSub, Q30, Q31, Q32, sc, Q33, Q34, Q35, Q36, Q37, Q26, Q38, Q39, n0gt, n1gt, n2gt, n0eq, n1eq0, n1eq, n2eq, n0ne, n1ne, n1ne0, n0ne1, i0ne, i0eq, Bool.not_true, Bool.not_false, List.length_map, hq] | ((with_reducible refine And.intro ?_ ?_); focus (first | omega | rfl | decide | (simp; done)))))
    refine zac b.length (fun k vs s => vs = [.d (.int .i64 k)] ∧ s = σ ∧ (b.take k).any (fun s => !zbz L G s) = false) ⟨rfl, rfl, by simp⟩ ?_
    rintro k vs S hk ⟨rfl, rfl, hno⟩
    by_cases hlt : k < b.length
    · have hd : decide ((k : Int) < (b.length : Int)) = true := by simp; omega
      have hy : b[k]? = some b[k] := by simp [hlt]
      have hgx := zbF (f := zag) hy
      have hxx := hx _ (List.getElem_mem hlt)
      obtain ⟨x, hxe⟩ : ∃ x, b[k] = x := ⟨_, rfl⟩
      rw [hxe] at hy hgx hxx
      (repeat' (first | simp -dsimp only [↓zM, ↓loopL, ↓binC, ↓unC, ↓zr, ↓zj, ↓zk, ↓zl, ↓zu, ↓lenC, ↓slcC, ↓convC, ↓boxC, ↓zC, ↓loadC, ↓zx, ↓nilC, ↓zm, ↓zG, ↓zy, ↓idxSC, ↓idxAC, ↓zd, ↓zA, ↓zf, ↓zo, ↓zJ, ↓maxC, ↓minC, ↓zK, ↓zL, ↓mgetC, ↓msetC, ↓mdelC, ↓zb, ↓zH, ↓zi, ↓zc, ↓zt, binA, intOp, strOp, unA, esOf, bnd, intV, zF, fillV, srcE, dm, dm1, consO, cellA, maxL, minL, keepO, Q0, Q1, Q2, Q3, Q4, Q5, zw, zp, zg, zq, zh, Q6, Q7, Q8, Q9, Q10, Q11, Q12, Q13, Q14, Nat.reduceAdd, Q15, Int.reduceToNat, Q16, Q17, Q18, Q19, Q20, reduceIte, Q21, Q22, ze, rep, zN, toDs, toD, zO, Q23, Q24, Q25, Q26, Q27, Q28, Nat.reduceLeDiff, Q29, Nat.reduceSub, Q30, Q31, Q32, sc, Q33, Q34, Q35, Q36, Q37, Q26, Q38, Q39, n0gt, n1gt, n2gt, n0eq, n1eq0, n1eq, n2eq, n0ne, n1ne, n1ne0, n0ne1, i0ne, i0eq, Bool.not_true, Bool.not_false, List.length_map, hd, hgx, zag] | ((with_reducible refine And.intro ?_ ?_); focus (first | omega | rfl | decide | (simp; done)))))
      refine zhO (s := x) hT hG hL hGl hxx ?_
      cases hv : zbz L G x
      · rw [any_mem hy (by simp [hv])] at hK
        (repeat' (first | simp -dsimp only [↓zM, ↓loopL, ↓binC, ↓unC, ↓zr, ↓zj, ↓zk, ↓zl, ↓zu, ↓lenC, ↓slcC, ↓convC, ↓boxC, ↓zC, ↓loadC, ↓zx, ↓nilC, ↓zm, ↓zG, ↓zy, ↓idxSC, ↓idxAC, ↓zd, ↓zA, ↓zf, ↓zo, ↓zJ, ↓maxC, ↓minC, ↓zK, ↓zL, ↓mgetC, ↓msetC, ↓mdelC, ↓zb, ↓zH, ↓zi, ↓zc, ↓zt, binA, intOp, strOp, unA, esOf, bnd, intV, zF, fillV, srcE, dm, dm1, consO, cellA, maxL, minL, keepO, Q0, Q1, Q2, Q3, Q4, Q5, zw, zp, zg, zq, zh, Q6, Q7, Q8, Q9, Q10, Q11, Q12, Q13, Q14, Nat.reduceAdd, Q15, Int.reduceToNat, Q16, Q17, Q18, Q19, Q20, reduceIte, Q21, Q22, ze, rep, zN, toDs, toD, zO, Q23, Q24, Q25, Q26, Q27, Q28, Nat.reduceLeDiff, Q29, Nat.reduceSub, Q30, Q31, Q32, sc, Q33, Q34, Q35, Q36, Q37, Q26, Q38, Q39, n0gt, n1gt, n2gt, n0eq, n1eq0, n1eq, n2eq, n0ne, n1ne, n1ne0, n0ne1, i0ne, i0eq, Bool.not_true, Bool.not_false, List.length_map] | ((with_reducible refine And.intro ?_ ?_); focus (first | omega | rfl | decide | (simp; done)))))
        (first | refine zP (by simp [Low_d, dmT, dm, dm1, pack, zB, zD, zn]) hl ?_ | refine zE (by simp [Low_d, dmT, dm, dm1, pack, zB, zD, zn]) hl ?_)
        exact hK
      · (repeat' (first | simp -dsimp only [↓zM, ↓loopL, ↓binC, ↓unC, ↓zr, ↓zj, ↓zk, ↓zl, ↓zu, ↓lenC, ↓slcC, ↓convC, ↓boxC, ↓zC, ↓loadC, ↓zx, ↓nilC, ↓zm, ↓zG, ↓zy, ↓idxSC, ↓idxAC, ↓zd, ↓zA, ↓zf, ↓zo, ↓zJ, ↓maxC, ↓minC, ↓zK, ↓zL, ↓mgetC, ↓msetC, ↓mdelC, ↓zb, ↓zH, ↓zi, ↓zc, ↓zt, binA, intOp, strOp, unA, esOf, bnd, intV, zF, fillV, srcE, dm, dm1, consO, cellA, maxL, minL, keepO, Q0, Q1, Q2, Q3, Q4, Q5, zw, zp, zg, zq, zh, Q6, Q7, Q8, Q9, Q10, Q11, Q12, Q13, Q14, Nat.reduceAdd, Q15, Int.reduceToNat, Q16, Q17, Q18, Q19, Q20, reduceIte, Q21, Q22, ze, rep, zN, toDs, toD, zO, Q23, Q24, Q25, Q26, Q27, Q28, Nat.reduceLeDiff, Q29, Nat.reduceSub, Q30, Q31, Q32, sc, Q33, Q34, Q35, Q36, Q37, Q26, Q38, Q39, n0gt, n1gt, n2gt, n0eq, n1eq0, n1eq, n2eq, n0ne, n1ne, n1ne0, n0ne1, i0ne, i0eq, Bool.not_true, Bool.not_false, List.length_map, wk1 k (by omega)] | ((with_reducible refine And.intro ?_ ?_); focus (first | omega | rfl | decide | (simp; done)))))
        exact Again.next hlt ⟨rfl, rfl, any_take hy hno (by simp [hv])⟩
    · have hd : decide ((k : Int) < (b.length : Int)) = false := by simp; omega
      rw [List.take_of_length_le (by omega)] at hno
      rw [hno] at hK
      (repeat' (first | simp -dsimp only [↓zM, ↓loopL, ↓binC, ↓unC, ↓zr, ↓zj, ↓zk, ↓zl, ↓zu, ↓lenC, ↓slcC, ↓convC, ↓boxC, ↓zC, ↓loadC, ↓zx, ↓nilC, ↓zm, ↓zG, ↓zy, ↓idxSC, ↓idxAC, ↓zd, ↓zA, ↓zf, ↓zo, ↓zJ, ↓maxC, ↓minC, ↓zK, ↓zL, ↓mgetC, ↓msetC, ↓mdelC, ↓zb, ↓zH, ↓zi, ↓zc, ↓zt, binA, intOp, strOp, unA, esOf, bnd, intV, zF, fillV, srcE, dm, dm1, consO, cellA, maxL, minL, keepO, Q0, Q1, Q2, Q3, Q4, Q5, zw, zp, zg, zq, zh, Q6, Q7, Q8, Q9, Q10, Q11, Q12, Q13, Q14, Nat.reduceAdd, Q15, Int.reduceToNat, Q16, Q17, Q18, Q19, Q20, reduceIte, Q21, Q22, ze, rep, zN, toDs, toD, zO, Q23, Q24, Q25, Q26, Q27, Q28, Nat.reduceLeDiff, Q29, Nat.reduceSub, Q30, Q31, Q32, sc, Q33, Q34, Q35, Q36, Q37, Q26, Q38, Q39, n0gt, n1gt, n2gt, n0eq, n1eq0, n1eq, n2eq, n0ne, n1ne, n1ne0, n0ne1, i0ne, i0eq, Bool.not_true, Bool.not_false, List.length_map, hd] | ((with_reducible refine And.intro ?_ ?_); focus (first | omega | rfl | decide | (simp; done)))))
      (first | refine zP (by simp [Low_d, dmT, dm, dm1, pack, zB, zD, zn]) hl ?_ | refine zE (by simp [Low_d, dmT, dm, dm1, pack, zB, zD, zn]) hl ?_)
      exact hK
  · have hq : (zS b != 0) = true := by simpa using hc
    rw [zhj, decide_eq_false hc, Bool.false_and] at hK
    (repeat' (first | simp -dsimp only [↓zM, ↓loopL, ↓binC, ↓unC, ↓zr, ↓zj, ↓zk, ↓zl, ↓zu, ↓lenC, ↓slcC, ↓convC, ↓boxC, ↓zC, ↓loadC, ↓zx, ↓nilC, ↓zm, ↓zG, ↓zy, ↓idxSC, ↓idxAC, ↓zd, ↓zA, ↓zf, ↓zo, ↓zJ, ↓maxC, ↓minC, ↓zK, ↓zL, ↓mgetC, ↓msetC, ↓mdelC, ↓zb, ↓zH, ↓zi, ↓zc, ↓zt, binA, intOp, strOp, unA, esOf, bnd, intV, zF, fillV, srcE, dm, dm1, consO, cellA, maxL, minL, keepO, Q0, Q1, Q2, Q3, Q4, Q5, zw, zp, zg, zq, zh, Q6, Q7, Q8, Q9, Q10, Q11, Q12, Q13, Q14, Nat.reduceAdd, Q15, Int.reduceToNat, Q16, Q17, Q18, Q19, Q20, reduceIte, Q21, Q22, ze, rep, zN, toDs, toD, zO, Q23, Q24, Q25, Q26, Q27, Q28, Nat.reduceLeDiff, Q29, Nat.reduceSub, Q30, Q31, Q32, sc, Q33, Q34, Q35, Q36, Q37, Q26, Q38, Q39, n0gt, n1gt, n2gt, n0eq, n1eq0, n1eq, n2eq, n0ne, n1ne, n1ne0, n0ne1, i0ne, i0eq, Bool.not_true, Bool.not_false, List.length_map, hq] | ((with_reducible refine And.intro ?_ ?_); focus (first | omega | rfl | decide | (simp; done)))))
    (first | refine zP (by simp [Low_d, dmT, dm, dm1, pack, zB, zD, zn]) hl ?_ | refine zE (by simp [Low_d, dmT, dm, dm1, pack, zB, zD, zn]) hl ?_)
    exact hK
theorem zjv {σ : List AObj} {id : Nat} {L : List (List UInt8)} {l : List zR} (hT : σ[id]? = some (rtO L)) (hL : TabI L)
    (hx : ∀ s ∈ l, opSz s.op ≤ 20971520) (hll : l.length ≤ 1073741824) {K : AV → List AObj → Prop} (hK : K (.tup [.d (.int .i64 (digD L l)), .d (.int .i64 (digE L l))]) (σ.set id (rtO (digL L l)))) :
    ACall Try.prog zeL [.box id 0, .d (.slice (zbq l))] σ K := by
  refine zU zjU rfl fun hl _ => s_r08_Digest ?_
  have hok : okB l := ⟨hll, fun s hs => sizes (hx s hs)⟩
  simp only [zis]
  (repeat' (first | simp -dsimp only [↓zM, ↓loopL, ↓binC, ↓unC, ↓zr, ↓zj, ↓zk, ↓zl, ↓zu, ↓lenC, ↓slcC, ↓convC, ↓boxC, ↓zC, ↓loadC, ↓zx, ↓nilC, ↓zm, ↓zG, ↓zy, ↓idxSC, ↓idxAC, ↓zd, ↓zA, ↓zf, ↓zo, ↓zJ, ↓maxC, ↓minC, ↓zK, ↓zL, ↓mgetC, ↓msetC, ↓mdelC, ↓zb, ↓zH, ↓zi, ↓zc, ↓zt, binA, intOp, strOp, unA, esOf, bnd, intV, zF, fillV, srcE, dm, dm1, consO, cellA, maxL, minL, keepO, Q0, Q1, Q2, Q3, Q4, Q5, zw, zp, zg, zq, zh, Q6, Q7, Q8, Q9, Q10, Q11, Q12, Q13, Q14, Nat.reduceAdd, Q15, Int.reduceToNat, Q16, Q17, Q18, Q19, Q20, reduceIte, Q21, Q22, ze, rep, zN, toDs, toD, zO, Q23, Q24, Q25, Q26, Q27, Q28, Nat.reduceLeDiff, Q29, Nat.reduceSub, Q30, Q31, Q32, sc, Q33, Q34, Q35, Q36, Q37, Q26, Q38, Q39, n0gt, n1gt, n2gt, n0eq, n1eq0, n1eq, n2eq, n0ne, n1ne, n1ne0, n0ne1, i0ne, i0eq, Bool.not_true, Bool.not_false, List.length_map] | ((with_reducible refine And.intro ?_ ?_); focus (first | omega | rfl | decide | (simp; done)))))
  refine zep hok ?_
  by_cases hc : zS l = 0
  · have hq : (zS l != 0) = false := by simpa using hc
    have hbl := zdF hx
    have hc' : ¬ zS l ≠ 0 := by simpa using hc
    rw [show digD L l = sumN L (zbL l) from if_neg hc', show digL L l = sumL L (zbL l) from if_neg hc', show digE L l = if sumN L (zbL l) = 0 then 6 else 0 from if_neg hc'] at hK
    (repeat' (first | simp -dsimp only [↓zM, ↓loopL, ↓binC, ↓unC, ↓zr, ↓zj, ↓zk, ↓zl, ↓zu, ↓lenC, ↓slcC, ↓convC, ↓boxC, ↓zC, ↓loadC, ↓zx, ↓nilC, ↓zm, ↓zG, ↓zy, ↓idxSC, ↓idxAC, ↓zd, ↓zA, ↓zf, ↓zo, ↓zJ, ↓maxC, ↓minC, ↓zK, ↓zL, ↓mgetC, ↓msetC, ↓mdelC, ↓zb, ↓zH, ↓zi, ↓zc, ↓zt, binA, intOp, strOp, unA, esOf, bnd, intV, zF, fillV, srcE, dm, dm1, consO, cellA, maxL, minL, keepO, Q0, Q1, Q2, Q3, Q4, Q5, zw, zp, zg, zq, zh, Q6, Q7, Q8, Q9, Q10, Q11, Q12, Q13, Q14, Nat.reduceAdd, Q15, Int.reduceToNat, Q16, Q17, Q18, Q19, Q20, reduceIte, Q21, Q22, ze, rep, zN, toDs, toD, zO, Q23, Q24, Q25, Q26, Q27, Q28, Nat.reduceLeDiff, Q29, Nat.reduceSub, Q30, Q31, Q32, sc, Q33, Q34, Q35, Q36, Q37, Q26, Q38, Q39, n0gt, n1gt, n2gt, n0eq, n1eq0, n1eq, n2eq, n0ne, n1ne, n1ne0, n0ne1, i0ne, i0eq, Bool.not_true, Bool.not_false, List.length_map, hq] | ((with_reducible refine And.intro ?_ ?_); focus (first | omega | rfl | decide | (simp; done)))))
    refine c_rPutBatch (b := []) (by simp) hx hll ?_
    rw [List.nil_append, show zaN l = zbL l from if_pos hc] at *
    (repeat' (first | simp -dsimp only [↓zM, ↓loopL, ↓binC, ↓unC, ↓zr, ↓zj, ↓zk, ↓zl, ↓zu, ↓lenC, ↓slcC, ↓convC, ↓boxC, ↓zC, ↓loadC, ↓zx, ↓nilC, ↓zm, ↓zG, ↓zy, ↓idxSC, ↓idxAC, ↓zd, ↓zA, ↓zf, ↓zo, ↓zJ, ↓maxC, ↓minC, ↓zK, ↓zL, ↓mgetC, ↓msetC, ↓mdelC, ↓zb, ↓zH, ↓zi, ↓zc, ↓zt, binA, intOp, strOp, unA, esOf, bnd, intV, zF, fillV, srcE, dm, dm1, consO, cellA, maxL, minL, keepO, Q0, Q1, Q2, Q3, Q4, Q5, zw, zp, zg, zq, zh, Q6, Q7, Q8, Q9, Q10, Q11, Q12, Q13, Q14, Nat.reduceAdd, Q15, Int.reduceToNat, Q16, Q17, Q18, Q19, Q20, reduceIte, Q21, Q22, ze, rep, zN, toDs, toD, zO, Q23, Q24, Q25, Q26, Q27, Q28, Nat.reduceLeDiff, Q29, Nat.reduceSub, Q30, Q31, Q32, sc, Q33, Q34, Q35, Q36, Q37, Q26, Q38, Q39, n0gt, n1gt, n2gt, n0eq, n1eq0, n1eq, n2eq, n0ne, n1ne, n1ne0, n0ne1, i0ne, i0eq, Bool.not_true, Bool.not_false, List.length_map] | ((with_reducible refine And.intro ?_ ?_); focus (first | omega | rfl | decide | (simp; done)))))
    refine c_rtSum hT (by omega) hL.len ?_
    have hl1 : Lows σ.length (σ.set id (rtO (sumL L (zbL l)))) := hl.setO (rtO_low _ _)
    by_cases h0 : sumN L (zbL l) = 0
    · rw [if_pos h0] at hK
      rw [h0] at hK ⊢
      (repeat' (first | simp -dsimp only [↓zM, ↓loopL, ↓binC, ↓unC, ↓zr, ↓zj, ↓zk, ↓zl, ↓zu, ↓lenC, ↓slcC, ↓convC, ↓boxC, ↓zC, ↓loadC, ↓zx, ↓nilC, ↓zm, ↓zG, ↓zy, ↓idxSC, ↓idxAC, ↓zd, ↓zA, ↓zf, ↓zo, ↓zJ, ↓maxC, ↓minC, ↓zK, ↓zL, ↓mgetC, ↓msetC, ↓mdelC, ↓zb, ↓zH, ↓zi, ↓zc, ↓zt, binA, intOp, strOp, unA, esOf, bnd, intV, zF, fillV, srcE, dm, dm1, consO, cellA, maxL, minL, keepO, Q0, Q1, Q2, Q3, Q4, Q5, zw, zp, zg, zq, zh, Q6, Q7, Q8, Q9, Q10, Q11, Q12, Q13, Q14, Nat.reduceAdd, Q15, Int.reduceToNat, Q16, Q17, Q18, Q19, Q20, reduceIte, Q21, Q22, ze, rep, zN, toDs, toD, zO, Q23, Q24, Q25, Q26, Q27, Q28, Nat.reduceLeDiff, Q29, Nat.reduceSub, Q30, Q31, Q32, sc, Q33, Q34, Q35, Q36, Q37, Q26, Q38, Q39, n0gt, n1gt, n2gt, n0eq, n1eq0, n1eq, n2eq, n0ne, n1ne, n1ne0, n0ne1, i0ne, i0eq, Bool.not_true, Bool.not_false, List.length_map, beq_self_eq_true, bne_self_eq_false] | ((with_reducible refine And.intro ?_ ?_); focus (first | omega | rfl | decide | (simp; done)))))
      refine zgY (by simp) ?_ hl1 ?_
      · simp [Low_d, dmT, dm, dm1, pack, zB]
      · exact hK
    · rw [if_neg h0] at hK
      have h0' : (sumN L (zbL l) == 0) = false := by simpa using h0
      (repeat' (first | simp -dsimp only [↓zM, ↓loopL, ↓binC, ↓unC, ↓zr, ↓zj, ↓zk, ↓zl, ↓zu, ↓lenC, ↓slcC, ↓convC, ↓boxC, ↓zC, ↓loadC, ↓zx, ↓nilC, ↓zm, ↓zG, ↓zy, ↓idxSC, ↓idxAC, ↓zd, ↓zA, ↓zf, ↓zo, ↓zJ, ↓maxC, ↓minC, ↓zK, ↓zL, ↓mgetC, ↓msetC, ↓mdelC, ↓zb, ↓zH, ↓zi, ↓zc, ↓zt, binA, intOp, strOp, unA, esOf, bnd, intV, zF, fillV, srcE, dm, dm1, consO, cellA, maxL, minL, keepO, Q0, Q1, Q2, Q3, Q4, Q5, zw, zp, zg, zq, zh, Q6, Q7, Q8, Q9, Q10, Q11, Q12, Q13, Q14, Nat.reduceAdd, Q15, Int.reduceToNat, Q16, Q17, Q18, Q19, Q20, reduceIte, Q21, Q22, ze, rep, zN, toDs, toD, zO, Q23, Q24, Q25, Q26, Q27, Q28, Nat.reduceLeDiff, Q29, Nat.reduceSub, Q30, Q31, Q32, sc, Q33, Q34, Q35, Q36, Q37, Q26, Q38, Q39, n0gt, n1gt, n2gt, n0eq, n1eq0, n1eq, n2eq, n0ne, n1ne, n1ne0, n0ne1, i0ne, i0eq, Bool.not_true, Bool.not_false, List.length_map, h0'] | ((with_reducible refine And.intro ?_ ?_); focus (first | omega | rfl | decide | (simp; done)))))
      refine zgY (by simp) ?_ hl1 ?_
      · simp [Low_d, dmT, dm, dm1, pack, zB]
      · exact hK
  · have hq : (zS l != 0) = true := by simpa using hc
    rw [digD, digE, digL, if_pos hc, if_pos hc, if_pos hc, zbw hT] at hK
    (repeat' (first | simp -dsimp only [↓zM, ↓loopL, ↓binC, ↓unC, ↓zr, ↓zj, ↓zk, ↓zl, ↓zu, ↓lenC, ↓slcC, ↓convC, ↓boxC, ↓zC, ↓loadC, ↓zx, ↓nilC, ↓zm, ↓zG, ↓zy, ↓idxSC, ↓idxAC, ↓zd, ↓zA, ↓zf, ↓zo, ↓zJ, ↓maxC, ↓minC, ↓zK, ↓zL, ↓mgetC, ↓msetC, ↓mdelC, ↓zb, ↓zH, ↓zi, ↓zc, ↓zt, binA, intOp, strOp, unA, esOf, bnd, intV, zF, fillV, srcE, dm, dm1, consO, cellA, maxL, minL, keepO, Q0, Q1, Q2, Q3, Q4, Q5, zw, zp, zg, zq, zh, Q6, Q7, Q8, Q9, Q10, Q11, Q12, Q13, Q14, Nat.reduceAdd, Q15, Int.reduceToNat, Q16, Q17, Q18, Q19, Q20, reduceIte, Q21, Q22, ze, rep, zN, toDs, toD, zO, Q23, Q24, Q25, Q26, Q27, Q28, Nat.reduceLeDiff, Q29, Nat.reduceSub, Q30, Q31, Q32, sc, Q33, Q34, Q35, Q36, Q37, Q26, Q38, Q39, n0gt, n1gt, n2gt, n0eq, n1eq0, n1eq, n2eq, n0ne, n1ne, n1ne0, n0ne1, i0ne, i0eq, Bool.not_true, Bool.not_false, List.length_map, hq] | ((with_reducible refine And.intro ?_ ?_); focus (first | omega | rfl | decide | (simp; done)))))
    (first | refine zP (by simp [Low_d, dmT, dm, dm1, pack, zB, zD, zn]) hl ?_ | refine zE (by simp [Low_d, dmT, dm, dm1, pack, zB, zD, zn]) hl ?_)
    exact hK
end Go.Proofs.Ythmdpooklflkfaa

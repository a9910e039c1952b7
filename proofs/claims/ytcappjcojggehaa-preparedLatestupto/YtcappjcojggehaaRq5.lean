/- Contracts: what the document says of sealed requests. -/
import Derived.Test.YtcappjcojggehaaRq4
set_option linter.all false
set_option maxRecDepth 100000
set_option linter.unusedSimpArgs false
set_option linter.unusedVariables false
namespace Go.Proofs.Ytcappjcojggehaa
open Go.AW

theorem c_rqrKey {σ : List AObj} {c : Int} {K : AV → List AObj → Prop} (hK : K (.d (.int .i64 (keyF c))) σ) : ACall Try.prog zfD [.d (.int .i64 c)] σ K := c_rKey hK
theorem c_rqrSeal {σ : List AObj} {id id2 : Nat} {L : List (List UInt8)} {G : List TSign} {x : zk} (hT : σ[id]? = some (rtO L)) (hG : σ[id2]? = some (rlO G)) (h1 : id ≠ id2) (hL : TabI L) (hGl : G.length ≤ 1073741824)
    (hx : opSz x.op ≤ 20971520) {K : AV → List AObj → Prop}
    (hK : K (.tup [zdw (sealS L x), .d (.int .i64 (sealE L x))]) ((σ.set id (rtO (sealL L x))).set id2 (rlO (sealG L G x)))) : ACall Try.prog zgs [.box id 0, .box id2 0, reqA x] σ K := by
  refine zu isA_r08_Seal rfl fun hl _ => s_r08_Seal ?_
  have hsz := sizes hx
  simp only [zmm, reqA]
  (repeat' (first | (refine gq1 ?_; try with_reducible exact True.intro) | ((with_reducible refine And.intro ?_ ?_); focus (first | omega | rfl | decide | (simp; done)))))
  refine zmf (x := x) hx ?_
  by_cases hc : zI x = 0
  · have hb : (zI x != 0) = false := by simpa using hc
    have hrl := zkg (x := x) (by omega) hc
    (repeat' (first | (refine gq2 hb ?_; try with_reducible exact True.intro) | ((with_reducible refine And.intro ?_ ?_); focus (first | omega | rfl | decide | (simp; done)))))
    refine c_rqrKey ?_
    rw [show zaV x = reqB x from if_pos hc]
    (repeat' (first | (refine gq1 ?_; try with_reducible exact True.intro) | ((with_reducible refine And.intro ?_ ?_); focus (first | omega | rfl | decide | (simp; done)))))
    refine c_rtSum (zO hT) (by omega) hL.len ?_
    rw [zbb hT]
    simp only [sealL, sealG, hc, ne_eq, not_true_eq_false, if_false] at hK
    have e1 : sealE L x = signF (keyF x.client) (sumN L (reqB x)) := by rw [sealE, if_neg (by simpa using hc)]
    rw [e1] at hK
    have hl1 : Lows σ.length (σ.set id (rtO (sumL L (reqB x)))) := hl.setO (zkz _ _)
    have hs1 : (σ.set id (rtO (sumL L (reqB x)))).length = σ.length := by simp
    have hG1 : (σ.set id (rtO (sumL L (reqB x))))[id2]? = some (rlO G) := by rw [List.getElem?_set_ne h1]; exact hG
    obtain ⟨S1, hS1⟩ : ∃ S1, σ.set id (rtO (sumL L (reqB x))) = S1 := ⟨_, rfl⟩
    rw [hS1] at hK hG1 hs1 hl1 ⊢
    have r1 : σ.length = S1.length := hs1.symm
    (repeat' (first | (refine gq2 r1 ?_; try with_reducible exact True.intro) | ((with_reducible refine And.intro ?_ ?_); focus (first | omega | rfl | decide | (simp; done)))))
    refine c_rgSign (zO hG1) hGl ?_
    rw [zbb hG1]
    obtain ⟨N, hN⟩ : ∃ N, signF (keyF x.client) (sumN L (reqB x)) = N := ⟨_, rfl⟩
    have hl2 : Lows σ.length (S1.set id2 (rlO (signG G (keyF x.client) (sumN L (reqB x))))) := hl1.setO (zmH _ _)
    have hs2 : (S1.set id2 (rlO (signG G (keyF x.client) (sumN L (reqB x))))).length = S1.length := by simp
    obtain ⟨S2, hS2⟩ : ∃ S2, S1.set id2 (rlO (signG G (keyF x.client) (sumN L (reqB x)))) = S2 := ⟨_, rfl⟩
    rw [hS2] at hK hs2 hl2 ⊢
    have r2 : σ.length = S2.length := by rw [r1]; exact hs2.symm
    have r3 : S1.length = S2.length := hs2.symm
    rw [r2] at hl2
    rw [hN] at hK ⊢
    simp only [signA]
    by_cases hN0 : N = 0
    · have hq : (N != 0) = false := by simpa using hN0
      have e2 : sealS L x = ⟨x.client, x.time, x.op, keyF x.client, sumN L (reqB x)⟩ := by rw [sealS, if_pos (by rw [e1, hN, hN0])]
      have e3 : signR (keyF x.client) (sumN L (reqB x)) = ⟨keyF x.client, sumN L (reqB x)⟩ := by rw [signR, if_pos (by rw [hN, hN0])]
      rw [e2] at hK
      rw [e3]
      (repeat' (first | (refine gq2 (gqc0 hq (gqc0 r2 r3)) ?_; try with_reducible exact True.intro) | ((with_reducible refine And.intro ?_ ?_); focus (first | omega | rfl | decide | (simp; done)))))
      rw [hN0] at hK
      refine zdZ rfl ?_ hl2 ?_
      · simp [Low_d, dmT, dm, dm1, pack, zc, zd]
      · exact hK
    · have hq : (N != 0) = true := by simpa using hN0
      have e2 : sealS L x = noSg := by rw [sealS, if_neg (by rw [e1, hN]; exact hN0)]
      rw [e2] at hK
      rw [show signR (keyF x.client) (sumN L (reqB x)) = ⟨0, 0⟩ from by rw [signR, if_neg (by rw [hN]; exact hN0)]]
      (repeat' (first | (refine gq2 (gqc0 hq (gqc0 r2 r3)) ?_; try with_reducible exact True.intro) | ((with_reducible refine And.intro ?_ ?_); focus (first | omega | rfl | decide | (simp; done)))))
      refine zdZ rfl ?_ hl2 ?_
      · simp [Low_d, dmT, dm, dm1, pack, zc, zd]
      · exact hK
  · have hb : (zI x != 0) = true := by simpa using hc
    have e1 : sealE L x = zI x := if_pos hc
    have e2 : sealS L x = noSg := by rw [sealS, if_neg (by rw [e1]; exact hc)]
    rw [e1, e2, sealL, sealG, if_pos hc, if_pos hc, zaU hT, zaU hG] at hK
    (repeat' (first | (refine gq2 hb ?_; try with_reducible exact True.intro) | ((with_reducible refine And.intro ?_ ?_); focus (first | omega | rfl | decide | (simp; done)))))
    (first | refine zg (by simp [Low_d, dmT, dm, dm1, pack, zc, zd, zb]) hl ?_ | refine ze (by simp [Low_d, dmT, dm, dm1, pack, zc, zd, zb]) hl ?_)
    exact hK
theorem gq46 {P Q : Prop} (h : Q) (e : P = Q := by simp -dsimp only [↓zad, ↓loopL, ↓binC, ↓unC, ↓zK, ↓zB, ↓zC, ↓zD, ↓zM, ↓lenC, ↓slcC, ↓convC, ↓boxC, ↓zF, ↓loadC, ↓zo, ↓nilC, ↓zh, ↓zS, ↓zy, ↓idxSC, ↓idxAC, ↓zi, ↓zE, ↓zl, ↓zt, ↓zW, ↓maxC, ↓minC, ↓zY, ↓zac, ↓mgetC, ↓msetC, ↓mdelC, ↓zn, ↓zU, ↓zA, ↓zp, ↓zL, binA, intOp, strOp, unA, esOf, bnd, intV, zQ, fillV, srcE, dm, dm1, consO, cellA, maxL, minL, keepO, Q0, Q1, Q2, Q3, Q4, Q5, zJ, zm, zq, zw, zx, Q6, Q7, Q8, Q9, Q10, Q11, Q12, Q13, Q14, Nat.reduceAdd, Q15, Int.reduceToNat, Q16, Q17, Q18, Q19, Q20, reduceIte, Q21, Q22, zr, rep, zN, toDs, toD, zX, Q23, Q24, Q25, Q26, Q27, Q28, Nat.reduceLeDiff, Q29, Nat.reduceSub, Q30, Q31, Q32, sc, Q33, Q34, Q35, Q36, Q37, Q26, Q38, Q39, n0gt, n1gt, n2gt, n0eq, n1eq0, n1eq, n2eq, n0ne, n1ne, n1ne0, n0ne1, i0ne, i0eq, Bool.not_true, Bool.not_false, List.length_map, beq_self_eq_true, bne_self_eq_false]; rfl) : P := e.mpr h
theorem c_rqrDigest {σ : List AObj} {id : Nat} {L : List (List UInt8)} {l : List zk} (hT : σ[id]? = some (rtO L)) (hL : TabI L)
    (hx : ∀ s ∈ l, opSz s.op ≤ 20971520) (hll : l.length ≤ 1073741824) {K : AV → List AObj → Prop} (hK : K (.tup [.d (.int .i64 (digD L l)), .d (.int .i64 (digE L l))]) (σ.set id (rtO (digL L l)))) :
    ACall Try.prog zfE [.box id 0, .d (.slice (zaJ l))] σ K := by
  refine zu zlA rfl fun hl _ => s_r08_Digest ?_
  have hok : okB l := ⟨hll, fun s hs => sizes (hx s hs)⟩
  simp only [zjF]
  (repeat' (first | (refine gq1 ?_; try with_reducible exact True.intro) | ((with_reducible refine And.intro ?_ ?_); focus (first | omega | rfl | decide | (simp; done)))))
  refine zic hok ?_
  by_cases hc : zG l = 0
  · have hq : (zG l != 0) = false := by simpa using hc
    have hbl := zgO hx
    have hc' : ¬ zG l ≠ 0 := by simpa using hc
    rw [show digD L l = sumN L (zdm l) from if_neg hc', show digL L l = sumL L (zdm l) from if_neg hc', show digE L l = if sumN L (zdm l) = 0 then 6 else 0 from if_neg hc'] at hK
    (repeat' (first | (refine gq2 hq ?_; try with_reducible exact True.intro) | ((with_reducible refine And.intro ?_ ?_); focus (first | omega | rfl | decide | (simp; done)))))
    refine c_rPutBatch (b := []) (by simp) hx hll ?_
    rw [List.nil_append, show zaR l = zdm l from if_pos hc] at *
    (repeat' (first | (refine gq1 ?_; try with_reducible exact True.intro) | ((with_reducible refine And.intro ?_ ?_); focus (first | omega | rfl | decide | (simp; done)))))
    refine c_rtSum hT (by omega) hL.len ?_
    have hl1 : Lows σ.length (σ.set id (rtO (sumL L (zdm l)))) := hl.setO (zkz _ _)
    by_cases h0 : sumN L (zdm l) = 0
    · rw [if_pos h0] at hK
      rw [h0] at hK ⊢
      (repeat' (first | (refine gq46 ?_; try with_reducible exact True.intro) | ((with_reducible refine And.intro ?_ ?_); focus (first | omega | rfl | decide | (simp; done)))))
      refine ends_all0 (by simp) ?_ hl1 ?_
      · simp [Low_d, dmT, dm, dm1, pack, zc]
      · exact hK
    · rw [if_neg h0] at hK
      have h0' : (sumN L (zdm l) == 0) = false := by simpa using h0
      (repeat' (first | (refine gq2 h0' ?_; try with_reducible exact True.intro) | ((with_reducible refine And.intro ?_ ?_); focus (first | omega | rfl | decide | (simp; done)))))
      refine ends_all0 (by simp) ?_ hl1 ?_
      · simp [Low_d, dmT, dm, dm1, pack, zc]
      · exact hK
  · have hq : (zG l != 0) = true := by simpa using hc
    rw [digD, digE, digL, if_pos hc, if_pos hc, if_pos hc, zaU hT] at hK
    (repeat' (first | (refine gq2 hq ?_; try with_reducible exact True.intro) | ((with_reducible refine And.intro ?_ ?_); focus (first | omega | rfl | decide | (simp; done)))))
    (first | refine zg (by simp [Low_d, dmT, dm, dm1, pack, zc, zd, zb]) hl ?_ | refine ze (by simp [Low_d, dmT, dm, dm1, pack, zc, zd, zb]) hl ?_)
    exact hK
end Go.Proofs.Ytcappjcojggehaa

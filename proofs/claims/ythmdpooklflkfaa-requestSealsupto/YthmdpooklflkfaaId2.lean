/- Contracts: the program's tables and ledgers. -/
import Derived.Test.YthmdpooklflkfaaId1
set_option linter.all false
set_option maxRecDepth 100000
set_option linter.unusedSimpArgs false
set_option linter.unusedVariables false
namespace Go.Proofs.Ythmdpooklflkfaa
open Go.AW

theorem zkC {σ : List AObj} {K : AV → List AObj → Prop} (hK : K (.box (σ.length + 1) 0) (σ ++ tabO σ.length [])) : ACall Try.prog zaP [] σ K := by
  refine ACall.weaken ?_
  refine zaV zgU rfl (fun s => List.range' σ.length 2) fun hl _ => ziD ?_
  simp only [zeA]
  (repeat' (first | simp -dsimp only [↓zM, ↓loopL, ↓binC, ↓unC, ↓zr, ↓zj, ↓zk, ↓zl, ↓zu, ↓lenC, ↓slcC, ↓convC, ↓boxC, ↓zC, ↓loadC, ↓zx, ↓nilC, ↓zm, ↓zG, ↓zy, ↓idxSC, ↓idxAC, ↓zd, ↓zA, ↓zf, ↓zo, ↓zJ, ↓maxC, ↓minC, ↓zK, ↓zL, ↓mgetC, ↓msetC, ↓mdelC, ↓zb, ↓zH, ↓zi, ↓zc, ↓zt, binA, intOp, strOp, unA, esOf, bnd, intV, zF, fillV, srcE, dm, dm1, consO, cellA, maxL, minL, keepO, Q0, Q1, Q2, Q3, Q4, Q5, zw, zp, zg, zq, zh, Q6, Q7, Q8, Q9, Q10, Q11, Q12, Q13, Q14, Nat.reduceAdd, Q15, Int.reduceToNat, Q16, Q17, Q18, Q19, Q20, reduceIte, Q21, Q22, ze, rep, zN, toDs, toD, zO, Q23, Q24, Q25, Q26, Q27, Q28, Nat.reduceLeDiff, Q29, Nat.reduceSub, Q30, Q31, Q32, sc, Q33, Q34, Q35, Q36, Q37, Q26, Q38, Q39, n0gt, n1gt, n2gt, n0eq, n1eq0, n1eq, n2eq, n0ne, n1ne, n1ne0, n0ne1, i0ne, i0eq, Bool.not_true, Bool.not_false, List.length_map] | ((with_reducible refine And.intro ?_ ?_); focus (first | omega | rfl | decide | (simp; done)))))
  refine zch (σ' := σ) (os := [.map [], .box [.exact [], .map σ.length]]) rfl rfl hl ?_ (.box _ _ (by simp)) ?_
  · intro x hx
    simp only [List.mem_cons, List.not_mem_nil, or_false] at hx
    rcases hx with rfl | rfl
    · intro e he; cases he
    · intro c hc
      simp only [List.mem_cons, List.not_mem_nil, or_false] at hc
      rcases hc with rfl | rfl
      · exact .exact _
      · exact .map _ (by simp)
  · refine ⟨.box (σ.length + 1) 0, σ ++ tabO σ.length [], ?_, hK⟩
    refine .tokB (σ.length + 1) 0 [.exact [], .map σ.length] [] 1 (by rw [zp]; rfl) rfl (by simp) ?_
    have e : (σ ++ [AObj.map [], AObj.box [AV.exact [], AV.map σ.length]]).set (σ.length + 1) (.box ([AV.exact [], AV.map σ.length].set 0 (.own (σ ++ [AObj.map [], AObj.box [AV.exact [], AV.map σ.length]]).length []))) ++ [.tok 1 0] = σ ++ tabO σ.length [] := by
      rw [zq]; simp [tabO]; rfl
    rw [List.length_nil, e]
    exact .refl _ _
theorem zjx {σ : List AObj} {K : AV → List AObj → Prop} (hK : K (.box (σ.length + 1) 0) (σ ++ ledO σ.length [])) : ACall Try.prog zaM [] σ K := by
  refine ACall.weaken ?_
  refine zaV zgl rfl (fun s => List.range' σ.length 2) fun hl _ => zhr ?_
  simp only [zea]
  (repeat' (first | simp -dsimp only [↓zM, ↓loopL, ↓binC, ↓unC, ↓zr, ↓zj, ↓zk, ↓zl, ↓zu, ↓lenC, ↓slcC, ↓convC, ↓boxC, ↓zC, ↓loadC, ↓zx, ↓nilC, ↓zm, ↓zG, ↓zy, ↓idxSC, ↓idxAC, ↓zd, ↓zA, ↓zf, ↓zo, ↓zJ, ↓maxC, ↓minC, ↓zK, ↓zL, ↓mgetC, ↓msetC, ↓mdelC, ↓zb, ↓zH, ↓zi, ↓zc, ↓zt, binA, intOp, strOp, unA, esOf, bnd, intV, zF, fillV, srcE, dm, dm1, consO, cellA, maxL, minL, keepO, Q0, Q1, Q2, Q3, Q4, Q5, zw, zp, zg, zq, zh, Q6, Q7, Q8, Q9, Q10, Q11, Q12, Q13, Q14, Nat.reduceAdd, Q15, Int.reduceToNat, Q16, Q17, Q18, Q19, Q20, reduceIte, Q21, Q22, ze, rep, zN, toDs, toD, zO, Q23, Q24, Q25, Q26, Q27, Q28, Nat.reduceLeDiff, Q29, Nat.reduceSub, Q30, Q31, Q32, sc, Q33, Q34, Q35, Q36, Q37, Q26, Q38, Q39, n0gt, n1gt, n2gt, n0eq, n1eq0, n1eq, n2eq, n0ne, n1ne, n1ne0, n0ne1, i0ne, i0eq, Bool.not_true, Bool.not_false, List.length_map] | ((with_reducible refine And.intro ?_ ?_); focus (first | omega | rfl | decide | (simp; done)))))
  refine zch (σ' := σ) (os := [.map [], .box [.exact [], .map σ.length]]) rfl rfl hl ?_ (.box _ _ (by simp)) ?_
  · intro x hx
    simp only [List.mem_cons, List.not_mem_nil, or_false] at hx
    rcases hx with rfl | rfl
    · intro e he; cases he
    · intro c hc
      simp only [List.mem_cons, List.not_mem_nil, or_false] at hc
      rcases hc with rfl | rfl
      · exact .exact _
      · exact .map _ (by simp)
  · refine ⟨.box (σ.length + 1) 0, σ ++ ledO σ.length [], ?_, hK⟩
    refine .tokB (σ.length + 1) 0 [.exact [], .map σ.length] [] 2 (by rw [zp]; rfl) rfl (by simp) ?_
    have e : (σ ++ [AObj.map [], AObj.box [AV.exact [], AV.map σ.length]]).set (σ.length + 1) (.box ([AV.exact [], AV.map σ.length].set 0 (.own (σ ++ [AObj.map [], AObj.box [AV.exact [], AV.map σ.length]]).length []))) ++ [.tok 2 0] = σ ++ ledO σ.length [] := by
      rw [zq]; simp [ledO]; rfl
    rw [List.length_nil, e]
    exact .refl _ _
theorem zlu {σ : List AObj} {id m t : Nat} {l : List (List UInt8)} (hT : TabAt σ id m t l) {K : AV → List AObj → Prop} (hK : K (.d (.bool false)) σ) : ACall Try.prog zaG [.box id 0] σ K := by
  refine zU zfG rfl fun hl _ => zgE ?_
  have hb := hT.box
  simp only [zdx]
  (repeat' (first | simp -dsimp only [↓zM, ↓loopL, ↓binC, ↓unC, ↓zr, ↓zj, ↓zk, ↓zl, ↓zu, ↓lenC, ↓slcC, ↓convC, ↓boxC, ↓zC, ↓loadC, ↓zx, ↓nilC, ↓zm, ↓zG, ↓zy, ↓idxSC, ↓idxAC, ↓zd, ↓zA, ↓zf, ↓zo, ↓zJ, ↓maxC, ↓minC, ↓zK, ↓zL, ↓mgetC, ↓msetC, ↓mdelC, ↓zb, ↓zH, ↓zi, ↓zc, ↓zt, binA, intOp, strOp, unA, esOf, bnd, intV, zF, fillV, srcE, dm, dm1, consO, cellA, maxL, minL, keepO, Q0, Q1, Q2, Q3, Q4, Q5, zw, zp, zg, zq, zh, Q6, Q7, Q8, Q9, Q10, Q11, Q12, Q13, Q14, Nat.reduceAdd, Q15, Int.reduceToNat, Q16, Q17, Q18, Q19, Q20, reduceIte, Q21, Q22, ze, rep, zN, toDs, toD, zO, Q23, Q24, Q25, Q26, Q27, Q28, Nat.reduceLeDiff, Q29, Nat.reduceSub, Q30, Q31, Q32, sc, Q33, Q34, Q35, Q36, Q37, Q26, Q38, Q39, n0gt, n1gt, n2gt, n0eq, n1eq0, n1eq, n2eq, n0ne, n1ne, n1ne0, n0ne1, i0ne, i0eq, Bool.not_true, Bool.not_false, List.length_map, hb] | ((with_reducible refine And.intro ?_ ?_); focus (first | omega | rfl | decide | (simp; done)))))
  (first | refine zP (by simp [Low_d, dmT, dm, dm1, pack, zB, zD, zn]) hl ?_ | refine zE (by simp [Low_d, dmT, dm, dm1, pack, zB, zD, zn]) hl ?_)
  exact hK
theorem zlw {σ : List AObj} {id m t : Nat} {g : List TSign} (hG : LedAt σ id m t g) {K : AV → List AObj → Prop} (hK : K (.d (.bool false)) σ) : ACall Try.prog zaA [.box id 0] σ K := by
  refine zU zeU rfl fun hl _ => zfZ ?_
  have hb := hG.box
  simp only [zdg]
  (repeat' (first | simp -dsimp only [↓zM, ↓loopL, ↓binC, ↓unC, ↓zr, ↓zj, ↓zk, ↓zl, ↓zu, ↓lenC, ↓slcC, ↓convC, ↓boxC, ↓zC, ↓loadC, ↓zx, ↓nilC, ↓zm, ↓zG, ↓zy, ↓idxSC, ↓idxAC, ↓zd, ↓zA, ↓zf, ↓zo, ↓zJ, ↓maxC, ↓minC, ↓zK, ↓zL, ↓mgetC, ↓msetC, ↓mdelC, ↓zb, ↓zH, ↓zi, ↓zc, ↓zt, binA, intOp, strOp, unA, esOf, bnd, intV, zF, fillV, srcE, dm, dm1, consO, cellA, maxL, minL, keepO, Q0, Q1, Q2, Q3, Q4, Q5, zw, zp, zg, zq, zh, Q6, Q7, Q8, Q9, Q10, Q11, Q12, Q13, Q14, Nat.reduceAdd, Q15, Int.reduceToNat, Q16, Q17, Q18, Q19, Q20, reduceIte, Q21, Q22, ze, rep, zN, toDs, toD, zO, Q23, Q24, Q25, Q26, Q27, Q28, Nat.reduceLeDiff, Q29, Nat.reduceSub, Q30, Q31, Q32, sc, Q33, Q34, Q35, Q36, Q37, Q26, Q38, Q39, n0gt, n1gt, n2gt, n0eq, n1eq0, n1eq, n2eq, n0ne, n1ne, n1ne0, n0ne1, i0ne, i0eq, Bool.not_true, Bool.not_false, List.length_map, hb] | ((with_reducible refine And.intro ?_ ?_); focus (first | omega | rfl | decide | (simp; done)))))
  (first | refine zP (by simp [Low_d, dmT, dm, dm1, pack, zB, zD, zn]) hl ?_ | refine zE (by simp [Low_d, dmT, dm, dm1, pack, zB, zD, zn]) hl ?_)
  exact hK
theorem c_tLook {σ : List AObj} {id m t : Nat} {l : List (List UInt8)} {b : List UInt8} (hT : TabAt σ id m t l) {K : AV → List AObj → Prop} (hK : K (.tup [.d (.int .i64 (numOf (lookF l b))), .d (.bool (lookF l b).isSome)]) σ) :
    ACall Try.prog zbp [.box id 0, .d (.slice (bcs b))] σ K := by
  refine zU zfH rfl fun hl _ => zgF ?_
  have hb := hT.box
  have hm := hT.map
  have hf := mfind_tab l b
  simp only [zdy]
  (repeat' (first | simp -dsimp only [↓zM, ↓loopL, ↓binC, ↓unC, ↓zr, ↓zj, ↓zk, ↓zl, ↓zu, ↓lenC, ↓slcC, ↓convC, ↓boxC, ↓zC, ↓loadC, ↓zx, ↓nilC, ↓zm, ↓zG, ↓zy, ↓idxSC, ↓idxAC, ↓zd, ↓zA, ↓zf, ↓zo, ↓zJ, ↓maxC, ↓minC, ↓zK, ↓zL, ↓mgetC, ↓msetC, ↓mdelC, ↓zb, ↓zH, ↓zi, ↓zc, ↓zt, binA, intOp, strOp, unA, esOf, bnd, intV, zF, fillV, srcE, dm, dm1, consO, cellA, maxL, minL, keepO, Q0, Q1, Q2, Q3, Q4, Q5, zw, zp, zg, zq, zh, Q6, Q7, Q8, Q9, Q10, Q11, Q12, Q13, Q14, Nat.reduceAdd, Q15, Int.reduceToNat, Q16, Q17, Q18, Q19, Q20, reduceIte, Q21, Q22, ze, rep, zN, toDs, toD, zO, Q23, Q24, Q25, Q26, Q27, Q28, Nat.reduceLeDiff, Q29, Nat.reduceSub, Q30, Q31, Q32, sc, Q33, Q34, Q35, Q36, Q37, Q26, Q38, Q39, n0gt, n1gt, n2gt, n0eq, n1eq0, n1eq, n2eq, n0ne, n1ne, n1ne0, n0ne1, i0ne, i0eq, Bool.not_true, Bool.not_false, List.length_map] | ((with_reducible refine And.intro ?_ ?_); focus (first | omega | rfl | decide | (simp; done)))))
  refine zlu hT ?_
  cases ho : lookF l b with
  | none =>
    rw [ho] at hf hK
    simp only [Option.map_none] at hf
    (repeat' (first | simp -dsimp only [↓zM, ↓loopL, ↓binC, ↓unC, ↓zr, ↓zj, ↓zk, ↓zl, ↓zu, ↓lenC, ↓slcC, ↓convC, ↓boxC, ↓zC, ↓loadC, ↓zx, ↓nilC, ↓zm, ↓zG, ↓zy, ↓idxSC, ↓idxAC, ↓zd, ↓zA, ↓zf, ↓zo, ↓zJ, ↓maxC, ↓minC, ↓zK, ↓zL, ↓mgetC, ↓msetC, ↓mdelC, ↓zb, ↓zH, ↓zi, ↓zc, ↓zt, binA, intOp, strOp, unA, esOf, bnd, intV, zF, fillV, srcE, dm, dm1, consO, cellA, maxL, minL, keepO, Q0, Q1, Q2, Q3, Q4, Q5, zw, zp, zg, zq, zh, Q6, Q7, Q8, Q9, Q10, Q11, Q12, Q13, Q14, Nat.reduceAdd, Q15, Int.reduceToNat, Q16, Q17, Q18, Q19, Q20, reduceIte, Q21, Q22, ze, rep, zN, toDs, toD, zO, Q23, Q24, Q25, Q26, Q27, Q28, Nat.reduceLeDiff, Q29, Nat.reduceSub, Q30, Q31, Q32, sc, Q33, Q34, Q35, Q36, Q37, Q26, Q38, Q39, n0gt, n1gt, n2gt, n0eq, n1eq0, n1eq, n2eq, n0ne, n1ne, n1ne0, n0ne1, i0ne, i0eq, Bool.not_true, Bool.not_false, List.length_map, hb, hm, hf, zbe, zaX, mgetC, zaL, mgetR] | ((with_reducible refine And.intro ?_ ?_); focus (first | omega | rfl | decide | (simp; done)))))
    (first | refine zP (by simp [Low_d, dmT, dm, dm1, pack, zB, zD, zn]) hl ?_ | refine zE (by simp [Low_d, dmT, dm, dm1, pack, zB, zD, zn]) hl ?_)
    exact hK
  | some k =>
    rw [ho] at hf hK
    simp only [Option.map_some] at hf
    (repeat' (first | simp -dsimp only [↓zM, ↓loopL, ↓binC, ↓unC, ↓zr, ↓zj, ↓zk, ↓zl, ↓zu, ↓lenC, ↓slcC, ↓convC, ↓boxC, ↓zC, ↓loadC, ↓zx, ↓nilC, ↓zm, ↓zG, ↓zy, ↓idxSC, ↓idxAC, ↓zd, ↓zA, ↓zf, ↓zo, ↓zJ, ↓maxC, ↓minC, ↓zK, ↓zL, ↓mgetC, ↓msetC, ↓mdelC, ↓zb, ↓zH, ↓zi, ↓zc, ↓zt, binA, intOp, strOp, unA, esOf, bnd, intV, zF, fillV, srcE, dm, dm1, consO, cellA, maxL, minL, keepO, Q0, Q1, Q2, Q3, Q4, Q5, zw, zp, zg, zq, zh, Q6, Q7, Q8, Q9, Q10, Q11, Q12, Q13, Q14, Nat.reduceAdd, Q15, Int.reduceToNat, Q16, Q17, Q18, Q19, Q20, reduceIte, Q21, Q22, ze, rep, zN, toDs, toD, zO, Q23, Q24, Q25, Q26, Q27, Q28, Nat.reduceLeDiff, Q29, Nat.reduceSub, Q30, Q31, Q32, sc, Q33, Q34, Q35, Q36, Q37, Q26, Q38, Q39, n0gt, n1gt, n2gt, n0eq, n1eq0, n1eq, n2eq, n0ne, n1ne, n1ne0, n0ne1, i0ne, i0eq, Bool.not_true, Bool.not_false, List.length_map, hb, hm, hf, zbe, zaX, mgetC, zaL, mgetR] | ((with_reducible refine And.intro ?_ ?_); focus (first | omega | rfl | decide | (simp; done)))))
    (first | refine zP (by simp [Low_d, dmT, dm, dm1, pack, zB, zD, zn]) hl ?_ | refine zE (by simp [Low_d, dmT, dm, dm1, pack, zB, zD, zn]) hl ?_)
    exact hK
theorem c_tLen {σ : List AObj} {id m t : Nat} {l : List (List UInt8)} (hT : TabAt σ id m t l) {K : AV → List AObj → Prop} (hK : K (.d (.int .i64 l.length)) σ) : ACall Try.prog zcv [.box id 0] σ K := by
  refine zU zgk rfl fun hl _ => zhq ?_
  have hb := hT.box
  simp only [zdZ]
  (repeat' (first | simp -dsimp only [↓zM, ↓loopL, ↓binC, ↓unC, ↓zr, ↓zj, ↓zk, ↓zl, ↓zu, ↓lenC, ↓slcC, ↓convC, ↓boxC, ↓zC, ↓loadC, ↓zx, ↓nilC, ↓zm, ↓zG, ↓zy, ↓idxSC, ↓idxAC, ↓zd, ↓zA, ↓zf, ↓zo, ↓zJ, ↓maxC, ↓minC, ↓zK, ↓zL, ↓mgetC, ↓msetC, ↓mdelC, ↓zb, ↓zH, ↓zi, ↓zc, ↓zt, binA, intOp, strOp, unA, esOf, bnd, intV, zF, fillV, srcE, dm, dm1, consO, cellA, maxL, minL, keepO, Q0, Q1, Q2, Q3, Q4, Q5, zw, zp, zg, zq, zh, Q6, Q7, Q8, Q9, Q10, Q11, Q12, Q13, Q14, Nat.reduceAdd, Q15, Int.reduceToNat, Q16, Q17, Q18, Q19, Q20, reduceIte, Q21, Q22, ze, rep, zN, toDs, toD, zO, Q23, Q24, Q25, Q26, Q27, Q28, Nat.reduceLeDiff, Q29, Nat.reduceSub, Q30, Q31, Q32, sc, Q33, Q34, Q35, Q36, Q37, Q26, Q38, Q39, n0gt, n1gt, n2gt, n0eq, n1eq0, n1eq, n2eq, n0ne, n1ne, n1ne0, n0ne1, i0ne, i0eq, Bool.not_true, Bool.not_false, List.length_map] | ((with_reducible refine And.intro ?_ ?_); focus (first | omega | rfl | decide | (simp; done)))))
  refine zlu hT ?_
  (repeat' (first | simp -dsimp only [↓zM, ↓loopL, ↓binC, ↓unC, ↓zr, ↓zj, ↓zk, ↓zl, ↓zu, ↓lenC, ↓slcC, ↓convC, ↓boxC, ↓zC, ↓loadC, ↓zx, ↓nilC, ↓zm, ↓zG, ↓zy, ↓idxSC, ↓idxAC, ↓zd, ↓zA, ↓zf, ↓zo, ↓zJ, ↓maxC, ↓minC, ↓zK, ↓zL, ↓mgetC, ↓msetC, ↓mdelC, ↓zb, ↓zH, ↓zi, ↓zc, ↓zt, binA, intOp, strOp, unA, esOf, bnd, intV, zF, fillV, srcE, dm, dm1, consO, cellA, maxL, minL, keepO, Q0, Q1, Q2, Q3, Q4, Q5, zw, zp, zg, zq, zh, Q6, Q7, Q8, Q9, Q10, Q11, Q12, Q13, Q14, Nat.reduceAdd, Q15, Int.reduceToNat, Q16, Q17, Q18, Q19, Q20, reduceIte, Q21, Q22, ze, rep, zN, toDs, toD, zO, Q23, Q24, Q25, Q26, Q27, Q28, Nat.reduceLeDiff, Q29, Nat.reduceSub, Q30, Q31, Q32, sc, Q33, Q34, Q35, Q36, Q37, Q26, Q38, Q39, n0gt, n1gt, n2gt, n0eq, n1eq0, n1eq, n2eq, n0ne, n1ne, n1ne0, n0ne1, i0ne, i0eq, Bool.not_true, Bool.not_false, List.length_map, hb] | ((with_reducible refine And.intro ?_ ?_); focus (first | omega | rfl | decide | (simp; done)))))
  (first | refine zP (by simp [Low_d, dmT, dm, dm1, pack, zB, zD, zn]) hl ?_ | refine zE (by simp [Low_d, dmT, dm, dm1, pack, zB, zD, zn]) hl ?_)
  exact hK
theorem c_gLen {σ : List AObj} {id m t : Nat} {g : List TSign} (hG : LedAt σ id m t g) {K : AV → List AObj → Prop} (hK : K (.d (.int .i64 g.length)) σ) : ACall Try.prog zcg [.box id 0] σ K := by
  refine zU zfI rfl fun hl _ => zgG ?_
  have hb := hG.box
  simp only [zdz]
  (repeat' (first | simp -dsimp only [↓zM, ↓loopL, ↓binC, ↓unC, ↓zr, ↓zj, ↓zk, ↓zl, ↓zu, ↓lenC, ↓slcC, ↓convC, ↓boxC, ↓zC, ↓loadC, ↓zx, ↓nilC, ↓zm, ↓zG, ↓zy, ↓idxSC, ↓idxAC, ↓zd, ↓zA, ↓zf, ↓zo, ↓zJ, ↓maxC, ↓minC, ↓zK, ↓zL, ↓mgetC, ↓msetC, ↓mdelC, ↓zb, ↓zH, ↓zi, ↓zc, ↓zt, binA, intOp, strOp, unA, esOf, bnd, intV, zF, fillV, srcE, dm, dm1, consO, cellA, maxL, minL, keepO, Q0, Q1, Q2, Q3, Q4, Q5, zw, zp, zg, zq, zh, Q6, Q7, Q8, Q9, Q10, Q11, Q12, Q13, Q14, Nat.reduceAdd, Q15, Int.reduceToNat, Q16, Q17, Q18, Q19, Q20, reduceIte, Q21, Q22, ze, rep, zN, toDs, toD, zO, Q23, Q24, Q25, Q26, Q27, Q28, Nat.reduceLeDiff, Q29, Nat.reduceSub, Q30, Q31, Q32, sc, Q33, Q34, Q35, Q36, Q37, Q26, Q38, Q39, n0gt, n1gt, n2gt, n0eq, n1eq0, n1eq, n2eq, n0ne, n1ne, n1ne0, n0ne1, i0ne, i0eq, Bool.not_true, Bool.not_false, List.length_map] | ((with_reducible refine And.intro ?_ ?_); focus (first | omega | rfl | decide | (simp; done)))))
  refine zlw hG ?_
  (repeat' (first | simp -dsimp only [↓zM, ↓loopL, ↓binC, ↓unC, ↓zr, ↓zj, ↓zk, ↓zl, ↓zu, ↓lenC, ↓slcC, ↓convC, ↓boxC, ↓zC, ↓loadC, ↓zx, ↓nilC, ↓zm, ↓zG, ↓zy, ↓idxSC, ↓idxAC, ↓zd, ↓zA, ↓zf, ↓zo, ↓zJ, ↓maxC, ↓minC, ↓zK, ↓zL, ↓mgetC, ↓msetC, ↓mdelC, ↓zb, ↓zH, ↓zi, ↓zc, ↓zt, binA, intOp, strOp, unA, esOf, bnd, intV, zF, fillV, srcE, dm, dm1, consO, cellA, maxL, minL, keepO, Q0, Q1, Q2, Q3, Q4, Q5, zw, zp, zg, zq, zh, Q6, Q7, Q8, Q9, Q10, Q11, Q12, Q13, Q14, Nat.reduceAdd, Q15, Int.reduceToNat, Q16, Q17, Q18, Q19, Q20, reduceIte, Q21, Q22, ze, rep, zN, toDs, toD, zO, Q23, Q24, Q25, Q26, Q27, Q28, Nat.reduceLeDiff, Q29, Nat.reduceSub, Q30, Q31, Q32, sc, Q33, Q34, Q35, Q36, Q37, Q26, Q38, Q39, n0gt, n1gt, n2gt, n0eq, n1eq0, n1eq, n2eq, n0ne, n1ne, n1ne0, n0ne1, i0ne, i0eq, Bool.not_true, Bool.not_false, List.length_map, hb] | ((with_reducible refine And.intro ?_ ?_); focus (first | omega | rfl | decide | (simp; done)))))
  (first | refine zP (by simp [Low_d, dmT, dm, dm1, pack, zB, zD, zn]) hl ?_ | refine zE (by simp [Low_d, dmT, dm, dm1, pack, zB, zD, zn]) hl ?_)
  exact hK
theorem c_gSigned {σ : List AObj} {id m t : Nat} {g : List TSign} {s : TSign} (hG : LedAt σ id m t g) {K : AV → List AObj → Prop} (hK : K (.d (.bool (decide (s ∈ g)))) σ) :
    ACall Try.prog zbu [.box id 0, .agg [.d (.int .i64 s.key), .d (.int .i64 s.dig)]] σ K := by
  refine zU zel rfl fun hl _ => zeH ?_
  have hb : ∀ τ, (σ ++ τ)[id]? = _ := fun τ => zae hG.box
  have hm : ∀ τ, (σ ++ τ)[m]? = _ := fun τ => zae hG.map
  simp only [zcJ]
  (repeat' (first | simp -dsimp only [↓zM, ↓loopL, ↓binC, ↓unC, ↓zr, ↓zj, ↓zk, ↓zl, ↓zu, ↓lenC, ↓slcC, ↓convC, ↓boxC, ↓zC, ↓loadC, ↓zx, ↓nilC, ↓zm, ↓zG, ↓zy, ↓idxSC, ↓idxAC, ↓zd, ↓zA, ↓zf, ↓zo, ↓zJ, ↓maxC, ↓minC, ↓zK, ↓zL, ↓mgetC, ↓msetC, ↓mdelC, ↓zb, ↓zH, ↓zi, ↓zc, ↓zt, binA, intOp, strOp, unA, esOf, bnd, intV, zF, fillV, srcE, dm, dm1, consO, cellA, maxL, minL, keepO, Q0, Q1, Q2, Q3, Q4, Q5, zw, zp, zg, zq, zh, Q6, Q7, Q8, Q9, Q10, Q11, Q12, Q13, Q14, Nat.reduceAdd, Q15, Int.reduceToNat, Q16, Q17, Q18, Q19, Q20, reduceIte, Q21, Q22, ze, rep, zN, toDs, toD, zO, Q23, Q24, Q25, Q26, Q27, Q28, Nat.reduceLeDiff, Q29, Nat.reduceSub, Q30, Q31, Q32, sc, Q33, Q34, Q35, Q36, Q37, Q26, Q38, Q39, n0gt, n1gt, n2gt, n0eq, n1eq0, n1eq, n2eq, n0ne, n1ne, n1ne0, n0ne1, i0ne, i0eq, Bool.not_true, Bool.not_false, List.length_map] | ((with_reducible refine And.intro ?_ ?_); focus (first | omega | rfl | decide | (simp; done)))))
  refine zlw (hG.app _) ?_
  by_cases hs : s ∈ g
  · obtain ⟨k, hf⟩ := zgO hs
    rw [decide_eq_true hs] at hK
    (repeat' (first | simp -dsimp only [↓zM, ↓loopL, ↓binC, ↓unC, ↓zr, ↓zj, ↓zk, ↓zl, ↓zu, ↓lenC, ↓slcC, ↓convC, ↓boxC, ↓zC, ↓loadC, ↓zx, ↓nilC, ↓zm, ↓zG, ↓zy, ↓idxSC, ↓idxAC, ↓zd, ↓zA, ↓zf, ↓zo, ↓zJ, ↓maxC, ↓minC, ↓zK, ↓zL, ↓mgetC, ↓msetC, ↓mdelC, ↓zb, ↓zH, ↓zi, ↓zc, ↓zt, binA, intOp, strOp, unA, esOf, bnd, intV, zF, fillV, srcE, dm, dm1, consO, cellA, maxL, minL, keepO, Q0, Q1, Q2, Q3, Q4, Q5, zw, zp, zg, zq, zh, Q6, Q7, Q8, Q9, Q10, Q11, Q12, Q13, Q14, Nat.reduceAdd, Q15, Int.reduceToNat, Q16, Q17, Q18, Q19, Q20, reduceIte, Q21, Q22, ze, rep, zN, toDs, toD, zO, Q23, Q24, Q25, Q26, Q27, Q28, Nat.reduceLeDiff, Q29, Nat.reduceSub, Q30, Q31, Q32, sc, Q33, Q34, Q35, Q36, Q37, Q26, Q38, Q39, n0gt, n1gt, n2gt, n0eq, n1eq0, n1eq, n2eq, n0ne, n1ne, n1ne0, n0ne1, i0ne, i0eq, Bool.not_true, Bool.not_false, List.length_map, hb, hm, hf, zaX, mgetC, zaL, mgetR, zaE] | ((with_reducible refine And.intro ?_ ?_); focus (first | omega | rfl | decide | (simp; done)))))
    (first | refine zP (by simp [Low_d, dmT, dm, dm1, pack, zB, zD, zn]) hl ?_ | refine zE (by simp [Low_d, dmT, dm, dm1, pack, zB, zD, zn]) hl ?_)
    exact hK
  · have hf := zil hs
    rw [decide_eq_false hs] at hK
    (repeat' (first | simp -dsimp only [↓zM, ↓loopL, ↓binC, ↓unC, ↓zr, ↓zj, ↓zk, ↓zl, ↓zu, ↓lenC, ↓slcC, ↓convC, ↓boxC, ↓zC, ↓loadC, ↓zx, ↓nilC, ↓zm, ↓zG, ↓zy, ↓idxSC, ↓idxAC, ↓zd, ↓zA, ↓zf, ↓zo, ↓zJ, ↓maxC, ↓minC, ↓zK, ↓zL, ↓mgetC, ↓msetC, ↓mdelC, ↓zb, ↓zH, ↓zi, ↓zc, ↓zt, binA, intOp, strOp, unA, esOf, bnd, intV, zF, fillV, srcE, dm, dm1, consO, cellA, maxL, minL, keepO, Q0, Q1, Q2, Q3, Q4, Q5, zw, zp, zg, zq, zh, Q6, Q7, Q8, Q9, Q10, Q11, Q12, Q13, Q14, Nat.reduceAdd, Q15, Int.reduceToNat, Q16, Q17, Q18, Q19, Q20, reduceIte, Q21, Q22, ze, rep, zN, toDs, toD, zO, Q23, Q24, Q25, Q26, Q27, Q28, Nat.reduceLeDiff, Q29, Nat.reduceSub, Q30, Q31, Q32, sc, Q33, Q34, Q35, Q36, Q37, Q26, Q38, Q39, n0gt, n1gt, n2gt, n0eq, n1eq0, n1eq, n2eq, n0ne, n1ne, n1ne0, n0ne1, i0ne, i0eq, Bool.not_true, Bool.not_false, List.length_map, hb, hm, hf, zaX, mgetC, zaL, mgetR, zaE] | ((with_reducible refine And.intro ?_ ?_); focus (first | omega | rfl | decide | (simp; done)))))
    (first | refine zP (by simp [Low_d, dmT, dm, dm1, pack, zB, zD, zn]) hl ?_ | refine zE (by simp [Low_d, dmT, dm, dm1, pack, zB, zD, zn]) hl ?_)
    exact hK
theorem c_tSum {σ : List AObj} {id m t : Nat} {l : List (List UInt8)} {b : List UInt8} (hT : TabAt σ id m t l) (hbl : b.length ≤ 1073741824) (hll : l.length ≤ 1048576) {K : AV → List AObj → Prop}
    (hK : K (.d (.int .i64 (sumN l b))) (putTab σ id m t (sumL l b))) : ACall Try.prog zaS [.box id 0, .d (.slice (bcs b))] σ K := by
  refine zU zgj rfl fun hl _ => zhp ?_
  have hb := hT.box
  have hm := hT.map
  have ht := hT.tok
  have hf := mfind_tab l b
  obtain ⟨n1, n2, n3⟩ := hT.ne
  have hlen : (tabE l).length = l.length := List.length_map ..
  simp only [zdY]
  (repeat' (first | simp -dsimp only [↓zM, ↓loopL, ↓binC, ↓unC, ↓zr, ↓zj, ↓zk, ↓zl, ↓zu, ↓lenC, ↓slcC, ↓convC, ↓boxC, ↓zC, ↓loadC, ↓zx, ↓nilC, ↓zm, ↓zG, ↓zy, ↓idxSC, ↓idxAC, ↓zd, ↓zA, ↓zf, ↓zo, ↓zJ, ↓maxC, ↓minC, ↓zK, ↓zL, ↓mgetC, ↓msetC, ↓mdelC, ↓zb, ↓zH, ↓zi, ↓zc, ↓zt, binA, intOp, strOp, unA, esOf, bnd, intV, zF, fillV, srcE, dm, dm1, consO, cellA, maxL, minL, keepO, Q0, Q1, Q2, Q3, Q4, Q5, zw, zp, zg, zq, zh, Q6, Q7, Q8, Q9, Q10, Q11, Q12, Q13, Q14, Nat.reduceAdd, Q15, Int.reduceToNat, Q16, Q17, Q18, Q19, Q20, reduceIte, Q21, Q22, ze, rep, zN, toDs, toD, zO, Q23, Q24, Q25, Q26, Q27, Q28, Nat.reduceLeDiff, Q29, Nat.reduceSub, Q30, Q31, Q32, sc, Q33, Q34, Q35, Q36, Q37, Q26, Q38, Q39, n0gt, n1gt, n2gt, n0eq, n1eq0, n1eq, n2eq, n0ne, n1ne, n1ne0, n0ne1, i0ne, i0eq, Bool.not_true, Bool.not_false, List.length_map] | ((with_reducible refine And.intro ?_ ?_); focus (first | omega | rfl | decide | (simp; done)))))
  refine zlu hT ?_
  cases ho : lookF l b with
  | some k =>
    rw [ho] at hf
    simp only [sumN, sumL, ho] at hK
    rw [hT.self] at hK
    simp only [Option.map_some] at hf
    (repeat' (first | simp -dsimp only [↓zM, ↓loopL, ↓binC, ↓unC, ↓zr, ↓zj, ↓zk, ↓zl, ↓zu, ↓lenC, ↓slcC, ↓convC, ↓boxC, ↓zC, ↓loadC, ↓zx, ↓nilC, ↓zm, ↓zG, ↓zy, ↓idxSC, ↓idxAC, ↓zd, ↓zA, ↓zf, ↓zo, ↓zJ, ↓maxC, ↓minC, ↓zK, ↓zL, ↓mgetC, ↓msetC, ↓mdelC, ↓zb, ↓zH, ↓zi, ↓zc, ↓zt, binA, intOp, strOp, unA, esOf, bnd, intV, zF, fillV, srcE, dm, dm1, consO, cellA, maxL, minL, keepO, Q0, Q1, Q2, Q3, Q4, Q5, zw, zp, zg, zq, zh, Q6, Q7, Q8, Q9, Q10, Q11, Q12, Q13, Q14, Nat.reduceAdd, Q15, Int.reduceToNat, Q16, Q17, Q18, Q19, Q20, reduceIte, Q21, Q22, ze, rep, zN, toDs, toD, zO, Q23, Q24, Q25, Q26, Q27, Q28, Nat.reduceLeDiff, Q29, Nat.reduceSub, Q30, Q31, Q32, sc, Q33, Q34, Q35, Q36, Q37, Q26, Q38, Q39, n0gt, n1gt, n2gt, n0eq, n1eq0, n1eq, n2eq, n0ne, n1ne, n1ne0, n0ne1, i0ne, i0eq, Bool.not_true, Bool.not_false, List.length_map, hb, hm, hf, zbe, zaX, mgetC, zaL, mgetR] | ((with_reducible refine And.intro ?_ ?_); focus (first | omega | rfl | decide | (simp; done)))))
    (first | refine zP (by simp [Low_d, dmT, dm, dm1, pack, zB, zD, zn]) hl ?_ | refine zE (by simp [Low_d, dmT, dm, dm1, pack, zB, zD, zn]) hl ?_)
    exact hK
  | none =>
    rw [ho] at hf
    simp only [sumN, sumL, ho] at hK
    simp only [Option.map_none] at hf
    by_cases hfull : l.length ≥ 1048576
    · rw [if_pos hfull, if_pos hfull, hT.self] at hK
      have hd : decide ((l.length : Int) ≥ 1048576) = true := by simp; omega
      (repeat' (first | simp -dsimp only [↓zM, ↓loopL, ↓binC, ↓unC, ↓zr, ↓zj, ↓zk, ↓zl, ↓zu, ↓lenC, ↓slcC, ↓convC, ↓boxC, ↓zC, ↓loadC, ↓zx, ↓nilC, ↓zm, ↓zG, ↓zy, ↓idxSC, ↓idxAC, ↓zd, ↓zA, ↓zf, ↓zo, ↓zJ, ↓maxC, ↓minC, ↓zK, ↓zL, ↓mgetC, ↓msetC, ↓mdelC, ↓zb, ↓zH, ↓zi, ↓zc, ↓zt, binA, intOp, strOp, unA, esOf, bnd, intV, zF, fillV, srcE, dm, dm1, consO, cellA, maxL, minL, keepO, Q0, Q1, Q2, Q3, Q4, Q5, zw, zp, zg, zq, zh, Q6, Q7, Q8, Q9, Q10, Q11, Q12, Q13, Q14, Nat.reduceAdd, Q15, Int.reduceToNat, Q16, Q17, Q18, Q19, Q20, reduceIte, Q21, Q22, ze, rep, zN, toDs, toD, zO, Q23, Q24, Q25, Q26, Q27, Q28, Nat.reduceLeDiff, Q29, Nat.reduceSub, Q30, Q31, Q32, sc, Q33, Q34, Q35, Q36, Q37, Q26, Q38, Q39, n0gt, n1gt, n2gt, n0eq, n1eq0, n1eq, n2eq, n0ne, n1ne, n1ne0, n0ne1, i0ne, i0eq, Bool.not_true, Bool.not_false, List.length_map, hb, hm, hf, zbe, zaX, mgetC, zaL, mgetR, hlen, hd] | ((with_reducible refine And.intro ?_ ?_); focus (first | omega | rfl | decide | (simp; done)))))
      (first | refine zP (by simp [Low_d, dmT, dm, dm1, pack, zB, zD, zn]) hl ?_ | refine zE (by simp [Low_d, dmT, dm, dm1, pack, zB, zD, zn]) hl ?_)
      exact hK
    · rw [if_neg hfull, if_neg hfull] at hK
      have hd : decide ((l.length : Int) ≥ 1048576) = false := by simp; omega
      have g1 : ∀ τ, (σ ++ τ)[id]? = some (.box [.own t (tabE l), .map m]) := fun τ => zae hb
      have g2 : ∀ τ, (σ ++ τ)[t]? = some (.tok 1 l.length) := fun τ => zae ht
      have s1 : ∀ X τ, (σ ++ τ).set t X = σ.set t X ++ τ := fun X τ => zbo ht
      have hb' : ∀ X, (σ.set t X)[id]? = some (.box [.own t (tabE l), .map m]) := fun X => by rw [List.getElem?_set_ne (Ne.symm n2)]; exact hb
      have g3 : ∀ X τ, (σ.set t X ++ τ)[id]? = some (.box [.own t (tabE l), .map m]) := fun X τ => zae (hb' X)
      have s2 : ∀ X Y τ, (σ.set t X ++ τ).set id Y = (σ.set t X).set id Y ++ τ := fun X Y τ => zbo (hb' X)
      have g4 : ∀ X Y τ, ((σ.set t X).set id Y ++ τ)[id]? = some Y := fun X Y τ => zae (zds (hb' X))
      have hm' : ∀ X Y, ((σ.set t X).set id Y)[m]? = some (.map (tabM l)) := fun X Y => by rw [List.getElem?_set_ne n1, List.getElem?_set_ne (Ne.symm n3)]; exact hm
      have g5 : ∀ X Y τ, ((σ.set t X).set id Y ++ τ)[m]? = some (.map (tabM l)) := fun X Y τ => zae (hm' X Y)
      have s3 : ∀ X Y Z τ, ((σ.set t X).set id Y ++ τ).set m Z = ((σ.set t X).set id Y).set m Z ++ τ := fun X Y Z τ => zbo (hm' X Y)
      (repeat' (first | simp -dsimp only [↓zM, ↓loopL, ↓binC, ↓unC, ↓zr, ↓zj, ↓zk, ↓zl, ↓zu, ↓lenC, ↓slcC, ↓convC, ↓boxC, ↓zC, ↓loadC, ↓zx, ↓nilC, ↓zm, ↓zG, ↓zy, ↓idxSC, ↓idxAC, ↓zd, ↓zA, ↓zf, ↓zo, ↓zJ, ↓maxC, ↓minC, ↓zK, ↓zL, ↓mgetC, ↓msetC, ↓mdelC, ↓zb, ↓zH, ↓zi, ↓zc, ↓zt, binA, intOp, strOp, unA, esOf, bnd, intV, zF, fillV, srcE, dm, dm1, consO, cellA, maxL, minL, keepO, Q0, Q1, Q2, Q3, Q4, Q5, zw, zp, zg, zq, zh, Q6, Q7, Q8, Q9, Q10, Q11, Q12, Q13, Q14, Nat.reduceAdd, Q15, Int.reduceToNat, Q16, Q17, Q18, Q19, Q20, reduceIte, Q21, Q22, ze, rep, zN, toDs, toD, zO, Q23, Q24, Q25, Q26, Q27, Q28, Nat.reduceLeDiff, Q29, Nat.reduceSub, Q30, Q31, Q32, sc, Q33, Q34, Q35, Q36, Q37, Q26, Q38, Q39, n0gt, n1gt, n2gt, n0eq, n1eq0, n1eq, n2eq, n0ne, n1ne, n1ne0, n0ne1, i0ne, i0eq, Bool.not_true, Bool.not_false, List.length_map, hb, hm, hf, zbe, zaX, mgetC, zaL, mgetR, hlen, hd] | ((with_reducible refine And.intro ?_ ?_); focus (first | omega | rfl | decide | (simp; done)))))
      refine zby zcx (by rw [zbk]; omega) ?_
      (repeat' (first | simp -dsimp only [↓zM, ↓loopL, ↓binC, ↓unC, ↓zr, ↓zj, ↓zk, ↓zl, ↓zu, ↓lenC, ↓slcC, ↓convC, ↓boxC, ↓zC, ↓loadC, ↓zx, ↓nilC, ↓zm, ↓zG, ↓zy, ↓idxSC, ↓idxAC, ↓zd, ↓zA, ↓zf, ↓zo, ↓zJ, ↓maxC, ↓minC, ↓zK, ↓zL, ↓mgetC, ↓msetC, ↓mdelC, ↓zb, ↓zH, ↓zi, ↓zc, ↓zt, binA, intOp, strOp, unA, esOf, bnd, intV, zF, fillV, srcE, dm, dm1, consO, cellA, maxL, minL, keepO, Q0, Q1, Q2, Q3, Q4, Q5, zw, zp, zg, zq, zh, Q6, Q7, Q8, Q9, Q10, Q11, Q12, Q13, Q14, Nat.reduceAdd, Q15, Int.reduceToNat, Q16, Q17, Q18, Q19, Q20, reduceIte, Q21, Q22, ze, rep, zN, toDs, toD, zO, Q23, Q24, Q25, Q26, Q27, Q28, Nat.reduceLeDiff, Q29, Nat.reduceSub, Q30, Q31, Q32, sc, Q33, Q34, Q35, Q36, Q37, Q26, Q38, Q39, n0gt, n1gt, n2gt, n0eq, n1eq0, n1eq, n2eq, n0ne, n1ne, n1ne0, n0ne1, i0ne, i0eq, Bool.not_true, Bool.not_false, List.length_map, g1, g2, s1, g3, s2, g4, g5, s3, hf, zbe, zaX, msetC, hlen, zbk] | ((with_reducible refine And.intro ?_ ?_); focus (first | omega | rfl | decide | (simp; done)))))
      refine ⟨hb.symm, by simp, by omega, ?_⟩
      have e : putTab σ id m t (l ++ [b]) = ((σ.set t (AObj.tok 1 (l.length + 1))).set id (AObj.box [AV.own t (tabE l ++ [[D.slice (bcs b)]]), AV.map m])).set m (AObj.map (tabM l ++ [(AV.d (D.str b), AV.d (D.int IntKind.i64 ((l.length + 1 : Nat) : Int)))])) := by
        simp [putTab, tabM_add, tabE]
        rw [← tabM_add]; simp
      rw [← e]
      exact zeo (zhs ..) (by simp [Low_d, dmT, dm, dm1, pack]) (hT.lows hl _) hK
end Go.Proofs.Ythmdpooklflkfaa

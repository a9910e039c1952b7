/- The law RequestBytes, from the contracts. -/
import Derived.Test.YthmdpooklflkfaaRq6
import Derived.Test.YthmdpooklflkfaaSpBulk
import Derived.Test.YthmdpooklflkfaaAwRun
set_option linter.all false
set_option maxRecDepth 100000
set_option linter.unusedSimpArgs false
set_option linter.unusedVariables false
namespace Go.Proofs.Ythmdpooklflkfaa
open Go.AW

def crR : TSigned := ⟨2, 7, ⟨1, [116], [], 0, []⟩, 0, 0⟩
def crS : TSigned := ⟨2, 7, ⟨1, [116], [], 0, []⟩, 15, 1⟩
def crO : TSigned := ⟨3, 7, ⟨1, [116], [], 0, []⟩, 15, 1⟩
theorem cr_check : checkReqF crR = 0 := by decide +kernel
theorem cr_checkS : checkReqF crS = 0 := by decide +kernel
theorem cr_L : sealL [] crR = [reqB crR] := by
  rw [sealL, if_neg (by rw [cr_check]; decide)]; rfl
theorem cr_N : sumN [] (reqB crR) = 1 := rfl
theorem cr_E : sealE [] crR = 0 := by
  rw [sealE, if_neg (by rw [cr_check]; decide), cr_N]; decide
theorem cr_S : sealS [] crR = crS := by
  rw [sealS, if_pos cr_E, cr_N]; rfl
theorem cr_G : sealG [] [] crR = [⟨15, 1⟩] := by
  rw [sealG, if_neg (by rw [cr_check]; decide), cr_N]; decide
theorem cr_V : validF [reqB crR] [⟨15, 1⟩] crS = true := by
  have : reqB crS = reqB crR := rfl
  have h : lookF [reqB crR] (reqB crR) = some 0 := by simp [lookF, lookAt]
  rw [validF, this, h, decide_eq_true cr_checkS]
  decide
theorem cr_W : validF [reqB crR] [⟨15, 1⟩] crO = false := by
  have hk : ¬ (crO.key = keyF crO.client) := by decide
  simp only [validF]
  cases lookF [reqB crR] (reqB crO) <;> simp [hk]
theorem c_create8 {σ : List AObj} {K : AV → List AObj → Prop} (hK : K (reqA crR) σ) : ACall Try.prog n_l08_create [] σ K := by
  refine acall_of isA_l08_create rfl fun hl _ => s_l08_create ?_
  simp only [S_l08_create]
  (repeat' (first | simp -dsimp only [↓acallL, ↓loopL, ↓binC, ↓unC, ↓condC_b, ↓guardC_T, ↓guardC_F, ↓guardC_0, ↓pickC_b, ↓lenC, ↓slcC, ↓convC, ↓boxC, ↓allocC, ↓loadC, ↓storeC, ↓nilC, ↓faddrC, ↓fieldC, ↓iaddrC, ↓idxSC, ↓idxAC, ↓extractC, ↓buildC, ↓mksliceC, ↓appendC, ↓isnilC, ↓maxC, ↓minC, ↓callvC, ↓mkmapC, ↓mgetC, ↓msetC, ↓mdelC, ↓headC_cons, ↓rangeC, ↓BBL_true, ↓BBL_false, ↓BBL_not, binA, intOp, strOp, unA, esOf, bnd, intV, cellsA, fillV, srcE, dm, dm1, consO, cellA, maxL, minL, keepO, Q0, Q1, Q2, Q3, Q4, Q5, len_app, get_app, get_app0, set_app, set_app0, Q6, Q7, Q8, Q9, Q10, Q11, Q12, Q13, Q14, Nat.reduceAdd, Q15, Int.reduceToNat, Q16, Q17, Q18, Q19, Q20, reduceIte, Q21, Q22, recsE_len, rep, splice, toDs, toD, chunks, Q23, Q24, Q25, Q26, Q27, Q28, Nat.reduceLeDiff, Q29, Nat.reduceSub, Q30, Q31, Q32, sc, Q33, Q34, Q35, Q36, Q37, Q26, Q38, Q39, n0gt, n1gt, n2gt, n0eq, n1eq0, n1eq, n2eq, n0ne, n1ne, n1ne0, n0ne1, i0ne, i0eq, Bool.not_true, Bool.not_false, List.length_map] | ((with_reducible refine And.intro ?_ ?_); focus (first | omega | rfl | decide | (simp; done)))))
  (first | refine ends_plain (by simp [Low_d, dmT, dm, dm1, pack, Low_tup, Low_agg, Low_exact]) hl ?_ | refine ends_plain0 (by simp [Low_d, dmT, dm, dm1, pack, Low_tup, Low_agg, Low_exact]) hl ?_)
  exact hK
theorem c_begun8 {σ : List AObj} {K : AV → List AObj → Prop} (hK : K (.d (.bool true)) σ) : ACall Try.prog n_l08_begun [] σ K := by
  refine acall_of isA_l08_begun rfl fun hl _ => s_l08_begun ?_
  simp only [S_l08_begun]
  refine c_newTL fun T hT6 hTL => ?_
  have hpre : ∃ T', σ ++ T = σ ++ T' := ⟨_, rfl⟩
  obtain ⟨S, hS⟩ : ∃ S, σ ++ T = S := ⟨_, rfl⟩
  rw [hS] at hTL ⊢
  refine c_create8 ?_
  rw [show S = S ++ [] from (List.append_nil S).symm]
  refine c_sealTL (τ := []) hTL .nil (by simp) (x := crR) (by decide) fun S' hl' hTL' hS' => ?_
  rw [cr_L, cr_G] at hTL'
  obtain ⟨T2, hT2⟩ := putTL_pre (a := σ.length) (σ := σ) (T := T) (Nat.le_refl _) (sealL [] crR) (sealG [] [] crR)
  rw [hS, ← hS'] at hT2
  rw [cr_E, cr_S]
  simp only [signedA, List.append_nil]
  have hck : (crS.key == 15 && crS.dig == 1) = true := by decide
  (repeat' (first | simp -dsimp only [↓acallL, ↓loopL, ↓binC, ↓unC, ↓condC_b, ↓guardC_T, ↓guardC_F, ↓guardC_0, ↓pickC_b, ↓lenC, ↓slcC, ↓convC, ↓boxC, ↓allocC, ↓loadC, ↓storeC, ↓nilC, ↓faddrC, ↓fieldC, ↓iaddrC, ↓idxSC, ↓idxAC, ↓extractC, ↓buildC, ↓mksliceC, ↓appendC, ↓isnilC, ↓maxC, ↓minC, ↓callvC, ↓mkmapC, ↓mgetC, ↓msetC, ↓mdelC, ↓headC_cons, ↓rangeC, ↓BBL_true, ↓BBL_false, ↓BBL_not, binA, intOp, strOp, unA, esOf, bnd, intV, cellsA, fillV, srcE, dm, dm1, consO, cellA, maxL, minL, keepO, Q0, Q1, Q2, Q3, Q4, Q5, len_app, get_app, get_app0, set_app, set_app0, Q6, Q7, Q8, Q9, Q10, Q11, Q12, Q13, Q14, Nat.reduceAdd, Q15, Int.reduceToNat, Q16, Q17, Q18, Q19, Q20, reduceIte, Q21, Q22, recsE_len, rep, splice, toDs, toD, chunks, Q23, Q24, Q25, Q26, Q27, Q28, Nat.reduceLeDiff, Q29, Nat.reduceSub, Q30, Q31, Q32, sc, Q33, Q34, Q35, Q36, Q37, Q26, Q38, Q39, n0gt, n1gt, n2gt, n0eq, n1eq0, n1eq, n2eq, n0ne, n1ne, n1ne0, n0ne1, i0ne, i0eq, Bool.not_true, Bool.not_false, List.length_map, intsEq, hck] | ((with_reducible refine And.intro ?_ ?_); focus (first | omega | rfl | decide | (simp; done)))))
  refine c_rqValid (s := crS) (hTL'.tab.app _) (hTL'.led.app _) (by decide) ?_
  rw [cr_V]
  (repeat' (first | simp -dsimp only [↓acallL, ↓loopL, ↓binC, ↓unC, ↓condC_b, ↓guardC_T, ↓guardC_F, ↓guardC_0, ↓pickC_b, ↓lenC, ↓slcC, ↓convC, ↓boxC, ↓allocC, ↓loadC, ↓storeC, ↓nilC, ↓faddrC, ↓fieldC, ↓iaddrC, ↓idxSC, ↓idxAC, ↓extractC, ↓buildC, ↓mksliceC, ↓appendC, ↓isnilC, ↓maxC, ↓minC, ↓callvC, ↓mkmapC, ↓mgetC, ↓msetC, ↓mdelC, ↓headC_cons, ↓rangeC, ↓BBL_true, ↓BBL_false, ↓BBL_not, binA, intOp, strOp, unA, esOf, bnd, intV, cellsA, fillV, srcE, dm, dm1, consO, cellA, maxL, minL, keepO, Q0, Q1, Q2, Q3, Q4, Q5, len_app, get_app, get_app0, set_app, set_app0, Q6, Q7, Q8, Q9, Q10, Q11, Q12, Q13, Q14, Nat.reduceAdd, Q15, Int.reduceToNat, Q16, Q17, Q18, Q19, Q20, reduceIte, Q21, Q22, recsE_len, rep, splice, toDs, toD, chunks, Q23, Q24, Q25, Q26, Q27, Q28, Nat.reduceLeDiff, Q29, Nat.reduceSub, Q30, Q31, Q32, sc, Q33, Q34, Q35, Q36, Q37, Q26, Q38, Q39, n0gt, n1gt, n2gt, n0eq, n1eq0, n1eq, n2eq, n0ne, n1ne, n1ne0, n0ne1, i0ne, i0eq, Bool.not_true, Bool.not_false, List.length_map, intsEq, beq_self_eq_true] | ((with_reducible refine And.intro ?_ ?_); focus (first | omega | rfl | decide | (simp; done)))))
  refine c_rqValid (s := crO) (hTL'.tab.app _) (hTL'.led.app _) (by decide) ?_
  rw [cr_W]
  (repeat' (first | simp -dsimp only [↓acallL, ↓loopL, ↓binC, ↓unC, ↓condC_b, ↓guardC_T, ↓guardC_F, ↓guardC_0, ↓pickC_b, ↓lenC, ↓slcC, ↓convC, ↓boxC, ↓allocC, ↓loadC, ↓storeC, ↓nilC, ↓faddrC, ↓fieldC, ↓iaddrC, ↓idxSC, ↓idxAC, ↓extractC, ↓buildC, ↓mksliceC, ↓appendC, ↓isnilC, ↓maxC, ↓minC, ↓callvC, ↓mkmapC, ↓mgetC, ↓msetC, ↓mdelC, ↓headC_cons, ↓rangeC, ↓BBL_true, ↓BBL_false, ↓BBL_not, binA, intOp, strOp, unA, esOf, bnd, intV, cellsA, fillV, srcE, dm, dm1, consO, cellA, maxL, minL, keepO, Q0, Q1, Q2, Q3, Q4, Q5, len_app, get_app, get_app0, set_app, set_app0, Q6, Q7, Q8, Q9, Q10, Q11, Q12, Q13, Q14, Nat.reduceAdd, Q15, Int.reduceToNat, Q16, Q17, Q18, Q19, Q20, reduceIte, Q21, Q22, recsE_len, rep, splice, toDs, toD, chunks, Q23, Q24, Q25, Q26, Q27, Q28, Nat.reduceLeDiff, Q29, Nat.reduceSub, Q30, Q31, Q32, sc, Q33, Q34, Q35, Q36, Q37, Q26, Q38, Q39, n0gt, n1gt, n2gt, n0eq, n1eq0, n1eq, n2eq, n0ne, n1ne, n1ne0, n0ne1, i0ne, i0eq, Bool.not_true, Bool.not_false, List.length_map, intsEq, beq_self_eq_true] | ((with_reducible refine And.intro ?_ ?_); focus (first | omega | rfl | decide | (simp; done)))))
  rw [hT2, List.append_assoc]
  (first | refine ends_plain (by simp [Low_d, dmT, dm, dm1, pack, Low_tup, Low_agg, Low_exact]) hl ?_ | refine ends_plain0 (by simp [Low_d, dmT, dm, dm1, pack, Low_tup, Low_agg, Low_exact]) hl ?_)
  exact hK
end Go.Proofs.Ythmdpooklflkfaa

/- Contracts: the law's own: a pool that was begun. -/
import Derived.Test.YtnfienilahfdjaaPo7
set_option linter.all false
set_option maxRecDepth 100000
set_option linter.unusedSimpArgs false
set_option linter.unusedVariables false
namespace Go.Proofs.Ytnfienilahfdjaa
open Go.AW

def sgn (c t : Int) : TSigned := ⟨c, t, noOp, 1, 1⟩
theorem sgn_ok (c t : Int) : okO (sgn c t).op := ⟨by simp [sgn, noOp], by simp [sgn, noOp], by simp [sgn, noOp], by simp [sgn, noOp]⟩
theorem c_lSigned {σ : List AObj} {c t : Int} {K : AV → List AObj → Prop} (hK : K (signedA (sgn c t)) σ) : ACall Try.prog n_l18_signed [.d (.int .i64 c), .d (.int .i64 t)] σ K := by
  refine acE2 e_l18_signed fun hl => ?_
  simp only [S_l18_signed, iN, bT, bF, eN, zl1, zl3]
  refine gq16 ?_
  refine finE hl ?_
  exact hK
def q5 : PQ := putQ noPool (sgn 2 5)
def q7 : PQ := putQ (putQ q5 (sgn 2 4)) (sgn 2 7)
def q8 : PQ := doneQ (doneQ q7 2 6) 2 7
theorem b1 : canPut noPool (sgn 2 5) = true := by decide
theorem b2 : canPut q5 (sgn 2 4) = false := by decide
theorem b3 : canPut (putQ q5 (sgn 2 4)) (sgn 2 7) = true := by decide
theorem b4 : (waitF q7).length = 1 := by decide
theorem b5 : (pickF (waitF q7) []).length = 1 := by decide
theorem b6 : (pickF (waitF q7) [[sgn 2 7]]).length = 0 := by decide
theorem b7 : canDone q7 2 6 = false := by decide
theorem b8 : canDone (doneQ q7 2 6) 2 7 = true := by decide
theorem b9 : (waitF q8).length = 0 := by decide
theorem gq22 {P Q : Prop} (h : Q) (e : Hd Q → P := by intro h; (repeat' first | simp -dsimp only [↓cA_u, ↓acallL, ↓loopL, ↓bP_u, ↓gF_b, ↓gT_b, ↓gF_0, ↓gT_0, ↓gFm_b, ↓gTm_b, ↓gFm_0, ↓gTm_0, ↓fl_u, ↓nfl_u, ↓gFl_b, ↓gTl_b, ↓gFl_0, ↓gTl_0, ↓il_u, ↓cp_u, ↓orC_b, ↓anC_b, ↓z1_u, ↓z2_u, ↓m1_u, iN, bT, bF, eN, ↓binC, ↓unC, ↓condC_b, ↓guardC_T, ↓guardC_F, ↓guardC_0, ↓pickC_b, ↓lenC, ↓slcC, ↓convC, ↓boxC, ↓allocC, ↓loadC, ↓storeC, ↓nilC, ↓faddrC, ↓fieldC, ↓iaddrC, ↓idxSC, ↓idxAC, ↓extractC, ↓buildC, ↓mksliceC, ↓appendC, ↓isnilC, ↓maxC, ↓minC, ↓callvC, ↓mkmapC, ↓mgetC, ↓msetC, ↓mdelC, ↓headC_cons, ↓rangeC, ↓BBL_true, ↓BBL_false, ↓BBL_not, binA, intOp, strOp, unA, esOf, bnd, intV, cellsA, fillV, srcE, dm, dm1, consO, cellA, maxL, minL, keepO, Q0, Q1, Q2, Q3, Q4, Q5, len_app, get_app, get_app0, set_app, set_app0, Q6, Q7, Q8, Q9, Q10, Q11, Q12, Q13, Q14, Nat.reduceAdd, Q15, Int.reduceToNat, Q16, Q17, Q18, Q19, Q20, reduceIte, Q21, Q22, recsE_len, rep, splice, toDs, toD, chunks, Q23, Q24, Q25, Q26, Q27, Q28, Nat.reduceLeDiff, Q29, Nat.reduceSub, Q30, Q31, Q32, sc, Q33, Q34, Q35, Q36, Q37, Q26, Q38, Q39, n0gt, n1gt, n2gt, n0eq, n1eq0, n1eq, n2eq, n0ne, n1ne, n1ne0, n0ne1, i0ne, i0eq, Bool.not_true, Bool.not_false, List.length_map, b5] | with_reducible refine andA ?_ | fail); exact h.go) : P := e ⟨h⟩
theorem gq23 {P Q : Prop} (h : Q) (e : Hd Q → P := by intro h; (repeat' first | simp -dsimp only [↓cA_u, ↓acallL, ↓loopL, ↓bP_u, ↓gF_b, ↓gT_b, ↓gF_0, ↓gT_0, ↓gFm_b, ↓gTm_b, ↓gFm_0, ↓gTm_0, ↓fl_u, ↓nfl_u, ↓gFl_b, ↓gTl_b, ↓gFl_0, ↓gTl_0, ↓il_u, ↓cp_u, ↓orC_b, ↓anC_b, ↓z1_u, ↓z2_u, ↓m1_u, iN, bT, bF, eN, ↓binC, ↓unC, ↓condC_b, ↓guardC_T, ↓guardC_F, ↓guardC_0, ↓pickC_b, ↓lenC, ↓slcC, ↓convC, ↓boxC, ↓allocC, ↓loadC, ↓storeC, ↓nilC, ↓faddrC, ↓fieldC, ↓iaddrC, ↓idxSC, ↓idxAC, ↓extractC, ↓buildC, ↓mksliceC, ↓appendC, ↓isnilC, ↓maxC, ↓minC, ↓callvC, ↓mkmapC, ↓mgetC, ↓msetC, ↓mdelC, ↓headC_cons, ↓rangeC, ↓BBL_true, ↓BBL_false, ↓BBL_not, binA, intOp, strOp, unA, esOf, bnd, intV, cellsA, fillV, srcE, dm, dm1, consO, cellA, maxL, minL, keepO, Q0, Q1, Q2, Q3, Q4, Q5, len_app, get_app, get_app0, set_app, set_app0, Q6, Q7, Q8, Q9, Q10, Q11, Q12, Q13, Q14, Nat.reduceAdd, Q15, Int.reduceToNat, Q16, Q17, Q18, Q19, Q20, reduceIte, Q21, Q22, recsE_len, rep, splice, toDs, toD, chunks, Q23, Q24, Q25, Q26, Q27, Q28, Nat.reduceLeDiff, Q29, Nat.reduceSub, Q30, Q31, Q32, sc, Q33, Q34, Q35, Q36, Q37, Q26, Q38, Q39, n0gt, n1gt, n2gt, n0eq, n1eq0, n1eq, n2eq, n0ne, n1ne, n1ne0, n0ne1, i0ne, i0eq, Bool.not_true, Bool.not_false, List.length_map, b6] | with_reducible refine andA ?_ | fail); exact h.go) : P := e ⟨h⟩
theorem c_begun {σ : List AObj} {K : AV → List AObj → Prop} (hK : K (.d (.bool true)) σ) : ACall Try.prog n_l18_begun [] σ K := by
  refine acE0 e_l18_begun fun hl => ?_
  have i5 : PoolI q5 := noPool_I.put (sgn_ok 2 5)
  have i54 : PoolI (putQ q5 (sgn 2 4)) := i5.put (sgn_ok 2 4)
  have i7 : PoolI q7 := i54.put (sgn_ok 2 7)
  have i76 : PoolI (doneQ q7 2 6) := i7.done
  simp only [S_l18_begun, iN, bT, bF, eN, zl1]
  refine gq16 ?_
  refine c_poolNew ?_
  refine gq16 ?_
  refine c_lSigned ?_
  refine gq16 ?_
  refine c_poolPut (q := noPool) (x := sgn 2 5) (by simp) noPool_I (sgn_ok 2 5) ?_
  rw [b1]
  refine gq16 ?_
  refine c_lSigned ?_
  refine gq16 ?_
  refine c_poolPut (q := q5) (x := sgn 2 4) (by simp [q5]) i5 (sgn_ok 2 4) ?_
  rw [b2]
  refine gq16 ?_
  refine c_lSigned ?_
  refine gq16 ?_
  refine c_poolPut (q := putQ q5 (sgn 2 4)) (x := sgn 2 7) (by simp) i54 (sgn_ok 2 7) ?_
  rw [b3]
  refine gq16 ?_
  refine c_poolLen (q := q7) (by simp [q7]) i7 ?_
  rw [b4]
  refine gq16 ?_
  refine c_poolPick (q := q7) (op := []) (by simp [q7]) i7 (by simp) ?_
  refine gq22 ?_
  refine c_lSigned ?_
  refine gq16 ?_
  refine c_poolPick (q := q7) (op := [[sgn 2 7]]) (by simp [q7]) i7 (by simp) ?_
  refine gq23 ?_
  refine c_poolDone (q := q7) (c := 2) (tm := 6) (by simp [q7]) i7 ?_
  rw [b7]
  refine gq16 ?_
  refine c_poolDone (q := doneQ q7 2 6) (c := 2) (tm := 7) (by simp) i76 ?_
  rw [b8]
  refine gq16 ?_
  refine c_poolLen (q := q8) (by simp [q8]) i76.done ?_
  rw [b9]
  refine gq16 ?_
  refine finE hl ?_
  exact hK
end Go.Proofs.Ytnfienilahfdjaa

/- Contracts: the program's proof of a record. -/
import Derived.Test.YtaocmalhjfakdaaCk1
import Derived.Test.YtaocmalhjfakdaaCk2
import Derived.Test.YtaocmalhjfakdaaPr3
set_option linter.all false
set_option maxRecDepth 100000
set_option linter.unusedSimpArgs false
set_option linter.unusedVariables false
namespace Go.Proofs.Ytaocmalhjfakdaa
open Go.AW

theorem gq11 {P Q : Prop} (h : Q) (e : Hd Q → P := by intro h; (repeat' first | simp -dsimp only [↓cA_u, ↓acallL, ↓loopL, ↓bP_u, ↓gF_b, ↓gT_b, ↓gF_0, ↓gT_0, ↓gFm_b, ↓gTm_b, ↓gFm_0, ↓gTm_0, ↓fl_u, ↓nfl_u, ↓gFl_b, ↓gTl_b, ↓gFl_0, ↓gTl_0, ↓il_u, ↓cp_u, ↓orC_b, ↓anC_b, ↓z1_u, ↓z2_u, ↓m1_u, iN, bT, bF, eN, ↓binC, ↓unC, ↓condC_b, ↓guardC_T, ↓guardC_F, ↓guardC_0, ↓pickC_b, ↓lenC, ↓slcC, ↓convC, ↓boxC, ↓allocC, ↓loadC, ↓storeC, ↓nilC, ↓faddrC, ↓fieldC, ↓iaddrC, ↓idxSC, ↓idxAC, ↓extractC, ↓buildC, ↓mksliceC, ↓appendC, ↓isnilC, ↓maxC, ↓minC, ↓callvC, ↓mkmapC, ↓mgetC, ↓msetC, ↓mdelC, ↓headC_cons, ↓rangeC, ↓BBL_true, ↓BBL_false, ↓BBL_not, binA, intOp, strOp, unA, esOf, bnd, intV, cellsA, fillV, srcE, dm, dm1, consO, cellA, maxL, minL, keepO, Q0, Q1, Q2, Q3, Q4, Q5, len_app, get_app, get_app0, set_app, set_app0, Q6, Q7, Q8, Q9, Q10, Q11, Q12, Q13, Q14, Nat.reduceAdd, Q15, Int.reduceToNat, Q16, Q17, Q18, Q19, Q20, reduceIte, Q21, Q22, recsE_len, rep, splice, toDs, toD, chunks, Q23, Q24, Q25, Q26, Q27, Q28, Nat.reduceLeDiff, Q29, Nat.reduceSub, Q30, Q31, Q32, sc, Q33, Q34, Q35, Q36, Q37, Q26, Q38, Q39, n0gt, n1gt, n2gt, n0eq, n1eq0, n1eq, n2eq, n0ne, n1ne, n1ne0, n0ne1, i0ne, i0eq, Bool.not_true, Bool.not_false, List.length_map] | with_reducible refine andA ?_ | fail); exact h.go) : P := e ⟨h⟩
theorem c_clRec {σ : List AObj} {l : List UInt8} (hn : l.length ≤ 1073741824) {K : AV → List AObj → Prop} (hK : K (.d (.slice (bcs l))) σ) : ACall Try.prog n_slices_Clone_api_Record_byte [.d (.slice (bcs l))] σ K := by
  refine acE1 e_slices_Clone_api_Record_byte fun hl => ?_
  have hlen := bcs_length l
  have h2 : ∀ e ∈ bcs l, e.length = 1 := bcs_one
  simp only [S_slices_Clone_api_Record_byte, iN, bT, bF, eN, isnilC, esOf]
  obtain ⟨es, hes⟩ : ∃ es, bcs l = es := ⟨_, rfl⟩
  rw [hes] at hlen h2 hK ⊢
  cases es with
  | nil =>
    refine ⟨?_, ?_⟩
    · refine gq11 ?_
      refine finE hl ?_
      exact hK
    · refine gq11 ?_
      refine finE hl ?_
      exact hK
  | cons e es =>
    simp only [condC_b, BBL_false, consO, fillV, rep, mksliceC, toDs, chunks, appendC, srcE]
    refine ⟨h2, by simp, by rw [hlen]; simp; omega, ?_⟩
    refine finE hl ?_
    exact hK
end Go.Proofs.Ytaocmalhjfakdaa

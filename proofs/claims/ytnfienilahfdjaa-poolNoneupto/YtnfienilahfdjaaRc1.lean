/- Contracts: what is wrong with requests, signatures and batches, on both sides. -/
import Derived.Test.YtnfienilahfdjaaOp2
import Derived.Test.YtnfienilahfdjaaRq1
import Derived.Test.YtnfienilahfdjaaSpRc
set_option linter.all false
set_option maxRecDepth 100000
set_option linter.unusedSimpArgs false
set_option linter.unusedVariables false
namespace Go.Proofs.Ytnfienilahfdjaa
open Go.AW

theorem smallB_of {b : List TSigned} (h : okB b) : smallB b := ⟨h.1, fun x hx => ⟨(h.2 x hx).2.2.1, (h.2 x hx).2.2.2⟩⟩
theorem gq16 {P Q : Prop} (h : Q) (e : Hd Q → P := by intro h; (repeat' first | simp -dsimp only [↓cA_u, ↓acallL, ↓loopL, ↓bP_u, ↓gF_b, ↓gT_b, ↓gF_0, ↓gT_0, ↓gFm_b, ↓gTm_b, ↓gFm_0, ↓gTm_0, ↓fl_u, ↓nfl_u, ↓gFl_b, ↓gTl_b, ↓gFl_0, ↓gTl_0, ↓il_u, ↓cp_u, ↓orC_b, ↓anC_b, ↓z1_u, ↓z2_u, ↓m1_u, iN, bT, bF, eN, ↓binC, ↓unC, ↓condC_b, ↓guardC_T, ↓guardC_F, ↓guardC_0, ↓pickC_b, ↓lenC, ↓slcC, ↓convC, ↓boxC, ↓allocC, ↓loadC, ↓storeC, ↓nilC, ↓faddrC, ↓fieldC, ↓iaddrC, ↓idxSC, ↓idxAC, ↓extractC, ↓buildC, ↓mksliceC, ↓appendC, ↓isnilC, ↓maxC, ↓minC, ↓callvC, ↓mkmapC, ↓mgetC, ↓msetC, ↓mdelC, ↓headC_cons, ↓rangeC, ↓BBL_true, ↓BBL_false, ↓BBL_not, binA, intOp, strOp, unA, esOf, bnd, intV, cellsA, fillV, srcE, dm, dm1, consO, cellA, maxL, minL, keepO, Q0, Q1, Q2, Q3, Q4, Q5, len_app, get_app, get_app0, set_app, set_app0, Q6, Q7, Q8, Q9, Q10, Q11, Q12, Q13, Q14, Nat.reduceAdd, Q15, Int.reduceToNat, Q16, Q17, Q18, Q19, Q20, reduceIte, Q21, Q22, recsE_len, rep, splice, toDs, toD, chunks, Q23, Q24, Q25, Q26, Q27, Q28, Nat.reduceLeDiff, Q29, Nat.reduceSub, Q30, Q31, Q32, sc, Q33, Q34, Q35, Q36, Q37, Q26, Q38, Q39, n0gt, n1gt, n2gt, n0eq, n1eq0, n1eq, n2eq, n0ne, n1ne, n1ne0, n0ne1, i0ne, i0eq, Bool.not_true, Bool.not_false, List.length_map] | with_reducible refine andA ?_ | fail); exact h.go) : P := e ⟨h⟩
theorem c_rqCheck {σ : List AObj} {x : TSigned} (hx : okO x.op) {K : AV → List AObj → Prop} (hK : K (.d (.int .i64 (checkReqF x))) σ) : ACall Try.prog n_request_Check [reqA x] σ K := by
  refine acE1 e_request_Check fun hl => ?_
  have fin : ∀ z, checkReqF x = z → K (.d (.int .i64 z)) σ := fun z h => h ▸ hK
  clear hK
  simp only [S_request_Check, iN, bT, bF, eN, reqA]
  (repeat' (first | (refine gq1 ?_; try with_reducible exact True.intro) | (refine BBL_intro (fun h => ?_) (fun h => ?_) <;> (try rw [h])) | ((with_reducible refine And.intro ?_ ?_); focus (first | omega | rfl | decide))))
  all_goals first
    | (refine finE hl ?_
       (try simp only [decide_eq_true_eq, decide_eq_false_iff_not, beq_iff_eq, beq_eq_false_iff_ne, bne_iff_ne, ne_eq, Bool.not_eq_true', Bool.not_eq_false', bne_eq_false_iff_eq] at *)
       exact fin _ (by rw [checkReqF, if_pos (by omega)]))
    | skip
  refine c_Check (o := x.op) hx.1 hx.2.1 hx.2.2.1 ?_
  refine gq16 ?_
  refine finE hl ?_
  (try simp only [decide_eq_true_eq, decide_eq_false_iff_not, beq_iff_eq, beq_eq_false_iff_ne, bne_iff_ne, ne_eq, Bool.not_eq_true', Bool.not_eq_false', bne_eq_false_iff_eq] at *)
  exact fin _ (by rw [checkReqF, if_neg (by omega)])
theorem c_rqCheckSign {σ : List AObj} {k d : Int} {K : AV → List AObj → Prop} (hK : K (.d (.int .i64 (checkSignF k d))) σ) : ACall Try.prog n_request_CheckSign [.agg [.d (.int .i64 k), .d (.int .i64 d)]] σ K := by
  refine acE1 e_request_CheckSign fun hl => ?_
  have fin : ∀ z, checkSignF k d = z → K (.d (.int .i64 z)) σ := fun z h => h ▸ hK
  clear hK
  simp only [S_request_CheckSign, iN, bT, bF, eN]
  (repeat' (first | (refine gq1 ?_; try with_reducible exact True.intro) | (refine BBL_intro (fun h => ?_) (fun h => ?_) <;> (try rw [h])) | ((with_reducible refine And.intro ?_ ?_); focus (first | omega | rfl | decide))))
  all_goals
    refine finE hl ?_
    (try simp only [decide_eq_true_eq, decide_eq_false_iff_not, beq_iff_eq, beq_eq_false_iff_ne, bne_iff_ne, ne_eq, Bool.not_eq_true', Bool.not_eq_false', bne_eq_false_iff_eq] at *)
    first | exact fin _ (by rw [checkSignF, if_pos (by omega)]) | exact fin _ (by rw [checkSignF, if_neg (by omega)])
end Go.Proofs.Ytnfienilahfdjaa

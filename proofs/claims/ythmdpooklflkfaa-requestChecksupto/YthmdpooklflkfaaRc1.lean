/- Contracts: what is wrong with requests, signatures and batches, on both sides. -/
import Derived.Test.YthmdpooklflkfaaOp2
import Derived.Test.YthmdpooklflkfaaRq1
import Derived.Test.YthmdpooklflkfaaSpRc
set_option linter.all false
set_option maxRecDepth 100000
set_option linter.unusedSimpArgs false
set_option linter.unusedVariables false
namespace Go.Proofs.Ythmdpooklflkfaa
open Go.AW

theorem smallB_of {b : List TSigned} (h : okB b) : smallB b := ⟨h.1, fun x hx => ⟨(h.2 x hx).2.2.1, (h.2 x hx).2.2.2⟩⟩
theorem c_rqCheck {σ : List AObj} {x : TSigned} (hx : okO x.op) {K : AV → List AObj → Prop} (hK : K (.d (.int .i64 (checkReqF x))) σ) : ACall Try.prog n_request_Check [reqA x] σ K := by
  refine acall_of isA_request_Check rfl fun hl _ => s_request_Check ?_
  have fin : ∀ z, checkReqF x = z → K (.d (.int .i64 z)) σ := fun z h => h ▸ hK
  clear hK
  simp only [S_request_Check, reqA]
  (repeat' (first | simp -dsimp only [↓acallL, ↓loopL, ↓binC, ↓unC, ↓condC_b, ↓guardC_T, ↓guardC_F, ↓guardC_0, ↓pickC_b, ↓lenC, ↓slcC, ↓convC, ↓boxC, ↓allocC, ↓loadC, ↓storeC, ↓nilC, ↓faddrC, ↓fieldC, ↓iaddrC, ↓idxSC, ↓idxAC, ↓extractC, ↓buildC, ↓mksliceC, ↓appendC, ↓isnilC, ↓maxC, ↓minC, ↓callvC, ↓mkmapC, ↓mgetC, ↓msetC, ↓mdelC, ↓headC_cons, ↓rangeC, ↓BBL_true, ↓BBL_false, ↓BBL_not, binA, intOp, strOp, unA, esOf, bnd, intV, cellsA, fillV, srcE, dm, dm1, consO, cellA, maxL, minL, keepO, Q0, Q1, Q2, Q3, Q4, Q5, len_app, get_app, get_app0, set_app, set_app0, Q6, Q7, Q8, Q9, Q10, Q11, Q12, Q13, Q14, Nat.reduceAdd, Q15, Int.reduceToNat, Q16, Q17, Q18, Q19, Q20, reduceIte, Q21, Q22, recsE_len, rep, splice, toDs, toD, chunks, Q23, Q24, Q25, Q26, Q27, Q28, Nat.reduceLeDiff, Q29, Nat.reduceSub, Q30, Q31, Q32, sc, Q33, Q34, Q35] | (refine BBL_intro (fun h => ?_) (fun h => ?_) <;> (try rw [h])) | ((with_reducible refine And.intro ?_ ?_); focus (first | omega | rfl | decide))))
  all_goals first
    | ((first | refine ends_plain (by simp [Low_d, dmT, dm, dm1, pack, Low_tup, Low_agg, Low_exact]) hl ?_ | refine ends_plain0 (by simp [Low_d, dmT, dm, dm1, pack, Low_tup, Low_agg, Low_exact]) hl ?_)
       (try simp only [decide_eq_true_eq, decide_eq_false_iff_not, beq_iff_eq, beq_eq_false_iff_ne, bne_iff_ne, ne_eq, Bool.not_eq_true', Bool.not_eq_false', bne_eq_false_iff_eq] at *)
       exact fin _ (by rw [checkReqF, if_pos (by omega)]))
    | skip
  refine c_Check (o := x.op) hx.1 hx.2.1 hx.2.2.1 ?_
  (repeat' (first | simp -dsimp only [↓acallL, ↓loopL, ↓binC, ↓unC, ↓condC_b, ↓guardC_T, ↓guardC_F, ↓guardC_0, ↓pickC_b, ↓lenC, ↓slcC, ↓convC, ↓boxC, ↓allocC, ↓loadC, ↓storeC, ↓nilC, ↓faddrC, ↓fieldC, ↓iaddrC, ↓idxSC, ↓idxAC, ↓extractC, ↓buildC, ↓mksliceC, ↓appendC, ↓isnilC, ↓maxC, ↓minC, ↓callvC, ↓mkmapC, ↓mgetC, ↓msetC, ↓mdelC, ↓headC_cons, ↓rangeC, ↓BBL_true, ↓BBL_false, ↓BBL_not, binA, intOp, strOp, unA, esOf, bnd, intV, cellsA, fillV, srcE, dm, dm1, consO, cellA, maxL, minL, keepO, Q0, Q1, Q2, Q3, Q4, Q5, len_app, get_app, get_app0, set_app, set_app0, Q6, Q7, Q8, Q9, Q10, Q11, Q12, Q13, Q14, Nat.reduceAdd, Q15, Int.reduceToNat, Q16, Q17, Q18, Q19, Q20, reduceIte, Q21, Q22, recsE_len, rep, splice, toDs, toD, chunks, Q23, Q24, Q25, Q26, Q27, Q28, Nat.reduceLeDiff, Q29, Nat.reduceSub, Q30, Q31, Q32, sc, Q33, Q34, Q35, Q36, Q37, Q26, Q38, Q39, n0gt, n1gt, n2gt, n0eq, n1eq0, n1eq, n2eq, n0ne, n1ne, n1ne0, n0ne1, i0ne, i0eq, Bool.not_true, Bool.not_false, List.length_map] | ((with_reducible refine And.intro ?_ ?_); focus (first | omega | rfl | decide | (simp; done)))))
  (first | refine ends_plain (by simp [Low_d, dmT, dm, dm1, pack, Low_tup, Low_agg, Low_exact]) hl ?_ | refine ends_plain0 (by simp [Low_d, dmT, dm, dm1, pack, Low_tup, Low_agg, Low_exact]) hl ?_)
  (try simp only [decide_eq_true_eq, decide_eq_false_iff_not, beq_iff_eq, beq_eq_false_iff_ne, bne_iff_ne, ne_eq, Bool.not_eq_true', Bool.not_eq_false', bne_eq_false_iff_eq] at *)
  exact fin _ (by rw [checkReqF, if_neg (by omega)])
theorem c_rKey {σ : List AObj} {c : Int} {K : AV → List AObj → Prop} (hK : K (.d (.int .i64 (if c < 0 ∨ c ≥ 8 then -1 else 13 + c))) σ) : ACall Try.prog n_r08_Key [.d (.int .i64 c)] σ K := by
  refine acall_of isA_r08_Key rfl fun hl _ => s_r08_Key ?_
  have fin : ∀ z, (if c < 0 ∨ c ≥ 8 then -1 else 13 + c) = z → K (.d (.int .i64 z)) σ := fun z h => h ▸ hK
  clear hK
  simp only [S_r08_Key]
  (repeat' (first | simp -dsimp only [↓acallL, ↓loopL, ↓binC, ↓unC, ↓condC_b, ↓guardC_T, ↓guardC_F, ↓guardC_0, ↓pickC_b, ↓lenC, ↓slcC, ↓convC, ↓boxC, ↓allocC, ↓loadC, ↓storeC, ↓nilC, ↓faddrC, ↓fieldC, ↓iaddrC, ↓idxSC, ↓idxAC, ↓extractC, ↓buildC, ↓mksliceC, ↓appendC, ↓isnilC, ↓maxC, ↓minC, ↓callvC, ↓mkmapC, ↓mgetC, ↓msetC, ↓mdelC, ↓headC_cons, ↓rangeC, ↓BBL_true, ↓BBL_false, ↓BBL_not, binA, intOp, strOp, unA, esOf, bnd, intV, cellsA, fillV, srcE, dm, dm1, consO, cellA, maxL, minL, keepO, Q0, Q1, Q2, Q3, Q4, Q5, len_app, get_app, get_app0, set_app, set_app0, Q6, Q7, Q8, Q9, Q10, Q11, Q12, Q13, Q14, Nat.reduceAdd, Q15, Int.reduceToNat, Q16, Q17, Q18, Q19, Q20, reduceIte, Q21, Q22, recsE_len, rep, splice, toDs, toD, chunks, Q23, Q24, Q25, Q26, Q27, Q28, Nat.reduceLeDiff, Q29, Nat.reduceSub, Q30, Q31, Q32, sc, Q33, Q34, Q35] | (refine BBL_intro (fun h => ?_) (fun h => ?_) <;> (try rw [h])) | ((with_reducible refine And.intro ?_ ?_); focus (first | omega | rfl | decide))))
  all_goals
    (first | refine ends_plain (by simp [Low_d, dmT, dm, dm1, pack, Low_tup, Low_agg, Low_exact]) hl ?_ | refine ends_plain0 (by simp [Low_d, dmT, dm, dm1, pack, Low_tup, Low_agg, Low_exact]) hl ?_)
    (try simp only [decide_eq_true_eq, decide_eq_false_iff_not, beq_iff_eq, beq_eq_false_iff_ne, bne_iff_ne, ne_eq, Bool.not_eq_true', Bool.not_eq_false', bne_eq_false_iff_eq] at *)
  · exact fin _ (by rw [if_pos (by omega)])
  · exact fin _ (by rw [if_pos (by omega)])
  · exact fin _ (by rw [if_neg (by omega), wrap64i (by omega) (by omega)])
theorem c_rqrCheck {σ : List AObj} {x : TSigned} (hx : okO x.op) {K : AV → List AObj → Prop} (hK : K (.d (.int .i64 (checkReqF x))) σ) : ACall Try.prog n_r08_Check [reqA x] σ K := by
  refine acall_of isA_r08_Check rfl fun hl _ => s_r08_Check ?_
  have fin : ∀ z, checkReqF x = z → K (.d (.int .i64 z)) σ := fun z h => h ▸ hK
  clear hK
  simp only [S_r08_Check, reqA]
  (repeat' (first | simp -dsimp only [↓acallL, ↓loopL, ↓binC, ↓unC, ↓condC_b, ↓guardC_T, ↓guardC_F, ↓guardC_0, ↓pickC_b, ↓lenC, ↓slcC, ↓convC, ↓boxC, ↓allocC, ↓loadC, ↓storeC, ↓nilC, ↓faddrC, ↓fieldC, ↓iaddrC, ↓idxSC, ↓idxAC, ↓extractC, ↓buildC, ↓mksliceC, ↓appendC, ↓isnilC, ↓maxC, ↓minC, ↓callvC, ↓mkmapC, ↓mgetC, ↓msetC, ↓mdelC, ↓headC_cons, ↓rangeC, ↓BBL_true, ↓BBL_false, ↓BBL_not, binA, intOp, strOp, unA, esOf, bnd, intV, cellsA, fillV, srcE, dm, dm1, consO, cellA, maxL, minL, keepO, Q0, Q1, Q2, Q3, Q4, Q5, len_app, get_app, get_app0, set_app, set_app0, Q6, Q7, Q8, Q9, Q10, Q11, Q12, Q13, Q14, Nat.reduceAdd, Q15, Int.reduceToNat, Q16, Q17, Q18, Q19, Q20, reduceIte, Q21, Q22, recsE_len, rep, splice, toDs, toD, chunks, Q23, Q24, Q25, Q26, Q27, Q28, Nat.reduceLeDiff, Q29, Nat.reduceSub, Q30, Q31, Q32, sc, Q33, Q34, Q35, Q36, Q37, Q26, Q38, Q39, n0gt, n1gt, n2gt, n0eq, n1eq0, n1eq, n2eq, n0ne, n1ne, n1ne0, n0ne1, i0ne, i0eq, Bool.not_true, Bool.not_false, List.length_map] | ((with_reducible refine And.intro ?_ ?_); focus (first | omega | rfl | decide | (simp; done)))))
  refine c_rKey ?_
  by_cases hc : x.client < 0 ∨ x.client ≥ 8
  · rw [if_pos hc]
    (repeat' (first | simp -dsimp only [↓acallL, ↓loopL, ↓binC, ↓unC, ↓condC_b, ↓guardC_T, ↓guardC_F, ↓guardC_0, ↓pickC_b, ↓lenC, ↓slcC, ↓convC, ↓boxC, ↓allocC, ↓loadC, ↓storeC, ↓nilC, ↓faddrC, ↓fieldC, ↓iaddrC, ↓idxSC, ↓idxAC, ↓extractC, ↓buildC, ↓mksliceC, ↓appendC, ↓isnilC, ↓maxC, ↓minC, ↓callvC, ↓mkmapC, ↓mgetC, ↓msetC, ↓mdelC, ↓headC_cons, ↓rangeC, ↓BBL_true, ↓BBL_false, ↓BBL_not, binA, intOp, strOp, unA, esOf, bnd, intV, cellsA, fillV, srcE, dm, dm1, consO, cellA, maxL, minL, keepO, Q0, Q1, Q2, Q3, Q4, Q5, len_app, get_app, get_app0, set_app, set_app0, Q6, Q7, Q8, Q9, Q10, Q11, Q12, Q13, Q14, Nat.reduceAdd, Q15, Int.reduceToNat, Q16, Q17, Q18, Q19, Q20, reduceIte, Q21, Q22, recsE_len, rep, splice, toDs, toD, chunks, Q23, Q24, Q25, Q26, Q27, Q28, Nat.reduceLeDiff, Q29, Nat.reduceSub, Q30, Q31, Q32, sc, Q33, Q34, Q35, Q36, Q37, Q26, Q38, Q39, n0gt, n1gt, n2gt, n0eq, n1eq0, n1eq, n2eq, n0ne, n1ne, n1ne0, n0ne1, i0ne, i0eq, Bool.not_true, Bool.not_false, List.length_map, show decide ((-1 : Int) < 0) = true from rfl] | ((with_reducible refine And.intro ?_ ?_); focus (first | omega | rfl | decide | (simp; done)))))
    (first | refine ends_plain (by simp [Low_d, dmT, dm, dm1, pack, Low_tup, Low_agg, Low_exact]) hl ?_ | refine ends_plain0 (by simp [Low_d, dmT, dm, dm1, pack, Low_tup, Low_agg, Low_exact]) hl ?_)
    exact fin _ (by rw [checkReqF, if_pos (by omega)])
  · rw [if_neg hc]
    have h0 : decide (13 + x.client < 0) = false := by simp; omega
    simp -dsimp only [↓acallL, ↓loopL, ↓binC, ↓unC, ↓condC_b, ↓guardC_T, ↓guardC_F, ↓guardC_0, ↓pickC_b, ↓lenC, ↓slcC, ↓convC, ↓boxC, ↓allocC, ↓loadC, ↓storeC, ↓nilC, ↓faddrC, ↓fieldC, ↓iaddrC, ↓idxSC, ↓idxAC, ↓extractC, ↓buildC, ↓mksliceC, ↓appendC, ↓isnilC, ↓maxC, ↓minC, ↓callvC, ↓mkmapC, ↓mgetC, ↓msetC, ↓mdelC, ↓headC_cons, ↓rangeC, ↓BBL_true, ↓BBL_false, ↓BBL_not, binA, intOp, strOp, unA, esOf, bnd, intV, cellsA, fillV, srcE, dm, dm1, consO, cellA, maxL, minL, keepO, Q0, Q1, Q2, Q3, Q4, Q5, len_app, get_app, get_app0, set_app, set_app0, Q6, Q7, Q8, Q9, Q10, Q11, Q12, Q13, Q14, Nat.reduceAdd, Q15, Int.reduceToNat, Q16, Q17, Q18, Q19, Q20, reduceIte, Q21, Q22, recsE_len, rep, splice, toDs, toD, chunks, Q23, Q24, Q25, Q26, Q27, Q28, Nat.reduceLeDiff, Q29, Nat.reduceSub, Q30, Q31, Q32, sc, Q33, Q34, Q35, h0]
    (repeat' (first | simp -dsimp only [↓acallL, ↓loopL, ↓binC, ↓unC, ↓condC_b, ↓guardC_T, ↓guardC_F, ↓guardC_0, ↓pickC_b, ↓lenC, ↓slcC, ↓convC, ↓boxC, ↓allocC, ↓loadC, ↓storeC, ↓nilC, ↓faddrC, ↓fieldC, ↓iaddrC, ↓idxSC, ↓idxAC, ↓extractC, ↓buildC, ↓mksliceC, ↓appendC, ↓isnilC, ↓maxC, ↓minC, ↓callvC, ↓mkmapC, ↓mgetC, ↓msetC, ↓mdelC, ↓headC_cons, ↓rangeC, ↓BBL_true, ↓BBL_false, ↓BBL_not, binA, intOp, strOp, unA, esOf, bnd, intV, cellsA, fillV, srcE, dm, dm1, consO, cellA, maxL, minL, keepO, Q0, Q1, Q2, Q3, Q4, Q5, len_app, get_app, get_app0, set_app, set_app0, Q6, Q7, Q8, Q9, Q10, Q11, Q12, Q13, Q14, Nat.reduceAdd, Q15, Int.reduceToNat, Q16, Q17, Q18, Q19, Q20, reduceIte, Q21, Q22, recsE_len, rep, splice, toDs, toD, chunks, Q23, Q24, Q25, Q26, Q27, Q28, Nat.reduceLeDiff, Q29, Nat.reduceSub, Q30, Q31, Q32, sc, Q33, Q34, Q35] | (refine BBL_intro (fun h => ?_) (fun h => ?_) <;> (try rw [h])) | ((with_reducible refine And.intro ?_ ?_); focus (first | omega | rfl | decide))))
    all_goals first
      | ((first | refine ends_plain (by simp [Low_d, dmT, dm, dm1, pack, Low_tup, Low_agg, Low_exact]) hl ?_ | refine ends_plain0 (by simp [Low_d, dmT, dm, dm1, pack, Low_tup, Low_agg, Low_exact]) hl ?_)
         (try simp only [decide_eq_true_eq, decide_eq_false_iff_not, beq_iff_eq, beq_eq_false_iff_ne, bne_iff_ne, ne_eq, Bool.not_eq_true', Bool.not_eq_false', bne_eq_false_iff_eq] at *)
         exact fin _ (by rw [checkReqF, if_pos (by omega)]))
      | skip
    refine c_rCheck (o := x.op) hx.1 hx.2.1 hx.2.2.1 ?_
    (repeat' (first | simp -dsimp only [↓acallL, ↓loopL, ↓binC, ↓unC, ↓condC_b, ↓guardC_T, ↓guardC_F, ↓guardC_0, ↓pickC_b, ↓lenC, ↓slcC, ↓convC, ↓boxC, ↓allocC, ↓loadC, ↓storeC, ↓nilC, ↓faddrC, ↓fieldC, ↓iaddrC, ↓idxSC, ↓idxAC, ↓extractC, ↓buildC, ↓mksliceC, ↓appendC, ↓isnilC, ↓maxC, ↓minC, ↓callvC, ↓mkmapC, ↓mgetC, ↓msetC, ↓mdelC, ↓headC_cons, ↓rangeC, ↓BBL_true, ↓BBL_false, ↓BBL_not, binA, intOp, strOp, unA, esOf, bnd, intV, cellsA, fillV, srcE, dm, dm1, consO, cellA, maxL, minL, keepO, Q0, Q1, Q2, Q3, Q4, Q5, len_app, get_app, get_app0, set_app, set_app0, Q6, Q7, Q8, Q9, Q10, Q11, Q12, Q13, Q14, Nat.reduceAdd, Q15, Int.reduceToNat, Q16, Q17, Q18, Q19, Q20, reduceIte, Q21, Q22, recsE_len, rep, splice, toDs, toD, chunks, Q23, Q24, Q25, Q26, Q27, Q28, Nat.reduceLeDiff, Q29, Nat.reduceSub, Q30, Q31, Q32, sc, Q33, Q34, Q35, Q36, Q37, Q26, Q38, Q39, n0gt, n1gt, n2gt, n0eq, n1eq0, n1eq, n2eq, n0ne, n1ne, n1ne0, n0ne1, i0ne, i0eq, Bool.not_true, Bool.not_false, List.length_map] | ((with_reducible refine And.intro ?_ ?_); focus (first | omega | rfl | decide | (simp; done)))))
    (first | refine ends_plain (by simp [Low_d, dmT, dm, dm1, pack, Low_tup, Low_agg, Low_exact]) hl ?_ | refine ends_plain0 (by simp [Low_d, dmT, dm, dm1, pack, Low_tup, Low_agg, Low_exact]) hl ?_)
    (try simp only [decide_eq_true_eq, decide_eq_false_iff_not, beq_iff_eq, beq_eq_false_iff_ne, bne_iff_ne, ne_eq, Bool.not_eq_true', Bool.not_eq_false', bne_eq_false_iff_eq] at *)
    exact fin _ (by rw [checkReqF, if_neg (by omega)])
theorem c_rqCheckSign {σ : List AObj} {k d : Int} {K : AV → List AObj → Prop} (hK : K (.d (.int .i64 (checkSignF k d))) σ) : ACall Try.prog n_request_CheckSign [.agg [.d (.int .i64 k), .d (.int .i64 d)]] σ K := by
  refine acall_of isA_request_CheckSign rfl fun hl _ => s_request_CheckSign ?_
  have fin : ∀ z, checkSignF k d = z → K (.d (.int .i64 z)) σ := fun z h => h ▸ hK
  clear hK
  simp only [S_request_CheckSign]
  (repeat' (first | simp -dsimp only [↓acallL, ↓loopL, ↓binC, ↓unC, ↓condC_b, ↓guardC_T, ↓guardC_F, ↓guardC_0, ↓pickC_b, ↓lenC, ↓slcC, ↓convC, ↓boxC, ↓allocC, ↓loadC, ↓storeC, ↓nilC, ↓faddrC, ↓fieldC, ↓iaddrC, ↓idxSC, ↓idxAC, ↓extractC, ↓buildC, ↓mksliceC, ↓appendC, ↓isnilC, ↓maxC, ↓minC, ↓callvC, ↓mkmapC, ↓mgetC, ↓msetC, ↓mdelC, ↓headC_cons, ↓rangeC, ↓BBL_true, ↓BBL_false, ↓BBL_not, binA, intOp, strOp, unA, esOf, bnd, intV, cellsA, fillV, srcE, dm, dm1, consO, cellA, maxL, minL, keepO, Q0, Q1, Q2, Q3, Q4, Q5, len_app, get_app, get_app0, set_app, set_app0, Q6, Q7, Q8, Q9, Q10, Q11, Q12, Q13, Q14, Nat.reduceAdd, Q15, Int.reduceToNat, Q16, Q17, Q18, Q19, Q20, reduceIte, Q21, Q22, recsE_len, rep, splice, toDs, toD, chunks, Q23, Q24, Q25, Q26, Q27, Q28, Nat.reduceLeDiff, Q29, Nat.reduceSub, Q30, Q31, Q32, sc, Q33, Q34, Q35] | (refine BBL_intro (fun h => ?_) (fun h => ?_) <;> (try rw [h])) | ((with_reducible refine And.intro ?_ ?_); focus (first | omega | rfl | decide))))
  all_goals
    (first | refine ends_plain (by simp [Low_d, dmT, dm, dm1, pack, Low_tup, Low_agg, Low_exact]) hl ?_ | refine ends_plain0 (by simp [Low_d, dmT, dm, dm1, pack, Low_tup, Low_agg, Low_exact]) hl ?_)
    (try simp only [decide_eq_true_eq, decide_eq_false_iff_not, beq_iff_eq, beq_eq_false_iff_ne, bne_iff_ne, ne_eq, Bool.not_eq_true', Bool.not_eq_false', bne_eq_false_iff_eq] at *)
    first | exact fin _ (by rw [checkSignF, if_pos (by omega)]) | exact fin _ (by rw [checkSignF, if_neg (by omega)])
theorem c_rqrCheckSign {σ : List AObj} {k d : Int} {K : AV → List AObj → Prop} (hK : K (.d (.int .i64 (checkSignF k d))) σ) : ACall Try.prog n_r08_CheckSign [.agg [.d (.int .i64 k), .d (.int .i64 d)]] σ K := by
  refine acall_of isA_r08_CheckSign rfl fun hl _ => s_r08_CheckSign ?_
  have fin : ∀ z, checkSignF k d = z → K (.d (.int .i64 z)) σ := fun z h => h ▸ hK
  clear hK
  simp only [S_r08_CheckSign]
  (repeat' (first | simp -dsimp only [↓acallL, ↓loopL, ↓binC, ↓unC, ↓condC_b, ↓guardC_T, ↓guardC_F, ↓guardC_0, ↓pickC_b, ↓lenC, ↓slcC, ↓convC, ↓boxC, ↓allocC, ↓loadC, ↓storeC, ↓nilC, ↓faddrC, ↓fieldC, ↓iaddrC, ↓idxSC, ↓idxAC, ↓extractC, ↓buildC, ↓mksliceC, ↓appendC, ↓isnilC, ↓maxC, ↓minC, ↓callvC, ↓mkmapC, ↓mgetC, ↓msetC, ↓mdelC, ↓headC_cons, ↓rangeC, ↓BBL_true, ↓BBL_false, ↓BBL_not, binA, intOp, strOp, unA, esOf, bnd, intV, cellsA, fillV, srcE, dm, dm1, consO, cellA, maxL, minL, keepO, Q0, Q1, Q2, Q3, Q4, Q5, len_app, get_app, get_app0, set_app, set_app0, Q6, Q7, Q8, Q9, Q10, Q11, Q12, Q13, Q14, Nat.reduceAdd, Q15, Int.reduceToNat, Q16, Q17, Q18, Q19, Q20, reduceIte, Q21, Q22, recsE_len, rep, splice, toDs, toD, chunks, Q23, Q24, Q25, Q26, Q27, Q28, Nat.reduceLeDiff, Q29, Nat.reduceSub, Q30, Q31, Q32, sc, Q33, Q34, Q35] | (refine BBL_intro (fun h => ?_) (fun h => ?_) <;> (try rw [h])) | ((with_reducible refine And.intro ?_ ?_); focus (first | omega | rfl | decide))))
  all_goals
    (first | refine ends_plain (by simp [Low_d, dmT, dm, dm1, pack, Low_tup, Low_agg, Low_exact]) hl ?_ | refine ends_plain0 (by simp [Low_d, dmT, dm, dm1, pack, Low_tup, Low_agg, Low_exact]) hl ?_)
    (try simp only [decide_eq_true_eq, decide_eq_false_iff_not, beq_iff_eq, beq_eq_false_iff_ne, bne_iff_ne, ne_eq, Bool.not_eq_true', Bool.not_eq_false', bne_eq_false_iff_eq] at *)
    first | exact fin _ (by rw [checkSignF, if_pos (by omega)]) | exact fin _ (by rw [checkSignF, if_neg (by omega)])
end Go.Proofs.Ythmdpooklflkfaa

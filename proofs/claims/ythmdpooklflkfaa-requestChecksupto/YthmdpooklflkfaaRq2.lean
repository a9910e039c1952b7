/- Contracts: the bytes of requests, signatures and batches. -/
import Derived.Test.YthmdpooklflkfaaOp2
import Derived.Test.YthmdpooklflkfaaRc2
import Derived.Test.YthmdpooklflkfaaSpRd
set_option linter.all false
set_option maxRecDepth 100000
set_option linter.unusedSimpArgs false
set_option linter.unusedVariables false
namespace Go.Proofs.Ythmdpooklflkfaa
open Go.AW

def keyF (c : Int) : Int := if c < 0 ∨ c ≥ 8 then -1 else 13 + c
theorem c_rqKey {σ : List AObj} {c : Int} {K : AV → List AObj → Prop} (hK : K (.d (.int .i64 (keyF c))) σ) : ACall Try.prog n_request_Key [.d (.int .i64 c)] σ K := by
  refine acall_of isA_request_Key rfl fun hl _ => s_request_Key ?_
  simp only [S_request_Key]
  (repeat' (first | simp -dsimp only [↓acallL, ↓loopL, ↓binC, ↓unC, ↓condC_b, ↓guardC_T, ↓guardC_F, ↓guardC_0, ↓pickC_b, ↓lenC, ↓slcC, ↓convC, ↓boxC, ↓allocC, ↓loadC, ↓storeC, ↓nilC, ↓faddrC, ↓fieldC, ↓iaddrC, ↓idxSC, ↓idxAC, ↓extractC, ↓buildC, ↓mksliceC, ↓appendC, ↓isnilC, ↓maxC, ↓minC, ↓callvC, ↓mkmapC, ↓mgetC, ↓msetC, ↓mdelC, ↓headC_cons, ↓rangeC, ↓BBL_true, ↓BBL_false, ↓BBL_not, binA, intOp, strOp, unA, esOf, bnd, intV, cellsA, fillV, srcE, dm, dm1, consO, cellA, maxL, minL, keepO, Q0, Q1, Q2, Q3, Q4, Q5, len_app, get_app, get_app0, set_app, set_app0, Q6, Q7, Q8, Q9, Q10, Q11, Q12, Q13, Q14, Nat.reduceAdd, Q15, Int.reduceToNat, Q16, Q17, Q18, Q19, Q20, reduceIte, Q21, Q22, recsE_len, rep, splice, toDs, toD, chunks, Q23, Q24, Q25, Q26, Q27, Q28, Nat.reduceLeDiff, Q29, Nat.reduceSub, Q30, Q31, Q32, sc, Q33, Q34, Q35] | (refine BBL_intro (fun h => ?_) (fun h => ?_) <;> (try rw [h])) | ((with_reducible refine And.intro ?_ ?_); focus (first | omega | rfl | decide))))
  all_goals (
    (first | refine ends_plain (by simp [Low_d, dmT, dm, dm1, pack, Low_tup, Low_agg, Low_exact]) hl ?_ | refine ends_plain0 (by simp [Low_d, dmT, dm, dm1, pack, Low_tup, Low_agg, Low_exact]) hl ?_)
    (try simp only [decide_eq_true_eq, decide_eq_false_iff_not, beq_iff_eq, beq_eq_false_iff_ne, bne_iff_ne, ne_eq, Bool.not_eq_true', Bool.not_eq_false', bne_eq_false_iff_eq] at *)
    unfold keyF at hK)
  · rw [if_pos (by omega)] at hK; exact hK
  · rw [if_pos (by omega)] at hK; exact hK
  · rw [if_neg (by omega)] at hK; rw [wrap64i (by omega) (by omega)]; exact hK
theorem sizes {x : TSigned} (h : opSz x.op ≤ 20971520) : okO x.op := by
  have h0 := h
  unfold opSz at h
  refine ⟨by omega, by omega, ?_, fun r hr => ?_⟩
  · have := recs_len_le x.op.recs; omega
  · have := rec_le hr; omega
theorem c_rqBytes {σ : List AObj} {x : TSigned} (hx : opSz x.op ≤ 20971520) {K : AV → List AObj → Prop} (hK : K (.tup [.d (.slice (bcs (reqBytesF x))), .d (.int .i64 (checkReqF x))]) σ) : ACall Try.prog n_request_Bytes [reqA x] σ K := by
  refine acall_of isA_request_Bytes rfl fun hl _ => s_request_Bytes ?_
  have hsz := sizes hx
  simp only [S_request_Bytes, reqA]
  (repeat' (first | simp -dsimp only [↓acallL, ↓loopL, ↓binC, ↓unC, ↓condC_b, ↓guardC_T, ↓guardC_F, ↓guardC_0, ↓pickC_b, ↓lenC, ↓slcC, ↓convC, ↓boxC, ↓allocC, ↓loadC, ↓storeC, ↓nilC, ↓faddrC, ↓fieldC, ↓iaddrC, ↓idxSC, ↓idxAC, ↓extractC, ↓buildC, ↓mksliceC, ↓appendC, ↓isnilC, ↓maxC, ↓minC, ↓callvC, ↓mkmapC, ↓mgetC, ↓msetC, ↓mdelC, ↓headC_cons, ↓rangeC, ↓BBL_true, ↓BBL_false, ↓BBL_not, binA, intOp, strOp, unA, esOf, bnd, intV, cellsA, fillV, srcE, dm, dm1, consO, cellA, maxL, minL, keepO, Q0, Q1, Q2, Q3, Q4, Q5, len_app, get_app, get_app0, set_app, set_app0, Q6, Q7, Q8, Q9, Q10, Q11, Q12, Q13, Q14, Nat.reduceAdd, Q15, Int.reduceToNat, Q16, Q17, Q18, Q19, Q20, reduceIte, Q21, Q22, recsE_len, rep, splice, toDs, toD, chunks, Q23, Q24, Q25, Q26, Q27, Q28, Nat.reduceLeDiff, Q29, Nat.reduceSub, Q30, Q31, Q32, sc, Q33, Q34, Q35, Q36, Q37, Q26, Q38, Q39, n0gt, n1gt, n2gt, n0eq, n1eq0, n1eq, n2eq, n0ne, n1ne, n1ne0, n0ne1, i0ne, i0eq, Bool.not_true, Bool.not_false, List.length_map] | ((with_reducible refine And.intro ?_ ?_); focus (first | omega | rfl | decide | (simp; done)))))
  refine c_rqCheck (x := x) hsz ?_
  by_cases hc : checkReqF x = 0
  · obtain ⟨c0, c8, t1, t2, ho⟩ := req_ok hc
    have hb : (checkReqF x != 0) = false := by simpa using hc
    have n1 := numB_len10 (n := x.client.toNat) (by omega)
    have n2 := numB_len10 (n := x.time.toNat) (by omega)
    have w1 : IntKind.u64.wrap x.client = ((x.client.toNat : Nat) : Int) := by
      rw [show x.client = ((x.client.toNat : Nat) : Int) by omega, wrap64u (by omega)]; rfl
    have w2 : IntKind.u64.wrap x.time = ((x.time.toNat : Nat) : Int) := by
      rw [show x.time = ((x.time.toNat : Nat) : Int) by omega, wrap64u (by omega)]; rfl
    rw [hc, reqBytesF, if_pos hc] at hK
    (repeat' (first | simp -dsimp only [↓acallL, ↓loopL, ↓binC, ↓unC, ↓condC_b, ↓guardC_T, ↓guardC_F, ↓guardC_0, ↓pickC_b, ↓lenC, ↓slcC, ↓convC, ↓boxC, ↓allocC, ↓loadC, ↓storeC, ↓nilC, ↓faddrC, ↓fieldC, ↓iaddrC, ↓idxSC, ↓idxAC, ↓extractC, ↓buildC, ↓mksliceC, ↓appendC, ↓isnilC, ↓maxC, ↓minC, ↓callvC, ↓mkmapC, ↓mgetC, ↓msetC, ↓mdelC, ↓headC_cons, ↓rangeC, ↓BBL_true, ↓BBL_false, ↓BBL_not, binA, intOp, strOp, unA, esOf, bnd, intV, cellsA, fillV, srcE, dm, dm1, consO, cellA, maxL, minL, keepO, Q0, Q1, Q2, Q3, Q4, Q5, len_app, get_app, get_app0, set_app, set_app0, Q6, Q7, Q8, Q9, Q10, Q11, Q12, Q13, Q14, Nat.reduceAdd, Q15, Int.reduceToNat, Q16, Q17, Q18, Q19, Q20, reduceIte, Q21, Q22, recsE_len, rep, splice, toDs, toD, chunks, Q23, Q24, Q25, Q26, Q27, Q28, Nat.reduceLeDiff, Q29, Nat.reduceSub, Q30, Q31, Q32, sc, Q33, Q34, Q35, Q36, Q37, Q26, Q38, Q39, n0gt, n1gt, n2gt, n0eq, n1eq0, n1eq, n2eq, n0ne, n1ne, n1ne0, n0ne1, i0ne, i0eq, Bool.not_true, Bool.not_false, List.length_map, hb, w1, w2] | ((with_reducible refine And.intro ?_ ?_); focus (first | omega | rfl | decide | (simp; done)))))
    refine c_PutNum (b := []) (by omega) (by simp) ?_
    (repeat' (first | simp -dsimp only [↓acallL, ↓loopL, ↓binC, ↓unC, ↓condC_b, ↓guardC_T, ↓guardC_F, ↓guardC_0, ↓pickC_b, ↓lenC, ↓slcC, ↓convC, ↓boxC, ↓allocC, ↓loadC, ↓storeC, ↓nilC, ↓faddrC, ↓fieldC, ↓iaddrC, ↓idxSC, ↓idxAC, ↓extractC, ↓buildC, ↓mksliceC, ↓appendC, ↓isnilC, ↓maxC, ↓minC, ↓callvC, ↓mkmapC, ↓mgetC, ↓msetC, ↓mdelC, ↓headC_cons, ↓rangeC, ↓BBL_true, ↓BBL_false, ↓BBL_not, binA, intOp, strOp, unA, esOf, bnd, intV, cellsA, fillV, srcE, dm, dm1, consO, cellA, maxL, minL, keepO, Q0, Q1, Q2, Q3, Q4, Q5, len_app, get_app, get_app0, set_app, set_app0, Q6, Q7, Q8, Q9, Q10, Q11, Q12, Q13, Q14, Nat.reduceAdd, Q15, Int.reduceToNat, Q16, Q17, Q18, Q19, Q20, reduceIte, Q21, Q22, recsE_len, rep, splice, toDs, toD, chunks, Q23, Q24, Q25, Q26, Q27, Q28, Nat.reduceLeDiff, Q29, Nat.reduceSub, Q30, Q31, Q32, sc, Q33, Q34, Q35, Q36, Q37, Q26, Q38, Q39, n0gt, n1gt, n2gt, n0eq, n1eq0, n1eq, n2eq, n0ne, n1ne, n1ne0, n0ne1, i0ne, i0eq, Bool.not_true, Bool.not_false, List.length_map, w1, w2] | ((with_reducible refine And.intro ?_ ?_); focus (first | omega | rfl | decide | (simp; done)))))
    refine c_PutNum (by omega) (by first | omega | (simp; omega)) ?_
    (repeat' (first | simp -dsimp only [↓acallL, ↓loopL, ↓binC, ↓unC, ↓condC_b, ↓guardC_T, ↓guardC_F, ↓guardC_0, ↓pickC_b, ↓lenC, ↓slcC, ↓convC, ↓boxC, ↓allocC, ↓loadC, ↓storeC, ↓nilC, ↓faddrC, ↓fieldC, ↓iaddrC, ↓idxSC, ↓idxAC, ↓extractC, ↓buildC, ↓mksliceC, ↓appendC, ↓isnilC, ↓maxC, ↓minC, ↓callvC, ↓mkmapC, ↓mgetC, ↓msetC, ↓mdelC, ↓headC_cons, ↓rangeC, ↓BBL_true, ↓BBL_false, ↓BBL_not, binA, intOp, strOp, unA, esOf, bnd, intV, cellsA, fillV, srcE, dm, dm1, consO, cellA, maxL, minL, keepO, Q0, Q1, Q2, Q3, Q4, Q5, len_app, get_app, get_app0, set_app, set_app0, Q6, Q7, Q8, Q9, Q10, Q11, Q12, Q13, Q14, Nat.reduceAdd, Q15, Int.reduceToNat, Q16, Q17, Q18, Q19, Q20, reduceIte, Q21, Q22, recsE_len, rep, splice, toDs, toD, chunks, Q23, Q24, Q25, Q26, Q27, Q28, Nat.reduceLeDiff, Q29, Nat.reduceSub, Q30, Q31, Q32, sc, Q33, Q34, Q35, Q36, Q37, Q26, Q38, Q39, n0gt, n1gt, n2gt, n0eq, n1eq0, n1eq, n2eq, n0ne, n1ne, n1ne0, n0ne1, i0ne, i0eq, Bool.not_true, Bool.not_false, List.length_map, w1, w2] | ((with_reducible refine And.intro ?_ ?_); focus (first | omega | rfl | decide | (simp; done)))))
    refine c_Put (o := x.op) (by first | omega | (simp; omega)) (by omega) ?_
    (repeat' (first | simp -dsimp only [↓acallL, ↓loopL, ↓binC, ↓unC, ↓condC_b, ↓guardC_T, ↓guardC_F, ↓guardC_0, ↓pickC_b, ↓lenC, ↓slcC, ↓convC, ↓boxC, ↓allocC, ↓loadC, ↓storeC, ↓nilC, ↓faddrC, ↓fieldC, ↓iaddrC, ↓idxSC, ↓idxAC, ↓extractC, ↓buildC, ↓mksliceC, ↓appendC, ↓isnilC, ↓maxC, ↓minC, ↓callvC, ↓mkmapC, ↓mgetC, ↓msetC, ↓mdelC, ↓headC_cons, ↓rangeC, ↓BBL_true, ↓BBL_false, ↓BBL_not, binA, intOp, strOp, unA, esOf, bnd, intV, cellsA, fillV, srcE, dm, dm1, consO, cellA, maxL, minL, keepO, Q0, Q1, Q2, Q3, Q4, Q5, len_app, get_app, get_app0, set_app, set_app0, Q6, Q7, Q8, Q9, Q10, Q11, Q12, Q13, Q14, Nat.reduceAdd, Q15, Int.reduceToNat, Q16, Q17, Q18, Q19, Q20, reduceIte, Q21, Q22, recsE_len, rep, splice, toDs, toD, chunks, Q23, Q24, Q25, Q26, Q27, Q28, Nat.reduceLeDiff, Q29, Nat.reduceSub, Q30, Q31, Q32, sc, Q33, Q34, Q35, Q36, Q37, Q26, Q38, Q39, n0gt, n1gt, n2gt, n0eq, n1eq0, n1eq, n2eq, n0ne, n1ne, n1ne0, n0ne1, i0ne, i0eq, Bool.not_true, Bool.not_false, List.length_map] | ((with_reducible refine And.intro ?_ ?_); focus (first | omega | rfl | decide | (simp; done)))))
    (first | refine ends_plain (by simp [Low_d, dmT, dm, dm1, pack, Low_tup, Low_agg, Low_exact]) hl ?_ | refine ends_plain0 (by simp [Low_d, dmT, dm, dm1, pack, Low_tup, Low_agg, Low_exact]) hl ?_)
    rw [if_pos ho]
    exact hK
  · have hb : (checkReqF x != 0) = true := by simpa using hc
    rw [reqBytesF, if_neg hc] at hK
    (repeat' (first | simp -dsimp only [↓acallL, ↓loopL, ↓binC, ↓unC, ↓condC_b, ↓guardC_T, ↓guardC_F, ↓guardC_0, ↓pickC_b, ↓lenC, ↓slcC, ↓convC, ↓boxC, ↓allocC, ↓loadC, ↓storeC, ↓nilC, ↓faddrC, ↓fieldC, ↓iaddrC, ↓idxSC, ↓idxAC, ↓extractC, ↓buildC, ↓mksliceC, ↓appendC, ↓isnilC, ↓maxC, ↓minC, ↓callvC, ↓mkmapC, ↓mgetC, ↓msetC, ↓mdelC, ↓headC_cons, ↓rangeC, ↓BBL_true, ↓BBL_false, ↓BBL_not, binA, intOp, strOp, unA, esOf, bnd, intV, cellsA, fillV, srcE, dm, dm1, consO, cellA, maxL, minL, keepO, Q0, Q1, Q2, Q3, Q4, Q5, len_app, get_app, get_app0, set_app, set_app0, Q6, Q7, Q8, Q9, Q10, Q11, Q12, Q13, Q14, Nat.reduceAdd, Q15, Int.reduceToNat, Q16, Q17, Q18, Q19, Q20, reduceIte, Q21, Q22, recsE_len, rep, splice, toDs, toD, chunks, Q23, Q24, Q25, Q26, Q27, Q28, Nat.reduceLeDiff, Q29, Nat.reduceSub, Q30, Q31, Q32, sc, Q33, Q34, Q35, Q36, Q37, Q26, Q38, Q39, n0gt, n1gt, n2gt, n0eq, n1eq0, n1eq, n2eq, n0ne, n1ne, n1ne0, n0ne1, i0ne, i0eq, Bool.not_true, Bool.not_false, List.length_map, hb] | ((with_reducible refine And.intro ?_ ?_); focus (first | omega | rfl | decide | (simp; done)))))
    (first | refine ends_plain (by simp [Low_d, dmT, dm, dm1, pack, Low_tup, Low_agg, Low_exact]) hl ?_ | refine ends_plain0 (by simp [Low_d, dmT, dm, dm1, pack, Low_tup, Low_agg, Low_exact]) hl ?_)
    exact hK
end Go.Proofs.Ythmdpooklflkfaa

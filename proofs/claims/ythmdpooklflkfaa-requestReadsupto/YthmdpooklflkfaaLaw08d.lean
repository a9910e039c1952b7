/- The law RequestReads, from the contracts. -/
import Derived.Test.YthmdpooklflkfaaLaw08a
import Derived.Test.YthmdpooklflkfaaRq8
set_option linter.all false
set_option maxRecDepth 100000
set_option linter.unusedSimpArgs false
set_option linter.unusedVariables false
namespace Go.Proofs.Ythmdpooklflkfaa
open Go.AW

def pars_RequestReads : List (Bool × List Ty) := [(false, [.slice [.int .u8]])]
theorem small_of4 {x : TSigned} (h : opSz x.op ≤ 424) : x.op.recs.length ≤ 1073741824 := by
  have := recs_len_le x.op.recs
  unfold opSz at h
  omega
theorem gq56 {P Q : Prop} (h : Q) (e : P = Q := by simp -dsimp only [↓acallL, ↓loopL, ↓binC, ↓unC, ↓condC_b, ↓guardC_T, ↓guardC_F, ↓guardC_0, ↓pickC_b, ↓lenC, ↓slcC, ↓convC, ↓boxC, ↓allocC, ↓loadC, ↓storeC, ↓nilC, ↓faddrC, ↓fieldC, ↓iaddrC, ↓idxSC, ↓idxAC, ↓extractC, ↓buildC, ↓mksliceC, ↓appendC, ↓isnilC, ↓maxC, ↓minC, ↓callvC, ↓mkmapC, ↓mgetC, ↓msetC, ↓mdelC, ↓headC_cons, ↓rangeC, ↓BBL_true, ↓BBL_false, ↓BBL_not, binA, intOp, strOp, unA, esOf, bnd, intV, cellsA, fillV, srcE, dm, dm1, consO, cellA, maxL, minL, keepO, Q0, Q1, Q2, Q3, Q4, Q5, len_app, get_app, get_app0, set_app, set_app0, Q6, Q7, Q8, Q9, Q10, Q11, Q12, Q13, Q14, Nat.reduceAdd, Q15, Int.reduceToNat, Q16, Q17, Q18, Q19, Q20, reduceIte, Q21, Q22, recsE_len, rep, splice, toDs, toD, chunks, Q23, Q24, Q25, Q26, Q27, Q28, Nat.reduceLeDiff, Q29, Nat.reduceSub, Q30, Q31, Q32, sc, Q33, Q34, Q35, Q36, Q37, Q26, Q38, Q39, n0gt, n1gt, n2gt, n0eq, n1eq0, n1eq, n2eq, n0ne, n1ne, n1ne0, n0ne1, i0ne, i0eq, Bool.not_true, Bool.not_false, List.length_map, beq_self_eq_true, bne_self_eq_false]; rfl) : P := e.mpr h
theorem gq57 {P Q : Prop} (h : Q) (e : P = Q := by simp -dsimp only [↓acallL, ↓loopL, ↓binC, ↓unC, ↓condC_b, ↓guardC_T, ↓guardC_F, ↓guardC_0, ↓pickC_b, ↓lenC, ↓slcC, ↓convC, ↓boxC, ↓allocC, ↓loadC, ↓storeC, ↓nilC, ↓faddrC, ↓fieldC, ↓iaddrC, ↓idxSC, ↓idxAC, ↓extractC, ↓buildC, ↓mksliceC, ↓appendC, ↓isnilC, ↓maxC, ↓minC, ↓callvC, ↓mkmapC, ↓mgetC, ↓msetC, ↓mdelC, ↓headC_cons, ↓rangeC, ↓BBL_true, ↓BBL_false, ↓BBL_not, binA, intOp, strOp, unA, esOf, bnd, intV, cellsA, fillV, srcE, dm, dm1, consO, cellA, maxL, minL, keepO, Q0, Q1, Q2, Q3, Q4, Q5, len_app, get_app, get_app0, set_app, set_app0, Q6, Q7, Q8, Q9, Q10, Q11, Q12, Q13, Q14, Nat.reduceAdd, Q15, Int.reduceToNat, Q16, Q17, Q18, Q19, Q20, reduceIte, Q21, Q22, recsE_len, rep, splice, toDs, toD, chunks, Q23, Q24, Q25, Q26, Q27, Q28, Nat.reduceLeDiff, Q29, Nat.reduceSub, Q30, Q31, Q32, sc, Q33, Q34, Q35, Q36, Q37, Q26, Q38, Q39, n0gt, n1gt, n2gt, n0eq, n1eq0, n1eq, n2eq, n0ne, n1ne, n1ne0, n0ne1, i0ne, i0eq, Bool.not_true, Bool.not_false, List.length_map, rrO]; rfl) : P := e.mpr h
theorem gq58 {A P Q : Prop} (a : A) (h : Q) (e : A → P = Q := by intro a; simp -dsimp only [↓acallL, ↓loopL, ↓binC, ↓unC, ↓condC_b, ↓guardC_T, ↓guardC_F, ↓guardC_0, ↓pickC_b, ↓lenC, ↓slcC, ↓convC, ↓boxC, ↓allocC, ↓loadC, ↓storeC, ↓nilC, ↓faddrC, ↓fieldC, ↓iaddrC, ↓idxSC, ↓idxAC, ↓extractC, ↓buildC, ↓mksliceC, ↓appendC, ↓isnilC, ↓maxC, ↓minC, ↓callvC, ↓mkmapC, ↓mgetC, ↓msetC, ↓mdelC, ↓headC_cons, ↓rangeC, ↓BBL_true, ↓BBL_false, ↓BBL_not, binA, intOp, strOp, unA, esOf, bnd, intV, cellsA, fillV, srcE, dm, dm1, consO, cellA, maxL, minL, keepO, Q0, Q1, Q2, Q3, Q4, Q5, len_app, get_app, get_app0, set_app, set_app0, Q6, Q7, Q8, Q9, Q10, Q11, Q12, Q13, Q14, Nat.reduceAdd, Q15, Int.reduceToNat, Q16, Q17, Q18, Q19, Q20, reduceIte, Q21, Q22, recsE_len, rep, splice, toDs, toD, chunks, Q23, Q24, Q25, Q26, Q27, Q28, Nat.reduceLeDiff, Q29, Nat.reduceSub, Q30, Q31, Q32, sc, Q33, Q34, Q35, Q36, Q37, Q26, Q38, Q39, n0gt, n1gt, n2gt, n0eq, n1eq0, n1eq, n2eq, n0ne, n1ne, n1ne0, n0ne1, i0ne, i0eq, Bool.not_true, Bool.not_false, List.length_map, bne_self_eq_false, rrO, a]; rfl) : P := (e a).mpr h
theorem gq59 {P Q : Prop} (h : Q) (e : P = Q := by simp -dsimp only [↓acallL, ↓loopL, ↓binC, ↓unC, ↓condC_b, ↓guardC_T, ↓guardC_F, ↓guardC_0, ↓pickC_b, ↓lenC, ↓slcC, ↓convC, ↓boxC, ↓allocC, ↓loadC, ↓storeC, ↓nilC, ↓faddrC, ↓fieldC, ↓iaddrC, ↓idxSC, ↓idxAC, ↓extractC, ↓buildC, ↓mksliceC, ↓appendC, ↓isnilC, ↓maxC, ↓minC, ↓callvC, ↓mkmapC, ↓mgetC, ↓msetC, ↓mdelC, ↓headC_cons, ↓rangeC, ↓BBL_true, ↓BBL_false, ↓BBL_not, binA, intOp, strOp, unA, esOf, bnd, intV, cellsA, fillV, srcE, dm, dm1, consO, cellA, maxL, minL, keepO, Q0, Q1, Q2, Q3, Q4, Q5, len_app, get_app, get_app0, set_app, set_app0, Q6, Q7, Q8, Q9, Q10, Q11, Q12, Q13, Q14, Nat.reduceAdd, Q15, Int.reduceToNat, Q16, Q17, Q18, Q19, Q20, reduceIte, Q21, Q22, recsE_len, rep, splice, toDs, toD, chunks, Q23, Q24, Q25, Q26, Q27, Q28, Nat.reduceLeDiff, Q29, Nat.reduceSub, Q30, Q31, Q32, sc, Q33, Q34, Q35, Q36, Q37, Q26, Q38, Q39, n0gt, n1gt, n2gt, n0eq, n1eq0, n1eq, n2eq, n0ne, n1ne, n1ne0, n0ne1, i0ne, i0eq, Bool.not_true, Bool.not_false, List.length_map, Bool.and_self, beq_self_eq_true, intsEq, rrO]; rfl) : P := e.mpr h
theorem gq60 {A P Q : Prop} (a : A) (h : Q) (e : A → P = Q := by intro a; simp -dsimp only [↓acallL, ↓loopL, ↓binC, ↓unC, ↓condC_b, ↓guardC_T, ↓guardC_F, ↓guardC_0, ↓pickC_b, ↓lenC, ↓slcC, ↓convC, ↓boxC, ↓allocC, ↓loadC, ↓storeC, ↓nilC, ↓faddrC, ↓fieldC, ↓iaddrC, ↓idxSC, ↓idxAC, ↓extractC, ↓buildC, ↓mksliceC, ↓appendC, ↓isnilC, ↓maxC, ↓minC, ↓callvC, ↓mkmapC, ↓mgetC, ↓msetC, ↓mdelC, ↓headC_cons, ↓rangeC, ↓BBL_true, ↓BBL_false, ↓BBL_not, binA, intOp, strOp, unA, esOf, bnd, intV, cellsA, fillV, srcE, dm, dm1, consO, cellA, maxL, minL, keepO, Q0, Q1, Q2, Q3, Q4, Q5, len_app, get_app, get_app0, set_app, set_app0, Q6, Q7, Q8, Q9, Q10, Q11, Q12, Q13, Q14, Nat.reduceAdd, Q15, Int.reduceToNat, Q16, Q17, Q18, Q19, Q20, reduceIte, Q21, Q22, recsE_len, rep, splice, toDs, toD, chunks, Q23, Q24, Q25, Q26, Q27, Q28, Nat.reduceLeDiff, Q29, Nat.reduceSub, Q30, Q31, Q32, sc, Q33, Q34, Q35, Q36, Q37, Q26, Q38, Q39, n0gt, n1gt, n2gt, n0eq, n1eq0, n1eq, n2eq, n0ne, n1ne, n1ne0, n0ne1, i0ne, i0eq, Bool.not_true, Bool.not_false, List.length_map, beq_self_eq_true, rrO, a]; rfl) : P := (e a).mpr h
theorem law_RequestReads (xs : List AV) (n : Nat) (hn : n ≤ 1048576) (h : ArgsOk pars_RequestReads xs n) : ACall Try.prog n_l08_RequestReads xs [] fun r _ => r = .d (.bool true) := by
  obtain ⟨ds, xs2, m2, hf, hb2, rfl, rfl⟩ := h
  obtain ⟨d, rfl, h1⟩ := one_of hf
  obtain ⟨b, rfl⟩ := dec_bytes h1
  have hbl : b.length ≤ 1048576 := by simp only [bulkL, bulkD, bulk_bcs] at hb2; omega
  show ACall Try.prog n_l08_RequestReads [.d (.slice (bcs b))] [] _
  clear hf h1 hb2
  generalize ([] : List AObj) = σ
  refine acall_of isA_l08_RequestReads rfl fun hl _ => s_l08_RequestReads ?_
  have hsz := reqP_sz false b
  have lx := small_of4 hsz
  obtain ⟨x, hx⟩ : ∃ x, (reqP false b).1 = x := ⟨_, rfl⟩
  rw [hx] at lx
  have hlike := Rd.like.refl ⟨b, 0⟩
  obtain ⟨q1, q2⟩ := hlike.batch (c := false) (d := true)
  obtain ⟨q3, q4⟩ := batchP_sz false ⟨b, 0⟩
  have hln1 : (batchP false ⟨b, 0⟩).2.b.length ≤ 1048576 := by
    have a := failP_len false (itemsP false (numP false 4 ⟨b, 0⟩).1 (numP false 4 ⟨b, 0⟩).2).2 (checkBatchF (itemsP false (numP false 4 ⟨b, 0⟩).1 (numP false 4 ⟨b, 0⟩).2).1)
    have d := itemsP_room false (numP false 4 ⟨b, 0⟩).2 (numP false 4 ⟨b, 0⟩).1
    have e := numP_room false 4 ⟨b, 0⟩
    unfold batchP; simp only at e ⊢; omega
  have hln2 : (batchP true ⟨b, 0⟩).2.b.length ≤ 1048576 := by
    have a := failP_len true (itemsP true (numP true 4 ⟨b, 0⟩).1 (numP true 4 ⟨b, 0⟩).2).2 (checkBatchF (itemsP true (numP true 4 ⟨b, 0⟩).1 (numP true 4 ⟨b, 0⟩).2).1)
    have d := itemsP_room true (numP true 4 ⟨b, 0⟩).2 (numP true 4 ⟨b, 0⟩).1
    have e := numP_room true 4 ⟨b, 0⟩
    unfold batchP; simp only at e ⊢; omega
  obtain ⟨l, hle⟩ : ∃ l, (batchP false ⟨b, 0⟩).1 = l := ⟨_, rfl⟩
  obtain ⟨s2, hs2⟩ : ∃ s2, (batchP false ⟨b, 0⟩).2 = s2 := ⟨_, rfl⟩
  obtain ⟨t2, ht2⟩ : ∃ t2, (batchP true ⟨b, 0⟩).2 = t2 := ⟨_, rfl⟩
  rw [hle] at q1 q3 q4
  rw [hs2, ht2] at q2
  rw [hs2] at hln1
  rw [ht2] at hln2
  obtain ⟨r1, r2⟩ := Rd.like.sign q2 (c := false) (d := true)
  obtain ⟨y, hy⟩ : ∃ y, (signP false s2).1 = y := ⟨_, rfl⟩
  rw [hy] at r1
  have hsl : smallB l := smallB_of ⟨by omega, fun x hx => sizes (by have := q3 x hx; omega)⟩
  simp only [S_l08_RequestReads]
  (repeat' (first | (refine gq1 ?_; try with_reducible exact True.intro) | ((with_reducible refine And.intro ?_ ?_); focus (first | omega | rfl | decide | (simp; done)))))
  refine c_rqParse (by omega) ?_
  rw [hx]
  simp only [reqA]
  (repeat' (first | (refine gq1 ?_; try with_reducible exact True.intro) | ((with_reducible refine And.intro ?_ ?_); focus (first | omega | rfl | decide | (simp; done)))))
  refine c_rqrParse (by omega) ?_
  rw [hx]
  simp only [reqA]
  (repeat' (first | (refine gq1 ?_; try with_reducible exact True.intro) | ((with_reducible refine And.intro ?_ ?_); focus (first | omega | rfl | decide | (simp; done)))))
  refine c_begun8 ?_
  (repeat' (first | (refine gq56 ?_; try with_reducible exact True.intro) | ((with_reducible refine And.intro ?_ ?_); focus (first | omega | rfl | decide | (simp; done)))))
  refine c_rSameRequest (a := x) (b := x) lx lx ?_
  rw [show decide (x.client = x.client ∧ x.time = x.time ∧ x.op = x.op) = true from decide_eq_true ⟨rfl, rfl, rfl⟩]
  (repeat' (first | (refine gq56 ?_; try with_reducible exact True.intro) | ((with_reducible refine And.intro ?_ ?_); focus (first | omega | rfl | decide | (simp; done)))))
  refine c_Read bcs_one (by rw [bcs_length]; omega) ?_
  (repeat' (first | (refine gq56 ?_; try with_reducible exact True.intro) | ((with_reducible refine And.intro ?_ ?_); focus (first | omega | rfl | decide | (simp; done)))))
  refine c_rrRead ?_
  (repeat' (first | (refine gq56 ?_; try with_reducible exact True.intro) | ((with_reducible refine And.intro ?_ ?_); focus (first | omega | rfl | decide | (simp; done)))))
  refine c_TakeBatch (s := ⟨b, 0⟩) (by (repeat' (first | (refine gq1 ?_; try with_reducible exact True.intro) | ((with_reducible refine And.intro ?_ ?_); focus (first | omega | rfl | decide | (simp; done))))); first | done | rfl) (.inr ⟨_, rfl⟩) (by simp only; omega) ?_
  rw [hle, hs2]
  intro c1 n1 hc1
  (repeat' (first | (refine gq56 ?_; try with_reducible exact True.intro) | ((with_reducible refine And.intro ?_ ?_); focus (first | omega | rfl | decide | (simp; done)))))
  refine c_rqrTakeBatch (s := ⟨b, 0⟩) (by (repeat' (first | (refine gq1 ?_; try with_reducible exact True.intro) | ((with_reducible refine And.intro ?_ ?_); focus (first | omega | rfl | decide | (simp; done)))))) ⟨.inl rfl, fun h => absurd rfl h⟩ (by simp only; omega) ?_
  rw [← q1, ht2]
  intro c2 hc2
  (repeat' (first | (refine gq56 ?_; try with_reducible exact True.intro) | ((with_reducible refine And.intro ?_ ?_); focus (first | omega | rfl | decide | (simp; done)))))
  refine c_rqSame (a := l) (b := l) hsl hsl ?_
  rw [show decide (l = l) = true from decide_eq_true rfl]
  (repeat' (first | (refine gq57 ?_; try with_reducible exact True.intro) | ((with_reducible refine And.intro ?_ ?_); focus (first | omega | rfl | decide | (simp; done)))))
  refine c_Err (c := c1) (e := s2.e) (by (repeat' (first | (refine gq1 ?_; try with_reducible exact True.intro) | ((with_reducible refine And.intro ?_ ?_); focus (first | omega | rfl | decide | (simp; done)))))) ?_
  (repeat' (first | (refine gq58 q2.1 ?_; try with_reducible exact True.intro) | ((with_reducible refine And.intro ?_ ?_); focus (first | omega | rfl | decide | (simp; done)))))
  refine c_TakeSign (c := c1) (s := s2) (by (repeat' (first | (refine gq2 q2.1 ?_; try with_reducible exact True.intro) | ((with_reducible refine And.intro ?_ ?_); focus (first | omega | rfl | decide | (simp; done)))))) hc1 (by omega) ?_
  rw [hy]
  intro c3 n3 hc3
  simp only [sgA]
  (repeat' (first | (refine gq1 ?_; try with_reducible exact True.intro) | ((with_reducible refine And.intro ?_ ?_); focus (first | omega | rfl | decide | (simp; done)))))
  refine c_rqrTakeSign (c := c2) (s := t2) (by (repeat' (first | (refine gq57 ?_; try with_reducible exact True.intro) | ((with_reducible refine And.intro ?_ ?_); focus (first | omega | rfl | decide | (simp; done)))))) hc2 (by omega) ?_
  rw [← r1]
  intro c4 hc4
  simp only [sgA]
  (repeat' (first | (refine gq59 ?_; try with_reducible exact True.intro) | ((with_reducible refine And.intro ?_ ?_); focus (first | omega | rfl | decide | (simp; done)))))
  refine c_Err (c := c3) (e := (signP false s2).2.e) (by (repeat' (first | (refine gq1 ?_; try with_reducible exact True.intro) | ((with_reducible refine And.intro ?_ ?_); focus (first | omega | rfl | decide | (simp; done)))))) ?_
  (repeat' (first | (refine gq60 r2.1 ?_; try with_reducible exact True.intro) | ((with_reducible refine And.intro ?_ ?_); focus (first | omega | rfl | decide | (simp; done)))))
  (first | refine ends_plain (by simp [Low_d, dmT, dm, dm1, pack, Low_tup, Low_agg, Low_exact]) hl ?_ | refine ends_plain0 (by simp [Low_d, dmT, dm, dm1, pack, Low_tup, Low_agg, Low_exact]) hl ?_)
  rfl
end Go.Proofs.Ythmdpooklflkfaa

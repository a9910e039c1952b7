/- The law RequestBack, from the contracts. -/
import Derived.Test.YthmdpooklflkfaaLaw08d
import Derived.Test.YthmdpooklflkfaaRq9
set_option linter.all false
set_option maxRecDepth 100000
set_option linter.unusedSimpArgs false
set_option linter.unusedVariables false
namespace Go.Proofs.Ythmdpooklflkfaa
open Go.AW

def pars_RequestBack : List (Bool × List Ty) := [(true, tyReq), (false, [.slice tySigned]), (false, [.slice [.int .u8]])]
theorem gq51 {P Q : Prop} (h : Q) (e : P = Q := by simp -dsimp only [↓acallL, ↓loopL, ↓binC, ↓unC, ↓condC_b, ↓guardC_T, ↓guardC_F, ↓guardC_0, ↓pickC_b, ↓lenC, ↓slcC, ↓convC, ↓boxC, ↓allocC, ↓loadC, ↓storeC, ↓nilC, ↓faddrC, ↓fieldC, ↓iaddrC, ↓idxSC, ↓idxAC, ↓extractC, ↓buildC, ↓mksliceC, ↓appendC, ↓isnilC, ↓maxC, ↓minC, ↓callvC, ↓mkmapC, ↓mgetC, ↓msetC, ↓mdelC, ↓headC_cons, ↓rangeC, ↓BBL_true, ↓BBL_false, ↓BBL_not, binA, intOp, strOp, unA, esOf, bnd, intV, cellsA, fillV, srcE, dm, dm1, consO, cellA, maxL, minL, keepO, Q0, Q1, Q2, Q3, Q4, Q5, len_app, get_app, get_app0, set_app, set_app0, Q6, Q7, Q8, Q9, Q10, Q11, Q12, Q13, Q14, Nat.reduceAdd, Q15, Int.reduceToNat, Q16, Q17, Q18, Q19, Q20, reduceIte, Q21, Q22, recsE_len, rep, splice, toDs, toD, chunks, Q23, Q24, Q25, Q26, Q27, Q28, Nat.reduceLeDiff, Q29, Nat.reduceSub, Q30, Q31, Q32, sc, Q33, Q34, Q35, Q36, Q37, Q26, Q38, Q39, n0gt, n1gt, n2gt, n0eq, n1eq0, n1eq, n2eq, n0ne, n1ne, n1ne0, n0ne1, i0ne, i0eq, Bool.not_true, Bool.not_false, List.length_map, beq_self_eq_true, bne_self_eq_false]; rfl) : P := e.mpr h
theorem gq52 {P Q : Prop} (h : Q) (e : P = Q := by simp -dsimp only [↓acallL, ↓loopL, ↓binC, ↓unC, ↓condC_b, ↓guardC_T, ↓guardC_F, ↓guardC_0, ↓pickC_b, ↓lenC, ↓slcC, ↓convC, ↓boxC, ↓allocC, ↓loadC, ↓storeC, ↓nilC, ↓faddrC, ↓fieldC, ↓iaddrC, ↓idxSC, ↓idxAC, ↓extractC, ↓buildC, ↓mksliceC, ↓appendC, ↓isnilC, ↓maxC, ↓minC, ↓callvC, ↓mkmapC, ↓mgetC, ↓msetC, ↓mdelC, ↓headC_cons, ↓rangeC, ↓BBL_true, ↓BBL_false, ↓BBL_not, binA, intOp, strOp, unA, esOf, bnd, intV, cellsA, fillV, srcE, dm, dm1, consO, cellA, maxL, minL, keepO, Q0, Q1, Q2, Q3, Q4, Q5, len_app, get_app, get_app0, set_app, set_app0, Q6, Q7, Q8, Q9, Q10, Q11, Q12, Q13, Q14, Nat.reduceAdd, Q15, Int.reduceToNat, Q16, Q17, Q18, Q19, Q20, reduceIte, Q21, Q22, recsE_len, rep, splice, toDs, toD, chunks, Q23, Q24, Q25, Q26, Q27, Q28, Nat.reduceLeDiff, Q29, Nat.reduceSub, Q30, Q31, Q32, sc, Q33, Q34, Q35, Q36, Q37, Q26, Q38, Q39, n0gt, n1gt, n2gt, n0eq, n1eq0, n1eq, n2eq, n0ne, n1ne, n1ne0, n0ne1, i0ne, i0eq, Bool.not_true, Bool.not_false, List.length_map, List.nil_append]; rfl) : P := e.mpr h
theorem gq53 {P Q : Prop} (h : Q) (e : P = Q := by simp -dsimp only [↓acallL, ↓loopL, ↓binC, ↓unC, ↓condC_b, ↓guardC_T, ↓guardC_F, ↓guardC_0, ↓pickC_b, ↓lenC, ↓slcC, ↓convC, ↓boxC, ↓allocC, ↓loadC, ↓storeC, ↓nilC, ↓faddrC, ↓fieldC, ↓iaddrC, ↓idxSC, ↓idxAC, ↓extractC, ↓buildC, ↓mksliceC, ↓appendC, ↓isnilC, ↓maxC, ↓minC, ↓callvC, ↓mkmapC, ↓mgetC, ↓msetC, ↓mdelC, ↓headC_cons, ↓rangeC, ↓BBL_true, ↓BBL_false, ↓BBL_not, binA, intOp, strOp, unA, esOf, bnd, intV, cellsA, fillV, srcE, dm, dm1, consO, cellA, maxL, minL, keepO, Q0, Q1, Q2, Q3, Q4, Q5, len_app, get_app, get_app0, set_app, set_app0, Q6, Q7, Q8, Q9, Q10, Q11, Q12, Q13, Q14, Nat.reduceAdd, Q15, Int.reduceToNat, Q16, Q17, Q18, Q19, Q20, reduceIte, Q21, Q22, recsE_len, rep, splice, toDs, toD, chunks, Q23, Q24, Q25, Q26, Q27, Q28, Nat.reduceLeDiff, Q29, Nat.reduceSub, Q30, Q31, Q32, sc, Q33, Q34, Q35, Q36, Q37, Q26, Q38, Q39, n0gt, n1gt, n2gt, n0eq, n1eq0, n1eq, n2eq, n0ne, n1ne, n1ne0, n0ne1, i0ne, i0eq, Bool.not_true, Bool.not_false, List.length_map, bcs_length, bne_self_eq_false]; rfl) : P := e.mpr h
theorem gq54 {P Q : Prop} (h : Q) (e : P = Q := by simp -dsimp only [↓acallL, ↓loopL, ↓binC, ↓unC, ↓condC_b, ↓guardC_T, ↓guardC_F, ↓guardC_0, ↓pickC_b, ↓lenC, ↓slcC, ↓convC, ↓boxC, ↓allocC, ↓loadC, ↓storeC, ↓nilC, ↓faddrC, ↓fieldC, ↓iaddrC, ↓idxSC, ↓idxAC, ↓extractC, ↓buildC, ↓mksliceC, ↓appendC, ↓isnilC, ↓maxC, ↓minC, ↓callvC, ↓mkmapC, ↓mgetC, ↓msetC, ↓mdelC, ↓headC_cons, ↓rangeC, ↓BBL_true, ↓BBL_false, ↓BBL_not, binA, intOp, strOp, unA, esOf, bnd, intV, cellsA, fillV, srcE, dm, dm1, consO, cellA, maxL, minL, keepO, Q0, Q1, Q2, Q3, Q4, Q5, len_app, get_app, get_app0, set_app, set_app0, Q6, Q7, Q8, Q9, Q10, Q11, Q12, Q13, Q14, Nat.reduceAdd, Q15, Int.reduceToNat, Q16, Q17, Q18, Q19, Q20, reduceIte, Q21, Q22, recsE_len, rep, splice, toDs, toD, chunks, Q23, Q24, Q25, Q26, Q27, Q28, Nat.reduceLeDiff, Q29, Nat.reduceSub, Q30, Q31, Q32, sc, Q33, Q34, Q35, Q36, Q37, Q26, Q38, Q39, n0gt, n1gt, n2gt, n0eq, n1eq0, n1eq, n2eq, n0ne, n1ne, n1ne0, n0ne1, i0ne, i0eq, Bool.not_true, Bool.not_false, List.length_map, bne_self_eq_false]; rfl) : P := e.mpr h
theorem law_RequestBack (xs : List AV) (n : Nat) (hn : n ≤ 1048576) (h : ArgsOk pars_RequestBack xs n) : ACall Try.prog n_l08_RequestBack xs [] fun r _ => r = .d (.bool true) := by
  obtain ⟨ds, xs1, m1, hf, hb1, rfl, h⟩ := h
  obtain ⟨x, rfl, hxr⟩ := dec_req hf
  obtain ⟨ds, xs2, m2, hf, hb2, rfl, h⟩ := h
  obtain ⟨d, rfl, h1⟩ := one_of hf
  obtain ⟨l, rfl⟩ := dec_batch h1
  obtain ⟨ds, xs3, m3, hf, hb3, rfl, rfl⟩ := h
  obtain ⟨d, rfl, h1⟩ := one_of hf
  obtain ⟨b, rfl⟩ := dec_bytes h1
  have hx := reqD_sz (x := x) (n := 1048576) (by omega) (by omega)
  obtain ⟨hz, hll⟩ := batch_sz (b := l) (n := 1048576) (by simp only [bulkL, bulkD] at hb2; omega) (by omega)
  have hbl : b.length ≤ 1048576 := by simp only [bulkL, bulkD, bulk_bcs] at hb3; omega
  show ACall Try.prog n_l08_RequestBack [reqA x, .d (.slice (batchE l)), .d (.slice (bcs b))] [] _
  clear hf h1 hb1 hb2 hb3
  generalize ([] : List AObj) = σ
  refine acall_of isA_l08_RequestBack rfl fun hl _ => s_l08_RequestBack ?_
  have hok : okB l := ⟨by omega, fun x hx => sizes (hz x hx)⟩
  have hsl := smallB_of hok
  have lx := (sizes hx).2.2.1
  obtain ⟨q3, q4⟩ := batchP_sz false ⟨b, 0⟩
  have hback : doneE (batchP false ⟨b, 0⟩).2 = 0 → checkBatchF (batchP false ⟨b, 0⟩).1 = 0 ∧ b = batchB (batchP false ⟨b, 0⟩).1 := fun h => by
    unfold doneE at h
    split at h
    · cases h
    · rename_i hn
      obtain ⟨_, e2, e3⟩ := batchP_ok h
      refine ⟨e2, ?_⟩
      have : (batchP false ⟨b, 0⟩).2.b = [] := by
        cases hb : (batchP false ⟨b, 0⟩).2.b with
        | nil => rfl
        | cons x r => exact absurd ⟨h, by rw [hb]; simp⟩ hn
      rw [this, List.append_nil] at e3
      exact e3
  obtain ⟨m, hle⟩ : ∃ m, (batchP false ⟨b, 0⟩).1 = m := ⟨_, rfl⟩
  obtain ⟨s2, hs2⟩ : ∃ s2, (batchP false ⟨b, 0⟩).2 = s2 := ⟨_, rfl⟩
  rw [hle] at q3 q4 hback
  rw [hs2] at hback
  simp only [S_l08_RequestBack, reqA]
  (repeat' (first | (refine gq1 ?_; try with_reducible exact True.intro) | ((with_reducible refine And.intro ?_ ?_); focus (first | omega | rfl | decide | (simp; done)))))
  refine c_begun8 ?_
  (repeat' (first | (refine gq51 ?_; try with_reducible exact True.intro) | ((with_reducible refine And.intro ?_ ?_); focus (first | omega | rfl | decide | (simp; done)))))
  refine c_rqBytes (x := x) hx ?_
  have hP : checkReqF x = 0 → reqP false (reqB x) = (⟨x.client, x.time, x.op, 0, 0⟩, 0) := fun h => reqP_put false h
  cases hc : (checkReqF x == 0)
  · (repeat' (first | (refine gq2 hc ?_; try with_reducible exact True.intro) | ((with_reducible refine And.intro ?_ ?_); focus (first | omega | rfl | decide | (simp; done)))))
    (
    refine c_CheckBatch hok ?_
    cases hk : (checkBatchF l == 0)
    · (repeat' (first | (refine gq2 hk ?_; try with_reducible exact True.intro) | ((with_reducible refine And.intro ?_ ?_); focus (first | omega | rfl | decide | (simp; done)))))
      (
        refine c_Read bcs_one (by rw [bcs_length]; omega) ?_
        (repeat' (first | (refine gq1 ?_; try with_reducible exact True.intro) | ((with_reducible refine And.intro ?_ ?_); focus (first | omega | rfl | decide | (simp; done)))))
        refine c_TakeBatch (s := ⟨b, 0⟩) (by (repeat' (first | (refine gq1 ?_; try with_reducible exact True.intro) | ((with_reducible refine And.intro ?_ ?_); focus (first | omega | rfl | decide | (simp; done))))); first | done | rfl) (.inr ⟨_, rfl⟩) (by simp only; omega) ?_
        rw [hle, hs2]
        intro c1 n1 hc1
        (repeat' (first | (refine gq1 ?_; try with_reducible exact True.intro) | ((with_reducible refine And.intro ?_ ?_); focus (first | omega | rfl | decide | (simp; done)))))
        refine c_Done (B := s2.b) (e := s2.e) (c := c1) (by (repeat' (first | (refine gq1 ?_; try with_reducible exact True.intro) | ((with_reducible refine And.intro ?_ ?_); focus (first | omega | rfl | decide | (simp; done)))))) hc1 ?_
        rw [show (if s2.e = 0 ∧ 0 < s2.b.length then (12 : Int) else s2.e) = doneE s2 from rfl]
        cases hd : (doneE s2 != 0)
        · have hd0 : doneE s2 = 0 := by simpa using hd
          obtain ⟨hm1, hm2⟩ := hback hd0
          (repeat' (first | (refine gq2 hd ?_; try with_reducible exact True.intro) | ((with_reducible refine And.intro ?_ ?_); focus (first | omega | rfl | decide | (simp; done)))))
          refine c_PutBatch (b := []) (by simp) (fun x hx => by have := q3 x hx; omega) (by omega) ?_
          rw [List.nil_append, show batchBytesF m = b from by rw [batchBytesF, if_pos hm1]; exact hm2.symm]
          (repeat' (first | (refine gq1 ?_; try with_reducible exact True.intro) | ((with_reducible refine And.intro ?_ ?_); focus (first | omega | rfl | decide | (simp; done)))))
          refine c_bytes_Equal ?_
          (repeat' (first | (refine gq51 ?_; try with_reducible exact True.intro) | ((with_reducible refine And.intro ?_ ?_); focus (first | omega | rfl | decide | (simp; done)))))
          (first | refine ends_plain (by simp [Low_d, dmT, dm, dm1, pack, Low_tup, Low_agg, Low_exact]) hl ?_ | refine ends_plain0 (by simp [Low_d, dmT, dm, dm1, pack, Low_tup, Low_agg, Low_exact]) hl ?_)
          rfl
        · (repeat' (first | (refine gq2 hd ?_; try with_reducible exact True.intro) | ((with_reducible refine And.intro ?_ ?_); focus (first | omega | rfl | decide | (simp; done)))))
          (first | refine ends_plain (by simp [Low_d, dmT, dm, dm1, pack, Low_tup, Low_agg, Low_exact]) hl ?_ | refine ends_plain0 (by simp [Low_d, dmT, dm, dm1, pack, Low_tup, Low_agg, Low_exact]) hl ?_)
          rfl)
    · have hk0 : checkBatchF l = 0 := by simpa using hk
      have hbb := batchBytes_len hz
      rw [batchBytesF, if_pos hk0] at hbb
      (repeat' (first | (refine gq2 hk ?_; try with_reducible exact True.intro) | ((with_reducible refine And.intro ?_ ?_); focus (first | omega | rfl | decide | (simp; done)))))
      refine c_PutBatchO (b := []) (by simp) hz hk0 ?_
      (repeat' (first | (refine gq52 ?_; try with_reducible exact True.intro) | ((with_reducible refine And.intro ?_ ?_); focus (first | omega | rfl | decide | (simp; done)))))
      refine ⟨bcs_one, by omega, ?_⟩
      rw [bcs_append]
      refine c_Read (es := bcs (batchB l ++ b)) bcs_one (by rw [bcs_length, List.length_append]; omega) ?_
      have hput := batchP_put false hk0 b
      (repeat' (first | (refine gq1 ?_; try with_reducible exact True.intro) | ((with_reducible refine And.intro ?_ ?_); focus (first | omega | rfl | decide | (simp; done)))))
      refine c_TakeBatch (s := ⟨batchB l ++ b, 0⟩) (by (repeat' (first | (refine gq1 ?_; try with_reducible exact True.intro) | ((with_reducible refine And.intro ?_ ?_); focus (first | omega | rfl | decide | (simp; done))))); first | done | rfl) (.inr ⟨_, rfl⟩) (by simp only [List.length_append]; omega) ?_
      rw [hput]
      intro c9 n9 hc9
      (repeat' (first | (refine gq1 ?_; try with_reducible exact True.intro) | ((with_reducible refine And.intro ?_ ?_); focus (first | omega | rfl | decide | (simp; done)))))
      refine c_rqSame (a := l) (b := l) hsl hsl ?_
      rw [show decide (l = l) = true from decide_eq_true rfl]
      (repeat' (first | (refine gq51 ?_; try with_reducible exact True.intro) | ((with_reducible refine And.intro ?_ ?_); focus (first | omega | rfl | decide | (simp; done)))))
      refine c_Err (c := c9) (e := 0) (by (repeat' (first | (refine gq1 ?_; try with_reducible exact True.intro) | ((with_reducible refine And.intro ?_ ?_); focus (first | omega | rfl | decide | (simp; done)))))) ?_
      (repeat' (first | (refine gq51 ?_; try with_reducible exact True.intro) | ((with_reducible refine And.intro ?_ ?_); focus (first | omega | rfl | decide | (simp; done)))))
      refine c_Left (c := c9) (e := 0) (B := b) (by (repeat' (first | (refine gq1 ?_; try with_reducible exact True.intro) | ((with_reducible refine And.intro ?_ ?_); focus (first | omega | rfl | decide | (simp; done)))))) hc9 ?_
      rw [if_pos rfl]
      (repeat' (first | (refine gq53 ?_; try with_reducible exact True.intro) | ((with_reducible refine And.intro ?_ ?_); focus (first | omega | rfl | decide | (simp; done)))))
      (
        refine c_Read bcs_one (by rw [bcs_length]; omega) ?_
        (repeat' (first | (refine gq1 ?_; try with_reducible exact True.intro) | ((with_reducible refine And.intro ?_ ?_); focus (first | omega | rfl | decide | (simp; done)))))
        refine c_TakeBatch (s := ⟨b, 0⟩) (by (repeat' (first | (refine gq1 ?_; try with_reducible exact True.intro) | ((with_reducible refine And.intro ?_ ?_); focus (first | omega | rfl | decide | (simp; done))))); first | done | rfl) (.inr ⟨_, rfl⟩) (by simp only; omega) ?_
        rw [hle, hs2]
        intro c1 n1 hc1
        (repeat' (first | (refine gq1 ?_; try with_reducible exact True.intro) | ((with_reducible refine And.intro ?_ ?_); focus (first | omega | rfl | decide | (simp; done)))))
        refine c_Done (B := s2.b) (e := s2.e) (c := c1) (by (repeat' (first | (refine gq1 ?_; try with_reducible exact True.intro) | ((with_reducible refine And.intro ?_ ?_); focus (first | omega | rfl | decide | (simp; done)))))) hc1 ?_
        rw [show (if s2.e = 0 ∧ 0 < s2.b.length then (12 : Int) else s2.e) = doneE s2 from rfl]
        cases hd : (doneE s2 != 0)
        · have hd0 : doneE s2 = 0 := by simpa using hd
          obtain ⟨hm1, hm2⟩ := hback hd0
          (repeat' (first | (refine gq2 hd ?_; try with_reducible exact True.intro) | ((with_reducible refine And.intro ?_ ?_); focus (first | omega | rfl | decide | (simp; done)))))
          refine c_PutBatch (b := []) (by simp) (fun x hx => by have := q3 x hx; omega) (by omega) ?_
          rw [List.nil_append, show batchBytesF m = b from by rw [batchBytesF, if_pos hm1]; exact hm2.symm]
          (repeat' (first | (refine gq1 ?_; try with_reducible exact True.intro) | ((with_reducible refine And.intro ?_ ?_); focus (first | omega | rfl | decide | (simp; done)))))
          refine c_bytes_Equal ?_
          (repeat' (first | (refine gq51 ?_; try with_reducible exact True.intro) | ((with_reducible refine And.intro ?_ ?_); focus (first | omega | rfl | decide | (simp; done)))))
          (first | refine ends_plain (by simp [Low_d, dmT, dm, dm1, pack, Low_tup, Low_agg, Low_exact]) hl ?_ | refine ends_plain0 (by simp [Low_d, dmT, dm, dm1, pack, Low_tup, Low_agg, Low_exact]) hl ?_)
          rfl
        · (repeat' (first | (refine gq2 hd ?_; try with_reducible exact True.intro) | ((with_reducible refine And.intro ?_ ?_); focus (first | omega | rfl | decide | (simp; done)))))
          (first | refine ends_plain (by simp [Low_d, dmT, dm, dm1, pack, Low_tup, Low_agg, Low_exact]) hl ?_ | refine ends_plain0 (by simp [Low_d, dmT, dm, dm1, pack, Low_tup, Low_agg, Low_exact]) hl ?_)
          rfl))
  · have hc0 : checkReqF x = 0 := by simpa using hc
    have hrl := reqB_1024 hc0
    rw [show reqBytesF x = reqB x from if_pos hc0]
    (repeat' (first | (refine gq2 hc ?_; try with_reducible exact True.intro) | ((with_reducible refine And.intro ?_ ?_); focus (first | omega | rfl | decide | (simp; done)))))
    refine c_rqParse (by omega) ?_
    rw [hP hc0]
    simp only [reqA]
    (repeat' (first | (refine gq54 ?_; try with_reducible exact True.intro) | ((with_reducible refine And.intro ?_ ?_); focus (first | omega | rfl | decide | (simp; done)))))
    refine c_rSameRequest (a := x) (b := ⟨x.client, x.time, x.op, 0, 0⟩) lx lx ?_
    rw [show decide (x.client = x.client ∧ x.time = x.time ∧ x.op = x.op) = true from decide_eq_true ⟨rfl, rfl, rfl⟩]
    (repeat' (first | (refine gq51 ?_; try with_reducible exact True.intro) | ((with_reducible refine And.intro ?_ ?_); focus (first | omega | rfl | decide | (simp; done)))))
    (
    refine c_CheckBatch hok ?_
    cases hk : (checkBatchF l == 0)
    · (repeat' (first | (refine gq2 hk ?_; try with_reducible exact True.intro) | ((with_reducible refine And.intro ?_ ?_); focus (first | omega | rfl | decide | (simp; done)))))
      (
        refine c_Read bcs_one (by rw [bcs_length]; omega) ?_
        (repeat' (first | (refine gq1 ?_; try with_reducible exact True.intro) | ((with_reducible refine And.intro ?_ ?_); focus (first | omega | rfl | decide | (simp; done)))))
        refine c_TakeBatch (s := ⟨b, 0⟩) (by (repeat' (first | (refine gq1 ?_; try with_reducible exact True.intro) | ((with_reducible refine And.intro ?_ ?_); focus (first | omega | rfl | decide | (simp; done))))); first | done | rfl) (.inr ⟨_, rfl⟩) (by simp only; omega) ?_
        rw [hle, hs2]
        intro c1 n1 hc1
        (repeat' (first | (refine gq1 ?_; try with_reducible exact True.intro) | ((with_reducible refine And.intro ?_ ?_); focus (first | omega | rfl | decide | (simp; done)))))
        refine c_Done (B := s2.b) (e := s2.e) (c := c1) (by (repeat' (first | (refine gq1 ?_; try with_reducible exact True.intro) | ((with_reducible refine And.intro ?_ ?_); focus (first | omega | rfl | decide | (simp; done)))))) hc1 ?_
        rw [show (if s2.e = 0 ∧ 0 < s2.b.length then (12 : Int) else s2.e) = doneE s2 from rfl]
        cases hd : (doneE s2 != 0)
        · have hd0 : doneE s2 = 0 := by simpa using hd
          obtain ⟨hm1, hm2⟩ := hback hd0
          (repeat' (first | (refine gq2 hd ?_; try with_reducible exact True.intro) | ((with_reducible refine And.intro ?_ ?_); focus (first | omega | rfl | decide | (simp; done)))))
          refine c_PutBatch (b := []) (by simp) (fun x hx => by have := q3 x hx; omega) (by omega) ?_
          rw [List.nil_append, show batchBytesF m = b from by rw [batchBytesF, if_pos hm1]; exact hm2.symm]
          (repeat' (first | (refine gq1 ?_; try with_reducible exact True.intro) | ((with_reducible refine And.intro ?_ ?_); focus (first | omega | rfl | decide | (simp; done)))))
          refine c_bytes_Equal ?_
          (repeat' (first | (refine gq51 ?_; try with_reducible exact True.intro) | ((with_reducible refine And.intro ?_ ?_); focus (first | omega | rfl | decide | (simp; done)))))
          (first | refine ends_plain (by simp [Low_d, dmT, dm, dm1, pack, Low_tup, Low_agg, Low_exact]) hl ?_ | refine ends_plain0 (by simp [Low_d, dmT, dm, dm1, pack, Low_tup, Low_agg, Low_exact]) hl ?_)
          rfl
        · (repeat' (first | (refine gq2 hd ?_; try with_reducible exact True.intro) | ((with_reducible refine And.intro ?_ ?_); focus (first | omega | rfl | decide | (simp; done)))))
          (first | refine ends_plain (by simp [Low_d, dmT, dm, dm1, pack, Low_tup, Low_agg, Low_exact]) hl ?_ | refine ends_plain0 (by simp [Low_d, dmT, dm, dm1, pack, Low_tup, Low_agg, Low_exact]) hl ?_)
          rfl)
    · have hk0 : checkBatchF l = 0 := by simpa using hk
      have hbb := batchBytes_len hz
      rw [batchBytesF, if_pos hk0] at hbb
      (repeat' (first | (refine gq2 hk ?_; try with_reducible exact True.intro) | ((with_reducible refine And.intro ?_ ?_); focus (first | omega | rfl | decide | (simp; done)))))
      refine c_PutBatchO (b := []) (by simp) hz hk0 ?_
      (repeat' (first | (refine gq52 ?_; try with_reducible exact True.intro) | ((with_reducible refine And.intro ?_ ?_); focus (first | omega | rfl | decide | (simp; done)))))
      refine ⟨bcs_one, by omega, ?_⟩
      rw [bcs_append]
      refine c_Read (es := bcs (batchB l ++ b)) bcs_one (by rw [bcs_length, List.length_append]; omega) ?_
      have hput := batchP_put false hk0 b
      (repeat' (first | (refine gq1 ?_; try with_reducible exact True.intro) | ((with_reducible refine And.intro ?_ ?_); focus (first | omega | rfl | decide | (simp; done)))))
      refine c_TakeBatch (s := ⟨batchB l ++ b, 0⟩) (by (repeat' (first | (refine gq1 ?_; try with_reducible exact True.intro) | ((with_reducible refine And.intro ?_ ?_); focus (first | omega | rfl | decide | (simp; done))))); first | done | rfl) (.inr ⟨_, rfl⟩) (by simp only [List.length_append]; omega) ?_
      rw [hput]
      intro c9 n9 hc9
      (repeat' (first | (refine gq1 ?_; try with_reducible exact True.intro) | ((with_reducible refine And.intro ?_ ?_); focus (first | omega | rfl | decide | (simp; done)))))
      refine c_rqSame (a := l) (b := l) hsl hsl ?_
      rw [show decide (l = l) = true from decide_eq_true rfl]
      (repeat' (first | (refine gq51 ?_; try with_reducible exact True.intro) | ((with_reducible refine And.intro ?_ ?_); focus (first | omega | rfl | decide | (simp; done)))))
      refine c_Err (c := c9) (e := 0) (by (repeat' (first | (refine gq1 ?_; try with_reducible exact True.intro) | ((with_reducible refine And.intro ?_ ?_); focus (first | omega | rfl | decide | (simp; done)))))) ?_
      (repeat' (first | (refine gq51 ?_; try with_reducible exact True.intro) | ((with_reducible refine And.intro ?_ ?_); focus (first | omega | rfl | decide | (simp; done)))))
      refine c_Left (c := c9) (e := 0) (B := b) (by (repeat' (first | (refine gq1 ?_; try with_reducible exact True.intro) | ((with_reducible refine And.intro ?_ ?_); focus (first | omega | rfl | decide | (simp; done)))))) hc9 ?_
      rw [if_pos rfl]
      (repeat' (first | (refine gq53 ?_; try with_reducible exact True.intro) | ((with_reducible refine And.intro ?_ ?_); focus (first | omega | rfl | decide | (simp; done)))))
      (
        refine c_Read bcs_one (by rw [bcs_length]; omega) ?_
        (repeat' (first | (refine gq1 ?_; try with_reducible exact True.intro) | ((with_reducible refine And.intro ?_ ?_); focus (first | omega | rfl | decide | (simp; done)))))
        refine c_TakeBatch (s := ⟨b, 0⟩) (by (repeat' (first | (refine gq1 ?_; try with_reducible exact True.intro) | ((with_reducible refine And.intro ?_ ?_); focus (first | omega | rfl | decide | (simp; done))))); first | done | rfl) (.inr ⟨_, rfl⟩) (by simp only; omega) ?_
        rw [hle, hs2]
        intro c1 n1 hc1
        (repeat' (first | (refine gq1 ?_; try with_reducible exact True.intro) | ((with_reducible refine And.intro ?_ ?_); focus (first | omega | rfl | decide | (simp; done)))))
        refine c_Done (B := s2.b) (e := s2.e) (c := c1) (by (repeat' (first | (refine gq1 ?_; try with_reducible exact True.intro) | ((with_reducible refine And.intro ?_ ?_); focus (first | omega | rfl | decide | (simp; done)))))) hc1 ?_
        rw [show (if s2.e = 0 ∧ 0 < s2.b.length then (12 : Int) else s2.e) = doneE s2 from rfl]
        cases hd : (doneE s2 != 0)
        · have hd0 : doneE s2 = 0 := by simpa using hd
          obtain ⟨hm1, hm2⟩ := hback hd0
          (repeat' (first | (refine gq2 hd ?_; try with_reducible exact True.intro) | ((with_reducible refine And.intro ?_ ?_); focus (first | omega | rfl | decide | (simp; done)))))
          refine c_PutBatch (b := []) (by simp) (fun x hx => by have := q3 x hx; omega) (by omega) ?_
          rw [List.nil_append, show batchBytesF m = b from by rw [batchBytesF, if_pos hm1]; exact hm2.symm]
          (repeat' (first | (refine gq1 ?_; try with_reducible exact True.intro) | ((with_reducible refine And.intro ?_ ?_); focus (first | omega | rfl | decide | (simp; done)))))
          refine c_bytes_Equal ?_
          (repeat' (first | (refine gq51 ?_; try with_reducible exact True.intro) | ((with_reducible refine And.intro ?_ ?_); focus (first | omega | rfl | decide | (simp; done)))))
          (first | refine ends_plain (by simp [Low_d, dmT, dm, dm1, pack, Low_tup, Low_agg, Low_exact]) hl ?_ | refine ends_plain0 (by simp [Low_d, dmT, dm, dm1, pack, Low_tup, Low_agg, Low_exact]) hl ?_)
          rfl
        · (repeat' (first | (refine gq2 hd ?_; try with_reducible exact True.intro) | ((with_reducible refine And.intro ?_ ?_); focus (first | omega | rfl | decide | (simp; done)))))
          (first | refine ends_plain (by simp [Low_d, dmT, dm, dm1, pack, Low_tup, Low_agg, Low_exact]) hl ?_ | refine ends_plain0 (by simp [Low_d, dmT, dm, dm1, pack, Low_tup, Low_agg, Low_exact]) hl ?_)
          rfl))
end Go.Proofs.Ythmdpooklflkfaa

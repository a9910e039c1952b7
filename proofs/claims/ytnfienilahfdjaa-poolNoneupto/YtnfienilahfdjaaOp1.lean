/- Contracts of operations: which are the same. -/
import Derived.Test.YtnfienilahfdjaaCodec2
import Derived.Test.YtnfienilahfdjaaSpOp
set_option linter.all false
set_option maxRecDepth 100000
set_option linter.unusedSimpArgs false
namespace Go.Proofs.Ytnfienilahfdjaa
open Go.AW

theorem gq1 {P Q : Prop} (h : Q) (e : P = Q := by simp -dsimp only [↓cA_u, ↓acallL, ↓loopL, ↓bP_u, ↓gF_b, ↓gT_b, ↓gF_0, ↓gT_0, ↓gFm_b, ↓gTm_b, ↓gFm_0, ↓gTm_0, ↓fl_u, ↓nfl_u, ↓gFl_b, ↓gTl_b, ↓gFl_0, ↓gTl_0, ↓il_u, ↓cp_u, ↓orC_b, ↓anC_b, ↓z1_u, ↓z2_u, ↓m1_u, iN, bT, bF, eN, ↓binC, ↓unC, ↓condC_b, ↓guardC_T, ↓guardC_F, ↓guardC_0, ↓pickC_b, ↓lenC, ↓slcC, ↓convC, ↓boxC, ↓allocC, ↓loadC, ↓storeC, ↓nilC, ↓faddrC, ↓fieldC, ↓iaddrC, ↓idxSC, ↓idxAC, ↓extractC, ↓buildC, ↓mksliceC, ↓appendC, ↓isnilC, ↓maxC, ↓minC, ↓callvC, ↓mkmapC, ↓mgetC, ↓msetC, ↓mdelC, ↓headC_cons, ↓rangeC, ↓BBL_true, ↓BBL_false, ↓BBL_not, binA, intOp, strOp, unA, esOf, bnd, intV, cellsA, fillV, srcE, dm, dm1, consO, cellA, maxL, minL, keepO, Q0, Q1, Q2, Q3, Q4, Q5, len_app, get_app, get_app0, set_app, set_app0, Q6, Q7, Q8, Q9, Q10, Q11, Q12, Q13, Q14, Nat.reduceAdd, Q15, Int.reduceToNat, Q16, Q17, Q18, Q19, Q20, reduceIte, Q21, Q22, recsE_len, rep, splice, toDs, toD, chunks, Q23, Q24, Q25, Q26, Q27, Q28, Nat.reduceLeDiff, Q29, Nat.reduceSub, Q30, Q31, Q32, sc, Q33, Q34, Q35]; rfl) : P := e.mpr h
theorem c_only {σ : List AObj} {o : TOp} {K : AV → List AObj → Prop} (hK : K (.tup [opA (onlyF o), .d (.bool (opKindOk o))]) σ) : ACall Try.prog n_op_only [opA o] σ K := by
  refine acE1 e_op_only fun hl => ?_
  simp only [S_op_only, iN, bT, bF, eN, zl2, opA]
  (repeat' (first | (refine gq1 ?_; try with_reducible exact True.intro) | (refine BBL_intro (fun h => ?_) (fun h => ?_) <;> (try rw [h])) | ((with_reducible refine And.intro ?_ ?_); focus (first | omega | rfl | decide))))

  all_goals refine finE hl ?_
  all_goals simp only [beq_iff_eq, beq_eq_false_iff_ne, ne_eq] at *
  all_goals simp_all [pack, dmT, dm, dm1, onlyF, noOp, opA, opKindOk, recsE]
  have e : (decide (0 ≤ o.kind) && decide (o.kind ≤ 4)) = false := by simp; omega
  rw [e] at hK
  exact hK
theorem gq2 {P Q : Prop} (h : Q) (e : P = Q := by simp -dsimp only [↓cA_u, ↓acallL, ↓loopL, ↓bP_u, ↓gF_b, ↓gT_b, ↓gF_0, ↓gT_0, ↓gFm_b, ↓gTm_b, ↓gFm_0, ↓gTm_0, ↓fl_u, ↓nfl_u, ↓gFl_b, ↓gTl_b, ↓gFl_0, ↓gTl_0, ↓il_u, ↓cp_u, ↓orC_b, ↓anC_b, ↓z1_u, ↓z2_u, ↓m1_u, iN, bT, bF, eN, ↓binC, ↓unC, ↓condC_b, ↓guardC_T, ↓guardC_F, ↓guardC_0, ↓pickC_b, ↓lenC, ↓slcC, ↓convC, ↓boxC, ↓allocC, ↓loadC, ↓storeC, ↓nilC, ↓faddrC, ↓fieldC, ↓iaddrC, ↓idxSC, ↓idxAC, ↓extractC, ↓buildC, ↓mksliceC, ↓appendC, ↓isnilC, ↓maxC, ↓minC, ↓callvC, ↓mkmapC, ↓mgetC, ↓msetC, ↓mdelC, ↓headC_cons, ↓rangeC, ↓BBL_true, ↓BBL_false, ↓BBL_not, binA, intOp, strOp, unA, esOf, bnd, intV, cellsA, fillV, srcE, dm, dm1, consO, cellA, maxL, minL, keepO, Q0, Q1, Q2, Q3, Q4, Q5, len_app, get_app, get_app0, set_app, set_app0, Q6, Q7, Q8, Q9, Q10, Q11, Q12, Q13, Q14, Nat.reduceAdd, Q15, Int.reduceToNat, Q16, Q17, Q18, Q19, Q20, reduceIte, Q21, Q22, S_op_Same_1, recsE_len]; rfl) : P := e.mpr h
theorem c_Same_1 {σ : List AObj} {a b : List UInt8} {K : AV → List AObj → Prop} (hK : K (.d (.bool (a == b))) σ) : ACall Try.prog n_op_Same_1 [.d (.slice (bcs a)), .d (.slice (bcs b))] σ K := by
  refine acE2 e_op_Same_1 fun hl => ?_
  (refine gq2 ?_; try with_reducible exact True.intro)
  refine c_bytes_Equal ?_
  refine finE hl ?_
  exact hK
theorem gqc0 {A B : Prop} (a : A) (b : B) : A ∧ B := ⟨a, b⟩
theorem gq3 {P Q : Prop} (h : Q) (e : P = Q := by simp -dsimp only [↓cA_u, ↓acallL, ↓loopL, ↓bP_u, ↓gF_b, ↓gT_b, ↓gF_0, ↓gT_0, ↓gFm_b, ↓gTm_b, ↓gFm_0, ↓gTm_0, ↓fl_u, ↓nfl_u, ↓gFl_b, ↓gTl_b, ↓gFl_0, ↓gTl_0, ↓il_u, ↓cp_u, ↓orC_b, ↓anC_b, ↓z1_u, ↓z2_u, ↓m1_u, iN, bT, bF, eN, ↓binC, ↓unC, ↓condC_b, ↓guardC_T, ↓guardC_F, ↓guardC_0, ↓pickC_b, ↓lenC, ↓slcC, ↓convC, ↓boxC, ↓allocC, ↓loadC, ↓storeC, ↓nilC, ↓faddrC, ↓fieldC, ↓iaddrC, ↓idxSC, ↓idxAC, ↓extractC, ↓buildC, ↓mksliceC, ↓appendC, ↓isnilC, ↓maxC, ↓minC, ↓callvC, ↓mkmapC, ↓mgetC, ↓msetC, ↓mdelC, ↓headC_cons, ↓rangeC, ↓BBL_true, ↓BBL_false, ↓BBL_not, binA, intOp, strOp, unA, esOf, bnd, intV, cellsA, fillV, srcE, dm, dm1, consO, cellA, maxL, minL, keepO, Q0, Q1, Q2, Q3, Q4, Q5, len_app, get_app, get_app0, set_app, set_app0, Q6, Q7, Q8, Q9, Q10, Q11, Q12, Q13, Q14, Nat.reduceAdd, Q15, Int.reduceToNat, Q16, Q17, Q18, Q19, Q20, reduceIte, Q21, Q22, S_slices_EqualFunc_api_Record_api_Record_api_Record_api_Record, recsE_len]; rfl) : P := e.mpr h
theorem gq4 {A P Q : Prop} (a : A) (h : Q) (e : A → P = Q := by intro a; simp -dsimp only [↓cA_u, ↓acallL, ↓loopL, ↓bP_u, ↓gF_b, ↓gT_b, ↓gF_0, ↓gT_0, ↓gFm_b, ↓gTm_b, ↓gFm_0, ↓gTm_0, ↓fl_u, ↓nfl_u, ↓gFl_b, ↓gTl_b, ↓gFl_0, ↓gTl_0, ↓il_u, ↓cp_u, ↓orC_b, ↓anC_b, ↓z1_u, ↓z2_u, ↓m1_u, iN, bT, bF, eN, ↓binC, ↓unC, ↓condC_b, ↓guardC_T, ↓guardC_F, ↓guardC_0, ↓pickC_b, ↓lenC, ↓slcC, ↓convC, ↓boxC, ↓allocC, ↓loadC, ↓storeC, ↓nilC, ↓faddrC, ↓fieldC, ↓iaddrC, ↓idxSC, ↓idxAC, ↓extractC, ↓buildC, ↓mksliceC, ↓appendC, ↓isnilC, ↓maxC, ↓minC, ↓callvC, ↓mkmapC, ↓mgetC, ↓msetC, ↓mdelC, ↓headC_cons, ↓rangeC, ↓BBL_true, ↓BBL_false, ↓BBL_not, binA, intOp, strOp, unA, esOf, bnd, intV, cellsA, fillV, srcE, dm, dm1, consO, cellA, maxL, minL, keepO, Q0, Q1, Q2, Q3, Q4, Q5, len_app, get_app, get_app0, set_app, set_app0, Q6, Q7, Q8, Q9, Q10, Q11, Q12, Q13, Q14, Nat.reduceAdd, Q15, Int.reduceToNat, Q16, Q17, Q18, Q19, Q20, reduceIte, Q21, Q22, recsE_len, a]; rfl) : P := (e a).mpr h
theorem gq5 {P Q : Prop} (h : Q) (e : P = Q := by simp -dsimp only [↓cA_u, ↓acallL, ↓loopL, ↓bP_u, ↓gF_b, ↓gT_b, ↓gF_0, ↓gT_0, ↓gFm_b, ↓gTm_b, ↓gFm_0, ↓gTm_0, ↓fl_u, ↓nfl_u, ↓gFl_b, ↓gTl_b, ↓gFl_0, ↓gTl_0, ↓il_u, ↓cp_u, ↓orC_b, ↓anC_b, ↓z1_u, ↓z2_u, ↓m1_u, iN, bT, bF, eN, ↓binC, ↓unC, ↓condC_b, ↓guardC_T, ↓guardC_F, ↓guardC_0, ↓pickC_b, ↓lenC, ↓slcC, ↓convC, ↓boxC, ↓allocC, ↓loadC, ↓storeC, ↓nilC, ↓faddrC, ↓fieldC, ↓iaddrC, ↓idxSC, ↓idxAC, ↓extractC, ↓buildC, ↓mksliceC, ↓appendC, ↓isnilC, ↓maxC, ↓minC, ↓callvC, ↓mkmapC, ↓mgetC, ↓msetC, ↓mdelC, ↓headC_cons, ↓rangeC, ↓BBL_true, ↓BBL_false, ↓BBL_not, binA, intOp, strOp, unA, esOf, bnd, intV, cellsA, fillV, srcE, dm, dm1, consO, cellA, maxL, minL, keepO, Q0, Q1, Q2, Q3, Q4, Q5, len_app, get_app, get_app0, set_app, set_app0, Q6, Q7, Q8, Q9, Q10, Q11, Q12, Q13, Q14, Nat.reduceAdd, Q15, Int.reduceToNat, Q16, Q17, Q18, Q19, Q20, reduceIte, Q21, Q22, recsE_len]; rfl) : P := e.mpr h
theorem gq6 {A P Q : Prop} (a : A) (h : Q) (e : A → P = Q := by intro a; simp -dsimp only [↓cA_u, ↓acallL, ↓loopL, ↓bP_u, ↓gF_b, ↓gT_b, ↓gF_0, ↓gT_0, ↓gFm_b, ↓gTm_b, ↓gFm_0, ↓gTm_0, ↓fl_u, ↓nfl_u, ↓gFl_b, ↓gTl_b, ↓gFl_0, ↓gTl_0, ↓il_u, ↓cp_u, ↓orC_b, ↓anC_b, ↓z1_u, ↓z2_u, ↓m1_u, iN, bT, bF, eN, ↓binC, ↓unC, ↓condC_b, ↓guardC_T, ↓guardC_F, ↓guardC_0, ↓pickC_b, ↓lenC, ↓slcC, ↓convC, ↓boxC, ↓allocC, ↓loadC, ↓storeC, ↓nilC, ↓faddrC, ↓fieldC, ↓iaddrC, ↓idxSC, ↓idxAC, ↓extractC, ↓buildC, ↓mksliceC, ↓appendC, ↓isnilC, ↓maxC, ↓minC, ↓callvC, ↓mkmapC, ↓mgetC, ↓msetC, ↓mdelC, ↓headC_cons, ↓rangeC, ↓BBL_true, ↓BBL_false, ↓BBL_not, binA, intOp, strOp, unA, esOf, bnd, intV, cellsA, fillV, srcE, dm, dm1, consO, cellA, maxL, minL, keepO, Q0, Q1, Q2, Q3, Q4, Q5, len_app, get_app, get_app0, set_app, set_app0, Q6, Q7, Q8, Q9, Q10, Q11, Q12, Q13, Q14, Nat.reduceAdd, Q15, Int.reduceToNat, Q16, Q17, Q18, Q19, Q20, reduceIte, Q21, Q22, Int.toNat_natCast, recsE_len, a]; rfl) : P := (e a).mpr h
theorem gq7 {P Q : Prop} (h : Q) (e : P = Q := by simp -dsimp only [↓cA_u, ↓acallL, ↓loopL, ↓bP_u, ↓gF_b, ↓gT_b, ↓gF_0, ↓gT_0, ↓gFm_b, ↓gTm_b, ↓gFm_0, ↓gTm_0, ↓fl_u, ↓nfl_u, ↓gFl_b, ↓gTl_b, ↓gFl_0, ↓gTl_0, ↓il_u, ↓cp_u, ↓orC_b, ↓anC_b, ↓z1_u, ↓z2_u, ↓m1_u, iN, bT, bF, eN, ↓binC, ↓unC, ↓condC_b, ↓guardC_T, ↓guardC_F, ↓guardC_0, ↓pickC_b, ↓lenC, ↓slcC, ↓convC, ↓boxC, ↓allocC, ↓loadC, ↓storeC, ↓nilC, ↓faddrC, ↓fieldC, ↓iaddrC, ↓idxSC, ↓idxAC, ↓extractC, ↓buildC, ↓mksliceC, ↓appendC, ↓isnilC, ↓maxC, ↓minC, ↓callvC, ↓mkmapC, ↓mgetC, ↓msetC, ↓mdelC, ↓headC_cons, ↓rangeC, ↓BBL_true, ↓BBL_false, ↓BBL_not, binA, intOp, strOp, unA, esOf, bnd, intV, cellsA, fillV, srcE, dm, dm1, consO, cellA, maxL, minL, keepO, Q0, Q1, Q2, Q3, Q4, Q5, len_app, get_app, get_app0, set_app, set_app0, Q6, Q7, Q8, Q9, Q10, Q11, Q12, Q13, Q14, Nat.reduceAdd, Q15, Int.reduceToNat, Q16, Q17, Q18, Q19, Q20, reduceIte, Q21, Q22, BBL_not, recsE_len]; rfl) : P := e.mpr h
theorem c_EqualFunc_Record {σ : List AObj} {a b : List (List UInt8)} (ha : a.length ≤ 1073741824) (hb : b.length ≤ 1073741824) {K : AV → List AObj → Prop} (hK : K (.d (.bool (a == b))) σ) :
    ACall Try.prog n_slices_EqualFunc_api_Record_api_Record_api_Record_api_Record [.d (.slice (recsE a)), .d (.slice (recsE b)), .fn (.func n_op_Same_1) [] []] σ K := by
  refine acE3 e_slices_EqualFunc_api_Record_api_Record_api_Record_api_Record fun hl => ?_
  (refine gq3 ?_; try with_reducible exact True.intro)
  refine BBL_intro (fun h => ?_) (fun h => ?_)
  all_goals (try (refine gq4 h ?_; try with_reducible exact True.intro))
  · refine finE hl ?_
    have : (a == b) = false := by
      rw [beq_eq_false_iff_ne]
      rintro rfl
      simp at h
    rw [this] at hK; exact hK
  have hl2 : a.length = b.length := by simp at h; omega
  refine loopC_count a.length (fun k vs s => vs = [.d (.int .i64 k)] ∧ s = σ ∧ a.take k = b.take k) ⟨rfl, rfl, by simp⟩ ?_
  rintro k vs s hk ⟨rfl, rfl, htk⟩
  (refine gq5 ?_; try with_reducible exact True.intro)
  refine BBL_intro (fun h => ?_) (fun h => ?_)
  all_goals (try (refine gq4 h ?_; try with_reducible exact True.intro))
  · have hka : k < a.length := by simp at h; omega
    have hx : a[k]? = some a[k] := by simp [hka]
    have hy : b[k]? = some (b[k]'(by omega)) := List.getElem?_eq_getElem _
    (refine gq6 (gqc0 (recsE_get hx) (recsE_get hy)) ?_; try with_reducible exact True.intro)
    refine ⟨by omega, by omega, c_Same_1 ?_⟩
    (refine gq7 ?_; try with_reducible exact True.intro)
    refine BBL_intro (fun h => ?_) (fun h => ?_)
    all_goals (try (refine gq4 h ?_; try with_reducible exact True.intro))
    · refine Again.next hka ⟨?_, rfl, take_succ_eq hx hy htk (by simpa using h)⟩
      rw [wrap64i (by omega) (by omega)]; rfl
    · refine finE hl ?_
      have : (a == b) = false := by
        rw [beq_eq_false_iff_ne]
        rintro rfl
        simp at h
      rw [this] at hK; exact hK
  · refine finE hl ?_
    have : (a == b) = true := by
      rw [beq_iff_eq]
      exact take_eq_of hl2 (k := k) (by simp at h; omega) htk
    rw [this] at hK; exact hK
theorem c_Same {σ : List AObj} {a b : TOp} (ha : a.recs.length ≤ 1073741824) (hb : b.recs.length ≤ 1073741824) {K : AV → List AObj → Prop} (hK : K (.d (.bool (decide (a = b)))) σ) : ACall Try.prog n_op_Same [opA a, opA b] σ K := by
  refine acE2 e_op_Same fun hl => ?_
  simp only [S_op_Same, iN, bT, bF, eN, opA]
  repeat' first
    | (refine gq1 ?_; try with_reducible exact True.intro)
    | (refine BBL_intro (fun h => ?_) (fun h => ?_) <;> (try rw [h]))
    | refine c_EqualFunc_Record ha hb ?_
  all_goals refine finE hl ?_
  all_goals simp only [beq_iff_eq, beq_eq_false_iff_ne, ne_eq] at *
  · have e : decide (a = b) = (a.recs == b.recs) := by
      rw [Bool.eq_iff_iff]
      cases a; cases b
      simp_all
    rw [e] at hK; exact hK
  all_goals
    have e : decide (a = b) = false := by
      cases a; cases b
      simp_all
    rw [e] at hK; exact hK
end Go.Proofs.Ytnfienilahfdjaa

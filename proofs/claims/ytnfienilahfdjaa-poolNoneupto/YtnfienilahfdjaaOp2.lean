/- Contracts: runes and names. -/
import Derived.Test.YtnfienilahfdjaaOp1
import Derived.Test.YtnfienilahfdjaaSpUtf
set_option linter.all false
set_option maxRecDepth 100000
set_option linter.unusedSimpArgs false
namespace Go.Proofs.Ytnfienilahfdjaa
open Go.AW

theorem c_Runes {σ : List AObj} {s : List UInt8} (hs : s.length ≤ 1073741824) {K : AV → List AObj → Prop} (hK : K (.d (.int .i64 (runesF s))) σ) : ACall Try.prog n_op_Runes [.d (.str s)] σ K := by
  refine acE1 e_op_Runes fun hl => ?_
  simp only [S_op_Runes, iN, bT, bF, eN, rangeC]
  refine loopC_count s.length (fun pos vs s' => ∃ cnt : Nat, vs = [.d (.int .i64 cnt)] ∧ s' = σ ++ [.iter s pos] ∧ pos ≤ s.length ∧ cnt ≤ pos ∧ countF (s.length + 1) s = (countF (s.length + 1) (s.drop pos)).map (· + cnt)) ⟨0, rfl, rfl, by omega, by omega, by simp⟩ ?_
  rintro pos vs s' hp ⟨cnt, rfl, rfl, hps, hc, hr⟩
  simp only [headC_cons, nextC, get_app0, List.getElem?_cons_zero]
  split
  · rename_i hlt
    have hd : s.drop pos ≠ [] := by intro e; have := congrArg List.length e; simp at this; omega
    have hw := goDec_width _ hd
    have hw2 := dec1_width (s.drop pos)
    simp only [decode_eq s pos hlt]
    have hcount : countF (s.length + 1) (s.drop pos) = if (dec1 (s.drop pos)).2 = 0 ∨ badF (dec1 (s.drop pos)).1 = true then none else (countF s.length ((s.drop pos).drop (dec1 (s.drop pos)).2)).map (· + 1) := by
      rw [countF, if_neg hd]
    (repeat' (first | (refine gq1 ?_; try with_reducible exact True.intro) | (refine BBL_intro (fun h => ?_) (fun h => ?_) <;> (try rw [h])) | ((with_reducible refine And.intro ?_ ?_); focus (first | omega | rfl | decide))))
    all_goals first
      | (refine finE hl ?_
         have hb : badF (goDec (s.drop pos)).1 = true := by
           simp only [badF]
           (try simp only [decide_eq_true_eq, decide_eq_false_iff_not, beq_iff_eq, beq_eq_false_iff_ne, bne_iff_ne, ne_eq, Bool.not_eq_true', Bool.not_eq_false', bne_eq_false_iff_eq] at *)
           omega
         rw [goDec_bad] at hb
         have : countF (s.length + 1) (s.drop pos) = none := by rw [hcount, if_pos (by simpa using hb)]
         have h0 : runesF s = 0 := by simp [runesF, hr, this]
         rw [h0] at hK; exact hK)
      | skip
    all_goals
      have hb : badF (goDec (s.drop pos)).1 = false := by
        simp only [badF]
        (try simp only [decide_eq_true_eq, decide_eq_false_iff_not, beq_iff_eq, beq_eq_false_iff_ne, bne_iff_ne, ne_eq, Bool.not_eq_true', Bool.not_eq_false', bne_eq_false_iff_eq] at *)
        omega
      obtain ⟨g1, g2, g3⟩ := goDec_good hb
      rw [wrap64i (by omega) (by omega)]
      refine Again.to (pos + (goDec (s.drop pos)).2) (by omega) (by simp at hw; omega) ⟨cnt + 1, rfl, rfl, by simp at hw; omega, by omega, ?_⟩
      rw [hr, hcount, if_neg (by simp [g2, g3]), g1, List.drop_drop, countF_more s.length (s.length + 1) _ (by simp at *; omega) (by simp; omega)]
      cases countF (s.length + 1) (List.drop (pos + (dec1 (s.drop pos)).2) s) <;> simp
      omega
  · rename_i hlt
    have e : s.drop pos = [] := List.drop_eq_nil_of_le (by omega)
    have hcnt : countF (s.length + 1) s = some cnt := by rw [hr, e]; simp [countF]
    (refine gq5 ?_; try with_reducible exact True.intro)
    refine BBL_intro (fun h => ?_) (fun h => ?_)
    all_goals (try (refine gq4 h ?_; try with_reducible exact True.intro))
    · refine finE hl ?_
      have h0 : runesF s = 0 := by simp [runesF, hcnt]; simp at h; omega
      rw [h0] at hK; exact hK
    · refine finE hl ?_
      have h0 : runesF s = cnt := by simp [runesF, hcnt]; simp at h; omega
      rw [h0] at hK; exact hK
theorem gq8 {P Q : Prop} (h : Q) (e : P = Q := by simp -dsimp only [↓cA_u, ↓acallL, ↓loopL, ↓bP_u, ↓gF_b, ↓gT_b, ↓gF_0, ↓gT_0, ↓gFm_b, ↓gTm_b, ↓gFm_0, ↓gTm_0, ↓fl_u, ↓nfl_u, ↓gFl_b, ↓gTl_b, ↓gFl_0, ↓gTl_0, ↓il_u, ↓cp_u, ↓orC_b, ↓anC_b, ↓z1_u, ↓z2_u, ↓m1_u, iN, bT, bF, eN, ↓binC, ↓unC, ↓condC_b, ↓guardC_T, ↓guardC_F, ↓guardC_0, ↓pickC_b, ↓lenC, ↓slcC, ↓convC, ↓boxC, ↓allocC, ↓loadC, ↓storeC, ↓nilC, ↓faddrC, ↓fieldC, ↓iaddrC, ↓idxSC, ↓idxAC, ↓extractC, ↓buildC, ↓mksliceC, ↓appendC, ↓isnilC, ↓maxC, ↓minC, ↓callvC, ↓mkmapC, ↓mgetC, ↓msetC, ↓mdelC, ↓headC_cons, ↓rangeC, ↓BBL_true, ↓BBL_false, ↓BBL_not, binA, intOp, strOp, unA, esOf, bnd, intV, cellsA, fillV, srcE, dm, dm1, consO, cellA, maxL, minL, keepO, Q0, Q1, Q2, Q3, Q4, Q5, len_app, get_app, get_app0, set_app, set_app0, Q6, Q7, Q8, Q9, Q10, Q11, Q12, Q13, Q14, Nat.reduceAdd, Q15, Int.reduceToNat, Q16, Q17, Q18, Q19, Q20, reduceIte, Q21, Q22, S_op_Name, recsE_len]; rfl) : P := e.mpr h
theorem c_Name {σ : List AObj} {s : List UInt8} (hs : s.length ≤ 1073741824) {K : AV → List AObj → Prop} (hK : K (.d (.bool (nameF s))) σ) : ACall Try.prog n_op_Name [.d (.str s)] σ K := by
  refine acE1 e_op_Name fun hl => ?_
  (refine gq8 ?_; try with_reducible exact True.intro)
  refine c_Runes hs ?_
  (refine gq5 ?_; try with_reducible exact True.intro)
  refine finE hl ?_
  have : decide ((runesF s : Int) > 0) = nameF s := by simp [nameF]
  rw [this]; exact hK


theorem c_Check_1 {σ : List AObj} {r : List UInt8} {K : AV → List AObj → Prop} (hK : K (.d (.bool (decide (r.length > 64)))) σ) : ACall Try.prog n_op_Check_1 [.d (.slice (bcs r))] σ K := by
  refine acE1 e_op_Check_1 fun hl => ?_
  simp only [S_op_Check_1, iN, bT, bF, eN]
  (refine gq5 ?_; try with_reducible exact True.intro)
  refine finE hl ?_
  have : decide (((bcs r).length : Int) > 64) = decide (r.length > 64) := by simp [bcs]; omega
  rw [this]; exact hK
theorem gq9 {P Q : Prop} (h : Q) (e : P = Q := by simp -dsimp only [↓cA_u, ↓acallL, ↓loopL, ↓bP_u, ↓gF_b, ↓gT_b, ↓gF_0, ↓gT_0, ↓gFm_b, ↓gTm_b, ↓gFm_0, ↓gTm_0, ↓fl_u, ↓nfl_u, ↓gFl_b, ↓gTl_b, ↓gFl_0, ↓gTl_0, ↓il_u, ↓cp_u, ↓orC_b, ↓anC_b, ↓z1_u, ↓z2_u, ↓m1_u, iN, bT, bF, eN, ↓binC, ↓unC, ↓condC_b, ↓guardC_T, ↓guardC_F, ↓guardC_0, ↓pickC_b, ↓lenC, ↓slcC, ↓convC, ↓boxC, ↓allocC, ↓loadC, ↓storeC, ↓nilC, ↓faddrC, ↓fieldC, ↓iaddrC, ↓idxSC, ↓idxAC, ↓extractC, ↓buildC, ↓mksliceC, ↓appendC, ↓isnilC, ↓maxC, ↓minC, ↓callvC, ↓mkmapC, ↓mgetC, ↓msetC, ↓mdelC, ↓headC_cons, ↓rangeC, ↓BBL_true, ↓BBL_false, ↓BBL_not, binA, intOp, strOp, unA, esOf, bnd, intV, cellsA, fillV, srcE, dm, dm1, consO, cellA, maxL, minL, keepO, Q0, Q1, Q2, Q3, Q4, Q5, len_app, get_app, get_app0, set_app, set_app0, Q6, Q7, Q8, Q9, Q10, Q11, Q12, Q13, Q14, Nat.reduceAdd, Q15, Int.reduceToNat, Q16, Q17, Q18, Q19, Q20, reduceIte, Q21, Q22, dmT, pack, recsE_len]; rfl) : P := e.mpr h
theorem c_ContainsFunc_Record {σ : List AObj} {a : List (List UInt8)} (ha : a.length ≤ 1073741824) {K : AV → List AObj → Prop} (hK : K (.d (.bool (a.any fun r => decide (r.length > 64)))) σ) :
    ACall Try.prog n_slices_ContainsFunc_api_Record_api_Record [.d (.slice (recsE a)), .fn (.func n_op_Check_1) [] []] σ K := by
  refine acE2 e_slices_ContainsFunc_api_Record_api_Record fun hl => ?_
  simp only [S_slices_ContainsFunc_api_Record_api_Record, iN, bT, bF, eN]
  (refine gq5 ?_; try with_reducible exact True.intro)
  refine acE2 e_slices_IndexFunc_api_Record_api_Record fun hl => ?_
  simp only [S_slices_IndexFunc_api_Record_api_Record, iN, bT, bF, eN]
  (refine gq5 ?_; try with_reducible exact True.intro)
  refine loopC_count a.length (fun k vs s => vs = [.d (.int .i64 k)] ∧ s = σ ∧ ∀ r ∈ a.take k, ¬ r.length > 64) ⟨rfl, rfl, by simp⟩ ?_
  rintro k vs s hk ⟨rfl, rfl, htk⟩
  (refine gq5 ?_; try with_reducible exact True.intro)
  refine BBL_intro (fun h => ?_) (fun h => ?_)
  · have hka : k < a.length := by (try simp only [decide_eq_true_eq, decide_eq_false_iff_not, beq_iff_eq, beq_eq_false_iff_ne, bne_iff_ne, ne_eq, Bool.not_eq_true', Bool.not_eq_false', bne_eq_false_iff_eq] at *); omega
    have hx : a[k]? = some a[k] := by simp [hka]
    (refine gq4 (recsE_get hx) ?_; try with_reducible exact True.intro)
    refine And.intro (by omega) (c_Check_1 ?_)
    (refine gq5 ?_; try with_reducible exact True.intro)
    refine BBL_intro (fun h => ?_) (fun h => ?_)
    · refine finE hl ?_
      (refine gq9 ?_; try with_reducible exact True.intro)
      refine finE hl ?_
      have e1 : decide ((k : Int) ≥ 0) = true := by simp
      have e2 : (a.any fun r => decide (r.length > 64)) = true := by
        rw [List.any_eq_true]
        exact ⟨a[k], List.getElem_mem _, h⟩
      rw [e2] at hK
      simp only [pack, dmT, dm, dm1]
      rw [e1]; exact hK
    · (refine gq5 ?_; try with_reducible exact True.intro)
      refine Again.next hka ⟨?_, rfl, fun r hr => ?_⟩
      · rw [wrap64i (by omega) (by omega)]; rfl
      · rw [List.take_add_one, hx] at hr
        rcases List.mem_append.1 hr with hr | hr
        · exact htk r hr
        · have : r = a[k] := by simpa using hr
          subst this
          simpa using h
  · refine finE hl ?_
    (refine gq9 ?_; try with_reducible exact True.intro)
    refine finE hl ?_
    have e2 : (a.any fun r => decide (r.length > 64)) = false := by
      rw [List.any_eq_false]
      intro r hr
      have hk' : k = a.length := by (try simp only [decide_eq_true_eq, decide_eq_false_iff_not, beq_iff_eq, beq_eq_false_iff_ne, bne_iff_ne, ne_eq, Bool.not_eq_true', Bool.not_eq_false', bne_eq_false_iff_eq] at *); omega
      rw [hk', List.take_length] at htk
      simpa using htk r hr
    rw [e2] at hK
    exact hK
theorem gq10 {P Q : Prop} (h : Q) (e : P = Q := by simp -dsimp only [↓cA_u, ↓acallL, ↓loopL, ↓bP_u, ↓gF_b, ↓gT_b, ↓gF_0, ↓gT_0, ↓gFm_b, ↓gTm_b, ↓gFm_0, ↓gTm_0, ↓fl_u, ↓nfl_u, ↓gFl_b, ↓gTl_b, ↓gFl_0, ↓gTl_0, ↓il_u, ↓cp_u, ↓orC_b, ↓anC_b, ↓z1_u, ↓z2_u, ↓m1_u, iN, bT, bF, eN, ↓binC, ↓unC, ↓condC_b, ↓guardC_T, ↓guardC_F, ↓guardC_0, ↓pickC_b, ↓lenC, ↓slcC, ↓convC, ↓boxC, ↓allocC, ↓loadC, ↓storeC, ↓nilC, ↓faddrC, ↓fieldC, ↓iaddrC, ↓idxSC, ↓idxAC, ↓extractC, ↓buildC, ↓mksliceC, ↓appendC, ↓isnilC, ↓maxC, ↓minC, ↓callvC, ↓mkmapC, ↓mgetC, ↓msetC, ↓mdelC, ↓headC_cons, ↓rangeC, ↓BBL_true, ↓BBL_false, ↓BBL_not, binA, intOp, strOp, unA, esOf, bnd, intV, cellsA, fillV, srcE, dm, dm1, consO, cellA, maxL, minL, keepO, Q0, Q1, Q2, Q3, Q4, Q5, len_app, get_app, get_app0, set_app, set_app0, Q6, Q7, Q8, Q9, Q10, Q11, Q12, Q13, Q14, Nat.reduceAdd, Q15, Int.reduceToNat, Q16, Q17, Q18, Q19, Q20, reduceIte, Q21, Q22, recsE_len, rep, splice, toDs, toD, chunks, Q23, Q24, Q25, Q26, Q27, Q28, Nat.reduceLeDiff, Q29, Nat.reduceSub, Q30, Q31, Q32, sc, Q33, Q34, Q35, Bool.and_false, Bool.and_self, Bool.false_and, Bool.not_false, Bool.not_true, Bool.true_and, Int.toNat_natCast, Int.toNat_zero, List.drop_zero, List.length_map, List.length_nil, List.nil_append, List.take_length, Nat.sub_zero, Nat.zero_add, Option.isSome_none, Option.isSome_some, Option.map_none, Option.map_some, bcs_length, beq_self_eq_true, bne_self_eq_false, cellsEq, intsEq, opA]; rfl) : P := e.mpr h
theorem c_Check {σ : List AObj} {o : TOp} (ht : o.topic.length ≤ 1073741824) (hg : o.group.length ≤ 1073741824) (hr : o.recs.length ≤ 1073741824) {K : AV → List AObj → Prop} (hK : K (.d (.int .i64 (checkOpF nameF o))) σ) : ACall Try.prog n_op_Check [opA o] σ K := by
  refine acE1 e_op_Check fun hl => ?_
  simp only [S_op_Check, iN, bT, bF, eN, zl2, opA]
  (refine gq1 ?_; try with_reducible exact True.intro)
  refine c_only (o := o) ?_
  have honly : (onlyF o).recs.length ≤ 1073741824 := by unfold onlyF noOp; split <;> (try split) <;> (try split) <;> (try split) <;> simp <;> omega
  (refine gq10 ?_; try with_reducible exact True.intro)
  repeat' first
    | (refine gq1 ?_; try with_reducible exact True.intro)
    | refine c_Same (a := o) (b := onlyF o) hr honly ?_
    | refine c_Name ht ?_
    | refine c_Name hg ?_
    | refine c_ContainsFunc_Record hr ?_
    | (refine BBL_intro (fun h => ?_) (fun h => ?_) <;> (try rw [h]))
    | ((with_reducible refine And.intro ?_ ?_); focus (first | omega | rfl | decide))
  all_goals refine finE hl ?_
  all_goals (try simp only [decide_eq_true_eq, decide_eq_false_iff_not, beq_iff_eq, beq_eq_false_iff_ne, bne_iff_ne, ne_eq, Bool.not_eq_true', Bool.not_eq_false', bne_eq_false_iff_eq] at *)
  all_goals
    simp only [pack, dmT, dm, dm1]
    have e : ∀ z : Int, checkOpF nameF o = z → K (.d (.int .i64 z)) σ := fun z hz => by rw [← hz]; exact hK
    clear hK
    apply e
    first
    | grind [checkOpF]
    | skip

end Go.Proofs.Ytnfienilahfdjaa

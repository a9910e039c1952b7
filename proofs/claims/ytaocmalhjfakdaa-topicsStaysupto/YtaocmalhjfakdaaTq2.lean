/- Contracts: the program's topics: made, found; bounds, records; a topic more. -/
import Derived.Test.YtaocmalhjfakdaaTq1
import Derived.Test.YtaocmalhjfakdaaMk8
set_option linter.all false
set_option maxRecDepth 100000
set_option linter.unusedSimpArgs false
set_option linter.unusedVariables false
namespace Go.Proofs.Ytaocmalhjfakdaa
open Go.AW

def boundsF (T : TTops) (n : List UInt8) : Int × Int × Int := match atF n T.l 0 with
  | none => (0, 0, 4)
  | some k => match T.l[k]? with
    | none => (0, 0, 4)
    | some x => (x.base, x.next, 0)
def getF (T : TTops) (n : List UInt8) (o : Int) : List UInt8 × Int := match atF n T.l 0 with
  | none => ([], 4)
  | some k => match T.l[k]? with
    | none => ([], 4)
    | some x => if o < x.base ∨ x.next ≤ o then ([], 72) else (x.recs.getD (o - x.base).toNat [], 0)
theorem c_tpNew {σ : List AObj} {K : AV → List AObj → Prop} (hK : TpAt (σ ++ [.map [], .box (.map σ.length :: lastC noTops.last)]) (σ.length + 1) noTops (fun j => j = σ.length + 1 ∨ j = σ.length) → K (.box (σ.length + 1) 0) (σ ++ [.map [], .box (.map σ.length :: lastC noTops.last)])) : ACall Try.prog n_topics_New [] σ K := by
  refine acall_all e_topics_New.is rfl fun hl _ => e_topics_New.goes ?_
  simp only [S_topics_New, iN, bT, bF, eN]
  refine gq11 ?_
  refine endsA (hK ⟨σ.length, [], ⟨by rw [get_app]; rfl, by rw [get_app0]; rfl, by simp, by simp, by simp, rfl⟩, .nil, fun j => ?_⟩)
  simp [OwnP]
section

variable {σ : List AObj} {id m : Nat} {X : List PTop} {L : List (Int × Int × Int)} {K : AV → List AObj → Prop}

theorem gq12 {A P Q : Prop} (a : A) (h : Q) (e : A → Hd Q → P := by intro a h; (repeat' first | simp -dsimp only [↓cA_u, ↓acallL, ↓loopL, ↓bP_u, ↓gF_b, ↓gT_b, ↓gF_0, ↓gT_0, ↓gFm_b, ↓gTm_b, ↓gFm_0, ↓gTm_0, ↓fl_u, ↓nfl_u, ↓gFl_b, ↓gTl_b, ↓gFl_0, ↓gTl_0, ↓il_u, ↓cp_u, ↓orC_b, ↓anC_b, ↓z1_u, ↓z2_u, ↓m1_u, iN, bT, bF, eN, ↓binC, ↓unC, ↓condC_b, ↓guardC_T, ↓guardC_F, ↓guardC_0, ↓pickC_b, ↓lenC, ↓slcC, ↓convC, ↓boxC, ↓allocC, ↓loadC, ↓storeC, ↓nilC, ↓faddrC, ↓fieldC, ↓iaddrC, ↓idxSC, ↓idxAC, ↓extractC, ↓buildC, ↓mksliceC, ↓appendC, ↓isnilC, ↓maxC, ↓minC, ↓callvC, ↓mkmapC, ↓mgetC, ↓msetC, ↓mdelC, ↓headC_cons, ↓rangeC, ↓BBL_true, ↓BBL_false, ↓BBL_not, binA, intOp, strOp, unA, esOf, bnd, intV, cellsA, fillV, srcE, dm, dm1, consO, cellA, maxL, minL, keepO, Q0, Q1, Q2, Q3, Q4, Q5, len_app, get_app, get_app0, set_app, set_app0, Q6, Q7, Q8, Q9, Q10, Q11, Q12, Q13, Q14, Nat.reduceAdd, Q15, Int.reduceToNat, Q16, Q17, Q18, Q19, Q20, reduceIte, Q21, Q22, recsE_len, rep, splice, toDs, toD, chunks, Q23, Q24, Q25, Q26, Q27, Q28, Nat.reduceLeDiff, Q29, Nat.reduceSub, Q30, Q31, Q32, sc, Q33, Q34, Q35, Q36, Q37, Q26, Q38, Q39, n0gt, n1gt, n2gt, n0eq, n1eq0, n1eq, n2eq, n0ne, n1ne, n1ne0, n0ne1, i0ne, i0eq, Bool.not_true, Bool.not_false, List.length_map, a] | with_reducible refine andA ?_ | fail); exact h.go) : P := e a ⟨h⟩
theorem c_tpNone {cs : List AV} (hb : σ[id]? = some (.box (.map m :: cs))) (hK : K (.d (.bool false)) σ) : ACall Try.prog n_topics_Topics_none [.box id 0] σ K := by
  refine acE1 e_topics_Topics_none fun hl => ?_
  simp only [S_topics_Topics_none, iN, bT, bF, eN]
  refine gq12 hb ?_
  refine finE hl ?_
  exact hK
theorem c_tpNext {x : TTopic} {t g : Nat} (hb : σ[id]? = some (topB' x t g)) (h1 : -9223372036854775808 ≤ x.next ∧ x.next ≤ 9223372036854775807) (hK : K (.d (.int .i64 x.next)) σ) : ACall Try.prog n_topics_topic_next [.box id 0] σ K := by
  refine acE1 e_topics_topic_next fun hl => ?_
  have hlen := recsE_len x.recs
  have hw : IntKind.i64.wrap (x.base + (x.recs.length : Int)) = x.next := wrap64i h1.1 h1.2
  simp only [S_topics_topic_next, iN, bT, bF, eN]
  refine gq12 (gqc0 hb (gqc0 hlen hw)) ?_
  refine finE hl ?_
  exact hK
theorem gq13 {A P Q : Prop} (a : A) (h : Q) (e : A → Hd Q → P := by intro a h; (repeat' first | simp -dsimp only [↓cA_u, ↓acallL, ↓loopL, ↓bP_u, ↓gF_b, ↓gT_b, ↓gF_0, ↓gT_0, ↓gFm_b, ↓gTm_b, ↓gFm_0, ↓gTm_0, ↓fl_u, ↓nfl_u, ↓gFl_b, ↓gTl_b, ↓gFl_0, ↓gTl_0, ↓il_u, ↓cp_u, ↓orC_b, ↓anC_b, ↓z1_u, ↓z2_u, ↓m1_u, iN, bT, bF, eN, ↓binC, ↓unC, ↓condC_b, ↓guardC_T, ↓guardC_F, ↓guardC_0, ↓pickC_b, ↓lenC, ↓slcC, ↓convC, ↓boxC, ↓allocC, ↓loadC, ↓storeC, ↓nilC, ↓faddrC, ↓fieldC, ↓iaddrC, ↓idxSC, ↓idxAC, ↓extractC, ↓buildC, ↓mksliceC, ↓appendC, ↓isnilC, ↓maxC, ↓minC, ↓callvC, ↓mkmapC, ↓mgetC, ↓msetC, ↓mdelC, ↓headC_cons, ↓rangeC, ↓BBL_true, ↓BBL_false, ↓BBL_not, binA, intOp, strOp, unA, esOf, bnd, intV, cellsA, fillV, srcE, dm, dm1, consO, cellA, maxL, minL, keepO, Q0, Q1, Q2, Q3, Q4, Q5, len_app, get_app, get_app0, set_app, set_app0, Q6, Q7, Q8, Q9, Q10, Q11, Q12, Q13, Q14, Nat.reduceAdd, Q15, Int.reduceToNat, Q16, Q17, Q18, Q19, Q20, reduceIte, Q21, Q22, recsE_len, rep, splice, toDs, toD, chunks, Q23, Q24, Q25, Q26, Q27, Q28, Nat.reduceLeDiff, Q29, Nat.reduceSub, Q30, Q31, Q32, sc, Q33, Q34, Q35, Q36, Q37, Q26, Q38, Q39, n0gt, n1gt, n2gt, n0eq, n1eq0, n1eq, n2eq, n0ne, n1ne, n1ne0, n0ne1, i0ne, i0eq, Bool.not_true, Bool.not_false, List.length_map, Bool.and_false, Bool.and_self, Bool.false_and, Bool.not_false, Bool.not_true, Bool.true_and, Int.toNat_natCast, Int.toNat_zero, List.drop_zero, List.length_map, List.length_nil, List.nil_append, List.take_length, Nat.sub_zero, Nat.zero_add, Option.isSome_none, Option.isSome_some, Option.map_none, Option.map_some, bcs_length, beq_self_eq_true, bne_self_eq_false, bytesOf_bcs, entriesOf, keyFit, mgetC, mgetR, msetC, a] | with_reducible refine andA ?_ | fail); exact h.go) : P := e a ⟨h⟩
theorem c_tpFind (h : PrgAt σ id m X L) {n : List UInt8} (hK : K (match findX n X 0 with | some q => .tup [.box q.2.id 0, .d (.int .i64 0)] | none => .tup [.d .nilp, .d (.int .i64 4)]) σ) : ACall Try.prog n_topics_Topics_find [.box id 0, .d (.str n)] σ K := by
  refine acall_all e_topics_Topics_find.is rfl fun hl _ => e_topics_Topics_find.goes ?_
  have hb := h.box
  have hm := h.map
  have hf := mfind_topM n X 0
  simp only [S_topics_Topics_find, iN, bT, bF, eN]
  refine gq11 ?_
  refine c_tpNone hb ?_
  cases hx : findX n X 0 with
  | none =>
    rw [hx] at hf hK
    refine gq13 (gqc0 hb (gqc0 hm hf)) ?_
    exact endsA hK
  | some q =>
    rw [hx] at hf hK
    refine gq13 (gqc0 hb (gqc0 hm hf)) ?_
    exact endsA hK
end

end Go.Proofs.Ytaocmalhjfakdaa

/- Contracts: pools that no call made. -/
import Derived.Test.YtnfienilahfdjaaPo8
set_option linter.all false
set_option maxRecDepth 100000
set_option linter.unusedSimpArgs false
set_option linter.unusedVariables false
namespace Go.Proofs.Ytnfienilahfdjaa
open Go.AW

def NoP (σ : List AObj) (x : AV) : Prop := x = .d .nilp ∨ ∃ e, x = .box e 0 ∧ σ[e]? = some (.box [.d (.bool false), .exact [], .exact [], .exact [], .exact [], .exact [], .exact [], .exact [], .exact []])
theorem NoP.app {σ : List AObj} {x : AV} (h : NoP σ x) (τ : List AObj) : NoP (σ ++ τ) x := h.imp id fun ⟨e, h1, h2⟩ => ⟨e, h1, get_left h2⟩
section

variable {σ : List AObj} {x : AV} {K : AV → List AObj → Prop}

theorem c_pnNone (H : NoP σ x) (hK : K (.d (.bool true)) σ) : ACall Try.prog n_pool_Pool_none [x] σ K := by
  rcases H with rfl | ⟨e, rfl, he⟩
  · exact c_poolNone0 hK
  · exact c_poolNone he hK
theorem c_pnOf {c : Int} (H : NoP σ x) (hK : K (.tup [signedA ⟨0, 0, ⟨0, [], [], 0, []⟩, 0, 0⟩, .d (.bool false)]) σ) : ACall Try.prog n_pool_Pool_Of [x, .d (.int .i64 c)] σ K := by
  have H0 := H
  rcases H with rfl | ⟨e, rfl, he⟩
  all_goals
    refine acE2 e_pool_Pool_Of fun hl => ?_
    simp only [S_pool_Pool_Of, iN, bT, bF, eN, zl1]
    refine gq16 ?_
    refine c_pnNone (H0.app _) ?_
    refine gq16 ?_
    refine finE hl ?_
    exact hK
theorem c_pnWaiting (H : NoP σ x) (hK : K (.d (.slice [])) σ) : ACall Try.prog n_pool_Pool_Waiting [x] σ K := by
  have H0 := H
  rcases H with rfl | ⟨e, rfl, he⟩
  all_goals
    refine acE1 e_pool_Pool_Waiting fun hl => ?_
    simp only [S_pool_Pool_Waiting, iN, bT, bF, eN]
    refine gq16 ?_
    refine c_pnNone H0 ?_
    refine gq16 ?_
    refine finE hl ?_
    exact hK
theorem c_pnLen (H : NoP σ x) (hK : K (.d (.int .i64 0)) σ) : ACall Try.prog n_pool_Pool_Len [x] σ K := by
  have H0 := H
  rcases H with rfl | ⟨e, rfl, he⟩
  all_goals
    refine acE1 e_pool_Pool_Len fun hl => ?_
    simp only [S_pool_Pool_Len, iN, bT, bF, eN]
    refine gq16 ?_
    refine c_pnWaiting H0 ?_
    refine gq16 ?_
    refine finE hl ?_
    exact hK
theorem c_pnPlain (H : NoP σ x) (hK : K (.agg [.d (.slice [])]) σ) : ACall Try.prog n_pool_Pool_Plain [x] σ K := by
  have H0 := H
  rcases H with rfl | ⟨e, rfl, he⟩
  all_goals
    refine acE1 e_pool_Pool_Plain fun hl => ?_
    simp only [S_pool_Pool_Plain, iN, bT, bF, eN]
    refine gq16 ?_
    refine c_pnWaiting (H0.app _) ?_
    refine gq16 ?_
    refine finE hl ?_
    exact hK
theorem c_pnClone (H : NoP σ x) (hK : K (.d .nilp) σ) : ACall Try.prog n_pool_Pool_Clone [x] σ K := by
  have H0 := H
  rcases H with rfl | ⟨e, rfl, he⟩
  all_goals
    refine acE1 e_pool_Pool_Clone fun hl => ?_
    simp only [S_pool_Pool_Clone, iN, bT, bF, eN]
    refine gq16 ?_
    refine c_pnNone H0 ?_
    refine gq16 ?_
    refine finE hl ?_
    exact hK
theorem c_pnPut {s : TSigned} (H : NoP σ x) (hK : K (.d (.bool false)) σ) : ACall Try.prog n_pool_Pool_Put [x, signedA s] σ K := by
  have H0 := H
  rcases H with rfl | ⟨e, rfl, he⟩
  all_goals
    refine acE2 e_pool_Pool_Put fun hl => ?_
    simp only [S_pool_Pool_Put, iN, bT, bF, eN, zl1, signedA]
    refine gq16 ?_
    refine c_pnNone (H0.app _) ?_
    refine gq16 ?_
    refine finE hl ?_
    exact hK
theorem c_pnDone {a b : Int} (H : NoP σ x) (hK : K (.d (.bool false)) σ) : ACall Try.prog n_pool_Pool_Done [x, .d (.int .i64 a), .d (.int .i64 b)] σ K := by
  have H0 := H
  rcases H with rfl | ⟨e, rfl, he⟩
  all_goals
    refine acE3 e_pool_Pool_Done fun hl => ?_
    simp only [S_pool_Pool_Done, iN, bT, bF, eN]
    refine gq16 ?_
    refine c_pnNone H0 ?_
    refine gq16 ?_
    refine finE hl ?_
    exact hK
theorem gq24 {A P Q : Prop} (a : A) (h : Q) (e : A → Hd Q → P := by intro a h; (repeat' first | simp -dsimp only [↓cA_u, ↓acallL, ↓loopL, ↓bP_u, ↓gF_b, ↓gT_b, ↓gF_0, ↓gT_0, ↓gFm_b, ↓gTm_b, ↓gFm_0, ↓gTm_0, ↓fl_u, ↓nfl_u, ↓gFl_b, ↓gTl_b, ↓gFl_0, ↓gTl_0, ↓il_u, ↓cp_u, ↓orC_b, ↓anC_b, ↓z1_u, ↓z2_u, ↓m1_u, iN, bT, bF, eN, ↓binC, ↓unC, ↓condC_b, ↓guardC_T, ↓guardC_F, ↓guardC_0, ↓pickC_b, ↓lenC, ↓slcC, ↓convC, ↓boxC, ↓allocC, ↓loadC, ↓storeC, ↓nilC, ↓faddrC, ↓fieldC, ↓iaddrC, ↓idxSC, ↓idxAC, ↓extractC, ↓buildC, ↓mksliceC, ↓appendC, ↓isnilC, ↓maxC, ↓minC, ↓callvC, ↓mkmapC, ↓mgetC, ↓msetC, ↓mdelC, ↓headC_cons, ↓rangeC, ↓BBL_true, ↓BBL_false, ↓BBL_not, binA, intOp, strOp, unA, esOf, bnd, intV, cellsA, fillV, srcE, dm, dm1, consO, cellA, maxL, minL, keepO, Q0, Q1, Q2, Q3, Q4, Q5, len_app, get_app, get_app0, set_app, set_app0, Q6, Q7, Q8, Q9, Q10, Q11, Q12, Q13, Q14, Nat.reduceAdd, Q15, Int.reduceToNat, Q16, Q17, Q18, Q19, Q20, reduceIte, Q21, Q22, recsE_len, rep, splice, toDs, toD, chunks, Q23, Q24, Q25, Q26, Q27, Q28, Nat.reduceLeDiff, Q29, Nat.reduceSub, Q30, Q31, Q32, sc, Q33, Q34, Q35, Q36, Q37, Q26, Q38, Q39, n0gt, n1gt, n2gt, n0eq, n1eq0, n1eq, n2eq, n0ne, n1ne, n1ne0, n0ne1, i0ne, i0eq, Bool.not_true, Bool.not_false, List.length_map, Bool.and_false, Bool.and_self, Bool.false_and, Bool.not_false, Bool.not_true, Bool.true_and, Int.toNat_natCast, Int.toNat_zero, List.drop_zero, List.length_map, List.length_nil, List.nil_append, List.take_length, Nat.sub_zero, Nat.zero_add, Option.isSome_none, Option.isSome_some, Option.map_none, Option.map_some, bcs_length, beq_self_eq_true, bne_self_eq_false, a] | with_reducible refine andA ?_ | fail); exact h.go) : P := e a ⟨h⟩
theorem c_pnPick (H : NoP σ x) (hK : K (.d (.slice [])) σ) : ACall Try.prog n_pool_Pool_Pick [x, .d (.slice [])] σ K := by
  have H0 := H
  rcases H with rfl | ⟨e, rfl, he⟩
  all_goals
    refine acE2 e_pool_Pool_Pick fun hl => ?_
    simp only [S_pool_Pool_Pick, iN, bT, bF, eN, zl1]
    refine gq16 ?_
    refine c_pnWaiting H0 ?_
    refine gq16 ?_
    refine loopC_count 0 (fun k vs s => vs = [.exact [], .d (.int .i64 0)] ∧ s = σ) ⟨rfl, rfl⟩ ?_
    rintro k vs s hk ⟨rfl, rfl⟩
    refine gq24 (show decide ((0 : Int) < ((0 : Nat) : Int)) = false from rfl) ?_
    refine finE hl ?_
    exact hK
end

end Go.Proofs.Ytnfienilahfdjaa

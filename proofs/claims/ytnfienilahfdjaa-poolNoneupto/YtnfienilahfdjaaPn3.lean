/- Contracts: a pool's one request, its record written. -/
import Derived.Test.YtnfienilahfdjaaPn2
import Derived.Test.YtnfienilahfdjaaAwKeepX
set_option linter.all false
set_option maxRecDepth 100000
set_option linter.unusedSimpArgs false
set_option linter.unusedVariables false
namespace Go.Proofs.Ytnfienilahfdjaa
open Go.AW

abbrev sgX (tr gr : Nat) : List AV := [.d (.int .i64 1), .d (.int .i64 2), .d (.int .i64 2), .d (.str [116]), .d (.str []), .d (.int .i64 0), .rsl tr gr 1 0 1, .d (.int .i64 1), .d (.int .i64 1)]
abbrev s7 : TSigned := one1 7
theorem s7_ok : okO s7.op := ⟨by simp, by simp, by simp, by simp⟩
def p7 : PQ := putQ noPool s7
theorem p7_I : PoolI p7 := noPool_I.put s7_ok
theorem w7 : waitF p7 = [s7] := by decide
theorem k7 : checkBatchF [s7] = 0 := by decide
section

variable {σ : List AObj} {K : AV → List AObj → Prop}

theorem c_rqF {tb gb : Nat} {b : UInt8} (h : Bat1 0 σ tb gb b) (hK : K (.d (.slice (batchE [one1 b]))) σ) : ACall Try.prog n_request_Clone [.rsl tb gb 9 0 1] σ K := by
  refine ACall.frz 3 (c_rqR h fun T tb' gb' h' => ⟨_, ?_, by simp, hK⟩)
  have := h'.X.frz (m := 0) (Nat.le_refl _)
  simp only [frzT, frz1, this]
theorem c_checkR {tb gb : Nat} (h : Bat1 0 σ tb gb 7) (hK : K (.d (.int .i64 0)) σ) : ACall Try.prog n_request_CheckBatch [.rsl tb gb 9 0 1] σ K := by
  refine ACall.lend (as' := [.d (.slice (batchE [s7]))]) 3 ?_ (c_CheckBatch (b := [s7]) ⟨by simp, by simpa using s7_ok⟩ ?_)
  · have := h.X.frz (m := 0) (Nat.zero_le _)
    simp only [List.map_cons, List.map_nil, frz1, this, allO]
  · rw [k7]; exact ⟨rfl, rfl, hK⟩
theorem c_putOne {id tr gr ty gy : Nat} (hσ : σ[id]? = some (poolO noPool)) (h : Rec1 0 σ tr gr ty gy 7) (hK : ∀ S, S[id]? = some (poolO p7) → (∀ (j : Nat) (x : AObj), j ≠ id → σ[j]? = some x → S[j]? = some x) → K (.d (.bool true)) S) :
    ACall Try.prog n_pool_Pool_Put [.box id 0, .agg (sgX tr gr)] σ K := by
  refine acall_all em_pool_Pool_Put.is rfl fun hl _ => em_pool_Pool_Put.goes ?_
  simp only [Sm_pool_Pool_Put, iN, bT, bF, eN, zl1]
  have hg : ∀ τ, (σ ++ τ)[id]? = some (.box [.d (.bool true), .exact [], .exact [], .exact [], .exact [], .exact [], .exact [], .exact [], .exact []]) := fun τ => get_left hσ
  have hs : ∀ τ y, (σ ++ τ).set id y = σ.set id y ++ τ := fun τ y => set_left hσ
  refine gq16 ?_
  refine c_poolNone (hg _) ?_
  refine gq16 ?_
  refine c_checkR ⟨Nat.zero_le _, tr, gr, ty, gy, by rw [get_app]; rfl, h.app _⟩ ?_
  refine gq24 (gqc0 hg (show ((0 : Int) != 0) = false from rfl)) ?_
  refine c_rqF ⟨Nat.zero_le _, tr, gr, ty, gy, by rw [get_app]; rfl, h.app _⟩ ?_
  refine gq17 (gqc0 hg hs) ?_
  refine endsA (hK _ (get_left (by rw [List.getElem?_set_self (lt_len hσ)]; rfl)) fun j x hj hx => get_left (by rw [List.getElem?_set_ne (Ne.symm hj)]; exact hx))
theorem BatchX.one {n : Nat} {s : List AObj} {c : AV} {b : UInt8} (h : BatchX n s c [one1 b]) : ∃ tb gb, c = .rsl tb gb 9 0 1 ∧ Bat1 n s tb gb b := by
  obtain ⟨tb, gb, Ls, h1, h2, h3, h4, h5⟩ := h
  obtain ⟨rc, e1, tr, gr, cs, e2, e3, e4, e5, e6⟩ := h5 0 _ rfl
  obtain ⟨y, e7, ty, gy, e8, e9, ea⟩ := e6 0 _ rfl
  refine ⟨tb, gb, h2, h1, tr, gr, ty, gy, ?_, e2, e8, ?_, ea⟩
  · match Ls, h4, e1 with
    | [l], _, e1 =>
      simp only [List.getElem?_cons_zero, Option.some.injEq] at e1
      subst e1; subst e3
      rw [h3, List.flatten_singleton]; rfl
  · match cs, e5, e7 with
    | [c], _, e7 =>
      simp only [List.getElem?_cons_zero, Option.some.injEq] at e7
      subst e7; subst e9
      rw [e4]; rfl
theorem s7_small : smallB [s7] := ⟨by simp, by simp⟩
theorem c_waitOne {id : Nat} (hσ : σ[id]? = some (poolO p7)) (hK : ∀ T tb gb, Bat1 σ.length (σ ++ T) tb gb 7 → K (.rsl tb gb 9 0 1) (σ ++ T)) : ACall Try.prog n_pool_Pool_Waiting [.box id 0] σ K := by
  refine acall_all em_pool_Pool_Waiting.is rfl fun hl _ => em_pool_Pool_Waiting.goes ?_
  simp only [Sm_pool_Pool_Waiting, iN, bT, bF, eN]
  refine gq16 ?_
  refine c_poolNone hσ ?_
  refine gq17 hσ ?_
  refine c_Concat hσ p7_I.len ?_
  rw [w7]
  refine gq16 ?_
  refine c_rqCloneX s7_small fun S c hS hX => ?_
  obtain ⟨T, rfl⟩ := hS
  obtain ⟨tb, gb, rfl, hB⟩ := hX.one
  refine gq16 ?_
  exact endsA (hK _ _ _ hB)
theorem Bat1.swap {s T L : List AObj} {Y X : AObj} {tb gb : Nat} {b : UInt8} (h : Bat1 (s ++ [Y]).length (s ++ [Y] ++ T) tb gb b) : Bat1 s.length (s ++ X :: (T ++ L)) tb gb b := by
  obtain ⟨h1, tr, gr, ty, gy, h2, e1, e2, e3, e4⟩ := h
  simp at h1 e1 e2
  exact ⟨by omega, tr, gr, ty, gy, swap_get (by omega) h2, by omega, by omega, swap_get (by omega) e3, swap_get (by omega) e4⟩
theorem c_plainOne {id : Nat} (hσ : σ[id]? = some (poolO p7)) (hK : ∀ T tb gb, Bat1 σ.length (σ ++ T) tb gb 7 → K (.agg [.rsl tb gb 9 0 1]) (σ ++ T)) : ACall Try.prog n_pool_Pool_Plain [.box id 0] σ K := by
  refine acall_all em_pool_Pool_Plain.is rfl fun hl _ => em_pool_Pool_Plain.goes ?_
  simp only [Sm_pool_Pool_Plain, iN, bT, bF, eN]
  refine gq16 ?_
  refine c_waitOne (get_left hσ) fun T tb gb hB => ?_
  refine gq16 ?_
  refine endsA (hK _ _ _ ?_)
  have := hB.swap (X := .box [AV.rsl tb gb 9 0 1]) (L := [])
  rwa [List.append_nil] at this
theorem gq29 {A P Q : Prop} (a : A) (h : Q) (e : A → Hd Q → P := by intro a h; (repeat' first | simp -dsimp only [↓cA_u, ↓acallL, ↓loopL, ↓bP_u, ↓gF_b, ↓gT_b, ↓gF_0, ↓gT_0, ↓gFm_b, ↓gTm_b, ↓gFm_0, ↓gTm_0, ↓fl_u, ↓nfl_u, ↓gFl_b, ↓gTl_b, ↓gFl_0, ↓gTl_0, ↓il_u, ↓cp_u, ↓orC_b, ↓anC_b, ↓z1_u, ↓z2_u, ↓m1_u, iN, bT, bF, eN, ↓binC, ↓unC, ↓condC_b, ↓guardC_T, ↓guardC_F, ↓guardC_0, ↓pickC_b, ↓lenC, ↓slcC, ↓convC, ↓boxC, ↓allocC, ↓loadC, ↓storeC, ↓nilC, ↓faddrC, ↓fieldC, ↓iaddrC, ↓idxSC, ↓idxAC, ↓extractC, ↓buildC, ↓mksliceC, ↓appendC, ↓isnilC, ↓maxC, ↓minC, ↓callvC, ↓mkmapC, ↓mgetC, ↓msetC, ↓mdelC, ↓headC_cons, ↓rangeC, ↓BBL_true, ↓BBL_false, ↓BBL_not, binA, intOp, strOp, unA, esOf, bnd, intV, cellsA, fillV, srcE, dm, dm1, consO, cellA, maxL, minL, keepO, Q0, Q1, Q2, Q3, Q4, Q5, len_app, get_app, get_app0, set_app, set_app0, Q6, Q7, Q8, Q9, Q10, Q11, Q12, Q13, Q14, Nat.reduceAdd, Q15, Int.reduceToNat, Q16, Q17, Q18, Q19, Q20, reduceIte, Q21, Q22, recsE_len, rep, splice, toDs, toD, chunks, Q23, Q24, Q25, Q26, Q27, Q28, Nat.reduceLeDiff, Q29, Nat.reduceSub, Q30, Q31, Q32, sc, Q33, Q34, Q35, Q36, Q37, Q26, Q38, Q39, n0gt, n1gt, n2gt, n0eq, n1eq0, n1eq, n2eq, n0ne, n1ne, n1ne0, n0ne1, i0ne, i0eq, Bool.not_true, Bool.not_false, List.length_map, List.length_nil, Nat.zero_add, Nat.zero_mul, a] | with_reducible refine andA ?_ | fail); exact h.go) : P := e a ⟨h⟩
theorem gq30 {A P Q : Prop} (a : A) (h : Q) (e : A → Hd Q → P := by intro a h; (repeat' first | simp -dsimp only [↓cA_u, ↓acallL, ↓loopL, ↓bP_u, ↓gF_b, ↓gT_b, ↓gF_0, ↓gT_0, ↓gFm_b, ↓gTm_b, ↓gFm_0, ↓gTm_0, ↓fl_u, ↓nfl_u, ↓gFl_b, ↓gTl_b, ↓gFl_0, ↓gTl_0, ↓il_u, ↓cp_u, ↓orC_b, ↓anC_b, ↓z1_u, ↓z2_u, ↓m1_u, iN, bT, bF, eN, ↓binC, ↓unC, ↓condC_b, ↓guardC_T, ↓guardC_F, ↓guardC_0, ↓pickC_b, ↓lenC, ↓slcC, ↓convC, ↓boxC, ↓allocC, ↓loadC, ↓storeC, ↓nilC, ↓faddrC, ↓fieldC, ↓iaddrC, ↓idxSC, ↓idxAC, ↓extractC, ↓buildC, ↓mksliceC, ↓appendC, ↓isnilC, ↓maxC, ↓minC, ↓callvC, ↓mkmapC, ↓mgetC, ↓msetC, ↓mdelC, ↓headC_cons, ↓rangeC, ↓BBL_true, ↓BBL_false, ↓BBL_not, binA, intOp, strOp, unA, esOf, bnd, intV, cellsA, fillV, srcE, dm, dm1, consO, cellA, maxL, minL, keepO, Q0, Q1, Q2, Q3, Q4, Q5, len_app, get_app, get_app0, set_app, set_app0, Q6, Q7, Q8, Q9, Q10, Q11, Q12, Q13, Q14, Nat.reduceAdd, Q15, Int.reduceToNat, Q16, Q17, Q18, Q19, Q20, reduceIte, Q21, Q22, recsE_len, rep, splice, toDs, toD, chunks, Q23, Q24, Q25, Q26, Q27, Q28, Nat.reduceLeDiff, Q29, Nat.reduceSub, Q30, Q31, Q32, sc, Q33, Q34, Q35, Q36, Q37, Q26, Q38, Q39, n0gt, n1gt, n2gt, n0eq, n1eq0, n1eq, n2eq, n0ne, n1ne, n1ne0, n0ne1, i0ne, i0eq, Bool.not_true, Bool.not_false, List.length_map, List.any_nil, Nat.sub_zero, appendRC, growC, a] | with_reducible refine andA ?_ | fail); exact h.go) : P := e a ⟨h⟩
theorem c_pickOne {id : Nat} (hσ : σ[id]? = some (poolO p7)) (hK : ∀ T tb gb, Bat1 σ.length (σ ++ T) tb gb 7 → K (.rsl tb gb 9 0 1) (σ ++ T)) : ACall Try.prog n_pool_Pool_Pick [.box id 0, .exact []] σ K := by
  refine acall_all em_pool_Pool_Pick.is rfl fun hl _ => em_pool_Pool_Pick.goes ?_
  simp only [Sm_pool_Pool_Pick, iN, bT, bF, eN, zl1]
  refine gq16 ?_
  refine c_waitOne hσ fun T tb gb hB => ?_
  obtain ⟨h0, tr, gr, ty, gy, hb, hr⟩ := hB
  have hb' : ∀ τ, (σ ++ (T ++ τ))[tb]? = (σ ++ T)[tb]? := fun τ => by rw [← List.append_assoc, hb]; exact get_left hb
  refine gq27 ?_
  refine loopC_count 1 (fun k vs s => (k = 0 → vs = [.exact [], .d (.int .i64 0)] ∧ s = σ ++ T) ∧ (k = 1 → ∃ T tb' gb', vs = [.rsl tb' gb' 9 0 1, .d (.int .i64 1)] ∧ s = σ ++ T ∧ Bat1 σ.length (σ ++ T) tb' gb' 7)) ⟨fun _ => ⟨rfl, rfl⟩, fun h => by cases h⟩ ?_
  rintro k vs s hk ⟨k0, k1⟩
  by_cases hlt : k < 1
  · obtain ⟨rfl, rfl⟩ := k0 (by omega)
    refine gq29 (gqc0 (show decide ((0 : Int) < ((1 : Nat) : Int)) = true from rfl) (gqc0 hb (gqc0 hb' (show decide (((0 : Nat) : Int) < 4) = true from rfl)))) ?_
    refine ACall.pre (.data 0 (.exact []) [] rfl rfl (.refl _ _)) ?_
    refine c_ContainsFunc_Batch (l := []) (p := fun _ => false) (by simp) (fun x hx => by cases hx) ?_
    refine gq30 (gqc0 hb (gqc0 hb' (show IntKind.i64.wrap (0 + 1) = 1 from rfl))) ?_
    refine Again.next hlt ⟨fun h => by omega, fun _ => ⟨_, _, _, rfl, rfl, by omega, tr, gr, ty, gy, ?_, ?_⟩⟩
    · rw [get_app, get_app]; rfl
    · rw [← List.append_assoc]; exact hr.app _
  · obtain ⟨T, tb', gb', rfl, rfl, hB⟩ := k1 (by omega)
    refine gq17 (show decide ((1 : Int) < ((1 : Nat) : Int)) = false from rfl) ?_
    exact endsA (hK _ _ _ hB)
theorem gq31 {A P Q : Prop} (a : A) (h : Q) (e : A → Hd Q → P := by intro a h; (repeat' first | simp -dsimp only [↓cA_u, ↓acallL, ↓loopL, ↓bP_u, ↓gF_b, ↓gT_b, ↓gF_0, ↓gT_0, ↓gFm_b, ↓gTm_b, ↓gFm_0, ↓gTm_0, ↓fl_u, ↓nfl_u, ↓gFl_b, ↓gTl_b, ↓gFl_0, ↓gTl_0, ↓il_u, ↓cp_u, ↓orC_b, ↓anC_b, ↓z1_u, ↓z2_u, ↓m1_u, iN, bT, bF, eN, ↓binC, ↓unC, ↓condC_b, ↓guardC_T, ↓guardC_F, ↓guardC_0, ↓pickC_b, ↓lenC, ↓slcC, ↓convC, ↓boxC, ↓allocC, ↓loadC, ↓storeC, ↓nilC, ↓faddrC, ↓fieldC, ↓iaddrC, ↓idxSC, ↓idxAC, ↓extractC, ↓buildC, ↓mksliceC, ↓appendC, ↓isnilC, ↓maxC, ↓minC, ↓callvC, ↓mkmapC, ↓mgetC, ↓msetC, ↓mdelC, ↓headC_cons, ↓rangeC, ↓BBL_true, ↓BBL_false, ↓BBL_not, binA, intOp, strOp, unA, esOf, bnd, intV, cellsA, fillV, srcE, dm, dm1, consO, cellA, maxL, minL, keepO, Q0, Q1, Q2, Q3, Q4, Q5, len_app, get_app, get_app0, set_app, set_app0, Q6, Q7, Q8, Q9, Q10, Q11, Q12, Q13, Q14, Nat.reduceAdd, Q15, Int.reduceToNat, Q16, Q17, Q18, Q19, Q20, reduceIte, Q21, Q22, recsE_len, rep, splice, toDs, toD, chunks, Q23, Q24, Q25, Q26, Q27, Q28, Nat.reduceLeDiff, Q29, Nat.reduceSub, Q30, Q31, Q32, sc, Q33, Q34, Q35, Q36, Q37, Q26, Q38, Q39, n0gt, n1gt, n2gt, n0eq, n1eq0, n1eq, n2eq, n0ne, n1ne, n1ne0, n0ne1, i0ne, i0eq, Bool.not_true, Bool.not_false, List.length_map, Nat.sub_zero, Nat.zero_add, Nat.zero_mul, a] | with_reducible refine andA ?_ | fail); exact h.go) : P := e a ⟨h⟩
theorem c_ofOne {id : Nat} (hσ : σ[id]? = some (poolO p7)) (hK : ∀ S tr gr ty gy, Rec1 0 S tr gr ty gy 7 → K (.tup [.agg (sgX tr gr), .d (.bool true)]) S) : ACall Try.prog n_pool_Pool_Of [.box id 0, .d (.int .i64 1)] σ K := by
  refine acall_all em_pool_Pool_Of.is rfl fun hl _ => em_pool_Pool_Of.goes ?_
  simp only [Sm_pool_Pool_Of, iN, bT, bF, eN, zl1]
  have hg : ∀ τ, (σ ++ τ)[id]? = some (.box [.d (.bool true), .exact [], .d (.slice [signedD s7]), .exact [], .exact [], .exact [], .exact [], .exact [], .exact []]) := fun τ => get_left hσ
  refine gq16 ?_
  refine c_poolNone (hg _) ?_
  refine gq16 ?_
  refine c_poolIs ?_
  rw [show decide ((0 : Int) ≤ 1 ∧ (1 : Int) < 8) = true from rfl]
  refine gq17 hg ?_
  refine c_rqCloneX (b := [s7]) s7_small fun S c hS hX => ?_
  obtain ⟨T, rfl⟩ := hS
  obtain ⟨tb, gb, rfl, hB⟩ := hX.one
  obtain ⟨h0, tr, gr, ty, gy, hb, hr⟩ := hB
  rw [List.append_assoc, List.cons_append, List.nil_append] at hb
  refine gq31 hb ?_
  refine endsA (hK _ tr gr ty gy ?_)
  obtain ⟨e1, e2, e3, e4⟩ := hr
  simp at e1 e2
  have a1 := swap_get (L := []) (X := .box (sgX tr gr)) (by omega) e3
  have a2 := swap_get (L := []) (X := .box (sgX tr gr)) (by omega) e4
  rw [List.append_nil] at a1 a2
  exact ⟨Nat.zero_le _, Nat.zero_le _, a1, a2⟩
end

end Go.Proofs.Ytnfienilahfdjaa

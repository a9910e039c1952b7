/- Contracts: a pool: what waits. -/
import Derived.Test.YtnfienilahfdjaaPo1
set_option linter.all false
set_option maxRecDepth 100000
set_option linter.unusedSimpArgs false
set_option linter.unusedVariables false
namespace Go.Proofs.Ytnfienilahfdjaa
open Go.AW

def z9 : List AV := [.d (.int .i64 0), .d (.int .i64 0), .d (.int .i64 0), .d (.str []), .d (.str []), .d (.int .i64 0), .exact [], .d (.int .i64 0), .d (.int .i64 0)]
theorem rep_low {n : Nat} {z : List AV} (hz : ∀ c ∈ z, Low n c) : ∀ m, ∀ c ∈ rep z m, Low n c
  | 0, c, hc => by cases hc
  | m + 1, c, hc => by simp only [rep] at hc; exact (List.mem_append.1 hc).elim (hz c) (rep_low hz m c)
theorem z9_low (n : Nat) : ∀ c ∈ z9, Low n c := by
  intro c hc
  simp only [z9, List.mem_cons, List.not_mem_nil, or_false] at hc
  rcases hc with rfl | rfl | rfl | rfl | rfl | rfl | rfl | rfl | rfl <;> first | exact .d _ | exact .exact _
theorem gq19 {A P Q : Prop} (a : A) (h : Q) (e : A → Hd Q → P := by intro a h; (repeat' first | simp -dsimp only [↓cA_u, ↓acallL, ↓loopL, ↓bP_u, ↓gF_b, ↓gT_b, ↓gF_0, ↓gT_0, ↓gFm_b, ↓gTm_b, ↓gFm_0, ↓gTm_0, ↓fl_u, ↓nfl_u, ↓gFl_b, ↓gTl_b, ↓gFl_0, ↓gTl_0, ↓il_u, ↓cp_u, ↓orC_b, ↓anC_b, ↓z1_u, ↓z2_u, ↓m1_u, iN, bT, bF, eN, ↓binC, ↓unC, ↓condC_b, ↓guardC_T, ↓guardC_F, ↓guardC_0, ↓pickC_b, ↓lenC, ↓slcC, ↓convC, ↓boxC, ↓allocC, ↓loadC, ↓storeC, ↓nilC, ↓faddrC, ↓fieldC, ↓iaddrC, ↓idxSC, ↓idxAC, ↓extractC, ↓buildC, ↓mksliceC, ↓appendC, ↓isnilC, ↓maxC, ↓minC, ↓callvC, ↓mkmapC, ↓mgetC, ↓msetC, ↓mdelC, ↓headC_cons, ↓rangeC, ↓BBL_true, ↓BBL_false, ↓BBL_not, binA, intOp, strOp, unA, esOf, bnd, intV, cellsA, fillV, srcE, dm, dm1, consO, cellA, maxL, minL, keepO, Q0, Q1, Q2, Q3, Q4, Q5, len_app, get_app, get_app0, set_app, set_app0, Q6, Q7, Q8, Q9, Q10, Q11, Q12, Q13, Q14, Nat.reduceAdd, Q15, Int.reduceToNat, Q16, Q17, Q18, Q19, Q20, reduceIte, Q21, Q22, recsE_len, rep, splice, toDs, toD, chunks, Q23, Q24, Q25, Q26, Q27, Q28, Nat.reduceLeDiff, Q29, Nat.reduceSub, Q30, Q31, Q32, sc, Q33, Q34, Q35, Q36, Q37, Q26, Q38, Q39, n0gt, n1gt, n2gt, n0eq, n1eq0, n1eq, n2eq, n0ne, n1ne, n1ne0, n0ne1, i0ne, i0eq, Bool.not_true, Bool.not_false, List.length_map, capC, a] | with_reducible refine andA ?_ | fail); exact h.go) : P := e a ⟨h⟩
theorem gq20 {A P Q : Prop} (a : A) (h : Q) (e : A → Hd Q → P := by intro a h; (repeat' first | simp -dsimp only [↓cA_u, ↓acallL, ↓loopL, ↓bP_u, ↓gF_b, ↓gT_b, ↓gF_0, ↓gT_0, ↓gFm_b, ↓gTm_b, ↓gFm_0, ↓gTm_0, ↓fl_u, ↓nfl_u, ↓gFl_b, ↓gTl_b, ↓gFl_0, ↓gTl_0, ↓il_u, ↓cp_u, ↓orC_b, ↓anC_b, ↓z1_u, ↓z2_u, ↓m1_u, iN, bT, bF, eN, ↓binC, ↓unC, ↓condC_b, ↓guardC_T, ↓guardC_F, ↓guardC_0, ↓pickC_b, ↓lenC, ↓slcC, ↓convC, ↓boxC, ↓allocC, ↓loadC, ↓storeC, ↓nilC, ↓faddrC, ↓fieldC, ↓iaddrC, ↓idxSC, ↓idxAC, ↓extractC, ↓buildC, ↓mksliceC, ↓appendC, ↓isnilC, ↓maxC, ↓minC, ↓callvC, ↓mkmapC, ↓mgetC, ↓msetC, ↓mdelC, ↓headC_cons, ↓rangeC, ↓BBL_true, ↓BBL_false, ↓BBL_not, binA, intOp, strOp, unA, esOf, bnd, intV, cellsA, fillV, srcE, dm, dm1, consO, cellA, maxL, minL, keepO, Q0, Q1, Q2, Q3, Q4, Q5, len_app, get_app, get_app0, set_app, set_app0, Q6, Q7, Q8, Q9, Q10, Q11, Q12, Q13, Q14, Nat.reduceAdd, Q15, Int.reduceToNat, Q16, Q17, Q18, Q19, Q20, reduceIte, Q21, Q22, recsE_len, rep, splice, toDs, toD, chunks, Q23, Q24, Q25, Q26, Q27, Q28, Nat.reduceLeDiff, Q29, Nat.reduceSub, Q30, Q31, Q32, sc, Q33, Q34, Q35, Q36, Q37, Q26, Q38, Q39, n0gt, n1gt, n2gt, n0eq, n1eq0, n1eq, n2eq, n0ne, n1ne, n1ne0, n0ne1, i0ne, i0eq, Bool.not_true, Bool.not_false, List.length_map, appzC, capC, growC, a] | with_reducible refine andA ?_ | fail); exact h.go) : P := e a ⟨h⟩
theorem c_Grow {σ : List AObj} {n : Nat} (hn : n ≤ 1000000) {K : AV → List AObj → Prop} (h0 : n = 0 → K (.exact []) σ) (h1 : 0 < n → K (.rsl σ.length 0 9 0 0) (σ ++ [.row 0 9 (rep z9 n)])) :
    ACall Try.prog n_slices_Grow_api_Batch_api_Signed [.exact [], .d (.int .i64 n)] σ K := by
  refine acall_keep em_slices_Grow_api_Batch_api_Signed.is rfl (fun s => List.range' σ.length (s.length - σ.length)) fun hl _ => em_slices_Grow_api_Batch_api_Signed.goes ?_
  simp only [Sm_slices_Grow_api_Batch_api_Signed, iN, bT, bF, eN, zl1]
  have hd : decide ((n : Int) < 0) = false := by simp
  have hw : IntKind.i64.wrap ((n : Int) - 0) = (n : Int) := by rw [wrap64i (by omega) (by omega)]; omega
  have hw0 : IntKind.i64.wrap (((0 : Nat) : Int) - ((0 : Nat) : Int)) = 0 := rfl
  rcases Nat.eq_zero_or_pos n with rfl | hp
  · refine gq19 (gqc0 hd (gqc0 hw0 hw)) ?_
    exact endsK_none0 (by simp) hl rfl (h0 rfl)
  · have hg : decide ((n : Int) > 0) = true := by simp; omega
    refine gq20 (gqc0 hd (gqc0 hw0 (gqc0 hw hg))) ?_
    refine endsK_prefix0 (os := [.row 0 9 (rep z9 n)]) rfl (by simp) hl ?_ (.rsl _ _ _ _ _ (by simp)) (h1 hp)
    intro x hx
    simp at hx; subst hx
    exact rep_low (z9_low _) n
def rowC (b : List TSigned) : List AV := ((batchE b).flatten).map .d
theorem rowC_len (b : List TSigned) : (rowC b).length = b.length * 9 := by
  induction b with
  | nil => rfl
  | cons x b ih => simp only [rowC, batchE, List.map_cons, List.flatten_cons, List.map_append, List.length_append] at ih ⊢; rw [ih]; simp [signedD]; omega
theorem rowC_app (a b : List TSigned) : rowC a ++ rowC b = rowC (a ++ b) := by simp [rowC, batchE]
theorem rowC_chunks (b : List TSigned) : ∀ σ n m, allO ((rowC b).map (frz σ n (m + 1))) = some ((batchE b).flatten) := by
  intro σ n m
  have : ∀ ds : List D, allO ((ds.map AV.d).map (frz σ n (m + 1))) = some ds := by
    intro ds
    induction ds with
    | nil => rfl
    | cons d ds ih => simp only [List.map_cons, frz, allO, ih]
  exact this _
theorem chunks_flat (s : Nat) : ∀ (es : List (List D)), (∀ e ∈ es, e.length = s) → chunks s es.length es.flatten = es
  | [], _ => rfl
  | e :: es, h => by
    simp only [List.length_cons, chunks, List.flatten_cons]
    have he := h e List.mem_cons_self
    rw [List.take_left' he, List.drop_left' he, chunks_flat s es fun e he => h e (List.mem_cons_of_mem _ he)]
theorem waitF_take {q : PQ} {k : Nat} {o : Option TSigned} (h : q[k]? = some o) : waitF (q.take (k + 1)) = waitF (q.take k) ++ o.toList := by
  rw [List.take_add_one, h]
  simp only [waitF, Option.toList_some, List.filterMap_append]
  cases o <;> rfl
theorem waitF_len (q : PQ) (k : Nat) : (waitF (q.take k)).length ≤ q.length := by
  have := List.length_filterMap_le id (q.take k)
  simp only [waitF]
  have := List.length_take (l := q) (i := k)
  omega
theorem gq21 {A P Q : Prop} (a : A) (h : Q) (e : A → Hd Q → P := by intro a h; (repeat' first | simp -dsimp only [↓cA_u, ↓acallL, ↓loopL, ↓bP_u, ↓gF_b, ↓gT_b, ↓gF_0, ↓gT_0, ↓gFm_b, ↓gTm_b, ↓gFm_0, ↓gTm_0, ↓fl_u, ↓nfl_u, ↓gFl_b, ↓gTl_b, ↓gFl_0, ↓gTl_0, ↓il_u, ↓cp_u, ↓orC_b, ↓anC_b, ↓z1_u, ↓z2_u, ↓m1_u, iN, bT, bF, eN, ↓binC, ↓unC, ↓condC_b, ↓guardC_T, ↓guardC_F, ↓guardC_0, ↓pickC_b, ↓lenC, ↓slcC, ↓convC, ↓boxC, ↓allocC, ↓loadC, ↓storeC, ↓nilC, ↓faddrC, ↓fieldC, ↓iaddrC, ↓idxSC, ↓idxAC, ↓extractC, ↓buildC, ↓mksliceC, ↓appendC, ↓isnilC, ↓maxC, ↓minC, ↓callvC, ↓mkmapC, ↓mgetC, ↓msetC, ↓mdelC, ↓headC_cons, ↓rangeC, ↓BBL_true, ↓BBL_false, ↓BBL_not, binA, intOp, strOp, unA, esOf, bnd, intV, cellsA, fillV, srcE, dm, dm1, consO, cellA, maxL, minL, keepO, Q0, Q1, Q2, Q3, Q4, Q5, len_app, get_app, get_app0, set_app, set_app0, Q6, Q7, Q8, Q9, Q10, Q11, Q12, Q13, Q14, Nat.reduceAdd, Q15, Int.reduceToNat, Q16, Q17, Q18, Q19, Q20, reduceIte, Q21, Q22, recsE_len, rep, splice, toDs, toD, chunks, Q23, Q24, Q25, Q26, Q27, Q28, Nat.reduceLeDiff, Q29, Nat.reduceSub, Q30, Q31, Q32, sc, Q33, Q34, Q35, Q36, Q37, Q26, Q38, Q39, n0gt, n1gt, n2gt, n0eq, n1eq0, n1eq, n2eq, n0ne, n1ne, n1ne0, n0ne1, i0ne, i0eq, Bool.not_true, Bool.not_false, List.length_map, Bool.and_false, Bool.and_self, Bool.false_and, Bool.not_false, Bool.not_true, Bool.true_and, Int.toNat_natCast, Int.toNat_zero, List.drop_zero, List.length_map, List.length_nil, List.nil_append, List.take_length, Nat.sub_zero, Nat.zero_add, Option.isSome_none, Option.isSome_some, Option.map_none, Option.map_some, appendRC, bcs_length, beq_self_eq_true, bne_self_eq_false, growC, srcE, a] | with_reducible refine andA ?_ | fail); exact h.go) : P := e a ⟨h⟩
theorem c_Concat {σ : List AObj} {id : Nat} {q : PQ} (hσ : σ[id]? = some (poolO q)) (hq : q.length = 8) {K : AV → List AObj → Prop} (hK : K (.d (.slice (batchE (waitF q)))) σ) :
    ACall Try.prog n_slices_Concat_api_Batch_api_Signed [.bsl id 1 8 8 1] σ K := by
  refine acall_frz em_slices_Concat_api_Batch_api_Signed.is rfl 3 fun hl _ => em_slices_Concat_api_Batch_api_Signed.goes ?_
  have hσ' : σ[id]? = some (.box (poolC q)) := hσ
  have hg : ∀ τ, (σ ++ τ)[id]? = some (.box (poolC q)) := fun τ => get_left hσ
  simp only [Sm_slices_Concat_api_Batch_api_Signed, iN, bT, bF, eN]
  refine gq16 ?_
  refine loopC_count 8 (fun k vs s => vs = [.d (.int .i64 (waitF (q.take k)).length), .d (.int .i64 k)] ∧ s = σ) ⟨rfl, rfl⟩ ?_
  rintro k vs s hk ⟨rfl, rfl⟩
  by_cases hlt : k < 8
  · have hd : decide ((k : Int) < ((8 : Nat) : Int)) = true := by simp; omega
    have hx : q[k]? = some q[k] := by simp [hq, hlt]
    have hcell := poolC_get hx
    have htk := waitF_take hx
    have hwl := waitF_len q k
    obtain ⟨o, ho⟩ : ∃ o, q[k] = o := ⟨_, rfl⟩
    rw [ho] at hcell htk
    have hlen : (waitF (q.take (k + 1))).length = (waitF (q.take k)).length + o.toList.length := by rw [htk, List.length_append]
    cases o with
    | none =>
      have hw : IntKind.i64.wrap (((waitF (q.take k)).length : Int) + ((0 : Nat) : Int)) = ((waitF (q.take (k + 1))).length : Int) := by
        rw [hlen, wrap64i (by omega) (by omega)]; rfl
      have hd2 : decide (((waitF (q.take (k + 1))).length : Int) < 0) = false := by simp
      simp only [pcell] at hcell
      refine gq17 (gqc0 hd (gqc0 hσ' (gqc0 hcell (gqc0 hw (gqc0 hd2 (wk1 k (by omega))))))) ?_
      exact Again.next hlt ⟨rfl, rfl⟩
    | some x =>
      have hw : IntKind.i64.wrap (((waitF (q.take k)).length : Int) + ((1 : Nat) : Int)) = ((waitF (q.take (k + 1))).length : Int) := by
        rw [hlen, wrap64i (by omega) (by omega)]; rfl
      have hd2 : decide (((waitF (q.take (k + 1))).length : Int) < 0) = false := by simp
      simp only [pcell] at hcell
      refine gq17 (gqc0 hd (gqc0 hσ' (gqc0 hcell (gqc0 hw (gqc0 hd2 (wk1 k (by omega))))))) ?_
      exact Again.next hlt ⟨rfl, rfl⟩
  · have hk8 : k = 8 := by omega
    subst hk8
    have hd : decide (((8 : Nat) : Int) < ((8 : Nat) : Int)) = false := rfl
    refine gq17 hd ?_
    have hwl := waitF_len q 8
    have ht8 : q.take 8 = q := List.take_of_length_le (by omega)
    -- what holds of the second loop, however it begins
    have loop : ∀ (init : List AV) (s0 : List AObj) (round : List AV → List AObj → (List AV → List AObj → Prop) → Prop), (∃ g, Weak init s0 [.rsl s.length g 9 0 0, .d (.int .i64 (0 : Nat))] (s ++ [.row g 9 []])) →
        (∀ (k g : Nat), k ≤ 8 → round [.rsl s.length g 9 0 (waitF (q.take k)).length, .d (.int .i64 k)] (s ++ [.row g 9 (rowC (waitF (q.take k)))]) (Again 8 (fun k vs s' => ∃ g, vs = [.rsl s.length g 9 0 (waitF (q.take k)).length, .d (.int .i64 k)] ∧ s' = s ++ [.row g 9 (rowC (waitF (q.take k)))]) k)) →
        loopC init s0 round := by
      rintro init s0 round ⟨g, hw⟩ h
      refine loopC_countW 8 (fun k vs s' => ∃ g, vs = [.rsl s.length g 9 0 (waitF (q.take k)).length, .d (.int .i64 k)] ∧ s' = s ++ [.row g 9 (rowC (waitF (q.take k)))]) hw ⟨g, rfl, rfl⟩ ?_
      rintro k vs s' hk ⟨g, rfl, rfl⟩
      exact h k g hk
    have round : ∀ (k g : Nat), k ≤ 8 → binC .lss .plain (.d (.int .i64 k)) (.d (.int .i64 (8 : Nat))) (s ++ [.row g 9 (rowC (waitF (q.take k)))]) fun v42 s43 =>
        condC v42 (iaddrC none 1 (.bsl id 1 8 8 1) (.d (.int .i64 k)) s43 fun v44 s45 => loadC false 1 v44 s45 fun v46 s47 => appendRC 9 104 (.rsl s.length g 9 0 (waitF (q.take k)).length) v46 s47 fun v48 s49 => binC .add .plain (.d (.int .i64 k)) (.d (.int .i64 1)) s49 fun v50 s51 =>
          Again 8 (fun k vs s' => ∃ g, vs = [.rsl s.length g 9 0 (waitF (q.take k)).length, .d (.int .i64 k)] ∧ s' = s ++ [.row g 9 (rowC (waitF (q.take k)))]) k [v48, v50] s51) (EndsF 3 s.length K (consO (some (.rsl s.length g 9 0 (waitF (q.take k)).length)) (some [])) s43) := by
      intro k g hk
      by_cases hlt : k < 8
      · have hd : decide ((k : Int) < ((8 : Nat) : Int)) = true := by simp; omega
        have hx : q[k]? = some q[k] := by simp [hq, hlt]
        have hcell := poolC_get hx
        have htk := waitF_take hx
        have hwl := waitF_len q k
        obtain ⟨o, ho⟩ : ∃ o, q[k] = o := ⟨_, rfl⟩
        rw [ho] at hcell htk
        have hrl := rowC_len (waitF (q.take k))
        cases o with
        | none =>
          simp only [pcell] at hcell
          simp only [Option.toList_none, List.append_nil] at htk
          refine gq21 (gqc0 hd (gqc0 hg (gqc0 hcell (wk1 k (by omega))))) ?_
          refine Again.next hlt ⟨g + 1, ?_, ?_⟩
          · rw [htk]
          · rw [htk]
        | some x =>
          simp only [pcell] at hcell
          simp only [Option.toList_some] at htk
          refine gq21 (gqc0 hd (gqc0 hg (gqc0 hcell (wk1 k (by omega))))) ?_
          refine ⟨by simp [signedD], ?_⟩
          refine gq16 ?_
          refine Again.next hlt ⟨g + 1, ?_, ?_⟩
          · rw [htk, List.length_append]; rfl
          · rw [htk, ← rowC_app]; rfl
      · have hk8 : k = 8 := by omega
        subst hk8
        refine gq17 hd ?_
        rw [ht8]
        refine endsF_app ?_ hl hK
        have hr := rowC_chunks (waitF q)
        have hrl := rowC_len (waitF q)
        have htake : (rowC (waitF q)).take ((waitF q).length * 9) = rowC (waitF q) := List.take_of_length_le (by omega)
        have hch := chunks_flat 9 (batchE (waitF q)) (batch_nine _)
        rw [List.length_map] at hch
        simp only [pack, frzT, frz1, frz, get_app0, List.getElem?_cons_zero, Nat.le_refl, true_and, if_true, Nat.zero_mul, List.drop_zero, Nat.sub_zero, htake, hr, hch]
    rcases Nat.eq_zero_or_pos (waitF q).length with h0 | h0
    · refine c_Grow (n := (waitF (q.take 8)).length) (by omega) (fun _ => ?_) (fun h => by rw [ht8] at h; omega)
      refine gq16 ?_
      refine loop _ _ _ ?_ ?_
      · exact ⟨0, .row 0 9 rfl (by omega) (.refl _ _)⟩
      · intro k g hk
        exact round k g hk
    · refine c_Grow (n := (waitF (q.take 8)).length) (by omega) (fun h => by rw [ht8] at h; omega) (fun _ => ?_)
      refine gq16 ?_
      refine loop _ _ _ ?_ ?_
      rotate_left
      · intro k g hk
        exact round k g hk
      refine ⟨1, ?_⟩
      have := Weak.cut (vs := [.rsl s.length 0 9 0 0, .d (.int .i64 (0 : Nat))]) (σ := s ++ [.row 0 9 (rep z9 (waitF (q.take 8)).length)]) 0 s.length 0 9 0 0 _ rfl List.getElem?_concat_length (.refl _ _)
      simpa using this
theorem c_Waiting {σ : List AObj} {id : Nat} {q : PQ} (hσ : σ[id]? = some (poolO q)) (hq : PoolI q) {K : AV → List AObj → Prop} (hK : K (.d (.slice (batchE (waitF q)))) σ) : ACall Try.prog n_pool_Pool_Waiting [.box id 0] σ K := by
  refine acE1 e_pool_Pool_Waiting fun hl => ?_
  simp only [S_pool_Pool_Waiting, iN, bT, bF, eN]
  refine gq16 ?_
  refine c_poolNone hσ ?_
  refine gq16 ?_
  refine c_Concat hσ hq.len ?_
  refine gq16 ?_
  refine c_rqClone (smallB_of hq.wait_ok) ?_
  refine gq16 ?_
  refine finE hl ?_
  exact hK
theorem c_poolLen {σ : List AObj} {id : Nat} {q : PQ} (hσ : σ[id]? = some (poolO q)) (hq : PoolI q) {K : AV → List AObj → Prop} (hK : K (.d (.int .i64 (waitF q).length)) σ) : ACall Try.prog n_pool_Pool_Len [.box id 0] σ K := by
  refine acE1 e_pool_Pool_Len fun hl => ?_
  simp only [S_pool_Pool_Len, iN, bT, bF, eN]
  refine gq16 ?_
  refine c_Waiting hσ hq ?_
  refine gq16 ?_
  refine finE hl ?_
  exact hK
end Go.Proofs.Ytnfienilahfdjaa

/- Contracts: a request whose record is written. -/
import Derived.Test.YtnfienilahfdjaaPn1
import Derived.Test.YtnfienilahfdjaaMu4
import Derived.Test.YtnfienilahfdjaaAwAll
set_option linter.all false
set_option maxRecDepth 100000
set_option linter.unusedSimpArgs false
set_option linter.unusedVariables false
namespace Go.Proofs.Ytnfienilahfdjaa
open Go.AW

abbrev op1 (b : UInt8) : TOp := ⟨2, [116], [], 0, [[b]]⟩
abbrev one1 (b : UInt8) : TSigned := ⟨1, 2, op1 b, 1, 1⟩
abbrev opX (c : AV) : AV := .agg [.d (.int .i64 2), .d (.str [116]), .d (.str []), .d (.int .i64 0), c]
def Rec1 (n : Nat) (s : List AObj) (tr gr ty gy : Nat) (b : UInt8) : Prop := n ≤ tr ∧ n ≤ ty ∧ s[tr]? = some (.row gr 1 [.rsl ty gy 1 0 1]) ∧ s[ty]? = some (.row gy 1 [.d (.int .u8 b.toNat)])
theorem Rec1.app {n : Nat} {s : List AObj} {tr gr ty gy : Nat} {b : UInt8} (h : Rec1 n s tr gr ty gy b) (τ : List AObj) : Rec1 n (s ++ τ) tr gr ty gy b := ⟨h.1, h.2.1, get_left h.2.2.1, get_left h.2.2.2⟩
theorem Rec1.X {n : Nat} {s : List AObj} {tr gr ty gy : Nat} {b : UInt8} (h : Rec1 n s tr gr ty gy b) : RecsX n s (.rsl tr gr 1 0 1) [[b]] := by
  obtain ⟨h1, h2, h3, h4⟩ := h
  refine ⟨tr, gr, _, h1, rfl, h3, rfl, fun i r hr => ?_⟩
  match i, hr with
  | 0, hr =>
    simp only [List.getElem?_cons_zero, Option.some.injEq] at hr
    subst hr
    exact ⟨_, rfl, ty, gy, h2, rfl, h4⟩
theorem swap_get {s T L : List AObj} {Y X y : AObj} {j : Nat} (hj : s.length < j) (h : (s ++ [Y] ++ T)[j]? = some y) : (s ++ X :: (T ++ L))[j]? = some y := by
  obtain ⟨d, rfl⟩ : ∃ d, j = s.length + (d + 1) := ⟨j - s.length - 1, by omega⟩
  rw [List.append_assoc, get_app, List.cons_append, List.nil_append, List.getElem?_cons_succ] at h
  rw [get_app, List.getElem?_cons_succ]
  exact get_left h
section

variable {σ : List AObj} {K : AV → List AObj → Prop}

theorem c_byteR {t g : Nat} {b : UInt8} (ht : σ[t]? = some (.row g 1 [.d (.int .u8 b.toNat)])) (hK : ∀ g', K (.rsl σ.length g' 1 0 1) (σ ++ [.row g' 1 [.d (.int .u8 b.toNat)]])) : ACall Try.prog n_bytes_Clone [.rsl t g 1 0 1] σ K := by
  refine acall_all em_bytes_Clone.is rfl fun hl _ => em_bytes_Clone.goes ?_
  simp only [Sm_bytes_Clone, iN, bT, bF, eN]
  have ht' : ∀ τ, (σ ++ τ)[t]? = some (.row g 1 [.d (.int .u8 b.toNat)]) := fun τ => get_left ht
  simp only [isnilC, esOf]
  refine ⟨by simp, fun _ => ?_⟩
  refine gq21 (gqc0 ht ht') ?_
  exact endsA (hK 1)
theorem gq27 {P Q : Prop} (h : Q) (e : Hd Q → P := by intro h; (repeat' first | simp -dsimp only [↓cA_u, ↓acallL, ↓loopL, ↓bP_u, ↓gF_b, ↓gT_b, ↓gF_0, ↓gT_0, ↓gFm_b, ↓gTm_b, ↓gFm_0, ↓gTm_0, ↓fl_u, ↓nfl_u, ↓gFl_b, ↓gTl_b, ↓gFl_0, ↓gTl_0, ↓il_u, ↓cp_u, ↓orC_b, ↓anC_b, ↓z1_u, ↓z2_u, ↓m1_u, iN, bT, bF, eN, ↓binC, ↓unC, ↓condC_b, ↓guardC_T, ↓guardC_F, ↓guardC_0, ↓pickC_b, ↓lenC, ↓slcC, ↓convC, ↓boxC, ↓allocC, ↓loadC, ↓storeC, ↓nilC, ↓faddrC, ↓fieldC, ↓iaddrC, ↓idxSC, ↓idxAC, ↓extractC, ↓buildC, ↓mksliceC, ↓appendC, ↓isnilC, ↓maxC, ↓minC, ↓callvC, ↓mkmapC, ↓mgetC, ↓msetC, ↓mdelC, ↓headC_cons, ↓rangeC, ↓BBL_true, ↓BBL_false, ↓BBL_not, binA, intOp, strOp, unA, esOf, bnd, intV, cellsA, fillV, srcE, dm, dm1, consO, cellA, maxL, minL, keepO, Q0, Q1, Q2, Q3, Q4, Q5, len_app, get_app, get_app0, set_app, set_app0, Q6, Q7, Q8, Q9, Q10, Q11, Q12, Q13, Q14, Nat.reduceAdd, Q15, Int.reduceToNat, Q16, Q17, Q18, Q19, Q20, reduceIte, Q21, Q22, recsE_len, rep, splice, toDs, toD, chunks, Q23, Q24, Q25, Q26, Q27, Q28, Nat.reduceLeDiff, Q29, Nat.reduceSub, Q30, Q31, Q32, sc, Q33, Q34, Q35, Q36, Q37, Q26, Q38, Q39, n0gt, n1gt, n2gt, n0eq, n1eq0, n1eq, n2eq, n0ne, n1ne, n1ne0, n0ne1, i0ne, i0eq, Bool.not_true, Bool.not_false, List.length_map, Bool.and_false, Bool.and_self, Bool.false_and, Bool.not_false, Bool.not_true, Bool.true_and, Int.toNat_natCast, Int.toNat_zero, List.drop_zero, List.length_map, List.length_nil, List.nil_append, List.take_length, Nat.sub_zero, Nat.zero_add, Option.isSome_none, Option.isSome_some, Option.map_none, Option.map_some, bcs_length, beq_self_eq_true, bne_self_eq_false] | with_reducible refine andA ?_ | fail); exact h.go) : P := e ⟨h⟩
theorem gq28 {A P Q : Prop} (a : A) (h : Q) (e : A → Hd Q → P := by intro a h; (repeat' first | simp -dsimp only [↓cA_u, ↓acallL, ↓loopL, ↓bP_u, ↓gF_b, ↓gT_b, ↓gF_0, ↓gT_0, ↓gFm_b, ↓gTm_b, ↓gFm_0, ↓gTm_0, ↓fl_u, ↓nfl_u, ↓gFl_b, ↓gTl_b, ↓gFl_0, ↓gTl_0, ↓il_u, ↓cp_u, ↓orC_b, ↓anC_b, ↓z1_u, ↓z2_u, ↓m1_u, iN, bT, bF, eN, ↓binC, ↓unC, ↓condC_b, ↓guardC_T, ↓guardC_F, ↓guardC_0, ↓pickC_b, ↓lenC, ↓slcC, ↓convC, ↓boxC, ↓allocC, ↓loadC, ↓storeC, ↓nilC, ↓faddrC, ↓fieldC, ↓iaddrC, ↓idxSC, ↓idxAC, ↓extractC, ↓buildC, ↓mksliceC, ↓appendC, ↓isnilC, ↓maxC, ↓minC, ↓callvC, ↓mkmapC, ↓mgetC, ↓msetC, ↓mdelC, ↓headC_cons, ↓rangeC, ↓BBL_true, ↓BBL_false, ↓BBL_not, binA, intOp, strOp, unA, esOf, bnd, intV, cellsA, fillV, srcE, dm, dm1, consO, cellA, maxL, minL, keepO, Q0, Q1, Q2, Q3, Q4, Q5, len_app, get_app, get_app0, set_app, set_app0, Q6, Q7, Q8, Q9, Q10, Q11, Q12, Q13, Q14, Nat.reduceAdd, Q15, Int.reduceToNat, Q16, Q17, Q18, Q19, Q20, reduceIte, Q21, Q22, recsE_len, rep, splice, toDs, toD, chunks, Q23, Q24, Q25, Q26, Q27, Q28, Nat.reduceLeDiff, Q29, Nat.reduceSub, Q30, Q31, Q32, sc, Q33, Q34, Q35, Q36, Q37, Q26, Q38, Q39, n0gt, n1gt, n2gt, n0eq, n1eq0, n1eq, n2eq, n0ne, n1ne, n1ne0, n0ne1, i0ne, i0eq, Bool.not_true, Bool.not_false, List.length_map, Nat.zero_add, Nat.zero_mul, a] | with_reducible refine andA ?_ | fail); exact h.go) : P := e a ⟨h⟩
theorem c_opR {tr gr ty gy : Nat} {b : UInt8} (h : Rec1 0 σ tr gr ty gy b) (hK : ∀ T tr' gr' ty' gy', Rec1 σ.length (σ ++ T) tr' gr' ty' gy' b → K (opX (.rsl tr' gr' 1 0 1)) (σ ++ T)) : ACall Try.prog n_op_Clone [opX (.rsl tr gr 1 0 1)] σ K := by
  refine acall_all em_op_Clone.is rfl fun hl _ => em_op_Clone.goes ?_
  simp only [Sm_op_Clone, iN, bT, bF, eN, zl2]
  have h1 : ∀ τ, (σ ++ τ)[tr]? = some (.row gr 1 [.rsl ty gy 1 0 1]) := fun τ => get_left h.2.2.1
  have h2 : ∀ τ, (σ ++ τ)[ty]? = some (.row gy 1 [.d (.int .u8 b.toNat)]) := fun τ => get_left h.2.2.2
  refine gq27 ?_
  obtain ⟨A, hA⟩ : ∃ A, AObj.box [.d (.int .i64 2), .d (.str [116]), .d (.str []), .d (.int .i64 0), .rsl tr gr 1 0 1] = A := ⟨_, rfl⟩
  obtain ⟨B, hB⟩ : ∃ B, AObj.box [.d (.int .i64 0), .d (.str []), .d (.str []), .d (.int .i64 0), .exact []] = B := ⟨_, rfl⟩
  rw [hA, hB]
  refine loopC_count 1 (fun k vs s => (k = 0 → vs = [.exact [], .d (.int .i64 0)] ∧ s = σ ++ [A, B]) ∧ (k = 1 → ∃ g1 g2, vs = [.rsl (σ.length + 4) g1 1 0 1, .d (.int .i64 1)] ∧ s = σ ++ [A, B, .row g2 1 [.d (.int .u8 b.toNat)], .row g1 1 [.rsl (σ.length + 2) g2 1 0 1], .row g1 1 [.rsl (σ.length + 2) g2 1 0 1]])) ⟨fun _ => ⟨rfl, rfl⟩, fun h => by cases h⟩ ?_
  rintro k vs s hk ⟨k0, k1⟩
  by_cases hlt : k < 1
  · obtain ⟨rfl, rfl⟩ := k0 (by omega)
    refine gq28 (gqc0 (show decide ((0 : Int) < ((1 : Nat) : Int)) = true from rfl) h1) ?_
    refine c_byteR (h2 _) fun g' => ?_
    refine gq21 (show IntKind.i64.wrap (0 + 1) = 1 from rfl) ?_
    exact Again.next hlt ⟨fun h => by omega, fun _ => ⟨0, g', rfl, rfl⟩⟩
  · obtain ⟨g1, g2, rfl, rfl⟩ := k1 (by omega)
    rw [← hA, ← hB]
    refine gq17 (show decide ((1 : Int) < ((1 : Nat) : Int)) = false from rfl) ?_
    exact endsA (hK _ (σ.length + 4) g1 (σ.length + 2) g2 ⟨by omega, by omega, by rw [get_app]; rfl, by rw [get_app]; rfl⟩)
def Bat1 (n : Nat) (s : List AObj) (tb gb : Nat) (b : UInt8) : Prop := n ≤ tb ∧ ∃ tr gr ty gy, s[tb]? = some (.row gb 9 [.d (.int .i64 1), .d (.int .i64 2), .d (.int .i64 2), .d (.str [116]), .d (.str []), .d (.int .i64 0), .rsl tr gr 1 0 1, .d (.int .i64 1), .d (.int .i64 1)]) ∧ Rec1 n s tr gr ty gy b
theorem Bat1.X {n : Nat} {s : List AObj} {tb gb : Nat} {b : UInt8} (h : Bat1 n s tb gb b) : BatchX n s (.rsl tb gb 9 0 1) [one1 b] := by
  obtain ⟨h1, tr, gr, ty, gy, h2, h3⟩ := h
  refine ⟨tb, gb, [_], h1, rfl, by rw [h2, List.flatten_singleton], rfl, fun i r hr => ?_⟩
  match i, hr with
  | 0, hr =>
    simp only [List.getElem?_cons_zero, Option.some.injEq] at hr
    subst hr
    exact ⟨_, rfl, h3.X⟩
theorem Bat1.app {n : Nat} {s : List AObj} {tb gb : Nat} {b : UInt8} (h : Bat1 n s tb gb b) (τ : List AObj) : Bat1 n (s ++ τ) tb gb b := by
  obtain ⟨h1, tr, gr, ty, gy, h2, h3⟩ := h
  exact ⟨h1, tr, gr, ty, gy, get_left h2, h3.app τ⟩
theorem c_rqR {tb gb : Nat} {b : UInt8} (h : Bat1 0 σ tb gb b) (hK : ∀ T tb' gb', Bat1 σ.length (σ ++ T) tb' gb' b → K (.rsl tb' gb' 9 0 1) (σ ++ T)) : ACall Try.prog n_request_Clone [.rsl tb gb 9 0 1] σ K := by
  obtain ⟨_, tr, gr, ty, gy, hb, hr⟩ := h
  refine acall_all em_request_Clone.is rfl fun hl _ => em_request_Clone.goes ?_
  simp only [Sm_request_Clone, iN, bT, bF, eN, zl1]
  have hb' : ∀ τ, (σ ++ τ)[tb]? = _ := fun τ => get_left hb
  refine gq27 ?_
  refine loopC_count 1 (fun k vs s => (k = 0 → vs = [.exact [], .d (.int .i64 0)] ∧ s = σ) ∧ (k = 1 → ∃ T tb' gb', vs = [.rsl tb' gb' 9 0 1, .d (.int .i64 1)] ∧ s = σ ++ T ∧ Bat1 σ.length (σ ++ T) tb' gb' b)) ⟨fun _ => ⟨rfl, rfl⟩, fun h => by cases h⟩ ?_
  rintro k vs s hk ⟨k0, k1⟩
  by_cases hlt : k < 1
  · obtain ⟨rfl, rfl⟩ := k0 (by omega)
    refine gq28 (gqc0 (show decide ((0 : Int) < ((1 : Nat) : Int)) = true from rfl) (gqc0 hb hb')) ?_
    refine c_opR (hr.app _) fun T tr' gr' ty' gy' h' => ?_
    refine gq21 (show IntKind.i64.wrap (0 + 1) = 1 from rfl) ?_
    refine Again.next hlt ⟨fun h => by omega, fun _ => ⟨_, _, _, rfl, rfl, by omega, tr', gr', ty', gy', ?_, ?_⟩⟩
    · rw [get_app]
      show (_ :: (T ++ _))[T.length + 2]? = _
      rw [List.getElem?_cons_succ, get_app]; rfl
    · obtain ⟨e1, e2, e3, e4⟩ := h'
      simp at e1 e2
      exact ⟨by omega, by omega, swap_get (by omega) e3, swap_get (by omega) e4⟩
  · obtain ⟨T, tb', gb', rfl, rfl, hB⟩ := k1 (by omega)
    refine gq17 (show decide ((1 : Int) < ((1 : Nat) : Int)) = false from rfl) ?_
    exact endsA (hK _ _ _ hB)
end

end Go.Proofs.Ytnfienilahfdjaa

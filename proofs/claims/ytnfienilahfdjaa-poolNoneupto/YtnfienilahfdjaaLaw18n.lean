/- The law PoolNone, from the contracts. -/
import Derived.Test.YtnfienilahfdjaaPn3
import Derived.Test.YtnfienilahfdjaaSpBulk
import Derived.Test.YtnfienilahfdjaaSpDec
set_option linter.all false
set_option maxRecDepth 100000
set_option linter.unusedSimpArgs false
set_option linter.unusedVariables false
namespace Go.Proofs.Ytnfienilahfdjaa
open Go.AW

def BB (lo hi : Nat) (s : List AObj) (tb gb : Nat) : Prop := ∃ tr gr ty gy, (lo ≤ tb ∧ tb < hi) ∧ (lo ≤ tr ∧ tr < hi) ∧ (lo ≤ ty ∧ ty < hi) ∧ s[tb]? = some (.row gb 9 (sgX tr gr)) ∧ s[tr]? = some (.row gr 1 [.rsl ty gy 1 0 1]) ∧ s[ty]? = some (.row gy 1 [.d (.int .u8 7)])
theorem Bat1.BB {n : Nat} {s : List AObj} {tb gb : Nat} (h : Bat1 n s tb gb 7) : BB n s.length s tb gb := by
  obtain ⟨h1, tr, gr, ty, gy, h2, e1, e2, e3, e4⟩ := h
  exact ⟨tr, gr, ty, gy, ⟨h1, lt_len h2⟩, ⟨e1, lt_len e3⟩, ⟨e2, lt_len e4⟩, h2, e3, e4⟩
theorem BB.app {lo hi : Nat} {s : List AObj} {tb gb : Nat} (h : BB lo hi s tb gb) (τ : List AObj) : BB lo hi (s ++ τ) tb gb := by
  obtain ⟨tr, gr, ty, gy, h1, h2, h3, h4, h5, h6⟩ := h
  exact ⟨tr, gr, ty, gy, h1, h2, h3, get_left h4, get_left h5, get_left h6⟩
theorem BB.set {lo hi k : Nat} {s : List AObj} {tb gb : Nat} {X : AObj} (h : BB lo hi s tb gb) (hk : k < lo ∨ hi ≤ k) : BB lo hi (s.set k X) tb gb := by
  obtain ⟨tr, gr, ty, gy, h1, h2, h3, h4, h5, h6⟩ := h
  exact ⟨tr, gr, ty, gy, h1, h2, h3, by rw [List.getElem?_set_ne (by omega)]; exact h4, by rw [List.getElem?_set_ne (by omega)]; exact h5, by rw [List.getElem?_set_ne (by omega)]; exact h6⟩
theorem ends_takeP {σ S : List AObj} {K : AV → List AObj → Prop} {l : List AV} (h : S.take σ.length = σ) (h1 : Low σ.length (dmT (pack l))) (hl : Lows σ.length σ) (hK : K (dmT (pack l)) σ) : AW.Ends σ.length K (some l) S := by
  unfold AW.Ends
  rw [h]
  exact ⟨h1, hl, hK⟩
def pars_PoolNone : List (Bool × List Ty) := [(true, tySigned)]
theorem gq32 {A P Q : Prop} (a : A) (h : Q) (e : A → Hd Q → P := by intro a h; (repeat' first | simp -dsimp only [↓cA_u, ↓acallL, ↓loopL, ↓bP_u, ↓gF_b, ↓gT_b, ↓gF_0, ↓gT_0, ↓gFm_b, ↓gTm_b, ↓gFm_0, ↓gTm_0, ↓fl_u, ↓nfl_u, ↓gFl_b, ↓gTl_b, ↓gFl_0, ↓gTl_0, ↓il_u, ↓cp_u, ↓orC_b, ↓anC_b, ↓z1_u, ↓z2_u, ↓m1_u, iN, bT, bF, eN, ↓binC, ↓unC, ↓condC_b, ↓guardC_T, ↓guardC_F, ↓guardC_0, ↓pickC_b, ↓lenC, ↓slcC, ↓convC, ↓boxC, ↓allocC, ↓loadC, ↓storeC, ↓nilC, ↓faddrC, ↓fieldC, ↓iaddrC, ↓idxSC, ↓idxAC, ↓extractC, ↓buildC, ↓mksliceC, ↓appendC, ↓isnilC, ↓maxC, ↓minC, ↓callvC, ↓mkmapC, ↓mgetC, ↓msetC, ↓mdelC, ↓headC_cons, ↓rangeC, ↓BBL_true, ↓BBL_false, ↓BBL_not, binA, intOp, strOp, unA, esOf, bnd, intV, cellsA, fillV, srcE, dm, dm1, consO, cellA, maxL, minL, keepO, Q0, Q1, Q2, Q3, Q4, Q5, len_app, get_app, get_app0, set_app, set_app0, Q6, Q7, Q8, Q9, Q10, Q11, Q12, Q13, Q14, Nat.reduceAdd, Q15, Int.reduceToNat, Q16, Q17, Q18, Q19, Q20, reduceIte, Q21, Q22, recsE_len, rep, splice, toDs, toD, chunks, Q23, Q24, Q25, Q26, Q27, Q28, Nat.reduceLeDiff, Q29, Nat.reduceSub, Q30, Q31, Q32, sc, Q33, Q34, Q35, Q36, Q37, Q26, Q38, Q39, n0gt, n1gt, n2gt, n0eq, n1eq0, n1eq, n2eq, n0ne, n1ne, n1ne0, n0ne1, i0ne, i0eq, Bool.not_true, Bool.not_false, List.length_map, Int.toNat_natCast, Nat.mul_one, Nat.zero_add, a] | with_reducible refine andA ?_ | fail); exact h.go) : P := e a ⟨h⟩
theorem gq33 {A P Q : Prop} (a : A) (h : Q) (e : A → Hd Q → P := by intro a h; (repeat' first | simp -dsimp only [↓cA_u, ↓acallL, ↓loopL, ↓bP_u, ↓gF_b, ↓gT_b, ↓gF_0, ↓gT_0, ↓gFm_b, ↓gTm_b, ↓gFm_0, ↓gTm_0, ↓fl_u, ↓nfl_u, ↓gFl_b, ↓gTl_b, ↓gFl_0, ↓gTl_0, ↓il_u, ↓cp_u, ↓orC_b, ↓anC_b, ↓z1_u, ↓z2_u, ↓m1_u, iN, bT, bF, eN, ↓binC, ↓unC, ↓condC_b, ↓guardC_T, ↓guardC_F, ↓guardC_0, ↓pickC_b, ↓lenC, ↓slcC, ↓convC, ↓boxC, ↓allocC, ↓loadC, ↓storeC, ↓nilC, ↓faddrC, ↓fieldC, ↓iaddrC, ↓idxSC, ↓idxAC, ↓extractC, ↓buildC, ↓mksliceC, ↓appendC, ↓isnilC, ↓maxC, ↓minC, ↓callvC, ↓mkmapC, ↓mgetC, ↓msetC, ↓mdelC, ↓headC_cons, ↓rangeC, ↓BBL_true, ↓BBL_false, ↓BBL_not, binA, intOp, strOp, unA, esOf, bnd, intV, cellsA, fillV, srcE, dm, dm1, consO, cellA, maxL, minL, keepO, Q0, Q1, Q2, Q3, Q4, Q5, len_app, get_app, get_app0, set_app, set_app0, Q6, Q7, Q8, Q9, Q10, Q11, Q12, Q13, Q14, Nat.reduceAdd, Q15, Int.reduceToNat, Q16, Q17, Q18, Q19, Q20, reduceIte, Q21, Q22, recsE_len, rep, splice, toDs, toD, chunks, Q23, Q24, Q25, Q26, Q27, Q28, Nat.reduceLeDiff, Q29, Nat.reduceSub, Q30, Q31, Q32, sc, Q33, Q34, Q35, Q36, Q37, Q26, Q38, Q39, n0gt, n1gt, n2gt, n0eq, n1eq0, n1eq, n2eq, n0ne, n1ne, n1ne0, n0ne1, i0ne, i0eq, Bool.not_true, Bool.not_false, List.length_map, Bool.false_eq_true, List.length_nil, List.map_nil, bne_self_eq_false, recsE, signedA, a] | with_reducible refine andA ?_ | fail); exact h.go) : P := e a ⟨h⟩
theorem gq34 {A P Q : Prop} (a : A) (h : Q) (e : A → Hd Q → P := by intro a h; (repeat' first | simp -dsimp only [↓cA_u, ↓acallL, ↓loopL, ↓bP_u, ↓gF_b, ↓gT_b, ↓gF_0, ↓gT_0, ↓gFm_b, ↓gTm_b, ↓gFm_0, ↓gTm_0, ↓fl_u, ↓nfl_u, ↓gFl_b, ↓gTl_b, ↓gFl_0, ↓gTl_0, ↓il_u, ↓cp_u, ↓orC_b, ↓anC_b, ↓z1_u, ↓z2_u, ↓m1_u, iN, bT, bF, eN, ↓binC, ↓unC, ↓condC_b, ↓guardC_T, ↓guardC_F, ↓guardC_0, ↓pickC_b, ↓lenC, ↓slcC, ↓convC, ↓boxC, ↓allocC, ↓loadC, ↓storeC, ↓nilC, ↓faddrC, ↓fieldC, ↓iaddrC, ↓idxSC, ↓idxAC, ↓extractC, ↓buildC, ↓mksliceC, ↓appendC, ↓isnilC, ↓maxC, ↓minC, ↓callvC, ↓mkmapC, ↓mgetC, ↓msetC, ↓mdelC, ↓headC_cons, ↓rangeC, ↓BBL_true, ↓BBL_false, ↓BBL_not, binA, intOp, strOp, unA, esOf, bnd, intV, cellsA, fillV, srcE, dm, dm1, consO, cellA, maxL, minL, keepO, Q0, Q1, Q2, Q3, Q4, Q5, len_app, get_app, get_app0, set_app, set_app0, Q6, Q7, Q8, Q9, Q10, Q11, Q12, Q13, Q14, Nat.reduceAdd, Q15, Int.reduceToNat, Q16, Q17, Q18, Q19, Q20, reduceIte, Q21, Q22, recsE_len, rep, splice, toDs, toD, chunks, Q23, Q24, Q25, Q26, Q27, Q28, Nat.reduceLeDiff, Q29, Nat.reduceSub, Q30, Q31, Q32, sc, Q33, Q34, Q35, Q36, Q37, Q26, Q38, Q39, n0gt, n1gt, n2gt, n0eq, n1eq0, n1eq, n2eq, n0ne, n1ne, n1ne0, n0ne1, i0ne, i0eq, Bool.not_true, Bool.not_false, List.length_map, b4, a] | with_reducible refine andA ?_ | fail); exact h.go) : P := e a ⟨h⟩
theorem gq35 {A P Q : Prop} (a : A) (h : Q) (e : A → Hd Q → P := by intro a h; (repeat' first | simp -dsimp only [↓cA_u, ↓acallL, ↓loopL, ↓bP_u, ↓gF_b, ↓gT_b, ↓gF_0, ↓gT_0, ↓gFm_b, ↓gTm_b, ↓gFm_0, ↓gTm_0, ↓fl_u, ↓nfl_u, ↓gFl_b, ↓gTl_b, ↓gFl_0, ↓gTl_0, ↓il_u, ↓cp_u, ↓orC_b, ↓anC_b, ↓z1_u, ↓z2_u, ↓m1_u, iN, bT, bF, eN, ↓binC, ↓unC, ↓condC_b, ↓guardC_T, ↓guardC_F, ↓guardC_0, ↓pickC_b, ↓lenC, ↓slcC, ↓convC, ↓boxC, ↓allocC, ↓loadC, ↓storeC, ↓nilC, ↓faddrC, ↓fieldC, ↓iaddrC, ↓idxSC, ↓idxAC, ↓extractC, ↓buildC, ↓mksliceC, ↓appendC, ↓isnilC, ↓maxC, ↓minC, ↓callvC, ↓mkmapC, ↓mgetC, ↓msetC, ↓mdelC, ↓headC_cons, ↓rangeC, ↓BBL_true, ↓BBL_false, ↓BBL_not, binA, intOp, strOp, unA, esOf, bnd, intV, cellsA, fillV, srcE, dm, dm1, consO, cellA, maxL, minL, keepO, Q0, Q1, Q2, Q3, Q4, Q5, len_app, get_app, get_app0, set_app, set_app0, Q6, Q7, Q8, Q9, Q10, Q11, Q12, Q13, Q14, Nat.reduceAdd, Q15, Int.reduceToNat, Q16, Q17, Q18, Q19, Q20, reduceIte, Q21, Q22, recsE_len, rep, splice, toDs, toD, chunks, Q23, Q24, Q25, Q26, Q27, Q28, Nat.reduceLeDiff, Q29, Nat.reduceSub, Q30, Q31, Q32, sc, Q33, Q34, Q35, Q36, Q37, Q26, Q38, Q39, n0gt, n1gt, n2gt, n0eq, n1eq0, n1eq, n2eq, n0ne, n1ne, n1ne0, n0ne1, i0ne, i0eq, Bool.not_true, Bool.not_false, List.length_map, Int.toNat_natCast, Nat.mul_one, Nat.sub_zero, Nat.zero_add, Nat.zero_mul, a] | with_reducible refine andA ?_ | fail); exact h.go) : P := e a ⟨h⟩
theorem law_PoolNone (xs : List AV) (n : Nat) (hn : n ≤ 1048576) (h : ArgsOk pars_PoolNone xs n) : ACall Try.prog n_l18_PoolNone xs [] fun r _ => r = .d (.bool true) := by
  obtain ⟨ds, xs1, m1, hf1, hb1, rfl, rfl⟩ := h
  obtain ⟨s, rfl, _⟩ := dec_signed hf1
  show ACall Try.prog n_l18_PoolNone [signedA s] [] _
  clear hb1 hf1
  obtain ⟨σ, hσ⟩ : ∃ σ : List AObj, [] = σ := ⟨_, rfl⟩
  rw [hσ]
  refine acall_of em_l18_PoolNone.is rfl fun hl _ => em_l18_PoolNone.goes ?_
  simp only [Sm_l18_PoolNone, iN, bT, bF, eN, zl0, zl1, zl2, zl3, signedA]
  refine gq16 ?_
  refine c_begun ?_
  refine gq16 ?_
  obtain ⟨pb, hpb⟩ : ∃ X, AObj.box [AV.d (D.int IntKind.i64 s.client), AV.d (D.int IntKind.i64 s.time), AV.d (D.int IntKind.i64 s.op.kind), AV.d (D.str s.op.topic), AV.d (D.str s.op.group), AV.d (D.int IntKind.i64 s.op.offset), AV.d (D.slice (recsE s.op.recs)), AV.d (D.int IntKind.i64 s.key), AV.d (D.int IntKind.i64 s.dig)] = X := ⟨_, rfl⟩
  obtain ⟨S0, hS0⟩ : ∃ S0, σ ++ [pb, AObj.box [.d (.bool false), .exact [], .exact [], .exact [], .exact [], .exact [], .exact [], .exact [], .exact []], AObj.row 0 1 [AV.d D.nilp, AV.box (σ.length + 1) 0]] = S0 := ⟨_, rfl⟩
  have l0 : S0.length = σ.length + 3 := by rw [← hS0]; simp
  have g0 : ∀ τ, (S0 ++ τ)[σ.length]? = some pb := fun τ => get_left (by rw [← hS0, get_app0]; rfl)
  have g1 : ∀ τ, (S0 ++ τ)[σ.length + 1]? = some (.box [.d (.bool false), .exact [], .exact [], .exact [], .exact [], .exact [], .exact [], .exact [], .exact []]) := fun τ => get_left (by rw [← hS0, get_app]; rfl)
  have g2 : ∀ τ, (S0 ++ τ)[σ.length + 2]? = some (.row 0 1 [AV.d D.nilp, AV.box (σ.length + 1) 0]) := fun τ => get_left (by rw [← hS0, get_app]; rfl)
  rw [hpb, hS0]
  rw [← hpb] at g0
  refine loopC_count 2 (fun k vs S => vs = [.d (.int .i64 k)] ∧ ∃ T, S = S0 ++ T) ⟨rfl, [], by simp⟩ ?_
  rintro k vs S hk ⟨rfl, T, rfl⟩
  by_cases hlt : k < 2
  · have hd : decide ((k : Int) < ((2 - 0 : Nat) : Int)) = true := by simp; omega
    have hk2 : (k : Int) < ((2 - 0 : Nat) : Int) := by omega
    have next : ∀ (u : Bool), (match k with | 0 => true | _ => false) = u → True := fun _ _ => trivial
    match k, hlt with
    | 0, h0 =>
      have hxN : ∀ τ, NoP (S0 ++ τ) (.d .nilp) := fun τ => .inl rfl
      refine gq32 (gqc0 hd (gqc0 g0 g2)) ?_
      refine c_pnOf (hxN _) ?_
      refine gq33 (gqc0 g0 (gqc0 (show (false == false) = true from rfl) (gqc0 (show (true == true) = true from rfl) (gqc0 (show ((0 : Int) != 0) = false from rfl) (gqc0 (show ((0 : Int) == 0) = true from rfl) (gqc0 (show IntKind.i64.wrap (0 + 0) = 0 from rfl) (show (((0 : Nat) : Int)) = 0 from rfl))))))) ?_
      refine c_pnPut (s := s) (hxN _) ?_
      refine gq33 (gqc0 g0 (gqc0 (show (false == false) = true from rfl) (gqc0 (show (true == true) = true from rfl) (gqc0 (show ((0 : Int) != 0) = false from rfl) (gqc0 (show ((0 : Int) == 0) = true from rfl) (gqc0 (show IntKind.i64.wrap (0 + 0) = 0 from rfl) (show (((0 : Nat) : Int)) = 0 from rfl))))))) ?_
      refine c_pnDone (hxN _) ?_
      refine gq33 (gqc0 g0 (gqc0 (show (false == false) = true from rfl) (gqc0 (show (true == true) = true from rfl) (gqc0 (show ((0 : Int) != 0) = false from rfl) (gqc0 (show ((0 : Int) == 0) = true from rfl) (gqc0 (show IntKind.i64.wrap (0 + 0) = 0 from rfl) (show (((0 : Nat) : Int)) = 0 from rfl))))))) ?_
      refine c_pnLen (hxN _) ?_
      refine gq33 (gqc0 g0 (gqc0 (show (false == false) = true from rfl) (gqc0 (show (true == true) = true from rfl) (gqc0 (show ((0 : Int) != 0) = false from rfl) (gqc0 (show ((0 : Int) == 0) = true from rfl) (gqc0 (show IntKind.i64.wrap (0 + 0) = 0 from rfl) (show (((0 : Nat) : Int)) = 0 from rfl))))))) ?_
      refine c_pnWaiting (hxN _) ?_
      refine gq33 (gqc0 g0 (gqc0 (show (false == false) = true from rfl) (gqc0 (show (true == true) = true from rfl) (gqc0 (show ((0 : Int) != 0) = false from rfl) (gqc0 (show ((0 : Int) == 0) = true from rfl) (gqc0 (show IntKind.i64.wrap (0 + 0) = 0 from rfl) (show (((0 : Nat) : Int)) = 0 from rfl))))))) ?_
      refine ACall.pre (.data 1 (.exact []) [] rfl rfl (.refl _ _)) ?_
      refine c_pnPick (hxN _) ?_
      refine gq33 (gqc0 g0 (gqc0 (show (false == false) = true from rfl) (gqc0 (show (true == true) = true from rfl) (gqc0 (show ((0 : Int) != 0) = false from rfl) (gqc0 (show ((0 : Int) == 0) = true from rfl) (gqc0 (show IntKind.i64.wrap (0 + 0) = 0 from rfl) (show (((0 : Nat) : Int)) = 0 from rfl))))))) ?_
      refine c_pnPlain (hxN _) ?_
      refine gq33 (gqc0 g0 (gqc0 (show (false == false) = true from rfl) (gqc0 (show (true == true) = true from rfl) (gqc0 (show ((0 : Int) != 0) = false from rfl) (gqc0 (show ((0 : Int) == 0) = true from rfl) (gqc0 (show IntKind.i64.wrap (0 + 0) = 0 from rfl) (gqc0 (show (((0 : Nat) : Int)) = 0 from rfl) (gqc0 (show IntKind.i64.wrap (0 + 1) = 1 from rfl) (show IntKind.i64.wrap (1 + 1) = 2 from rfl))))))))) ?_
      refine c_pnClone (hxN _) ?_
      refine gq33 (gqc0 g0 (gqc0 (show (false == false) = true from rfl) (gqc0 (show (true == true) = true from rfl) (gqc0 (show ((0 : Int) != 0) = false from rfl) (gqc0 (show ((0 : Int) == 0) = true from rfl) (gqc0 (show IntKind.i64.wrap (0 + 0) = 0 from rfl) (gqc0 (show (((0 : Nat) : Int)) = 0 from rfl) (gqc0 (show IntKind.i64.wrap (0 + 1) = 1 from rfl) (show IntKind.i64.wrap (1 + 1) = 2 from rfl))))))))) ?_
      exact Again.next h0 ⟨rfl, _, rfl⟩
    | 1, h0 =>
      have hxN : ∀ τ, NoP (S0 ++ τ) (.box (σ.length + 1) 0) := fun τ => .inr ⟨_, rfl, g1 τ⟩
      refine gq32 (gqc0 hd (gqc0 g0 g2)) ?_
      refine c_pnOf (hxN _) ?_
      refine gq33 (gqc0 g0 (gqc0 (show (false == false) = true from rfl) (gqc0 (show (true == true) = true from rfl) (gqc0 (show ((0 : Int) != 0) = false from rfl) (gqc0 (show ((0 : Int) == 0) = true from rfl) (gqc0 (show IntKind.i64.wrap (0 + 0) = 0 from rfl) (show (((0 : Nat) : Int)) = 0 from rfl))))))) ?_
      refine c_pnLen (hxN _) ?_
      refine gq33 (gqc0 g0 (gqc0 (show (false == false) = true from rfl) (gqc0 (show (true == true) = true from rfl) (gqc0 (show ((0 : Int) != 0) = false from rfl) (gqc0 (show ((0 : Int) == 0) = true from rfl) (gqc0 (show IntKind.i64.wrap (0 + 0) = 0 from rfl) (show (((0 : Nat) : Int)) = 0 from rfl))))))) ?_
      refine c_pnClone (hxN _) ?_
      refine gq33 (gqc0 g0 (gqc0 (show (false == false) = true from rfl) (gqc0 (show (true == true) = true from rfl) (gqc0 (show ((0 : Int) != 0) = false from rfl) (gqc0 (show ((0 : Int) == 0) = true from rfl) (gqc0 (show IntKind.i64.wrap (0 + 0) = 0 from rfl) (show (((0 : Nat) : Int)) = 0 from rfl))))))) ?_
      refine c_pnPut (s := s) (hxN _) ?_
      refine gq33 (gqc0 g0 (gqc0 (show (false == false) = true from rfl) (gqc0 (show (true == true) = true from rfl) (gqc0 (show ((0 : Int) != 0) = false from rfl) (gqc0 (show ((0 : Int) == 0) = true from rfl) (gqc0 (show IntKind.i64.wrap (0 + 0) = 0 from rfl) (show (((0 : Nat) : Int)) = 0 from rfl))))))) ?_
      refine c_pnDone (hxN _) ?_
      refine gq33 (gqc0 g0 (gqc0 (show (false == false) = true from rfl) (gqc0 (show (true == true) = true from rfl) (gqc0 (show ((0 : Int) != 0) = false from rfl) (gqc0 (show ((0 : Int) == 0) = true from rfl) (gqc0 (show IntKind.i64.wrap (0 + 0) = 0 from rfl) (show (((0 : Nat) : Int)) = 0 from rfl))))))) ?_
      refine c_pnLen (hxN _) ?_
      refine gq33 (gqc0 g0 (gqc0 (show (false == false) = true from rfl) (gqc0 (show (true == true) = true from rfl) (gqc0 (show ((0 : Int) != 0) = false from rfl) (gqc0 (show ((0 : Int) == 0) = true from rfl) (gqc0 (show IntKind.i64.wrap (0 + 0) = 0 from rfl) (show (((0 : Nat) : Int)) = 0 from rfl))))))) ?_
      refine c_pnWaiting (hxN _) ?_
      refine gq33 (gqc0 g0 (gqc0 (show (false == false) = true from rfl) (gqc0 (show (true == true) = true from rfl) (gqc0 (show ((0 : Int) != 0) = false from rfl) (gqc0 (show ((0 : Int) == 0) = true from rfl) (gqc0 (show IntKind.i64.wrap (0 + 0) = 0 from rfl) (show (((0 : Nat) : Int)) = 0 from rfl))))))) ?_
      refine ACall.pre (.data 1 (.exact []) [] rfl rfl (.refl _ _)) ?_
      refine c_pnPick (hxN _) ?_
      refine gq33 (gqc0 g0 (gqc0 (show (false == false) = true from rfl) (gqc0 (show (true == true) = true from rfl) (gqc0 (show ((0 : Int) != 0) = false from rfl) (gqc0 (show ((0 : Int) == 0) = true from rfl) (gqc0 (show IntKind.i64.wrap (0 + 0) = 0 from rfl) (show (((0 : Nat) : Int)) = 0 from rfl))))))) ?_
      refine c_pnPlain (hxN _) ?_
      refine gq33 (gqc0 g0 (gqc0 (show (false == false) = true from rfl) (gqc0 (show (true == true) = true from rfl) (gqc0 (show ((0 : Int) != 0) = false from rfl) (gqc0 (show ((0 : Int) == 0) = true from rfl) (gqc0 (show IntKind.i64.wrap (0 + 0) = 0 from rfl) (gqc0 (show (((0 : Nat) : Int)) = 0 from rfl) (gqc0 (show IntKind.i64.wrap (0 + 1) = 1 from rfl) (show IntKind.i64.wrap (1 + 1) = 2 from rfl))))))))) ?_
      refine c_pnClone (hxN _) ?_
      refine gq33 (gqc0 g0 (gqc0 (show (false == false) = true from rfl) (gqc0 (show (true == true) = true from rfl) (gqc0 (show ((0 : Int) != 0) = false from rfl) (gqc0 (show ((0 : Int) == 0) = true from rfl) (gqc0 (show IntKind.i64.wrap (0 + 0) = 0 from rfl) (gqc0 (show (((0 : Nat) : Int)) = 0 from rfl) (gqc0 (show IntKind.i64.wrap (0 + 1) = 1 from rfl) (show IntKind.i64.wrap (1 + 1) = 2 from rfl))))))))) ?_
      exact Again.next h0 ⟨rfl, _, rfl⟩
  · have hd : decide ((k : Int) < ((2 - 0 : Nat) : Int)) = false := by simp; omega
    refine gq17 (gqc0 hd g0) ?_
    obtain ⟨S1, hS1⟩ : ∃ S1, S0 ++ T = S1 := ⟨_, rfl⟩
    rw [hS1]
    refine c_poolNew ?_
    obtain ⟨S2, hS2⟩ : ∃ S2, S1 ++ [poolO noPool] = S2 := ⟨_, rfl⟩
    have l2 : S2.length = S1.length + 1 := by rw [← hS2]; simp
    have p2 : ∀ τ, (S2 ++ τ)[S1.length]? = some (poolO noPool) := fun τ => get_left (by rw [← hS2, get_app0]; rfl)
    rw [hS2]
    refine gq27 ?_
    obtain ⟨S3, hS3⟩ : ∃ S3, S2 ++ [AObj.row 0 1 [AV.d (D.int IntKind.u8 7)], AObj.row 0 1 [AV.rsl S2.length 0 1 0 1], AObj.box (sgX (S2.length + 1) 0)] = S3 := ⟨_, rfl⟩
    have r3 : Rec1 0 S3 (S2.length + 1) 0 S2.length 0 7 := ⟨by omega, by omega, by rw [← hS3, get_app]; rfl, by rw [← hS3, get_app0]; rfl⟩
    have b3 : S3[S2.length + 2]? = some (.box (sgX (S2.length + 1) 0)) := by rw [← hS3, get_app]; rfl
    have p3 : S3[S1.length]? = some (poolO noPool) := by rw [← hS3]; exact p2 _
    rw [hS3]
    refine c_putOne p3 r3 fun S4 p4 o4 => ?_
    have b4 := o4 _ _ (by omega) b3
    have y4 := o4 _ _ (by omega) r3.2.2.1
    have z4 := o4 _ _ (by omega) r3.2.2.2
    refine gq34 (gqc0 y4 (gqc0 z4 (show (false == false) = true from rfl))) ?_
    obtain ⟨S5, hS5⟩ : ∃ S5, S4.set S2.length (AObj.row 0 1 [AV.d (D.int IntKind.u8 8)]) = S5 := ⟨_, rfl⟩
    have p5 : ∀ τ, (S5 ++ τ)[S1.length]? = some (poolO p7) := fun τ => get_left (by rw [← hS5, List.getElem?_set_ne (by omega)]; exact p4)
    have p5' : S5[S1.length]? = some (poolO p7) := by have := p5 []; rwa [List.append_nil] at this
    have l5 : S1.length < S5.length := lt_len p5'
    rw [hS5]
    refine c_waitOne p5' fun T1 t1 q1 B1 => ?_
    obtain ⟨S6, hS6⟩ : ∃ S6, S5 ++ T1 = S6 := ⟨_, rfl⟩
    have l6 : S5.length ≤ S6.length := by rw [← hS6]; simp
    have p6 : S6[S1.length]? = some (poolO p7) := by rw [← hS6]; exact p5 _
    rw [hS6] at B1 ⊢
    refine gq16 ?_
    refine c_pickOne p6 fun T2 t2 q2 B2 => ?_
    obtain ⟨S7, hS7⟩ : ∃ S7, S6 ++ T2 = S7 := ⟨_, rfl⟩
    have l7 : S6.length ≤ S7.length := by rw [← hS7]; simp
    have p7' : S7[S1.length]? = some (poolO p7) := by rw [← hS7]; exact get_left p6
    have B1' : BB S5.length S6.length S7 t1 q1 := by rw [← hS7]; exact B1.BB.app _
    rw [hS7] at B2 ⊢
    refine gq16 ?_
    refine c_plainOne p7' fun T3 t3 q3 B3 => ?_
    obtain ⟨S8, hS8⟩ : ∃ S8, S7 ++ T3 = S8 := ⟨_, rfl⟩
    have l8 : S7.length ≤ S8.length := by rw [← hS8]; simp
    have p8 : ∀ τ, (S8 ++ τ)[S1.length]? = some (poolO p7) := fun τ => by rw [← hS8, List.append_assoc]; exact get_left p7'
    have C1 : ∀ τ, BB S5.length S6.length (S8 ++ τ) t1 q1 := fun τ => by rw [← hS8, List.append_assoc]; exact B1'.app _
    have C2 : ∀ τ, BB S6.length S7.length (S8 ++ τ) t2 q2 := fun τ => by rw [← hS8, List.append_assoc]; exact B2.BB.app _
    have C3 : ∀ τ, BB S7.length S8.length (S8 ++ τ) t3 q3 := fun τ => by rw [hS8] at B3; exact B3.BB.app _
    rw [hS8]
    refine gq27 ?_
    refine loopC_count 3 (fun k vs S => vs = [.d (.int .i64 k)] ∧ S[S1.length]? = some (poolO p7) ∧ S[S8.length]? = some (.row 0 1 [.rsl t1 q1 9 0 1, .rsl t2 q2 9 0 1, .rsl t3 q3 9 0 1]) ∧
      (k ≤ 0 → BB S5.length S6.length S t1 q1) ∧ (k ≤ 1 → BB S6.length S7.length S t2 q2) ∧ (k ≤ 2 → BB S7.length S8.length S t3 q3)) ⟨rfl, p8 _, by rw [get_app0]; rfl, fun _ => C1 _, fun _ => C2 _, fun _ => C3 _⟩ ?_
    rintro k vs S hk ⟨rfl, hp, hr, D1, D2, D3⟩
    by_cases hlt : k < 3
    · have hd : decide ((k : Int) < ((3 : Nat) : Int)) = true := by simp; omega
      obtain ⟨lo, hi, tb, gb, hrow, hB, hlo, hhi, hh0, hh1⟩ : ∃ lo hi tb gb, [AV.rsl t1 q1 9 0 1, AV.rsl t2 q2 9 0 1, AV.rsl t3 q3 9 0 1][k]? = some (.rsl tb gb 9 0 1) ∧ BB lo hi S tb gb ∧ S5.length ≤ lo ∧ hi ≤ S8.length ∧ (k = 0 → hi ≤ S6.length) ∧ (k ≤ 1 → hi ≤ S7.length) := by
        match k, hlt with
        | 0, _ => exact ⟨_, _, _, _, rfl, D1 (by omega), by omega, by omega, by omega, by omega⟩
        | 1, _ => exact ⟨_, _, _, _, rfl, D2 (by omega), by omega, by omega, by omega, by omega⟩
        | 2, _ => exact ⟨_, _, _, _, rfl, D3 (by omega), by omega, by omega, by omega, by omega⟩
      obtain ⟨tr, gr, ty, gy, i1, i2, i3, i4, i5, i6⟩ := hB
      refine gq35 (gqc0 hd (gqc0 hr (gqc0 hrow (gqc0 i4 (gqc0 i5 (gqc0 i6 (gqc0 (show (((1 : Nat) : Int) != 1) = false from rfl) (gqc0 (show ((1 : Int) != 1) = false from rfl) (gqc0 (show ((7 : Int) != 7) = false from rfl) (gqc0 (show (false == false) = true from rfl) (wk1 k (by omega)))))))))))) ?_
      refine Again.next hlt ⟨rfl, by rw [List.getElem?_set_ne (by omega)]; exact hp, by rw [List.getElem?_set_ne (by omega)]; exact hr, fun h => by omega, fun h => (D2 (by omega)).set (.inl ?_), fun h => (D3 (by omega)).set (.inl ?_)⟩
      · have := hh0 (by omega); omega
      · have := hh1 (by omega); omega
    · have hd : decide ((k : Int) < ((3 : Nat) : Int)) = false := by simp; omega
      refine gq17 hd ?_
      refine c_ofOne hp fun SA tr gr ty gy hR => ?_
      have f1 : ∀ τ, (SA ++ τ)[tr]? = _ := fun τ => get_left hR.2.2.1
      have f2 : ∀ τ, (SA ++ τ)[ty]? = _ := fun τ => get_left hR.2.2.2
      refine gq31 (gqc0 f1 (gqc0 f2 (gqc0 (show ((7 : Int) == 7) = true from rfl) (show (true == true) = true from rfl)))) ?_
      exact ends_takeP (by rw [← hσ]; rfl) (by simp [Low_d, dmT, dm, dm1, pack]) hl rfl
end Go.Proofs.Ytnfienilahfdjaa

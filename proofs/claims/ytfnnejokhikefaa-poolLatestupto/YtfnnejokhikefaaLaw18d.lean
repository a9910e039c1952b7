/- The law PoolLatest, from the contracts. -/
import Derived.Test.YtfnnejokhikefaaLaw18b
import Derived.Test.YtfnnejokhikefaaSpPool3
set_option linter.all false
set_option maxRecDepth 100000
set_option linter.unusedSimpArgs false
set_option linter.unusedVariables false
namespace Go.Proofs.Ytfnnejokhikefaa
open Go.AW

theorem ints_splice {l : List Int} {i : Nat} (a : Int) (h : i < l.length) : List.take i (intsC l) ++ .d (.int .i64 a) :: List.drop (i + 1) (intsC l) = intsC (l.set i a) := by
  rw [take_set_drop (by simpa using h)]
  exact intsC_set l i a
def pars_PoolLatest : List (Bool × List Ty) := [(false, [.slice tyStep])]
theorem law_PoolLatest (xs : List AV) (n : Nat) (hn : n ≤ 1048576) (h : ArgsOk pars_PoolLatest xs n) : ACall Try.prog n_l18_PoolLatest xs [] fun r _ => r = .d (.bool true) := by
  obtain ⟨ds, xs1, m1, hf, hb1, rfl, rfl⟩ := h
  obtain ⟨l, rfl, hl1, hl2⟩ := args_steps (l := .undef) hn hf hb1
  show ACall Try.prog n_l18_PoolLatest [.d (.slice (stepsE l))] [] _
  clear hf hb1
  generalize ([] : List AObj) = σ
  refine acall_of isA_l18_PoolLatest rfl fun hl _ => s_l18_PoolLatest ?_
  simp only [S_l18_PoolLatest]
  (repeat' (first | simp -dsimp only [↓acallL, ↓loopL, ↓binC, ↓unC, ↓condC_b, ↓guardC_T, ↓guardC_F, ↓guardC_0, ↓pickC_b, ↓lenC, ↓slcC, ↓convC, ↓boxC, ↓allocC, ↓loadC, ↓storeC, ↓nilC, ↓faddrC, ↓fieldC, ↓iaddrC, ↓idxSC, ↓idxAC, ↓extractC, ↓buildC, ↓mksliceC, ↓appendC, ↓isnilC, ↓maxC, ↓minC, ↓callvC, ↓mkmapC, ↓mgetC, ↓msetC, ↓mdelC, ↓headC_cons, ↓rangeC, ↓BBL_true, ↓BBL_false, ↓BBL_not, binA, intOp, strOp, unA, esOf, bnd, intV, cellsA, fillV, srcE, dm, dm1, consO, cellA, maxL, minL, keepO, Q0, Q1, Q2, Q3, Q4, Q5, len_app, get_app, get_app0, set_app, set_app0, Q6, Q7, Q8, Q9, Q10, Q11, Q12, Q13, Q14, Nat.reduceAdd, Q15, Int.reduceToNat, Q16, Q17, Q18, Q19, Q20, reduceIte, Q21, Q22, recsE_len, rep, splice, toDs, toD, chunks, Q23, Q24, Q25, Q26, Q27, Q28, Nat.reduceLeDiff, Q29, Nat.reduceSub, Q30, Q31, Q32, sc, Q33, Q34, Q35, Q36, Q37, Q26, Q38, Q39, n0gt, n1gt, n2gt, n0eq, n1eq0, n1eq, n2eq, n0ne, n1ne, n1ne0, n0ne1, i0ne, i0eq, Bool.not_true, Bool.not_false, List.length_map, beq_self_eq_true, bne_self_eq_false] | ((with_reducible refine And.intro ?_ ?_); focus (first | omega | rfl | decide | (simp; done)))))
  refine c_poolNew ?_
  (repeat' (first | simp -dsimp only [↓acallL, ↓loopL, ↓binC, ↓unC, ↓condC_b, ↓guardC_T, ↓guardC_F, ↓guardC_0, ↓pickC_b, ↓lenC, ↓slcC, ↓convC, ↓boxC, ↓allocC, ↓loadC, ↓storeC, ↓nilC, ↓faddrC, ↓fieldC, ↓iaddrC, ↓idxSC, ↓idxAC, ↓extractC, ↓buildC, ↓mksliceC, ↓appendC, ↓isnilC, ↓maxC, ↓minC, ↓callvC, ↓mkmapC, ↓mgetC, ↓msetC, ↓mdelC, ↓headC_cons, ↓rangeC, ↓BBL_true, ↓BBL_false, ↓BBL_not, binA, intOp, strOp, unA, esOf, bnd, intV, cellsA, fillV, srcE, dm, dm1, consO, cellA, maxL, minL, keepO, Q0, Q1, Q2, Q3, Q4, Q5, len_app, get_app, get_app0, set_app, set_app0, Q6, Q7, Q8, Q9, Q10, Q11, Q12, Q13, Q14, Nat.reduceAdd, Q15, Int.reduceToNat, Q16, Q17, Q18, Q19, Q20, reduceIte, Q21, Q22, recsE_len, rep, splice, toDs, toD, chunks, Q23, Q24, Q25, Q26, Q27, Q28, Nat.reduceLeDiff, Q29, Nat.reduceSub, Q30, Q31, Q32, sc, Q33, Q34, Q35, Q36, Q37, Q26, Q38, Q39, n0gt, n1gt, n2gt, n0eq, n1eq0, n1eq, n2eq, n0ne, n1ne, n1ne0, n0ne1, i0ne, i0eq, Bool.not_true, Bool.not_false, List.length_map, beq_self_eq_true, bne_self_eq_false] | ((with_reducible refine And.intro ?_ ?_); focus (first | omega | rfl | decide | (simp; done)))))
  refine c_begun ?_
  (repeat' (first | simp -dsimp only [↓acallL, ↓loopL, ↓binC, ↓unC, ↓condC_b, ↓guardC_T, ↓guardC_F, ↓guardC_0, ↓pickC_b, ↓lenC, ↓slcC, ↓convC, ↓boxC, ↓allocC, ↓loadC, ↓storeC, ↓nilC, ↓faddrC, ↓fieldC, ↓iaddrC, ↓idxSC, ↓idxAC, ↓extractC, ↓buildC, ↓mksliceC, ↓appendC, ↓isnilC, ↓maxC, ↓minC, ↓callvC, ↓mkmapC, ↓mgetC, ↓msetC, ↓mdelC, ↓headC_cons, ↓rangeC, ↓BBL_true, ↓BBL_false, ↓BBL_not, binA, intOp, strOp, unA, esOf, bnd, intV, cellsA, fillV, srcE, dm, dm1, consO, cellA, maxL, minL, keepO, Q0, Q1, Q2, Q3, Q4, Q5, len_app, get_app, get_app0, set_app, set_app0, Q6, Q7, Q8, Q9, Q10, Q11, Q12, Q13, Q14, Nat.reduceAdd, Q15, Int.reduceToNat, Q16, Q17, Q18, Q19, Q20, reduceIte, Q21, Q22, recsE_len, rep, splice, toDs, toD, chunks, Q23, Q24, Q25, Q26, Q27, Q28, Nat.reduceLeDiff, Q29, Nat.reduceSub, Q30, Q31, Q32, sc, Q33, Q34, Q35, Q36, Q37, Q26, Q38, Q39, n0gt, n1gt, n2gt, n0eq, n1eq0, n1eq, n2eq, n0ne, n1ne, n1ne0, n0ne1, i0ne, i0eq, Bool.not_true, Bool.not_false, List.length_map, beq_self_eq_true, bne_self_eq_false] | ((with_reducible refine And.intro ?_ ?_); focus (first | omega | rfl | decide | (simp; done)))))
  refine loopC_count l.length (fun k vs s => ∃ q lat dn T, vs = [.d (.int .i64 k)] ∧ PoolI q ∧ LatI q lat dn ∧ s = σ ++ (poolO q :: .box (intsC lat) :: .box (intsC dn) :: T)) ⟨noPool, lat0, lat0, [], rfl, noPool_I, lat0_I, rfl⟩ ?_
  rintro k vs S hk ⟨q, lat, dn, T, rfl, hq, hL, rfl⟩
  have hll := hL.ll
  have hld := hL.ld
  have hcl : (intsC lat).length = 8 := by simp [hll]
  have hcd : (intsC dn).length = 8 := by simp [hld]
  by_cases hlt : k < l.length
  · have hd : decide ((k : Int) < (l.length : Int)) = true := by simp; omega
    have hx : l[k]? = some l[k] := by simp [hlt]
    have hxo := (hl2 _ (List.getElem_mem hlt)).1
    have hgx := map_get (f := stepD) hx
    obtain ⟨x, hxe⟩ : ∃ x, l[k] = x := ⟨_, rfl⟩
    rw [hxe] at hx hgx hxo
    cases h0 : (x.what == 1)
    · (repeat' (first | simp -dsimp only [↓acallL, ↓loopL, ↓binC, ↓unC, ↓condC_b, ↓guardC_T, ↓guardC_F, ↓guardC_0, ↓pickC_b, ↓lenC, ↓slcC, ↓convC, ↓boxC, ↓allocC, ↓loadC, ↓storeC, ↓nilC, ↓faddrC, ↓fieldC, ↓iaddrC, ↓idxSC, ↓idxAC, ↓extractC, ↓buildC, ↓mksliceC, ↓appendC, ↓isnilC, ↓maxC, ↓minC, ↓callvC, ↓mkmapC, ↓mgetC, ↓msetC, ↓mdelC, ↓headC_cons, ↓rangeC, ↓BBL_true, ↓BBL_false, ↓BBL_not, binA, intOp, strOp, unA, esOf, bnd, intV, cellsA, fillV, srcE, dm, dm1, consO, cellA, maxL, minL, keepO, Q0, Q1, Q2, Q3, Q4, Q5, len_app, get_app, get_app0, set_app, set_app0, Q6, Q7, Q8, Q9, Q10, Q11, Q12, Q13, Q14, Nat.reduceAdd, Q15, Int.reduceToNat, Q16, Q17, Q18, Q19, Q20, reduceIte, Q21, Q22, recsE_len, rep, splice, toDs, toD, chunks, Q23, Q24, Q25, Q26, Q27, Q28, Nat.reduceLeDiff, Q29, Nat.reduceSub, Q30, Q31, Q32, sc, Q33, Q34, Q35, Q36, Q37, Q26, Q38, Q39, n0gt, n1gt, n2gt, n0eq, n1eq0, n1eq, n2eq, n0ne, n1ne, n1ne0, n0ne1, i0ne, i0eq, Bool.not_true, Bool.not_false, List.length_map, hd, hgx, stepD, h0] | ((with_reducible refine And.intro ?_ ?_); focus (first | omega | rfl | decide | (simp; done)))))
      refine c_rCheckBatch (b := [x.s]) ⟨by simp, by simpa using hxo⟩ ?_
      cases h1 : (checkBatchF [x.s] != 0)
      · have h1' : checkBatchF [x.s] = 0 := by simpa using h1
        obtain ⟨c0, c8, _⟩ := one_ok h1'
        have hal : lat[x.s.client.toNat]? = some (lat[x.s.client.toNat]'(by omega)) := List.getElem?_eq_getElem _
        have had : dn[x.s.client.toNat]? = some (dn[x.s.client.toNat]'(by omega)) := List.getElem?_eq_getElem _
        obtain ⟨a, hae⟩ : ∃ a, (lat[x.s.client.toNat]'(by omega)) = a := ⟨_, rfl⟩
        obtain ⟨d, hde⟩ : ∃ d, (dn[x.s.client.toNat]'(by omega)) = d := ⟨_, rfl⟩
        rw [hae] at hal
        rw [hde] at had
        obtain ⟨p1, p2, p3⟩ := hL.put hq h1' hal had
        have gl := intsC_get hal
        have gd := intsC_get had
        have sl := ints_splice (l := lat) (i := x.s.client.toNat) x.s.time (by omega)
        have sd := ints_splice (l := dn) (i := x.s.client.toNat) 0 (by omega)
        have hb1 : 0 ≤ x.s.client := c0
        have hb2 : x.s.client < 8 := c8
        (repeat' (first | simp -dsimp only [↓acallL, ↓loopL, ↓binC, ↓unC, ↓condC_b, ↓guardC_T, ↓guardC_F, ↓guardC_0, ↓pickC_b, ↓lenC, ↓slcC, ↓convC, ↓boxC, ↓allocC, ↓loadC, ↓storeC, ↓nilC, ↓faddrC, ↓fieldC, ↓iaddrC, ↓idxSC, ↓idxAC, ↓extractC, ↓buildC, ↓mksliceC, ↓appendC, ↓isnilC, ↓maxC, ↓minC, ↓callvC, ↓mkmapC, ↓mgetC, ↓msetC, ↓mdelC, ↓headC_cons, ↓rangeC, ↓BBL_true, ↓BBL_false, ↓BBL_not, binA, intOp, strOp, unA, esOf, bnd, intV, cellsA, fillV, srcE, dm, dm1, consO, cellA, maxL, minL, keepO, Q0, Q1, Q2, Q3, Q4, Q5, len_app, get_app, get_app0, set_app, set_app0, Q6, Q7, Q8, Q9, Q10, Q11, Q12, Q13, Q14, Nat.reduceAdd, Q15, Int.reduceToNat, Q16, Q17, Q18, Q19, Q20, reduceIte, Q21, Q22, recsE_len, rep, splice, toDs, toD, chunks, Q23, Q24, Q25, Q26, Q27, Q28, Nat.reduceLeDiff, Q29, Nat.reduceSub, Q30, Q31, Q32, sc, Q33, Q34, Q35, Q36, Q37, Q26, Q38, Q39, n0gt, n1gt, n2gt, n0eq, n1eq0, n1eq, n2eq, n0ne, n1ne, n1ne0, n0ne1, i0ne, i0eq, Bool.not_true, Bool.not_false, List.length_map, h1] | ((with_reducible refine And.intro ?_ ?_); focus (first | omega | rfl | decide | (simp; done)))))
        refine c_poolPut (id := σ.length) (x := x.s) (by rw [get_app0]; rfl) hq hxo ?_
        have hq' := hq.put (x := x.s) hxo
        cases hp : canPut q x.s
        · rw [p3 hp]
          rw [hp] at p1
          simp only [Bool.or_eq_false_iff, eq_comm (a := false)] at p1
          have p4 := p1.1
          have p5 := p1.2
          (repeat' (first | simp -dsimp only [↓acallL, ↓loopL, ↓binC, ↓unC, ↓condC_b, ↓guardC_T, ↓guardC_F, ↓guardC_0, ↓pickC_b, ↓lenC, ↓slcC, ↓convC, ↓boxC, ↓allocC, ↓loadC, ↓storeC, ↓nilC, ↓faddrC, ↓fieldC, ↓iaddrC, ↓idxSC, ↓idxAC, ↓extractC, ↓buildC, ↓mksliceC, ↓appendC, ↓isnilC, ↓maxC, ↓minC, ↓callvC, ↓mkmapC, ↓mgetC, ↓msetC, ↓mdelC, ↓headC_cons, ↓rangeC, ↓BBL_true, ↓BBL_false, ↓BBL_not, binA, intOp, strOp, unA, esOf, bnd, intV, cellsA, fillV, srcE, dm, dm1, consO, cellA, maxL, minL, keepO, Q0, Q1, Q2, Q3, Q4, Q5, len_app, get_app, get_app0, set_app, set_app0, Q6, Q7, Q8, Q9, Q10, Q11, Q12, Q13, Q14, Nat.reduceAdd, Q15, Int.reduceToNat, Q16, Q17, Q18, Q19, Q20, reduceIte, Q21, Q22, recsE_len, rep, splice, toDs, toD, chunks, Q23, Q24, Q25, Q26, Q27, Q28, Nat.reduceLeDiff, Q29, Nat.reduceSub, Q30, Q31, Q32, sc, Q33, Q34, Q35, Q36, Q37, Q26, Q38, Q39, n0gt, n1gt, n2gt, n0eq, n1eq0, n1eq, n2eq, n0ne, n1ne, n1ne0, n0ne1, i0ne, i0eq, Bool.not_true, Bool.not_false, List.length_map, gl, gd, p4, p5, hcl, hcd, wk1 k (by omega)] | ((with_reducible refine And.intro ?_ ?_); focus (first | omega | rfl | decide | (simp; done)))))
          exact Again.next hlt ⟨q, lat, dn, _, rfl, hq, hL, rfl⟩
        · have hL' := p2 hp
          rw [hp] at p1
          cases p4 : (d == a)
          · rw [p4, Bool.false_or] at p1
            have p5 := p1.symm
            (repeat' (first | simp -dsimp only [↓acallL, ↓loopL, ↓binC, ↓unC, ↓condC_b, ↓guardC_T, ↓guardC_F, ↓guardC_0, ↓pickC_b, ↓lenC, ↓slcC, ↓convC, ↓boxC, ↓allocC, ↓loadC, ↓storeC, ↓nilC, ↓faddrC, ↓fieldC, ↓iaddrC, ↓idxSC, ↓idxAC, ↓extractC, ↓buildC, ↓mksliceC, ↓appendC, ↓isnilC, ↓maxC, ↓minC, ↓callvC, ↓mkmapC, ↓mgetC, ↓msetC, ↓mdelC, ↓headC_cons, ↓rangeC, ↓BBL_true, ↓BBL_false, ↓BBL_not, binA, intOp, strOp, unA, esOf, bnd, intV, cellsA, fillV, srcE, dm, dm1, consO, cellA, maxL, minL, keepO, Q0, Q1, Q2, Q3, Q4, Q5, len_app, get_app, get_app0, set_app, set_app0, Q6, Q7, Q8, Q9, Q10, Q11, Q12, Q13, Q14, Nat.reduceAdd, Q15, Int.reduceToNat, Q16, Q17, Q18, Q19, Q20, reduceIte, Q21, Q22, recsE_len, rep, splice, toDs, toD, chunks, Q23, Q24, Q25, Q26, Q27, Q28, Nat.reduceLeDiff, Q29, Nat.reduceSub, Q30, Q31, Q32, sc, Q33, Q34, Q35, Q36, Q37, Q26, Q38, Q39, n0gt, n1gt, n2gt, n0eq, n1eq0, n1eq, n2eq, n0ne, n1ne, n1ne0, n0ne1, i0ne, i0eq, Bool.not_true, Bool.not_false, List.length_map, gl, gd, p4, p5, hcl, hcd, sl, sd, wk1 k (by omega)] | ((with_reducible refine And.intro ?_ ?_); focus (first | omega | rfl | decide | (simp; done)))))
            exact Again.next hlt ⟨_, _, _, _, rfl, hq', hL', rfl⟩
          · (repeat' (first | simp -dsimp only [↓acallL, ↓loopL, ↓binC, ↓unC, ↓condC_b, ↓guardC_T, ↓guardC_F, ↓guardC_0, ↓pickC_b, ↓lenC, ↓slcC, ↓convC, ↓boxC, ↓allocC, ↓loadC, ↓storeC, ↓nilC, ↓faddrC, ↓fieldC, ↓iaddrC, ↓idxSC, ↓idxAC, ↓extractC, ↓buildC, ↓mksliceC, ↓appendC, ↓isnilC, ↓maxC, ↓minC, ↓callvC, ↓mkmapC, ↓mgetC, ↓msetC, ↓mdelC, ↓headC_cons, ↓rangeC, ↓BBL_true, ↓BBL_false, ↓BBL_not, binA, intOp, strOp, unA, esOf, bnd, intV, cellsA, fillV, srcE, dm, dm1, consO, cellA, maxL, minL, keepO, Q0, Q1, Q2, Q3, Q4, Q5, len_app, get_app, get_app0, set_app, set_app0, Q6, Q7, Q8, Q9, Q10, Q11, Q12, Q13, Q14, Nat.reduceAdd, Q15, Int.reduceToNat, Q16, Q17, Q18, Q19, Q20, reduceIte, Q21, Q22, recsE_len, rep, splice, toDs, toD, chunks, Q23, Q24, Q25, Q26, Q27, Q28, Nat.reduceLeDiff, Q29, Nat.reduceSub, Q30, Q31, Q32, sc, Q33, Q34, Q35, Q36, Q37, Q26, Q38, Q39, n0gt, n1gt, n2gt, n0eq, n1eq0, n1eq, n2eq, n0ne, n1ne, n1ne0, n0ne1, i0ne, i0eq, Bool.not_true, Bool.not_false, List.length_map, gl, gd, p4, hcl, hcd, sl, sd, wk1 k (by omega)] | ((with_reducible refine And.intro ?_ ?_); focus (first | omega | rfl | decide | (simp; done)))))
            exact Again.next hlt ⟨_, _, _, _, rfl, hq', hL', rfl⟩
      · have hno : canPut q x.s = false := by simp [canPut]; intro h; simp [h] at h1
        (repeat' (first | simp -dsimp only [↓acallL, ↓loopL, ↓binC, ↓unC, ↓condC_b, ↓guardC_T, ↓guardC_F, ↓guardC_0, ↓pickC_b, ↓lenC, ↓slcC, ↓convC, ↓boxC, ↓allocC, ↓loadC, ↓storeC, ↓nilC, ↓faddrC, ↓fieldC, ↓iaddrC, ↓idxSC, ↓idxAC, ↓extractC, ↓buildC, ↓mksliceC, ↓appendC, ↓isnilC, ↓maxC, ↓minC, ↓callvC, ↓mkmapC, ↓mgetC, ↓msetC, ↓mdelC, ↓headC_cons, ↓rangeC, ↓BBL_true, ↓BBL_false, ↓BBL_not, binA, intOp, strOp, unA, esOf, bnd, intV, cellsA, fillV, srcE, dm, dm1, consO, cellA, maxL, minL, keepO, Q0, Q1, Q2, Q3, Q4, Q5, len_app, get_app, get_app0, set_app, set_app0, Q6, Q7, Q8, Q9, Q10, Q11, Q12, Q13, Q14, Nat.reduceAdd, Q15, Int.reduceToNat, Q16, Q17, Q18, Q19, Q20, reduceIte, Q21, Q22, recsE_len, rep, splice, toDs, toD, chunks, Q23, Q24, Q25, Q26, Q27, Q28, Nat.reduceLeDiff, Q29, Nat.reduceSub, Q30, Q31, Q32, sc, Q33, Q34, Q35, Q36, Q37, Q26, Q38, Q39, n0gt, n1gt, n2gt, n0eq, n1eq0, n1eq, n2eq, n0ne, n1ne, n1ne0, n0ne1, i0ne, i0eq, Bool.not_true, Bool.not_false, List.length_map, h1] | ((with_reducible refine And.intro ?_ ?_); focus (first | omega | rfl | decide | (simp; done)))))
        refine c_poolPut (id := σ.length) (x := x.s) (by rw [get_app0]; rfl) hq hxo ?_
        rw [show putQ q x.s = q from by simp [putQ, hno], hno]
        (repeat' (first | simp -dsimp only [↓acallL, ↓loopL, ↓binC, ↓unC, ↓condC_b, ↓guardC_T, ↓guardC_F, ↓guardC_0, ↓pickC_b, ↓lenC, ↓slcC, ↓convC, ↓boxC, ↓allocC, ↓loadC, ↓storeC, ↓nilC, ↓faddrC, ↓fieldC, ↓iaddrC, ↓idxSC, ↓idxAC, ↓extractC, ↓buildC, ↓mksliceC, ↓appendC, ↓isnilC, ↓maxC, ↓minC, ↓callvC, ↓mkmapC, ↓mgetC, ↓msetC, ↓mdelC, ↓headC_cons, ↓rangeC, ↓BBL_true, ↓BBL_false, ↓BBL_not, binA, intOp, strOp, unA, esOf, bnd, intV, cellsA, fillV, srcE, dm, dm1, consO, cellA, maxL, minL, keepO, Q0, Q1, Q2, Q3, Q4, Q5, len_app, get_app, get_app0, set_app, set_app0, Q6, Q7, Q8, Q9, Q10, Q11, Q12, Q13, Q14, Nat.reduceAdd, Q15, Int.reduceToNat, Q16, Q17, Q18, Q19, Q20, reduceIte, Q21, Q22, recsE_len, rep, splice, toDs, toD, chunks, Q23, Q24, Q25, Q26, Q27, Q28, Nat.reduceLeDiff, Q29, Nat.reduceSub, Q30, Q31, Q32, sc, Q33, Q34, Q35, Q36, Q37, Q26, Q38, Q39, n0gt, n1gt, n2gt, n0eq, n1eq0, n1eq, n2eq, n0ne, n1ne, n1ne0, n0ne1, i0ne, i0eq, Bool.not_true, Bool.not_false, List.length_map, wk1 k (by omega)] | ((with_reducible refine And.intro ?_ ?_); focus (first | omega | rfl | decide | (simp; done)))))
        exact Again.next hlt ⟨q, lat, dn, _, rfl, hq, hL, rfl⟩
    · (repeat' (first | simp -dsimp only [↓acallL, ↓loopL, ↓binC, ↓unC, ↓condC_b, ↓guardC_T, ↓guardC_F, ↓guardC_0, ↓pickC_b, ↓lenC, ↓slcC, ↓convC, ↓boxC, ↓allocC, ↓loadC, ↓storeC, ↓nilC, ↓faddrC, ↓fieldC, ↓iaddrC, ↓idxSC, ↓idxAC, ↓extractC, ↓buildC, ↓mksliceC, ↓appendC, ↓isnilC, ↓maxC, ↓minC, ↓callvC, ↓mkmapC, ↓mgetC, ↓msetC, ↓mdelC, ↓headC_cons, ↓rangeC, ↓BBL_true, ↓BBL_false, ↓BBL_not, binA, intOp, strOp, unA, esOf, bnd, intV, cellsA, fillV, srcE, dm, dm1, consO, cellA, maxL, minL, keepO, Q0, Q1, Q2, Q3, Q4, Q5, len_app, get_app, get_app0, set_app, set_app0, Q6, Q7, Q8, Q9, Q10, Q11, Q12, Q13, Q14, Nat.reduceAdd, Q15, Int.reduceToNat, Q16, Q17, Q18, Q19, Q20, reduceIte, Q21, Q22, recsE_len, rep, splice, toDs, toD, chunks, Q23, Q24, Q25, Q26, Q27, Q28, Nat.reduceLeDiff, Q29, Nat.reduceSub, Q30, Q31, Q32, sc, Q33, Q34, Q35, Q36, Q37, Q26, Q38, Q39, n0gt, n1gt, n2gt, n0eq, n1eq0, n1eq, n2eq, n0ne, n1ne, n1ne0, n0ne1, i0ne, i0eq, Bool.not_true, Bool.not_false, List.length_map, hd, hgx, stepD, h0] | ((with_reducible refine And.intro ?_ ?_); focus (first | omega | rfl | decide | (simp; done)))))
      refine c_poolDone (id := σ.length) (by rw [get_app0]; rfl) hq ?_
      have hq' := hq.done (c := x.client) (t := x.time)
      cases c0 : decide (x.client ≥ 0)
      · (repeat' (first | simp -dsimp only [↓acallL, ↓loopL, ↓binC, ↓unC, ↓condC_b, ↓guardC_T, ↓guardC_F, ↓guardC_0, ↓pickC_b, ↓lenC, ↓slcC, ↓convC, ↓boxC, ↓allocC, ↓loadC, ↓storeC, ↓nilC, ↓faddrC, ↓fieldC, ↓iaddrC, ↓idxSC, ↓idxAC, ↓extractC, ↓buildC, ↓mksliceC, ↓appendC, ↓isnilC, ↓maxC, ↓minC, ↓callvC, ↓mkmapC, ↓mgetC, ↓msetC, ↓mdelC, ↓headC_cons, ↓rangeC, ↓BBL_true, ↓BBL_false, ↓BBL_not, binA, intOp, strOp, unA, esOf, bnd, intV, cellsA, fillV, srcE, dm, dm1, consO, cellA, maxL, minL, keepO, Q0, Q1, Q2, Q3, Q4, Q5, len_app, get_app, get_app0, set_app, set_app0, Q6, Q7, Q8, Q9, Q10, Q11, Q12, Q13, Q14, Nat.reduceAdd, Q15, Int.reduceToNat, Q16, Q17, Q18, Q19, Q20, reduceIte, Q21, Q22, recsE_len, rep, splice, toDs, toD, chunks, Q23, Q24, Q25, Q26, Q27, Q28, Nat.reduceLeDiff, Q29, Nat.reduceSub, Q30, Q31, Q32, sc, Q33, Q34, Q35, Q36, Q37, Q26, Q38, Q39, n0gt, n1gt, n2gt, n0eq, n1eq0, n1eq, n2eq, n0ne, n1ne, n1ne0, n0ne1, i0ne, i0eq, Bool.not_true, Bool.not_false, List.length_map, c0, wk1 k (by omega)] | ((with_reducible refine And.intro ?_ ?_); focus (first | omega | rfl | decide | (simp; done)))))
        rw [done_out (by simp at c0; omega)]
        exact Again.next hlt ⟨q, lat, dn, _, rfl, hq, hL, rfl⟩
      · cases c8 : decide (x.client < 8)
        · (repeat' (first | simp -dsimp only [↓acallL, ↓loopL, ↓binC, ↓unC, ↓condC_b, ↓guardC_T, ↓guardC_F, ↓guardC_0, ↓pickC_b, ↓lenC, ↓slcC, ↓convC, ↓boxC, ↓allocC, ↓loadC, ↓storeC, ↓nilC, ↓faddrC, ↓fieldC, ↓iaddrC, ↓idxSC, ↓idxAC, ↓extractC, ↓buildC, ↓mksliceC, ↓appendC, ↓isnilC, ↓maxC, ↓minC, ↓callvC, ↓mkmapC, ↓mgetC, ↓msetC, ↓mdelC, ↓headC_cons, ↓rangeC, ↓BBL_true, ↓BBL_false, ↓BBL_not, binA, intOp, strOp, unA, esOf, bnd, intV, cellsA, fillV, srcE, dm, dm1, consO, cellA, maxL, minL, keepO, Q0, Q1, Q2, Q3, Q4, Q5, len_app, get_app, get_app0, set_app, set_app0, Q6, Q7, Q8, Q9, Q10, Q11, Q12, Q13, Q14, Nat.reduceAdd, Q15, Int.reduceToNat, Q16, Q17, Q18, Q19, Q20, reduceIte, Q21, Q22, recsE_len, rep, splice, toDs, toD, chunks, Q23, Q24, Q25, Q26, Q27, Q28, Nat.reduceLeDiff, Q29, Nat.reduceSub, Q30, Q31, Q32, sc, Q33, Q34, Q35, Q36, Q37, Q26, Q38, Q39, n0gt, n1gt, n2gt, n0eq, n1eq0, n1eq, n2eq, n0ne, n1ne, n1ne0, n0ne1, i0ne, i0eq, Bool.not_true, Bool.not_false, List.length_map, c0, c8, wk1 k (by omega)] | ((with_reducible refine And.intro ?_ ?_); focus (first | omega | rfl | decide | (simp; done)))))
          rw [done_out (by simp at c8; omega)]
          exact Again.next hlt ⟨q, lat, dn, _, rfl, hq, hL, rfl⟩
        · have hb1 : 0 ≤ x.client := by simpa using c0
          have hb2 : x.client < 8 := by simpa using c8
          have hal : lat[x.client.toNat]? = some (lat[x.client.toNat]'(by omega)) := List.getElem?_eq_getElem _
          obtain ⟨a, hae⟩ : ∃ a, (lat[x.client.toNat]'(by omega)) = a := ⟨_, rfl⟩
          rw [hae] at hal
          have gl := intsC_get hal
          have sd := ints_splice (l := dn) (i := x.client.toNat) a (by omega)
          obtain ⟨d1, d2⟩ := hL.done (t := x.time) hq hb1 hb2 hal
          cases h1 : decide (a ≤ x.time)
          · (repeat' (first | simp -dsimp only [↓acallL, ↓loopL, ↓binC, ↓unC, ↓condC_b, ↓guardC_T, ↓guardC_F, ↓guardC_0, ↓pickC_b, ↓lenC, ↓slcC, ↓convC, ↓boxC, ↓allocC, ↓loadC, ↓storeC, ↓nilC, ↓faddrC, ↓fieldC, ↓iaddrC, ↓idxSC, ↓idxAC, ↓extractC, ↓buildC, ↓mksliceC, ↓appendC, ↓isnilC, ↓maxC, ↓minC, ↓callvC, ↓mkmapC, ↓mgetC, ↓msetC, ↓mdelC, ↓headC_cons, ↓rangeC, ↓BBL_true, ↓BBL_false, ↓BBL_not, binA, intOp, strOp, unA, esOf, bnd, intV, cellsA, fillV, srcE, dm, dm1, consO, cellA, maxL, minL, keepO, Q0, Q1, Q2, Q3, Q4, Q5, len_app, get_app, get_app0, set_app, set_app0, Q6, Q7, Q8, Q9, Q10, Q11, Q12, Q13, Q14, Nat.reduceAdd, Q15, Int.reduceToNat, Q16, Q17, Q18, Q19, Q20, reduceIte, Q21, Q22, recsE_len, rep, splice, toDs, toD, chunks, Q23, Q24, Q25, Q26, Q27, Q28, Nat.reduceLeDiff, Q29, Nat.reduceSub, Q30, Q31, Q32, sc, Q33, Q34, Q35, Q36, Q37, Q26, Q38, Q39, n0gt, n1gt, n2gt, n0eq, n1eq0, n1eq, n2eq, n0ne, n1ne, n1ne0, n0ne1, i0ne, i0eq, Bool.not_true, Bool.not_false, List.length_map, c0, c8, gl, h1, hcl, hcd, wk1 k (by omega)] | ((with_reducible refine And.intro ?_ ?_); focus (first | omega | rfl | decide | (simp; done)))))
            exact Again.next hlt ⟨_, lat, dn, _, rfl, hq', d2 (by simpa using h1), rfl⟩
          · (repeat' (first | simp -dsimp only [↓acallL, ↓loopL, ↓binC, ↓unC, ↓condC_b, ↓guardC_T, ↓guardC_F, ↓guardC_0, ↓pickC_b, ↓lenC, ↓slcC, ↓convC, ↓boxC, ↓allocC, ↓loadC, ↓storeC, ↓nilC, ↓faddrC, ↓fieldC, ↓iaddrC, ↓idxSC, ↓idxAC, ↓extractC, ↓buildC, ↓mksliceC, ↓appendC, ↓isnilC, ↓maxC, ↓minC, ↓callvC, ↓mkmapC, ↓mgetC, ↓msetC, ↓mdelC, ↓headC_cons, ↓rangeC, ↓BBL_true, ↓BBL_false, ↓BBL_not, binA, intOp, strOp, unA, esOf, bnd, intV, cellsA, fillV, srcE, dm, dm1, consO, cellA, maxL, minL, keepO, Q0, Q1, Q2, Q3, Q4, Q5, len_app, get_app, get_app0, set_app, set_app0, Q6, Q7, Q8, Q9, Q10, Q11, Q12, Q13, Q14, Nat.reduceAdd, Q15, Int.reduceToNat, Q16, Q17, Q18, Q19, Q20, reduceIte, Q21, Q22, recsE_len, rep, splice, toDs, toD, chunks, Q23, Q24, Q25, Q26, Q27, Q28, Nat.reduceLeDiff, Q29, Nat.reduceSub, Q30, Q31, Q32, sc, Q33, Q34, Q35, Q36, Q37, Q26, Q38, Q39, n0gt, n1gt, n2gt, n0eq, n1eq0, n1eq, n2eq, n0ne, n1ne, n1ne0, n0ne1, i0ne, i0eq, Bool.not_true, Bool.not_false, List.length_map, c0, c8, gl, h1, hcl, hcd, sd, wk1 k (by omega)] | ((with_reducible refine And.intro ?_ ?_); focus (first | omega | rfl | decide | (simp; done)))))
            exact Again.next hlt ⟨_, _, _, _, rfl, hq', d1 (by simpa using h1), rfl⟩
  · have hd : decide ((k : Int) < (l.length : Int)) = false := by simp; omega
    (repeat' (first | simp -dsimp only [↓acallL, ↓loopL, ↓binC, ↓unC, ↓condC_b, ↓guardC_T, ↓guardC_F, ↓guardC_0, ↓pickC_b, ↓lenC, ↓slcC, ↓convC, ↓boxC, ↓allocC, ↓loadC, ↓storeC, ↓nilC, ↓faddrC, ↓fieldC, ↓iaddrC, ↓idxSC, ↓idxAC, ↓extractC, ↓buildC, ↓mksliceC, ↓appendC, ↓isnilC, ↓maxC, ↓minC, ↓callvC, ↓mkmapC, ↓mgetC, ↓msetC, ↓mdelC, ↓headC_cons, ↓rangeC, ↓BBL_true, ↓BBL_false, ↓BBL_not, binA, intOp, strOp, unA, esOf, bnd, intV, cellsA, fillV, srcE, dm, dm1, consO, cellA, maxL, minL, keepO, Q0, Q1, Q2, Q3, Q4, Q5, len_app, get_app, get_app0, set_app, set_app0, Q6, Q7, Q8, Q9, Q10, Q11, Q12, Q13, Q14, Nat.reduceAdd, Q15, Int.reduceToNat, Q16, Q17, Q18, Q19, Q20, reduceIte, Q21, Q22, recsE_len, rep, splice, toDs, toD, chunks, Q23, Q24, Q25, Q26, Q27, Q28, Nat.reduceLeDiff, Q29, Nat.reduceSub, Q30, Q31, Q32, sc, Q33, Q34, Q35, Q36, Q37, Q26, Q38, Q39, n0gt, n1gt, n2gt, n0eq, n1eq0, n1eq, n2eq, n0ne, n1ne, n1ne0, n0ne1, i0ne, i0eq, Bool.not_true, Bool.not_false, List.length_map, hd] | ((with_reducible refine And.intro ?_ ?_); focus (first | omega | rfl | decide | (simp; done)))))
    refine loopC_count 8 (fun k vs s => ∃ T, vs = [.d (.int .i64 k)] ∧ s = σ ++ (poolO q :: .box (intsC lat) :: .box (intsC dn) :: T)) ⟨T, rfl, rfl⟩ ?_
    clear hk hlt hd
    rintro k vs S hk ⟨T, rfl, rfl⟩
    by_cases hlt : k < 8
    · have hd : decide ((k : Int) < 8) = true := by simp; omega
      have hal : lat[k]? = some (lat[k]'(by omega)) := List.getElem?_eq_getElem _
      have had : dn[k]? = some (dn[k]'(by omega)) := List.getElem?_eq_getElem _
      obtain ⟨a, hae⟩ : ∃ a, (lat[k]'(by omega)) = a := ⟨_, rfl⟩
      obtain ⟨d, hde⟩ : ∃ d, (dn[k]'(by omega)) = d := ⟨_, rfl⟩
      rw [hae] at hal
      rw [hde] at had
      have gl := intsC_get hal
      have gd := intsC_get had
      obtain ⟨e1, e2⟩ := hL.end_ hq hlt hal had
      (repeat' (first | simp -dsimp only [↓acallL, ↓loopL, ↓binC, ↓unC, ↓condC_b, ↓guardC_T, ↓guardC_F, ↓guardC_0, ↓pickC_b, ↓lenC, ↓slcC, ↓convC, ↓boxC, ↓allocC, ↓loadC, ↓storeC, ↓nilC, ↓faddrC, ↓fieldC, ↓iaddrC, ↓idxSC, ↓idxAC, ↓extractC, ↓buildC, ↓mksliceC, ↓appendC, ↓isnilC, ↓maxC, ↓minC, ↓callvC, ↓mkmapC, ↓mgetC, ↓msetC, ↓mdelC, ↓headC_cons, ↓rangeC, ↓BBL_true, ↓BBL_false, ↓BBL_not, binA, intOp, strOp, unA, esOf, bnd, intV, cellsA, fillV, srcE, dm, dm1, consO, cellA, maxL, minL, keepO, Q0, Q1, Q2, Q3, Q4, Q5, len_app, get_app, get_app0, set_app, set_app0, Q6, Q7, Q8, Q9, Q10, Q11, Q12, Q13, Q14, Nat.reduceAdd, Q15, Int.reduceToNat, Q16, Q17, Q18, Q19, Q20, reduceIte, Q21, Q22, recsE_len, rep, splice, toDs, toD, chunks, Q23, Q24, Q25, Q26, Q27, Q28, Nat.reduceLeDiff, Q29, Nat.reduceSub, Q30, Q31, Q32, sc, Q33, Q34, Q35, Q36, Q37, Q26, Q38, Q39, n0gt, n1gt, n2gt, n0eq, n1eq0, n1eq, n2eq, n0ne, n1ne, n1ne0, n0ne1, i0ne, i0eq, Bool.not_true, Bool.not_false, List.length_map, hd] | ((with_reducible refine And.intro ?_ ?_); focus (first | omega | rfl | decide | (simp; done)))))
      refine c_poolOf (id := σ.length) (by rw [get_app0]; rfl) hq ?_
      cases ho : ofF q k with
      | none =>
        rw [ho] at e1
        have e3 : (a != d) = false := by simpa using e1.symm
        simp only [ofA, Option.isSome_none]
        (repeat' (first | simp -dsimp only [↓acallL, ↓loopL, ↓binC, ↓unC, ↓condC_b, ↓guardC_T, ↓guardC_F, ↓guardC_0, ↓pickC_b, ↓lenC, ↓slcC, ↓convC, ↓boxC, ↓allocC, ↓loadC, ↓storeC, ↓nilC, ↓faddrC, ↓fieldC, ↓iaddrC, ↓idxSC, ↓idxAC, ↓extractC, ↓buildC, ↓mksliceC, ↓appendC, ↓isnilC, ↓maxC, ↓minC, ↓callvC, ↓mkmapC, ↓mgetC, ↓msetC, ↓mdelC, ↓headC_cons, ↓rangeC, ↓BBL_true, ↓BBL_false, ↓BBL_not, binA, intOp, strOp, unA, esOf, bnd, intV, cellsA, fillV, srcE, dm, dm1, consO, cellA, maxL, minL, keepO, Q0, Q1, Q2, Q3, Q4, Q5, len_app, get_app, get_app0, set_app, set_app0, Q6, Q7, Q8, Q9, Q10, Q11, Q12, Q13, Q14, Nat.reduceAdd, Q15, Int.reduceToNat, Q16, Q17, Q18, Q19, Q20, reduceIte, Q21, Q22, recsE_len, rep, splice, toDs, toD, chunks, Q23, Q24, Q25, Q26, Q27, Q28, Nat.reduceLeDiff, Q29, Nat.reduceSub, Q30, Q31, Q32, sc, Q33, Q34, Q35, Q36, Q37, Q26, Q38, Q39, n0gt, n1gt, n2gt, n0eq, n1eq0, n1eq, n2eq, n0ne, n1ne, n1ne0, n0ne1, i0ne, i0eq, Bool.not_true, Bool.not_false, List.length_map, gl, gd, e3, beq_self_eq_true, bne_self_eq_false, wk1 k (by omega)] | ((with_reducible refine And.intro ?_ ?_); focus (first | omega | rfl | decide | (simp; done)))))
        exact Again.next hlt ⟨_, rfl, rfl⟩
      | some y =>
        rw [ho] at e1
        have e3 : (a != d) = true := e1.symm
        have e4 : (y.time != a) = false := by simp [e2 y ho]
        simp only [ofA, Option.isSome_some, signedA]
        (repeat' (first | simp -dsimp only [↓acallL, ↓loopL, ↓binC, ↓unC, ↓condC_b, ↓guardC_T, ↓guardC_F, ↓guardC_0, ↓pickC_b, ↓lenC, ↓slcC, ↓convC, ↓boxC, ↓allocC, ↓loadC, ↓storeC, ↓nilC, ↓faddrC, ↓fieldC, ↓iaddrC, ↓idxSC, ↓idxAC, ↓extractC, ↓buildC, ↓mksliceC, ↓appendC, ↓isnilC, ↓maxC, ↓minC, ↓callvC, ↓mkmapC, ↓mgetC, ↓msetC, ↓mdelC, ↓headC_cons, ↓rangeC, ↓BBL_true, ↓BBL_false, ↓BBL_not, binA, intOp, strOp, unA, esOf, bnd, intV, cellsA, fillV, srcE, dm, dm1, consO, cellA, maxL, minL, keepO, Q0, Q1, Q2, Q3, Q4, Q5, len_app, get_app, get_app0, set_app, set_app0, Q6, Q7, Q8, Q9, Q10, Q11, Q12, Q13, Q14, Nat.reduceAdd, Q15, Int.reduceToNat, Q16, Q17, Q18, Q19, Q20, reduceIte, Q21, Q22, recsE_len, rep, splice, toDs, toD, chunks, Q23, Q24, Q25, Q26, Q27, Q28, Nat.reduceLeDiff, Q29, Nat.reduceSub, Q30, Q31, Q32, sc, Q33, Q34, Q35, Q36, Q37, Q26, Q38, Q39, n0gt, n1gt, n2gt, n0eq, n1eq0, n1eq, n2eq, n0ne, n1ne, n1ne0, n0ne1, i0ne, i0eq, Bool.not_true, Bool.not_false, List.length_map, gl, gd, e3, e4, beq_self_eq_true, bne_self_eq_false, wk1 k (by omega)] | ((with_reducible refine And.intro ?_ ?_); focus (first | omega | rfl | decide | (simp; done)))))
        exact Again.next hlt ⟨_, rfl, rfl⟩
    · have hd : decide ((k : Int) < 8) = false := by simp; omega
      (repeat' (first | simp -dsimp only [↓acallL, ↓loopL, ↓binC, ↓unC, ↓condC_b, ↓guardC_T, ↓guardC_F, ↓guardC_0, ↓pickC_b, ↓lenC, ↓slcC, ↓convC, ↓boxC, ↓allocC, ↓loadC, ↓storeC, ↓nilC, ↓faddrC, ↓fieldC, ↓iaddrC, ↓idxSC, ↓idxAC, ↓extractC, ↓buildC, ↓mksliceC, ↓appendC, ↓isnilC, ↓maxC, ↓minC, ↓callvC, ↓mkmapC, ↓mgetC, ↓msetC, ↓mdelC, ↓headC_cons, ↓rangeC, ↓BBL_true, ↓BBL_false, ↓BBL_not, binA, intOp, strOp, unA, esOf, bnd, intV, cellsA, fillV, srcE, dm, dm1, consO, cellA, maxL, minL, keepO, Q0, Q1, Q2, Q3, Q4, Q5, len_app, get_app, get_app0, set_app, set_app0, Q6, Q7, Q8, Q9, Q10, Q11, Q12, Q13, Q14, Nat.reduceAdd, Q15, Int.reduceToNat, Q16, Q17, Q18, Q19, Q20, reduceIte, Q21, Q22, recsE_len, rep, splice, toDs, toD, chunks, Q23, Q24, Q25, Q26, Q27, Q28, Nat.reduceLeDiff, Q29, Nat.reduceSub, Q30, Q31, Q32, sc, Q33, Q34, Q35, Q36, Q37, Q26, Q38, Q39, n0gt, n1gt, n2gt, n0eq, n1eq0, n1eq, n2eq, n0ne, n1ne, n1ne0, n0ne1, i0ne, i0eq, Bool.not_true, Bool.not_false, List.length_map, hd] | ((with_reducible refine And.intro ?_ ?_); focus (first | omega | rfl | decide | (simp; done)))))
      (first | refine ends_plain (by simp [Low_d, dmT, dm, dm1, pack, Low_tup, Low_agg, Low_exact]) hl ?_ | refine ends_plain0 (by simp [Low_d, dmT, dm, dm1, pack, Low_tup, Low_agg, Low_exact]) hl ?_)
      rfl
end Go.Proofs.Ytfnnejokhikefaa

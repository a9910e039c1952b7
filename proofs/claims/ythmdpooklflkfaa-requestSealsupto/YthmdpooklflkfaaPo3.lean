/- Contracts: what comes next out of a pool. -/
import Derived.Test.YthmdpooklflkfaaPo2
set_option linter.all false
set_option maxRecDepth 100000
set_option linter.unusedSimpArgs false
set_option linter.unusedVariables false
namespace Go.Proofs.Ythmdpooklflkfaa
open Go.AW

theorem any_take {α : Type} {l : List α} {p : α → Bool} {k : Nat} {x : α} (h : l[k]? = some x) (h0 : (l.take k).any p = false) (hx : p x = false) : (l.take (k + 1)).any p = false := by
  rw [List.take_add_one, h]; simp [List.any_append, h0, hx]
theorem any_mem {α : Type} {l : List α} {p : α → Bool} {k : Nat} {x : α} (h : l[k]? = some x) (hx : p x = true) : l.any p = true := List.any_eq_true.2 ⟨x, List.mem_of_getElem? h, hx⟩
/-- slices.IndexFunc over a batch, of a function that tells 'p' -/
theorem zha {σ : List AObj} {b : List zR} {f : FuncId} {cap : List AV} {p : zR → Bool} (hb : b.length ≤ 1073741824) (hf : ∀ x ∈ b, ∀ K : AV → List AObj → Prop, K (.d (.bool (p x))) σ → ACall Try.prog f (zbC x :: cap) σ K)
    {K : AV → List AObj → Prop} (hK : ∀ r : Int, decide (r ≥ 0) = b.any p → K (.d (.int .i64 r)) σ) : ACall Try.prog zao [.d (.slice (zbq b)), .fn (.func f) [] cap] σ K := by
  refine zU zbm rfl fun hl _ => zbs ?_
  simp only [zaF]
  (repeat' (first | simp -dsimp only [↓zM, ↓loopL, ↓binC, ↓unC, ↓zr, ↓zj, ↓zk, ↓zl, ↓zu, ↓lenC, ↓slcC, ↓convC, ↓boxC, ↓zC, ↓loadC, ↓zx, ↓nilC, ↓zm, ↓zG, ↓zy, ↓idxSC, ↓idxAC, ↓zd, ↓zA, ↓zf, ↓zo, ↓zJ, ↓maxC, ↓minC, ↓zK, ↓zL, ↓mgetC, ↓msetC, ↓mdelC, ↓zb, ↓zH, ↓zi, ↓zc, ↓zt, binA, intOp, strOp, unA, esOf, bnd, intV, zF, fillV, srcE, dm, dm1, consO, cellA, maxL, minL, keepO, Q0, Q1, Q2, Q3, Q4, Q5, zw, zp, zg, zq, zh, Q6, Q7, Q8, Q9, Q10, Q11, Q12, Q13, Q14, Nat.reduceAdd, Q15, Int.reduceToNat, Q16, Q17, Q18, Q19, Q20, reduceIte, Q21, Q22, ze, rep, zN, toDs, toD, zO, Q23, Q24, Q25, Q26, Q27, Q28, Nat.reduceLeDiff, Q29, Nat.reduceSub, Q30, Q31, Q32, sc, Q33, Q34, Q35, Q36, Q37, Q26, Q38, Q39, n0gt, n1gt, n2gt, n0eq, n1eq0, n1eq, n2eq, n0ne, n1ne, n1ne0, n0ne1, i0ne, i0eq, Bool.not_true, Bool.not_false, List.length_map] | ((with_reducible refine And.intro ?_ ?_); focus (first | omega | rfl | decide | (simp; done)))))
  refine zac b.length (fun k vs s => vs = [.d (.int .i64 k)] ∧ s = σ ∧ (b.take k).any p = false) ⟨rfl, rfl, by simp⟩ ?_
  rintro k vs s hk ⟨rfl, rfl, hno⟩
  by_cases hlt : k < b.length
  · have hd : decide ((k : Int) < (b.length : Int)) = true := by simp; omega
    have hx : b[k]? = some b[k] := by simp [hlt]
    have hfx := hf _ (List.getElem_mem hlt)
    have hgx := zbF (f := zag) hx
    obtain ⟨x, hxe⟩ : ∃ x, b[k] = x := ⟨_, rfl⟩
    rw [hxe] at hx hgx hfx
    rw [zbC] at hfx
    (repeat' (first | simp -dsimp only [↓zM, ↓loopL, ↓binC, ↓unC, ↓zr, ↓zj, ↓zk, ↓zl, ↓zu, ↓lenC, ↓slcC, ↓convC, ↓boxC, ↓zC, ↓loadC, ↓zx, ↓nilC, ↓zm, ↓zG, ↓zy, ↓idxSC, ↓idxAC, ↓zd, ↓zA, ↓zf, ↓zo, ↓zJ, ↓maxC, ↓minC, ↓zK, ↓zL, ↓mgetC, ↓msetC, ↓mdelC, ↓zb, ↓zH, ↓zi, ↓zc, ↓zt, binA, intOp, strOp, unA, esOf, bnd, intV, zF, fillV, srcE, dm, dm1, consO, cellA, maxL, minL, keepO, Q0, Q1, Q2, Q3, Q4, Q5, zw, zp, zg, zq, zh, Q6, Q7, Q8, Q9, Q10, Q11, Q12, Q13, Q14, Nat.reduceAdd, Q15, Int.reduceToNat, Q16, Q17, Q18, Q19, Q20, reduceIte, Q21, Q22, ze, rep, zN, toDs, toD, zO, Q23, Q24, Q25, Q26, Q27, Q28, Nat.reduceLeDiff, Q29, Nat.reduceSub, Q30, Q31, Q32, sc, Q33, Q34, Q35, Q36, Q37, Q26, Q38, Q39, n0gt, n1gt, n2gt, n0eq, n1eq0, n1eq, n2eq, n0ne, n1ne, n1ne0, n0ne1, i0ne, i0eq, Bool.not_true, Bool.not_false, List.length_map, hd, hgx, zag] | ((with_reducible refine And.intro ?_ ?_); focus (first | omega | rfl | decide | (simp; done)))))
    refine hfx _ ?_
    cases h1 : p x
    · (repeat' (first | simp -dsimp only [↓zM, ↓loopL, ↓binC, ↓unC, ↓zr, ↓zj, ↓zk, ↓zl, ↓zu, ↓lenC, ↓slcC, ↓convC, ↓boxC, ↓zC, ↓loadC, ↓zx, ↓nilC, ↓zm, ↓zG, ↓zy, ↓idxSC, ↓idxAC, ↓zd, ↓zA, ↓zf, ↓zo, ↓zJ, ↓maxC, ↓minC, ↓zK, ↓zL, ↓mgetC, ↓msetC, ↓mdelC, ↓zb, ↓zH, ↓zi, ↓zc, ↓zt, binA, intOp, strOp, unA, esOf, bnd, intV, zF, fillV, srcE, dm, dm1, consO, cellA, maxL, minL, keepO, Q0, Q1, Q2, Q3, Q4, Q5, zw, zp, zg, zq, zh, Q6, Q7, Q8, Q9, Q10, Q11, Q12, Q13, Q14, Nat.reduceAdd, Q15, Int.reduceToNat, Q16, Q17, Q18, Q19, Q20, reduceIte, Q21, Q22, ze, rep, zN, toDs, toD, zO, Q23, Q24, Q25, Q26, Q27, Q28, Nat.reduceLeDiff, Q29, Nat.reduceSub, Q30, Q31, Q32, sc, Q33, Q34, Q35, Q36, Q37, Q26, Q38, Q39, n0gt, n1gt, n2gt, n0eq, n1eq0, n1eq, n2eq, n0ne, n1ne, n1ne0, n0ne1, i0ne, i0eq, Bool.not_true, Bool.not_false, List.length_map, wk1 k (by omega)] | ((with_reducible refine And.intro ?_ ?_); focus (first | omega | rfl | decide | (simp; done)))))
      exact Again.next hlt ⟨rfl, rfl, any_take hx hno h1⟩
    · (repeat' (first | simp -dsimp only [↓zM, ↓loopL, ↓binC, ↓unC, ↓zr, ↓zj, ↓zk, ↓zl, ↓zu, ↓lenC, ↓slcC, ↓convC, ↓boxC, ↓zC, ↓loadC, ↓zx, ↓nilC, ↓zm, ↓zG, ↓zy, ↓idxSC, ↓idxAC, ↓zd, ↓zA, ↓zf, ↓zo, ↓zJ, ↓maxC, ↓minC, ↓zK, ↓zL, ↓mgetC, ↓msetC, ↓mdelC, ↓zb, ↓zH, ↓zi, ↓zc, ↓zt, binA, intOp, strOp, unA, esOf, bnd, intV, zF, fillV, srcE, dm, dm1, consO, cellA, maxL, minL, keepO, Q0, Q1, Q2, Q3, Q4, Q5, zw, zp, zg, zq, zh, Q6, Q7, Q8, Q9, Q10, Q11, Q12, Q13, Q14, Nat.reduceAdd, Q15, Int.reduceToNat, Q16, Q17, Q18, Q19, Q20, reduceIte, Q21, Q22, ze, rep, zN, toDs, toD, zO, Q23, Q24, Q25, Q26, Q27, Q28, Nat.reduceLeDiff, Q29, Nat.reduceSub, Q30, Q31, Q32, sc, Q33, Q34, Q35, Q36, Q37, Q26, Q38, Q39, n0gt, n1gt, n2gt, n0eq, n1eq0, n1eq, n2eq, n0ne, n1ne, n1ne0, n0ne1, i0ne, i0eq, Bool.not_true, Bool.not_false, List.length_map] | ((with_reducible refine And.intro ?_ ?_); focus (first | omega | rfl | decide | (simp; done)))))
      (first | refine zP (by simp [Low_d, dmT, dm, dm1, pack, zB, zD, zn]) hl ?_ | refine zE (by simp [Low_d, dmT, dm, dm1, pack, zB, zD, zn]) hl ?_)
      exact hK _ (by rw [any_mem hx h1]; simp)
  · have hd : decide ((k : Int) < (b.length : Int)) = false := by simp; omega
    (repeat' (first | simp -dsimp only [↓zM, ↓loopL, ↓binC, ↓unC, ↓zr, ↓zj, ↓zk, ↓zl, ↓zu, ↓lenC, ↓slcC, ↓convC, ↓boxC, ↓zC, ↓loadC, ↓zx, ↓nilC, ↓zm, ↓zG, ↓zy, ↓idxSC, ↓idxAC, ↓zd, ↓zA, ↓zf, ↓zo, ↓zJ, ↓maxC, ↓minC, ↓zK, ↓zL, ↓mgetC, ↓msetC, ↓mdelC, ↓zb, ↓zH, ↓zi, ↓zc, ↓zt, binA, intOp, strOp, unA, esOf, bnd, intV, zF, fillV, srcE, dm, dm1, consO, cellA, maxL, minL, keepO, Q0, Q1, Q2, Q3, Q4, Q5, zw, zp, zg, zq, zh, Q6, Q7, Q8, Q9, Q10, Q11, Q12, Q13, Q14, Nat.reduceAdd, Q15, Int.reduceToNat, Q16, Q17, Q18, Q19, Q20, reduceIte, Q21, Q22, ze, rep, zN, toDs, toD, zO, Q23, Q24, Q25, Q26, Q27, Q28, Nat.reduceLeDiff, Q29, Nat.reduceSub, Q30, Q31, Q32, sc, Q33, Q34, Q35, Q36, Q37, Q26, Q38, Q39, n0gt, n1gt, n2gt, n0eq, n1eq0, n1eq, n2eq, n0ne, n1ne, n1ne0, n0ne1, i0ne, i0eq, Bool.not_true, Bool.not_false, List.length_map, hd] | ((with_reducible refine And.intro ?_ ?_); focus (first | omega | rfl | decide | (simp; done)))))
    (first | refine zP (by simp [Low_d, dmT, dm, dm1, pack, zB, zD, zn]) hl ?_ | refine zE (by simp [Low_d, dmT, dm, dm1, pack, zB, zD, zn]) hl ?_)
    rw [List.take_of_length_le (by omega)] at hno
    exact hK _ (by rw [hno]; rfl)
theorem zeZ {σ : List AObj} {b : List zR} {f : FuncId} {cap : List AV} {p : zR → Bool} (hb : b.length ≤ 1073741824) (hf : ∀ x ∈ b, ∀ K : AV → List AObj → Prop, K (.d (.bool (p x))) σ → ACall Try.prog f (zbC x :: cap) σ K)
    {K : AV → List AObj → Prop} (hK : K (.d (.bool (b.any p))) σ) : ACall Try.prog zal [.d (.slice (zbq b)), .fn (.func f) [] cap] σ K := by
  refine zU zaW rfl fun hl _ => zbg ?_
  simp only [zay]
  (repeat' (first | simp -dsimp only [↓zM, ↓loopL, ↓binC, ↓unC, ↓zr, ↓zj, ↓zk, ↓zl, ↓zu, ↓lenC, ↓slcC, ↓convC, ↓boxC, ↓zC, ↓loadC, ↓zx, ↓nilC, ↓zm, ↓zG, ↓zy, ↓idxSC, ↓idxAC, ↓zd, ↓zA, ↓zf, ↓zo, ↓zJ, ↓maxC, ↓minC, ↓zK, ↓zL, ↓mgetC, ↓msetC, ↓mdelC, ↓zb, ↓zH, ↓zi, ↓zc, ↓zt, binA, intOp, strOp, unA, esOf, bnd, intV, zF, fillV, srcE, dm, dm1, consO, cellA, maxL, minL, keepO, Q0, Q1, Q2, Q3, Q4, Q5, zw, zp, zg, zq, zh, Q6, Q7, Q8, Q9, Q10, Q11, Q12, Q13, Q14, Nat.reduceAdd, Q15, Int.reduceToNat, Q16, Q17, Q18, Q19, Q20, reduceIte, Q21, Q22, ze, rep, zN, toDs, toD, zO, Q23, Q24, Q25, Q26, Q27, Q28, Nat.reduceLeDiff, Q29, Nat.reduceSub, Q30, Q31, Q32, sc, Q33, Q34, Q35, Q36, Q37, Q26, Q38, Q39, n0gt, n1gt, n2gt, n0eq, n1eq0, n1eq, n2eq, n0ne, n1ne, n1ne0, n0ne1, i0ne, i0eq, Bool.not_true, Bool.not_false, List.length_map] | ((with_reducible refine And.intro ?_ ?_); focus (first | omega | rfl | decide | (simp; done)))))
  refine zha hb hf fun r hr => ?_
  (repeat' (first | simp -dsimp only [↓zM, ↓loopL, ↓binC, ↓unC, ↓zr, ↓zj, ↓zk, ↓zl, ↓zu, ↓lenC, ↓slcC, ↓convC, ↓boxC, ↓zC, ↓loadC, ↓zx, ↓nilC, ↓zm, ↓zG, ↓zy, ↓idxSC, ↓idxAC, ↓zd, ↓zA, ↓zf, ↓zo, ↓zJ, ↓maxC, ↓minC, ↓zK, ↓zL, ↓mgetC, ↓msetC, ↓mdelC, ↓zb, ↓zH, ↓zi, ↓zc, ↓zt, binA, intOp, strOp, unA, esOf, bnd, intV, zF, fillV, srcE, dm, dm1, consO, cellA, maxL, minL, keepO, Q0, Q1, Q2, Q3, Q4, Q5, zw, zp, zg, zq, zh, Q6, Q7, Q8, Q9, Q10, Q11, Q12, Q13, Q14, Nat.reduceAdd, Q15, Int.reduceToNat, Q16, Q17, Q18, Q19, Q20, reduceIte, Q21, Q22, ze, rep, zN, toDs, toD, zO, Q23, Q24, Q25, Q26, Q27, Q28, Nat.reduceLeDiff, Q29, Nat.reduceSub, Q30, Q31, Q32, sc, Q33, Q34, Q35, Q36, Q37, Q26, Q38, Q39, n0gt, n1gt, n2gt, n0eq, n1eq0, n1eq, n2eq, n0ne, n1ne, n1ne0, n0ne1, i0ne, i0eq, Bool.not_true, Bool.not_false, List.length_map, hr] | ((with_reducible refine And.intro ?_ ?_); focus (first | omega | rfl | decide | (simp; done)))))
  (first | refine zP (by simp [Low_d, dmT, dm, dm1, pack, zB, zD, zn]) hl ?_ | refine zE (by simp [Low_d, dmT, dm, dm1, pack, zB, zD, zn]) hl ?_)
  exact hK
end Go.Proofs.Ythmdpooklflkfaa

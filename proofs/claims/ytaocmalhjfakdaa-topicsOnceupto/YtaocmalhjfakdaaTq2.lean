/- Contracts: the program's topics: made, found; bounds, records; a topic more. -/
import Derived.Test.YtaocmalhjfakdaaTq1
import Derived.Test.YtaocmalhjfakdaaPr3
set_option linter.all false
set_option maxRecDepth 100000
set_option linter.unusedSimpArgs false
set_option linter.unusedVariables false
namespace Go.Proofs.Ytaocmalhjfakdaa
open Go.AW

def getF (T : zS) (n : List UInt8) (o : Int) : List UInt8 × Int := match atF n T.l 0 with
  | none => ([], 4)
  | some k => match T.l[k]? with
    | none => ([], 4)
    | some x => if o < x.base ∨ x.next ≤ o then ([], 72) else (x.recs.getD (o - x.base).toNat [], 0)
theorem c_tpNew {σ : List zb} {K : AV → List zb → Prop} (hK : zeC (σ ++ [.map [], .box (.map σ.length :: zbT zbZ.last)]) (σ.length + 1) zbZ (fun j => j = σ.length + 1 ∨ j = σ.length) → K (.box (σ.length + 1) 0) (σ ++ [.map [], .box (.map σ.length :: zbT zbZ.last)])) : zC Try.prog zdO [] σ K := by
  refine zaI zhf.is rfl fun hl _ => zhf.goes ?_
  simp only [zhi, iN, bT, bF, eN]
  refine zen ?_
  refine zaW (hK ⟨σ.length, [], ⟨by rw [zV]; rfl, by rw [zn]; rfl, by simp, by simp, by simp, rfl⟩, .nil, fun j => ?_⟩)
  simp [OwnP]
section

variable {σ : List zb} {id m : Nat} {X : List zcS} {L : List (Int × Int × Int)} {K : AV → List zb → Prop}

theorem zbf {A P Q : Prop} (a : A) (h : Q) (e : A → Hd Q → P := by intro a h; (repeat' first | simp -dsimp only [↓zhJ, ↓zbB, ↓zdh, ↓zhK, ↓zhC, ↓zhA, ↓zhD, ↓zhB, ↓zdm, ↓zdi, ↓zdn, ↓zdj, ↓zhE, ↓zdf, ↓zdo, ↓zdk, ↓zdp, ↓zdl, ↓zhy, ↓zhH, ↓zde, ↓zdq, ↓zhv, ↓zhu, ↓zhx, iN, bT, bF, eN, ↓zeB, ↓unC, ↓zas, ↓zZ, ↓zaa, ↓zaj, ↓zaK, ↓zbO, ↓zdM, ↓zaD, ↓zdL, ↓zaN, ↓zq, ↓zt, ↓zcV, ↓zl, ↓zak, ↓zY, ↓zbk, ↓zbe, ↓zd, ↓zG, ↓zp, ↓zL, ↓zaG, ↓zem, ↓zel, ↓zaH, ↓zbc, ↓zaS, ↓zbN, ↓zcb, ↓zD, ↓zaq, ↓zab, ↓zE, ↓zaE, zeh, zcC, zct, unA, zey, bnd, zfu, zaf, zaC, zfF, dm, dm1, zR, zbD, zge, zgd, zan, Q0, Q1, Q2, Q3, Q4, Q5, zaL, zV, zn, zaJ, zai, Q6, Q7, Q8, Q9, Q10, Q11, Q12, Q13, Q14, Nat.reduceAdd, Q15, Int.reduceToNat, Q16, Q17, Q18, Q19, Q20, reduceIte, Q21, Q22, zB, rep, zO, zgw, toD, zah, Q23, Q24, Q25, Q26, Q27, Q28, Nat.reduceLeDiff, Q29, Nat.reduceSub, Q30, Q31, Q32, sc, Q33, Q34, Q35, Q36, Q37, Q26, Q38, Q39, n0gt, n1gt, n2gt, n0eq, zim, n1eq, n2eq, n0ne, n1ne, zil, zin, i0ne, i0eq, Bool.not_true, Bool.not_false, List.length_map, a] | with_reducible refine andA ?_ | fail); exact h.go) : P := e a ⟨h⟩
theorem zhI {cs : List AV} (hb : σ[id]? = some (.box (.map m :: cs))) (hK : K (.d (.bool false)) σ) : zC Try.prog zam [.box id 0] σ K := by
  refine acE1 zfv fun hl => ?_
  simp only [zdb, iN, bT, bF, eN]
  refine zbf hb ?_
  refine zhF hl ?_
  exact hK
theorem zdR {x : zQ} {t g : Nat} (hb : σ[id]? = some (topB' x t g)) (h1 : -9223372036854775808 ≤ x.next ∧ x.next ≤ 9223372036854775807) (hK : K (.d (.int .i64 x.next)) σ) : zC Try.prog zT [.box id 0] σ K := by
  refine acE1 zfJ fun hl => ?_
  have hlen := zB x.recs
  have hw : IntKind.i64.wrap (x.base + (x.recs.length : Int)) = x.next := zcT h1.1 h1.2
  simp only [zdI, iN, bT, bF, eN]
  refine zbf (zf hb (zf hlen hw)) ?_
  refine zhF hl ?_
  exact hK
theorem zhz {A P Q : Prop} (a : A) (h : Q) (e : A → Hd Q → P := by intro a h; (repeat' first | simp -dsimp only [↓zhJ, ↓zbB, ↓zdh, ↓zhK, ↓zhC, ↓zhA, ↓zhD, ↓zhB, ↓zdm, ↓zdi, ↓zdn, ↓zdj, ↓zhE, ↓zdf, ↓zdo, ↓zdk, ↓zdp, ↓zdl, ↓zhy, ↓zhH, ↓zde, ↓zdq, ↓zhv, ↓zhu, ↓zhx, iN, bT, bF, eN, ↓zeB, ↓unC, ↓zas, ↓zZ, ↓zaa, ↓zaj, ↓zaK, ↓zbO, ↓zdM, ↓zaD, ↓zdL, ↓zaN, ↓zq, ↓zt, ↓zcV, ↓zl, ↓zak, ↓zY, ↓zbk, ↓zbe, ↓zd, ↓zG, ↓zp, ↓zL, ↓zaG, ↓zem, ↓zel, ↓zaH, ↓zbc, ↓zaS, ↓zbN, ↓zcb, ↓zD, ↓zaq, ↓zab, ↓zE, ↓zaE, zeh, zcC, zct, unA, zey, bnd, zfu, zaf, zaC, zfF, dm, dm1, zR, zbD, zge, zgd, zan, Q0, Q1, Q2, Q3, Q4, Q5, zaL, zV, zn, zaJ, zai, Q6, Q7, Q8, Q9, Q10, Q11, Q12, Q13, Q14, Nat.reduceAdd, Q15, Int.reduceToNat, Q16, Q17, Q18, Q19, Q20, reduceIte, Q21, Q22, zB, rep, zO, zgw, toD, zah, Q23, Q24, Q25, Q26, Q27, Q28, Nat.reduceLeDiff, Q29, Nat.reduceSub, Q30, Q31, Q32, sc, Q33, Q34, Q35, Q36, Q37, Q26, Q38, Q39, n0gt, n1gt, n2gt, n0eq, zim, n1eq, n2eq, n0ne, n1ne, zil, zin, i0ne, i0eq, Bool.not_true, Bool.not_false, List.length_map, Bool.and_false, Bool.and_self, Bool.false_and, Bool.not_false, Bool.not_true, Bool.true_and, Int.toNat_natCast, Int.toNat_zero, List.drop_zero, List.length_map, List.length_nil, List.nil_append, List.take_length, Nat.sub_zero, Nat.zero_add, Option.isSome_none, Option.isSome_some, Option.map_none, Option.map_some, zgT, beq_self_eq_true, bne_self_eq_false, ziN, zcE, zcc, zaS, zho, zbN, a] | with_reducible refine andA ?_ | fail); exact h.go) : P := e a ⟨h⟩
theorem zkn (h : zdr σ id m X L) {n : List UInt8} (hK : K (match zdT n X 0 with | some q => .tup [.box q.2.id 0, .d (.int .i64 0)] | none => .tup [.d .nilp, .d (.int .i64 4)]) σ) : zC Try.prog zaF [.box id 0, .d (.str n)] σ K := by
  refine zaI zcX.is rfl fun hl _ => zcX.goes ?_
  have hb := h.box
  have hm := h.map
  have hf := zcv n X 0
  simp only [zdc, iN, bT, bF, eN]
  refine zen ?_
  refine zhI hb ?_
  cases hx : zdT n X 0 with
  | none =>
    rw [hx] at hf hK
    refine zhz (zf hb (zf hm hf)) ?_
    exact zaW hK
  | some q =>
    rw [hx] at hf hK
    refine zhz (zf hb (zf hm hf)) ?_
    exact zaW hK
end

end Go.Proofs.Ytaocmalhjfakdaa

/- Contracts: the program's topics: made, found; bounds, records; a topic more. -/
import Derived.Test.YtaocmalhjfakdaaTq1
import Derived.Test.YtaocmalhjfakdaaAwEnd
set_option linter.all false
set_option maxRecDepth 100000
set_option linter.unusedSimpArgs false
set_option linter.unusedVariables false
namespace Go.Proofs.Ytaocmalhjfakdaa
open Go.AW

def getF (T : zav) (n : List UInt8) (o : Int) : List UInt8 × Int := match atF n T.l 0 with
  | none => ([], 4)
  | some k => match T.l[k]? with
    | none => ([], 4)
    | some x => if o < x.base ∨ x.next ≤ o then ([], 72) else (x.recs.getD (o - x.base).toNat [], 0)
theorem c_tpNew {σ : List zb} {K : AV → List zb → Prop} (hK : zey (σ ++ [.map [], .box (.map σ.length :: zbD zcn.last)]) (σ.length + 1) zcn (fun j => j = σ.length + 1 ∨ j = σ.length) → K (.box (σ.length + 1) 0) (σ ++ [.map [], .box (.map σ.length :: zbD zcn.last)])) : zi Try.prog zdY [] σ K := by
  refine zaC zhH.is rfl fun hl _ => zhH.goes ?_
  simp only [zhL, iN, bT, bF, eN]
  refine gq1 ?_
  refine zaR (hK ⟨σ.length, [], ⟨by rw [zB]; rfl, by rw [zu]; rfl, by simp, by simp, by simp, rfl⟩, .nil, fun j => ?_⟩)
  simp [OwnP]
section

variable {σ : List zb} {id m : Nat} {X : List zdV} {L : List (Int × Int × Int)} {K : AV → List zb → Prop}

theorem zkF {cs : List AV} (hb : σ[id]? = some (.box (.map m :: cs))) (hK : K (.d (.bool false)) σ) : zi Try.prog zy [.box id 0] σ K := by
  refine acE1 zdr fun hl => ?_
  simp only [zbP, iN, bT, bF, eN]
  refine zaZ hb ?_
  refine zdG hl ?_
  exact hK
theorem zbU {x : zV} {t g : Nat} (hb : σ[id]? = some (topB' x t g)) (h1 : -9223372036854775808 ≤ x.next ∧ x.next ≤ 9223372036854775807) (hK : K (.d (.int .i64 x.next)) σ) : zi Try.prog zw [.box id 0] σ K := by
  refine acE1 zfY fun hl => ?_
  have hlen := zI x.recs
  have hw : IntKind.i64.wrap (x.base + (x.recs.length : Int)) = x.next := zcA h1.1 h1.2
  simp only [zdT, iN, bT, bF, eN]
  refine zaZ (zk hb (zk hlen hw)) ?_
  refine zdG hl ?_
  exact hK
theorem zkt {A P Q : Prop} (a : A) (h : Q) (e : A → Hd Q → P := by intro a h; (repeat' first | simp -dsimp only [↓zhp, ↓zbg, ↓zcG, ↓zht, ↓zhb, ↓zgZ, ↓zhc, ↓zha, ↓zcM, ↓zcI, ↓zcN, ↓zcJ, ↓zhe, ↓zcD, ↓zcO, ↓zcK, ↓zcP, ↓zcL, ↓zgX, ↓zhn, ↓zcC, ↓zcQ, ↓zgJ, ↓zgI, ↓zgT, iN, bT, bF, eN, ↓zeg, ↓unC, ↓zaj, ↓zQ, ↓zR, ↓zad, ↓zaw, ↓zbd, ↓zdI, ↓zam, ↓zcm, ↓zal, ↓zo, ↓zl, ↓zbR, ↓zh, ↓zag, ↓zL, ↓zaX, ↓zaV, ↓zd, ↓zr, ↓zn, ↓zC, ↓zan, ↓zeb, ↓zej, ↓zaF, ↓zaN, ↓zaK, ↓zby, ↓zbS, ↓zA, ↓zak, ↓zS, ↓zE, ↓zat, zeh, zcf, zcd, unA, zek, bnd, zeV, zab, zT, zeU, dm, dm1, zt, zaL, zfO, zfN, zW, Q0, Q1, Q2, Q3, Q4, Q5, zax, zB, zu, zas, zX, Q6, Q7, Q8, Q9, Q10, Q11, Q12, Q13, Q14, Nat.reduceAdd, Q15, Int.reduceToNat, Q16, Q17, Q18, Q19, Q20, reduceIte, Q21, Q22, zI, rep, zP, zgG, toD, zah, Q23, Q24, Q25, Q26, Q27, Q28, Nat.reduceLeDiff, Q29, Nat.reduceSub, Q30, Q31, Q32, sc, Q33, Q34, Q35, Q36, Q37, Q26, Q38, Q39, n0gt, n1gt, n2gt, n0eq, ziz, n1eq, n2eq, n0ne, n1ne, ziy, ziA, i0ne, i0eq, Bool.not_true, Bool.not_false, List.length_map, Bool.and_false, Bool.and_self, Bool.false_and, Bool.not_false, Bool.not_true, Bool.true_and, Int.toNat_natCast, Int.toNat_zero, List.drop_zero, List.length_map, List.length_nil, List.nil_append, List.take_length, Nat.sub_zero, Nat.zero_add, Option.isSome_none, Option.isSome_some, Option.map_none, Option.map_some, zcb, beq_self_eq_true, bne_self_eq_false, ziZ, zda, zcY, zaK, zhR, zby, a] | with_reducible refine andA ?_ | fail); exact h.go) : P := e a ⟨h⟩
theorem c_tpFind (h : zei σ id m X L) {n : List UInt8} (hK : K (match zeo n X 0 with | some q => .tup [.box q.2.id 0, .d (.int .i64 0)] | none => .tup [.d .nilp, .d (.int .i64 4)]) σ) : zi Try.prog zM [.box id 0, .d (.str n)] σ K := by
  refine zaC zbO.is rfl fun hl _ => zbO.goes ?_
  have hb := h.box
  have hm := h.map
  have hf := zcF n X 0
  simp only [zbQ, iN, bT, bF, eN]
  refine gq1 ?_
  refine zkF hb ?_
  cases hx : zeo n X 0 with
  | none =>
    rw [hx] at hf hK
    refine zkt (zk hb (zk hm hf)) ?_
    exact zaR hK
  | some q =>
    rw [hx] at hf hK
    refine zkt (zk hb (zk hm hf)) ?_
    exact zaR hK
end

end Go.Proofs.Ytaocmalhjfakdaa

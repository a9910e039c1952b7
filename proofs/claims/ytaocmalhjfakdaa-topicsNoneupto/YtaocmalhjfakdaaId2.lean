/- Contracts: the program's tables and ledgers. -/
import Derived.Test.YtaocmalhjfakdaaId1
set_option linter.all false
set_option maxRecDepth 100000
set_option linter.unusedSimpArgs false
set_option linter.unusedVariables false
namespace Go.Proofs.Ytaocmalhjfakdaa
open Go.AW

theorem gq1 {P Q : Prop} (h : Q) (e : Hd Q → P := by intro h; (repeat' first | simp -dsimp only [↓zhp, ↓zbg, ↓zcG, ↓zht, ↓zhb, ↓zgZ, ↓zhc, ↓zha, ↓zcM, ↓zcI, ↓zcN, ↓zcJ, ↓zhe, ↓zcD, ↓zcO, ↓zcK, ↓zcP, ↓zcL, ↓zgX, ↓zhn, ↓zcC, ↓zcQ, ↓zgJ, ↓zgI, ↓zgT, iN, bT, bF, eN, ↓zeg, ↓unC, ↓zaj, ↓zQ, ↓zR, ↓zad, ↓zaw, ↓zbd, ↓zdI, ↓zam, ↓zcm, ↓zal, ↓zo, ↓zl, ↓zbR, ↓zh, ↓zag, ↓zL, ↓zaX, ↓zaV, ↓zd, ↓zr, ↓zn, ↓zC, ↓zan, ↓zeb, ↓zej, ↓zaF, ↓zaN, ↓zaK, ↓zby, ↓zbS, ↓zA, ↓zak, ↓zS, ↓zE, ↓zat, zeh, zcf, zcd, unA, zek, bnd, zeV, zab, zT, zeU, dm, dm1, zt, zaL, zfO, zfN, zW, Q0, Q1, Q2, Q3, Q4, Q5, zax, zB, zu, zas, zX, Q6, Q7, Q8, Q9, Q10, Q11, Q12, Q13, Q14, Nat.reduceAdd, Q15, Int.reduceToNat, Q16, Q17, Q18, Q19, Q20, reduceIte, Q21, Q22, zI, rep, zP, zgG, toD, zah, Q23, Q24, Q25, Q26, Q27, Q28, Nat.reduceLeDiff, Q29, Nat.reduceSub, Q30, Q31, Q32, sc, Q33, Q34, Q35, Q36, Q37, Q26, Q38, Q39, n0gt, n1gt, n2gt, n0eq, ziz, n1eq, n2eq, n0ne, n1ne, ziy, ziA, i0ne, i0eq, Bool.not_true, Bool.not_false, List.length_map] | with_reducible refine andA ?_ | fail); exact h.go) : P := e ⟨h⟩
theorem zjU {σ : List zb} {K : AV → List zb → Prop} (hK : K (.box (σ.length + 1) 0) (σ ++ tabO σ.length [])) : zi Try.prog zdo [] σ K := by
  refine zi.weaken ?_
  refine zcR zeL.is rfl (fun s => List.range' σ.length 2) fun hl _ => zeL.goes ?_
  simp only [zeP, iN, bT, bF, eN]
  refine gq1 ?_
  refine zkz (σ' := σ) (os := [.map [], .box [.exact [], .map σ.length]]) rfl rfl hl ?_ (.box _ _ (by simp)) ?_
  · intro x hx
    simp only [List.mem_cons, List.not_mem_nil, or_false] at hx
    rcases hx with rfl | rfl
    · intro e he; cases he
    · intro c hc
      simp only [List.mem_cons, List.not_mem_nil, or_false] at hc
      rcases hc with rfl | rfl
      · exact .exact _
      · exact .map _ (by simp)
  · refine ⟨.box (σ.length + 1) 0, σ ++ tabO σ.length [], ?_, hK⟩
    refine .tokB (σ.length + 1) 0 [.exact [], .map σ.length] [] 1 (by rw [zB]; rfl) rfl (by simp) ?_
    have e : (σ ++ [zb.map [], zb.box [AV.exact [], AV.map σ.length]]).set (σ.length + 1) (.box ([AV.exact [], AV.map σ.length].set 0 (.own (σ ++ [zb.map [], zb.box [AV.exact [], AV.map σ.length]]).length []))) ++ [.tok 1 0] = σ ++ tabO σ.length [] := by
      rw [zas]; simp [tabO]; rfl
    rw [List.length_nil, e]
    exact .refl _ _


end Go.Proofs.Ytaocmalhjfakdaa

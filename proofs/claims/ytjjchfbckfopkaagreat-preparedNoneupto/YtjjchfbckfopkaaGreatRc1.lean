/- Contracts: what is wrong with requests, signatures and batches, on both sides. -/
import Derived.Test.YtjjchfbckfopkaaGreatOp2
import Derived.Test.YtjjchfbckfopkaaGreatRq1
set_option linter.all false
set_option maxRecDepth 100000
set_option linter.unusedSimpArgs false
set_option linter.unusedVariables false
namespace Go.Proofs.YtjjchfbckfopkaaGreat
open Go.AW

theorem zmQ {P Q : Prop} (h : Q) (e : Hd Q → P := by intro h; (repeat' first | simp -dsimp only [↓zem, ↓zas, ↓zbe, ↓zen, ↓zeg, ↓zee, ↓zeh, ↓zef, ↓zbj, ↓zbf, ↓zbk, ↓zbg, ↓zei, ↓zbd, ↓zbl, ↓zbh, ↓zbm, ↓zbi, ↓zec, ↓zel, ↓zbc, ↓zbo, ↓zdY, ↓zdX, ↓zeb, iN, bT, bF, eN, ↓zcx, ↓unC, ↓zU, ↓zE, ↓zF, ↓zI, ↓zaa, ↓zaE, ↓zco, ↓zZ, ↓zbw, ↓zQ, ↓zl, ↓zm, ↓zbF, ↓zf, ↓zab, ↓zK, ↓zay, ↓zaD, ↓zc, ↓zy, ↓zi, ↓zr, ↓zai, ↓zcz, ↓zcG, ↓zal, ↓zap, ↓zax, ↓zaG, ↓zaN, ↓zj, ↓zad, ↓zG, ↓zq, ↓zX, zcE, zaZ, zaW, unA, zcH, bnd, zdj, zY, zac, zdk, dm, dm1, zJ, zar, zdD, zdC, zT, Q0, Q1, Q2, Q3, Q4, Q5, zS, zg, zp, zu, zC, Q6, Q7, Q8, Q9, Q10, Q11, Q12, Q13, Q14, Nat.reduceAdd, Q15, Int.reduceToNat, Q16, Q17, Q18, Q19, Q20, reduceIte, Q21, Q22, zA, rep, zV, zdZ, toD, zaj, Q23, Q24, Q25, Q26, Q27, Q28, Nat.reduceLeDiff, Q29, Nat.reduceSub, Q30, Q31, Q32, sc, Q33, Q34, Q35, Q36, Q37, Q26, Q38, Q39, zjL, zjI, zjF, zjM, zdO, zjJ, zjG, zjK, zjH, zdN, zdP, zjT, zjU, Bool.not_true, Bool.not_false, List.length_map] | with_reducible refine zkm ?_ | fail); exact h.go) : P := e ⟨h⟩
theorem c_rqCheck {σ : List zb} {x : ze} (hx : okO x.op) {K : AV → List zb → Prop} (hK : K (.d (.int .i64 (zB x))) σ) : zn Tryz.prog zdp [reqA x] σ K := by
  refine zfz zmh fun hl => ?_
  have fin : ∀ z, zB x = z → K (.d (.int .i64 z)) σ := fun z h => h ▸ hK
  clear hK
  simp only [zho, iN, bT, bF, eN, reqA]
  (repeat' (first | (refine zkB ?_; try with_reducible exact True.intro) | (refine zM (fun h => ?_) (fun h => ?_) <;> (try rw [h])) | ((with_reducible refine And.intro ?_ ?_); focus (first | omega | rfl | decide))))
  all_goals first
    | (refine zam hl ?_
       (try simp only [decide_eq_true_eq, decide_eq_false_iff_not, beq_iff_eq, beq_eq_false_iff_ne, bne_iff_ne, ne_eq, Bool.not_eq_true', Bool.not_eq_false', bne_eq_false_iff_eq] at *)
       exact fin _ (by rw [zB, if_pos (by omega)]))
    | skip
  refine c_Check (o := x.op) hx.1 hx.2.1 hx.2.2.1 ?_
  refine zmQ ?_
  refine zam hl ?_
  (try simp only [decide_eq_true_eq, decide_eq_false_iff_not, beq_iff_eq, beq_eq_false_iff_ne, bne_iff_ne, ne_eq, Bool.not_eq_true', Bool.not_eq_false', bne_eq_false_iff_eq] at *)
  exact fin _ (by rw [zB, if_neg (by omega)])
theorem c_rKey {σ : List zb} {c : Int} {K : AV → List zb → Prop} (hK : K (.d (.int .i64 (if c < 0 ∨ c ≥ 8 then -1 else 13 + c))) σ) : zn Tryz.prog zgX [.d (.int .i64 c)] σ K := by
  refine zfz e_r08_Key fun hl => ?_
  have fin : ∀ z, (if c < 0 ∨ c ≥ 8 then -1 else 13 + c) = z → K (.d (.int .i64 z)) σ := fun z h => h ▸ hK
  clear hK
  simp only [S_r08_Key, iN, bT, bF, eN]
  (repeat' (first | (refine zkB ?_; try with_reducible exact True.intro) | (refine zM (fun h => ?_) (fun h => ?_) <;> (try rw [h])) | ((with_reducible refine And.intro ?_ ?_); focus (first | omega | rfl | decide))))
  all_goals
    refine zam hl ?_
    (try simp only [decide_eq_true_eq, decide_eq_false_iff_not, beq_iff_eq, beq_eq_false_iff_ne, bne_iff_ne, ne_eq, Bool.not_eq_true', Bool.not_eq_false', bne_eq_false_iff_eq] at *)
  · exact fin _ (by rw [if_pos (by omega)])
  · exact fin _ (by rw [if_pos (by omega)])
  · exact fin _ (by rw [if_neg (by omega), zao (by omega) (by omega)])
theorem zfi {A P Q : Prop} (a : A) (h : Q) (e : A → Hd Q → P := by intro a h; (repeat' first | simp -dsimp only [↓zem, ↓zas, ↓zbe, ↓zen, ↓zeg, ↓zee, ↓zeh, ↓zef, ↓zbj, ↓zbf, ↓zbk, ↓zbg, ↓zei, ↓zbd, ↓zbl, ↓zbh, ↓zbm, ↓zbi, ↓zec, ↓zel, ↓zbc, ↓zbo, ↓zdY, ↓zdX, ↓zeb, iN, bT, bF, eN, ↓zcx, ↓unC, ↓zU, ↓zE, ↓zF, ↓zI, ↓zaa, ↓zaE, ↓zco, ↓zZ, ↓zbw, ↓zQ, ↓zl, ↓zm, ↓zbF, ↓zf, ↓zab, ↓zK, ↓zay, ↓zaD, ↓zc, ↓zy, ↓zi, ↓zr, ↓zai, ↓zcz, ↓zcG, ↓zal, ↓zap, ↓zax, ↓zaG, ↓zaN, ↓zj, ↓zad, ↓zG, ↓zq, ↓zX, zcE, zaZ, zaW, unA, zcH, bnd, zdj, zY, zac, zdk, dm, dm1, zJ, zar, zdD, zdC, zT, Q0, Q1, Q2, Q3, Q4, Q5, zS, zg, zp, zu, zC, Q6, Q7, Q8, Q9, Q10, Q11, Q12, Q13, Q14, Nat.reduceAdd, Q15, Int.reduceToNat, Q16, Q17, Q18, Q19, Q20, reduceIte, Q21, Q22, zA, rep, zV, zdZ, toD, zaj, Q23, Q24, Q25, Q26, Q27, Q28, Nat.reduceLeDiff, Q29, Nat.reduceSub, Q30, Q31, Q32, sc, Q33, Q34, Q35, Q36, Q37, Q26, Q38, Q39, zjL, zjI, zjF, zjM, zdO, zjJ, zjG, zjK, zjH, zdN, zdP, zjT, zjU, Bool.not_true, Bool.not_false, List.length_map, a] | with_reducible refine zkm ?_ | fail); exact h.go) : P := e a ⟨h⟩
theorem znz {σ : List zb} {x : ze} (hx : okO x.op) {K : AV → List zb → Prop} (hK : K (.d (.int .i64 (zB x))) σ) : zn Tryz.prog zgg [reqA x] σ K := by
  refine zfz e_r08_Check fun hl => ?_
  have fin : ∀ z, zB x = z → K (.d (.int .i64 z)) σ := fun z h => h ▸ hK
  clear hK
  simp only [zmx, iN, bT, bF, eN, reqA]
  refine zmQ ?_
  refine c_rKey ?_
  by_cases hc : x.client < 0 ∨ x.client ≥ 8
  · rw [if_pos hc]
    refine zfi (show decide ((-1 : Int) < 0) = true from rfl) ?_
    refine zam hl ?_
    exact fin _ (by rw [zB, if_pos (by omega)])
  · rw [if_neg hc]
    have h0 : decide (13 + x.client < 0) = false := by simp; omega
    (refine gq24 h0 ?_; try with_reducible exact True.intro)
    (repeat' (first | (refine zkB ?_; try with_reducible exact True.intro) | (refine zM (fun h => ?_) (fun h => ?_) <;> (try rw [h])) | ((with_reducible refine And.intro ?_ ?_); focus (first | omega | rfl | decide))))
    all_goals first
      | (refine zam hl ?_
         (try simp only [decide_eq_true_eq, decide_eq_false_iff_not, beq_iff_eq, beq_eq_false_iff_ne, bne_iff_ne, ne_eq, Bool.not_eq_true', Bool.not_eq_false', bne_eq_false_iff_eq] at *)
         exact fin _ (by rw [zB, if_pos (by omega)]))
      | skip
    refine c_rCheck (o := x.op) hx.1 hx.2.1 hx.2.2.1 ?_
    refine zmQ ?_
    refine zam hl ?_
    (try simp only [decide_eq_true_eq, decide_eq_false_iff_not, beq_iff_eq, beq_eq_false_iff_ne, bne_iff_ne, ne_eq, Bool.not_eq_true', Bool.not_eq_false', bne_eq_false_iff_eq] at *)
    exact fin _ (by rw [zB, if_neg (by omega)])
theorem zjb {σ : List zb} {k d : Int} {K : AV → List zb → Prop} (hK : K (.d (.int .i64 (zah k d))) σ) : zn Tryz.prog zcb [.agg [.d (.int .i64 k), .d (.int .i64 d)]] σ K := by
  refine zfz zir fun hl => ?_
  have fin : ∀ z, zah k d = z → K (.d (.int .i64 z)) σ := fun z h => h ▸ hK
  clear hK
  simp only [zfc, iN, bT, bF, eN]
  (repeat' (first | (refine zkB ?_; try with_reducible exact True.intro) | (refine zM (fun h => ?_) (fun h => ?_) <;> (try rw [h])) | ((with_reducible refine And.intro ?_ ?_); focus (first | omega | rfl | decide))))
  all_goals
    refine zam hl ?_
    (try simp only [decide_eq_true_eq, decide_eq_false_iff_not, beq_iff_eq, beq_eq_false_iff_ne, bne_iff_ne, ne_eq, Bool.not_eq_true', Bool.not_eq_false', bne_eq_false_iff_eq] at *)
    first | exact fin _ (by rw [zah, if_pos (by omega)]) | exact fin _ (by rw [zah, if_neg (by omega)])
theorem zhX {σ : List zb} {k d : Int} {K : AV → List zb → Prop} (hK : K (.d (.int .i64 (zah k d))) σ) : zn Tryz.prog zdr [.agg [.d (.int .i64 k), .d (.int .i64 d)]] σ K := by
  refine zfz zmk fun hl => ?_
  have fin : ∀ z, zah k d = z → K (.d (.int .i64 z)) σ := fun z h => h ▸ hK
  clear hK
  simp only [zhr, iN, bT, bF, eN]
  (repeat' (first | (refine zkB ?_; try with_reducible exact True.intro) | (refine zM (fun h => ?_) (fun h => ?_) <;> (try rw [h])) | ((with_reducible refine And.intro ?_ ?_); focus (first | omega | rfl | decide))))
  all_goals
    refine zam hl ?_
    (try simp only [decide_eq_true_eq, decide_eq_false_iff_not, beq_iff_eq, beq_eq_false_iff_ne, bne_iff_ne, ne_eq, Bool.not_eq_true', Bool.not_eq_false', bne_eq_false_iff_eq] at *)
    first | exact fin _ (by rw [zah, if_pos (by omega)]) | exact fin _ (by rw [zah, if_neg (by omega)])
end Go.Proofs.YtjjchfbckfopkaaGreat

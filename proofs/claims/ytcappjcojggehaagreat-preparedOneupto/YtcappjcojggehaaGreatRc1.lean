/- Contracts: what is wrong with requests, signatures and batches, on both sides. -/
import Derived.Test.YtcappjcojggehaaGreatOp2
import Derived.Test.YtcappjcojggehaaGreatOpS
set_option linter.all false
set_option maxRecDepth 100000
set_option linter.unusedSimpArgs false
set_option linter.unusedVariables false
namespace Go.Proofs.YtcappjcojggehaaGreat
open Go.AW

theorem zmI {P Q : Prop} (h : Q) (e : P = Q := by simp -dsimp only [↓zcI, ↓zai, ↓zaH, ↓zcJ, ↓zcE, ↓zcC, ↓zcF, ↓zcD, ↓zaM, ↓zaI, ↓zaN, ↓zaJ, ↓zcG, ↓zaG, ↓zaO, ↓zaK, ↓zaP, ↓zaL, ↓zcB, ↓zcH, ↓zaF, ↓zaQ, ↓zcy, ↓zcx, ↓zcA, iN, bT, bF, eN, ↓zbL, ↓unC, ↓zH, ↓zw, ↓zx, ↓zB, ↓zK, ↓zaz, ↓zbv, ↓zY, ↓zbh, ↓zP, ↓zr, ↓zp, ↓zbj, ↓zf, ↓zU, ↓zF, ↓zan, ↓zas, ↓zc, ↓zC, ↓zj, ↓zl, ↓zab, ↓zbK, ↓zbJ, ↓zae, ↓zah, ↓zam, ↓zav, ↓zaB, ↓zg, ↓zW, ↓zy, ↓zi, ↓zJ, zbM, zaE, zaD, unA, zbQ, bnd, zcb, zQ, zag, zcd, dm, dm1, zM, zao, zcr, zcq, zS, Q0, Q1, Q2, Q3, Q4, Q5, zG, zh, zn, zq, zt, Q6, Q7, Q8, Q9, Q10, Q11, Q12, Q13, Q14, Nat.reduceAdd, Q15, Int.reduceToNat, Q16, Q17, Q18, Q19, Q20, reduceIte, Q21, Q22, zm, rep, zL, zcz, toD, zac, Q23, Q24, Q25, Q26, Q27, Q28, Nat.reduceLeDiff, Q29, Nat.reduceSub, Q30, Q31, Q32, sc, Q33, Q34, Q35, Q36, Q37, Q26, Q38, Q39, zfa, zeX, zeU, zfb, zbC, zeY, zeV, zeZ, zeW, zbB, zbD, zfd, zfe, Bool.not_true, Bool.not_false, List.length_map]; rfl) : P := e.mpr h
theorem c_rqCheck {σ : List zb} {x : zd} (hx : okO x.op) {K : AV → List zb → Prop} (hK : K (.d (.int .i64 (zI x))) σ) : zN Tryz.prog zdo [reqA x] σ K := by
  refine zk zhw.is rfl fun hl _ => zhw.goes ?_
  have fin : ∀ z, zI x = z → K (.d (.int .i64 z)) σ := fun z h => h ▸ hK
  clear hK
  simp only [zhH, iN, bT, bF, eN, reqA]
  (repeat' (first | (refine zkv ?_; try with_reducible exact True.intro) | (refine zZ (fun h => ?_) (fun h => ?_) <;> (try rw [h])) | ((with_reducible refine And.intro ?_ ?_); focus (first | omega | rfl | decide))))
  all_goals first
    | ((first | refine zar hl ?_ | refine zaq hl ?_)
       (try simp only [decide_eq_true_eq, decide_eq_false_iff_not, beq_iff_eq, beq_eq_false_iff_ne, bne_iff_ne, ne_eq, Bool.not_eq_true', Bool.not_eq_false', bne_eq_false_iff_eq] at *)
       exact fin _ (by rw [zI, if_pos (by omega)]))
    | skip
  refine c_Check (o := x.op) hx.1 hx.2.1 hx.2.2.1 ?_
  (repeat' first | refine zmI ?_ | with_reducible first | exact ⟨⟩ | refine zA ?_ | fail)
  (first | refine zar hl ?_ | refine zaq hl ?_)
  (try simp only [decide_eq_true_eq, decide_eq_false_iff_not, beq_iff_eq, beq_eq_false_iff_ne, bne_iff_ne, ne_eq, Bool.not_eq_true', Bool.not_eq_false', bne_eq_false_iff_eq] at *)
  exact fin _ (by rw [zI, if_neg (by omega)])
theorem c_rKey {σ : List zb} {c : Int} {K : AV → List zb → Prop} (hK : K (.d (.int .i64 (if c < 0 ∨ c ≥ 8 then -1 else 13 + c))) σ) : zN Tryz.prog zhn [.d (.int .i64 c)] σ K := by
  refine zk e_r08_Key.is rfl fun hl _ => e_r08_Key.goes ?_
  have fin : ∀ z, (if c < 0 ∨ c ≥ 8 then -1 else 13 + c) = z → K (.d (.int .i64 z)) σ := fun z h => h ▸ hK
  clear hK
  simp only [S_r08_Key, iN, bT, bF, eN]
  (repeat' (first | (refine zkv ?_; try with_reducible exact True.intro) | (refine zZ (fun h => ?_) (fun h => ?_) <;> (try rw [h])) | ((with_reducible refine And.intro ?_ ?_); focus (first | omega | rfl | decide))))
  all_goals
    (first | refine zar hl ?_ | refine zaq hl ?_)
    (try simp only [decide_eq_true_eq, decide_eq_false_iff_not, beq_iff_eq, beq_eq_false_iff_ne, bne_iff_ne, ne_eq, Bool.not_eq_true', Bool.not_eq_false', bne_eq_false_iff_eq] at *)
  · exact fin _ (by rw [if_pos (by omega)])
  · exact fin _ (by rw [if_pos (by omega)])
  · exact fin _ (by rw [if_neg (by omega), zaj (by omega) (by omega)])
theorem zff {A P Q : Prop} (a : A) (h : Q) (e : A → P = Q := by intro a; simp -dsimp only [↓zcI, ↓zai, ↓zaH, ↓zcJ, ↓zcE, ↓zcC, ↓zcF, ↓zcD, ↓zaM, ↓zaI, ↓zaN, ↓zaJ, ↓zcG, ↓zaG, ↓zaO, ↓zaK, ↓zaP, ↓zaL, ↓zcB, ↓zcH, ↓zaF, ↓zaQ, ↓zcy, ↓zcx, ↓zcA, iN, bT, bF, eN, ↓zbL, ↓unC, ↓zH, ↓zw, ↓zx, ↓zB, ↓zK, ↓zaz, ↓zbv, ↓zY, ↓zbh, ↓zP, ↓zr, ↓zp, ↓zbj, ↓zf, ↓zU, ↓zF, ↓zan, ↓zas, ↓zc, ↓zC, ↓zj, ↓zl, ↓zab, ↓zbK, ↓zbJ, ↓zae, ↓zah, ↓zam, ↓zav, ↓zaB, ↓zg, ↓zW, ↓zy, ↓zi, ↓zJ, zbM, zaE, zaD, unA, zbQ, bnd, zcb, zQ, zag, zcd, dm, dm1, zM, zao, zcr, zcq, zS, Q0, Q1, Q2, Q3, Q4, Q5, zG, zh, zn, zq, zt, Q6, Q7, Q8, Q9, Q10, Q11, Q12, Q13, Q14, Nat.reduceAdd, Q15, Int.reduceToNat, Q16, Q17, Q18, Q19, Q20, reduceIte, Q21, Q22, zm, rep, zL, zcz, toD, zac, Q23, Q24, Q25, Q26, Q27, Q28, Nat.reduceLeDiff, Q29, Nat.reduceSub, Q30, Q31, Q32, sc, Q33, Q34, Q35, Q36, Q37, Q26, Q38, Q39, zfa, zeX, zeU, zfb, zbC, zeY, zeV, zeZ, zeW, zbB, zbD, zfd, zfe, Bool.not_true, Bool.not_false, List.length_map, a]; rfl) : P := (e a).mpr h
theorem znE {σ : List zb} {x : zd} (hx : okO x.op) {K : AV → List zb → Prop} (hK : K (.d (.int .i64 (zI x))) σ) : zN Tryz.prog zgp [reqA x] σ K := by
  refine zk zlU.is rfl fun hl _ => zlU.goes ?_
  have fin : ∀ z, zI x = z → K (.d (.int .i64 z)) σ := fun z h => h ▸ hK
  clear hK
  simp only [zmp, iN, bT, bF, eN, reqA]
  (repeat' first | refine zmI ?_ | with_reducible first | exact ⟨⟩ | refine zA ?_ | fail)
  refine c_rKey ?_
  by_cases hc : x.client < 0 ∨ x.client ≥ 8
  · rw [if_pos hc]
    (repeat' first | refine zff (show decide ((-1 : Int) < 0) = true from rfl) ?_ | with_reducible first | exact ⟨⟩ | refine zA ?_ | fail)
    (first | refine zar hl ?_ | refine zaq hl ?_)
    exact fin _ (by rw [zI, if_pos (by omega)])
  · rw [if_neg hc]
    have h0 : decide (13 + x.client < 0) = false := by simp; omega
    (refine gq29 h0 ?_; try with_reducible exact True.intro)
    (repeat' (first | (refine zkv ?_; try with_reducible exact True.intro) | (refine zZ (fun h => ?_) (fun h => ?_) <;> (try rw [h])) | ((with_reducible refine And.intro ?_ ?_); focus (first | omega | rfl | decide))))
    all_goals first
      | ((first | refine zar hl ?_ | refine zaq hl ?_)
         (try simp only [decide_eq_true_eq, decide_eq_false_iff_not, beq_iff_eq, beq_eq_false_iff_ne, bne_iff_ne, ne_eq, Bool.not_eq_true', Bool.not_eq_false', bne_eq_false_iff_eq] at *)
         exact fin _ (by rw [zI, if_pos (by omega)]))
      | skip
    refine c_rCheck (o := x.op) hx.1 hx.2.1 hx.2.2.1 ?_
    (repeat' first | refine zmI ?_ | with_reducible first | exact ⟨⟩ | refine zA ?_ | fail)
    (first | refine zar hl ?_ | refine zaq hl ?_)
    (try simp only [decide_eq_true_eq, decide_eq_false_iff_not, beq_iff_eq, beq_eq_false_iff_ne, bne_iff_ne, ne_eq, Bool.not_eq_true', Bool.not_eq_false', bne_eq_false_iff_eq] at *)
    exact fin _ (by rw [zI, if_neg (by omega)])
theorem zjk {σ : List zb} {k d : Int} {K : AV → List zb → Prop} (hK : K (.d (.int .i64 (zal k d))) σ) : zN Tryz.prog zcf [.agg [.d (.int .i64 k), .d (.int .i64 d)]] σ K := by
  refine zk zeD.is rfl fun hl _ => zeD.goes ?_
  have fin : ∀ z, zal k d = z → K (.d (.int .i64 z)) σ := fun z h => h ▸ hK
  clear hK
  simp only [zeM, iN, bT, bF, eN]
  (repeat' (first | (refine zkv ?_; try with_reducible exact True.intro) | (refine zZ (fun h => ?_) (fun h => ?_) <;> (try rw [h])) | ((with_reducible refine And.intro ?_ ?_); focus (first | omega | rfl | decide))))
  all_goals
    (first | refine zar hl ?_ | refine zaq hl ?_)
    (try simp only [decide_eq_true_eq, decide_eq_false_iff_not, beq_iff_eq, beq_eq_false_iff_ne, bne_iff_ne, ne_eq, Bool.not_eq_true', Bool.not_eq_false', bne_eq_false_iff_eq] at *)
    first | exact fin _ (by rw [zal, if_pos (by omega)]) | exact fin _ (by rw [zal, if_neg (by omega)])
theorem zil {σ : List zb} {k d : Int} {K : AV → List zb → Prop} (hK : K (.d (.int .i64 (zal k d))) σ) : zN Tryz.prog zdq [.agg [.d (.int .i64 k), .d (.int .i64 d)]] σ K := by
  refine zk zhz.is rfl fun hl _ => zhz.goes ?_
  have fin : ∀ z, zal k d = z → K (.d (.int .i64 z)) σ := fun z h => h ▸ hK
  clear hK
  simp only [zhK, iN, bT, bF, eN]
  (repeat' (first | (refine zkv ?_; try with_reducible exact True.intro) | (refine zZ (fun h => ?_) (fun h => ?_) <;> (try rw [h])) | ((with_reducible refine And.intro ?_ ?_); focus (first | omega | rfl | decide))))
  all_goals
    (first | refine zar hl ?_ | refine zaq hl ?_)
    (try simp only [decide_eq_true_eq, decide_eq_false_iff_not, beq_iff_eq, beq_eq_false_iff_ne, bne_iff_ne, ne_eq, Bool.not_eq_true', Bool.not_eq_false', bne_eq_false_iff_eq] at *)
    first | exact fin _ (by rw [zal, if_pos (by omega)]) | exact fin _ (by rw [zal, if_neg (by omega)])
end Go.Proofs.YtcappjcojggehaaGreat

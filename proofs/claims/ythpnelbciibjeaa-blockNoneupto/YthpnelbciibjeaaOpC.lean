/- Contracts: an operation in memory of its own. -/
import Derived.Test.YthpnelbciibjeaaCl1
import Derived.Test.YthpnelbciibjeaaSpNum
import Derived.Test.YthpnelbciibjeaaSh
import Derived.Test.YthpnelbciibjeaaOp1
import Derived.Test.YthpnelbciibjeaaSpUtf
set_option linter.all false
set_option maxRecDepth 100000
set_option linter.unusedSimpArgs false
namespace Go.Proofs.Ythpnelbciibjeaa
open Go.AW



def reqA (x : zh) : AV := .agg [.d (.int .i64 x.client), .d (.int .i64 x.time), .d (.int .i64 x.op.kind), .d (.str x.op.topic), .d (.str x.op.group), .d (.int .i64 x.op.offset), .d (.slice (zbK x.op.recs))]

theorem gq21 {P Q : Prop} (h : Q) (e : Hd Q → P := by intro h; (repeat' first | simp -dsimp only [↓ziv, ↓zbi, ↓zcW, ↓zix, ↓zio, ↓zim, ↓ziq, ↓zin, ↓zdb, ↓zcX, ↓zdc, ↓zcY, ↓zir, ↓zcU, ↓zdd, ↓zcZ, ↓zde, ↓zda, ↓zil, ↓ziu, ↓zcS, ↓zdf, ↓zia, ↓zhZ, ↓zij, iN, bT, bF, eN, ↓zeU, ↓unC, ↓zah, ↓zR, ↓zS, ↓zad, ↓zaG, ↓zbl, ↓zea, ↓zaj, ↓zcA, ↓zau, ↓zu, ↓zo, ↓zcT, ↓zi, ↓zax, ↓zac, ↓zbm, ↓zbg, ↓zd, ↓zK, ↓zq, ↓zJ, ↓zaI, ↓zeE, ↓zfi, ↓zat, ↓zaW, ↓zaY, ↓zbC, ↓zck, ↓zG, ↓zaA, ↓zQ, ↓zF, ↓zaE, zfb, zcF, zcr, unA, zfm, bnd, zfY, zap, zaw, zfQ, dm, dm1, zA, zaT, zgP, zgO, zZ, Q0, Q1, Q2, Q3, Q4, Q5, zaD, zI, zr, zav, zW, Q6, Q7, Q8, Q9, Q10, Q11, Q12, Q13, Q14, Nat.reduceAdd, Q15, Int.reduceToNat, Q16, Q17, Q18, Q19, Q20, reduceIte, Q21, Q22, zD, rep, zT, zgN, toD, zan, Q23, Q24, Q25, Q26, Q27, Q28, Nat.reduceLeDiff, Q29, Nat.reduceSub, Q30, Q31, Q32, sc, Q33, Q34, Q35, Q36, Q37, Q26, Q38, Q39, n0gt, n1gt, n2gt, n0eq, zhd, n1eq, n2eq, n0ne, n1ne, zhc, zhe, i0ne, i0eq, Bool.not_true, Bool.not_false, List.length_map] | with_reducible refine andA ?_ | fail); exact h.go) : P := e ⟨h⟩
theorem c_rqCheck {σ : List zc} {x : zh} (hx : okO x.op) {K : AV → List zc → Prop} (hK : K (.d (.int .i64 (zao x))) σ) : zj Try.prog zdB [reqA x] σ K := by
  refine zhr zlR fun hl => ?_
  have fin : ∀ z, zao x = z → K (.d (.int .i64 z)) σ := fun z h => h ▸ hK
  clear hK
  simp only [zht, iN, bT, bF, eN, reqA]
  (repeat' (first | (refine gq9 ?_; try with_reducible exact True.intro) | (refine zbf (fun h => ?_) (fun h => ?_) <;> (try rw [h])) | ((with_reducible refine And.intro ?_ ?_); focus (first | omega | rfl | decide))))
  all_goals first
    | (refine zbD hl ?_
       (try simp only [decide_eq_true_eq, decide_eq_false_iff_not, beq_iff_eq, beq_eq_false_iff_ne, bne_iff_ne, ne_eq, Bool.not_eq_true', Bool.not_eq_false', bne_eq_false_iff_eq] at *)
       exact fin _ (by rw [zao, if_pos (by omega)]))
    | skip
  refine c_Check (o := x.op) hx.1 hx.2.1 hx.2.2.1 ?_
  refine gq21 ?_
  refine zbD hl ?_
  (try simp only [decide_eq_true_eq, decide_eq_false_iff_not, beq_iff_eq, beq_eq_false_iff_ne, bne_iff_ne, ne_eq, Bool.not_eq_true', Bool.not_eq_false', bne_eq_false_iff_eq] at *)
  exact fin _ (by rw [zao, if_neg (by omega)])
theorem zju {σ : List zc} {k d : Int} {K : AV → List zc → Prop} (hK : K (.d (.int .i64 (zaF k d))) σ) : zj Try.prog zbV [.agg [.d (.int .i64 k), .d (.int .i64 d)]] σ K := by
  refine zhr ziN fun hl => ?_
  have fin : ∀ z, zaF k d = z → K (.d (.int .i64 z)) σ := fun z h => h ▸ hK
  clear hK
  simp only [zfu, iN, bT, bF, eN]
  (repeat' (first | (refine gq9 ?_; try with_reducible exact True.intro) | (refine zbf (fun h => ?_) (fun h => ?_) <;> (try rw [h])) | ((with_reducible refine And.intro ?_ ?_); focus (first | omega | rfl | decide))))
  all_goals
    refine zbD hl ?_
    (try simp only [decide_eq_true_eq, decide_eq_false_iff_not, beq_iff_eq, beq_eq_false_iff_ne, bne_iff_ne, ne_eq, Bool.not_eq_true', Bool.not_eq_false', bne_eq_false_iff_eq] at *)
    first | exact fin _ (by rw [zaF, if_pos (by omega)]) | exact fin _ (by rw [zaF, if_neg (by omega)])
end Go.Proofs.Ythpnelbciibjeaa

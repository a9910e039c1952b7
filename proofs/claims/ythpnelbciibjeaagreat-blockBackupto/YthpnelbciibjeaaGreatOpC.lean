/- Contracts: an operation in memory of its own. -/
import Derived.Test.YthpnelbciibjeaaGreatCl1
import Derived.Test.YthpnelbciibjeaaGreatSpNum
import Derived.Test.YthpnelbciibjeaaGreatSh
import Derived.Test.YthpnelbciibjeaaGreatOp1
import Derived.Test.YthpnelbciibjeaaGreatSpUtf
set_option linter.all false
set_option maxRecDepth 100000
set_option linter.unusedSimpArgs false
namespace Go.Proofs.YthpnelbciibjeaaGreat
open Go.AW



def reqA (x : zi) : AV := .agg [.d (.int .i64 x.client), .d (.int .i64 x.time), .d (.int .i64 x.op.kind), .d (.str x.op.topic), .d (.str x.op.group), .d (.int .i64 x.op.offset), .d (.slice (zbM x.op.recs))]

theorem gq21 {P Q : Prop} (h : Q) (e : Hd Q → P := by intro h; (repeat' first | simp -dsimp only [↓zit, ↓zbj, ↓zcR, ↓ziu, ↓zik, ↓zii, ↓zil, ↓zij, ↓zcW, ↓zcS, ↓zcX, ↓zcT, ↓zim, ↓zcN, ↓zcY, ↓zcU, ↓zcZ, ↓zcV, ↓zig, ↓zis, ↓zcL, ↓zda, ↓zic, ↓zib, ↓zif, iN, bT, bF, eN, ↓zet, ↓unC, ↓zW, ↓zR, ↓zS, ↓zY, ↓zaD, ↓zbk, ↓zdA, ↓zac, ↓zcB, ↓zaz, ↓zr, ↓zm, ↓zcr, ↓zh, ↓zau, ↓zab, ↓zbl, ↓zbi, ↓zd, ↓zK, ↓zn, ↓zI, ↓zay, ↓zeF, ↓zfd, ↓zaf, ↓zaT, ↓zba, ↓zbx, ↓zcd, ↓zG, ↓zav, ↓zO, ↓zC, ↓zaC, zeX, zcz, zcq, unA, zeU, bnd, zgc, zaj, zat, zfI, dm, dm1, zA, zaQ, zgP, zgO, zal, Q0, Q1, Q2, Q3, Q4, Q5, zaB, zy, zq, zar, zU, Q6, Q7, Q8, Q9, Q10, Q11, Q12, Q13, Q14, Nat.reduceAdd, Q15, Int.reduceToNat, Q16, Q17, Q18, Q19, Q20, reduceIte, Q21, Q22, zE, rep, zT, zgz, toD, zae, Q23, Q24, Q25, Q26, Q27, Q28, Nat.reduceLeDiff, Q29, Nat.reduceSub, Q30, Q31, Q32, sc, Q33, Q34, Q35, Q36, Q37, Q26, Q38, Q39, n0gt, n1gt, n2gt, n0eq, ziS, n1eq, n2eq, n0ne, n1ne, ziR, ziT, i0ne, i0eq, Bool.not_true, Bool.not_false, List.length_map] | with_reducible refine andA ?_ | fail); exact h.go) : P := e ⟨h⟩
theorem c_rqCheck {σ : List zc} {x : zi} (hx : okO x.op) {K : AV → List zc → Prop} (hK : K (.d (.int .i64 (zan x))) σ) : zt Tryz.prog zdF [reqA x] σ K := by
  refine ziI zmx fun hl => ?_
  have fin : ∀ z, zan x = z → K (.d (.int .i64 z)) σ := fun z h => h ▸ hK
  clear hK
  simp only [zhy, iN, bT, bF, eN, reqA]
  (repeat' (first | (refine gq9 ?_; try with_reducible exact True.intro) | (refine zaG (fun h => ?_) (fun h => ?_) <;> (try rw [h])) | ((with_reducible refine And.intro ?_ ?_); focus (first | omega | rfl | decide))))
  all_goals first
    | (refine zcg hl ?_
       (try simp only [decide_eq_true_eq, decide_eq_false_iff_not, beq_iff_eq, beq_eq_false_iff_ne, bne_iff_ne, ne_eq, Bool.not_eq_true', Bool.not_eq_false', bne_eq_false_iff_eq] at *)
       exact fin _ (by rw [zan, if_pos (by omega)]))
    | skip
  refine c_Check (o := x.op) hx.1 hx.2.1 hx.2.2.1 ?_
  refine gq21 ?_
  refine zcg hl ?_
  (try simp only [decide_eq_true_eq, decide_eq_false_iff_not, beq_iff_eq, beq_eq_false_iff_ne, bne_iff_ne, ne_eq, Bool.not_eq_true', Bool.not_eq_false', bne_eq_false_iff_eq] at *)
  exact fin _ (by rw [zan, if_neg (by omega)])
theorem zjQ {σ : List zc} {k d : Int} {K : AV → List zc → Prop} (hK : K (.d (.int .i64 (zaE k d))) σ) : zt Tryz.prog zbT [.agg [.d (.int .i64 k), .d (.int .i64 d)]] σ K := by
  refine ziI zjb fun hl => ?_
  have fin : ∀ z, zaE k d = z → K (.d (.int .i64 z)) σ := fun z h => h ▸ hK
  clear hK
  simp only [zfA, iN, bT, bF, eN]
  (repeat' (first | (refine gq9 ?_; try with_reducible exact True.intro) | (refine zaG (fun h => ?_) (fun h => ?_) <;> (try rw [h])) | ((with_reducible refine And.intro ?_ ?_); focus (first | omega | rfl | decide))))
  all_goals
    refine zcg hl ?_
    (try simp only [decide_eq_true_eq, decide_eq_false_iff_not, beq_iff_eq, beq_eq_false_iff_ne, bne_iff_ne, ne_eq, Bool.not_eq_true', Bool.not_eq_false', bne_eq_false_iff_eq] at *)
    first | exact fin _ (by rw [zaE, if_pos (by omega)]) | exact fin _ (by rw [zaE, if_neg (by omega)])
end Go.Proofs.YthpnelbciibjeaaGreat

/- Contracts: headers, and records at their places, on both sides. -/
import Derived.Test.YtaocmalhjfakdaaMk2
import Derived.Test.YtaocmalhjfakdaaId2
import Derived.Test.YtaocmalhjfakdaaCodec1
import Derived.Test.YtaocmalhjfakdaaSpNum
set_option linter.all false
set_option maxRecDepth 100000
set_option linter.unusedSimpArgs false
set_option linter.unusedVariables false
namespace Go.Proofs.Ytaocmalhjfakdaa
open Go.AW

theorem max0 (x : Int) : (if 0 > x then 0 else x) = ((x.toNat : Nat) : Int) ∧ (if x > 0 then x else 0) = ((x.toNat : Nat) : Int) := by
  constructor <;> split <;> omega
theorem zaZ {A P Q : Prop} (a : A) (h : Q) (e : A → Hd Q → P := by intro a h; (repeat' first | simp -dsimp only [↓zhp, ↓zbg, ↓zcG, ↓zht, ↓zhb, ↓zgZ, ↓zhc, ↓zha, ↓zcM, ↓zcI, ↓zcN, ↓zcJ, ↓zhe, ↓zcD, ↓zcO, ↓zcK, ↓zcP, ↓zcL, ↓zgX, ↓zhn, ↓zcC, ↓zcQ, ↓zgJ, ↓zgI, ↓zgT, iN, bT, bF, eN, ↓zeg, ↓unC, ↓zaj, ↓zQ, ↓zR, ↓zad, ↓zaw, ↓zbd, ↓zdI, ↓zam, ↓zcm, ↓zal, ↓zo, ↓zl, ↓zbR, ↓zh, ↓zag, ↓zL, ↓zaX, ↓zaV, ↓zd, ↓zr, ↓zn, ↓zC, ↓zan, ↓zeb, ↓zej, ↓zaF, ↓zaN, ↓zaK, ↓zby, ↓zbS, ↓zA, ↓zak, ↓zS, ↓zE, ↓zat, zeh, zcf, zcd, unA, zek, bnd, zeV, zab, zT, zeU, dm, dm1, zt, zaL, zfO, zfN, zW, Q0, Q1, Q2, Q3, Q4, Q5, zax, zB, zu, zas, zX, Q6, Q7, Q8, Q9, Q10, Q11, Q12, Q13, Q14, Nat.reduceAdd, Q15, Int.reduceToNat, Q16, Q17, Q18, Q19, Q20, reduceIte, Q21, Q22, zI, rep, zP, zgG, toD, zah, Q23, Q24, Q25, Q26, Q27, Q28, Nat.reduceLeDiff, Q29, Nat.reduceSub, Q30, Q31, Q32, sc, Q33, Q34, Q35, Q36, Q37, Q26, Q38, Q39, n0gt, n1gt, n2gt, n0eq, ziz, n1eq, n2eq, n0ne, n1ne, ziy, ziA, i0ne, i0eq, Bool.not_true, Bool.not_false, List.length_map, a] | with_reducible refine andA ?_ | fail); exact h.go) : P := e a ⟨h⟩
theorem c_r7put {σ : List zb} {b : List UInt8} {n : Nat} (hb : b.length ≤ 1073741000) (hn : n < 9223372036854775808) {K : AV → List zb → Prop} (hK : K (.d (.slice (bcs (b ++ zeK n)))) σ) : zi Try.prog ziv [.d (.slice (bcs b)), .d (.int .i64 n)] σ K := by
  refine acE2 e_r07_put fun hl => ?_
  have hw : IntKind.u64.wrap (n : Int) = (n : Int) := zig (by omega)
  simp only [S_r07_put, iN, bT, bF, eN]
  refine zaZ hw ?_
  refine c_rPutNum (by omega) (by omega) ?_
  refine gq1 ?_
  refine zdG hl ?_
  exact hK
structure zkg (p : zcS) : Prop where
  off : i64r p.offset
  topic : p.topic.length ≤ 16777216
  rec_ : p.rec_.length ≤ 16777216
theorem gq19 {A P Q : Prop} (a : A) (h : Q) (e : A → Hd Q → P := by intro a h; (repeat' first | simp -dsimp only [↓zhp, ↓zbg, ↓zcG, ↓zht, ↓zhb, ↓zgZ, ↓zhc, ↓zha, ↓zcM, ↓zcI, ↓zcN, ↓zcJ, ↓zhe, ↓zcD, ↓zcO, ↓zcK, ↓zcP, ↓zcL, ↓zgX, ↓zhn, ↓zcC, ↓zcQ, ↓zgJ, ↓zgI, ↓zgT, iN, bT, bF, eN, ↓zeg, ↓unC, ↓zaj, ↓zQ, ↓zR, ↓zad, ↓zaw, ↓zbd, ↓zdI, ↓zam, ↓zcm, ↓zal, ↓zo, ↓zl, ↓zbR, ↓zh, ↓zag, ↓zL, ↓zaX, ↓zaV, ↓zd, ↓zr, ↓zn, ↓zC, ↓zan, ↓zeb, ↓zej, ↓zaF, ↓zaN, ↓zaK, ↓zby, ↓zbS, ↓zA, ↓zak, ↓zS, ↓zE, ↓zat, zeh, zcf, zcd, unA, zek, bnd, zeV, zab, zT, zeU, dm, dm1, zt, zaL, zfO, zfN, zW, Q0, Q1, Q2, Q3, Q4, Q5, zax, zB, zu, zas, zX, Q6, Q7, Q8, Q9, Q10, Q11, Q12, Q13, Q14, Nat.reduceAdd, Q15, Int.reduceToNat, Q16, Q17, Q18, Q19, Q20, reduceIte, Q21, Q22, zI, rep, zP, zgG, toD, zah, Q23, Q24, Q25, Q26, Q27, Q28, Nat.reduceLeDiff, Q29, Nat.reduceSub, Q30, Q31, Q32, sc, Q33, Q34, Q35, Q36, Q37, Q26, Q38, Q39, n0gt, n1gt, n2gt, n0eq, ziz, n1eq, n2eq, n0ne, n1ne, ziy, ziA, i0ne, i0eq, Bool.not_true, Bool.not_false, List.length_map, List.nil_append, m1, a] | with_reducible refine andA ?_ | fail); exact h.go) : P := e a ⟨h⟩
theorem c_r7Placed {σ : List zb} {p : zcS} (hp : zkg p) {K : AV → List zb → Prop} (hK : K (.d (.slice (bcs (zgO p)))) σ) : zi Try.prog zcE [.agg [.d (.str p.topic), .d (.int .i64 p.offset), .d (.slice (bcs p.rec_))]] σ K := by
  refine acE1 zhl fun hl => ?_
  have ht := hp.topic; have hr := hp.rec_; have ho := hp.off
  have hlt := zbb (n := p.topic.length) (by omega)
  have hon : p.offset.toNat < 9223372036854775808 := by have := ho.2; omega
  have hlo := zbb (n := p.offset.toNat) (by omega)
  obtain ⟨m1, m2⟩ := max0 p.offset
  simp only [zex, iN, bT, bF, eN]
  refine gq1 ?_
  refine ziX (b := []) (x := p.topic) (by omega) (by simp) ?_
  refine gq19 m2 ?_
  refine c_r7put (b := zeK p.topic.length ++ p.topic) (by simp; omega) hon ?_
  refine gq1 ?_
  refine ziX (by omega) (by simp; omega) ?_
  refine gq1 ?_
  refine zdG hl ?_
  simp only [zgO, putB, List.append_assoc] at hK ⊢
  exact hK
theorem gqc1 {A B : Prop} (a : A) (b : B) : A ∧ B := ⟨a, b⟩
theorem c_toPlaced {σ : List zb} {p : zcS} (hp : zkg p) {K : AV → List zb → Prop} (hK : K (.d (.slice (bcs (zgO p)))) σ) : zi Try.prog zbN [.agg [.d (.str p.topic), .d (.int .i64 p.offset), .d (.slice (bcs p.rec_))]] σ K := by
  refine acE1 zfG fun hl => ?_
  have ht := hp.topic; have hr := hp.rec_; have ho := hp.off
  have hlt := zbb (n := p.topic.length) (by omega)
  have hon : p.offset.toNat < 9223372036854775808 := by have := ho.2; omega
  have hlo := zbb (n := p.offset.toNat) (by omega)
  obtain ⟨m1, m2⟩ := max0 p.offset
  have m3 : (if p.offset > 0 then p.offset else 0) = ((p.offset.toNat : Nat) : Int) := m2
  have hw : IntKind.u64.wrap ((p.offset.toNat : Nat) : Int) = ((p.offset.toNat : Nat) : Int) := zig (by omega)
  simp only [zdx, iN, bT, bF, eN]
  refine gq1 ?_
  refine zjT (b := []) (x := p.topic) (by omega) (by simp) ?_
  refine gq19 (gqc1 m2 hw) ?_
  refine c_PutNum (b := zeK p.topic.length ++ p.topic) (by omega) (by simp; omega) ?_
  refine gq1 ?_
  refine zjT (by omega) (by simp; omega) ?_
  refine gq1 ?_
  refine zdG hl ?_
  simp only [zgO, putB, List.append_assoc] at hK ⊢
  exact hK
end Go.Proofs.Ytaocmalhjfakdaa

/- Contracts of operations: which are the same. -/
import Derived.Test.YtfgbofkdhfjegaaGreatCodec1
import Derived.Test.YtfgbofkdhfjegaaGreatCl1
import Derived.Test.YtfgbofkdhfjegaaGreatSpUtf
set_option linter.all false
set_option maxRecDepth 100000
namespace Go.Proofs.YtfgbofkdhfjegaaGreat
open Go.AW
theorem gq16 {P Q : Prop} (h : Q) (e : P = Q := by simp -dsimp only [↓zfT, ↓zaI, ↓zbP, ↓zfV, ↓zfN, ↓zfL, ↓zfO, ↓zfM, ↓zbU, ↓zbQ, ↓zbV, ↓zbR, ↓zfP, ↓zbN, ↓zbW, ↓zbS, ↓zbX, ↓zbT, ↓zfK, ↓zfQ, ↓zbM, ↓zbY, ↓zfF, ↓zfE, ↓zfH,iN,bT,bF,eN, ↓zcJ, ↓unC, ↓zaa, ↓zK, ↓zL, ↓zO, ↓zaf, ↓zaz, ↓zcK, ↓zar, ↓zbk, ↓zR, ↓zo, ↓zj, ↓zbz, ↓zg, ↓zam, ↓zH, ↓zaV, ↓zbc, ↓ze, ↓zB, ↓zu, ↓zC, ↓zap, ↓zdk, ↓zdO, ↓zav, ↓zaF, ↓zaZ, ↓zbj, ↓zbt, ↓zA, ↓zas, ↓zM, ↓zF, ↓zae,zdP,zbI,zbC,unA,zdL,bnd,zeq,zag,zQ,zek,dm,dm1,zD,zak,zeP,zeO,zP,Q0,Q1,Q2,Q3,Q4,Q5,zW,zt,zy,zN,zJ,Q6,Q7,Q8,Q9,Q10,Q11,Q12,Q13,Q14,Nat.reduceAdd,Q15,Int.reduceToNat,Q16,Q17,Q18,Q19,Q20,reduceIte,Q21,Q22,ztF,zG]; rfl) : P := e.mpr h
theorem c_Same_1 {σ : List zh} {a b : List UInt8} {K : KT} (hK : K (.d (.bool (a == b))) σ) : zp Tryz.prog zkY [.d (.slice (bcs a)), .d (.slice (bcs b))] σ K := by
 refine zfY e_op_Same_1 fun hl => ?_
 (refine gq16 ?_; try with_reducible exact True.intro)
 refine zib ?_
 refine zT hl ?_
 exact hK
theorem zbe {A B : Prop} (a : A) (b : B) : A ∧ B := ⟨a,b⟩
theorem gq17 {P Q : Prop} (h : Q) (e : P = Q := by simp -dsimp only [↓zfT, ↓zaI, ↓zbP, ↓zfV, ↓zfN, ↓zfL, ↓zfO, ↓zfM, ↓zbU, ↓zbQ, ↓zbV, ↓zbR, ↓zfP, ↓zbN, ↓zbW, ↓zbS, ↓zbX, ↓zbT, ↓zfK, ↓zfQ, ↓zbM, ↓zbY, ↓zfF, ↓zfE, ↓zfH,iN,bT,bF,eN, ↓zcJ, ↓unC, ↓zaa, ↓zK, ↓zL, ↓zO, ↓zaf, ↓zaz, ↓zcK, ↓zar, ↓zbk, ↓zR, ↓zo, ↓zj, ↓zbz, ↓zg, ↓zam, ↓zH, ↓zaV, ↓zbc, ↓ze, ↓zB, ↓zu, ↓zC, ↓zap, ↓zdk, ↓zdO, ↓zav, ↓zaF, ↓zaZ, ↓zbj, ↓zbt, ↓zA, ↓zas, ↓zM, ↓zF, ↓zae,zdP,zbI,zbC,unA,zdL,bnd,zeq,zag,zQ,zek,dm,dm1,zD,zak,zeP,zeO,zP,Q0,Q1,Q2,Q3,Q4,Q5,zW,zt,zy,zN,zJ,Q6,Q7,Q8,Q9,Q10,Q11,Q12,Q13,Q14,Nat.reduceAdd,Q15,Int.reduceToNat,Q16,Q17,Q18,Q19,Q20,reduceIte,Q21,Q22,zaQ,zG]; rfl) : P := e.mpr h
theorem gq18 {A P Q : Prop} (a : A) (h : Q) (e : A → P = Q := by intro a; simp -dsimp only [↓zfT, ↓zaI, ↓zbP, ↓zfV, ↓zfN, ↓zfL, ↓zfO, ↓zfM, ↓zbU, ↓zbQ, ↓zbV, ↓zbR, ↓zfP, ↓zbN, ↓zbW, ↓zbS, ↓zbX, ↓zbT, ↓zfK, ↓zfQ, ↓zbM, ↓zbY, ↓zfF, ↓zfE, ↓zfH,iN,bT,bF,eN, ↓zcJ, ↓unC, ↓zaa, ↓zK, ↓zL, ↓zO, ↓zaf, ↓zaz, ↓zcK, ↓zar, ↓zbk, ↓zR, ↓zo, ↓zj, ↓zbz, ↓zg, ↓zam, ↓zH, ↓zaV, ↓zbc, ↓ze, ↓zB, ↓zu, ↓zC, ↓zap, ↓zdk, ↓zdO, ↓zav, ↓zaF, ↓zaZ, ↓zbj, ↓zbt, ↓zA, ↓zas, ↓zM, ↓zF, ↓zae,zdP,zbI,zbC,unA,zdL,bnd,zeq,zag,zQ,zek,dm,dm1,zD,zak,zeP,zeO,zP,Q0,Q1,Q2,Q3,Q4,Q5,zW,zt,zy,zN,zJ,Q6,Q7,Q8,Q9,Q10,Q11,Q12,Q13,Q14,Nat.reduceAdd,Q15,Int.reduceToNat,Q16,Q17,Q18,Q19,Q20,reduceIte,Q21,Q22,zG,a]; rfl) : P := (e a).mpr h
theorem gq19 {P Q : Prop} (h : Q) (e : P = Q := by simp -dsimp only [↓zfT, ↓zaI, ↓zbP, ↓zfV, ↓zfN, ↓zfL, ↓zfO, ↓zfM, ↓zbU, ↓zbQ, ↓zbV, ↓zbR, ↓zfP, ↓zbN, ↓zbW, ↓zbS, ↓zbX, ↓zbT, ↓zfK, ↓zfQ, ↓zbM, ↓zbY, ↓zfF, ↓zfE, ↓zfH,iN,bT,bF,eN, ↓zcJ, ↓unC, ↓zaa, ↓zK, ↓zL, ↓zO, ↓zaf, ↓zaz, ↓zcK, ↓zar, ↓zbk, ↓zR, ↓zo, ↓zj, ↓zbz, ↓zg, ↓zam, ↓zH, ↓zaV, ↓zbc, ↓ze, ↓zB, ↓zu, ↓zC, ↓zap, ↓zdk, ↓zdO, ↓zav, ↓zaF, ↓zaZ, ↓zbj, ↓zbt, ↓zA, ↓zas, ↓zM, ↓zF, ↓zae,zdP,zbI,zbC,unA,zdL,bnd,zeq,zag,zQ,zek,dm,dm1,zD,zak,zeP,zeO,zP,Q0,Q1,Q2,Q3,Q4,Q5,zW,zt,zy,zN,zJ,Q6,Q7,Q8,Q9,Q10,Q11,Q12,Q13,Q14,Nat.reduceAdd,Q15,Int.reduceToNat,Q16,Q17,Q18,Q19,Q20,reduceIte,Q21,Q22,zG]; rfl) : P := e.mpr h
theorem gq20 {A P Q : Prop} (a : A) (h : Q) (e : A → P = Q := by intro a; simp -dsimp only [↓zfT, ↓zaI, ↓zbP, ↓zfV, ↓zfN, ↓zfL, ↓zfO, ↓zfM, ↓zbU, ↓zbQ, ↓zbV, ↓zbR, ↓zfP, ↓zbN, ↓zbW, ↓zbS, ↓zbX, ↓zbT, ↓zfK, ↓zfQ, ↓zbM, ↓zbY, ↓zfF, ↓zfE, ↓zfH,iN,bT,bF,eN, ↓zcJ, ↓unC, ↓zaa, ↓zK, ↓zL, ↓zO, ↓zaf, ↓zaz, ↓zcK, ↓zar, ↓zbk, ↓zR, ↓zo, ↓zj, ↓zbz, ↓zg, ↓zam, ↓zH, ↓zaV, ↓zbc, ↓ze, ↓zB, ↓zu, ↓zC, ↓zap, ↓zdk, ↓zdO, ↓zav, ↓zaF, ↓zaZ, ↓zbj, ↓zbt, ↓zA, ↓zas, ↓zM, ↓zF, ↓zae,zdP,zbI,zbC,unA,zdL,bnd,zeq,zag,zQ,zek,dm,dm1,zD,zak,zeP,zeO,zP,Q0,Q1,Q2,Q3,Q4,Q5,zW,zt,zy,zN,zJ,Q6,Q7,Q8,Q9,Q10,Q11,Q12,Q13,Q14,Nat.reduceAdd,Q15,Int.reduceToNat,Q16,Q17,Q18,Q19,Q20,reduceIte,Q21,Q22,Int.toNat_natCast,zG,a]; rfl) : P := (e a).mpr h
theorem gq21 {P Q : Prop} (h : Q) (e : P = Q := by simp -dsimp only [↓zfT, ↓zaI, ↓zbP, ↓zfV, ↓zfN, ↓zfL, ↓zfO, ↓zfM, ↓zbU, ↓zbQ, ↓zbV, ↓zbR, ↓zfP, ↓zbN, ↓zbW, ↓zbS, ↓zbX, ↓zbT, ↓zfK, ↓zfQ, ↓zbM, ↓zbY, ↓zfF, ↓zfE, ↓zfH,iN,bT,bF,eN, ↓zcJ, ↓unC, ↓zaa, ↓zK, ↓zL, ↓zO, ↓zaf, ↓zaz, ↓zcK, ↓zar, ↓zbk, ↓zR, ↓zo, ↓zj, ↓zbz, ↓zg, ↓zam, ↓zH, ↓zaV, ↓zbc, ↓ze, ↓zB, ↓zu, ↓zC, ↓zap, ↓zdk, ↓zdO, ↓zav, ↓zaF, ↓zaZ, ↓zbj, ↓zbt, ↓zA, ↓zas, ↓zM, ↓zF, ↓zae,zdP,zbI,zbC,unA,zdL,bnd,zeq,zag,zQ,zek,dm,dm1,zD,zak,zeP,zeO,zP,Q0,Q1,Q2,Q3,Q4,Q5,zW,zt,zy,zN,zJ,Q6,Q7,Q8,Q9,Q10,Q11,Q12,Q13,Q14,Nat.reduceAdd,Q15,Int.reduceToNat,Q16,Q17,Q18,Q19,Q20,reduceIte,Q21,Q22,zae,zG]; rfl) : P := e.mpr h
theorem zpx {σ : List zh} {a b : List (List UInt8)} (ha : a.length ≤ 1073741824) (hb : b.length ≤ 1073741824) {K : KT} (hK : K (.d (.bool (a == b))) σ) :
  zp Tryz.prog zan [.d (.slice (zbZ a)), .d (.slice (zbZ b)), .fn (.func zkY) [] []] σ K := by
 refine acE3 zcj fun hl => ?_
 (refine gq17 ?_; try with_reducible exact True.intro)
 refine zaO (fun h => ?_) (fun h => ?_)
 all_goals (try (refine gq18 h ?_; try with_reducible exact True.intro))
 ·refine zT hl ?_
  have : (a == b) = false := by
   rw [beq_eq_false_iff_ne]
   rintro rfl
   simp at h
  rw [this] at hK; exact hK
 have hl2 : a.length = b.length := by simp at h; omega
 refine zr a.length (fun k vs s => vs = [.d (.int .i64 k)] ∧ s = σ ∧ a.take k = b.take k) ⟨rfl,rfl,by simp⟩ ?_
 rintro k vs s hk ⟨rfl,rfl,htk⟩
 (refine gq19 ?_; try with_reducible exact True.intro)
 refine zaO (fun h => ?_) (fun h => ?_)
 all_goals (try (refine gq18 h ?_; try with_reducible exact True.intro))
 ·have hka : k < a.length := by simp at h; omega
  have hx : a[k]? = some a[k] := by simp [hka]
  have hy : b[k]? = some (b[k]'(by omega)) := List.getElem?_eq_getElem _
  (refine gq20 (zbe (zjQ hx) (zjQ hy)) ?_; try with_reducible exact True.intro)
  refine ⟨by omega,by omega,c_Same_1 ?_⟩
  (refine gq21 ?_; try with_reducible exact True.intro)
  refine zaO (fun h => ?_) (fun h => ?_)
  all_goals (try (refine gq18 h ?_; try with_reducible exact True.intro))
  ·refine zaG.next hka ⟨?_,rfl,zdx hx hy htk (by simpa using h)⟩
   rw [zac (by omega) (by omega)]; rfl
  ·refine zT hl ?_
   have : (a == b) = false := by
    rw [beq_eq_false_iff_ne]
    rintro rfl
    simp at h
   rw [this] at hK; exact hK
 ·refine zT hl ?_
  have : (a == b) = true := by
   rw [beq_iff_eq]
   exact zfG hl2 (k := k) (by simp at h; omega) htk
  rw [this] at hK; exact hK
theorem gq22 {P Q : Prop} (h : Q) (e : P = Q := by simp -dsimp only [↓zfT, ↓zaI, ↓zbP, ↓zfV, ↓zfN, ↓zfL, ↓zfO, ↓zfM, ↓zbU, ↓zbQ, ↓zbV, ↓zbR, ↓zfP, ↓zbN, ↓zbW, ↓zbS, ↓zbX, ↓zbT, ↓zfK, ↓zfQ, ↓zbM, ↓zbY, ↓zfF, ↓zfE, ↓zfH,iN,bT,bF,eN, ↓zcJ, ↓unC, ↓zaa, ↓zK, ↓zL, ↓zO, ↓zaf, ↓zaz, ↓zcK, ↓zar, ↓zbk, ↓zR, ↓zo, ↓zj, ↓zbz, ↓zg, ↓zam, ↓zH, ↓zaV, ↓zbc, ↓ze, ↓zB, ↓zu, ↓zC, ↓zap, ↓zdk, ↓zdO, ↓zav, ↓zaF, ↓zaZ, ↓zbj, ↓zbt, ↓zA, ↓zas, ↓zM, ↓zF, ↓zae,zdP,zbI,zbC,unA,zdL,bnd,zeq,zag,zQ,zek,dm,dm1,zD,zak,zeP,zeO,zP,Q0,Q1,Q2,Q3,Q4,Q5,zW,zt,zy,zN,zJ,Q6,Q7,Q8,Q9,Q10,Q11,Q12,Q13,Q14,Nat.reduceAdd,Q15,Int.reduceToNat,Q16,Q17,Q18,Q19,Q20,reduceIte,Q21,Q22,zG,rep,zab,zfq,toD,zaq,Q23,Q24,Q25,Q26,Q27,Q28,Nat.reduceLeDiff,Q29,Nat.reduceSub,Q30,Q31,Q32,sc,Q33,Q34,Q35]; rfl) : P := e.mpr h
theorem c_Same {σ : List zh} {a b : TOp} (ha : a.recs.length ≤ 1073741824) (hb : b.recs.length ≤ 1073741824) {K : KT} (hK : K (.d (.bool (decide (a = b)))) σ) : zp Tryz.prog zss [opA a,opA b] σ K := by
 refine zfY e_op_Same fun hl => ?_
 simp only [S_op_Same,iN,bT,bF,eN,opA]
 repeat' first
  | (refine gq22 ?_; try with_reducible exact True.intro)
  | (refine zaO (fun h => ?_) (fun h => ?_) <;> (try rw [h]))
  | refine zpx ha hb ?_
 all_goals refine zT hl ?_
 all_goals simp only [beq_iff_eq,beq_eq_false_iff_ne,ne_eq] at *
 ·have e : decide (a = b) = (a.recs == b.recs) := by
   rw [Bool.eq_iff_iff]
   cases a; cases b
   simp_all
  rw [e] at hK; exact hK
 all_goals
  have e : decide (a = b) = false := by
   cases a; cases b
   simp_all
  rw [e] at hK; exact hK
theorem c_Runes {σ : List zh} {s : List UInt8} (hs : s.length ≤ 1073741824) {K : KT} (hK : K (.d (.int .i64 (zha s))) σ) : zp Tryz.prog zqi [.d (.str s)] σ K := by
 refine zeW e_op_Runes fun hl => ?_
 simp only [zvv,iN,bT,bF,eN,zas]
 refine zr s.length (fun pos vs s' => ∃ cnt : Nat,vs = [.d (.int .i64 cnt)] ∧ s' = σ ++ [.iter s pos] ∧ pos ≤ s.length ∧ cnt ≤ pos ∧ zdy (s.length + 1) s = (zdy (s.length + 1) (s.drop pos)).map (· + cnt)) ⟨0,rfl,rfl,by omega,by omega,by simp⟩ ?_
 rintro pos vs s' hp ⟨cnt,rfl,rfl,hps,hc,hr⟩
 simp only [zA,zoX,zy,List.getElem?_cons_zero]
 split
 ·rename_i hlt
  have hd : s.drop pos ≠ [] := by intro e; have := congrArg List.length e; simp at this; omega
  have hw := goDec_width _ hd
  have hw2 := zkn (s.drop pos)
  simp only [decode_eq s pos hlt]
  have hcount : zdy (s.length + 1) (s.drop pos) = if (zjL (s.drop pos)).2 = 0 ∨ badF (zjL (s.drop pos)).1 = true then none else (zdy s.length ((s.drop pos).drop (zjL (s.drop pos)).2)).map (· + 1) := by
   rw [zdy,if_neg hd]
  (repeat' (first | (refine gq22 ?_; try with_reducible exact True.intro) | (refine zaO (fun h => ?_) (fun h => ?_) <;> (try rw [h])) | ((with_reducible refine And.intro ?_ ?_); focus (first | omega | rfl | decide))))
  all_goals first
   | (
    refine zT hl ?_
    have hb : badF (zpg (s.drop pos)).1 = true := by
     simp only [badF]
     (try simp only [decide_eq_true_eq,decide_eq_false_iff_not,beq_iff_eq,beq_eq_false_iff_ne,bne_iff_ne,ne_eq,Bool.not_eq_true',Bool.not_eq_false',bne_eq_false_iff_eq] at *)
     omega
    rw [goDec_bad] at hb
    have : zdy (s.length + 1) (s.drop pos) = none := by rw [hcount,if_pos (by simpa using hb)]
    have h0 : zha s = 0 := by simp [zha,hr,this]
    rw [h0] at hK; exact hK)
   | skip
  all_goals
   have hb : badF (zpg (s.drop pos)).1 = false := by
    simp only [badF]
    (try simp only [decide_eq_true_eq,decide_eq_false_iff_not,beq_iff_eq,beq_eq_false_iff_ne,bne_iff_ne,ne_eq,Bool.not_eq_true',Bool.not_eq_false',bne_eq_false_iff_eq] at *)
    omega
   obtain ⟨g1,g2,g3⟩ := goDec_good hb
   rw [zac (by omega) (by omega)]
   refine zaG.to (pos + (zpg (s.drop pos)).2) (by omega) (by simp at hw; omega) ⟨cnt + 1,rfl,rfl,by simp at hw; omega,by omega, ?_⟩
   rw [hr,hcount,if_neg (by simp [g2,g3]),g1,List.drop_drop,zou s.length (s.length + 1) _ (by simp at *; omega) (by simp; omega)]
   cases zdy (s.length + 1) (List.drop (pos + (zjL (s.drop pos)).2) s) <;> simp
   omega
 ·rename_i hlt
  have e : s.drop pos = [] := List.drop_eq_nil_of_le (by omega)
  have hcnt : zdy (s.length + 1) s = some cnt := by rw [hr,e]; simp [zdy]
  (refine gq19 ?_; try with_reducible exact True.intro)
  refine zaO (fun h => ?_) (fun h => ?_)
  all_goals (try (refine gq18 h ?_; try with_reducible exact True.intro))
  ·refine zT hl ?_
   have h0 : zha s = 0 := by simp [zha,hcnt]; simp at h; omega
   rw [h0] at hK; exact hK
  ·refine zT hl ?_
   have h0 : zha s = cnt := by simp [zha,hcnt]; simp at h; omega
   rw [h0] at hK; exact hK
theorem gq23 {P Q : Prop} (h : Q) (e : P = Q := by simp -dsimp only [↓zfT, ↓zaI, ↓zbP, ↓zfV, ↓zfN, ↓zfL, ↓zfO, ↓zfM, ↓zbU, ↓zbQ, ↓zbV, ↓zbR, ↓zfP, ↓zbN, ↓zbW, ↓zbS, ↓zbX, ↓zbT, ↓zfK, ↓zfQ, ↓zbM, ↓zbY, ↓zfF, ↓zfE, ↓zfH,iN,bT,bF,eN, ↓zcJ, ↓unC, ↓zaa, ↓zK, ↓zL, ↓zO, ↓zaf, ↓zaz, ↓zcK, ↓zar, ↓zbk, ↓zR, ↓zo, ↓zj, ↓zbz, ↓zg, ↓zam, ↓zH, ↓zaV, ↓zbc, ↓ze, ↓zB, ↓zu, ↓zC, ↓zap, ↓zdk, ↓zdO, ↓zav, ↓zaF, ↓zaZ, ↓zbj, ↓zbt, ↓zA, ↓zas, ↓zM, ↓zF, ↓zae,zdP,zbI,zbC,unA,zdL,bnd,zeq,zag,zQ,zek,dm,dm1,zD,zak,zeP,zeO,zP,Q0,Q1,Q2,Q3,Q4,Q5,zW,zt,zy,zN,zJ,Q6,Q7,Q8,Q9,Q10,Q11,Q12,Q13,Q14,Nat.reduceAdd,Q15,Int.reduceToNat,Q16,Q17,Q18,Q19,Q20,reduceIte,Q21,Q22,S_op_Name,zG]; rfl) : P := e.mpr h
theorem c_Name {σ : List zh} {s : List UInt8} (hs : s.length ≤ 1073741824) {K : KT} (hK : K (.d (.bool (zdZ s))) σ) : zp Tryz.prog zoY [.d (.str s)] σ K := by
 refine zeW e_op_Name fun hl => ?_
 (refine gq23 ?_; try with_reducible exact True.intro)
 refine c_Runes hs ?_
 (refine gq19 ?_; try with_reducible exact True.intro)
 refine zT hl ?_
 have : decide ((zha s : Int) > 0) = zdZ s := by simp [zdZ]
 rw [this]; exact hK
theorem c_rsize {σ : List zh} {c : Nat} {K : KT} (hK : K (.d (.int .i64 (zlI c))) σ) : zp Tryz.prog zqc [.d (.int .u8 c)] σ K := by
 refine zeW e_r06_size fun hl => ?_
 simp only [zvo,iN,bT,bF,eN]
 (repeat' (first | (refine gq22 ?_; try with_reducible exact True.intro) | (refine zaO (fun h => ?_) (fun h => ?_) <;> (try rw [h])) | ((with_reducible refine And.intro ?_ ?_); focus (first | omega | rfl | decide))))
 all_goals refine zT hl ?_
 all_goals (try simp only [decide_eq_true_eq,decide_eq_false_iff_not,beq_iff_eq,beq_eq_false_iff_ne,bne_iff_ne,ne_eq,Bool.not_eq_true',Bool.not_eq_false',bne_eq_false_iff_eq] at *)
 all_goals
  simp only [zcC,dmT,dm,dm1]
  have e : ∀ z : Nat,zlI c = z → K (.d (.int .i64 z)) σ := fun z hz => by rw [← hz]; exact hK
  first
  | exact e 0 (by unfold zlI; rw [if_neg (by omega),if_neg (by omega),if_neg (by omega),if_neg (by omega)])
  | exact e 1 (by unfold zlI; rw [if_pos (by omega)])
  | exact e 2 (by unfold zlI; rw [if_neg (by omega),if_pos (by omega)])
  | exact e 3 (by unfold zlI; rw [if_neg (by omega),if_neg (by omega),if_pos (by omega)])
  | exact e 4 (by unfold zlI; rw [if_neg (by omega),if_neg (by omega),if_neg (by omega),if_pos (by omega)])
theorem mask_eq (z : Nat) (hz : z = 2 ∨ z = 3 ∨ z = 4) (b : Nat) (hb : b < 256) :
  IntKind.i64.wrap ↑(BitVec.ofInt IntKind.i64.bits (b : Int) &&& BitVec.ofInt IntKind.i64.bits (IntKind.i64.wrap (IntKind.i64.wrap (1 * 2 ^ (min (IntKind.i64.wrap (7 - (z : Int))).toNat IntKind.i64.bits)) - 1))).toNat = ((b % 2 ^ (7 - z) : Nat) : Int) := by
 have h0 : (BitVec.ofInt 64 (b : Int)).toNat = b := by simp; omega
 have key : ∀ m : Nat,(m = 3 ∨ m = 4 ∨ m = 5) → IntKind.i64.wrap ↑(BitVec.ofInt 64 (b : Int) &&& BitVec.ofInt 64 ((2 : Int) ^ m - 1)).toNat = ((b % 2 ^ m : Nat) : Int) := fun m hm => by
  have : (BitVec.ofInt 64 (b : Int) &&& BitVec.ofInt 64 ((2 : Int) ^ m - 1)).toNat = b % 2 ^ m := by
   rw [BitVec.toNat_and,h0]
   rcases hm with rfl | rfl | rfl
   ·exact Nat.and_two_pow_sub_one_eq_mod b 3
   ·exact Nat.and_two_pow_sub_one_eq_mod b 4
   ·exact Nat.and_two_pow_sub_one_eq_mod b 5
  rw [this]
  have : b % 2 ^ m < 256 := Nat.lt_of_le_of_lt (Nat.mod_le _ _) hb
  exact zac (by omega) (by omega)
 rcases hz with rfl | rfl | rfl
 ·exact key 5 (by omega)
 ·exact key 4 (by omega)
 ·exact key 3 (by omega)
theorem partF_lt (s : List UInt8) (z : Nat) (hz : 2 ≤ z) : ∀ i,zgK s z i < 32 * 64 ^ i
 | 0 => by
  simp only [zgK]
  have : 2 ^ (7 - z) ≤ 2 ^ 5 := Nat.pow_le_pow_right (by omega) (by omega)
  have := Nat.mod_lt (at8 s 0) (y := 2 ^ (7 - z)) (Nat.pos_of_ne_zero (by simp))
  omega
 | i + 1 => by
  simp only [zgK,Nat.pow_succ]
  have := partF_lt s z hz i
  omega
theorem at8_some {s : List UInt8} {i : Nat} (h : i < s.length) : s[i]? = some s[i] ∧ (s[i].toNat : Int) = (at8 s i : Int) := by
 have : s[i]? = some s[i] := List.getElem?_eq_getElem h
 exact ⟨this,by simp [at8,this]⟩
theorem gq24 {A P Q : Prop} (a : A) (h : Q) (e : A → P = Q := by intro a; simp -dsimp only [↓zfT, ↓zaI, ↓zbP, ↓zfV, ↓zfN, ↓zfL, ↓zfO, ↓zfM, ↓zbU, ↓zbQ, ↓zbV, ↓zbR, ↓zfP, ↓zbN, ↓zbW, ↓zbS, ↓zbX, ↓zbT, ↓zfK, ↓zfQ, ↓zbM, ↓zbY, ↓zfF, ↓zfE, ↓zfH,iN,bT,bF,eN, ↓zcJ, ↓unC, ↓zaa, ↓zK, ↓zL, ↓zO, ↓zaf, ↓zaz, ↓zcK, ↓zar, ↓zbk, ↓zR, ↓zo, ↓zj, ↓zbz, ↓zg, ↓zam, ↓zH, ↓zaV, ↓zbc, ↓ze, ↓zB, ↓zu, ↓zC, ↓zap, ↓zdk, ↓zdO, ↓zav, ↓zaF, ↓zaZ, ↓zbj, ↓zbt, ↓zA, ↓zas, ↓zM, ↓zF, ↓zae,zdP,zbI,zbC,unA,zdL,bnd,zeq,zag,zQ,zek,dm,dm1,zD,zak,zeP,zeO,zP,Q0,Q1,Q2,Q3,Q4,Q5,zW,zt,zy,zN,zJ,Q6,Q7,Q8,Q9,Q10,Q11,Q12,Q13,Q14,Nat.reduceAdd,Q15,Int.reduceToNat,Q16,Q17,Q18,Q19,Q20,reduceIte,Q21,Q22,ztz,zG,a]; rfl) : P := (e a).mpr h
theorem gq25 {A P Q : Prop} (a : A) (h : Q) (e : A → P = Q := by intro a; simp -dsimp only [↓zfT, ↓zaI, ↓zbP, ↓zfV, ↓zfN, ↓zfL, ↓zfO, ↓zfM, ↓zbU, ↓zbQ, ↓zbV, ↓zbR, ↓zfP, ↓zbN, ↓zbW, ↓zbS, ↓zbX, ↓zbT, ↓zfK, ↓zfQ, ↓zbM, ↓zbY, ↓zfF, ↓zfE, ↓zfH,iN,bT,bF,eN, ↓zcJ, ↓unC, ↓zaa, ↓zK, ↓zL, ↓zO, ↓zaf, ↓zaz, ↓zcK, ↓zar, ↓zbk, ↓zR, ↓zo, ↓zj, ↓zbz, ↓zg, ↓zam, ↓zH, ↓zaV, ↓zbc, ↓ze, ↓zB, ↓zu, ↓zC, ↓zap, ↓zdk, ↓zdO, ↓zav, ↓zaF, ↓zaZ, ↓zbj, ↓zbt, ↓zA, ↓zas, ↓zM, ↓zF, ↓zae,zdP,zbI,zbC,unA,zdL,bnd,zeq,zag,zQ,zek,dm,dm1,zD,zak,zeP,zeO,zP,Q0,Q1,Q2,Q3,Q4,Q5,zW,zt,zy,zN,zJ,Q6,Q7,Q8,Q9,Q10,Q11,Q12,Q13,Q14,Nat.reduceAdd,Q15,Int.reduceToNat,Q16,Q17,Q18,Q19,Q20,reduceIte,Q21,Q22,zG,rep,zab,zfq,toD,zaq,Q23,Q24,Q25,Q26,Q27,Q28,Nat.reduceLeDiff,Q29,Nat.reduceSub,Q30,Q31,Q32,sc,Q33,Q34,Q35,a]; rfl) : P := (e a).mpr h
theorem c_rune1 {σ : List zh} {s : List UInt8} (hs : s.length ≤ 1073741824) (hne : s ≠ []) {K : KT} (hK : K (.tup [.d (.int .i64 (zjL s).1), .d (.int .i64 (zjL s).2)]) σ) : zp Tryz.prog zob [.d (.str s)] σ K := by
 refine zeW e_r06_rune1 fun hl => ?_
 have hpos : 0 < s.length := List.length_pos_iff.2 hne
 obtain ⟨g1,g2⟩ := at8_some hpos
 have hb0 := ztn s 0
 (refine gq24 (zbe g1 g2) ?_; try with_reducible exact True.intro)
 refine ⟨by omega,c_rsize ?_⟩
 have hz4 : zlI (at8 s 0) = 0 ∨ zlI (at8 s 0) = 1 ∨ zlI (at8 s 0) = 2 ∨ zlI (at8 s 0) = 3 ∨ zlI (at8 s 0) = 4 := by
  unfold zlI; split <;> (try split) <;> (try split) <;> (try split) <;> omega
 obtain ⟨z,hz⟩ : ∃ z,z = zlI (at8 s 0) := ⟨_,rfl⟩
 rw [← hz] at hz4 ⊢
 have bad : z = 0 ∨ z > s.length → K (.tup [.d (.int .i64 0), .d (.int .i64 0)]) σ := fun h => by
  have : zjL s = (0, 0) := by simp only [zjL, ← hz]; rw [if_pos h]
  rw [this] at hK; exact hK
 (refine gq19 ?_; try with_reducible exact True.intro)
 refine zaO (fun h => ?_) (fun h => ?_)
 all_goals (try (refine gq18 (zbe h (zbe g1 g2)) ?_; try with_reducible exact True.intro))
 ·refine zT hl ?_
  exact bad (.inl (by (try simp only [decide_eq_true_eq,decide_eq_false_iff_not,beq_iff_eq,beq_eq_false_iff_ne,bne_iff_ne,ne_eq,Bool.not_eq_true',Bool.not_eq_false',bne_eq_false_iff_eq] at *); omega))
 have hz0 : z ≠ 0 := by (try simp only [decide_eq_true_eq,decide_eq_false_iff_not,beq_iff_eq,beq_eq_false_iff_ne,bne_iff_ne,ne_eq,Bool.not_eq_true',Bool.not_eq_false',bne_eq_false_iff_eq] at *); omega
 refine zaO (fun h => ?_) (fun h => ?_)
 all_goals (try (refine gq18 (zbe h (zbe g1 g2)) ?_; try with_reducible exact True.intro))
 ·refine zT hl ?_
  exact bad (.inr (by (try simp only [decide_eq_true_eq,decide_eq_false_iff_not,beq_iff_eq,beq_eq_false_iff_ne,bne_iff_ne,ne_eq,Bool.not_eq_true',Bool.not_eq_false',bne_eq_false_iff_eq] at *); omega))
 have hzl : z ≤ s.length := by (try simp only [decide_eq_true_eq,decide_eq_false_iff_not,beq_iff_eq,beq_eq_false_iff_ne,bne_iff_ne,ne_eq,Bool.not_eq_true',Bool.not_eq_false',bne_eq_false_iff_eq] at *); omega
 have hnb : ¬ (z = 0 ∨ z > s.length) := by omega
 refine zaO (fun h => ?_) (fun h => ?_)
 all_goals (try (refine gq18 (zbe h (zbe g1 g2)) ?_; try with_reducible exact True.intro))
 ·have h1 : z = 1 := by (try simp only [decide_eq_true_eq,decide_eq_false_iff_not,beq_iff_eq,beq_eq_false_iff_ne,bne_iff_ne,ne_eq,Bool.not_eq_true',Bool.not_eq_false',bne_eq_false_iff_eq] at *); omega
  refine ⟨by omega, ?_⟩
  refine zT hl ?_
  have : zjL s = (at8 s 0, 1) := by simp only [zjL, ← hz]; rw [if_neg hnb,if_pos h1]
  rw [this] at hK
  simp only [zcC,dmT,dm,dm1,List.map_cons,List.map_nil]
  rw [zac (by omega) (by omega)]
  exact hK
 have hz2 : z = 2 ∨ z = 3 ∨ z = 4 := by (try simp only [decide_eq_true_eq,decide_eq_false_iff_not,beq_iff_eq,beq_eq_false_iff_ne,bne_iff_ne,ne_eq,Bool.not_eq_true',Bool.not_eq_false',bne_eq_false_iff_eq] at *); omega
 have h1 : ¬ z = 1 := by omega
 refine ⟨by omega, ?_⟩
 have hw : IntKind.i64.wrap (at8 s 0 : Int) = (at8 s 0 : Int) := zac (by omega) (by omega)
 have hsh : (0 : Int) ≤ IntKind.i64.wrap (7 - (z : Int)) := by rw [zac (by omega) (by omega)]; omega
 refine ⟨hsh, ?_⟩
 rw [hw,mask_eq z hz2 _ hb0]
 refine zr z (fun k vs s' => s' = σ ∧ k + 1 ≤ z ∧ vs = [.d (.int .i64 (zgK s z k)), .d (.int .i64 (k + 1 : Nat))] ∧ ∀ i,i < k + 1 → 1 ≤ i → zqC s i = true) ⟨rfl,by omega,rfl,fun i h1 h2 => by omega⟩ ?_
 rintro k vs s' hk ⟨rfl,hk1,rfl,hcont⟩
 have hpl := partF_lt s z (by omega) k
 have hpow : 64 ^ k ≤ 64 ^ 3 := Nat.pow_le_pow_right (by omega) (by omega)
 (refine gq19 ?_; try with_reducible exact True.intro)
 have fail : (¬ ∀ i,i < z → 1 ≤ i → zqC s i = true) → K (.tup [.d (.int .i64 0), .d (.int .i64 0)]) s' := fun h => by
  have : zjL s = (0, 0) := by simp only [zjL, ← hz]; rw [if_neg hnb,if_neg h1,if_neg h]
  rw [this] at hK; exact hK
 refine zaO (fun h => ?_) (fun h => ?_)
 ·have hkz : k + 1 < z := by (try simp only [decide_eq_true_eq,decide_eq_false_iff_not,beq_iff_eq,beq_eq_false_iff_ne,bne_iff_ne,ne_eq,Bool.not_eq_true',Bool.not_eq_false',bne_eq_false_iff_eq] at *); omega
  obtain ⟨f1,f2⟩ := at8_some (s := s) (i := k + 1) (by omega)
  have hb := ztn s (k + 1)
  repeat' first
   | (refine gq25 (zbe f1 f2) ?_; try with_reducible exact True.intro)
   | (refine zaO (fun h => ?_) (fun h => ?_) <;> (try rw [h]))
   | ((with_reducible refine And.intro ?_ ?_); focus (first | omega | rfl | decide))
  ·refine zT hl ?_
   exact fail fun h' => by
    have := h' (k + 1) hkz (by omega)
    simp only [zqC] at this
    (try simp only [decide_eq_true_eq,decide_eq_false_iff_not,beq_iff_eq,beq_eq_false_iff_ne,bne_iff_ne,ne_eq,Bool.not_eq_true',Bool.not_eq_false',bne_eq_false_iff_eq] at *); omega
  ·refine zT hl ?_
   exact fail fun h' => by
    have := h' (k + 1) hkz (by omega)
    simp only [zqC] at this
    (try simp only [decide_eq_true_eq,decide_eq_false_iff_not,beq_iff_eq,beq_eq_false_iff_ne,bne_iff_ne,ne_eq,Bool.not_eq_true',Bool.not_eq_false',bne_eq_false_iff_eq] at *); omega
  have hv : IntKind.i64.wrap (IntKind.i64.wrap (↑(zgK s z k) * 64) + (IntKind.i64.wrap ↑(at8 s (k + 1))).tmod 64) = ((zgK s z (k + 1) : Nat) : Int) := by
   have hp2 : zgK s z k < 32 * 64 ^ 3 := by omega
   have e1 : IntKind.i64.wrap ((zgK s z k : Int) * 64) = (zgK s z k : Int) * 64 := zac (by omega) (by omega)
   have e2 : IntKind.i64.wrap (at8 s (k + 1) : Int) = (at8 s (k + 1) : Int) := zac (by omega) (by omega)
   have e3 : ((at8 s (k + 1) : Int)).tmod 64 = ((at8 s (k + 1) % 64 : Nat) : Int) := by rw [Int.tmod_eq_emod_of_nonneg (by omega)]; rfl
   rw [e1,e2,e3,zac (by omega) (by omega)]
   simp only [zgK]
   omega
  have hw2 : IntKind.i64.wrap (((k + 1 : Nat) : Int) + 1) = ((k + 1 + 1 : Nat) : Int) := by rw [zac (by omega) (by omega)]; rfl
  rw [hv,hw2]
  refine zaG.next (by omega) ⟨rfl,by omega,rfl,fun i hi1 hi2 => ?_⟩
  by_cases hi : i < k + 1
  ·exact hcont i hi hi2
  ·obtain rfl : i = k + 1 := by omega
   simp only [zqC]
   (try simp only [decide_eq_true_eq,decide_eq_false_iff_not,beq_iff_eq,beq_eq_false_iff_ne,bne_iff_ne,ne_eq,Bool.not_eq_true',Bool.not_eq_false',bne_eq_false_iff_eq] at *); omega
 ·have hkz : k + 1 = z := by (try simp only [decide_eq_true_eq,decide_eq_false_iff_not,beq_iff_eq,beq_eq_false_iff_ne,bne_iff_ne,ne_eq,Bool.not_eq_true',Bool.not_eq_false',bne_eq_false_iff_eq] at *); omega
  have hall : ∀ i,i < z → 1 ≤ i → zqC s i = true := by rw [← hkz]; exact hcont
  have hdec : zjL s = if zgK s z k < zfI z ∨ zgK s z k > 1114111 ∨ (55296 ≤ zgK s z k ∧ zgK s z k < 57344) then (0, 0) else (zgK s z k,z) := by
   have e : z - 1 = k := by omega
   simp only [zjL, ← hz]
   rw [if_neg hnb,if_neg h1,if_pos hall,e]
  have hget : ∃ l : Nat,l = zfI z ∧ ([[D.int .i64 0], [D.int .i64 0], [D.int .i64 128], [D.int .i64 2048], [D.int .i64 65536]] : List (List D))[z]? = some [D.int .i64 l] := by
   rcases hz2 with rfl | rfl | rfl <;> exact ⟨_,rfl,rfl⟩
  obtain ⟨l,hl1,hl2⟩ := hget
  rw [← hl1] at hdec
  repeat' first
   | (refine gq25 hl2 ?_; try with_reducible exact True.intro)
   | (refine zaO (fun h => ?_) (fun h => ?_) <;> (try rw [h]))
   | ((with_reducible refine And.intro ?_ ?_); focus (first | omega | rfl | decide))
  all_goals refine zT hl ?_
  all_goals (try simp only [decide_eq_true_eq,decide_eq_false_iff_not,beq_iff_eq,beq_eq_false_iff_ne,bne_iff_ne,ne_eq,Bool.not_eq_true',Bool.not_eq_false',bne_eq_false_iff_eq] at *)
  all_goals simp only [zcC,dmT,dm,dm1,List.map_cons,List.map_nil]
  all_goals first
   | (rw [if_pos (by omega)] at hdec; rw [hdec] at hK; exact hK)
   | (rw [if_neg (by omega)] at hdec; rw [hdec] at hK; exact hK)
theorem badF_ref (v : Nat) : badF v = decide (v < 33 ∨ 127 ≤ v ∧ v < 160 ∨ v = 47 ∨ v = 65533) := by
 simp only [badF]; congr 1; apply propext; omega
theorem c_rRunes {σ : List zh} {s : List UInt8} (hs : s.length ≤ 1073741824) {K : KT} (hK : K (.d (.int .i64 (zha s))) σ) : zp Tryz.prog zoc [.d (.str s)] σ K := by
 refine zeW e_r06_Runes fun hl => ?_
 simp only [ztA,iN,bT,bF,eN]
 refine zr s.length (fun pos vs s' => ∃ (cnt : Nat) (t : List UInt8),t.length + pos = s.length ∧ vs = [.d (.str t), .d (.int .i64 cnt)] ∧ s' = σ ∧ cnt ≤ pos ∧ cnt ≤ 16 ∧ zdy (s.length + 1) s = (zdy (s.length + 1) t).map (· + cnt)) ⟨0,s,rfl,rfl,rfl,by omega,by omega,by simp⟩ ?_
 rintro pos vs s' hp ⟨cnt,t,hlen,rfl,rfl,hc,hc16,hr⟩
 (refine gq19 ?_; try with_reducible exact True.intro)
 refine zaO (fun h => ?_) (fun h => ?_)
 ·have ht : t ≠ [] := by rintro rfl; simp at h
  have htl : 0 < t.length := List.length_pos_iff.2 ht
  have hw2 := zkn t
  have hcount : zdy (s.length + 1) t = if (zjL t).2 = 0 ∨ badF (zjL t).1 = true then none else (zdy s.length (t.drop (zjL t).2)).map (· + 1) := by
   rw [zdy,if_neg ht]
  refine c_rune1 (by omega) ht ?_
  have stop : (zjL t).2 = 0 ∨ badF (zjL t).1 = true ∨ cnt = 16 → K (.d (.int .i64 0)) s' := fun hb => by
   have h0 : zha s = 0 := by
    by_cases hq : (zjL t).2 = 0 ∨ badF (zjL t).1 = true
    ·simp [zha,hr,hcount,if_pos hq]
    ·have hcn : cnt = 16 := by
      rcases hb with hb | hb | hb
      ·exact absurd (.inl hb) hq
      ·exact absurd (.inr hb) hq
      ·exact hb
     simp only [zha,hr,hcount,if_neg hq]
     cases zdy s.length (t.drop (zjL t).2) with
     | none => simp
     | some m => simp; omega
   rw [h0] at hK; exact hK
  (repeat' (first | (refine gq22 ?_; try with_reducible exact True.intro) | (refine zaO (fun h => ?_) (fun h => ?_) <;> (try rw [h])) | ((with_reducible refine And.intro ?_ ?_); focus (first | omega | rfl | decide))))
  all_goals first
   | (
    refine zT hl ?_
    refine stop ?_
    rw [badF_ref,decide_eq_true_eq]
    (try simp only [decide_eq_true_eq,decide_eq_false_iff_not,beq_iff_eq,beq_eq_false_iff_ne,bne_iff_ne,ne_eq,Bool.not_eq_true',Bool.not_eq_false',bne_eq_false_iff_eq] at *)
    omega)
   | skip
  all_goals
   have hb : badF (zjL t).1 = false := by
    rw [badF_ref,decide_eq_false_iff_not]
    (try simp only [decide_eq_true_eq,decide_eq_false_iff_not,beq_iff_eq,beq_eq_false_iff_ne,bne_iff_ne,ne_eq,Bool.not_eq_true',Bool.not_eq_false',bne_eq_false_iff_eq] at *)
    omega
   have h2 : (zjL t).2 ≠ 0 := by (try simp only [decide_eq_true_eq,decide_eq_false_iff_not,beq_iff_eq,beq_eq_false_iff_ne,bne_iff_ne,ne_eq,Bool.not_eq_true',Bool.not_eq_false',bne_eq_false_iff_eq] at *); omega
   have hcl : cnt < 16 := by (try simp only [decide_eq_true_eq,decide_eq_false_iff_not,beq_iff_eq,beq_eq_false_iff_ne,bne_iff_ne,ne_eq,Bool.not_eq_true',Bool.not_eq_false',bne_eq_false_iff_eq] at *); omega
   rw [zac (by omega) (by omega)]
   refine zaG.to (pos + (zjL t).2) (by omega) (by omega) ⟨cnt + 1,t.drop (zjL t).2,by simp; omega, ?_,rfl,by omega,by omega, ?_⟩
   ·simp
   ·rw [hr,hcount,if_neg (by simp [h2,hb]),zou s.length (s.length + 1) _ (by simp; omega) (by simp; omega)]
    cases zdy (s.length + 1) (t.drop (zjL t).2) <;> simp
    omega
 ·refine zT hl ?_
  have ht : t = [] := by
   have : ¬ 0 < t.length := by (try simp only [decide_eq_true_eq,decide_eq_false_iff_not,beq_iff_eq,beq_eq_false_iff_ne,bne_iff_ne,ne_eq,Bool.not_eq_true',Bool.not_eq_false',bne_eq_false_iff_eq] at *); omega
   exact List.length_eq_zero_iff.1 (by omega)
  have h0 : zha s = cnt := by
   simp only [zha,hr,ht]
   simp [zdy]
   omega
  rw [h0] at hK; exact hK
theorem c_rName {σ : List zh} {s : List UInt8} (hs : s.length ≤ 1073741824) {K : KT} (hK : K (.d (.bool (zdZ s))) σ) : zp Tryz.prog zjZ [.d (.str s)] σ K := by
 refine zeW e_r06_Name fun hl => ?_
 simp only [zvp,iN,bT,bF,eN]
 (refine gq19 ?_; try with_reducible exact True.intro)
 refine c_rRunes hs ?_
 (refine gq19 ?_; try with_reducible exact True.intro)
 refine zT hl ?_
 have : decide ((zha s : Int) > 0) = zdZ s := by simp [zdZ]
 rw [this]; exact hK
def zmn (k : Int) : Bool := decide (1 ≤ k ∧ k ≤ 4)
def zpj (k : Int) : Bool := decide (k = 3)
def fOff (k : Int) : Bool := decide (k = 3 ∨ k = 4)
def zvW (k : Int) : Bool := decide (k = 2)
theorem c_fields {σ : List zh} {k : Int} {K : KT} (hK : K (.tup [.d (.bool (zmn k)), .d (.bool (zpj k)), .d (.bool (fOff k)), .d (.bool (zvW k))]) σ) : zp Tryz.prog ziZ [.d (.int .i64 k)] σ K := by
 refine zeW e_r06_fields fun hl => ?_
 simp only [zrg,iN,bT,bF,eN]
 (repeat' (first | (refine gq22 ?_; try with_reducible exact True.intro) | (refine zaO (fun h => ?_) (fun h => ?_) <;> (try rw [h])) | ((with_reducible refine And.intro ?_ ?_); focus (first | omega | rfl | decide))))
 all_goals refine zT hl ?_
 all_goals (try simp only [decide_eq_true_eq,decide_eq_false_iff_not,beq_iff_eq,beq_eq_false_iff_ne,bne_iff_ne,ne_eq,Bool.not_eq_true',Bool.not_eq_false',bne_eq_false_iff_eq] at *)
 all_goals
  simp only [zcC,dmT,dm,dm1,List.map_cons,List.map_nil]
  have e : ∀ a b c d : Bool,zmn k = a → zpj k = b → fOff k = c → zvW k = d → K (.tup [.d (.bool a), .d (.bool b), .d (.bool c), .d (.bool d)]) σ := fun a b c d h1 h2 h3 h4 => by rw [← h1, ← h2, ← h3, ← h4]; exact hK
  clear hK
  apply e <;> simp [zmn,zpj,fOff,zvW] <;> omega
theorem onlyF_iff (o : TOp) : o = onlyF o ↔ (zmn o.kind = false → o.topic = []) ∧ (zpj o.kind = false → o.group = []) ∧ (fOff o.kind = false → o.offset = 0) ∧ (zvW o.kind = false → o.recs = []) := by
 obtain ⟨k,t,g,f,r⟩ := o
 simp only [onlyF,noOp,zmn,zpj,fOff,zvW,decide_eq_false_iff_not]
 by_cases h1 : k = 1
 ·subst h1; simp
 by_cases h2 : k = 2
 ·subst h2; simp
 by_cases h3 : k = 3
 ·subst h3; simp
 by_cases h4 : k = 4
 ·subst h4; simp
 ·have : ¬ (1 ≤ k ∧ k ≤ 4) := by omega
  simp [h1,h2,h3,h4,this]
set_option maxHeartbeats 2000000 in
theorem zwu {σ : List zh} {o : TOp} (ht : o.topic.length ≤ 1073741824) (hg : o.group.length ≤ 1073741824) (hr : o.recs.length ≤ 1073741824) {K : KT} (hK : K (.d (.int .i64 (zbr zdZ o))) σ) : zp Tryz.prog zio [opA o] σ K := by
 refine zeW e_r06_Check fun hl => ?_
 simp only [ztB,iN,bT,bF,eN,opA]
 (refine gq22 ?_; try with_reducible exact True.intro)
 refine c_fields ?_
 have fin : ∀ z : Int,zbr zdZ o = z → K (.d (.int .i64 z)) σ := fun z hz => by rw [← hz]; exact hK
 have honly := onlyF_iff o
 have hkind : zmn o.kind = true → ziW o = true := by simp [zmn,ziW]; omega
 have hk1 : zmn o.kind = true ↔ (ziW o = true ∧ o.kind ≠ 0) := by simp [zmn,ziW]; omega
 have hk2 : zpj o.kind = true ↔ o.kind = 3 := by simp [zpj]
 have hk3 : zvW o.kind = true ↔ o.kind = 2 := by simp [zvW]
 have hk4 : ziW o = true ↔ (0 ≤ o.kind ∧ o.kind ≤ 4) := by simp [ziW]
 have hnil : o.recs = [] ↔ o.recs.length = 0 := List.length_eq_zero_iff.symm
 clear hK
 repeat' first
  | (refine gq22 ?_; try with_reducible exact True.intro)
  | refine c_rName ht ?_
  | refine c_rName hg ?_
  | (refine zaO (fun h => ?_) (fun h => ?_) <;> (try rw [h]))
  | ((with_reducible refine And.intro ?_ ?_); focus (first | omega | rfl | decide))
 all_goals first
  | (
   refine zT hl ?_
   (try simp only [decide_eq_true_eq,decide_eq_false_iff_not,beq_iff_eq,beq_eq_false_iff_ne,bne_iff_ne,ne_eq,Bool.not_eq_true',Bool.not_eq_false',bne_eq_false_iff_eq] at *)
   simp only [zcC,dmT,dm,dm1]
   apply fin
   grind [zbr])
  | skip
 all_goals
  refine zr o.recs.length (fun k vs s => vs = [.d (.int .i64 k)] ∧ s = σ ++ [.box [.d (.int .i64 o.kind), .d (.str o.topic), .d (.str o.group), .d (.int .i64 o.offset), .d (.slice (zbZ o.recs))]] ∧ ∀ r ∈ o.recs.take k, ¬ r.length > 64) ⟨rfl,rfl,by simp⟩ ?_
  rintro k vs s hk ⟨rfl,rfl,htk⟩
  (refine gq19 ?_; try with_reducible exact True.intro)
  refine zaO (fun h => ?_) (fun h => ?_)
  ·have hka : k < o.recs.length := by (try simp only [decide_eq_true_eq,decide_eq_false_iff_not,beq_iff_eq,beq_eq_false_iff_ne,bne_iff_ne,ne_eq,Bool.not_eq_true',Bool.not_eq_false',bne_eq_false_iff_eq] at *); omega
   have hx : o.recs[k]? = some o.recs[k] := by simp [hka]
   have hmem : o.recs[k] ∈ o.recs := List.getElem_mem _
   have hbl : (bcs o.recs[k]).length = o.recs[k].length := by simp [bcs]
   (refine gq18 (zjQ hx) ?_; try with_reducible exact True.intro)
   refine And.intro (by omega) ?_
   refine zaO (fun h => ?_) (fun h => ?_)
   ·have hany : (o.recs.any fun r => decide (r.length > 64)) = true := by
     rw [List.any_eq_true]
     exact ⟨_,hmem,by (try simp only [decide_eq_true_eq,decide_eq_false_iff_not,beq_iff_eq,beq_eq_false_iff_ne,bne_iff_ne,ne_eq,Bool.not_eq_true',Bool.not_eq_false',bne_eq_false_iff_eq] at *); omega⟩
    refine zT hl ?_
    (try simp only [decide_eq_true_eq,decide_eq_false_iff_not,beq_iff_eq,beq_eq_false_iff_ne,bne_iff_ne,ne_eq,Bool.not_eq_true',Bool.not_eq_false',bne_eq_false_iff_eq] at *)
    simp only [zcC,dmT,dm,dm1]
    apply fin
    grind [zbr]
   ·(refine gq19 ?_; try with_reducible exact True.intro)
    refine zaG.next hka ⟨?_,rfl,fun r hr => ?_⟩
    ·rw [zac (by omega) (by omega)]; rfl
    ·rw [List.take_add_one,hx] at hr
     rcases List.mem_append.1 hr with hr | hr
     ·exact htk r hr
     ·have : r = o.recs[k] := by simpa using hr
      subst this
      (try simp only [decide_eq_true_eq,decide_eq_false_iff_not,beq_iff_eq,beq_eq_false_iff_ne,bne_iff_ne,ne_eq,Bool.not_eq_true',Bool.not_eq_false',bne_eq_false_iff_eq] at *)
      omega
  ·have hany : (o.recs.any fun r => decide (r.length > 64)) = false := by
    rw [List.any_eq_false]
    intro r hr
    have hk' : k = o.recs.length := by (try simp only [decide_eq_true_eq,decide_eq_false_iff_not,beq_iff_eq,beq_eq_false_iff_ne,bne_iff_ne,ne_eq,Bool.not_eq_true',Bool.not_eq_false',bne_eq_false_iff_eq] at *); omega
    rw [hk',List.take_length] at htk
    simpa using htk r hr
   clear htk
   (repeat' (first | (refine gq22 ?_; try with_reducible exact True.intro) | (refine zaO (fun h => ?_) (fun h => ?_) <;> (try rw [h])) | ((with_reducible refine And.intro ?_ ?_); focus (first | omega | rfl | decide))))
   all_goals
    refine zT hl ?_
    (try simp only [decide_eq_true_eq,decide_eq_false_iff_not,beq_iff_eq,beq_eq_false_iff_ne,bne_iff_ne,ne_eq,Bool.not_eq_true',Bool.not_eq_false',bne_eq_false_iff_eq] at *)
    simp only [zcC,dmT,dm,dm1]
    apply fin
    grind [zbr]
theorem u64_of {n : Int} (h : 0 ≤ n) (h2 : n < 9223372036854775808) : IntKind.u64.wrap n = (n.toNat : Int) := by
 obtain ⟨m,rfl⟩ := Int.eq_ofNat_of_zero_le h
 rw [Int.toNat_natCast]; exact zcQ (by omega)
theorem bytesE (s : List UInt8) : s.map zcs = bcs s := rfl
theorem gq26 {A P Q : Prop} (a : A) (h : Q) (e : A → P = Q := by intro a; simp -dsimp only [↓zfT, ↓zaI, ↓zbP, ↓zfV, ↓zfN, ↓zfL, ↓zfO, ↓zfM, ↓zbU, ↓zbQ, ↓zbV, ↓zbR, ↓zfP, ↓zbN, ↓zbW, ↓zbS, ↓zbX, ↓zbT, ↓zfK, ↓zfQ, ↓zbM, ↓zbY, ↓zfF, ↓zfE, ↓zfH,iN,bT,bF,eN, ↓zcJ, ↓unC, ↓zaa, ↓zK, ↓zL, ↓zO, ↓zaf, ↓zaz, ↓zcK, ↓zar, ↓zbk, ↓zR, ↓zo, ↓zj, ↓zbz, ↓zg, ↓zam, ↓zH, ↓zaV, ↓zbc, ↓ze, ↓zB, ↓zu, ↓zC, ↓zap, ↓zdk, ↓zdO, ↓zav, ↓zaF, ↓zaZ, ↓zbj, ↓zbt, ↓zA, ↓zas, ↓zM, ↓zF, ↓zae,zdP,zbI,zbC,unA,zdL,bnd,zeq,zag,zQ,zek,dm,dm1,zD,zak,zeP,zeO,zP,Q0,Q1,Q2,Q3,Q4,Q5,zW,zt,zy,zN,zJ,Q6,Q7,Q8,Q9,Q10,Q11,Q12,Q13,Q14,Nat.reduceAdd,Q15,Int.reduceToNat,Q16,Q17,Q18,Q19,Q20,reduceIte,Q21,Q22,zG,rep,zab,zfq,toD,zaq,Q23,Q24,Q25,Q26,Q27,Q28,Nat.reduceLeDiff,Q29,Nat.reduceSub,Q30,Q31,Q32,sc,Q33,Q34,Q35,Bool.and_false,Bool.and_self,Bool.false_and,Bool.not_false,Bool.not_true,Bool.true_and,Int.toNat_natCast,Int.toNat_zero,List.drop_zero,List.length_map,List.length_nil,List.nil_append,List.take_length,Nat.sub_zero,Nat.zero_add,Option.isSome_none,Option.isSome_some,Option.map_none,Option.map_some,zaH,beq_self_eq_true,bne_self_eq_false,bytesE,zcv,zdT,opA,a]; rfl) : P := (e a).mpr h
theorem c_rPut {σ : List zh} {b : List UInt8} {o : TOp} (hb : b.length ≤ 268435456) (ho : zkF o ≤ 268435456) {K : KT} (hK : K (.d (.slice (bcs (b ++ if zbr zdZ o = 0 then opB o else [])))) σ) :
  zp Tryz.prog zsr [.d (.slice (bcs b)),opA o] σ K := by
 refine zfY e_r06_Put fun hl => ?_
 have hsz := ho
 simp only [zkF] at hsz
 have hrl := zkM o.recs
 simp only [S_r06_Put,iN,bT,bF,eN,opA]
 (refine gq22 ?_; try with_reducible exact True.intro)
 refine zwu (o := o) (by omega) (by omega) (by omega) ?_
 (refine gq22 ?_; try with_reducible exact True.intro)
 refine zaO (fun h => ?_) (fun h => ?_)
 ·refine zT hl ?_
  (try simp only [decide_eq_true_eq,decide_eq_false_iff_not,beq_iff_eq,beq_eq_false_iff_ne,bne_iff_ne,ne_eq,Bool.not_eq_true',Bool.not_eq_false',bne_eq_false_iff_eq] at *)
  rw [if_neg h,List.append_nil] at hK
  exact hK
 have hc : zbr zdZ o = 0 := by (try simp only [decide_eq_true_eq,decide_eq_false_iff_not,beq_iff_eq,beq_eq_false_iff_ne,bne_iff_ne,ne_eq,Bool.not_eq_true',Bool.not_eq_false',bne_eq_false_iff_eq] at *); omega
 obtain ⟨k0,k4,o0,o1,hon⟩ := check_ok hc
 rw [if_pos hc] at hK
 have hkn := zE (n := o.kind.toNat) (by omega)
 have hon' := zE (n := o.offset.toNat) (by omega)
 have hrn := zE (n := o.recs.length) (by omega)
 have htp := zgd (x := o.topic) (by omega)
 have hgp := zgd (x := o.group) (by omega)
 (refine gq25 (u64_of k0 (by omega)) ?_; try with_reducible exact True.intro)
 refine c_fields ?_
 (refine gq25 (u64_of k0 (by omega)) ?_; try with_reducible exact True.intro)
 refine zcY (by omega) (by omega) ?_
 have wo := u64_of o0 (by omega : o.offset < 9223372036854775808)
 have wl : IntKind.u64.wrap ((zbZ o.recs).length : Int) = (o.recs.length : Int) := by rw [zG]; exact zcQ (by omega)
 have wl' : IntKind.u64.wrap (o.recs.length : Int) = (o.recs.length : Int) := zcQ (by omega)
 have f1 : zmn o.kind = true ↔ o.kind ≠ 0 := by simp [zmn]; omega
 have f2 : zpj o.kind = true ↔ o.kind = 3 := by simp [zpj]
 have f3 : fOff o.kind = true ↔ (o.kind = 3 ∨ o.kind = 4) := by simp [fOff]
 have f4 : zvW o.kind = true ↔ o.kind = 2 := by simp [zvW]
 repeat' first
  | (refine gq26 (zbe wo (zbe wl wl')) ?_; try with_reducible exact True.intro)
  | (refine zaO (fun h => ?_) (fun h => ?_) <;> (try rw [h]))
  | ((with_reducible refine And.intro ?_ ?_); focus (first | omega | rfl | decide))
  | refine zgS (by omega) (by simp only [zoT,List.length_append] at *; omega) ?_
  | refine zcY (by omega) (by simp only [zoT,List.length_append] at *; omega) ?_
 -- the ways that end,those that can't be
 all_goals first
  | (exfalso; clear hK; grind)
  | (
   refine zT hl ?_
   (try simp only [decide_eq_true_eq,decide_eq_false_iff_not,beq_iff_eq,beq_eq_false_iff_ne,bne_iff_ne,ne_eq,Bool.not_eq_true',Bool.not_eq_false',bne_eq_false_iff_eq] at *)
   simp only [zcC,dmT,dm,dm1]
   (first | rw [opB_0 (by grind)] at hK | rw [opB_1 (by grind)] at hK | rw [opB_3 (by grind)] at hK | rw [opB_4 (by grind)] at hK)
   exact hK)
  | skip
 -- the records
 have hk2 : o.kind = 2 := by grind
 rw [opB_2 hk2] at hK
 refine zr o.recs.length (fun k vs s => ∃ t τ,vs = [.own t (bcs (b ++ (zcO o.kind.toNat ++ (zcO o.topic.length ++ (o.topic ++ (zcO o.recs.length ++ zlK (o.recs.take k))))))), .d (.int .i64 k)] ∧ s = σ ++ .box [.d (.int .i64 o.kind), .d (.str o.topic), .d (.str o.group), .d (.int .i64 o.offset), .d (.slice (zbZ o.recs))] :: τ)
  ⟨σ.length + 3,_,by rw [List.take_zero,show zlK [] = [] from rfl,List.append_nil]; rfl,rfl⟩ ?_
 rintro k vs s hk ⟨t, τ,rfl,rfl⟩
 (refine gq22 ?_; try with_reducible exact True.intro)
 refine zaO (fun h => ?_) (fun h => ?_)
 ·have hka : k < o.recs.length := by (try simp only [decide_eq_true_eq,decide_eq_false_iff_not,beq_iff_eq,beq_eq_false_iff_ne,bne_iff_ne,ne_eq,Bool.not_eq_true',Bool.not_eq_false',bne_eq_false_iff_eq] at *); omega
  have hx : o.recs[k]? = some o.recs[k] := by simp [hka]
  have hle := rec_le (List.getElem_mem hka)
  have htl := znA o.recs (by omega) k
  (refine gq25 (zjQ hx) ?_; try with_reducible exact True.intro)
  refine And.intro (by omega) (zgS (by omega) (by simp only [zoT,List.length_append] at *; omega) ?_)
  (refine gq22 ?_; try with_reducible exact True.intro)
  refine zaG.next hka ⟨σ.length + (τ.length + 1),_, ?_,rfl⟩
  rw [zac (by omega) (by omega),recsB_snoc hx]
  simp only [zoT,List.append_assoc]
  rfl
 ·have hke : k = o.recs.length := by (try simp only [decide_eq_true_eq,decide_eq_false_iff_not,beq_iff_eq,beq_eq_false_iff_ne,bne_iff_ne,ne_eq,Bool.not_eq_true',Bool.not_eq_false',bne_eq_false_iff_eq] at *); omega
  subst hke
  refine zT hl ?_
  rw [List.take_length]
  exact hK
end Go.Proofs.YtfgbofkdhfjegaaGreat

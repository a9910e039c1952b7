/- Contract: what chapter 25 begins with. -/
import Derived.Test.YtfgbofkdhfjegaaGreatBv4
import Derived.Test.YtfgbofkdhfjegaaGreatBt3
import Derived.Test.YtfgbofkdhfjegaaGreatNr3
import Derived.Test.YtfgbofkdhfjegaaGreatLaw23a
set_option linter.all false
set_option maxRecDepth 100000
namespace Go.Proofs.YtfgbofkdhfjegaaGreat
open Go.AW
def mkR : zq := ⟨0, 0 + 1,⟨1, [116], [], 0, []⟩, 0, 0⟩
def pubR (j : Nat) (b : List UInt8) : zq := ⟨0,(j : Int) + 1 + 1,⟨2, [116], [], 0, [b]⟩, 0, 0⟩
def zoQ (recs : List (List UInt8)) : List zq := mkR :: (recs.take 24).mapIdx pubR
def ksC (c : TCas) : List Int := memF (bothF c.voters (allF (zgB 3 c.f).toNat))
def bv1 (n : Nat) (c : TCas) (L : List (List UInt8)) (G : List zI) : List zh :=
 [.box (zqD c),rtO L,rlO G, .map (tabM []), .box [.own (n + 5) [], .map (n + 3)], .tok 1 0, .map (zrM []), .box [.own (n + 8) [], .map (n + 6)], .tok 2 0,
  .box [.box (n + 4) 0, .box (n + 7) 0, .box (n + 1) 0, .box (n + 2) 0, .exact [], .exact [], .d .nilp, .d .nilp]]
theorem bv_weak {σ : List zh} {c : TCas} (vs : List AV) : zoF vs (σ ++ [.box (zqD c), .box [.exact []], .box [.exact []], .map (tabM []), .box [.own (σ.length + 5) [], .map (σ.length + 3)], .tok 1 0, .map (zrM []), .box [.own (σ.length + 8) [], .map (σ.length + 6)], .tok 2 0,
  .box [.box (σ.length + 4) 0, .box (σ.length + 7) 0, .box (σ.length + 1) 0, .box (σ.length + 2) 0, .exact [], .exact [], .d .nilp, .d .nilp]]) vs (σ ++ bv1 σ.length c [] []) := by
 refine .dataB (σ.length + 1) 0 [.exact []] (.exact []) [] (by rw [zt]; rfl) rfl rfl ?_
 rw [zN]
 refine .dataB (σ.length + 2) 0 [.exact []] (.exact []) [] (by rw [zt]; rfl) rfl rfl ?_
 rw [zN]
 exact .refl _ _
def bv2 (n : Nat) (c : TCas) (L : List (List UInt8)) (h : zcS) : List zh :=
 [.box (zqD c),rtO L,rlO [], .map (tabM []), .box [.own (n + 5) [], .map (n + 3)], .tok 1 0, .map (zrM []), .box [.own (n + 8) [], .map (n + 6)], .tok 2 0,
  .box [.box (n + 4) 0, .box (n + 7) 0, .box (n + 1) 0, .box (n + 2) 0, .own (n + 13) [], .own (n + 14) [], .d .nilp, .d .nilp],hdrC h, .box (.rsl (n + 12) 0 4 0 0 :: zjF zel.last), .row 0 4 [], .tok 7 0, .tok 3 0]
theorem bv_weak2 {σ : List zh} {c : TCas} {L : List (List UInt8)} {h : zcS} (vs : List AV) : zoF vs (σ ++ [.box (zqD c),rtO L,rlO [], .map (tabM []), .box [.own (σ.length + 5) [], .map (σ.length + 3)], .tok 1 0, .map (zrM []), .box [.own (σ.length + 8) [], .map (σ.length + 6)], .tok 2 0,
  .box [.box (σ.length + 4) 0, .box (σ.length + 7) 0, .box (σ.length + 1) 0, .box (σ.length + 2) 0, .exact [], .exact [], .d .nilp, .d .nilp], .box [.d (.int .i64 h.seq), .d (.int .i64 h.prev), .d (.int .i64 h.batch), .d (.int .i64 h.root), .d (.int .i64 h.state)], .box zero25]) vs (σ ++ bv2 σ.length c L h) := by
 refine .rowB (σ.length + 11) 0 zero25 4 (by rw [zt]; rfl) rfl (by omega) ?_
 rw [zN,zW]
 simp only [List.set_cons_succ,List.set_cons_zero,List.length_cons,List.length_nil,List.append_assoc,List.cons_append,List.nil_append]
 refine .tokB (σ.length + 9) 4 _ [] 7 (by rw [zt]; rfl) rfl (by simp) ?_
 rw [zN,zW]
 simp only [List.set_cons_succ,List.set_cons_zero,List.length_cons,List.length_nil,List.append_assoc,List.cons_append,List.nil_append]
 refine .tokB (σ.length + 9) 5 _ [] 3 (by rw [zt]; rfl) rfl (by simp) ?_
 rw [zN,zW]
 simp only [List.set_cons_succ,List.set_cons_zero,List.length_cons,List.length_nil,List.append_assoc,List.cons_append,List.nil_append]
 exact .refl _ _
theorem bv_first {σ : List zh} {c : TCas} : WJ σ (.box (zqD c)) (σ.length + 13) (σ.length + 14) (σ.length + 12) 0 st0 (σ ++ bv2 σ.length c (genF []).2.2 (genF []).1) :=
 ⟨by rw [zy]; rfl,by rw [zt]; rfl,by rw [zt]; rfl,⟨by rw [zt]; rfl,by rw [zt]; rfl,by rw [zt]; rfl⟩,⟨by rw [zt]; rfl,by rw [zt]; rfl,by rw [zt]; rfl⟩,by rw [zt]; rfl,by rw [zt]; rfl,⟨by rw [zt]; rfl,by rw [zt]; rfl,rfl⟩,by rw [zt]; rfl,by rw [zt]; rfl,by omega,(fun _ _ _ e => by cases e),fun j x h _ => zd h⟩
theorem WJ.hdr' {σ S : List zh} {C : zh} {tb tc t g : Nat} {s s' : zaP} (h : WJ σ C tb tc t g { s' with h := s.h } S) : WJ σ C tb tc t g s' (S.set (σ.length + 10) (hdrC s'.h)) := h.hdr s'.h
theorem c_voteW {σ S : List zh} {C : zh} {tb tc t g : Nat} {s : zaP} {key a b c d : Int} (h : WJ σ C tb tc t g s S) (hL : zlT s.L) (hG : s.G.length ≤ 1073741824) {K : KT}
  (hK : ∀ S2,WJ σ C tb tc t g { s with L := votL s.L a b c d,G := votG s.L s.G key a b c d } S2 → (∀ (j : Nat) (x : zh),S[j]? = some x → σ.length + 2 < j → S2[j]? = some x) → S2.length = S.length → K (.tup [.agg [.d (.int .i64 (votS s.L key a b c d).key), .d (.int .i64 (votS s.L key a b c d).dig)], .d (.int .i64 (votE s.L key a b c d))]) S2) :
  zp Tryz.prog zjY [.box (σ.length + 1) 0, .box (σ.length + 2) 0, .d (.int .i64 key), .d (.int .i64 a), .d (.int .i64 b), .d (.int .i64 c), .d (.int .i64 d)] S K :=
 c_raVote (L := s.L) (G := s.G) h.xb h.yb (by omega) hL.len hG (hK _ ((h.x _).y _) (fun j x hj h1 => zc _ (zc _ hj (by omega)) (by omega)) (by simp))
theorem gq46 {P Q : Prop} (h : Q) (e : Hd Q → P := by intro h; (repeat' first | simp -dsimp only [↓zfT, ↓zaI, ↓zbP, ↓zfV, ↓zfN, ↓zfL, ↓zfO, ↓zfM, ↓zbU, ↓zbQ, ↓zbV, ↓zbR, ↓zfP, ↓zbN, ↓zbW, ↓zbS, ↓zbX, ↓zbT, ↓zfK, ↓zfQ, ↓zbM, ↓zbY, ↓zfF, ↓zfE, ↓zfH,iN,bT,bF,eN, ↓zcJ, ↓unC, ↓zaa, ↓zK, ↓zL, ↓zO, ↓zaf, ↓zaz, ↓zcK, ↓zar, ↓zbk, ↓zR, ↓zo, ↓zj, ↓zbz, ↓zg, ↓zam, ↓zH, ↓zaV, ↓zbc, ↓ze, ↓zB, ↓zu, ↓zC, ↓zap, ↓zdk, ↓zdO, ↓zav, ↓zaF, ↓zaZ, ↓zbj, ↓zbt, ↓zA, ↓zas, ↓zM, ↓zF, ↓zae,zdP,zbI,zbC,unA,zdL,bnd,zeq,zag,zQ,zek,dm,dm1,zD,zak,zeP,zeO,zP,Q0,Q1,Q2,Q3,Q4,Q5,zW,zt,zy,zN,zJ,Q6,Q7,Q8,Q9,Q10,Q11,Q12,Q13,Q14,Nat.reduceAdd,Q15,Int.reduceToNat,Q16,Q17,Q18,Q19,Q20,reduceIte,Q21,Q22,zG,rep,zab,zfq,toD,zaq,Q23,Q24,Q25,Q26,Q27,Q28,Nat.reduceLeDiff,Q29,Nat.reduceSub,Q30,Q31,Q32,sc,Q33,Q34,Q35,Q36,Q37,Q26,Q38,Q39,zjD,zjA,zjx,zjE,zdf,zjB,zjy,zjC,zjz,zde,zdg,zjG,zjH,Bool.not_true,Bool.not_false,List.length_map,ztK] | with_reducible refine zjK ?_ | fail); exact h.go) : P := e ⟨h⟩
theorem gq47 {A P Q : Prop} (a : A) (h : Q) (e : A → Hd Q → P := by intro a h; (repeat' first | simp -dsimp only [↓zfT, ↓zaI, ↓zbP, ↓zfV, ↓zfN, ↓zfL, ↓zfO, ↓zfM, ↓zbU, ↓zbQ, ↓zbV, ↓zbR, ↓zfP, ↓zbN, ↓zbW, ↓zbS, ↓zbX, ↓zbT, ↓zfK, ↓zfQ, ↓zbM, ↓zbY, ↓zfF, ↓zfE, ↓zfH,iN,bT,bF,eN, ↓zcJ, ↓unC, ↓zaa, ↓zK, ↓zL, ↓zO, ↓zaf, ↓zaz, ↓zcK, ↓zar, ↓zbk, ↓zR, ↓zo, ↓zj, ↓zbz, ↓zg, ↓zam, ↓zH, ↓zaV, ↓zbc, ↓ze, ↓zB, ↓zu, ↓zC, ↓zap, ↓zdk, ↓zdO, ↓zav, ↓zaF, ↓zaZ, ↓zbj, ↓zbt, ↓zA, ↓zas, ↓zM, ↓zF, ↓zae,zdP,zbI,zbC,unA,zdL,bnd,zeq,zag,zQ,zek,dm,dm1,zD,zak,zeP,zeO,zP,Q0,Q1,Q2,Q3,Q4,Q5,zW,zt,zy,zN,zJ,Q6,Q7,Q8,Q9,Q10,Q11,Q12,Q13,Q14,Nat.reduceAdd,Q15,Int.reduceToNat,Q16,Q17,Q18,Q19,Q20,reduceIte,Q21,Q22,zG,rep,zab,zfq,toD,zaq,Q23,Q24,Q25,Q26,Q27,Q28,Nat.reduceLeDiff,Q29,Nat.reduceSub,Q30,Q31,Q32,sc,Q33,Q34,Q35,Q36,Q37,Q26,Q38,Q39,zjD,zjA,zjx,zjE,zdf,zjB,zjy,zjC,zjz,zde,zdg,zjG,zjH,Bool.not_true,Bool.not_false,List.length_map,zhG,st0,a] | with_reducible refine zjK ?_ | fail); exact h.go) : P := e a ⟨h⟩
theorem gq48 {A P Q : Prop} (a : A) (h : Q) (e : A → Hd Q → P := by intro a h; (repeat' first | simp -dsimp only [↓zfT, ↓zaI, ↓zbP, ↓zfV, ↓zfN, ↓zfL, ↓zfO, ↓zfM, ↓zbU, ↓zbQ, ↓zbV, ↓zbR, ↓zfP, ↓zbN, ↓zbW, ↓zbS, ↓zbX, ↓zbT, ↓zfK, ↓zfQ, ↓zbM, ↓zbY, ↓zfF, ↓zfE, ↓zfH,iN,bT,bF,eN, ↓zcJ, ↓unC, ↓zaa, ↓zK, ↓zL, ↓zO, ↓zaf, ↓zaz, ↓zcK, ↓zar, ↓zbk, ↓zR, ↓zo, ↓zj, ↓zbz, ↓zg, ↓zam, ↓zH, ↓zaV, ↓zbc, ↓ze, ↓zB, ↓zu, ↓zC, ↓zap, ↓zdk, ↓zdO, ↓zav, ↓zaF, ↓zaZ, ↓zbj, ↓zbt, ↓zA, ↓zas, ↓zM, ↓zF, ↓zae,zdP,zbI,zbC,unA,zdL,bnd,zeq,zag,zQ,zek,dm,dm1,zD,zak,zeP,zeO,zP,Q0,Q1,Q2,Q3,Q4,Q5,zW,zt,zy,zN,zJ,Q6,Q7,Q8,Q9,Q10,Q11,Q12,Q13,Q14,Nat.reduceAdd,Q15,Int.reduceToNat,Q16,Q17,Q18,Q19,Q20,reduceIte,Q21,Q22,zG,rep,zab,zfq,toD,zaq,Q23,Q24,Q25,Q26,Q27,Q28,Nat.reduceLeDiff,Q29,Nat.reduceSub,Q30,Q31,Q32,sc,Q33,Q34,Q35,Q36,Q37,Q26,Q38,Q39,zjD,zjA,zjx,zjE,zdf,zjB,zjy,zjC,zjz,zde,zdg,zjG,zjH,Bool.not_true,Bool.not_false,List.length_map,List.length_set,m1,a] | with_reducible refine zjK ?_ | fail); exact h.go) : P := e a ⟨h⟩
theorem gq49 {A P Q : Prop} (a : A) (h : Q) (e : A → Hd Q → P := by intro a h; (repeat' first | simp -dsimp only [↓zfT, ↓zaI, ↓zbP, ↓zfV, ↓zfN, ↓zfL, ↓zfO, ↓zfM, ↓zbU, ↓zbQ, ↓zbV, ↓zbR, ↓zfP, ↓zbN, ↓zbW, ↓zbS, ↓zbX, ↓zbT, ↓zfK, ↓zfQ, ↓zbM, ↓zbY, ↓zfF, ↓zfE, ↓zfH,iN,bT,bF,eN, ↓zcJ, ↓unC, ↓zaa, ↓zK, ↓zL, ↓zO, ↓zaf, ↓zaz, ↓zcK, ↓zar, ↓zbk, ↓zR, ↓zo, ↓zj, ↓zbz, ↓zg, ↓zam, ↓zH, ↓zaV, ↓zbc, ↓ze, ↓zB, ↓zu, ↓zC, ↓zap, ↓zdk, ↓zdO, ↓zav, ↓zaF, ↓zaZ, ↓zbj, ↓zbt, ↓zA, ↓zas, ↓zM, ↓zF, ↓zae,zdP,zbI,zbC,unA,zdL,bnd,zeq,zag,zQ,zek,dm,dm1,zD,zak,zeP,zeO,zP,Q0,Q1,Q2,Q3,Q4,Q5,zW,zt,zy,zN,zJ,Q6,Q7,Q8,Q9,Q10,Q11,Q12,Q13,Q14,Nat.reduceAdd,Q15,Int.reduceToNat,Q16,Q17,Q18,Q19,Q20,reduceIte,Q21,Q22,zG,rep,zab,zfq,toD,zaq,Q23,Q24,Q25,Q26,Q27,Q28,Nat.reduceLeDiff,Q29,Nat.reduceSub,Q30,Q31,Q32,sc,Q33,Q34,Q35,Q36,Q37,Q26,Q38,Q39,zjD,zjA,zjx,zjE,zdf,zjB,zjy,zjC,zjz,zde,zdg,zjG,zjH,Bool.not_true,Bool.not_false,List.length_map,zhG,a] | with_reducible refine zjK ?_ | fail); exact h.go) : P := e a ⟨h⟩
theorem gq50 {A P Q : Prop} (a : A) (h : Q) (e : A → Hd Q → P := by intro a h; (repeat' first | simp -dsimp only [↓zfT, ↓zaI, ↓zbP, ↓zfV, ↓zfN, ↓zfL, ↓zfO, ↓zfM, ↓zbU, ↓zbQ, ↓zbV, ↓zbR, ↓zfP, ↓zbN, ↓zbW, ↓zbS, ↓zbX, ↓zbT, ↓zfK, ↓zfQ, ↓zbM, ↓zbY, ↓zfF, ↓zfE, ↓zfH,iN,bT,bF,eN, ↓zcJ, ↓unC, ↓zaa, ↓zK, ↓zL, ↓zO, ↓zaf, ↓zaz, ↓zcK, ↓zar, ↓zbk, ↓zR, ↓zo, ↓zj, ↓zbz, ↓zg, ↓zam, ↓zH, ↓zaV, ↓zbc, ↓ze, ↓zB, ↓zu, ↓zC, ↓zap, ↓zdk, ↓zdO, ↓zav, ↓zaF, ↓zaZ, ↓zbj, ↓zbt, ↓zA, ↓zas, ↓zM, ↓zF, ↓zae,zdP,zbI,zbC,unA,zdL,bnd,zeq,zag,zQ,zek,dm,dm1,zD,zak,zeP,zeO,zP,Q0,Q1,Q2,Q3,Q4,Q5,zW,zt,zy,zN,zJ,Q6,Q7,Q8,Q9,Q10,Q11,Q12,Q13,Q14,Nat.reduceAdd,Q15,Int.reduceToNat,Q16,Q17,Q18,Q19,Q20,reduceIte,Q21,Q22,zG,rep,zab,zfq,toD,zaq,Q23,Q24,Q25,Q26,Q27,Q28,Nat.reduceLeDiff,Q29,Nat.reduceSub,Q30,Q31,Q32,sc,Q33,Q34,Q35,Q36,Q37,Q26,Q38,Q39,zjD,zjA,zjx,zjE,zdf,zjB,zjy,zjC,zjz,zde,zdg,zjG,zjH,Bool.not_true,Bool.not_false,List.length_map,certD,a] | with_reducible refine zjK ?_ | fail); exact h.go) : P := e a ⟨h⟩
theorem gq51 {A P Q : Prop} (a : A) (h : Q) (e : A → Hd Q → P := by intro a h; (repeat' first | simp -dsimp only [↓zfT, ↓zaI, ↓zbP, ↓zfV, ↓zfN, ↓zfL, ↓zfO, ↓zfM, ↓zbU, ↓zbQ, ↓zbV, ↓zbR, ↓zfP, ↓zbN, ↓zbW, ↓zbS, ↓zbX, ↓zbT, ↓zfK, ↓zfQ, ↓zbM, ↓zbY, ↓zfF, ↓zfE, ↓zfH,iN,bT,bF,eN, ↓zcJ, ↓unC, ↓zaa, ↓zK, ↓zL, ↓zO, ↓zaf, ↓zaz, ↓zcK, ↓zar, ↓zbk, ↓zR, ↓zo, ↓zj, ↓zbz, ↓zg, ↓zam, ↓zH, ↓zaV, ↓zbc, ↓ze, ↓zB, ↓zu, ↓zC, ↓zap, ↓zdk, ↓zdO, ↓zav, ↓zaF, ↓zaZ, ↓zbj, ↓zbt, ↓zA, ↓zas, ↓zM, ↓zF, ↓zae,zdP,zbI,zbC,unA,zdL,bnd,zeq,zag,zQ,zek,dm,dm1,zD,zak,zeP,zeO,zP,Q0,Q1,Q2,Q3,Q4,Q5,zW,zt,zy,zN,zJ,Q6,Q7,Q8,Q9,Q10,Q11,Q12,Q13,Q14,Nat.reduceAdd,Q15,Int.reduceToNat,Q16,Q17,Q18,Q19,Q20,reduceIte,Q21,Q22,zG,rep,zab,zfq,toD,zaq,Q23,Q24,Q25,Q26,Q27,Q28,Nat.reduceLeDiff,Q29,Nat.reduceSub,Q30,Q31,Q32,sc,Q33,Q34,Q35,Q36,Q37,Q26,Q38,Q39,zjD,zjA,zjx,zjE,zdf,zjB,zjy,zjC,zjz,zde,zdg,zjG,zjH,Bool.not_true,Bool.not_false,List.length_map,zgf,a] | with_reducible refine zjK ?_ | fail); exact h.go) : P := e a ⟨h⟩
theorem gq52 {A P Q : Prop} (a : A) (h : Q) (e : A → Hd Q → P := by intro a h; (repeat' first | simp -dsimp only [↓zfT, ↓zaI, ↓zbP, ↓zfV, ↓zfN, ↓zfL, ↓zfO, ↓zfM, ↓zbU, ↓zbQ, ↓zbV, ↓zbR, ↓zfP, ↓zbN, ↓zbW, ↓zbS, ↓zbX, ↓zbT, ↓zfK, ↓zfQ, ↓zbM, ↓zbY, ↓zfF, ↓zfE, ↓zfH,iN,bT,bF,eN, ↓zcJ, ↓unC, ↓zaa, ↓zK, ↓zL, ↓zO, ↓zaf, ↓zaz, ↓zcK, ↓zar, ↓zbk, ↓zR, ↓zo, ↓zj, ↓zbz, ↓zg, ↓zam, ↓zH, ↓zaV, ↓zbc, ↓ze, ↓zB, ↓zu, ↓zC, ↓zap, ↓zdk, ↓zdO, ↓zav, ↓zaF, ↓zaZ, ↓zbj, ↓zbt, ↓zA, ↓zas, ↓zM, ↓zF, ↓zae,zdP,zbI,zbC,unA,zdL,bnd,zeq,zag,zQ,zek,dm,dm1,zD,zak,zeP,zeO,zP,Q0,Q1,Q2,Q3,Q4,Q5,zW,zt,zy,zN,zJ,Q6,Q7,Q8,Q9,Q10,Q11,Q12,Q13,Q14,Nat.reduceAdd,Q15,Int.reduceToNat,Q16,Q17,Q18,Q19,Q20,reduceIte,Q21,Q22,zG,rep,zab,zfq,toD,zaq,Q23,Q24,Q25,Q26,Q27,Q28,Nat.reduceLeDiff,Q29,Nat.reduceSub,Q30,Q31,Q32,sc,Q33,Q34,Q35,Q36,Q37,Q26,Q38,Q39,zjD,zjA,zjx,zjE,zdf,zjB,zjy,zjC,zjz,zde,zdg,zjG,zjH,Bool.not_true,Bool.not_false,List.length_map,List.set_set,beq_self_eq_true,a] | with_reducible refine zjK ?_ | fail); exact h.go) : P := e a ⟨h⟩
theorem c_begun25 {σ : List zh} {c : TCas} (hc : casOk c) {K : KT}
  (hK1 : zeJ c.f c.me c.topic c.offset ≠ 0 → ∀ S,WE σ (.box (zqD c)) (.d .nilp) (.d .nilp) (bgF (ksC c) (zoQ c.recs)) (bgF (ksC c) (zoQ c.recs)).L (bgF (ksC c) (zoQ c.recs)).G S → K (.tup [.box (σ.length + 9) 0, .d (.bool true)]) S)
  (hK2 : zeJ c.f c.me c.topic c.offset = 0 → ∀ S a b, σ.length + 9 < a → a < b → WE σ (.box (zqD c)) (.box a 0) (.box b 0) (bgF (ksC c) (zoQ c.recs)) (bgF (ksC c) (zoQ c.recs)).L (bgF (ksC c) (zoQ c.recs)).G S → S[a]? = some (rdB (zkO c.f c.me c.topic c.offset) (.box (σ.length + 4) 0) (.box (σ.length + 7) 0) (.exact [])) →
   S[b]? = some (rdX (zkO c.f c.me c.topic c.offset) (.exact []) (.box (σ.length + 1) 0) (.box (σ.length + 2) 0)) → K (.tup [.box (σ.length + 9) 0, .d (.bool true)]) S) :
  zp Tryz.prog zcT [.agg (zqD c)] σ K := by
 refine zdV zlt.is rfl fun hl _ => zlt.goes ?_
 have hlr : (zbZ c.recs).length = c.recs.length := List.length_map ..
 simp only [zlD,iN,bT,bF,eN,zl1,zl2,zl3,zqD,casD,List.map_cons,List.map_nil]
 refine gq1 ?_
 refine zqE ?_
 refine gq1 ?_
 refine zoB ?_
 refine gq1 ?_
 refine zp.pre (xs' := [.box (σ.length + 1) 0]) (σ' := σ ++ bv1 σ.length c [] []) (bv_weak _) ?_
 refine c_r9Genesis (L := []) (by rw [zt]; rfl) (by simp) ?_
 rw [zN]
 simp only [bv1,List.set_cons_succ,List.set_cons_zero]
 refine gq46 ?_
 refine zp.pre (xs' := [.box (σ.length + 9) 0, .box (σ.length + 11) 0,ztK st0.h, .d (.int .i64 0),opA ⟨1, [116], [], 0, []⟩]) (σ' := σ ++ bv2 σ.length c (genF []).2.2 (genF []).1) (bv_weak2 _) ?_
 refine c_block (k := 0) (o := ⟨1, [116], [], 0, []⟩) (C := .box (zqD c)) (N := 0) (m := 0) bv_first st0I (by omega) (by omega) (by omega) (by decide) fun S t g hJ => ?_
 have hJ0 := hJ.hb
 have hJ1 : WJ σ (.box (zqD c)) (σ.length + 13) (σ.length + 14) t g (blX st0 mkR) (S.set (σ.length + 10) (hdrC (blX st0 mkR).h)) := hJ.hdr'
 have hI1 : StI 1 1 (blX st0 mkR) := stI_bl st0I (by decide)
 rw [show blX st0 ⟨0, 0 + 1,⟨1, [116], [], 0, []⟩, 0, 0⟩ = blX st0 mkR from rfl]
 obtain ⟨s1,hs1⟩ : ∃ s1,blX st0 mkR = s1 := ⟨_,rfl⟩
 rw [hs1] at hJ1 hI1 ⊢
 obtain ⟨S1,hS1⟩ : ∃ S1,S.set (σ.length + 10) (hdrC s1.h) = S1 := ⟨_,rfl⟩
 rw [hS1] at hJ1
 simp only [hdrC] at hS1
 have cb := hJ1.cb
 obtain ⟨B,hB⟩ : ∃ B,c.recs.take 24 = B := ⟨_,rfl⟩
 have hz1 : List.take (if (24 : Int) < (c.recs.length : Int) then (24 : Int) else (c.recs.length : Int)).toNat (zbZ c.recs) = zbZ B := by
  rw [← hB,show (if (24 : Int) < (c.recs.length : Int) then (24 : Int) else (c.recs.length : Int)).toNat = min c.recs.length 24 by split <;> omega]
  simp only [zbZ,List.map_take]
  rcases Nat.le_total c.recs.length 24 with h | h
  ·rw [Nat.min_eq_left h,List.take_of_length_le (by simp),List.take_of_length_le (by simpa using h)]
  ·rw [Nat.min_eq_right h]
 have hz2 : List.drop ((0 : Nat) : Int).toNat (zbZ B) = zbZ B := rfl
 have hBl : B.length ≤ 24 := by rw [← hB,List.length_take]; omega
 have hBe : (zbZ B).length = B.length := List.length_map ..
 have hBx : ∀ b ∈ B,b.length ≤ 1048576 := fun b hb => hc.each b (by rw [← hB] at hb; exact List.mem_of_mem_take hb)
 have hPl : (B.mapIdx pubR).length = B.length := by simp
 have hPx : ∀ x ∈ B.mapIdx pubR,zkF x.op ≤ 20971520 := fun x hx => by
  obtain ⟨j,hj,rfl⟩ := List.mem_mapIdx.1 hx
  have := hBx _ (List.getElem_mem hj)
  simp [pubR,zkF]; omega
 refine gq2 (zf hlr (zf hJ0 (zf hS1 (zf cb (zf hz1 (zf hz2 hBe)))))) ?_
 refine ⟨zjt (f := fun r : List UInt8 => [D.slice (bcs r)]) (fun _ => rfl) c.recs, ?_⟩
 refine zr B.length (fun k vs S => vs = [.d (.int .i64 k)] ∧ ∃ t g,WJ σ (.box (zqD c)) (σ.length + 13) (σ.length + 14) t g (((B.mapIdx pubR).take k).foldl blX s1) S) ⟨rfl,t,g,hJ1⟩ ?_
 rintro k vs S hk ⟨rfl,t,g,hJ⟩
 have hI := fold_bl (N := 1) (m := 1) (s := s1) (rs := (B.mapIdx pubR).take k) hI1 fun x hx => hPx x (List.mem_of_mem_take hx)
 have hlk : ((B.mapIdx pubR).take k).length = k := by rw [List.length_take,hPl]; omega
 rw [hlk] at hI
 obtain ⟨s,hs⟩ : ∃ s,((B.mapIdx pubR).take k).foldl blX s1 = s := ⟨_,rfl⟩
 rw [hs] at hJ hI
 have hb := hJ.hb
 by_cases hlt : k < B.length
 ·have hd : decide ((k : Int) < (B.length : Int)) = true := by simp; omega
  have hq : B[k]? = some B[k] := by simp [hlt]
  have hgx := zS (f := fun b : List UInt8 => [D.slice (bcs b)]) hq
  have hbx := hBx _ (List.getElem_mem hlt)
  obtain ⟨b,hbe⟩ : ∃ b,B[k] = b := ⟨_,rfl⟩
  rw [hbe] at hq hgx hbx
  have hgx : (zbZ B)[k]? = some [D.slice (bcs b)] := hgx
  have hq2 : (B.mapIdx pubR)[k]? = some (pubR k b) := by rw [List.getElem?_mapIdx,hq]; rfl
  have hw : IntKind.i64.wrap ((k : Int) + 1) = (k : Int) + 1 := zac (by omega) (by omega)
  refine gq2 (zf hd (zf hgx (zf hBe (zf hb (zf hw (zf hz1 hz2)))))) ?_
  refine c_block (k := (k : Int) + 1) (o := ⟨2, [116], [], 0, [b]⟩) hJ hI (by omega) (by omega) (by omega) (by simp [zkF]; omega) fun S2 t' g' hJ2 => ?_
  have rn := zsH (f := blX) (s := s1) hq2
  rw [hs] at rn
  have hb2 := hJ2.hb
  have hJ3 : WJ σ (.box (zqD c)) (σ.length + 13) (σ.length + 14) t' g' (blX s (pubR k b)) (S2.set (σ.length + 10) (hdrC (blX s (pubR k b)).h)) := hJ2.hdr'
  rw [show blX s ⟨0,(k : Int) + 1 + 1,⟨2, [116], [], 0, [b]⟩, 0, 0⟩ = blX s (pubR k b) from rfl]
  refine gq2 (zf hb2 hw) ?_
  refine zaG.next hlt ⟨rfl,t',g', ?_⟩
  rw [rn]
  exact hJ3
 ·have hd : decide ((k : Int) < (B.length : Int)) = false := by simp; omega
  rw [show (B.mapIdx pubR).take k = B.mapIdx pubR from List.take_of_length_le (by omega)] at hs
  have hsB : bgB (zoQ c.recs) = s := by rw [← hs,bgB,zoQ,hB,List.foldl_cons,hs1]
  have st := hJ.st
  refine gq2 (zf hd (zf hBe (zf st (zf hz1 hz2)))) ?_
  have hIs := hI
  have hbl := hI.bl
  have hkl13 : (ksC c).length ≤ 13 := zvO _ _
  have hbe : (zca s.bs).length = s.bs.length := List.length_map ..
  refine gq2 hbe ?_
  refine zr s.bs.length (fun k vs S => vs = [.d (.int .i64 k)] ∧ WJ σ (.box (zqD c)) (σ.length + 13) (σ.length + 14) t g (((s.bs.map zbx.header).take k).foldl (crX (ksC c)) s) S) ⟨rfl,by simpa using hJ⟩ ?_
  rintro j vs S0 hj ⟨rfl,hJ0⟩
  have hI0 := fold_cr hkl13 (l := (s.bs.map zbx.header).take j) hIs
  have hlj : ((s.bs.map zbx.header).take j).length = j := by rw [List.length_take,List.length_map]; omega
  rw [hlj] at hI0
  obtain ⟨q,hq⟩ : ∃ q,((s.bs.map zbx.header).take j).foldl (crX (ksC c)) s = q := ⟨_,rfl⟩
  have hqb : q.bs = s.bs := by rw [← hq]; exact (foldCr_bs _ _ _).1
  rw [hq] at hJ0 hI0
  by_cases hjl : j < s.bs.length
  ·have hd : decide ((j : Int) < (s.bs.length : Int)) = true := by simp; omega
   have hx : s.bs[j]? = some s.bs[j] := by simp [hjl]
   have hgx := zS (f := zhG) hx
   obtain ⟨b,hbb⟩ : ∃ b,s.bs[j] = b := ⟨_,rfl⟩
   rw [hbb] at hx hgx
   have hgx : (zca s.bs)[j]? = some (zhG b) := hgx
   have hh : (s.bs.map zbx.header)[j]? = some b.header := by rw [List.getElem?_map,hx]; rfl
   have rn := zsH (f := crX (ksC c)) (s := s) hh
   rw [hq] at rn
   have hw : IntKind.i64.wrap ((j : Int) + 1) = ((j + 1 : Nat) : Int) := by rw [zac (by omega) (by omega)]; rfl
   have st0 := hJ0.st
   have st0' := fun τ => zd (τ := τ) hJ0.st
   have y1 : ∀ τ Y,(S0 ++ τ).set (σ.length + 1) Y = S0.set (σ.length + 1) Y ++ τ := fun τ Y => List.set_append_left _ _ (zx hJ0.xb)
   refine gq47 (zf hd (zf hgx (zf hbe st0'))) ?_
   refine zva (h := b.header) (zd hJ0.xb) hI0.tab.len ?_
   rw [y1]
   have hJ1 := hJ0.x (zeF q.L b.header)
   obtain ⟨S1,hS1⟩ : ∃ S1,S0.set (σ.length + 1) (rtO (zeF q.L b.header)) = S1 := ⟨_,rfl⟩
   have l1 : S1.length = S0.length := by rw [← hS1]; simp
   rw [hS1] at hJ1 ⊢
   simp only [← l1]
   have st1 := fun τ => zd (τ := τ) hJ1.st
   have cb1 := fun τ => zd (τ := τ) hJ1.cb
   cases c4 : (b.header.seq.tmod 4 != 0)
   rotate_left
   ·(repeat' (first | simp -dsimp only [↓zfT, ↓zaI, ↓zbP, ↓zfV, ↓zfN, ↓zfL, ↓zfO, ↓zfM, ↓zbU, ↓zbQ, ↓zbV, ↓zbR, ↓zfP, ↓zbN, ↓zbW, ↓zbS, ↓zbX, ↓zbT, ↓zfK, ↓zfQ, ↓zbM, ↓zbY, ↓zfF, ↓zfE, ↓zfH,iN,bT,bF,eN, ↓zcJ, ↓unC, ↓zaa, ↓zK, ↓zL, ↓zO, ↓zaf, ↓zaz, ↓zcK, ↓zar, ↓zbk, ↓zR, ↓zo, ↓zj, ↓zbz, ↓zg, ↓zam, ↓zH, ↓zaV, ↓zbc, ↓ze, ↓zB, ↓zu, ↓zC, ↓zap, ↓zdk, ↓zdO, ↓zav, ↓zaF, ↓zaZ, ↓zbj, ↓zbt, ↓zA, ↓zas, ↓zM, ↓zF, ↓zae,zdP,zbI,zbC,unA,zdL,bnd,zeq,zag,zQ,zek,dm,dm1,zD,zak,zeP,zeO,zP,Q0,Q1,Q2,Q3,Q4,Q5,zW,zt,zy,zN,zJ,Q6,Q7,Q8,Q9,Q10,Q11,Q12,Q13,Q14,Nat.reduceAdd,Q15,Int.reduceToNat,Q16,Q17,Q18,Q19,Q20,reduceIte,Q21,Q22,zG,rep,zab,zfq,toD,zaq,Q23,Q24,Q25,Q26,Q27,Q28,Nat.reduceLeDiff,Q29,Nat.reduceSub,Q30,Q31,Q32,sc,Q33,Q34,Q35,Q36,Q37,Q26,Q38,Q39,zjD,zjA,zjx,zjE,zdf,zjB,zjy,zjC,zjz,zde,zdg,zjG,zjH,Bool.not_true,Bool.not_false,List.length_map,c4,hw, ← l1] | (with_reducible refine zjK ?_) | fail))
    refine zaG.next hjl ⟨rfl, ?_⟩
    rw [rn,crX,if_pos (by simpa using c4)]
    exact hJ1.app _
   ·(repeat' (first | simp -dsimp only [↓zfT, ↓zaI, ↓zbP, ↓zfV, ↓zfN, ↓zfL, ↓zfO, ↓zfM, ↓zbU, ↓zbQ, ↓zbV, ↓zbR, ↓zfP, ↓zbN, ↓zbW, ↓zbS, ↓zbX, ↓zbT, ↓zfK, ↓zfQ, ↓zbM, ↓zbY, ↓zfF, ↓zfE, ↓zfH,iN,bT,bF,eN, ↓zcJ, ↓unC, ↓zaa, ↓zK, ↓zL, ↓zO, ↓zaf, ↓zaz, ↓zcK, ↓zar, ↓zbk, ↓zR, ↓zo, ↓zj, ↓zbz, ↓zg, ↓zam, ↓zH, ↓zaV, ↓zbc, ↓ze, ↓zB, ↓zu, ↓zC, ↓zap, ↓zdk, ↓zdO, ↓zav, ↓zaF, ↓zaZ, ↓zbj, ↓zbt, ↓zA, ↓zas, ↓zM, ↓zF, ↓zae,zdP,zbI,zbC,unA,zdL,bnd,zeq,zag,zQ,zek,dm,dm1,zD,zak,zeP,zeO,zP,Q0,Q1,Q2,Q3,Q4,Q5,zW,zt,zy,zN,zJ,Q6,Q7,Q8,Q9,Q10,Q11,Q12,Q13,Q14,Nat.reduceAdd,Q15,Int.reduceToNat,Q16,Q17,Q18,Q19,Q20,reduceIte,Q21,Q22,zG,rep,zab,zfq,toD,zaq,Q23,Q24,Q25,Q26,Q27,Q28,Nat.reduceLeDiff,Q29,Nat.reduceSub,Q30,Q31,Q32,sc,Q33,Q34,Q35,Q36,Q37,Q26,Q38,Q39,zjD,zjA,zjx,zjE,zdf,zjB,zjy,zjC,zjz,zde,zdg,zjG,zjH,Bool.not_true,Bool.not_false,List.length_map,c4,hw,st1,cb1, ← l1] | (with_reducible refine zjK ?_) | fail))
    refine c_rAll ?_
    refine gq2 cb1 ?_
    refine c_rBoth hc.voters (all_small _) ?_
    refine gq1 ?_
    refine c_rList (both_small _ _) ?_
    rw [show memF (bothF c.voters (allF (zgB 3 c.f).toNat)) = ksC c from rfl]
    refine gq1 ?_
    have hkl : (zdK (ksC c)).length = (ksC c).length := List.length_map ..
    have l14 : σ.length + 14 < S1.length := zx hJ1.kc
    have e1 : (crX (ksC c) q b.header) = { q with L := (crV (ksC c) q b.header).1,G := (crV (ksC c) q b.header).2.1,cs := q.cs ++ [⟨b.header.seq,zlf q.L b.header,(crV (ksC c) q b.header).2.2⟩] } := by rw [crX,if_neg (by simpa using c4)]
    rw [e1] at rn
    unfold crV at rn
    obtain ⟨d,hdq⟩ : ∃ d,zlf q.L b.header = d := ⟨_,rfl⟩
    obtain ⟨M,hMq⟩ : ∃ M,S1.length = M := ⟨_,rfl⟩
    rw [hdq] at rn ⊢
    have hwc : zoF [.d (.int .i64 0)] (S1 ++ [ztk b, .box [.d (.int .i64 b.header.seq), .d (.int .i64 d), .exact []]]) [.d (.int .i64 0)] (S1 ++ [ztk b, .box [.d (.int .i64 b.header.seq), .d (.int .i64 d), .own (M + 2) []], .tok 2 0]) := by
     refine .tokB (S1.length + 1) 2 _ [] 2 (by rw [zt]; rfl) rfl (by simp) ?_
     rw [zN,zW,hMq,List.append_assoc]
     exact .refl _ _
    have hI2 := hI0.led
    refine zcu (ksC c).length (fun i vs S8 => ∃ p : List (List UInt8) × List zI × List zI,p = ((ksC c).take i).foldl (voR b.header.seq d) (zeF q.L b.header,q.G, []) ∧ vs = [.d (.int .i64 i)] ∧ WJ σ (.box (zqD c)) (σ.length + 13) (σ.length + 14) t g { q with L := p.1,G := p.2.1 } S8 ∧ S8[M + 1]? = some (.box [.d (.int .i64 b.header.seq), .d (.int .i64 d), .own (M + 2) (zbd p.2.2)]) ∧ S8[M + 2]? = some (.tok 2 p.2.2.length)) hwc
     ⟨_,rfl,rfl,hJ1.app _,by rw [← hMq,zt]; rfl,by rw [← hMq,zt]; rfl⟩ ?_
    rintro i vs S8 hi ⟨p,hp8,rfl,hJ8,hM8,hT8⟩
    have hqI : VoI (q.G.length + i) i p := by
     have := foldVo (seq := b.header.seq) (d := d) (s := (zeF q.L b.header,q.G, [])) (N := q.G.length) (m := 0) ⟨zrI hI0.tab b.header,Nat.le_refl _,hI0.ledI,Nat.zero_le _⟩ ((ksC c).take i)
     rw [← hp8] at this
     have e : ((ksC c).take i).length = i := by rw [List.length_take]; omega
     rw [e] at this
     simpa using this
    have hq1 := hqI.led; have hq2 := hqI.len
    have hqg : p.2.1.length ≤ 1073741824 := by omega
    have hql : (zbd p.2.2).length = p.2.2.length := List.length_map ..
    have m9 := hJ8.st
    have m9' : ∀ τ,(S8 ++ τ)[σ.length + 9]? = _ := fun τ => zd hJ8.st
    have mM : ∀ τ,(S8 ++ τ)[M + 1]? = _ := fun τ => zd hM8
    have hwj : IntKind.i64.wrap ((i : Int) + 1) = ((i + 1 : Nat) : Int) := by rw [zac (by omega) (by omega)]; rfl
    by_cases hil : i < (ksC c).length
    ·have hd : decide ((i : Int) < ((ksC c).length : Int)) = true := by simp; omega
     have hr8 : (ksC c)[i]? = some (ksC c)[i] := by simp [hil]
     have hgr := zS (f := fun t : Int => [D.int .i64 t]) hr8
     obtain ⟨key,hkey⟩ : ∃ key,(ksC c)[i] = key := ⟨_,rfl⟩
     rw [hkey] at hr8 hgr
     have rv := zsH (f := voR b.header.seq d) (s := (zeF q.L b.header,q.G, [])) hr8
     rw [← hp8] at rv
     refine gq2 (zf hd (zf hgr (zf hkl (zf hMq (zf m9 (zf m9' (zf hM8 mM))))))) ?_
     refine ⟨?_, ?_⟩
     ·refine c_voteW (key := key) (a := 6) (b := 0) (c := b.header.seq) (d := d) hJ8 hqI.tab hqg fun S9 hJ9 hG9 hl9 => ?_
      have hM9 := hG9 _ _ hM8 (by omega)
      have hT9 := hG9 _ _ hT8 (by omega)
      have m1 : ∀ τ,(S9 ++ τ)[M + 1]? = _ := fun τ => zd hM9
      have m2 : ∀ τ,(S9 ++ τ)[M + 2]? = _ := fun τ => zd hT9
      cases hv8 : (votE p.1 key 6 0 b.header.seq d == 0)
      ·have hv9 : ¬ votE p.1 key 6 0 b.header.seq d = 0 := by simpa using hv8
       refine gq2 (zf hv8 hwj) ?_
       refine zaG.next hil ⟨_,rv.symm,rfl,hJ9.app _, ?_, ?_⟩
       ·simp only [voR,if_neg hv9]; exact m1 _
       ·simp only [voR,if_neg hv9]; exact m2 _
      ·have hv9 : votE p.1 key 6 0 b.header.seq d = 0 := by simpa using hv8
       have u1 : ∀ τ Y,((S9 ++ τ).set (M + 2) Y)[M + 1]? = some _ := fun τ Y => zc Y (m1 τ) (by omega)
       refine gq15 (zf hv8 (zf hwj (zf m2 (zf u1 (zf hql hMq))))) ?_
       have hSg : zbd (p.2.2 ++ [votS p.1 key 6 0 b.header.seq d]) = zbd p.2.2 ++ [[.int .i64 (votS p.1 key 6 0 b.header.seq d).key, .int .i64 (votS p.1 key 6 0 b.header.seq d).dig]] := by simp; rfl
       refine zaG.next hil ⟨_,rv.symm,rfl,((hJ9.app _).oth (m2 _) (fun _ _ _ e => by cases e) (by omega) (by omega) (by omega) _).oth (u1 _ _) (fun _ _ _ e => by cases e) (by omega) (by omega) (by omega) _, ?_, ?_⟩
       ·simp only [voR,if_pos hv9]
        rw [hSg,List.getElem?_set_self (zx (u1 _ _))]
       ·simp only [voR,if_pos hv9]
        refine zc _ ?_ (by omega)
        rw [List.getElem?_set_self (zx (m2 _)),List.length_append]; rfl
     ·refine gq2 (zf m9 (zf m9' (zf mM hMq))) ?_
      refine c_voteW (key := key) (a := 6) (b := 0) (c := b.header.seq) (d := d) (hJ8.app _) hqI.tab hqg fun S9 hJ9 hG9 hl9 => ?_
      have lM := zx hM8; have lT := zx hT8
      have hM9 := hG9 _ _ (zd hM8) (by omega)
      have hT9 := hG9 _ _ (zd hT8) (by omega)
      have hA9 := hG9 S8.length _ (by rw [zy]; rfl) (by omega)
      have b0 : ∀ Y,(S9.set S8.length Y)[S8.length]? = some Y := fun Y => List.getElem?_set_self (zx hA9)
      have hJA : ∀ Y,WJ σ (.box (zqD c)) (σ.length + 13) (σ.length + 14) t g _ (S9.set S8.length Y) := fun Y => hJ9.oth hA9 (fun _ _ _ e => by cases e) (by omega) (by omega) (by omega) Y
      have m1 : ∀ Y,(S9.set S8.length Y)[M + 1]? = _ := fun Y => zc Y hM9 (by omega)
      have m2 : ∀ Y,(S9.set S8.length Y)[M + 2]? = _ := fun Y => zc Y hT9 (by omega)
      cases hv8 : (votE p.1 key 6 0 b.header.seq d == 0)
      ·have hv9 : ¬ votE p.1 key 6 0 b.header.seq d = 0 := by simpa using hv8
       refine gq37 (zf hv8 (zf hwj (zf hA9 b0))) ?_
       refine zaG.next hil ⟨_,rv.symm,rfl,hJA _, ?_, ?_⟩
       ·simp only [voR,if_neg hv9]; exact m1 _
       ·simp only [voR,if_neg hv9]; exact m2 _
      ·have hv9 : votE p.1 key 6 0 b.header.seq d = 0 := by simpa using hv8
       have u1 : ∀ Y Z,((S9.set S8.length Y).set (M + 2) Z)[M + 1]? = some _ := fun Y Z => zc Z (m1 Y) (by omega)
       refine gq48 (zf hv8 (zf hwj (zf hA9 (zf b0 (zf m2 (zf u1 (zf hql hMq))))))) ?_
       have hSg : zbd (p.2.2 ++ [votS p.1 key 6 0 b.header.seq d]) = zbd p.2.2 ++ [[.int .i64 (votS p.1 key 6 0 b.header.seq d).key, .int .i64 (votS p.1 key 6 0 b.header.seq d).dig]] := by simp; rfl
       refine zaG.next hil ⟨_,rv.symm,rfl,((hJA _).oth (m2 _) (fun _ _ _ e => by cases e) (by omega) (by omega) (by omega) _).oth (u1 _ _) (fun _ _ _ e => by cases e) (by omega) (by omega) (by omega) _, ?_, ?_⟩
       ·simp only [voR,if_pos hv9]
        rw [hSg,List.getElem?_set_self (zx (u1 _ _))]
       ·simp only [voR,if_pos hv9]
        refine zc _ ?_ (by omega)
        rw [List.getElem?_set_self (zx (m2 _)),List.length_append]; rfl
    ·have hd : decide ((i : Int) < ((ksC c).length : Int)) = false := by simp; omega
     rw [show (ksC c).take i = ksC c from List.take_of_length_le (by omega)] at hp8
     have v1 := fun Y => zc (i := σ.length + 14) Y m9 (by omega)
     have hJ9 := hJ8.crt (q.cs ++ [⟨b.header.seq,d,p.2.2⟩])
     rw [List.length_append,zeg,List.map_append] at hJ9
     have hce : (zeg q.cs).length = q.cs.length := List.length_map ..
     have hcl := hI0.cl
     have v14 := hJ8.kc
     refine gq2 (zf hd (zf hkl (zf hMq (zf m9 (zf m9' (zf hM8 (zf hT8 (zf hql (zf v1 (zf hce (zf v14 hw))))))))))) ?_
     refine zaG.next hjl ⟨rfl, ?_⟩
     rw [rn, ← hp8]
     exact hJ9
  ·have hd : decide ((j : Int) < (s.bs.length : Int)) = false := by simp; omega
   rw [show (s.bs.map zbx.header).take j = s.bs.map zbx.header from List.take_of_length_le (by rw [List.length_map]; omega)] at hq
   have hF : bgF (ksC c) (zoQ c.recs) = q := by rw [bgF,hsB]; exact hq
   have hbq : (zca q.bs).length = q.bs.length := List.length_map ..
   have hcq : (zeg q.cs).length = q.cs.length := List.length_map ..
   have hlq : q.bs.length ≤ 50 := by rw [hqb]; omega
   have hcl := hI0.cl
   have st := hJ0.st
   have hH : ziQ (ksC c) st0.h q := by
    rw [← hF]
    refine bgF_H (fun x hx => ?_) (by simp only [zoQ,hB,List.length_cons,hPl]; omega) (memF_rng _)
    rw [zoQ,hB] at hx
    rcases List.mem_cons.1 hx with rfl | hx
    ·decide
    ·exact hPx x hx
   refine gq2 (zf hd (zf hbe (zf st hbq))) ?_
   have hwk : zoF [.d (.int .i64 0)] S0 [.d (.int .i64 0)] _ := .dataB (σ.length + 9) 4 _ (.own (σ.length + 13) (zca q.bs)) (zca q.bs) hJ0.st rfl rfl (.dataB (σ.length + 9) 5 _ (.own (σ.length + 14) (zeg q.cs)) (zeg q.cs) (List.getElem?_set_self (zx hJ0.st)) rfl rfl (.refl _ _))
   refine zcu q.bs.length (fun k vs S => vs = [.d (.int .i64 k)] ∧ WE σ (.box (zqD c)) (.d .nilp) (.d .nilp) q [] [] S) hwk ⟨rfl,hJ0.done⟩ ?_
   rintro k1 vs S1 hk1 ⟨rfl,hE1⟩
   have w9 := hE1.st
   have w9' := fun τ => zd (τ := τ) hE1.st
   by_cases hl1 : k1 < q.bs.length
   ·have hd : decide ((k1 : Int) < (q.bs.length : Int)) = true := by simp; omega
    have hx : q.bs[k1]? = some q.bs[k1] := by simp [hl1]
    have hgx := zS (f := zhG) hx
    have hsb := hI0.bs _ (List.getElem_mem hl1)
    obtain ⟨b,hbb⟩ : ∃ b,q.bs[k1] = b := ⟨_,rfl⟩
    rw [hbb] at hx hgx hsb
    have hgx : (zca q.bs)[k1]? = some (zhG b) := hgx
    have hw : IntKind.i64.wrap ((k1 : Int) + 1) = ((k1 + 1 : Nat) : Int) := by rw [zac (by omega) (by omega)]; rfl
    have hpe : (zbm b.placed).length = b.placed.length := List.length_map ..
    have q9 := zx hE1.st
    refine gq49 (zf hd (zf hgx (zf hbq (zf w9 (zf w9' hcq))))) ?_
    obtain ⟨P,hP⟩ : ∃ P,S1.length = P := ⟨_,rfl⟩
    rw [hP] at q9
    refine zr q.cs.length (fun k vs S => vs = [.d (.int .i64 k)] ∧ WE σ (.box (zqD c)) (.d .nilp) (.d .nilp) q [] [] S ∧ S[P]? = some (ztk b)) ⟨rfl,hE1.app _,by rw [← hP,zy]; rfl⟩ ?_
    rintro k2 vs S2 hk2 ⟨rfl,hE2,hP2⟩
    have v9 := hE2.st
    have v9' := fun τ => zd (τ := τ) hE2.st
    have p2' := fun τ => zd (τ := τ) hP2
    by_cases hl2 : k2 < q.cs.length
    ·have hd : decide ((k2 : Int) < (q.cs.length : Int)) = true := by simp; omega
     have hx2 : q.cs[k2]? = some q.cs[k2] := by simp [hl2]
     have hgx2 := zS (f := certD) hx2
     have hsc := hI0.cs _ (List.getElem_mem hl2)
     obtain ⟨x,hxx⟩ : ∃ x,q.cs[k2] = x := ⟨_,rfl⟩
     rw [hxx] at hx2 hgx2 hsc
     have hgx2 : (zeg q.cs)[k2]? = some (certD x) := hgx2
     have hw2 : IntKind.i64.wrap ((k2 : Int) + 1) = ((k2 + 1 : Nat) : Int) := by rw [zac (by omega) (by omega)]; rfl
     refine gq50 (zf hd (zf hgx2 (zf hcq (zf v9 (zf v9' (zf p2' (zf hP2 (zf hP hpe)))))))) ?_
     obtain ⟨Q,hQ⟩ : ∃ Q,S2.length = Q := ⟨_,rfl⟩
     refine zr b.placed.length (fun k vs S => vs = [.d (.int .i64 k)] ∧ WE σ (.box (zqD c)) (.d .nilp) (.d .nilp) q [] [] S ∧ S[P]? = some (ztk b) ∧ S[Q]? = some (.box [.d (.int .i64 x.seq), .d (.int .i64 x.dig), .d (.slice (zbd x.signs))])) ⟨rfl,hE2.app _,zd hP2,by rw [← hQ,zy]; rfl⟩ ?_
     rintro k3 vs S3 hk3 ⟨rfl,hE3,hP3,hQ3⟩
     have u9 := hE3.st
     have u9' := fun τ => zd (τ := τ) hE3.st
     have q3' := fun τ => zd (τ := τ) hQ3
     by_cases hl3 : k3 < b.placed.length
     ·have hd : decide ((k3 : Int) < (b.placed.length : Int)) = true := by simp; omega
      have hx3 : b.placed[k3]? = some b.placed[k3] := by simp [hl3]
      have hgx3 := zS (f := zgf) hx3
      obtain ⟨y,hyy⟩ : ∃ y,b.placed[k3] = y := ⟨_,rfl⟩
      rw [hyy] at hx3 hgx3
      have hgx3 : (zbm b.placed)[k3]? = some (zgf y) := hgx3
      have hbp := hsb.len
      have hw3 : IntKind.i64.wrap ((k3 : Int) + 1) = ((k3 + 1 : Nat) : Int) := by rw [zac (by omega) (by omega)]; rfl
      refine gq51 (zf hd (zf hgx3 (zf hpe (zf u9' (zf q3' hQ))))) ?_
      refine c_r23Make (L := q.L) (l := q.bs) (c := x) (tp := y.topic) (o := y.offset) (zd hE3.xb) hI0.tab.len (by omega) hI0.bs (by omega) ?_
      rw [make_same hH,zbq (zd hE3.xb)]
      refine gq2 hw3 ?_
      exact zaG.next hl3 ⟨rfl,hE3.app _,zd hP3,zd hQ3⟩
     ·have hd : decide ((k3 : Int) < (b.placed.length : Int)) = false := by simp; omega
      refine gq2 (zf hd (zf hpe hw2)) ?_
      exact zaG.next hl2 ⟨rfl,hE3,hP3⟩
    ·have hd : decide ((k2 : Int) < (q.cs.length : Int)) = false := by simp; omega
     refine gq2 (zf hd (zf hcq hw)) ?_
     exact zaG.next hl1 ⟨rfl,hE2⟩
   ·have hd : decide ((k1 : Int) < (q.bs.length : Int)) = false := by simp; omega
    have m1 : S1[σ.length + 1]? = some (zh.box [.d (.slice (zgZ q.L))]) := hE1.xb
    have etl : (zgZ q.L).length = q.L.length := List.length_map ..
    have egl : (zpP q.G).length = q.G.length := List.length_map ..
    have hti := hI0.tab
    have hled := hI0.led
    have htl := hti.len
    refine gq15 (zf hd (zf hbq (zf w9 etl))) ?_
    refine zr q.L.length (fun k vs S => vs = [.d (.int .i64 k)] ∧ WE σ (.box (zqD c)) (.d .nilp) (.d .nilp) q (q.L.take k) [] S) ⟨rfl,hE1⟩ ?_
    rintro u vs S2 hu ⟨rfl,hE⟩
    have e9 := hE.st
    by_cases hul : u < q.L.length
    ·have hd : decide ((u : Int) < (q.L.length : Int)) = true := by simp; omega
     have hx : q.L[u]? = some q.L[u] := by simp [hul]
     have hgx := zS (f := fun b => [D.slice (bcs b)]) hx
     have hxb := hti.each _ (List.getElem_mem hul)
     obtain ⟨x,hxe⟩ : ∃ x,q.L[u] = x := ⟨_,rfl⟩
     rw [hxe] at hx hgx hxb
     have hw : IntKind.i64.wrap ((u : Int) + 1) = ((u + 1 : Nat) : Int) := by rw [zac (by omega) (by omega)]; rfl
     refine gq2 (zf hd (zf hgx (zf etl e9))) ?_
     refine c_tSum hE.tab hxb (by rw [List.length_take]; omega) ?_
     rw [zvB hti.nd hti.len hx]
     refine gq2 hw ?_
     exact zaG.next hul ⟨rfl,hE.putT _⟩
    ·have hd : decide ((u : Int) < (q.L.length : Int)) = false := by simp; omega
     rw [show q.L.take u = q.L from List.take_of_length_le (by omega)] at hE
     have e8 : S2[σ.length + 2]? = some (zh.box [.d (.slice (zpP q.G))]) := hE.yb
     refine gq2 (zf hd (zf etl (zf e9 (zf e8 egl)))) ?_
     refine zr q.G.length (fun k vs S => vs = [.d (.int .i64 k)] ∧ WE σ (.box (zqD c)) (.d .nilp) (.d .nilp) q q.L (q.G.take k) S) ⟨rfl,hE⟩ ?_
     rintro u vs S3 hu ⟨rfl,hE3⟩
     have e9 := hE3.st
     have e9' : ∀ τ,(S3 ++ τ)[σ.length + 9]? = _ := fun τ => zd hE3.st
     by_cases hul : u < q.G.length
     ·have hd : decide ((u : Int) < (q.G.length : Int)) = true := by simp; omega
      have hx : q.G[u]? = some q.G[u] := by simp [hul]
      obtain ⟨x,hxe⟩ : ∃ x,q.G[u] = x := ⟨_,rfl⟩
      rw [hxe] at hx
      have hgx : (zpP q.G)[u]? = some [D.int .i64 x.key,D.int .i64 x.dig] := by rw [zpP]; exact zS hx
      have hw : IntKind.i64.wrap ((u : Int) + 1) = ((u + 1 : Nat) : Int) := by rw [zac (by omega) (by omega)]; rfl
      refine gq2 (zf hd (zf hgx (zf egl (zf e9 e9')))) ?_
      refine c_gSign (hE3.led.app _) (by rw [List.length_take]; omega) ?_
      rw [sign_take hI0.ledI hx]
      refine gq2 hw ?_
      exact zaG.next hul ⟨rfl,(hE3.app _).putG _⟩
     ·have hd : decide ((u : Int) < (q.G.length : Int)) = false := by simp; omega
      rw [show q.G.take u = q.G from List.take_of_length_le (by omega)] at hE3
      have cb := hE3.cb
      refine gq2 (zf hd (zf egl (zf e9 cb))) ?_
      rw [hF] at hK1 hK2
      refine c_rdNew hE3.tab hE3.led hti (by omega) hc.topic (fun hz τ => ?_) (fun hz τ => ?_)
      ·have hE4 := hE3.app τ
       obtain ⟨S4,hS4⟩ : ∃ S4,S3 ++ τ = S4 := ⟨_,rfl⟩
       rw [hS4] at hE4 ⊢
       have cb4 := hE4.cb
       have e4 := hE4.st
       have hz' : (zeJ c.f c.me c.topic c.offset == 0) = false := by simpa using hz
       refine gq2 (zf cb4 e4) ?_
       refine c_rxNew hc.topic (fun _ τ2 => ?_) (fun h => absurd h hz)
       have hE5 := hE4.app τ2
       obtain ⟨S5,hS5⟩ : ∃ S5,S4 ++ τ2 = S5 := ⟨_,rfl⟩
       rw [hS5] at hE5 ⊢
       have e5 := hE5.st
       have e6 := fun Y => List.getElem?_set_self (a := Y) (zx hE5.st)
       have hE6 := hE5.rdr (.d .nilp) (.d .nilp)
       refine gq52 (zf e5 (zf e6 hz')) ?_
       refine zfX ?_
       exact hK1 hz _ hE6
      ·have hE4 := hE3.app (τ ++ [rdB (zkO c.f c.me c.topic c.offset) (.box (σ.length + 4) 0) (.box (σ.length + 7) 0) (.exact [])])
       have r4 : (S3 ++ (τ ++ [rdB (zkO c.f c.me c.topic c.offset) (.box (σ.length + 4) 0) (.box (σ.length + 7) 0) (.exact [])]))[(S3 ++ τ).length]? = some (rdB (zkO c.f c.me c.topic c.offset) (.box (σ.length + 4) 0) (.box (σ.length + 7) 0) (.exact [])) := by
        rw [← List.append_assoc,zy]; rfl
       have la : σ.length + 9 < (S3 ++ τ).length := by have := zx e9; rw [List.length_append]; omega
       rw [List.append_assoc]
       obtain ⟨a,ha⟩ : ∃ a,(S3 ++ τ).length = a := ⟨_,rfl⟩
       obtain ⟨S4,hS4⟩ : ∃ S4,S3 ++ (τ ++ [rdB (zkO c.f c.me c.topic c.offset) (.box (σ.length + 4) 0) (.box (σ.length + 7) 0) (.exact [])]) = S4 := ⟨_,rfl⟩
       rw [hS4] at hE4 r4 ⊢
       rw [ha] at r4 la ⊢
       have cb4 := hE4.cb
       have e4 := hE4.st
       refine gq2 (zf cb4 e4) ?_
       refine c_rxNew hc.topic (fun h => absurd hz h) (fun _ => ?_)
       have hE5 := hE4.app [rdX (zkO c.f c.me c.topic c.offset) (.exact []) (.box (σ.length + 1) 0) (.box (σ.length + 2) 0)]
       have r5 := zd (τ := [rdX (zkO c.f c.me c.topic c.offset) (.exact []) (.box (σ.length + 1) 0) (.box (σ.length + 2) 0)]) r4
       have w5 : (S4 ++ [rdX (zkO c.f c.me c.topic c.offset) (.exact []) (.box (σ.length + 1) 0) (.box (σ.length + 2) 0)])[S4.length]? = some (rdX (zkO c.f c.me c.topic c.offset) (.exact []) (.box (σ.length + 1) 0) (.box (σ.length + 2) 0)) := by rw [zy]; rfl
       have lb := zx r4
       obtain ⟨b,hb⟩ : ∃ b,S4.length = b := ⟨_,rfl⟩
       obtain ⟨S5,hS5⟩ : ∃ S5,S4 ++ [rdX (zkO c.f c.me c.topic c.offset) (.exact []) (.box (σ.length + 1) 0) (.box (σ.length + 2) 0)] = S5 := ⟨_,rfl⟩
       rw [hS5] at hE5 r5 w5 ⊢
       rw [hb] at w5 lb ⊢
       have e5 := hE5.st
       have e6 := fun Y => List.getElem?_set_self (a := Y) (zx hE5.st)
       have hE6 := hE5.rdr (.box a 0) (.box b 0)
       refine gq52 (zf e5 e6) ?_
       refine zfX ?_
       exact hK2 hz _ a b la lb hE6 (zc _ r5 (by omega)) (zc _ w5 (by omega))
end Go.Proofs.YtfgbofkdhfjegaaGreat

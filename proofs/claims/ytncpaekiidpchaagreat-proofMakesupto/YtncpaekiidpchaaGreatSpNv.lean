/- What a new view goes on with. No program in sight. -/
import Derived.Test.YtncpaekiidpchaaGreatCl1
import Derived.Test.YtncpaekiidpchaaGreatSh
import Derived.Test.YtncpaekiidpchaaGreatAwEnd
import Derived.Test.YtncpaekiidpchaaGreatSpMake
import Derived.Test.YtncpaekiidpchaaGreatSpVote
set_option linter.all false
namespace Go.AW
def zeJ (f : Int) : Int := if f < 1 ∨ f > 4 then 120 else 0
def zeP (n f : Int) : Int := if f < 1 ∨ f > 4 then 0 else n * f + 1
end Go.AW

/- Contracts: how many brokers there are, and a quorum has. -/
set_option maxRecDepth 100000
namespace Go.Proofs.YtncpaekiidpchaaGreat
open Go.AW
theorem zkp {A B : Prop} (a : A) (b : B) : A ∧ B := ⟨a,b⟩
theorem gq47 {A P Q : Prop} (a : A) (h : Q) (e : A → P = Q := by intro a; simp -dsimp only [↓zcR, ↓zal, ↓zaM, ↓zcS, ↓zcN, ↓zcL, ↓zcO, ↓zcM, ↓zaR, ↓zaN, ↓zaS, ↓zaO, ↓zcP, ↓zaL, ↓zaT, ↓zaP, ↓zaU, ↓zaQ, ↓zcK, ↓zcQ, ↓zaK, ↓zaV, ↓zcI, ↓zcH, ↓zcJ,iN,bT,bF,eN, ↓zbI, ↓unC, ↓zQ, ↓zF, ↓zG, ↓zI, ↓zR, ↓zap, ↓zbp, ↓zab, ↓zaX, ↓zP, ↓zp, ↓zm, ↓zbg, ↓zi, ↓zY, ↓zB, ↓zas, ↓zaw, ↓ze, ↓zC, ↓zr, ↓zt, ↓zad, ↓zbL, ↓zbY, ↓zaa, ↓zaj, ↓zau, ↓zaB, ↓zaD, ↓zl, ↓zZ, ↓zH, ↓zu, ↓zS,zcd,zaI,zaH,unA,zce,bnd,zcn,zX,zV,zcp,dm,dm1,zD,zag,zcy,zcx,zU,Q0,Q1,Q2,Q3,Q4,Q5,zO,zq,zw,zM,zE,Q6,Q7,Q8,Q9,Q10,Q11,Q12,Q13,Q14,Nat.reduceAdd,Q15,Int.reduceToNat,Q16,Q17,Q18,Q19,Q20,reduceIte,Q21,Q22,zx,rep,zT,zcv,toD,zW,Q23,Q24,Q25,Q26,Q27,Q28,Nat.reduceLeDiff,Q29,Nat.reduceSub,Q30,Q31,Q32,sc,Q33,Q34,Q35,a]; rfl) : P := (e a).mpr h
theorem zrz {σ : List zf} {f : Int} {K : AV → List zf → Prop} (hK : K (.d (.int .i64 (zeJ f))) σ) : zL Tryz.prog zee [.d (.int .i64 f)] σ K := by
 refine zj zmc.is rfl fun hl _ => zmc.goes ?_
 simp only [zmq,iN,bT,bF,eN]
 cases h1 : decide (f < 1) <;> cases h2 : decide (f > 4)
 all_goals
  (refine gq47 (zkp h1 h2) ?_; try with_reducible exact True.intro)
  (first | refine zao hl ?_ | refine zan hl ?_)
  simp only [decide_eq_true_eq,decide_eq_false_iff_not] at h1 h2
 ·rw [zeJ,if_neg (by omega)] at hK; exact hK
 all_goals (rw [zeJ,if_pos (by omega)] at hK; exact hK)
theorem c_rCheckF {σ : List zf} {f : Int} {K : AV → List zf → Prop} (hK : K (.d (.int .i64 (zeJ f))) σ) : zL Tryz.prog zmA [.d (.int .i64 f)] σ K := by
 refine zj zrf.is rfl fun hl _ => zrf.goes ?_
 simp only [zrJ,iN,bT,bF,eN]
 cases h1 : decide (f < 1) <;> cases h2 : decide (f > 4)
 all_goals
  (refine gq47 (zkp h1 h2) ?_; try with_reducible exact True.intro)
  (first | refine zao hl ?_ | refine zan hl ?_)
  simp only [decide_eq_true_eq,decide_eq_false_iff_not] at h1 h2
 ·rw [zeJ,if_neg (by omega)] at hK; exact hK
 all_goals (rw [zeJ,if_pos (by omega)] at hK; exact hK)
theorem gq48 {P Q : Prop} (h : Q) (e : P = Q := by simp -dsimp only [↓zcR, ↓zal, ↓zaM, ↓zcS, ↓zcN, ↓zcL, ↓zcO, ↓zcM, ↓zaR, ↓zaN, ↓zaS, ↓zaO, ↓zcP, ↓zaL, ↓zaT, ↓zaP, ↓zaU, ↓zaQ, ↓zcK, ↓zcQ, ↓zaK, ↓zaV, ↓zcI, ↓zcH, ↓zcJ,iN,bT,bF,eN, ↓zbI, ↓unC, ↓zQ, ↓zF, ↓zG, ↓zI, ↓zR, ↓zap, ↓zbp, ↓zab, ↓zaX, ↓zP, ↓zp, ↓zm, ↓zbg, ↓zi, ↓zY, ↓zB, ↓zas, ↓zaw, ↓ze, ↓zC, ↓zr, ↓zt, ↓zad, ↓zbL, ↓zbY, ↓zaa, ↓zaj, ↓zau, ↓zaB, ↓zaD, ↓zl, ↓zZ, ↓zH, ↓zu, ↓zS,zcd,zaI,zaH,unA,zce,bnd,zcn,zX,zV,zcp,dm,dm1,zD,zag,zcy,zcx,zU,Q0,Q1,Q2,Q3,Q4,Q5,zO,zq,zw,zM,zE,Q6,Q7,Q8,Q9,Q10,Q11,Q12,Q13,Q14,Nat.reduceAdd,Q15,Int.reduceToNat,Q16,Q17,Q18,Q19,Q20,reduceIte,Q21,Q22,zx,rep,zT,zcv,toD,zW,Q23,Q24,Q25,Q26,Q27,Q28,Nat.reduceLeDiff,Q29,Nat.reduceSub,Q30,Q31,Q32,sc,Q33,Q34,Q35]; rfl) : P := e.mpr h
theorem c_times {σ : List zf} {n f : Int} (hn : 0 ≤ n ∧ n ≤ 3) {K : AV → List zf → Prop} (hK : K (.d (.int .i64 (zeP n f))) σ) : zL Tryz.prog zfI [.d (.int .i64 n), .d (.int .i64 f)] σ K := by
 refine zj zmb.is rfl fun hl _ => zmb.goes ?_
 simp only [zmp,iN,bT,bF,eN]
 (refine gq48 ?_; try with_reducible exact True.intro)
 refine zrz ?_
 by_cases h : f < 1 ∨ f > 4
 ·rw [zeP,if_pos h] at hK
  rw [zeJ,if_pos h]
  (refine gq47 (show ((120 : Int) != 0) = true from rfl) ?_; try with_reducible exact True.intro)
  (first | refine zao hl ?_ | refine zan hl ?_)
  exact hK
 ·rw [zeP,if_neg h] at hK
  rw [zeJ,if_neg h]
  have h1 : 0 ≤ n * f := Int.mul_nonneg hn.1 (by omega)
  have h2 : n * f ≤ 3 * 4 := Int.mul_le_mul hn.2 (by omega) (by omega) (by omega)
  have w1 : IntKind.i64.wrap (n * f) = n * f := zai (by omega) (by omega)
  have w2 : IntKind.i64.wrap (n * f + 1) = n * f + 1 := zai (by omega) (by omega)
  (refine gq47 (zkp (show ((0 : Int) != 0) = false from rfl) (zkp w1 w2)) ?_; try with_reducible exact True.intro)
  (first | refine zao hl ?_ | refine zan hl ?_)
  exact hK
theorem c_quBig {σ : List zf} {f : Int} {K : AV → List zf → Prop} (hK : K (.d (.int .i64 (zeP 2 f))) σ) : zL Tryz.prog zkC [.d (.int .i64 f)] σ K := by
 refine zj zpB.is rfl fun hl _ => zpB.goes ?_
 simp only [zpP,iN,bT,bF,eN]
 (refine gq48 ?_; try with_reducible exact True.intro)
 refine c_times (by omega) ?_
 (refine gq48 ?_; try with_reducible exact True.intro)
 (first | refine zao hl ?_ | refine zan hl ?_)
 exact hK
theorem c_quBrokers {σ : List zf} {f : Int} {K : AV → List zf → Prop} (hK : K (.d (.int .i64 (zeP 3 f))) σ) : zL Tryz.prog zgd [.d (.int .i64 f)] σ K := by
 refine zj zjP.is rfl fun hl _ => zjP.goes ?_
 simp only [zkc,iN,bT,bF,eN]
 (refine gq48 ?_; try with_reducible exact True.intro)
 refine c_times (by omega) ?_
 (refine gq48 ?_; try with_reducible exact True.intro)
 (first | refine zao hl ?_ | refine zan hl ?_)
 exact hK
theorem c_rBrokers {σ : List zf} {f : Int} {K : AV → List zf → Prop} (hK : K (.d (.int .i64 (zeP 3 f))) σ) : zL Tryz.prog zjq [.d (.int .i64 f)] σ K := by
 refine zj znt.is rfl fun hl _ => znt.goes ?_
 simp only [znU,iN,bT,bF,eN]
 (refine gq48 ?_; try with_reducible exact True.intro)
 refine c_rCheckF ?_
 by_cases h : f < 1 ∨ f > 4
 ·rw [zeP,if_pos h] at hK
  rw [zeJ,if_pos h]
  (refine gq47 (show ((120 : Int) != 0) = true from rfl) ?_; try with_reducible exact True.intro)
  (first | refine zao hl ?_ | refine zan hl ?_)
  exact hK
 ·rw [zeP,if_neg h] at hK
  rw [zeJ,if_neg h]
  have w1 : IntKind.i64.wrap (3 * f) = 3 * f := zai (by omega) (by omega)
  have w2 : IntKind.i64.wrap (3 * f + 1) = 3 * f + 1 := zai (by omega) (by omega)
  (refine gq47 (zkp (show ((0 : Int) != 0) = false from rfl) (zkp w1 w2)) ?_; try with_reducible exact True.intro)
  (first | refine zao hl ?_ | refine zan hl ?_)
  exact hK
end Go.Proofs.YtncpaekiidpchaaGreat

/- Contracts: votes, the document's. -/
set_option maxRecDepth 100000
namespace Go.Proofs.YtncpaekiidpchaaGreat
open Go.AW
theorem zuU {σ : List zf} {x : Int} {K : AV → List zf → Prop} (hK : K (.d (.bool (zdw x))) σ) : zL Tryz.prog ziv [.d (.int .i64 x)] σ K := by
 refine zj e_r11_num.is rfl fun hl _ => e_r11_num.goes ?_
 have fin : ∀ z,zdw x = z → K (.d (.bool z)) σ := fun z h => h ▸ hK
 clear hK
 simp only [S_r11_num,iN,bT,bF,eN]
 cases h1 : decide (x ≥ 0)
 ·(repeat' first | refine gq2 h1 ?_ | with_reducible first | exact ⟨⟩ | refine zh ?_ | fail)
  (first | refine zao hl ?_ | refine zan hl ?_)
  exact fin _ (by simp at h1; simp [zdw]; omega)
 ·(repeat' first | refine gq2 h1 ?_ | with_reducible first | exact ⟨⟩ | refine zh ?_ | fail)
  (first | refine zao hl ?_ | refine zan hl ?_)
  exact fin _ (by simp at h1; simp [zdw]; omega)
theorem c_raMay {σ : List zf} {a b c d : Int} {K : AV → List zf → Prop} (hK : K (.d (.bool (zrX a b c d))) σ) :
  zL Tryz.prog zqM [.d (.int .i64 a), .d (.int .i64 b), .d (.int .i64 c), .d (.int .i64 d)] σ K := by
 refine zj e_r11_may.is rfl fun hl _ => e_r11_may.goes ?_
 have fin : ∀ z,zrX a b c d = z → K (.d (.bool z)) σ := fun z h => h ▸ hK
 clear hK
 simp only [S_r11_may,iN,bT,bF,eN]
 (repeat' first | refine gq1 ?_ | with_reducible first | exact ⟨⟩ | refine zh ?_ | fail)
 refine zuU ?_
 cases h1 : zdw a
 ·(repeat' first | refine gq1 ?_ | with_reducible first | exact ⟨⟩ | refine zh ?_ | fail)
  (first | refine zao hl ?_ | refine zan hl ?_)
  exact fin _ (by simp [zrX,h1])
 (repeat' first | refine gq1 ?_ | with_reducible first | exact ⟨⟩ | refine zh ?_ | fail)
 refine zuU ?_
 cases h2 : zdw b
 ·(repeat' first | refine gq1 ?_ | with_reducible first | exact ⟨⟩ | refine zh ?_ | fail)
  (first | refine zao hl ?_ | refine zan hl ?_)
  exact fin _ (by simp [zrX,h1,h2])
 (repeat' first | refine gq1 ?_ | with_reducible first | exact ⟨⟩ | refine zh ?_ | fail)
 refine zuU ?_
 cases h3 : zdw c
 ·(repeat' first | refine gq1 ?_ | with_reducible first | exact ⟨⟩ | refine zh ?_ | fail)
  (first | refine zao hl ?_ | refine zan hl ?_)
  exact fin _ (by simp [zrX,h1,h2,h3])
 (repeat' first | refine gq1 ?_ | with_reducible first | exact ⟨⟩ | refine zh ?_ | fail)
 refine zuU ?_
 (repeat' first | refine gq1 ?_ | with_reducible first | exact ⟨⟩ | refine zh ?_ | fail)
 (first | refine zao hl ?_ | refine zan hl ?_)
 exact fin _ (by simp [zrX,h1,h2,h3])
theorem zuT {σ : List zf} {b : List UInt8} {x : Int} (hb : b.length ≤ 1000000) (h0 : 0 ≤ x) (h1 : x ≤ 9007199254740992) {K : AV → List zf → Prop} (hK : K (.d (.slice (bcs (b ++ zcw x.toNat)))) σ) :
  zL Tryz.prog ziu [.d (.slice (bcs b)), .d (.int .i64 x)] σ K := by
 refine zj e_r11_put.is rfl fun hl _ => e_r11_put.goes ?_
 have hm1 : (if 0 > x then 0 else x) = x := by split <;> omega
 have hm2 : (if x < 0 then 0 else x) = x := by split <;> omega
 have hw : IntKind.u64.wrap x = ((x.toNat : Nat) : Int) := by
  rw [show x = ((x.toNat : Nat) : Int) by omega,zcq (by omega)]; rfl
 simp only [S_r11_put,iN,bT,bF,eN]
 (repeat' first | refine gq2 (zd hm1 (zd hm2 hw)) ?_ | with_reducible first | exact ⟨⟩ | refine zh ?_ | fail)
 refine zcF (by omega) (by omega) ?_
 (repeat' first | refine gq1 ?_ | with_reducible first | exact ⟨⟩ | refine zh ?_ | fail)
 (first | refine zao hl ?_ | refine zan hl ?_)
 exact hK
theorem zuS {σ : List zf} {a b c d : Int} (h : zrX a b c d = true) {K : AV → List zf → Prop} (hK : K (.d (.slice (bcs (zkk a b c d)))) σ) :
  zL Tryz.prog zgW [.d (.int .i64 a), .d (.int .i64 b), .d (.int .i64 c), .d (.int .i64 d)] σ K := by
 refine zj zkL.is rfl fun hl _ => zkL.goes ?_
 simp only [zrX,Bool.and_eq_true,znh] at h
 obtain ⟨⟨a0,a1⟩,⟨b0,b1⟩,⟨c0,c1⟩,⟨d0,d1⟩⟩ := h
 have l1 := zJ (n := a.toNat) (by omega)
 have l2 := zJ (n := b.toNat) (by omega)
 have l3 := zJ (n := c.toNat) (by omega)
 simp only [zld,iN,bT,bF,eN]
 (repeat' first | refine gq1 ?_ | with_reducible first | exact ⟨⟩ | refine zh ?_ | fail)
 refine zuT (b := [4]) (by simp) a0 a1 ?_
 obtain ⟨B1,hB1⟩ : ∃ B, [4] ++ zcw a.toNat = B := ⟨_,rfl⟩
 have n1 : B1.length ≤ 11 := by rw [← hB1]; simp; omega
 rw [hB1]
 (repeat' first | refine gq1 ?_ | with_reducible first | exact ⟨⟩ | refine zh ?_ | fail)
 refine zuT (by omega) b0 b1 ?_
 obtain ⟨B2,hB2⟩ : ∃ B,B1 ++ zcw b.toNat = B := ⟨_,rfl⟩
 have n2 : B2.length ≤ 21 := by rw [← hB2]; simp; omega
 rw [hB2]
 (repeat' first | refine gq1 ?_ | with_reducible first | exact ⟨⟩ | refine zh ?_ | fail)
 refine zuT (by omega) c0 c1 ?_
 obtain ⟨B3,hB3⟩ : ∃ B,B2 ++ zcw c.toNat = B := ⟨_,rfl⟩
 have n3 : B3.length ≤ 31 := by rw [← hB3]; simp; omega
 rw [hB3]
 (repeat' first | refine gq1 ?_ | with_reducible first | exact ⟨⟩ | refine zh ?_ | fail)
 refine zuT (by omega) d0 d1 ?_
 (repeat' first | refine gq1 ?_ | with_reducible first | exact ⟨⟩ | refine zh ?_ | fail)
 (first | refine zao hl ?_ | refine zan hl ?_)
 rw [show B3 ++ zcw d.toNat = zkk a b c d by rw [← hB3, ← hB2, ← hB1]; simp [zkk,zgF]]
 exact hK
def sgnE (L : List (List UInt8)) (key : Int) (b : List UInt8) : Int := if zed L b = 0 then 6 else zeR key (zed L b)
def sgnS (L : List (List UInt8)) (key : Int) (b : List UInt8) : zae := if zed L b = 0 then ⟨0, 0⟩ else signR key (zed L b)
def sgnG (L : List (List UInt8)) (G : List zae) (key : Int) (b : List UInt8) : List zae := if zed L b = 0 then G else zgD G key (zed L b)
theorem c_raSign {σ : List zf} {id id2 : Nat} {L : List (List UInt8)} {G : List zae} {key : Int} {b : List UInt8} (hT : σ[id]? = some (rtO L)) (hG : σ[id2]? = some (rlO G)) (h1 : id ≠ id2) (hbl : b.length ≤ 1073741824) (hl0 : L.length ≤ 1048576) (hg : G.length ≤ 1073741824)
  {K : AV → List zf → Prop}
  (hK : K (.tup [zun (sgnS L key b), .d (.int .i64 (sgnE L key b))]) ((σ.set id (rtO (zfk L b))).set id2 (rlO (sgnG L G key b)))) :
  zL Tryz.prog zoB [.box id 0, .box id2 0, .d (.int .i64 key), .d (.slice (bcs b))] σ K := by
 refine zj ztc.is rfl fun hl _ => ztc.goes ?_
 simp only [ztP,iN,bT,bF,eN]
 (repeat' first | refine gq1 ?_ | with_reducible first | exact ⟨⟩ | refine zh ?_ | fail)
 refine zjI (zg hT) hbl hl0 ?_
 rw [zbE hT]
 have hl1 : zfi σ.length (σ.set id (rtO (zfk L b))) := hl.setO (zew _ _)
 have hs1 : (σ.set id (rtO (zfk L b))).length = σ.length := by simp
 have hG1 : (σ.set id (rtO (zfk L b)))[id2]? = some (rlO G) := by rw [List.getElem?_set_ne h1]; exact hG
 obtain ⟨S1,hS1⟩ : ∃ S1, σ.set id (rtO (zfk L b)) = S1 := ⟨_,rfl⟩
 rw [hS1] at hK hG1 hs1 hl1 ⊢
 have r1 : σ.length = S1.length := hs1.symm
 rw [r1] at hl1
 by_cases hz : zed L b = 0
 ·have hq : (zed L b == 0) = true := by simpa using hz
  simp only [sgnE,sgnS,sgnG,if_pos hz,zun] at hK
  rw [zbD hG1] at hK
  (repeat' first | refine gq2 (zd hq r1) ?_ | with_reducible first | exact ⟨⟩ | refine zh ?_ | fail)
  refine zda rfl ?_ hl1 ?_
  ·simp [zdj,dmT,dm,dm1,zbV,zby,zea]
  ·exact hK
 ·have hq : (zed L b == 0) = false := by simpa using hz
  simp only [sgnE,sgnS,sgnG,if_neg hz] at hK
  (repeat' first | refine gq2 (zd hq r1) ?_ | with_reducible first | exact ⟨⟩ | refine zh ?_ | fail)
  refine c_rgSign (zg hG1) hg ?_
  rw [zbE hG1]
  have hl2 : zfi S1.length (S1.set id2 (rlO (zgD G key (zed L b)))) := hl1.setO (rlO_low _ _)
  have hs2 : (S1.set id2 (rlO (zgD G key (zed L b)))).length = S1.length := by simp
  obtain ⟨S2,hS2⟩ : ∃ S2,S1.set id2 (rlO (zgD G key (zed L b))) = S2 := ⟨_,rfl⟩
  rw [hS2] at hK hs2 hl2 ⊢
  have r3 : S1.length = S2.length := hs2.symm
  have r2 : σ.length = S2.length := r1.trans r3
  rw [r3] at hl2
  simp only [zun] at hK ⊢
  (repeat' first | refine gq2 (zd r2 r3) ?_ | with_reducible first | exact ⟨⟩ | refine zh ?_ | fail)
  refine zda rfl ?_ hl2 ?_
  ·simp [zdj,dmT,dm,dm1,zbV,zby,zea]
  ·exact hK
def votE (L : List (List UInt8)) (key a b c d : Int) : Int := if zrX a b c d = true then sgnE L key (zkk a b c d) else 1
def votS (L : List (List UInt8)) (key a b c d : Int) : zae := if zrX a b c d = true then sgnS L key (zkk a b c d) else ⟨0, 0⟩
def votL (L : List (List UInt8)) (a b c d : Int) : List (List UInt8) := if zrX a b c d = true then zfk L (zkk a b c d) else L
def votG (L : List (List UInt8)) (G : List zae) (key a b c d : Int) : List zae := if zrX a b c d = true then sgnG L G key (zkk a b c d) else G
theorem c_raVote {σ : List zf} {id id2 : Nat} {L : List (List UInt8)} {G : List zae} {key a b c d : Int} (hT : σ[id]? = some (rtO L)) (hG : σ[id2]? = some (rlO G)) (h1 : id ≠ id2) (hl0 : L.length ≤ 1048576) (hg : G.length ≤ 1073741824)
  {K : AV → List zf → Prop}
  (hK : K (.tup [zun (votS L key a b c d), .d (.int .i64 (votE L key a b c d))]) ((σ.set id (rtO (votL L a b c d))).set id2 (rlO (votG L G key a b c d)))) :
  zL Tryz.prog ziw [.box id 0, .box id2 0, .d (.int .i64 key), .d (.int .i64 a), .d (.int .i64 b), .d (.int .i64 c), .d (.int .i64 d)] σ K := by
 refine zj ztd.is rfl fun hl _ => ztd.goes ?_
 simp only [ztQ,iN,bT,bF,eN]
 (repeat' first | refine gq1 ?_ | with_reducible first | exact ⟨⟩ | refine zh ?_ | fail)
 refine c_raMay ?_
 cases hm : zrX a b c d
 ·simp only [votS,votE,votL,votG,hm,Bool.false_eq_true,if_false,zun] at hK
  rw [zbD hT,zbD hG] at hK
  (repeat' first | refine gq1 ?_ | with_reducible first | exact ⟨⟩ | refine zh ?_ | fail)
  (first | refine zao hl ?_ | refine zan hl ?_)
  exact hK
 ·simp only [votS,votE,votL,votG,hm,if_true] at hK
  have hbl := voteB_len hm
  (repeat' first | refine gq1 ?_ | with_reducible first | exact ⟨⟩ | refine zh ?_ | fail)
  refine zuS hm ?_
  (repeat' first | refine gq1 ?_ | with_reducible first | exact ⟨⟩ | refine zh ?_ | fail)
  refine c_raSign (zg hT) (zg hG) h1 (by omega) hl0 hg ?_
  rw [zbE hT,zbE (by rw [List.getElem?_set_ne h1]; exact hG)]
  have hl2 : zfi σ.length ((σ.set id (rtO (zfk L (zkk a b c d)))).set id2 (rlO (sgnG L G key (zkk a b c d)))) := (hl.setO (zew _ _)).setO (rlO_low _ _)
  have hs2 : ((σ.set id (rtO (zfk L (zkk a b c d)))).set id2 (rlO (sgnG L G key (zkk a b c d)))).length = σ.length := by simp
  obtain ⟨S2,hS2⟩ : ∃ S2,(σ.set id (rtO (zfk L (zkk a b c d)))).set id2 (rlO (sgnG L G key (zkk a b c d))) = S2 := ⟨_,rfl⟩
  rw [hS2] at hK hs2 hl2 ⊢
  have r3 : σ.length = S2.length := hs2.symm
  rw [r3] at hl2
  simp only [zun] at hK ⊢
  (repeat' first | refine gq2 r3 ?_ | with_reducible first | exact ⟨⟩ | refine zh ?_ | fail)
  refine zda rfl ?_ hl2 ?_
  ·simp [zdj,dmT,dm,dm1,zbV,zby,zea]
  ·exact hK
end Go.Proofs.YtncpaekiidpchaaGreat

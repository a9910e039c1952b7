/- What a new view goes on with. No program in sight. -/
import Derived.Test.YtncpaekiidpchaaGreatCl1
import Derived.Test.YtncpaekiidpchaaGreatSh
import Derived.Test.YtncpaekiidpchaaGreatAwEnd
import Derived.Test.YtncpaekiidpchaaGreatSpMake
import Derived.Test.YtncpaekiidpchaaGreatSpVote
set_option linter.all false
namespace Go.AW
def zcP (f : Int) : Int := if f < 1 ∨ f > 4 then 120 else 0
def zbP (n f : Int) : Int := if f < 1 ∨ f > 4 then 0 else n * f + 1
end Go.AW

/- Contracts: how many brokers there are, and a quorum has. -/
set_option maxRecDepth 100000
namespace Go.Proofs.YtncpaekiidpchaaGreat
open Go.AW
theorem zjA {A B : Prop} (a : A) (b : B) : A ∧ B := ⟨a,b⟩
theorem gq40 {A P Q : Prop} (a : A) (h : Q) (e : A → P = Q := by intro a; simp -dsimp only [↓zey, ↓zau, ↓zbj, ↓zeA, ↓zes, ↓zeq, ↓zet, ↓zer, ↓zbo, ↓zbk, ↓zbp, ↓zbl, ↓zeu, ↓zbi, ↓zbq, ↓zbm, ↓zbr, ↓zbn, ↓zep, ↓zew, ↓zbh, ↓zbs, ↓zeg, ↓zef, ↓zeo,iN,bT,bF,eN, ↓zcS, ↓unC, ↓zW, ↓zK, ↓zL, ↓zN, ↓zZ, ↓zaw, ↓zbT, ↓zag, ↓zbu, ↓zP, ↓zq, ↓zo, ↓zby, ↓zl, ↓zaf, ↓zH, ↓zaC, ↓zaG, ↓ze, ↓zC, ↓zt, ↓zw, ↓zan, ↓zcC, ↓zdb, ↓zal, ↓zat, ↓zaF, ↓zaP, ↓zaW, ↓zu, ↓zai, ↓zM, ↓zA, ↓zaa,zdi,zbd,zba,unA,zdk,bnd,zdw,zac,zS,zdy,dm,dm1,zB,zak,zdP,zdO,zQ,Q0,Q1,Q2,Q3,Q4,Q5,zR,zr,zy,zO,zI,Q6,Q7,Q8,Q9,Q10,Q11,Q12,Q13,Q14,Nat.reduceAdd,Q15,Int.reduceToNat,Q16,Q17,Q18,Q19,Q20,reduceIte,Q21,Q22,zE,rep,zV,zdG,toD,zab,Q23,Q24,Q25,Q26,Q27,Q28,Nat.reduceLeDiff,Q29,Nat.reduceSub,Q30,Q31,Q32,sc,Q33,Q34,Q35,a]; rfl) : P := (e a).mpr h
theorem zrr {σ : List zg} {f : Int} {K : KT} (hK : K (.d (.int .i64 (zcP f))) σ) : zD Tryz.prog zdW [.d (.int .i64 f)] σ K := by
 refine zj zlS.is rfl fun hl _ => zlS.goes ?_
 simp only [zmg,iN,bT,bF,eN]
 cases h1 : decide (f < 1) <;> cases h2 : decide (f > 4)
 all_goals
  (refine gq40 (zjA h1 h2) ?_; try with_reducible exact True.intro)
  (first | refine zaq hl ?_ | refine zap hl ?_)
  simp only [decide_eq_true_eq,decide_eq_false_iff_not] at h1 h2
 ·rw [zcP,if_neg (by omega)] at hK; exact hK
 all_goals (rw [zcP,if_pos (by omega)] at hK; exact hK)
theorem zrp {σ : List zg} {f : Int} {K : KT} (hK : K (.d (.int .i64 (zcP f))) σ) : zD Tryz.prog zgS [.d (.int .i64 f)] σ K := by
 refine zj zqY.is rfl fun hl _ => zqY.goes ?_
 simp only [zrD,iN,bT,bF,eN]
 cases h1 : decide (f < 1) <;> cases h2 : decide (f > 4)
 all_goals
  (refine gq40 (zjA h1 h2) ?_; try with_reducible exact True.intro)
  (first | refine zaq hl ?_ | refine zap hl ?_)
  simp only [decide_eq_true_eq,decide_eq_false_iff_not] at h1 h2
 ·rw [zcP,if_neg (by omega)] at hK; exact hK
 all_goals (rw [zcP,if_pos (by omega)] at hK; exact hK)
theorem gq41 {P Q : Prop} (h : Q) (e : P = Q := by simp -dsimp only [↓zey, ↓zau, ↓zbj, ↓zeA, ↓zes, ↓zeq, ↓zet, ↓zer, ↓zbo, ↓zbk, ↓zbp, ↓zbl, ↓zeu, ↓zbi, ↓zbq, ↓zbm, ↓zbr, ↓zbn, ↓zep, ↓zew, ↓zbh, ↓zbs, ↓zeg, ↓zef, ↓zeo,iN,bT,bF,eN, ↓zcS, ↓unC, ↓zW, ↓zK, ↓zL, ↓zN, ↓zZ, ↓zaw, ↓zbT, ↓zag, ↓zbu, ↓zP, ↓zq, ↓zo, ↓zby, ↓zl, ↓zaf, ↓zH, ↓zaC, ↓zaG, ↓ze, ↓zC, ↓zt, ↓zw, ↓zan, ↓zcC, ↓zdb, ↓zal, ↓zat, ↓zaF, ↓zaP, ↓zaW, ↓zu, ↓zai, ↓zM, ↓zA, ↓zaa,zdi,zbd,zba,unA,zdk,bnd,zdw,zac,zS,zdy,dm,dm1,zB,zak,zdP,zdO,zQ,Q0,Q1,Q2,Q3,Q4,Q5,zR,zr,zy,zO,zI,Q6,Q7,Q8,Q9,Q10,Q11,Q12,Q13,Q14,Nat.reduceAdd,Q15,Int.reduceToNat,Q16,Q17,Q18,Q19,Q20,reduceIte,Q21,Q22,zE,rep,zV,zdG,toD,zab,Q23,Q24,Q25,Q26,Q27,Q28,Nat.reduceLeDiff,Q29,Nat.reduceSub,Q30,Q31,Q32,sc,Q33,Q34,Q35]; rfl) : P := e.mpr h
theorem c_times {σ : List zg} {n f : Int} (hn : 0 ≤ n ∧ n ≤ 3) {K : KT} (hK : K (.d (.int .i64 (zbP n f))) σ) : zD Tryz.prog zfu [.d (.int .i64 n), .d (.int .i64 f)] σ K := by
 refine zj zlR.is rfl fun hl _ => zlR.goes ?_
 simp only [zmf,iN,bT,bF,eN]
 (refine gq41 ?_; try with_reducible exact True.intro)
 refine zrr ?_
 by_cases h : f < 1 ∨ f > 4
 ·rw [zbP,if_pos h] at hK
  rw [zcP,if_pos h]
  (refine gq40 (show ((120 : Int) != 0) = true from rfl) ?_; try with_reducible exact True.intro)
  (first | refine zaq hl ?_ | refine zap hl ?_)
  exact hK
 ·rw [zbP,if_neg h] at hK
  rw [zcP,if_neg h]
  have h1 : 0 ≤ n * f := Int.mul_nonneg hn.1 (by omega)
  have h2 : n * f ≤ 3 * 4 := Int.mul_le_mul hn.2 (by omega) (by omega) (by omega)
  have w1 : IntKind.i64.wrap (n * f) = n * f := zX (by omega) (by omega)
  have w2 : IntKind.i64.wrap (n * f + 1) = n * f + 1 := zX (by omega) (by omega)
  (refine gq40 (zjA (show ((0 : Int) != 0) = false from rfl) (zjA w1 w2)) ?_; try with_reducible exact True.intro)
  (first | refine zaq hl ?_ | refine zap hl ?_)
  exact hK
theorem c_quBig {σ : List zg} {f : Int} {K : KT} (hK : K (.d (.int .i64 (zbP 2 f))) σ) : zD Tryz.prog zkx [.d (.int .i64 f)] σ K := by
 refine zj zpw.is rfl fun hl _ => zpw.goes ?_
 simp only [zpL,iN,bT,bF,eN]
 (refine gq41 ?_; try with_reducible exact True.intro)
 refine c_times (by omega) ?_
 (refine gq41 ?_; try with_reducible exact True.intro)
 (first | refine zaq hl ?_ | refine zap hl ?_)
 exact hK
theorem c_quBrokers {σ : List zg} {f : Int} {K : KT} (hK : K (.d (.int .i64 (zbP 3 f))) σ) : zD Tryz.prog zfN [.d (.int .i64 f)] σ K := by
 refine zj zjO.is rfl fun hl _ => zjO.goes ?_
 simp only [zjY,iN,bT,bF,eN]
 (refine gq41 ?_; try with_reducible exact True.intro)
 refine c_times (by omega) ?_
 (refine gq41 ?_; try with_reducible exact True.intro)
 (first | refine zaq hl ?_ | refine zap hl ?_)
 exact hK
theorem c_rBrokers {σ : List zg} {f : Int} {K : KT} (hK : K (.d (.int .i64 (zbP 3 f))) σ) : zD Tryz.prog zjl [.d (.int .i64 f)] σ K := by
 refine zj zns.is rfl fun hl _ => zns.goes ?_
 simp only [znQ,iN,bT,bF,eN]
 (refine gq41 ?_; try with_reducible exact True.intro)
 refine zrp ?_
 by_cases h : f < 1 ∨ f > 4
 ·rw [zbP,if_pos h] at hK
  rw [zcP,if_pos h]
  (refine gq40 (show ((120 : Int) != 0) = true from rfl) ?_; try with_reducible exact True.intro)
  (first | refine zaq hl ?_ | refine zap hl ?_)
  exact hK
 ·rw [zbP,if_neg h] at hK
  rw [zcP,if_neg h]
  have w1 : IntKind.i64.wrap (3 * f) = 3 * f := zX (by omega) (by omega)
  have w2 : IntKind.i64.wrap (3 * f + 1) = 3 * f + 1 := zX (by omega) (by omega)
  (refine gq40 (zjA (show ((0 : Int) != 0) = false from rfl) (zjA w1 w2)) ?_; try with_reducible exact True.intro)
  (first | refine zaq hl ?_ | refine zap hl ?_)
  exact hK
theorem c_rBig {σ : List zg} {f : Int} {K : KT} (hK : K (.d (.int .i64 (zbP 2 f))) σ) : zD Tryz.prog zqC [.d (.int .i64 f)] σ K := by
 refine zj e_r12_Big.is rfl fun hl _ => e_r12_Big.goes ?_
 simp only [S_r12_Big,iN,bT,bF,eN]
 (refine gq41 ?_; try with_reducible exact True.intro)
 refine zrp ?_
 by_cases h : f < 1 ∨ f > 4
 ·rw [zbP,if_pos h] at hK
  rw [zcP,if_pos h]
  (refine gq40 (show ((120 : Int) != 0) = true from rfl) ?_; try with_reducible exact True.intro)
  (first | refine zaq hl ?_ | refine zap hl ?_)
  exact hK
 ·rw [zbP,if_neg h] at hK
  rw [zcP,if_neg h]
  have w1 : IntKind.i64.wrap (2 * f) = 2 * f := zX (by omega) (by omega)
  have w2 : IntKind.i64.wrap (2 * f + 1) = 2 * f + 1 := zX (by omega) (by omega)
  (refine gq40 (zjA (show ((0 : Int) != 0) = false from rfl) (zjA w1 w2)) ?_; try with_reducible exact True.intro)
  (first | refine zaq hl ?_ | refine zap hl ?_)
  exact hK
end Go.Proofs.YtncpaekiidpchaaGreat

/- Contracts: votes, the document's. -/
set_option maxRecDepth 100000
namespace Go.Proofs.YtncpaekiidpchaaGreat
open Go.AW
theorem zun {σ : List zg} {x : Int} {K : KT} (hK : K (.d (.bool (zcA x))) σ) : zD Tryz.prog ziw [.d (.int .i64 x)] σ K := by
 refine zj e_r11_num.is rfl fun hl _ => e_r11_num.goes ?_
 have fin : ∀ z,zcA x = z → K (.d (.bool z)) σ := fun z h => h ▸ hK
 clear hK
 simp only [S_r11_num,iN,bT,bF,eN]
 cases h1 : decide (x ≥ 0)
 ·(repeat' first | refine gq2 h1 ?_ | with_reducible first | exact ⟨⟩ | refine zh ?_ | fail)
  (first | refine zaq hl ?_ | refine zap hl ?_)
  exact fin _ (by simp at h1; simp [zcA]; omega)
 ·(repeat' first | refine gq2 h1 ?_ | with_reducible first | exact ⟨⟩ | refine zh ?_ | fail)
  (first | refine zaq hl ?_ | refine zap hl ?_)
  exact fin _ (by simp at h1; simp [zcA]; omega)
theorem c_raMay {σ : List zg} {a b c d : Int} {K : KT} (hK : K (.d (.bool (zog a b c d))) σ) :
  zD Tryz.prog zqD [.d (.int .i64 a), .d (.int .i64 b), .d (.int .i64 c), .d (.int .i64 d)] σ K := by
 refine zj e_r11_may.is rfl fun hl _ => e_r11_may.goes ?_
 have fin : ∀ z,zog a b c d = z → K (.d (.bool z)) σ := fun z h => h ▸ hK
 clear hK
 simp only [S_r11_may,iN,bT,bF,eN]
 (repeat' first | refine gq1 ?_ | with_reducible first | exact ⟨⟩ | refine zh ?_ | fail)
 refine zun ?_
 cases h1 : zcA a
 ·(repeat' first | refine gq1 ?_ | with_reducible first | exact ⟨⟩ | refine zh ?_ | fail)
  (first | refine zaq hl ?_ | refine zap hl ?_)
  exact fin _ (by simp [zog,h1])
 (repeat' first | refine gq1 ?_ | with_reducible first | exact ⟨⟩ | refine zh ?_ | fail)
 refine zun ?_
 cases h2 : zcA b
 ·(repeat' first | refine gq1 ?_ | with_reducible first | exact ⟨⟩ | refine zh ?_ | fail)
  (first | refine zaq hl ?_ | refine zap hl ?_)
  exact fin _ (by simp [zog,h1,h2])
 (repeat' first | refine gq1 ?_ | with_reducible first | exact ⟨⟩ | refine zh ?_ | fail)
 refine zun ?_
 cases h3 : zcA c
 ·(repeat' first | refine gq1 ?_ | with_reducible first | exact ⟨⟩ | refine zh ?_ | fail)
  (first | refine zaq hl ?_ | refine zap hl ?_)
  exact fin _ (by simp [zog,h1,h2,h3])
 (repeat' first | refine gq1 ?_ | with_reducible first | exact ⟨⟩ | refine zh ?_ | fail)
 refine zun ?_
 (repeat' first | refine gq1 ?_ | with_reducible first | exact ⟨⟩ | refine zh ?_ | fail)
 (first | refine zaq hl ?_ | refine zap hl ?_)
 exact fin _ (by simp [zog,h1,h2,h3])
theorem zum {σ : List zg} {b : List UInt8} {x : Int} (hb : b.length ≤ 1000000) (h0 : 0 ≤ x) (h1 : x ≤ 9007199254740992) {K : KT} (hK : K (.d (.slice (bcs (b ++ zcm x.toNat)))) σ) :
  zD Tryz.prog ziv [.d (.slice (bcs b)), .d (.int .i64 x)] σ K := by
 refine zj e_r11_put.is rfl fun hl _ => e_r11_put.goes ?_
 have hm1 : (if 0 > x then 0 else x) = x := by split <;> omega
 have hm2 : (if x < 0 then 0 else x) = x := by split <;> omega
 have hw : IntKind.u64.wrap x = ((x.toNat : Nat) : Int) := by
  rw [show x = ((x.toNat : Nat) : Int) by omega,zch (by omega)]; rfl
 simp only [S_r11_put,iN,bT,bF,eN]
 (repeat' first | refine gq2 (zd hm1 (zd hm2 hw)) ?_ | with_reducible first | exact ⟨⟩ | refine zh ?_ | fail)
 refine zcx (by omega) (by omega) ?_
 (repeat' first | refine gq1 ?_ | with_reducible first | exact ⟨⟩ | refine zh ?_ | fail)
 (first | refine zaq hl ?_ | refine zap hl ?_)
 exact hK
theorem zul {σ : List zg} {a b c d : Int} (h : zog a b c d = true) {K : KT} (hK : K (.d (.slice (bcs (zeK a b c d)))) σ) :
  zD Tryz.prog zgT [.d (.int .i64 a), .d (.int .i64 b), .d (.int .i64 c), .d (.int .i64 d)] σ K := by
 refine zj zkI.is rfl fun hl _ => zkI.goes ?_
 simp only [zog,Bool.and_eq_true,zdz] at h
 obtain ⟨⟨a0,a1⟩,⟨b0,b1⟩,⟨c0,c1⟩,⟨d0,d1⟩⟩ := h
 have l1 := zx (n := a.toNat) (by omega)
 have l2 := zx (n := b.toNat) (by omega)
 have l3 := zx (n := c.toNat) (by omega)
 simp only [zkZ,iN,bT,bF,eN]
 (repeat' first | refine gq1 ?_ | with_reducible first | exact ⟨⟩ | refine zh ?_ | fail)
 refine zum (b := [4]) (by simp) a0 a1 ?_
 obtain ⟨B1,hB1⟩ : ∃ B, [4] ++ zcm a.toNat = B := ⟨_,rfl⟩
 have n1 : B1.length ≤ 11 := by rw [← hB1]; simp; omega
 rw [hB1]
 (repeat' first | refine gq1 ?_ | with_reducible first | exact ⟨⟩ | refine zh ?_ | fail)
 refine zum (by omega) b0 b1 ?_
 obtain ⟨B2,hB2⟩ : ∃ B,B1 ++ zcm b.toNat = B := ⟨_,rfl⟩
 have n2 : B2.length ≤ 21 := by rw [← hB2]; simp; omega
 rw [hB2]
 (repeat' first | refine gq1 ?_ | with_reducible first | exact ⟨⟩ | refine zh ?_ | fail)
 refine zum (by omega) c0 c1 ?_
 obtain ⟨B3,hB3⟩ : ∃ B,B2 ++ zcm c.toNat = B := ⟨_,rfl⟩
 have n3 : B3.length ≤ 31 := by rw [← hB3]; simp; omega
 rw [hB3]
 (repeat' first | refine gq1 ?_ | with_reducible first | exact ⟨⟩ | refine zh ?_ | fail)
 refine zum (by omega) d0 d1 ?_
 (repeat' first | refine gq1 ?_ | with_reducible first | exact ⟨⟩ | refine zh ?_ | fail)
 (first | refine zaq hl ?_ | refine zap hl ?_)
 rw [show B3 ++ zcm d.toNat = zeK a b c d by rw [← hB3, ← hB2, ← hB1]; simp [zeK,zgn]]
 exact hK
def sgnE (L : List (List UInt8)) (key : Int) (b : List UInt8) : Int := if zcI L b = 0 then 6 else zdu key (zcI L b)
def sgnS (L : List (List UInt8)) (key : Int) (b : List UInt8) : zJ := if zcI L b = 0 then ⟨0, 0⟩ else signR key (zcI L b)
def sgnG (L : List (List UInt8)) (G : List zJ) (key : Int) (b : List UInt8) : List zJ := if zcI L b = 0 then G else zeL G key (zcI L b)
theorem c_raSign {σ : List zg} {id id2 : Nat} {L : List (List UInt8)} {G : List zJ} {key : Int} {b : List UInt8} (hT : σ[id]? = some (rtO L)) (hG : σ[id2]? = some (rlO G)) (h1 : id ≠ id2) (hbl : b.length ≤ 1073741824) (hl0 : L.length ≤ 1048576) (hg : G.length ≤ 1073741824)
  {K : KT}
  (hK : K (.tup [ztP (sgnS L key b), .d (.int .i64 (sgnE L key b))]) ((σ.set id (rtO (zdH L b))).set id2 (rlO (sgnG L G key b)))) :
  zD Tryz.prog zoy [.box id 0, .box id2 0, .d (.int .i64 key), .d (.slice (bcs b))] σ K := by
 refine zj zsR.is rfl fun hl _ => zsR.goes ?_
 simp only [ztv,iN,bT,bF,eN]
 (repeat' first | refine gq1 ?_ | with_reducible first | exact ⟨⟩ | refine zh ?_ | fail)
 refine zjF (zf hT) hbl hl0 ?_
 rw [zbI hT]
 have hl1 : zfc σ.length (σ.set id (rtO (zdH L b))) := hl.setO (zfh _ _)
 have hs1 : (σ.set id (rtO (zdH L b))).length = σ.length := by simp
 have hG1 : (σ.set id (rtO (zdH L b)))[id2]? = some (rlO G) := by rw [List.getElem?_set_ne h1]; exact hG
 obtain ⟨S1,hS1⟩ : ∃ S1, σ.set id (rtO (zdH L b)) = S1 := ⟨_,rfl⟩
 rw [hS1] at hK hG1 hs1 hl1 ⊢
 have r1 : σ.length = S1.length := hs1.symm
 rw [r1] at hl1
 by_cases hz : zcI L b = 0
 ·have hq : (zcI L b == 0) = true := by simpa using hz
  simp only [sgnE,sgnS,sgnG,if_pos hz,ztP] at hK
  rw [zbC hG1] at hK
  (repeat' first | refine gq2 (zd hq r1) ?_ | with_reducible first | exact ⟨⟩ | refine zh ?_ | fail)
  refine zdc rfl ?_ hl1 ?_
  ·simp [zdh,dmT,dm,dm1,zca,zbv,zeB]
  ·exact hK
 ·have hq : (zcI L b == 0) = false := by simpa using hz
  simp only [sgnE,sgnS,sgnG,if_neg hz] at hK
  (repeat' first | refine gq2 (zd hq r1) ?_ | with_reducible first | exact ⟨⟩ | refine zh ?_ | fail)
  refine c_rgSign (zf hG1) hg ?_
  rw [zbI hG1]
  have hl2 : zfc S1.length (S1.set id2 (rlO (zeL G key (zcI L b)))) := hl1.setO (rlO_low _ _)
  have hs2 : (S1.set id2 (rlO (zeL G key (zcI L b)))).length = S1.length := by simp
  obtain ⟨S2,hS2⟩ : ∃ S2,S1.set id2 (rlO (zeL G key (zcI L b))) = S2 := ⟨_,rfl⟩
  rw [hS2] at hK hs2 hl2 ⊢
  have r3 : S1.length = S2.length := hs2.symm
  have r2 : σ.length = S2.length := r1.trans r3
  rw [r3] at hl2
  simp only [ztP] at hK ⊢
  (repeat' first | refine gq2 (zd r2 r3) ?_ | with_reducible first | exact ⟨⟩ | refine zh ?_ | fail)
  refine zdc rfl ?_ hl2 ?_
  ·simp [zdh,dmT,dm,dm1,zca,zbv,zeB]
  ·exact hK
def ztK (L : List (List UInt8)) (key a b c d : Int) : Int := if zog a b c d = true then sgnE L key (zeK a b c d) else 1
def zsf (L : List (List UInt8)) (key a b c d : Int) : zJ := if zog a b c d = true then sgnS L key (zeK a b c d) else ⟨0, 0⟩
def votL (L : List (List UInt8)) (a b c d : Int) : List (List UInt8) := if zog a b c d = true then zdH L (zeK a b c d) else L
def votG (L : List (List UInt8)) (G : List zJ) (key a b c d : Int) : List zJ := if zog a b c d = true then sgnG L G key (zeK a b c d) else G
theorem c_raVote {σ : List zg} {id id2 : Nat} {L : List (List UInt8)} {G : List zJ} {key a b c d : Int} (hT : σ[id]? = some (rtO L)) (hG : σ[id2]? = some (rlO G)) (h1 : id ≠ id2) (hl0 : L.length ≤ 1048576) (hg : G.length ≤ 1073741824)
  {K : KT}
  (hK : K (.tup [ztP (zsf L key a b c d), .d (.int .i64 (ztK L key a b c d))]) ((σ.set id (rtO (votL L a b c d))).set id2 (rlO (votG L G key a b c d)))) :
  zD Tryz.prog zix [.box id 0, .box id2 0, .d (.int .i64 key), .d (.int .i64 a), .d (.int .i64 b), .d (.int .i64 c), .d (.int .i64 d)] σ K := by
 refine zj zsS.is rfl fun hl _ => zsS.goes ?_
 simp only [ztw,iN,bT,bF,eN]
 (repeat' first | refine gq1 ?_ | with_reducible first | exact ⟨⟩ | refine zh ?_ | fail)
 refine c_raMay ?_
 cases hm : zog a b c d
 ·simp only [zsf,ztK,votL,votG,hm,Bool.false_eq_true,if_false,ztP] at hK
  rw [zbC hT,zbC hG] at hK
  (repeat' first | refine gq1 ?_ | with_reducible first | exact ⟨⟩ | refine zh ?_ | fail)
  (first | refine zaq hl ?_ | refine zap hl ?_)
  exact hK
 ·simp only [zsf,ztK,votL,votG,hm,if_true] at hK
  have hbl := voteB_len hm
  (repeat' first | refine gq1 ?_ | with_reducible first | exact ⟨⟩ | refine zh ?_ | fail)
  refine zul hm ?_
  (repeat' first | refine gq1 ?_ | with_reducible first | exact ⟨⟩ | refine zh ?_ | fail)
  refine c_raSign (zf hT) (zf hG) h1 (by omega) hl0 hg ?_
  rw [zbI hT,zbI (by rw [List.getElem?_set_ne h1]; exact hG)]
  have hl2 : zfc σ.length ((σ.set id (rtO (zdH L (zeK a b c d)))).set id2 (rlO (sgnG L G key (zeK a b c d)))) := (hl.setO (zfh _ _)).setO (rlO_low _ _)
  have hs2 : ((σ.set id (rtO (zdH L (zeK a b c d)))).set id2 (rlO (sgnG L G key (zeK a b c d)))).length = σ.length := by simp
  obtain ⟨S2,hS2⟩ : ∃ S2,(σ.set id (rtO (zdH L (zeK a b c d)))).set id2 (rlO (sgnG L G key (zeK a b c d))) = S2 := ⟨_,rfl⟩
  rw [hS2] at hK hs2 hl2 ⊢
  have r3 : σ.length = S2.length := hs2.symm
  rw [r3] at hl2
  simp only [ztP] at hK ⊢
  (repeat' first | refine gq2 r3 ?_ | with_reducible first | exact ⟨⟩ | refine zh ?_ | fail)
  refine zdc rfl ?_ hl2 ?_
  ·simp [zdh,dmT,dm,dm1,zca,zbv,zeB]
  ·exact hK
end Go.Proofs.YtncpaekiidpchaaGreat

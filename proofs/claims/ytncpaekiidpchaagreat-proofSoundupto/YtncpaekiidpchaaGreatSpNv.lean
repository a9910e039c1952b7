/- What a new view goes on with. No program in sight. -/
import Derived.Test.YtncpaekiidpchaaGreatCl1
import Derived.Test.YtncpaekiidpchaaGreatSh
import Derived.Test.YtncpaekiidpchaaGreatAwEnd
import Derived.Test.YtncpaekiidpchaaGreatSpMake
import Derived.Test.YtncpaekiidpchaaGreatSpVote
set_option linter.all false
namespace Go.AW
def zdp (f : Int) : Int := if f < 1 ∨ f > 4 then 120 else 0
def zcn (n f : Int) : Int := if f < 1 ∨ f > 4 then 0 else n * f + 1
end Go.AW

/- Contracts: how many brokers there are, and a quorum has. -/
set_option maxRecDepth 100000
namespace Go.Proofs.YtncpaekiidpchaaGreat
open Go.AW
theorem zkt {A B : Prop} (a : A) (b : B) : A ∧ B := ⟨a,b⟩
theorem gq40 {A P Q : Prop} (a : A) (h : Q) (e : A → P = Q := by intro a; simp -dsimp only [↓zes, ↓zaw, ↓zbf, ↓zet, ↓zen, ↓zel, ↓zeo, ↓zem, ↓zbk, ↓zbg, ↓zbl, ↓zbh, ↓zep, ↓zbe, ↓zbm, ↓zbi, ↓zbn, ↓zbj, ↓zek, ↓zeq, ↓zbd, ↓zbo, ↓zef, ↓zee, ↓zej,iN,bT,bF,eN, ↓zcS, ↓unC, ↓zU, ↓zK, ↓zL, ↓zN, ↓zZ, ↓zax, ↓zbQ, ↓zaf, ↓zbp, ↓zP, ↓zq, ↓zo, ↓zbu, ↓zl, ↓zah, ↓zI, ↓zaD, ↓zaG, ↓ze, ↓zC, ↓zt, ↓zw, ↓zan, ↓zcC, ↓zcV, ↓zal, ↓zat, ↓zaE, ↓zaN, ↓zaS, ↓zu, ↓zai, ↓zM, ↓zA, ↓zaa,zcZ,zba,zaV,unA,zdg,bnd,zdy,zad,zS,zdz,dm,dm1,zB,zak,zdQ,zdP,zR,Q0,Q1,Q2,Q3,Q4,Q5,zQ,zr,zy,zO,zH,Q6,Q7,Q8,Q9,Q10,Q11,Q12,Q13,Q14,Nat.reduceAdd,Q15,Int.reduceToNat,Q16,Q17,Q18,Q19,Q20,reduceIte,Q21,Q22,zD,rep,zV,zdK,toD,zac,Q23,Q24,Q25,Q26,Q27,Q28,Nat.reduceLeDiff,Q29,Nat.reduceSub,Q30,Q31,Q32,sc,Q33,Q34,Q35,a]; rfl) : P := (e a).mpr h
theorem zrz {σ : List zg} {f : Int} {K : KT} (hK : K (.d (.int .i64 (zdp f))) σ) : zE Tryz.prog zea [.d (.int .i64 f)] σ K := by
 refine zi zmc.is rfl fun hl _ => zmc.goes ?_
 simp only [zmq,iN,bT,bF,eN]
 cases h1 : decide (f < 1) <;> cases h2 : decide (f > 4)
 all_goals
  (refine gq40 (zkt h1 h2) ?_; try with_reducible exact True.intro)
  (first | refine zar hl ?_ | refine zaq hl ?_)
  simp only [decide_eq_true_eq,decide_eq_false_iff_not] at h1 h2
 ·rw [zdp,if_neg (by omega)] at hK; exact hK
 all_goals (rw [zdp,if_pos (by omega)] at hK; exact hK)
theorem c_rCheckF {σ : List zg} {f : Int} {K : KT} (hK : K (.d (.int .i64 (zdp f))) σ) : zE Tryz.prog zjp [.d (.int .i64 f)] σ K := by
 refine zi zrf.is rfl fun hl _ => zrf.goes ?_
 simp only [zrK,iN,bT,bF,eN]
 cases h1 : decide (f < 1) <;> cases h2 : decide (f > 4)
 all_goals
  (refine gq40 (zkt h1 h2) ?_; try with_reducible exact True.intro)
  (first | refine zar hl ?_ | refine zaq hl ?_)
  simp only [decide_eq_true_eq,decide_eq_false_iff_not] at h1 h2
 ·rw [zdp,if_neg (by omega)] at hK; exact hK
 all_goals (rw [zdp,if_pos (by omega)] at hK; exact hK)
theorem gq41 {P Q : Prop} (h : Q) (e : P = Q := by simp -dsimp only [↓zes, ↓zaw, ↓zbf, ↓zet, ↓zen, ↓zel, ↓zeo, ↓zem, ↓zbk, ↓zbg, ↓zbl, ↓zbh, ↓zep, ↓zbe, ↓zbm, ↓zbi, ↓zbn, ↓zbj, ↓zek, ↓zeq, ↓zbd, ↓zbo, ↓zef, ↓zee, ↓zej,iN,bT,bF,eN, ↓zcS, ↓unC, ↓zU, ↓zK, ↓zL, ↓zN, ↓zZ, ↓zax, ↓zbQ, ↓zaf, ↓zbp, ↓zP, ↓zq, ↓zo, ↓zbu, ↓zl, ↓zah, ↓zI, ↓zaD, ↓zaG, ↓ze, ↓zC, ↓zt, ↓zw, ↓zan, ↓zcC, ↓zcV, ↓zal, ↓zat, ↓zaE, ↓zaN, ↓zaS, ↓zu, ↓zai, ↓zM, ↓zA, ↓zaa,zcZ,zba,zaV,unA,zdg,bnd,zdy,zad,zS,zdz,dm,dm1,zB,zak,zdQ,zdP,zR,Q0,Q1,Q2,Q3,Q4,Q5,zQ,zr,zy,zO,zH,Q6,Q7,Q8,Q9,Q10,Q11,Q12,Q13,Q14,Nat.reduceAdd,Q15,Int.reduceToNat,Q16,Q17,Q18,Q19,Q20,reduceIte,Q21,Q22,zD,rep,zV,zdK,toD,zac,Q23,Q24,Q25,Q26,Q27,Q28,Nat.reduceLeDiff,Q29,Nat.reduceSub,Q30,Q31,Q32,sc,Q33,Q34,Q35]; rfl) : P := e.mpr h
theorem c_times {σ : List zg} {n f : Int} (hn : 0 ≤ n ∧ n ≤ 3) {K : KT} (hK : K (.d (.int .i64 (zcn n f))) σ) : zE Tryz.prog zfy [.d (.int .i64 n), .d (.int .i64 f)] σ K := by
 refine zi zmb.is rfl fun hl _ => zmb.goes ?_
 simp only [zmp,iN,bT,bF,eN]
 (refine gq41 ?_; try with_reducible exact True.intro)
 refine zrz ?_
 by_cases h : f < 1 ∨ f > 4
 ·rw [zcn,if_pos h] at hK
  rw [zdp,if_pos h]
  (refine gq40 (show ((120 : Int) != 0) = true from rfl) ?_; try with_reducible exact True.intro)
  (first | refine zar hl ?_ | refine zaq hl ?_)
  exact hK
 ·rw [zcn,if_neg h] at hK
  rw [zdp,if_neg h]
  have h1 : 0 ≤ n * f := Int.mul_nonneg hn.1 (by omega)
  have h2 : n * f ≤ 3 * 4 := Int.mul_le_mul hn.2 (by omega) (by omega) (by omega)
  have w1 : IntKind.i64.wrap (n * f) = n * f := zY (by omega) (by omega)
  have w2 : IntKind.i64.wrap (n * f + 1) = n * f + 1 := zY (by omega) (by omega)
  (refine gq40 (zkt (show ((0 : Int) != 0) = false from rfl) (zkt w1 w2)) ?_; try with_reducible exact True.intro)
  (first | refine zar hl ?_ | refine zaq hl ?_)
  exact hK
theorem c_quBig {σ : List zg} {f : Int} {K : KT} (hK : K (.d (.int .i64 (zcn 2 f))) σ) : zE Tryz.prog zkE [.d (.int .i64 f)] σ K := by
 refine zi zpA.is rfl fun hl _ => zpA.goes ?_
 simp only [zpP,iN,bT,bF,eN]
 (refine gq41 ?_; try with_reducible exact True.intro)
 refine c_times (by omega) ?_
 (refine gq41 ?_; try with_reducible exact True.intro)
 (first | refine zar hl ?_ | refine zaq hl ?_)
 exact hK
theorem c_quBrokers {σ : List zg} {f : Int} {K : KT} (hK : K (.d (.int .i64 (zcn 3 f))) σ) : zE Tryz.prog zfT [.d (.int .i64 f)] σ K := by
 refine zi zjT.is rfl fun hl _ => zjT.goes ?_
 simp only [zkg,iN,bT,bF,eN]
 (refine gq41 ?_; try with_reducible exact True.intro)
 refine c_times (by omega) ?_
 (refine gq41 ?_; try with_reducible exact True.intro)
 (first | refine zar hl ?_ | refine zaq hl ?_)
 exact hK
theorem c_rBrokers {σ : List zg} {f : Int} {K : KT} (hK : K (.d (.int .i64 (zcn 3 f))) σ) : zE Tryz.prog zjq [.d (.int .i64 f)] σ K := by
 refine zi znx.is rfl fun hl _ => znx.goes ?_
 simp only [znU,iN,bT,bF,eN]
 (refine gq41 ?_; try with_reducible exact True.intro)
 refine c_rCheckF ?_
 by_cases h : f < 1 ∨ f > 4
 ·rw [zcn,if_pos h] at hK
  rw [zdp,if_pos h]
  (refine gq40 (show ((120 : Int) != 0) = true from rfl) ?_; try with_reducible exact True.intro)
  (first | refine zar hl ?_ | refine zaq hl ?_)
  exact hK
 ·rw [zcn,if_neg h] at hK
  rw [zdp,if_neg h]
  have w1 : IntKind.i64.wrap (3 * f) = 3 * f := zY (by omega) (by omega)
  have w2 : IntKind.i64.wrap (3 * f + 1) = 3 * f + 1 := zY (by omega) (by omega)
  (refine gq40 (zkt (show ((0 : Int) != 0) = false from rfl) (zkt w1 w2)) ?_; try with_reducible exact True.intro)
  (first | refine zar hl ?_ | refine zaq hl ?_)
  exact hK
end Go.Proofs.YtncpaekiidpchaaGreat

/- Contracts: votes, the document's. -/
set_option maxRecDepth 100000
namespace Go.Proofs.YtncpaekiidpchaaGreat
open Go.AW
theorem zuw {σ : List zg} {x : Int} {K : KT} (hK : K (.d (.bool (zcv x))) σ) : zE Tryz.prog ziz [.d (.int .i64 x)] σ K := by
 refine zi e_r11_num.is rfl fun hl _ => e_r11_num.goes ?_
 have fin : ∀ z,zcv x = z → K (.d (.bool z)) σ := fun z h => h ▸ hK
 clear hK
 simp only [S_r11_num,iN,bT,bF,eN]
 cases h1 : decide (x ≥ 0)
 ·(repeat' first | refine gq2 h1 ?_ | with_reducible first | exact ⟨⟩ | refine zh ?_ | fail)
  (first | refine zar hl ?_ | refine zaq hl ?_)
  exact fin _ (by simp at h1; simp [zcv]; omega)
 ·(repeat' first | refine gq2 h1 ?_ | with_reducible first | exact ⟨⟩ | refine zh ?_ | fail)
  (first | refine zar hl ?_ | refine zaq hl ?_)
  exact fin _ (by simp at h1; simp [zcv]; omega)
theorem c_raMay {σ : List zg} {a b c d : Int} {K : KT} (hK : K (.d (.bool (zmM a b c d))) σ) :
  zE Tryz.prog zqI [.d (.int .i64 a), .d (.int .i64 b), .d (.int .i64 c), .d (.int .i64 d)] σ K := by
 refine zi e_r11_may.is rfl fun hl _ => e_r11_may.goes ?_
 have fin : ∀ z,zmM a b c d = z → K (.d (.bool z)) σ := fun z h => h ▸ hK
 clear hK
 simp only [S_r11_may,iN,bT,bF,eN]
 (repeat' first | refine gq1 ?_ | with_reducible first | exact ⟨⟩ | refine zh ?_ | fail)
 refine zuw ?_
 cases h1 : zcv a
 ·(repeat' first | refine gq1 ?_ | with_reducible first | exact ⟨⟩ | refine zh ?_ | fail)
  (first | refine zar hl ?_ | refine zaq hl ?_)
  exact fin _ (by simp [zmM,h1])
 (repeat' first | refine gq1 ?_ | with_reducible first | exact ⟨⟩ | refine zh ?_ | fail)
 refine zuw ?_
 cases h2 : zcv b
 ·(repeat' first | refine gq1 ?_ | with_reducible first | exact ⟨⟩ | refine zh ?_ | fail)
  (first | refine zar hl ?_ | refine zaq hl ?_)
  exact fin _ (by simp [zmM,h1,h2])
 (repeat' first | refine gq1 ?_ | with_reducible first | exact ⟨⟩ | refine zh ?_ | fail)
 refine zuw ?_
 cases h3 : zcv c
 ·(repeat' first | refine gq1 ?_ | with_reducible first | exact ⟨⟩ | refine zh ?_ | fail)
  (first | refine zar hl ?_ | refine zaq hl ?_)
  exact fin _ (by simp [zmM,h1,h2,h3])
 (repeat' first | refine gq1 ?_ | with_reducible first | exact ⟨⟩ | refine zh ?_ | fail)
 refine zuw ?_
 (repeat' first | refine gq1 ?_ | with_reducible first | exact ⟨⟩ | refine zh ?_ | fail)
 (first | refine zar hl ?_ | refine zaq hl ?_)
 exact fin _ (by simp [zmM,h1,h2,h3])
theorem zuv {σ : List zg} {b : List UInt8} {x : Int} (hb : b.length ≤ 1000000) (h0 : 0 ≤ x) (h1 : x ≤ 9007199254740992) {K : KT} (hK : K (.d (.slice (bcs (b ++ zbO x.toNat)))) σ) :
  zE Tryz.prog ziy [.d (.slice (bcs b)), .d (.int .i64 x)] σ K := by
 refine zi e_r11_put.is rfl fun hl _ => e_r11_put.goes ?_
 have hm1 : (if 0 > x then 0 else x) = x := by split <;> omega
 have hm2 : (if x < 0 then 0 else x) = x := by split <;> omega
 have hw : IntKind.u64.wrap x = ((x.toNat : Nat) : Int) := by
  rw [show x = ((x.toNat : Nat) : Int) by omega,zch (by omega)]; rfl
 simp only [S_r11_put,iN,bT,bF,eN]
 (repeat' first | refine gq2 (zd hm1 (zd hm2 hw)) ?_ | with_reducible first | exact ⟨⟩ | refine zh ?_ | fail)
 refine zcy (by omega) (by omega) ?_
 (repeat' first | refine gq1 ?_ | with_reducible first | exact ⟨⟩ | refine zh ?_ | fail)
 (first | refine zar hl ?_ | refine zaq hl ?_)
 exact hK
theorem zuu {σ : List zg} {a b c d : Int} (h : zmM a b c d = true) {K : KT} (hK : K (.d (.slice (bcs (zdC a b c d)))) σ) :
  zE Tryz.prog zgY [.d (.int .i64 a), .d (.int .i64 b), .d (.int .i64 c), .d (.int .i64 d)] σ K := by
 refine zi zkN.is rfl fun hl _ => zkN.goes ?_
 simp only [zmM,Bool.and_eq_true,zdl] at h
 obtain ⟨⟨a0,a1⟩,⟨b0,b1⟩,⟨c0,c1⟩,⟨d0,d1⟩⟩ := h
 have l1 := zx (n := a.toNat) (by omega)
 have l2 := zx (n := b.toNat) (by omega)
 have l3 := zx (n := c.toNat) (by omega)
 simp only [zlg,iN,bT,bF,eN]
 (repeat' first | refine gq1 ?_ | with_reducible first | exact ⟨⟩ | refine zh ?_ | fail)
 refine zuv (b := [4]) (by simp) a0 a1 ?_
 obtain ⟨B1,hB1⟩ : ∃ B, [4] ++ zbO a.toNat = B := ⟨_,rfl⟩
 have n1 : B1.length ≤ 11 := by rw [← hB1]; simp; omega
 rw [hB1]
 (repeat' first | refine gq1 ?_ | with_reducible first | exact ⟨⟩ | refine zh ?_ | fail)
 refine zuv (by omega) b0 b1 ?_
 obtain ⟨B2,hB2⟩ : ∃ B,B1 ++ zbO b.toNat = B := ⟨_,rfl⟩
 have n2 : B2.length ≤ 21 := by rw [← hB2]; simp; omega
 rw [hB2]
 (repeat' first | refine gq1 ?_ | with_reducible first | exact ⟨⟩ | refine zh ?_ | fail)
 refine zuv (by omega) c0 c1 ?_
 obtain ⟨B3,hB3⟩ : ∃ B,B2 ++ zbO c.toNat = B := ⟨_,rfl⟩
 have n3 : B3.length ≤ 31 := by rw [← hB3]; simp; omega
 rw [hB3]
 (repeat' first | refine gq1 ?_ | with_reducible first | exact ⟨⟩ | refine zh ?_ | fail)
 refine zuv (by omega) d0 d1 ?_
 (repeat' first | refine gq1 ?_ | with_reducible first | exact ⟨⟩ | refine zh ?_ | fail)
 (first | refine zar hl ?_ | refine zaq hl ?_)
 rw [show B3 ++ zbO d.toNat = zdC a b c d by rw [← hB3, ← hB2, ← hB1]; simp [zdC,zfE]]
 exact hK
def sgnE (L : List (List UInt8)) (key : Int) (b : List UInt8) : Int := if zcK L b = 0 then 6 else zdx key (zcK L b)
def sgnS (L : List (List UInt8)) (key : Int) (b : List UInt8) : zJ := if zcK L b = 0 then ⟨0, 0⟩ else signR key (zcK L b)
def sgnG (L : List (List UInt8)) (G : List zJ) (key : Int) (b : List UInt8) : List zJ := if zcK L b = 0 then G else zew G key (zcK L b)
theorem c_raSign {σ : List zg} {id id2 : Nat} {L : List (List UInt8)} {G : List zJ} {key : Int} {b : List UInt8} (hT : σ[id]? = some (rtO L)) (hG : σ[id2]? = some (rlO G)) (h1 : id ≠ id2) (hbl : b.length ≤ 1073741824) (hl0 : L.length ≤ 1048576) (hg : G.length ≤ 1073741824)
  {K : KT}
  (hK : K (.tup [ztW (sgnS L key b), .d (.int .i64 (sgnE L key b))]) ((σ.set id (rtO (zdD L b))).set id2 (rlO (sgnG L G key b)))) :
  zE Tryz.prog zoy [.box id 0, .box id2 0, .d (.int .i64 key), .d (.slice (bcs b))] σ K := by
 refine zi zsX.is rfl fun hl _ => zsX.goes ?_
 simp only [ztC,iN,bT,bF,eN]
 (repeat' first | refine gq1 ?_ | with_reducible first | exact ⟨⟩ | refine zh ?_ | fail)
 refine zjK (zf hT) hbl hl0 ?_
 rw [zbD hT]
 have hl1 : zfg σ.length (σ.set id (rtO (zdD L b))) := hl.setO (zfl _ _)
 have hs1 : (σ.set id (rtO (zdD L b))).length = σ.length := by simp
 have hG1 : (σ.set id (rtO (zdD L b)))[id2]? = some (rlO G) := by rw [List.getElem?_set_ne h1]; exact hG
 obtain ⟨S1,hS1⟩ : ∃ S1, σ.set id (rtO (zdD L b)) = S1 := ⟨_,rfl⟩
 rw [hS1] at hK hG1 hs1 hl1 ⊢
 have r1 : σ.length = S1.length := hs1.symm
 rw [r1] at hl1
 by_cases hz : zcK L b = 0
 ·have hq : (zcK L b == 0) = true := by simpa using hz
  simp only [sgnE,sgnS,sgnG,if_pos hz,ztW] at hK
  rw [zbC hG1] at hK
  (repeat' first | refine gq2 (zd hq r1) ?_ | with_reducible first | exact ⟨⟩ | refine zh ?_ | fail)
  refine zdh rfl ?_ hl1 ?_
  ·simp [zcU,dmT,dm,dm1,zbZ,zbr,zeG]
  ·exact hK
 ·have hq : (zcK L b == 0) = false := by simpa using hz
  simp only [sgnE,sgnS,sgnG,if_neg hz] at hK
  (repeat' first | refine gq2 (zd hq r1) ?_ | with_reducible first | exact ⟨⟩ | refine zh ?_ | fail)
  refine c_rgSign (zf hG1) hg ?_
  rw [zbD hG1]
  have hl2 : zfg S1.length (S1.set id2 (rlO (zew G key (zcK L b)))) := hl1.setO (rlO_low _ _)
  have hs2 : (S1.set id2 (rlO (zew G key (zcK L b)))).length = S1.length := by simp
  obtain ⟨S2,hS2⟩ : ∃ S2,S1.set id2 (rlO (zew G key (zcK L b))) = S2 := ⟨_,rfl⟩
  rw [hS2] at hK hs2 hl2 ⊢
  have r3 : S1.length = S2.length := hs2.symm
  have r2 : σ.length = S2.length := r1.trans r3
  rw [r3] at hl2
  simp only [ztW] at hK ⊢
  (repeat' first | refine gq2 (zd r2 r3) ?_ | with_reducible first | exact ⟨⟩ | refine zh ?_ | fail)
  refine zdh rfl ?_ hl2 ?_
  ·simp [zcU,dmT,dm,dm1,zbZ,zbr,zeG]
  ·exact hK
def ztR (L : List (List UInt8)) (key a b c d : Int) : Int := if zmM a b c d = true then sgnE L key (zdC a b c d) else 1
def zso (L : List (List UInt8)) (key a b c d : Int) : zJ := if zmM a b c d = true then sgnS L key (zdC a b c d) else ⟨0, 0⟩
def votL (L : List (List UInt8)) (a b c d : Int) : List (List UInt8) := if zmM a b c d = true then zdD L (zdC a b c d) else L
def votG (L : List (List UInt8)) (G : List zJ) (key a b c d : Int) : List zJ := if zmM a b c d = true then sgnG L G key (zdC a b c d) else G
theorem c_raVote {σ : List zg} {id id2 : Nat} {L : List (List UInt8)} {G : List zJ} {key a b c d : Int} (hT : σ[id]? = some (rtO L)) (hG : σ[id2]? = some (rlO G)) (h1 : id ≠ id2) (hl0 : L.length ≤ 1048576) (hg : G.length ≤ 1073741824)
  {K : KT}
  (hK : K (.tup [ztW (zso L key a b c d), .d (.int .i64 (ztR L key a b c d))]) ((σ.set id (rtO (votL L a b c d))).set id2 (rlO (votG L G key a b c d)))) :
  zE Tryz.prog ziA [.box id 0, .box id2 0, .d (.int .i64 key), .d (.int .i64 a), .d (.int .i64 b), .d (.int .i64 c), .d (.int .i64 d)] σ K := by
 refine zi zsY.is rfl fun hl _ => zsY.goes ?_
 simp only [ztD,iN,bT,bF,eN]
 (repeat' first | refine gq1 ?_ | with_reducible first | exact ⟨⟩ | refine zh ?_ | fail)
 refine c_raMay ?_
 cases hm : zmM a b c d
 ·simp only [zso,ztR,votL,votG,hm,Bool.false_eq_true,if_false,ztW] at hK
  rw [zbC hT,zbC hG] at hK
  (repeat' first | refine gq1 ?_ | with_reducible first | exact ⟨⟩ | refine zh ?_ | fail)
  (first | refine zar hl ?_ | refine zaq hl ?_)
  exact hK
 ·simp only [zso,ztR,votL,votG,hm,if_true] at hK
  have hbl := voteB_len hm
  (repeat' first | refine gq1 ?_ | with_reducible first | exact ⟨⟩ | refine zh ?_ | fail)
  refine zuu hm ?_
  (repeat' first | refine gq1 ?_ | with_reducible first | exact ⟨⟩ | refine zh ?_ | fail)
  refine c_raSign (zf hT) (zf hG) h1 (by omega) hl0 hg ?_
  rw [zbD hT,zbD (by rw [List.getElem?_set_ne h1]; exact hG)]
  have hl2 : zfg σ.length ((σ.set id (rtO (zdD L (zdC a b c d)))).set id2 (rlO (sgnG L G key (zdC a b c d)))) := (hl.setO (zfl _ _)).setO (rlO_low _ _)
  have hs2 : ((σ.set id (rtO (zdD L (zdC a b c d)))).set id2 (rlO (sgnG L G key (zdC a b c d)))).length = σ.length := by simp
  obtain ⟨S2,hS2⟩ : ∃ S2,(σ.set id (rtO (zdD L (zdC a b c d)))).set id2 (rlO (sgnG L G key (zdC a b c d))) = S2 := ⟨_,rfl⟩
  rw [hS2] at hK hs2 hl2 ⊢
  have r3 : σ.length = S2.length := hs2.symm
  rw [r3] at hl2
  simp only [ztW] at hK ⊢
  (repeat' first | refine gq2 r3 ?_ | with_reducible first | exact ⟨⟩ | refine zh ?_ | fail)
  refine zdh rfl ?_ hl2 ?_
  ·simp [zcU,dmT,dm,dm1,zbZ,zbr,zeG]
  ·exact hK
end Go.Proofs.YtncpaekiidpchaaGreat

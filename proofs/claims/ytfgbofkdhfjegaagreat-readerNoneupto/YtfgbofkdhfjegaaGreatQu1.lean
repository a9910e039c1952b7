/- Contracts: how many brokers there are, and a quorum has. -/
import Derived.Test.YtfgbofkdhfjegaaGreatSh
import Derived.Test.YtfgbofkdhfjegaaGreatRq5
import Derived.Test.YtfgbofkdhfjegaaGreatAwEnd
import Derived.Test.YtfgbofkdhfjegaaGreatMk2
import Derived.Test.YtfgbofkdhfjegaaGreatCk1
set_option linter.all false
set_option maxRecDepth 100000
namespace Go.Proofs.YtfgbofkdhfjegaaGreat
open Go.AW
theorem zlM {A B : Prop} (a : A) (b : B) : A ∧ B := ⟨a,b⟩
theorem gq35 {A P Q : Prop} (a : A) (h : Q) (e : A → P = Q := by intro a; simp -dsimp only [↓zfT, ↓zaI, ↓zbP, ↓zfV, ↓zfN, ↓zfL, ↓zfO, ↓zfM, ↓zbU, ↓zbQ, ↓zbV, ↓zbR, ↓zfP, ↓zbN, ↓zbW, ↓zbS, ↓zbX, ↓zbT, ↓zfK, ↓zfQ, ↓zbM, ↓zbY, ↓zfF, ↓zfE, ↓zfH,iN,bT,bF,eN, ↓zcJ, ↓unC, ↓zaa, ↓zK, ↓zL, ↓zO, ↓zaf, ↓zaz, ↓zcK, ↓zar, ↓zbk, ↓zR, ↓zo, ↓zj, ↓zbz, ↓zg, ↓zam, ↓zH, ↓zaV, ↓zbc, ↓ze, ↓zB, ↓zu, ↓zC, ↓zap, ↓zdk, ↓zdO, ↓zav, ↓zaF, ↓zaZ, ↓zbj, ↓zbt, ↓zA, ↓zas, ↓zM, ↓zF, ↓zae,zdP,zbI,zbC,unA,zdL,bnd,zeq,zag,zQ,zek,dm,dm1,zD,zak,zeP,zeO,zP,Q0,Q1,Q2,Q3,Q4,Q5,zW,zt,zy,zN,zJ,Q6,Q7,Q8,Q9,Q10,Q11,Q12,Q13,Q14,Nat.reduceAdd,Q15,Int.reduceToNat,Q16,Q17,Q18,Q19,Q20,reduceIte,Q21,Q22,zG,rep,zab,zfq,toD,zaq,Q23,Q24,Q25,Q26,Q27,Q28,Nat.reduceLeDiff,Q29,Nat.reduceSub,Q30,Q31,Q32,sc,Q33,Q34,Q35,a]; rfl) : P := (e a).mpr h
theorem zpu {σ : List zh} {f : Int} {K : KT} (hK : K (.d (.int .i64 (zdz f))) σ) : zp Tryz.prog zdX [.d (.int .i64 f)] σ K := by
 refine zeW ztY fun hl => ?_
 simp only [znM,iN,bT,bF,eN]
 cases h1 : decide (f < 1) <;> cases h2 : decide (f > 4)
 all_goals
  (refine gq35 (zlM h1 h2) ?_; try with_reducible exact True.intro)
  refine zT hl ?_
  simp only [decide_eq_true_eq,decide_eq_false_iff_not] at h1 h2
 ·rw [zdz,if_neg (by omega)] at hK; exact hK
 all_goals (rw [zdz,if_pos (by omega)] at hK; exact hK)
theorem c_rCheckF {σ : List zh} {f : Int} {K : KT} (hK : K (.d (.int .i64 (zdz f))) σ) : zp Tryz.prog zkP [.d (.int .i64 f)] σ K := by
 refine zeW e_r12_Check fun hl => ?_
 simp only [ztu,iN,bT,bF,eN]
 cases h1 : decide (f < 1) <;> cases h2 : decide (f > 4)
 all_goals
  (refine gq35 (zlM h1 h2) ?_; try with_reducible exact True.intro)
  refine zT hl ?_
  simp only [decide_eq_true_eq,decide_eq_false_iff_not] at h1 h2
 ·rw [zdz,if_neg (by omega)] at hK; exact hK
 all_goals (rw [zdz,if_pos (by omega)] at hK; exact hK)
theorem gq36 {P Q : Prop} (h : Q) (e : P = Q := by simp -dsimp only [↓zfT, ↓zaI, ↓zbP, ↓zfV, ↓zfN, ↓zfL, ↓zfO, ↓zfM, ↓zbU, ↓zbQ, ↓zbV, ↓zbR, ↓zfP, ↓zbN, ↓zbW, ↓zbS, ↓zbX, ↓zbT, ↓zfK, ↓zfQ, ↓zbM, ↓zbY, ↓zfF, ↓zfE, ↓zfH,iN,bT,bF,eN, ↓zcJ, ↓unC, ↓zaa, ↓zK, ↓zL, ↓zO, ↓zaf, ↓zaz, ↓zcK, ↓zar, ↓zbk, ↓zR, ↓zo, ↓zj, ↓zbz, ↓zg, ↓zam, ↓zH, ↓zaV, ↓zbc, ↓ze, ↓zB, ↓zu, ↓zC, ↓zap, ↓zdk, ↓zdO, ↓zav, ↓zaF, ↓zaZ, ↓zbj, ↓zbt, ↓zA, ↓zas, ↓zM, ↓zF, ↓zae,zdP,zbI,zbC,unA,zdL,bnd,zeq,zag,zQ,zek,dm,dm1,zD,zak,zeP,zeO,zP,Q0,Q1,Q2,Q3,Q4,Q5,zW,zt,zy,zN,zJ,Q6,Q7,Q8,Q9,Q10,Q11,Q12,Q13,Q14,Nat.reduceAdd,Q15,Int.reduceToNat,Q16,Q17,Q18,Q19,Q20,reduceIte,Q21,Q22,zG,rep,zab,zfq,toD,zaq,Q23,Q24,Q25,Q26,Q27,Q28,Nat.reduceLeDiff,Q29,Nat.reduceSub,Q30,Q31,Q32,sc,Q33,Q34,Q35]; rfl) : P := e.mpr h
theorem c_times {σ : List zh} {n f : Int} (hn : 0 ≤ n ∧ n ≤ 3) {K : KT} (hK : K (.d (.int .i64 (zgB n f))) σ) : zp Tryz.prog zgU [.d (.int .i64 n), .d (.int .i64 f)] σ K := by
 refine zfY ztX fun hl => ?_
 simp only [znL,iN,bT,bF,eN]
 (refine gq36 ?_; try with_reducible exact True.intro)
 refine zpu ?_
 by_cases h : f < 1 ∨ f > 4
 ·rw [zgB,if_pos h] at hK
  rw [zdz,if_pos h]
  (refine gq35 (show ((120 : Int) != 0) = true from rfl) ?_; try with_reducible exact True.intro)
  refine zT hl ?_
  exact hK
 ·rw [zgB,if_neg h] at hK
  rw [zdz,if_neg h]
  have h1 : 0 ≤ n * f := Int.mul_nonneg hn.1 (by omega)
  have h2 : n * f ≤ 3 * 4 := Int.mul_le_mul hn.2 (by omega) (by omega) (by omega)
  have w1 : IntKind.i64.wrap (n * f) = n * f := zac (by omega) (by omega)
  have w2 : IntKind.i64.wrap (n * f + 1) = n * f + 1 := zac (by omega) (by omega)
  (refine gq35 (zlM (show ((0 : Int) != 0) = false from rfl) (zlM w1 w2)) ?_; try with_reducible exact True.intro)
  refine zT hl ?_
  exact hK
theorem c_quBig {σ : List zh} {f : Int} {K : KT} (hK : K (.d (.int .i64 (zgB 2 f))) σ) : zp Tryz.prog zmg [.d (.int .i64 f)] σ K := by
 refine zeW e_quorum_Big fun hl => ?_
 simp only [zri,iN,bT,bF,eN]
 (refine gq36 ?_; try with_reducible exact True.intro)
 refine c_times (by omega) ?_
 (refine gq36 ?_; try with_reducible exact True.intro)
 refine zT hl ?_
 exact hK
theorem c_quBrokers {σ : List zh} {f : Int} {K : KT} (hK : K (.d (.int .i64 (zgB 3 f))) σ) : zp Tryz.prog zfj [.d (.int .i64 f)] σ K := by
 refine zeW zrA fun hl => ?_
 simp only [zlA,iN,bT,bF,eN]
 (refine gq36 ?_; try with_reducible exact True.intro)
 refine c_times (by omega) ?_
 (refine gq36 ?_; try with_reducible exact True.intro)
 refine zT hl ?_
 exact hK
theorem c_rBrokers {σ : List zh} {f : Int} {K : KT} (hK : K (.d (.int .i64 (zgB 3 f))) σ) : zp Tryz.prog zkQ [.d (.int .i64 f)] σ K := by
 refine zeW zvY fun hl => ?_
 simp only [zpC,iN,bT,bF,eN]
 (refine gq36 ?_; try with_reducible exact True.intro)
 refine c_rCheckF ?_
 by_cases h : f < 1 ∨ f > 4
 ·rw [zgB,if_pos h] at hK
  rw [zdz,if_pos h]
  (refine gq35 (show ((120 : Int) != 0) = true from rfl) ?_; try with_reducible exact True.intro)
  refine zT hl ?_
  exact hK
 ·rw [zgB,if_neg h] at hK
  rw [zdz,if_neg h]
  have w1 : IntKind.i64.wrap (3 * f) = 3 * f := zac (by omega) (by omega)
  have w2 : IntKind.i64.wrap (3 * f + 1) = 3 * f + 1 := zac (by omega) (by omega)
  (refine gq35 (zlM (show ((0 : Int) != 0) = false from rfl) (zlM w1 w2)) ?_; try with_reducible exact True.intro)
  refine zT hl ?_
  exact hK
theorem zwt {σ : List zh} {x : Int} {K : KT} (hK : K (.d (.bool (zdc x))) σ) : zp Tryz.prog zjX [.d (.int .i64 x)] σ K := by
 refine zeW e_r11_num fun hl => ?_
 have fin : ∀ z,zdc x = z → K (.d (.bool z)) σ := fun z h => h ▸ hK
 clear hK
 simp only [S_r11_num,iN,bT,bF,eN]
 cases h1 : decide (x ≥ 0)
 ·refine gq2 h1 ?_
  refine zT hl ?_
  exact fin _ (by simp at h1; simp [zdc]; omega)
 ·refine gq2 h1 ?_
  refine zT hl ?_
  exact fin _ (by simp at h1; simp [zdc]; omega)
theorem c_raMay {σ : List zh} {a b c d : Int} {K : KT} (hK : K (.d (.bool (zqS a b c d))) σ) :
  zp Tryz.prog zsq [.d (.int .i64 a), .d (.int .i64 b), .d (.int .i64 c), .d (.int .i64 d)] σ K := by
 refine acE4 e_r11_may fun hl => ?_
 have fin : ∀ z,zqS a b c d = z → K (.d (.bool z)) σ := fun z h => h ▸ hK
 clear hK
 simp only [S_r11_may,iN,bT,bF,eN]
 refine gq1 ?_
 refine zwt ?_
 cases h1 : zdc a
 ·refine gq1 ?_
  refine zT hl ?_
  exact fin _ (by simp [zqS,h1])
 refine gq1 ?_
 refine zwt ?_
 cases h2 : zdc b
 ·refine gq1 ?_
  refine zT hl ?_
  exact fin _ (by simp [zqS,h1,h2])
 refine gq1 ?_
 refine zwt ?_
 cases h3 : zdc c
 ·refine gq1 ?_
  refine zT hl ?_
  exact fin _ (by simp [zqS,h1,h2,h3])
 refine gq1 ?_
 refine zwt ?_
 refine gq1 ?_
 refine zT hl ?_
 exact fin _ (by simp [zqS,h1,h2,h3])
theorem zws {σ : List zh} {b : List UInt8} {x : Int} (hb : b.length ≤ 1000000) (h0 : 0 ≤ x) (h1 : x ≤ 9007199254740992) {K : KT} (hK : K (.d (.slice (bcs (b ++ zcO x.toNat)))) σ) :
  zp Tryz.prog zjW [.d (.slice (bcs b)), .d (.int .i64 x)] σ K := by
 refine zfY e_r11_put fun hl => ?_
 have hm1 : (if 0 > x then 0 else x) = x := by split <;> omega
 have hm2 : (if x < 0 then 0 else x) = x := by split <;> omega
 have hw : IntKind.u64.wrap x = ((x.toNat : Nat) : Int) := by
  rw [show x = ((x.toNat : Nat) : Int) by omega,zcQ (by omega)]; rfl
 simp only [S_r11_put,iN,bT,bF,eN]
 refine gq2 (zf hm1 (zf hm2 hw)) ?_
 refine zcY (by omega) (by omega) ?_
 refine gq1 ?_
 refine zT hl ?_
 exact hK
theorem zwr {σ : List zh} {a b c d : Int} (h : zqS a b c d = true) {K : KT} (hK : K (.d (.slice (bcs (zfZ a b c d)))) σ) :
  zp Tryz.prog zim [.d (.int .i64 a), .d (.int .i64 b), .d (.int .i64 c), .d (.int .i64 d)] σ K := by
 refine acE4 zsN fun hl => ?_
 simp only [zqS,Bool.and_eq_true,zeY] at h
 obtain ⟨⟨a0,a1⟩,⟨b0,b1⟩,⟨c0,c1⟩,⟨d0,d1⟩⟩ := h
 have l1 := zE (n := a.toNat) (by omega)
 have l2 := zE (n := b.toNat) (by omega)
 have l3 := zE (n := c.toNat) (by omega)
 simp only [zmC,iN,bT,bF,eN]
 refine gq1 ?_
 refine zws (b := [4]) (by simp) a0 a1 ?_
 obtain ⟨B1,hB1⟩ : ∃ B, [4] ++ zcO a.toNat = B := ⟨_,rfl⟩
 have n1 : B1.length ≤ 11 := by rw [← hB1]; simp; omega
 rw [hB1]
 refine gq1 ?_
 refine zws (by omega) b0 b1 ?_
 obtain ⟨B2,hB2⟩ : ∃ B,B1 ++ zcO b.toNat = B := ⟨_,rfl⟩
 have n2 : B2.length ≤ 21 := by rw [← hB2]; simp; omega
 rw [hB2]
 refine gq1 ?_
 refine zws (by omega) c0 c1 ?_
 obtain ⟨B3,hB3⟩ : ∃ B,B2 ++ zcO c.toNat = B := ⟨_,rfl⟩
 have n3 : B3.length ≤ 31 := by rw [← hB3]; simp; omega
 rw [hB3]
 refine gq1 ?_
 refine zws (by omega) d0 d1 ?_
 refine gq1 ?_
 refine zT hl ?_
 rw [show B3 ++ zcO d.toNat = zfZ a b c d by rw [← hB3, ← hB2, ← hB1]; simp [zfZ,zhU]]
 exact hK
def sgnE (L : List (List UInt8)) (key : Int) (b : List UInt8) : Int := if zdw L b = 0 then 6 else zeh key (zdw L b)
def sgnS (L : List (List UInt8)) (key : Int) (b : List UInt8) : zI := if zdw L b = 0 then ⟨0, 0⟩ else signR key (zdw L b)
def sgnG (L : List (List UInt8)) (G : List zI) (key : Int) (b : List UInt8) : List zI := if zdw L b = 0 then G else zfW G key (zdw L b)
theorem c_raSign {σ : List zh} {id id2 : Nat} {L : List (List UInt8)} {G : List zI} {key : Int} {b : List UInt8} (hT : σ[id]? = some (rtO L)) (hG : σ[id2]? = some (rlO G)) (h1 : id ≠ id2) (hbl : b.length ≤ 1073741824) (hl0 : L.length ≤ 1048576) (hg : G.length ≤ 1073741824)
  {K : KT}
  (hK : K (.tup [zvE (sgnS L key b), .d (.int .i64 (sgnE L key b))]) ((σ.set id (rtO (zeI L b))).set id2 (rlO (sgnG L G key b)))) :
  zp Tryz.prog zqb [.box id 0, .box id2 0, .d (.int .i64 key), .d (.slice (bcs b))] σ K := by
 refine acE4 e_r11_sign fun hl => ?_
 simp only [zvl,iN,bT,bF,eN]
 refine gq1 ?_
 refine zlm (zd hT) hbl hl0 ?_
 rw [zcd hT]
 have hl1 : zfn σ.length (σ.set id (rtO (zeI L b))) := hl.setO (zfs _ _)
 have hs1 : (σ.set id (rtO (zeI L b))).length = σ.length := by simp
 have hG1 : (σ.set id (rtO (zeI L b)))[id2]? = some (rlO G) := by rw [List.getElem?_set_ne h1]; exact hG
 obtain ⟨S1,hS1⟩ : ∃ S1, σ.set id (rtO (zeI L b)) = S1 := ⟨_,rfl⟩
 rw [hS1] at hK hG1 hs1 hl1 ⊢
 have r1 : σ.length = S1.length := hs1.symm
 rw [r1] at hl1
 by_cases hz : zdw L b = 0
 ·have hq : (zdw L b == 0) = true := by simpa using hz
  simp only [sgnE,sgnS,sgnG,if_pos hz,zvE] at hK
  rw [zbq hG1] at hK
  refine gq2 (zf hq r1) ?_
  refine zef rfl ?_ hl1 ?_
  ·simp [zeU,dmT,dm,dm1,zcC,zbL,zeV]
  ·exact hK
 ·have hq : (zdw L b == 0) = false := by simpa using hz
  simp only [sgnE,sgnS,sgnG,if_neg hz] at hK
  refine gq2 (zf hq r1) ?_
  refine c_rgSign (zd hG1) hg ?_
  rw [zcd hG1]
  have hl2 : zfn S1.length (S1.set id2 (rlO (zfW G key (zdw L b)))) := hl1.setO (rlO_low _ _)
  have hs2 : (S1.set id2 (rlO (zfW G key (zdw L b)))).length = S1.length := by simp
  obtain ⟨S2,hS2⟩ : ∃ S2,S1.set id2 (rlO (zfW G key (zdw L b))) = S2 := ⟨_,rfl⟩
  rw [hS2] at hK hs2 hl2 ⊢
  have r3 : S1.length = S2.length := hs2.symm
  have r2 : σ.length = S2.length := r1.trans r3
  rw [r3] at hl2
  simp only [zvE] at hK ⊢
  refine gq2 (zf r2 r3) ?_
  refine zef rfl ?_ hl2 ?_
  ·simp [zeU,dmT,dm,dm1,zcC,zbL,zeV]
  ·exact hK
def votE (L : List (List UInt8)) (key a b c d : Int) : Int := if zqS a b c d = true then sgnE L key (zfZ a b c d) else 1
def votS (L : List (List UInt8)) (key a b c d : Int) : zI := if zqS a b c d = true then sgnS L key (zfZ a b c d) else ⟨0, 0⟩
def votL (L : List (List UInt8)) (a b c d : Int) : List (List UInt8) := if zqS a b c d = true then zeI L (zfZ a b c d) else L
def votG (L : List (List UInt8)) (G : List zI) (key a b c d : Int) : List zI := if zqS a b c d = true then sgnG L G key (zfZ a b c d) else G
theorem c_raVote {σ : List zh} {id id2 : Nat} {L : List (List UInt8)} {G : List zI} {key a b c d : Int} (hT : σ[id]? = some (rtO L)) (hG : σ[id2]? = some (rlO G)) (h1 : id ≠ id2) (hl0 : L.length ≤ 1048576) (hg : G.length ≤ 1073741824)
  {K : KT}
  (hK : K (.tup [zvE (votS L key a b c d), .d (.int .i64 (votE L key a b c d))]) ((σ.set id (rtO (votL L a b c d))).set id2 (rlO (votG L G key a b c d)))) :
  zp Tryz.prog zjY [.box id 0, .box id2 0, .d (.int .i64 key), .d (.int .i64 a), .d (.int .i64 b), .d (.int .i64 c), .d (.int .i64 d)] σ K := by
 refine acE7 e_r11_Vote fun hl => ?_
 simp only [zvm,iN,bT,bF,eN]
 refine gq1 ?_
 refine c_raMay ?_
 cases hm : zqS a b c d
 ·simp only [votS,votE,votL,votG,hm,Bool.false_eq_true,if_false,zvE] at hK
  rw [zbq hT,zbq hG] at hK
  refine gq1 ?_
  refine zT hl ?_
  exact hK
 ·simp only [votS,votE,votL,votG,hm,if_true] at hK
  have hbl := voteB_len hm
  refine gq1 ?_
  refine zwr hm ?_
  refine gq1 ?_
  refine c_raSign (zd hT) (zd hG) h1 (by omega) hl0 hg ?_
  rw [zcd hT,zcd (by rw [List.getElem?_set_ne h1]; exact hG)]
  have hl2 : zfn σ.length ((σ.set id (rtO (zeI L (zfZ a b c d)))).set id2 (rlO (sgnG L G key (zfZ a b c d)))) := (hl.setO (zfs _ _)).setO (rlO_low _ _)
  have hs2 : ((σ.set id (rtO (zeI L (zfZ a b c d)))).set id2 (rlO (sgnG L G key (zfZ a b c d)))).length = σ.length := by simp
  obtain ⟨S2,hS2⟩ : ∃ S2,(σ.set id (rtO (zeI L (zfZ a b c d)))).set id2 (rlO (sgnG L G key (zfZ a b c d))) = S2 := ⟨_,rfl⟩
  rw [hS2] at hK hs2 hl2 ⊢
  have r3 : σ.length = S2.length := hs2.symm
  rw [r3] at hl2
  simp only [zvE] at hK ⊢
  refine gq2 r3 ?_
  refine zef rfl ?_ hl2 ?_
  ·simp [zeU,dmT,dm,dm1,zcC,zbL,zeV]
  ·exact hK
abbrev prepA (p : zoG) : AV := .agg [.d (.int .i64 p.view), .d (.int .i64 p.seq), .d (.int .i64 p.dig), .d (.int .i64 p.fkey), .d (.int .i64 p.fdig), .d (.slice (zbd p.signs)), .d (.slice (zdi p.batch))]
structure smallP (p : zoG) : Prop where
 ops : ∀ x ∈ p.batch,zkF x.op ≤ 20971520
 batch : p.batch.length ≤ 1073741824
 signs : p.signs.length ≤ 1073741824
end Go.Proofs.YtfgbofkdhfjegaaGreat

/- Checkpoints' certificates: which are valid. No program in sight. -/
namespace Go.AW
def zrr (f seq d key : Int) : Bool := decide (seq ≥ 1) && (decide (seq ≤ 9007199254740992) && ((seq.tmod 4 == 0) && (decide (d ≥ 1) && (decide (d ≤ 9007199254740992) && (decide (key ≥ 0) && decide (key < zgB 3 f))))))
def zeroC (c : zff) : Bool := (c.seq == 0) && ((c.dig == 0) && ((c.signs.length : Int) == 0))
def mayCs (f seq d : Int) : Option zI → List zI → Bool
 | _, [] => true
 | p,s :: r => zrr f seq d s.key && ((match p with | some q => !(decide (s.key ≤ q.key)) | none => true) && mayCs f seq d (some s) r)
def zja (f : Int) (c : zff) : Bool := zeroC c || (decide ((c.signs.length : Int) ≥ zgB 2 f) && mayCs f c.seq c.dig none c.signs)
def zwm (L : List (List UInt8)) (G : List zI) (f : Int) (c : zff) : Bool := decide (zdz f = 0) && (zja f c && c.signs.all fun s => zrT L G s s.key 6 0 c.seq c.dig)
theorem mayCs_drop {f seq d : Int} {p : Option zI} {l : List zI} {k : Nat} {s : zI} (h : l[k]? = some s) : mayCs f seq d p (l.drop k) = (zrr f seq d s.key && ((match p with | some q => !(decide (s.key ≤ q.key)) | none => true) && mayCs f seq d (some s) (l.drop (k + 1)))) := by
 have hk : k < l.length := (List.getElem?_eq_some_iff.1 h).1
 rw [List.drop_eq_getElem_cons hk,(List.getElem?_eq_some_iff.1 h).2]
 rfl
def aheadS (l : List zI) : Nat → Option zI
 | 0 => none
 | k + 1 => l[k]?
end Go.AW

/- Contracts: checkpoints' certificates, on both sides. -/
set_option maxRecDepth 100000
namespace Go.Proofs.YtfgbofkdhfjegaaGreat
open Go.AW
theorem c_ptZero {σ : List zh} {c : zff} {K : KT} (hK : K (.d (.bool (zeroC c))) σ) : zp Tryz.prog zmh [zox c] σ K := by
 refine zeW e_point_zero fun hl => ?_
 have hlen : (zbd c.signs).length = c.signs.length := List.length_map ..
 have fin : ∀ z,zeroC c = z → K (.d (.bool z)) σ := fun z h => h ▸ hK
 clear hK
 simp only [zrj,iN,bT,bF,eN,zox]
 cases h1 : (c.seq == 0)
 ·refine gq2 h1 ?_
  refine zT hl ?_
  exact fin _ (by simp [zeroC,h1])
 cases h2 : (c.dig == 0)
 ·refine gq2 (zf h1 h2) ?_
  refine zT hl ?_
  exact fin _ (by simp [zeroC,h1,h2])
 refine gq2 (zf h1 (zf h2 hlen)) ?_
 refine zT hl ?_
 exact fin _ (by simp [zeroC,h1,h2])
theorem c_ptMay {σ : List zh} {id : Nat} {f seq d key : Int} {cs : List AV} (hσ : σ[id]? = some (.box (.d (.int .i64 f) :: cs))) {K : KT} (hK : K (.d (.bool (zrr f seq d key))) σ) :
  zp Tryz.prog zgm [.box id 0, .d (.int .i64 seq), .d (.int .i64 d), .d (.int .i64 key)] σ K := by
 refine acE4 zpm fun hl => ?_
 have fin : ∀ z,zrr f seq d key = z → K (.d (.bool z)) σ := fun z h => h ▸ hK
 clear hK
 have e4 : ((4 : Int) == 0) = false := rfl
 simp only [zjm,iN,bT,bF,eN]
 cases h1 : decide (seq ≥ 1)
 ·refine gq2 h1 ?_
  refine zT hl ?_
  exact fin _ (by rw [zrr,h1]; rfl)
 cases h2 : decide (seq ≤ 9007199254740992)
 ·refine gq2 (zf h1 h2) ?_
  refine zT hl ?_
  exact fin _ (by rw [zrr,h1,h2]; rfl)
 cases h3 : (seq.tmod 4 == 0)
 ·refine gq2 (zf h1 (zf h2 (zf e4 h3))) ?_
  refine zT hl ?_
  exact fin _ (by rw [zrr,h1,h2,h3]; rfl)
 cases h4 : decide (d ≥ 1)
 ·refine gq2 (zf h1 (zf h2 (zf e4 (zf h3 h4)))) ?_
  refine zT hl ?_
  exact fin _ (by rw [zrr,h1,h2,h3,h4]; rfl)
 cases h5 : decide (d ≤ 9007199254740992)
 ·refine gq2 (zf h1 (zf h2 (zf e4 (zf h3 (zf h4 h5))))) ?_
  refine zT hl ?_
  exact fin _ (by rw [zrr,h1,h2,h3,h4,h5]; rfl)
 cases h6 : decide (key ≥ 0)
 ·refine gq2 (zf h1 (zf h2 (zf e4 (zf h3 (zf h4 (zf h5 h6)))))) ?_
  refine zT hl ?_
  exact fin _ (by rw [zrr,h1,h2,h3,h4,h5,h6]; rfl)
 refine gq2 (zf h1 (zf h2 (zf e4 (zf h3 (zf h4 (zf h5 (zf h6 hσ))))))) ?_
 refine c_quBrokers ?_
 refine gq1 ?_
 refine zT hl ?_
 exact fin _ (by rw [zrr,h1,h2,h3,h4,h5,h6]; rfl)
theorem zoE {l : List zI} {k : Nat} {s : zI} (h : l[k]? = some s) : aheadS l (k + 1) = some s := h
abbrev certO (c : zff) : zh := .box [.d (.int .i64 c.seq), .d (.int .i64 c.dig), .d (.slice (zbd c.signs))]
theorem c_ptMayCert {σ : List zh} {id : Nat} {f : Int} {c : zff} {cs : List AV} (hσ : σ[id]? = some (.box (.d (.int .i64 f) :: cs))) (hl0 : c.signs.length ≤ 1073741824) {K : KT} (hK : K (.d (.bool (zja f c))) σ) :
  zp Tryz.prog zec [.box id 0,zox c] σ K := by
 refine zfY zlP fun hl => ?_
 have fin : ∀ z,zja f c = z → K (.d (.bool z)) σ := fun z h => h ▸ hK
 clear hK
 have hlen : (zbd c.signs).length = c.signs.length := List.length_map ..
 have hS : ∀ τ,(σ ++ τ)[id]? = some (.box (.d (.int .i64 f) :: cs)) := fun τ => zd hσ
 simp only [zgG,iN,bT,bF,eN,zox]
 refine gq1 ?_
 refine c_ptZero (c := c) ?_
 cases hz : zeroC c
 rotate_left
 ·refine gq1 ?_
  refine zT hl ?_
  exact fin _ (by rw [zja,hz]; rfl)
 refine gq2 hlen ?_
 refine zr c.signs.length (fun k vs s => vs = [.d (.int .i64 k)] ∧ (∃ T,s = σ ++ certO c :: T) ∧ mayCs f c.seq c.dig none c.signs = mayCs f c.seq c.dig (aheadS c.signs k) (c.signs.drop k)) ⟨rfl,⟨[],rfl⟩,rfl⟩ ?_
 rintro k vs s hk ⟨rfl,⟨T,rfl⟩,hpf⟩
 have no : mayCs f c.seq c.dig none c.signs = false → zja f c = false := fun h => by rw [zja,hz,h,Bool.and_false]; rfl
 by_cases hlt : k < c.signs.length
 ·have hd : decide ((k : Int) < (c.signs.length : Int)) = true := by simp; omega
  have hx : c.signs[k]? = some c.signs[k] := by simp [hlt]
  have hgx := zS (f := zil) hx
  obtain ⟨x,hxe⟩ : ∃ x,c.signs[k] = x := ⟨_,rfl⟩
  rw [hxe] at hx hgx
  rw [mayCs_drop hx] at hpf
  refine gq8 (zf hd hgx) ?_
  refine c_ptMay (hS _) ?_
  cases h1 : zrr f c.seq c.dig x.key
  ·refine gq1 ?_
   refine zT hl ?_
   exact fin _ (no (by rw [hpf,h1]; rfl))
  rw [h1,Bool.true_and] at hpf
  cases k with
  | zero =>
   refine gq2 (zf (show decide (((0 : Nat) : Int) > 0) = false from rfl) (wkc 0 (by omega))) ?_
   exact zaG.next hlt ⟨rfl,⟨_,rfl⟩,by rw [hpf,zoE hx]; rfl⟩
  | succ j =>
   have hz1 : decide (((j + 1 : Nat) : Int) > 0) = true := decide_eq_true (by omega)
   have hw1 : IntKind.i64.wrap (((j + 1 : Nat) : Int) - 1) = (j : Int) := by rw [zac (by omega) (by omega)]; omega
   have hy : c.signs[j]? = some c.signs[j] := by simp [show j < c.signs.length by omega]
   have hgy := zS (f := zil) hy
   obtain ⟨y,hye⟩ : ∃ y,c.signs[j] = y := ⟨_,rfl⟩
   rw [hye] at hy hgy
   rw [zoE hy] at hpf
   simp only at hpf
   cases h2 : decide (x.key ≤ y.key)
   ·refine gq8 (zf hz1 (zf hw1 (zf hgx (zf hgy (zf h2 (wkc (j + 1) (by omega))))))) ?_
    exact zaG.next hlt ⟨rfl,⟨_,rfl⟩,by rw [hpf,h2,zoE hx]; simp⟩
   ·refine gq8 (zf hz1 (zf hw1 (zf hgx (zf hgy h2)))) ?_
    refine zT hl ?_
    exact fin _ (no (by rw [hpf,h2]; rfl))
 ·have hd : decide ((k : Int) < (c.signs.length : Int)) = false := by simp; omega
  rw [List.drop_eq_nil_of_le (by omega)] at hpf
  refine gq2 (zf hd (zf hlen hS)) ?_
  refine c_quBig ?_
  refine gq1 ?_
  refine zT hl ?_
  exact fin _ (by rw [zja,hz,hpf]; simp [mayCs])
theorem c_ptNew {σ : List zh} {f : Int} {K : KT} (hN : zdz f ≠ 0 → K (.tup [.d .nilp, .d (.int .i64 (zdz f))]) σ)
  (hY : zdz f = 0 → K (.tup [.box (σ.length + 1) 0, .d (.int .i64 0)]) (σ ++ [.map [], .box [.d (.int .i64 f), .d (.int .i64 0), .d (.int .i64 0), .exact [], .map σ.length, .exact []]])) : zp Tryz.prog zod [.d (.int .i64 f)] σ K := by
 refine zbB zsT.is rfl (fun s => if s.length = σ.length then [] else List.range' σ.length 2) fun hl _ => zsT.goes ?_
 simp only [ztE,iN,bT,bF,eN]
 refine gq1 ?_
 refine zpu ?_
 cases h : (zdz f != 0)
 ·have h0 : zdz f = 0 := by simpa using h
  refine gq2 h ?_
  refine zcp (os := [.map [], .box [.d (.int .i64 f), .d (.int .i64 0), .d (.int .i64 0), .exact [], .map σ.length, .exact []]]) rfl (by simp) hl ?_ ?_ (hY h0)
  ·intro x hx
   simp only [List.mem_cons,List.not_mem_nil,or_false] at hx
   rcases hx with rfl | rfl
   ·intro e he; simp at he
   ·intro c hc
    simp only [List.mem_cons,List.not_mem_nil,or_false] at hc
    rcases hc with rfl | rfl | rfl | rfl | rfl | rfl
    ·exact .d _
    ·exact .d _
    ·exact .d _
    ·exact .exact _
    ·exact .map _ (by simp)
    ·exact .exact _
  ·simp [zcC,zbL,Low_box,zeU]
 ·refine gq2 h ?_
  exact zli (by simp) hl (by simp [zcC,zdb,ziU]) (hN (by simpa using h))
end Go.Proofs.YtfgbofkdhfjegaaGreat

/- Contracts: votes, the document's. -/
import Derived.Test.YtncpaekiidpchaaGreatSpMake
import Derived.Test.YtncpaekiidpchaaGreatMk2
import Derived.Test.YtncpaekiidpchaaGreatAu1
set_option linter.all false
set_option maxRecDepth 100000
namespace Go.Proofs.YtncpaekiidpchaaGreat
open Go.AW
theorem zvF {σ : List zh} {x : Int} {K : KT} (hK : K (.d (.bool (zdq x))) σ) : zy Tryz.prog ziW [.d (.int .i64 x)] σ K := by
 refine zi e_r11_num.is rfl fun hl _ => e_r11_num.goes ?_
 have fin : ∀ z,zdq x = z → K (.d (.bool z)) σ := fun z h => h ▸ hK
 clear hK
 simp only [S_r11_num,iN,bT,bF,eN]
 cases h1 : decide (x ≥ 0)
 ·(repeat' first | refine gq2 h1 ?_ | with_reducible first | exact ⟨⟩ | refine zg ?_ | fail)
  (first | refine zX hl ?_ | refine zW hl ?_)
  exact fin _ (by simp at h1; simp [zdq]; omega)
 ·(repeat' first | refine gq2 h1 ?_ | with_reducible first | exact ⟨⟩ | refine zg ?_ | fail)
  (first | refine zX hl ?_ | refine zW hl ?_)
  exact fin _ (by simp at h1; simp [zdq]; omega)
theorem c_raMay {σ : List zh} {a b c d : Int} {K : KT} (hK : K (.d (.bool (zrA a b c d))) σ) :
  zy Tryz.prog znN [.d (.int .i64 a), .d (.int .i64 b), .d (.int .i64 c), .d (.int .i64 d)] σ K := by
 refine zi e_r11_may.is rfl fun hl _ => e_r11_may.goes ?_
 have fin : ∀ z,zrA a b c d = z → K (.d (.bool z)) σ := fun z h => h ▸ hK
 clear hK
 simp only [S_r11_may,iN,bT,bF,eN]
 (repeat' first | refine gq1 ?_ | with_reducible first | exact ⟨⟩ | refine zg ?_ | fail)
 refine zvF ?_
 cases h1 : zdq a
 ·(repeat' first | refine gq1 ?_ | with_reducible first | exact ⟨⟩ | refine zg ?_ | fail)
  (first | refine zX hl ?_ | refine zW hl ?_)
  exact fin _ (by simp [zrA,h1])
 (repeat' first | refine gq1 ?_ | with_reducible first | exact ⟨⟩ | refine zg ?_ | fail)
 refine zvF ?_
 cases h2 : zdq b
 ·(repeat' first | refine gq1 ?_ | with_reducible first | exact ⟨⟩ | refine zg ?_ | fail)
  (first | refine zX hl ?_ | refine zW hl ?_)
  exact fin _ (by simp [zrA,h1,h2])
 (repeat' first | refine gq1 ?_ | with_reducible first | exact ⟨⟩ | refine zg ?_ | fail)
 refine zvF ?_
 cases h3 : zdq c
 ·(repeat' first | refine gq1 ?_ | with_reducible first | exact ⟨⟩ | refine zg ?_ | fail)
  (first | refine zX hl ?_ | refine zW hl ?_)
  exact fin _ (by simp [zrA,h1,h2,h3])
 (repeat' first | refine gq1 ?_ | with_reducible first | exact ⟨⟩ | refine zg ?_ | fail)
 refine zvF ?_
 (repeat' first | refine gq1 ?_ | with_reducible first | exact ⟨⟩ | refine zg ?_ | fail)
 (first | refine zX hl ?_ | refine zW hl ?_)
 exact fin _ (by simp [zrA,h1,h2,h3])
theorem zvE {σ : List zh} {b : List UInt8} {x : Int} (hb : b.length ≤ 1000000) (h0 : 0 ≤ x) (h1 : x ≤ 9007199254740992) {K : KT} (hK : K (.d (.slice (bcs (b ++ zcr x.toNat)))) σ) :
  zy Tryz.prog ziV [.d (.slice (bcs b)), .d (.int .i64 x)] σ K := by
 refine zi e_r11_put.is rfl fun hl _ => e_r11_put.goes ?_
 have hm1 : (if 0 > x then 0 else x) = x := by split <;> omega
 have hm2 : (if x < 0 then 0 else x) = x := by split <;> omega
 have hw : IntKind.u64.wrap x = ((x.toNat : Nat) : Int) := by
  rw [show x = ((x.toNat : Nat) : Int) by omega,zcn (by omega)]; rfl
 simp only [S_r11_put,iN,bT,bF,eN]
 (repeat' first | refine gq2 (zc hm1 (zc hm2 hw)) ?_ | with_reducible first | exact ⟨⟩ | refine zg ?_ | fail)
 refine zcC (by omega) (by omega) ?_
 (repeat' first | refine gq1 ?_ | with_reducible first | exact ⟨⟩ | refine zg ?_ | fail)
 (first | refine zX hl ?_ | refine zW hl ?_)
 exact hK
theorem zon {σ : List zh} {a b c d : Int} (h : zrA a b c d = true) {K : KT} (hK : K (.d (.slice (bcs (zkO a b c d)))) σ) :
  zy Tryz.prog zeZ [.d (.int .i64 a), .d (.int .i64 b), .d (.int .i64 c), .d (.int .i64 d)] σ K := by
 refine zi zlt.is rfl fun hl _ => zlt.goes ?_
 simp only [zrA,Bool.and_eq_true,znL] at h
 obtain ⟨⟨a0,a1⟩,⟨b0,b1⟩,⟨c0,c1⟩,⟨d0,d1⟩⟩ := h
 have l1 := zD (n := a.toNat) (by omega)
 have l2 := zD (n := b.toNat) (by omega)
 have l3 := zD (n := c.toNat) (by omega)
 simp only [zlN,iN,bT,bF,eN]
 (repeat' first | refine gq1 ?_ | with_reducible first | exact ⟨⟩ | refine zg ?_ | fail)
 refine zvE (b := [4]) (by simp) a0 a1 ?_
 obtain ⟨B1,hB1⟩ : ∃ B, [4] ++ zcr a.toNat = B := ⟨_,rfl⟩
 have n1 : B1.length ≤ 11 := by rw [← hB1]; simp; omega
 rw [hB1]
 (repeat' first | refine gq1 ?_ | with_reducible first | exact ⟨⟩ | refine zg ?_ | fail)
 refine zvE (by omega) b0 b1 ?_
 obtain ⟨B2,hB2⟩ : ∃ B,B1 ++ zcr b.toNat = B := ⟨_,rfl⟩
 have n2 : B2.length ≤ 21 := by rw [← hB2]; simp; omega
 rw [hB2]
 (repeat' first | refine gq1 ?_ | with_reducible first | exact ⟨⟩ | refine zg ?_ | fail)
 refine zvE (by omega) c0 c1 ?_
 obtain ⟨B3,hB3⟩ : ∃ B,B2 ++ zcr c.toNat = B := ⟨_,rfl⟩
 have n3 : B3.length ≤ 31 := by rw [← hB3]; simp; omega
 rw [hB3]
 (repeat' first | refine gq1 ?_ | with_reducible first | exact ⟨⟩ | refine zg ?_ | fail)
 refine zvE (by omega) d0 d1 ?_
 (repeat' first | refine gq1 ?_ | with_reducible first | exact ⟨⟩ | refine zg ?_ | fail)
 (first | refine zX hl ?_ | refine zW hl ?_)
 rw [show B3 ++ zcr d.toNat = zkO a b c d by rw [← hB3, ← hB2, ← hB1]; simp [zkO,zgU]]
 exact hK
def sgnE (L : List (List UInt8)) (key : Int) (b : List UInt8) : Int := if zew L b = 0 then 6 else zeW key (zew L b)
def sgnS (L : List (List UInt8)) (key : Int) (b : List UInt8) : zS := if zew L b = 0 then ⟨0, 0⟩ else signR key (zew L b)
def sgnG (L : List (List UInt8)) (G : List zS) (key : Int) (b : List UInt8) : List zS := if zew L b = 0 then G else zgT G key (zew L b)
theorem c_raSign {σ : List zh} {id id2 : Nat} {L : List (List UInt8)} {G : List zS} {key : Int} {b : List UInt8} (hT : σ[id]? = some (rtO L)) (hG : σ[id2]? = some (rlO G)) (h1 : id ≠ id2) (hbl : b.length ≤ 1073741824) (hl0 : L.length ≤ 1048576) (hg : G.length ≤ 1073741824)
  {K : KT}
  (hK : K (.tup [zvd (sgnS L key b), .d (.int .i64 (sgnE L key b))]) ((σ.set id (rtO (zfo L b))).set id2 (rlO (sgnG L G key b)))) :
  zy Tryz.prog zpg [.box id 0, .box id2 0, .d (.int .i64 key), .d (.slice (bcs b))] σ K := by
 refine zi ztZ.is rfl fun hl _ => ztZ.goes ?_
 simp only [zuM,iN,bT,bF,eN]
 (repeat' first | refine gq1 ?_ | with_reducible first | exact ⟨⟩ | refine zg ?_ | fail)
 refine zkj (zf hT) hbl hl0 ?_
 rw [zbD hT]
 have hl1 : zfn σ.length (σ.set id (rtO (zfo L b))) := hl.setO (zeG _ _)
 have hs1 : (σ.set id (rtO (zfo L b))).length = σ.length := by simp
 have hG1 : (σ.set id (rtO (zfo L b)))[id2]? = some (rlO G) := by rw [List.getElem?_set_ne h1]; exact hG
 obtain ⟨S1,hS1⟩ : ∃ S1, σ.set id (rtO (zfo L b)) = S1 := ⟨_,rfl⟩
 rw [hS1] at hK hG1 hs1 hl1 ⊢
 have r1 : σ.length = S1.length := hs1.symm
 rw [r1] at hl1
 by_cases hz : zew L b = 0
 ·have hq : (zew L b == 0) = true := by simpa using hz
  simp only [sgnE,sgnS,sgnG,if_pos hz,zvd] at hK
  rw [zbC hG1] at hK
  (repeat' first | refine gq2 (zc hq r1) ?_ | with_reducible first | exact ⟨⟩ | refine zg ?_ | fail)
  refine zcN rfl ?_ hl1 ?_
  ·simp [zcZ,dmT,dm,dm1,zcf,zbu,zeu]
  ·exact hK
 ·have hq : (zew L b == 0) = false := by simpa using hz
  simp only [sgnE,sgnS,sgnG,if_neg hz] at hK
  (repeat' first | refine gq2 (zc hq r1) ?_ | with_reducible first | exact ⟨⟩ | refine zg ?_ | fail)
  refine c_rgSign (zf hG1) hg ?_
  rw [zbD hG1]
  have hl2 : zfn S1.length (S1.set id2 (rlO (zgT G key (zew L b)))) := hl1.setO (rlO_low _ _)
  have hs2 : (S1.set id2 (rlO (zgT G key (zew L b)))).length = S1.length := by simp
  obtain ⟨S2,hS2⟩ : ∃ S2,S1.set id2 (rlO (zgT G key (zew L b))) = S2 := ⟨_,rfl⟩
  rw [hS2] at hK hs2 hl2 ⊢
  have r3 : S1.length = S2.length := hs2.symm
  have r2 : σ.length = S2.length := r1.trans r3
  rw [r3] at hl2
  simp only [zvd] at hK ⊢
  (repeat' first | refine gq2 (zc r2 r3) ?_ | with_reducible first | exact ⟨⟩ | refine zg ?_ | fail)
  refine zcN rfl ?_ hl2 ?_
  ·simp [zcZ,dmT,dm,dm1,zcf,zbu,zeu]
  ·exact hK
def votE (L : List (List UInt8)) (key a b c d : Int) : Int := if zrA a b c d = true then sgnE L key (zkO a b c d) else 1
def votS (L : List (List UInt8)) (key a b c d : Int) : zS := if zrA a b c d = true then sgnS L key (zkO a b c d) else ⟨0, 0⟩
def votL (L : List (List UInt8)) (a b c d : Int) : List (List UInt8) := if zrA a b c d = true then zfo L (zkO a b c d) else L
def votG (L : List (List UInt8)) (G : List zS) (key a b c d : Int) : List zS := if zrA a b c d = true then sgnG L G key (zkO a b c d) else G
theorem c_raVote {σ : List zh} {id id2 : Nat} {L : List (List UInt8)} {G : List zS} {key a b c d : Int} (hT : σ[id]? = some (rtO L)) (hG : σ[id2]? = some (rlO G)) (h1 : id ≠ id2) (hl0 : L.length ≤ 1048576) (hg : G.length ≤ 1073741824)
  {K : KT}
  (hK : K (.tup [zvd (votS L key a b c d), .d (.int .i64 (votE L key a b c d))]) ((σ.set id (rtO (votL L a b c d))).set id2 (rlO (votG L G key a b c d)))) :
  zy Tryz.prog ziX [.box id 0, .box id2 0, .d (.int .i64 key), .d (.int .i64 a), .d (.int .i64 b), .d (.int .i64 c), .d (.int .i64 d)] σ K := by
 refine zi zua.is rfl fun hl _ => zua.goes ?_
 simp only [zuN,iN,bT,bF,eN]
 (repeat' first | refine gq1 ?_ | with_reducible first | exact ⟨⟩ | refine zg ?_ | fail)
 refine c_raMay ?_
 cases hm : zrA a b c d
 ·simp only [votS,votE,votL,votG,hm,Bool.false_eq_true,if_false,zvd] at hK
  rw [zbC hT,zbC hG] at hK
  (repeat' first | refine gq1 ?_ | with_reducible first | exact ⟨⟩ | refine zg ?_ | fail)
  (first | refine zX hl ?_ | refine zW hl ?_)
  exact hK
 ·simp only [votS,votE,votL,votG,hm,if_true] at hK
  have hbl := voteB_len hm
  (repeat' first | refine gq1 ?_ | with_reducible first | exact ⟨⟩ | refine zg ?_ | fail)
  refine zon hm ?_
  (repeat' first | refine gq1 ?_ | with_reducible first | exact ⟨⟩ | refine zg ?_ | fail)
  refine c_raSign (zf hT) (zf hG) h1 (by omega) hl0 hg ?_
  rw [zbD hT,zbD (by rw [List.getElem?_set_ne h1]; exact hG)]
  have hl2 : zfn σ.length ((σ.set id (rtO (zfo L (zkO a b c d)))).set id2 (rlO (sgnG L G key (zkO a b c d)))) := (hl.setO (zeG _ _)).setO (rlO_low _ _)
  have hs2 : ((σ.set id (rtO (zfo L (zkO a b c d)))).set id2 (rlO (sgnG L G key (zkO a b c d)))).length = σ.length := by simp
  obtain ⟨S2,hS2⟩ : ∃ S2,(σ.set id (rtO (zfo L (zkO a b c d)))).set id2 (rlO (sgnG L G key (zkO a b c d))) = S2 := ⟨_,rfl⟩
  rw [hS2] at hK hs2 hl2 ⊢
  have r3 : σ.length = S2.length := hs2.symm
  rw [r3] at hl2
  simp only [zvd] at hK ⊢
  (repeat' first | refine gq2 r3 ?_ | with_reducible first | exact ⟨⟩ | refine zg ?_ | fail)
  refine zcN rfl ?_ hl2 ?_
  ·simp [zcZ,dmT,dm,dm1,zcf,zbu,zeu]
  ·exact hK
end Go.Proofs.YtncpaekiidpchaaGreat

/- Certificates: whether they are valid. No program in sight. -/
namespace Go.Proofs.YtncpaekiidpchaaGreat
open Go.AW
abbrev prepA (p : TPrep) : AV := .agg [.d (.int .i64 p.view), .d (.int .i64 p.seq), .d (.int .i64 p.dig), .d (.int .i64 p.fkey), .d (.int .i64 p.fdig), .d (.slice (zax p.signs)), .d (.slice (zjv p.batch))]
end Go.Proofs.YtncpaekiidpchaaGreat

/- Contracts: whether a certificate is valid, the program's. -/
set_option maxRecDepth 100000
namespace Go.Proofs.YtncpaekiidpchaaGreat
open Go.AW
end Go.Proofs.YtncpaekiidpchaaGreat

/- Contracts: whether a certificate is valid, the program's. -/
set_option maxRecDepth 100000
namespace Go.Proofs.YtncpaekiidpchaaGreat
open Go.AW
structure smallP (p : TPrep) : Prop where
 ops : ∀ x ∈ p.batch,zkT x.op ≤ 20971520
 batch : p.batch.length ≤ 1073741824
 signs : p.signs.length ≤ 1073741824
end Go.Proofs.YtncpaekiidpchaaGreat

/- Contracts: votes and certificates, the document's. -/
set_option maxRecDepth 100000
namespace Go.Proofs.YtncpaekiidpchaaGreat
open Go.AW
theorem gq43 {A P Q : Prop} (a : A) (h : Q) (e : A → P = Q := by intro a; simp -dsimp only [↓zen, ↓zaw, ↓zba, ↓zeo, ↓zej, ↓zeh, ↓zek, ↓zei, ↓zbf, ↓zbb, ↓zbg, ↓zbc, ↓zel, ↓zaZ, ↓zbh, ↓zbd, ↓zbi, ↓zbe, ↓zeg, ↓zem, ↓zaY, ↓zbj, ↓zee, ↓zed, ↓zef,iN,bT,bF,eN, ↓zcI, ↓unC, ↓zV, ↓zJ, ↓zK, ↓zN, ↓zaa, ↓zas, ↓zbH, ↓zah, ↓zaV, ↓zQ, ↓zp, ↓zo, ↓zbr, ↓zk, ↓zag, ↓zG, ↓zaB, ↓zaF, ↓ze, ↓zE, ↓zr, ↓zw, ↓zam, ↓zcs, ↓zcM, ↓zak, ↓zat, ↓zaE, ↓zaJ, ↓zaP, ↓zu, ↓zai, ↓zL, ↓zA, ↓zab,zcT,zaU,zaT,unA,zcW,bnd,zds,zae,zR,zdv,dm,dm1,zC,zaj,zdH,zdG,zM,Q0,Q1,Q2,Q3,Q4,Q5,zT,zq,zx,zO,zI,Q6,Q7,Q8,Q9,Q10,Q11,Q12,Q13,Q14,Nat.reduceAdd,Q15,Int.reduceToNat,Q16,Q17,Q18,Q19,Q20,reduceIte,Q21,Q22,zF,rep,zY,zdD,toD,zad,Q23,Q24,Q25,Q26,Q27,Q28,Nat.reduceLeDiff,Q29,Nat.reduceSub,Q30,Q31,Q32,sc,Q33,Q34,Q35,Q36,Q37,Q26,Q38,Q39,zfZ,zfW,zfT,zga,zbR,zfX,zfU,zfY,zfV,zbQ,zbS,zgb,zgc,Bool.not_true,Bool.not_false,List.length_map,Option.isSome_some,a]; rfl) : P := (e a).mpr h
theorem c_raSigned {σ : List zh} {id id2 : Nat} {L : List (List UInt8)} {G : List zS} {s : zS} {key : Int} {b : List UInt8} (hT : σ[id]? = some (rtO L)) (hG : σ[id2]? = some (rlO G)) (hl0 : L.length ≤ 1048576) (hg : G.length ≤ 1073741824) {K : KT}
  (hK : K (.d (.bool (zfu L G s key b))) σ) : zy Tryz.prog zle [.box id 0, .box id2 0, .agg [.d (.int .i64 s.key), .d (.int .i64 s.dig)], .d (.int .i64 key), .d (.slice (bcs b))] σ K := by
 refine zi zpY.is rfl fun hl _ => zpY.goes ?_
 simp only [zqr,iN,bT,bF,eN]
 (repeat' first | refine gq1 ?_ | with_reducible first | exact ⟨⟩ | refine zg ?_ | fail)
 refine zkk (zf hT) hl0 ?_
 have fin : ∀ z,zfu L G s key b = z → K (.d (.bool z)) σ := fun z h => h ▸ hK
 clear hK
 cases hlk : zcX L b with
 | none =>
  (repeat' first | refine gq7 ?_ | with_reducible first | exact ⟨⟩ | refine zg ?_ | fail)
  (first | refine zX hl ?_ | refine zW hl ?_)
  exact fin _ (by simp [zfu,hlk])
 | some i =>
  simp only [zlb]
  cases h1 : (s.key == key)
  ·(repeat' first | refine gq43 h1 ?_ | with_reducible first | exact ⟨⟩ | refine zg ?_ | fail)
   (first | refine zX hl ?_ | refine zW hl ?_)
   exact fin _ (by simp at h1; simp [zfu,hlk,h1])
  ·cases h2 : (s.dig == ((i + 1 : Nat) : Int))
   ·(repeat' first | refine gq43 (zc h1 h2) ?_ | with_reducible first | exact ⟨⟩ | refine zg ?_ | fail)
    (first | refine zX hl ?_ | refine zW hl ?_)
    exact fin _ (by simp at h1 h2; simp [zfu,hlk,h1]; omega)
   ·(repeat' first | refine gq43 (zc h1 h2) ?_ | with_reducible first | exact ⟨⟩ | refine zg ?_ | fail)
    refine zuv (s := s) (zf hG) hg ?_
    (repeat' first | refine gq1 ?_ | with_reducible first | exact ⟨⟩ | refine zg ?_ | fail)
    (first | refine zX hl ?_ | refine zW hl ?_)
    exact fin _ (by simp at h1 h2; simp [zfu,hlk,h1,h2])
theorem zvD {σ : List zh} {id id2 : Nat} {L : List (List UInt8)} {G : List zS} {s : zS} {key a b c d : Int} (hT : σ[id]? = some (rtO L)) (hG : σ[id2]? = some (rlO G)) (hl0 : L.length ≤ 1048576) (hg : G.length ≤ 1073741824) {K : KT}
  (hK : K (.d (.bool (ziR L G s key a b c d))) σ) :
  zy Tryz.prog zhn [.box id 0, .box id2 0, .agg [.d (.int .i64 s.key), .d (.int .i64 s.dig)], .d (.int .i64 key), .d (.int .i64 a), .d (.int .i64 b), .d (.int .i64 c), .d (.int .i64 d)] σ K := by
 refine zi zlu.is rfl fun hl _ => zlu.goes ?_
 simp only [zlO,iN,bT,bF,eN]
 (repeat' first | refine gq1 ?_ | with_reducible first | exact ⟨⟩ | refine zg ?_ | fail)
 refine c_raMay ?_
 cases hm : zrA a b c d
 ·rw [ziR,hm,Bool.false_and] at hK
  (repeat' first | refine gq1 ?_ | with_reducible first | exact ⟨⟩ | refine zg ?_ | fail)
  (first | refine zX hl ?_ | refine zW hl ?_)
  exact hK
 ·rw [ziR,hm,Bool.true_and] at hK
  (repeat' first | refine gq1 ?_ | with_reducible first | exact ⟨⟩ | refine zg ?_ | fail)
  refine zon hm ?_
  (repeat' first | refine gq1 ?_ | with_reducible first | exact ⟨⟩ | refine zg ?_ | fail)
  refine c_raSigned (s := s) (zf hT) (zf hG) hl0 hg ?_
  (repeat' first | refine gq1 ?_ | with_reducible first | exact ⟨⟩ | refine zg ?_ | fail)
  (first | refine zX hl ?_ | refine zW hl ?_)
  exact hK
end Go.Proofs.YtncpaekiidpchaaGreat

/- Checkpoints' certificates: which are valid. No program in sight. -/
namespace Go.AW
def zia (f seq d key : Int) : Bool := decide (seq ≥ 1) && (decide (seq ≤ 9007199254740992) && ((seq.tmod 4 == 0) && (decide (d ≥ 1) && (decide (d ≤ 9007199254740992) && (decide (key ≥ 0) && decide (key < zdp 3 f))))))
def zoS (c : zfk) : Bool := (c.seq == 0) && ((c.dig == 0) && ((c.signs.length : Int) == 0))
def zvm (f seq d : Int) : Option zS → List zS → Bool
 | _, [] => true
 | p,s :: r => zia f seq d s.key && ((match p with | some q => !(decide (s.key ≤ q.key)) | none => true) && zvm f seq d (some s) r)
def zdk (f : Int) (c : zfk) : Bool := zoS c || (decide ((c.signs.length : Int) ≥ zdp 2 f) && zvm f c.seq c.dig none c.signs)
def zlG (L : List (List UInt8)) (G : List zS) (f : Int) (c : zfk) : Bool := decide (zdd f = 0) && (zdk f c && c.signs.all fun s => ziR L G s s.key 6 0 c.seq c.dig)
theorem ztA {f seq d : Int} {p : Option zS} {l : List zS} {k : Nat} {s : zS} (h : l[k]? = some s) : zvm f seq d p (l.drop k) = (zia f seq d s.key && ((match p with | some q => !(decide (s.key ≤ q.key)) | none => true) && zvm f seq d (some s) (l.drop (k + 1)))) := by
 have hk : k < l.length := (List.getElem?_eq_some_iff.1 h).1
 rw [List.drop_eq_getElem_cons hk,(List.getElem?_eq_some_iff.1 h).2]
 rfl
def aheadS (l : List zS) : Nat → Option zS
 | 0 => none
 | k + 1 => l[k]?
end Go.AW

/- Contracts: votes, the document's. -/
import Derived.Test.YtfjommppajkpoaaGreatSpMake
import Derived.Test.YtfjommppajkpoaaGreatMk2
import Derived.Test.YtfjommppajkpoaaGreatAu1
set_option linter.all false
set_option maxRecDepth 100000
namespace Go.Proofs.YtfjommppajkpoaaGreat
open Go.AW
theorem zvm {σ : List zg} {x : Int} {K : KT} (hK : K (.d (.bool (zdd x))) σ) : zq Tryz.prog ziv [.d (.int .i64 x)] σ K := by
 refine zec e_r11_num fun hl => ?_
 have fin : ∀ z,zdd x = z → K (.d (.bool z)) σ := fun z h => h ▸ hK
 clear hK
 simp only [S_r11_num,iN,bT,bF,eN]
 cases h1 : decide (x ≥ 0)
 ·refine gq2 h1 ?_
  refine zK hl ?_
  exact fin _ (by simp at h1; simp [zdd]; omega)
 ·refine gq2 h1 ?_
  refine zK hl ?_
  exact fin _ (by simp at h1; simp [zdd]; omega)
theorem c_raMay {σ : List zg} {a b c d : Int} {K : KT} (hK : K (.d (.bool (zrb a b c d))) σ) :
  zq Tryz.prog znt [.d (.int .i64 a), .d (.int .i64 b), .d (.int .i64 c), .d (.int .i64 d)] σ K := by
 refine acE4 e_r11_may fun hl => ?_
 have fin : ∀ z,zrb a b c d = z → K (.d (.bool z)) σ := fun z h => h ▸ hK
 clear hK
 simp only [S_r11_may,iN,bT,bF,eN]
 refine gq1 ?_
 refine zvm ?_
 cases h1 : zdd a
 ·refine gq1 ?_
  refine zK hl ?_
  exact fin _ (by simp [zrb,h1])
 refine gq1 ?_
 refine zvm ?_
 cases h2 : zdd b
 ·refine gq1 ?_
  refine zK hl ?_
  exact fin _ (by simp [zrb,h1,h2])
 refine gq1 ?_
 refine zvm ?_
 cases h3 : zdd c
 ·refine gq1 ?_
  refine zK hl ?_
  exact fin _ (by simp [zrb,h1,h2,h3])
 refine gq1 ?_
 refine zvm ?_
 refine gq1 ?_
 refine zK hl ?_
 exact fin _ (by simp [zrb,h1,h2,h3])
theorem zvl {σ : List zg} {b : List UInt8} {x : Int} (hb : b.length ≤ 1000000) (h0 : 0 ≤ x) (h1 : x ≤ 9007199254740992) {K : KT} (hK : K (.d (.slice (bcs (b ++ zcn x.toNat)))) σ) :
  zq Tryz.prog ziu [.d (.slice (bcs b)), .d (.int .i64 x)] σ K := by
 refine zga e_r11_put fun hl => ?_
 have hm1 : (if 0 > x then 0 else x) = x := by split <;> omega
 have hm2 : (if x < 0 then 0 else x) = x := by split <;> omega
 have hw : IntKind.u64.wrap x = ((x.toNat : Nat) : Int) := by
  rw [show x = ((x.toNat : Nat) : Int) by omega,zci (by omega)]; rfl
 simp only [S_r11_put,iN,bT,bF,eN]
 refine gq2 (zc hm1 (zc hm2 hw)) ?_
 refine zcx (by omega) (by omega) ?_
 refine gq1 ?_
 refine zK hl ?_
 exact hK
theorem znP {σ : List zg} {a b c d : Int} (h : zrb a b c d = true) {K : KT} (hK : K (.d (.slice (bcs (zka a b c d)))) σ) :
  zq Tryz.prog zeM [.d (.int .i64 a), .d (.int .i64 b), .d (.int .i64 c), .d (.int .i64 d)] σ K := by
 refine acE4 zrs fun hl => ?_
 simp only [zrb,Bool.and_eq_true,znr] at h
 obtain ⟨⟨a0,a1⟩,⟨b0,b1⟩,⟨c0,c1⟩,⟨d0,d1⟩⟩ := h
 have l1 := zt (n := a.toNat) (by omega)
 have l2 := zt (n := b.toNat) (by omega)
 have l3 := zt (n := c.toNat) (by omega)
 simp only [zld,iN,bT,bF,eN]
 refine gq1 ?_
 refine zvl (b := [4]) (by simp) a0 a1 ?_
 obtain ⟨B1,hB1⟩ : ∃ B, [4] ++ zcn a.toNat = B := ⟨_,rfl⟩
 have n1 : B1.length ≤ 11 := by rw [← hB1]; simp; omega
 rw [hB1]
 refine gq1 ?_
 refine zvl (by omega) b0 b1 ?_
 obtain ⟨B2,hB2⟩ : ∃ B,B1 ++ zcn b.toNat = B := ⟨_,rfl⟩
 have n2 : B2.length ≤ 21 := by rw [← hB2]; simp; omega
 rw [hB2]
 refine gq1 ?_
 refine zvl (by omega) c0 c1 ?_
 obtain ⟨B3,hB3⟩ : ∃ B,B2 ++ zcn c.toNat = B := ⟨_,rfl⟩
 have n3 : B3.length ≤ 31 := by rw [← hB3]; simp; omega
 rw [hB3]
 refine gq1 ?_
 refine zvl (by omega) d0 d1 ?_
 refine gq1 ?_
 refine zK hl ?_
 rw [show B3 ++ zcn d.toNat = zka a b c d by rw [← hB3, ← hB2, ← hB1]; simp [zka,zgK]]
 exact hK
def sgnE (L : List (List UInt8)) (key : Int) (b : List UInt8) : Int := if zee L b = 0 then 6 else zeJ key (zee L b)
def sgnS (L : List (List UInt8)) (key : Int) (b : List UInt8) : zI := if zee L b = 0 then ⟨0, 0⟩ else signR key (zee L b)
def sgnG (L : List (List UInt8)) (G : List zI) (key : Int) (b : List UInt8) : List zI := if zee L b = 0 then G else zgI G key (zee L b)
theorem c_raSign {σ : List zg} {id id2 : Nat} {L : List (List UInt8)} {G : List zI} {key : Int} {b : List UInt8} (hT : σ[id]? = some (rtO L)) (hG : σ[id2]? = some (rlO G)) (h1 : id ≠ id2) (hbl : b.length ≤ 1073741824) (hl0 : L.length ≤ 1048576) (hg : G.length ≤ 1073741824)
  {K : KT}
  (hK : K (.tup [zut (sgnS L key b), .d (.int .i64 (sgnE L key b))]) ((σ.set id (rtO (zfe L b))).set id2 (rlO (sgnG L G key b)))) :
  zq Tryz.prog zoG [.box id 0, .box id2 0, .d (.int .i64 key), .d (.slice (bcs b))] σ K := by
 refine acE4 e_r11_sign fun hl => ?_
 simp only [ztZ,iN,bT,bF,eN]
 refine gq1 ?_
 refine zjC (zf hT) hbl hl0 ?_
 rw [zbz hT]
 have hl1 : zdY σ.length (σ.set id (rtO (zfe L b))) := hl.setO (zfn _ _)
 have hs1 : (σ.set id (rtO (zfe L b))).length = σ.length := by simp
 have hG1 : (σ.set id (rtO (zfe L b)))[id2]? = some (rlO G) := by rw [List.getElem?_set_ne h1]; exact hG
 obtain ⟨S1,hS1⟩ : ∃ S1, σ.set id (rtO (zfe L b)) = S1 := ⟨_,rfl⟩
 rw [hS1] at hK hG1 hs1 hl1 ⊢
 have r1 : σ.length = S1.length := hs1.symm
 rw [r1] at hl1
 by_cases hz : zee L b = 0
 ·have hq : (zee L b == 0) = true := by simpa using hz
  simp only [sgnE,sgnS,sgnG,if_pos hz,zut] at hK
  rw [zby hG1] at hK
  refine gq2 (zc hq r1) ?_
  refine zcY rfl ?_ hl1 ?_
  ·simp [zcO,dmT,dm,dm1,zbY,zbf,zdZ]
  ·exact hK
 ·have hq : (zee L b == 0) = false := by simpa using hz
  simp only [sgnE,sgnS,sgnG,if_neg hz] at hK
  refine gq2 (zc hq r1) ?_
  refine c_rgSign (zf hG1) hg ?_
  rw [zbz hG1]
  have hl2 : zdY S1.length (S1.set id2 (rlO (zgI G key (zee L b)))) := hl1.setO (rlO_low _ _)
  have hs2 : (S1.set id2 (rlO (zgI G key (zee L b)))).length = S1.length := by simp
  obtain ⟨S2,hS2⟩ : ∃ S2,S1.set id2 (rlO (zgI G key (zee L b))) = S2 := ⟨_,rfl⟩
  rw [hS2] at hK hs2 hl2 ⊢
  have r3 : S1.length = S2.length := hs2.symm
  have r2 : σ.length = S2.length := r1.trans r3
  rw [r3] at hl2
  simp only [zut] at hK ⊢
  refine gq2 (zc r2 r3) ?_
  refine zcY rfl ?_ hl2 ?_
  ·simp [zcO,dmT,dm,dm1,zbY,zbf,zdZ]
  ·exact hK
def votE (L : List (List UInt8)) (key a b c d : Int) : Int := if zrb a b c d = true then sgnE L key (zka a b c d) else 1
def votS (L : List (List UInt8)) (key a b c d : Int) : zI := if zrb a b c d = true then sgnS L key (zka a b c d) else ⟨0, 0⟩
def votL (L : List (List UInt8)) (a b c d : Int) : List (List UInt8) := if zrb a b c d = true then zfe L (zka a b c d) else L
def votG (L : List (List UInt8)) (G : List zI) (key a b c d : Int) : List zI := if zrb a b c d = true then sgnG L G key (zka a b c d) else G
theorem c_raVote {σ : List zg} {id id2 : Nat} {L : List (List UInt8)} {G : List zI} {key a b c d : Int} (hT : σ[id]? = some (rtO L)) (hG : σ[id2]? = some (rlO G)) (h1 : id ≠ id2) (hl0 : L.length ≤ 1048576) (hg : G.length ≤ 1073741824)
  {K : KT}
  (hK : K (.tup [zut (votS L key a b c d), .d (.int .i64 (votE L key a b c d))]) ((σ.set id (rtO (votL L a b c d))).set id2 (rlO (votG L G key a b c d)))) :
  zq Tryz.prog ziw [.box id 0, .box id2 0, .d (.int .i64 key), .d (.int .i64 a), .d (.int .i64 b), .d (.int .i64 c), .d (.int .i64 d)] σ K := by
 refine acE7 e_r11_Vote fun hl => ?_
 simp only [zua,iN,bT,bF,eN]
 refine gq1 ?_
 refine c_raMay ?_
 cases hm : zrb a b c d
 ·simp only [votS,votE,votL,votG,hm,Bool.false_eq_true,if_false,zut] at hK
  rw [zby hT,zby hG] at hK
  refine gq1 ?_
  refine zK hl ?_
  exact hK
 ·simp only [votS,votE,votL,votG,hm,if_true] at hK
  have hbl := voteB_len hm
  refine gq1 ?_
  refine znP hm ?_
  refine gq1 ?_
  refine c_raSign (zf hT) (zf hG) h1 (by omega) hl0 hg ?_
  rw [zbz hT,zbz (by rw [List.getElem?_set_ne h1]; exact hG)]
  have hl2 : zdY σ.length ((σ.set id (rtO (zfe L (zka a b c d)))).set id2 (rlO (sgnG L G key (zka a b c d)))) := (hl.setO (zfn _ _)).setO (rlO_low _ _)
  have hs2 : ((σ.set id (rtO (zfe L (zka a b c d)))).set id2 (rlO (sgnG L G key (zka a b c d)))).length = σ.length := by simp
  obtain ⟨S2,hS2⟩ : ∃ S2,(σ.set id (rtO (zfe L (zka a b c d)))).set id2 (rlO (sgnG L G key (zka a b c d))) = S2 := ⟨_,rfl⟩
  rw [hS2] at hK hs2 hl2 ⊢
  have r3 : σ.length = S2.length := hs2.symm
  rw [r3] at hl2
  simp only [zut] at hK ⊢
  refine gq2 r3 ?_
  refine zcY rfl ?_ hl2 ?_
  ·simp [zcO,dmT,dm,dm1,zbY,zbf,zdZ]
  ·exact hK
abbrev prepA (p : TPrep) : AV := .agg [.d (.int .i64 p.view), .d (.int .i64 p.seq), .d (.int .i64 p.dig), .d (.int .i64 p.fkey), .d (.int .i64 p.fdig), .d (.slice (zas p.signs)), .d (.slice (zjL p.batch))]
structure smallP (p : TPrep) : Prop where
 ops : ∀ x ∈ p.batch,zmd x.op ≤ 20971520
 batch : p.batch.length ≤ 1073741824
 signs : p.signs.length ≤ 1073741824
theorem gq32 {A P Q : Prop} (a : A) (h : Q) (e : A → Hd Q → P := by intro a h; (repeat' first | simp -dsimp only [↓zgr, ↓zaF, ↓zbL, ↓zgt, ↓zgn, ↓zgl, ↓zgo, ↓zgm, ↓zbR, ↓zbN, ↓zbS, ↓zbO, ↓zgp, ↓zbJ, ↓zbT, ↓zbP, ↓zbU, ↓zbQ, ↓zgj, ↓zgq, ↓zbI, ↓zbX, ↓zgc, ↓zgb, ↓zgi,iN,bT,bF,eN, ↓zdN, ↓unC, ↓zac, ↓zQ, ↓zR, ↓zV, ↓zak, ↓zau, ↓zco, ↓zag, ↓zaJ, ↓zW, ↓zp, ↓zo, ↓zbF, ↓zl, ↓zan, ↓zF, ↓zaM, ↓zaW, ↓ze, ↓zC, ↓zu, ↓zy, ↓zav, ↓zdr, ↓zdU, ↓zat, ↓zaB, ↓zaU, ↓zbk, ↓zbv, ↓zD, ↓zaq, ↓zS, ↓zE, ↓zam,zeb,zbD,zbB,unA,zei,bnd,zeF,zai,zP,zeE,dm,dm1,zB,zal,zfg,zff,zx,Q0,Q1,Q2,Q3,Q4,Q5,zZ,zh,zm,zT,zN,Q6,Q7,Q8,Q9,Q10,Q11,Q12,Q13,Q14,Nat.reduceAdd,Q15,Int.reduceToNat,Q16,Q17,Q18,Q19,Q20,reduceIte,Q21,Q22,zH,rep,zX,zfc,toD,zah,Q23,Q24,Q25,Q26,Q27,Q28,Nat.reduceLeDiff,Q29,Nat.reduceSub,Q30,Q31,Q32,sc,Q33,Q34,Q35,Q36,Q37,Q26,Q38,Q39,zkn,zkk,zkh,zko,zdu,zkl,zki,zkm,zkj,zdt,zdv,zkp,zkq,Bool.not_true,Bool.not_false,List.length_map,Bool.and_false,Bool.and_self,Bool.false_and,Bool.not_false,Bool.not_true,Bool.true_and,Int.toNat_natCast,Int.toNat_zero,List.drop_zero,List.length_map,List.length_nil,List.nil_append,List.take_length,Nat.sub_zero,Nat.zero_add,Option.isSome_none,Option.isSome_some,Option.map_none,Option.map_some,zaH,beq_self_eq_true,bne_self_eq_false,a] | with_reducible refine zkr ?_ | fail); exact h.go) : P := e a ⟨h⟩
theorem c_raSigned {σ : List zg} {id id2 : Nat} {L : List (List UInt8)} {G : List zI} {s : zI} {key : Int} {b : List UInt8} (hT : σ[id]? = some (rtO L)) (hG : σ[id2]? = some (rlO G)) (hl0 : L.length ≤ 1048576) (hg : G.length ≤ 1073741824) {K : KT}
  (hK : K (.d (.bool (zfm L G s key b))) σ) : zq Tryz.prog zkC [.box id 0, .box id2 0, .agg [.d (.int .i64 s.key), .d (.int .i64 s.dig)], .d (.int .i64 key), .d (.slice (bcs b))] σ K := by
 refine acE5 e_r11_signed fun hl => ?_
 simp only [zpJ,iN,bT,bF,eN]
 refine gq1 ?_
 refine zjD (zf hT) hl0 ?_
 have fin : ∀ z,zfm L G s key b = z → K (.d (.bool z)) σ := fun z h => h ▸ hK
 clear hK
 cases hlk : zcN L b with
 | none =>
  refine gq5 ?_
  refine zK hl ?_
  exact fin _ (by simp [zfm,hlk])
 | some i =>
  simp only [zji]
  cases h1 : (s.key == key)
  ·refine gq32 h1 ?_
   refine zK hl ?_
   exact fin _ (by simp at h1; simp [zfm,hlk,h1])
  ·cases h2 : (s.dig == ((i + 1 : Nat) : Int))
   ·refine gq32 (zc h1 h2) ?_
    refine zK hl ?_
    exact fin _ (by simp at h1 h2; simp [zfm,hlk,h1]; omega)
   ·refine gq32 (zc h1 h2) ?_
    refine ztM (s := s) (zf hG) hg ?_
    refine gq1 ?_
    refine zK hl ?_
    exact fin _ (by simp at h1 h2; simp [zfm,hlk,h1,h2])
theorem zvk {σ : List zg} {id id2 : Nat} {L : List (List UInt8)} {G : List zI} {s : zI} {key a b c d : Int} (hT : σ[id]? = some (rtO L)) (hG : σ[id2]? = some (rlO G)) (hl0 : L.length ≤ 1048576) (hg : G.length ≤ 1073741824) {K : KT}
  (hK : K (.d (.bool (zin L G s key a b c d))) σ) :
  zq Tryz.prog zhg [.box id 0, .box id2 0, .agg [.d (.int .i64 s.key), .d (.int .i64 s.dig)], .d (.int .i64 key), .d (.int .i64 a), .d (.int .i64 b), .d (.int .i64 c), .d (.int .i64 d)] σ K := by
 refine acE8 zrt fun hl => ?_
 simp only [zle,iN,bT,bF,eN]
 refine gq1 ?_
 refine c_raMay ?_
 cases hm : zrb a b c d
 ·rw [zin,hm,Bool.false_and] at hK
  refine gq1 ?_
  refine zK hl ?_
  exact hK
 ·rw [zin,hm,Bool.true_and] at hK
  refine gq1 ?_
  refine znP hm ?_
  refine gq1 ?_
  refine c_raSigned (s := s) (zf hT) (zf hG) hl0 hg ?_
  refine gq1 ?_
  refine zK hl ?_
  exact hK
end Go.Proofs.YtfjommppajkpoaaGreat

/- Checkpoints' certificates: which are valid. No program in sight. -/
namespace Go.AW
def zhI (f seq d key : Int) : Bool := decide (seq ≥ 1) && (decide (seq ≤ 9007199254740992) && ((seq.tmod 4 == 0) && (decide (d ≥ 1) && (decide (d ≤ 9007199254740992) && (decide (key ≥ 0) && decide (key < zdc 3 f))))))
def zos (c : zfV) : Bool := (c.seq == 0) && ((c.dig == 0) && ((c.signs.length : Int) == 0))
def zuD (f seq d : Int) : Option zI → List zI → Bool
 | _, [] => true
 | p,s :: r => zhI f seq d s.key && ((match p with | some q => !(decide (s.key ≤ q.key)) | none => true) && zuD f seq d (some s) r)
def zcX (f : Int) (c : zfV) : Bool := zos c || (decide ((c.signs.length : Int) ≥ zdc 2 f) && zuD f c.seq c.dig none c.signs)
def zkX (L : List (List UInt8)) (G : List zI) (f : Int) (c : zfV) : Bool := decide (zcQ f = 0) && (zcX f c && c.signs.all fun s => zin L G s s.key 6 0 c.seq c.dig)
theorem ztj {f seq d : Int} {p : Option zI} {l : List zI} {k : Nat} {s : zI} (h : l[k]? = some s) : zuD f seq d p (l.drop k) = (zhI f seq d s.key && ((match p with | some q => !(decide (s.key ≤ q.key)) | none => true) && zuD f seq d (some s) (l.drop (k + 1)))) := by
 have hk : k < l.length := (List.getElem?_eq_some_iff.1 h).1
 rw [List.drop_eq_getElem_cons hk,(List.getElem?_eq_some_iff.1 h).2]
 rfl
def aheadS (l : List zI) : Nat → Option zI
 | 0 => none
 | k + 1 => l[k]?
end Go.AW

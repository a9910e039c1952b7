/- Contracts: where a list is parted, how long a proof is, leaves and nodes, on both sides. -/
import Derived.Test.YtfgbofkdhfjegaaGreatId4
import Derived.Test.YtfgbofkdhfjegaaGreatCodec1
import Derived.Test.YtfgbofkdhfjegaaGreatSpUtf
set_option linter.all false
set_option maxRecDepth 100000
namespace Go.Proofs.YtfgbofkdhfjegaaGreat
open Go.AW
theorem c_mkSplit {σ : List zh} {n : Nat} (hn : n ≤ 4611686018427387904) {K : KT} (hK : K (.d (.int .i64 (zm n : Nat))) σ) : zp Tryz.prog zgW [.d (.int .i64 n)] σ K := by
 refine zeW zuc fun hl => ?_
 have fin : ∀ z,zm n = z → K (.d (.int .i64 (z : Nat))) σ := fun z h => h ▸ hK
 clear hK
 simp only [znQ,iN,bT,bF,eN]
 by_cases h : n < 2
 ·have hd : decide ((n : Int) < 2) = true := by simp; omega
  refine gq2 hd ?_
  refine zT hl ?_
  exact fin 0 (if_pos h)
 ·have hd : decide ((n : Int) < 2) = false := by simp; omega
  refine gq2 hd ?_
  refine zr n (fun j vs s => s = σ ∧ ∃ k : Nat,vs = [.d (.int .i64 k)] ∧ 1 ≤ k ∧ k < n ∧ j ≤ k ∧ zm n = zii n k n) ⟨rfl, 1,rfl,by omega,by omega,by omega,if_neg h⟩ ?_
  rintro j vs s hj ⟨rfl,k,rfl,hk1,hk2,hjk,hsp⟩
  have hw1 : IntKind.i64.wrap ((n : Int) - (k : Int)) = ((n - k : Nat) : Int) := by rw [zac (by omega) (by omega)]; omega
  by_cases hlt : k < n - k
  ·have hd2 : decide ((k : Int) < ((n - k : Nat) : Int)) = true := by simp; omega
   have hw2 : IntKind.i64.wrap ((k : Int) * 2) = ((k * 2 : Nat) : Int) := by rw [zac (by omega) (by omega)]; omega
   refine gq2 (zf hw1 (zf hd2 hw2)) ?_
   refine zaG.to (j + 1) (by omega) (by omega) ⟨rfl,k * 2,rfl,by omega,by omega,by omega, ?_⟩
   rw [hsp,znT n k n hk1 (by omega) hlt]
  ·have hd2 : decide ((k : Int) < ((n - k : Nat) : Int)) = false := by simp; omega
   refine gq2 (zf hw1 hd2) ?_
   refine zT hl ?_
   exact fin k (by rw [hsp,zkI _ _ _ hlt])
theorem c_r5Split {σ : List zh} {n : Nat} (hn : n ≤ 4611686018427387904) {K : KT} (hK : K (.d (.int .i64 (zm n : Nat))) σ) : zp Tryz.prog zkW [.d (.int .i64 n)] σ K := by
 refine zeW e_r05_Split fun hl => ?_
 have fin : ∀ z,zm n = z → K (.d (.int .i64 (z : Nat))) σ := fun z h => h ▸ hK
 clear hK
 simp only [ztC,iN,bT,bF,eN]
 by_cases h : n < 2
 ·have hd : decide ((n : Int) < 2) = true := by simp; omega
  refine gq2 hd ?_
  refine zT hl ?_
  exact fin 0 (if_pos h)
 ·have hd : decide ((n : Int) < 2) = false := by simp; omega
  refine gq2 hd ?_
  refine zr n (fun j vs s => s = σ ∧ ∃ k : Nat,vs = [.d (.int .i64 k)] ∧ 1 ≤ k ∧ k < n ∧ j ≤ k ∧ zm n = zii n k n) ⟨rfl, 1,rfl,by omega,by omega,by omega,if_neg h⟩ ?_
  rintro j vs s hj ⟨rfl,k,rfl,hk1,hk2,hjk,hsp⟩
  have hw1 : IntKind.i64.wrap ((n : Int) - (k : Int)) = ((n - k : Nat) : Int) := by rw [zac (by omega) (by omega)]; omega
  by_cases hlt : k < n - k
  ·have hd2 : decide ((k : Int) < ((n - k : Nat) : Int)) = true := by simp; omega
   have hw2 : IntKind.i64.wrap ((k : Int) * 2) = ((k * 2 : Nat) : Int) := by rw [zac (by omega) (by omega)]; omega
   refine gq2 (zf hw1 (zf hd2 hw2)) ?_
   refine zaG.to (j + 1) (by omega) (by omega) ⟨rfl,k * 2,rfl,by omega,by omega,by omega, ?_⟩
   rw [hsp,znT n k n hk1 (by omega) hlt]
  ·have hd2 : decide ((k : Int) < ((n - k : Nat) : Int)) = false := by simp; omega
   refine gq2 (zf hw1 hd2) ?_
   refine zT hl ?_
   exact fin k (by rw [hsp,zkI _ _ _ hlt])
def zml (i n : Int) : Int := if i < 0 ∨ i ≥ n then 0 else zfx i.toNat n.toNat
theorem c_mkLength {σ : List zh} {i n : Int} (hn : n ≤ 4611686018427387904) {K : KT} (hK : K (.d (.int .i64 (zml i n))) σ) : zp Tryz.prog zis [.d (.int .i64 i), .d (.int .i64 n)] σ K := by
 refine zfY zsW fun hl => ?_
 have fin : ∀ z,zml i n = z → K (.d (.int .i64 z)) σ := fun z h => h ▸ hK
 clear hK
 simp only [zmK,iN,bT,bF,eN]
 cases h1 : decide (i < 0)
 rotate_left
 ·refine gq2 h1 ?_
  refine zT hl ?_
  exact fin 0 (if_pos (.inl (by simpa using h1)))
 cases h2 : decide (i ≥ n)
 rotate_left
 ·refine gq2 (zf h1 h2) ?_
  refine zT hl ?_
  exact fin 0 (if_pos (.inr (by simpa using h2)))
 simp only [decide_eq_false_iff_not] at h1 h2
 refine gq2 (zf (decide_eq_false h1) (decide_eq_false h2)) ?_
 have hli : zml i n = zfx i.toNat n.toNat := if_neg (by omega)
 refine zr n.toNat (fun j vs s => s = σ ∧ ∃ (a b m : Nat),vs = [.d (.int .i64 a), .d (.int .i64 b), .d (.int .i64 m)] ∧ a < b ∧ b + j ≤ n.toNat ∧ zfx i.toNat n.toNat = zfx a b + m ∧ m = j)
  ⟨rfl,i.toNat,n.toNat, 0,by rw [show ((i.toNat : Nat) : Int) = i by omega,show ((n.toNat : Nat) : Int) = n by omega]; rfl,by omega,by omega,by omega,rfl⟩ ?_
 rintro j vs s hj ⟨rfl,a,b,m,rfl,hab,hbj,hle,rfl⟩
 by_cases hlt : 1 < b
 ·have hd : decide ((b : Int) > 1) = true := by simp; omega
  have hs := zcL (n := b) (by omega)
  rw [zpb (i := a) (n := b) (by omega)] at hle
  refine gq2 hd ?_
  refine c_mkSplit (by omega) ?_
  by_cases hc : a < zm b
  ·have hd2 : decide ((a : Int) < ((zm b : Nat) : Int)) = true := by simp; omega
   have hw3 : IntKind.i64.wrap ((m : Int) + 1) = ((m + 1 : Nat) : Int) := by rw [zac (by omega) (by omega)]; rfl
   rw [if_pos hc] at hle
   refine gq2 (zf hd2 hw3) ?_
   exact zaG.to (m + 1) (by omega) (by omega) ⟨rfl,a,zm b,m + 1,rfl,hc,by omega,by omega,rfl⟩
  ·have hd2 : decide ((a : Int) < ((zm b : Nat) : Int)) = false := by simp; omega
   have hw3 : IntKind.i64.wrap ((m : Int) + 1) = ((m + 1 : Nat) : Int) := by rw [zac (by omega) (by omega)]; rfl
   have hw1 : IntKind.i64.wrap ((a : Int) - ((zm b : Nat) : Int)) = ((a - zm b : Nat) : Int) := by rw [zac (by omega) (by omega)]; omega
   have hw2 : IntKind.i64.wrap ((b : Int) - ((zm b : Nat) : Int)) = ((b - zm b : Nat) : Int) := by rw [zac (by omega) (by omega)]; omega
   rw [if_neg hc] at hle
   refine gq2 (zf hd2 (zf hw1 (zf hw2 hw3))) ?_
   exact zaG.to (m + 1) (by omega) (by omega) ⟨rfl,a - zm b,b - zm b,m + 1,rfl,by omega,by omega,by omega,rfl⟩
 ·have hd : decide ((b : Int) > 1) = false := by simp; omega
  rw [zsw (i := a) (n := b) (by omega)] at hle
  refine gq2 hd ?_
  refine zT hl ?_
  exact fin m (by rw [hli]; omega)
theorem c_mkleaf {σ : List zh} {b : List UInt8} (hb : b.length ≤ 1073741000) {K : KT} (hK : K (.d (.slice (bcs (zoh b)))) σ) : zp Tryz.prog zla [.d (.slice (bcs b))] σ K := by
 refine zeW zwd fun hl => ?_
 have hlen := zaH b
 have h1 := zfz (bs := b)
 simp only [zpI,iN,bT,bF,eN]
 refine gq2 hlen ?_
 refine zT hl ?_
 exact hK
theorem c_r5leaf {σ : List zh} {b : List UInt8} (hb : b.length ≤ 1073741000) {K : KT} (hK : K (.d (.slice (bcs (zoh b)))) σ) : zp Tryz.prog zqe [.d (.slice (bcs b))] σ K := by
 refine zeW e_r05_leaf fun hl => ?_
 have hlen := zaH b
 have h1 := zfz (bs := b)
 simp only [zvr,iN,bT,bF,eN]
 refine gq2 hlen ?_
 refine zT hl ?_
 exact hK
theorem maxn (x : Int) : (if 0 > x then 0 else x) = ((x.toNat : Nat) : Int) ∧ (if x > 0 then x else 0) = ((x.toNat : Nat) : Int) := by
 constructor <;> split <;> omega
theorem gq15 {A P Q : Prop} (a : A) (h : Q) (e : A → Hd Q → P := by intro a h; (repeat' first | simp -dsimp only [↓zfT, ↓zaI, ↓zbP, ↓zfV, ↓zfN, ↓zfL, ↓zfO, ↓zfM, ↓zbU, ↓zbQ, ↓zbV, ↓zbR, ↓zfP, ↓zbN, ↓zbW, ↓zbS, ↓zbX, ↓zbT, ↓zfK, ↓zfQ, ↓zbM, ↓zbY, ↓zfF, ↓zfE, ↓zfH,iN,bT,bF,eN, ↓zcJ, ↓unC, ↓zaa, ↓zK, ↓zL, ↓zO, ↓zaf, ↓zaz, ↓zcK, ↓zar, ↓zbk, ↓zR, ↓zo, ↓zj, ↓zbz, ↓zg, ↓zam, ↓zH, ↓zaV, ↓zbc, ↓ze, ↓zB, ↓zu, ↓zC, ↓zap, ↓zdk, ↓zdO, ↓zav, ↓zaF, ↓zaZ, ↓zbj, ↓zbt, ↓zA, ↓zas, ↓zM, ↓zF, ↓zae,zdP,zbI,zbC,unA,zdL,bnd,zeq,zag,zQ,zek,dm,dm1,zD,zak,zeP,zeO,zP,Q0,Q1,Q2,Q3,Q4,Q5,zW,zt,zy,zN,zJ,Q6,Q7,Q8,Q9,Q10,Q11,Q12,Q13,Q14,Nat.reduceAdd,Q15,Int.reduceToNat,Q16,Q17,Q18,Q19,Q20,reduceIte,Q21,Q22,zG,rep,zab,zfq,toD,zaq,Q23,Q24,Q25,Q26,Q27,Q28,Nat.reduceLeDiff,Q29,Nat.reduceSub,Q30,Q31,Q32,sc,Q33,Q34,Q35,Q36,Q37,Q26,Q38,Q39,zjD,zjA,zjx,zjE,zdf,zjB,zjy,zjC,zjz,zde,zdg,zjG,zjH,Bool.not_true,Bool.not_false,List.length_map,m1,a] | with_reducible refine zjK ?_ | fail); exact h.go) : P := e a ⟨h⟩
theorem c_mknode {σ : List zh} {l r : Int} (hl1 : l ≤ 9223372036854775807) (hr1 : r ≤ 9223372036854775807) {K : KT} (hK : K (.d (.slice (bcs (zkN l r)))) σ) : zp Tryz.prog zhW [.d (.int .i64 l), .d (.int .i64 r)] σ K := by
 refine zfY zwc fun hl => ?_
 obtain ⟨m1,m2⟩ := maxn l
 obtain ⟨m3,m4⟩ := maxn r
 have hw1 : IntKind.u64.wrap ((l.toNat : Nat) : Int) = ((l.toNat : Nat) : Int) := zcQ (by omega)
 have hw2 : IntKind.u64.wrap ((r.toNat : Nat) : Int) = ((r.toNat : Nat) : Int) := zcQ (by omega)
 have n1 := zE (n := l.toNat) (by omega)
 simp only [zpH,iN,bT,bF,eN]
 refine gq15 (zf m2 hw1) ?_
 refine zlp (b := [1]) (by omega) (by simp) ?_
 refine gq2 (zf m3 (zf m4 hw2)) ?_
 refine zlp (b := 1 :: zcO l.toNat) (by omega) (by simp; omega) ?_
 refine gq1 ?_
 refine zT hl ?_
 exact hK
theorem c_r5node {σ : List zh} {l r : Int} (hl1 : l ≤ 9223372036854775807) (hr1 : r ≤ 9223372036854775807) {K : KT} (hK : K (.d (.slice (bcs (zkN l r)))) σ) : zp Tryz.prog zqd [.d (.int .i64 l), .d (.int .i64 r)] σ K := by
 refine zfY e_r05_node fun hl => ?_
 obtain ⟨m1,m2⟩ := maxn l
 obtain ⟨m3,m4⟩ := maxn r
 have hw1 : IntKind.u64.wrap ((l.toNat : Nat) : Int) = ((l.toNat : Nat) : Int) := zcQ (by omega)
 have hw2 : IntKind.u64.wrap ((r.toNat : Nat) : Int) = ((r.toNat : Nat) : Int) := zcQ (by omega)
 have n1 := zE (n := l.toNat) (by omega)
 simp only [zvq,iN,bT,bF,eN]
 refine gq15 (zf m2 hw1) ?_
 refine zcY (b := [1]) (by omega) (by simp) ?_
 refine gq2 (zf m3 (zf m4 hw2)) ?_
 refine zcY (b := 1 :: zcO l.toNat) (by omega) (by simp; omega) ?_
 refine gq1 ?_
 refine zT hl ?_
 exact hK
end Go.Proofs.YtfgbofkdhfjegaaGreat

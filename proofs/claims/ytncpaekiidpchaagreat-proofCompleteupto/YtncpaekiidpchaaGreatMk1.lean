/- Contracts: where a list is parted, how long a proof is, leaves and nodes, on both sides. -/
import Derived.Test.YtncpaekiidpchaaGreatId4
import Derived.Test.YtncpaekiidpchaaGreatCodec1
import Derived.Test.YtncpaekiidpchaaGreatSpUtf
set_option linter.all false
set_option maxRecDepth 100000
namespace Go.Proofs.YtncpaekiidpchaaGreat
open Go.AW
theorem znJ {σ : List zg} {n : Nat} (hn : n ≤ 4611686018427387904) {K : KT} (hK : K (.d (.int .i64 (zi n : Nat))) σ) : zD Tryz.prog zdo [.d (.int .i64 n)] σ K := by
 refine zj zlV.is rfl fun hl _ => zlV.goes ?_
 have fin : ∀ z,zi n = z → K (.d (.int .i64 (z : Nat))) σ := fun z h => h ▸ hK
 clear hK
 simp only [zmj,iN,bT,bF,eN]
 by_cases h : n < 2
 ·have hd : decide ((n : Int) < 2) = true := by simp; omega
  (repeat' first | refine gq2 hd ?_ | with_reducible first | exact ⟨⟩ | refine zh ?_ | fail)
  (first | refine zaq hl ?_ | refine zap hl ?_)
  exact fin 0 (if_pos h)
 ·have hd : decide ((n : Int) < 2) = false := by simp; omega
  (repeat' first | refine gq2 hd ?_ | with_reducible first | exact ⟨⟩ | refine zh ?_ | fail)
  refine zG n (fun j vs s => s = σ ∧ ∃ k : Nat,vs = [.d (.int .i64 k)] ∧ 1 ≤ k ∧ k < n ∧ j ≤ k ∧ zi n = zgO n k n) ⟨rfl, 1,rfl,by omega,by omega,by omega,if_neg h⟩ ?_
  rintro j vs s hj ⟨rfl,k,rfl,hk1,hk2,hjk,hsp⟩
  have hw1 : IntKind.i64.wrap ((n : Int) - (k : Int)) = ((n - k : Nat) : Int) := by rw [zX (by omega) (by omega)]; omega
  by_cases hlt : k < n - k
  ·have hd2 : decide ((k : Int) < ((n - k : Nat) : Int)) = true := by simp; omega
   have hw2 : IntKind.i64.wrap ((k : Int) * 2) = ((k * 2 : Nat) : Int) := by rw [zX (by omega) (by omega)]; omega
   (repeat' first | refine gq2 (zd hw1 (zd hd2 hw2)) ?_ | with_reducible first | exact ⟨⟩ | refine zh ?_ | fail)
   refine zav.to (j + 1) (by omega) (by omega) ⟨rfl,k * 2,rfl,by omega,by omega,by omega, ?_⟩
   rw [hsp,zmo n k n hk1 (by omega) hlt]
  ·have hd2 : decide ((k : Int) < ((n - k : Nat) : Int)) = false := by simp; omega
   (repeat' first | refine gq2 (zd hw1 hd2) ?_ | with_reducible first | exact ⟨⟩ | refine zh ?_ | fail)
   (first | refine zaq hl ?_ | refine zap hl ?_)
   exact fin k (by rw [hsp,zjg _ _ _ hlt])
theorem c_r5Split {σ : List zg} {n : Nat} (hn : n ≤ 4611686018427387904) {K : KT} (hK : K (.d (.int .i64 (zi n : Nat))) σ) : zD Tryz.prog zmx [.d (.int .i64 n)] σ K := by
 refine zj zrg.is rfl fun hl _ => zrg.goes ?_
 have fin : ∀ z,zi n = z → K (.d (.int .i64 (z : Nat))) σ := fun z h => h ▸ hK
 clear hK
 simp only [zrL,iN,bT,bF,eN]
 by_cases h : n < 2
 ·have hd : decide ((n : Int) < 2) = true := by simp; omega
  (repeat' first | refine gq2 hd ?_ | with_reducible first | exact ⟨⟩ | refine zh ?_ | fail)
  (first | refine zaq hl ?_ | refine zap hl ?_)
  exact fin 0 (if_pos h)
 ·have hd : decide ((n : Int) < 2) = false := by simp; omega
  (repeat' first | refine gq2 hd ?_ | with_reducible first | exact ⟨⟩ | refine zh ?_ | fail)
  refine zG n (fun j vs s => s = σ ∧ ∃ k : Nat,vs = [.d (.int .i64 k)] ∧ 1 ≤ k ∧ k < n ∧ j ≤ k ∧ zi n = zgO n k n) ⟨rfl, 1,rfl,by omega,by omega,by omega,if_neg h⟩ ?_
  rintro j vs s hj ⟨rfl,k,rfl,hk1,hk2,hjk,hsp⟩
  have hw1 : IntKind.i64.wrap ((n : Int) - (k : Int)) = ((n - k : Nat) : Int) := by rw [zX (by omega) (by omega)]; omega
  by_cases hlt : k < n - k
  ·have hd2 : decide ((k : Int) < ((n - k : Nat) : Int)) = true := by simp; omega
   have hw2 : IntKind.i64.wrap ((k : Int) * 2) = ((k * 2 : Nat) : Int) := by rw [zX (by omega) (by omega)]; omega
   (repeat' first | refine gq2 (zd hw1 (zd hd2 hw2)) ?_ | with_reducible first | exact ⟨⟩ | refine zh ?_ | fail)
   refine zav.to (j + 1) (by omega) (by omega) ⟨rfl,k * 2,rfl,by omega,by omega,by omega, ?_⟩
   rw [hsp,zmo n k n hk1 (by omega) hlt]
  ·have hd2 : decide ((k : Int) < ((n - k : Nat) : Int)) = false := by simp; omega
   (repeat' first | refine gq2 (zd hw1 hd2) ?_ | with_reducible first | exact ⟨⟩ | refine zh ?_ | fail)
   (first | refine zaq hl ?_ | refine zap hl ?_)
   exact fin k (by rw [hsp,zjg _ _ _ hlt])
def zkC (i n : Int) : Int := if i < 0 ∨ i ≥ n then 0 else zdU i.toNat n.toNat
theorem c_mkLength {σ : List zg} {i n : Int} (hn : n ≤ 4611686018427387904) {K : KT} (hK : K (.d (.int .i64 (zkC i n))) σ) : zD Tryz.prog zgY [.d (.int .i64 i), .d (.int .i64 n)] σ K := by
 refine zj zkP.is rfl fun hl _ => zkP.goes ?_
 have fin : ∀ z,zkC i n = z → K (.d (.int .i64 z)) σ := fun z h => h ▸ hK
 clear hK
 simp only [zlg,iN,bT,bF,eN]
 cases h1 : decide (i < 0)
 rotate_left
 ·(repeat' first | refine gq2 h1 ?_ | with_reducible first | exact ⟨⟩ | refine zh ?_ | fail)
  (first | refine zaq hl ?_ | refine zap hl ?_)
  exact fin 0 (if_pos (.inl (by simpa using h1)))
 cases h2 : decide (i ≥ n)
 rotate_left
 ·(repeat' first | refine gq2 (zd h1 h2) ?_ | with_reducible first | exact ⟨⟩ | refine zh ?_ | fail)
  (first | refine zaq hl ?_ | refine zap hl ?_)
  exact fin 0 (if_pos (.inr (by simpa using h2)))
 simp only [decide_eq_false_iff_not] at h1 h2
 (repeat' first | refine gq2 (zd (decide_eq_false h1) (decide_eq_false h2)) ?_ | with_reducible first | exact ⟨⟩ | refine zh ?_ | fail)
 have hli : zkC i n = zdU i.toNat n.toNat := if_neg (by omega)
 refine zG n.toNat (fun j vs s => s = σ ∧ ∃ (a b m : Nat),vs = [.d (.int .i64 a), .d (.int .i64 b), .d (.int .i64 m)] ∧ a < b ∧ b + j ≤ n.toNat ∧ zdU i.toNat n.toNat = zdU a b + m ∧ m = j)
  ⟨rfl,i.toNat,n.toNat, 0,by rw [show ((i.toNat : Nat) : Int) = i by omega,show ((n.toNat : Nat) : Int) = n by omega]; rfl,by omega,by omega,by omega,rfl⟩ ?_
 rintro j vs s hj ⟨rfl,a,b,m,rfl,hab,hbj,hle,rfl⟩
 by_cases hlt : 1 < b
 ·have hd : decide ((b : Int) > 1) = true := by simp; omega
  have hs := zbX (n := b) (by omega)
  rw [zni (i := a) (n := b) (by omega)] at hle
  (repeat' first | refine gq2 hd ?_ | with_reducible first | exact ⟨⟩ | refine zh ?_ | fail)
  refine znJ (by omega) ?_
  by_cases hc : a < zi b
  ·have hd2 : decide ((a : Int) < ((zi b : Nat) : Int)) = true := by simp; omega
   have hw3 : IntKind.i64.wrap ((m : Int) + 1) = ((m + 1 : Nat) : Int) := by rw [zX (by omega) (by omega)]; rfl
   rw [if_pos hc] at hle
   (repeat' first | refine gq2 (zd hd2 hw3) ?_ | with_reducible first | exact ⟨⟩ | refine zh ?_ | fail)
   exact zav.to (m + 1) (by omega) (by omega) ⟨rfl,a,zi b,m + 1,rfl,hc,by omega,by omega,rfl⟩
  ·have hd2 : decide ((a : Int) < ((zi b : Nat) : Int)) = false := by simp; omega
   have hw3 : IntKind.i64.wrap ((m : Int) + 1) = ((m + 1 : Nat) : Int) := by rw [zX (by omega) (by omega)]; rfl
   have hw1 : IntKind.i64.wrap ((a : Int) - ((zi b : Nat) : Int)) = ((a - zi b : Nat) : Int) := by rw [zX (by omega) (by omega)]; omega
   have hw2 : IntKind.i64.wrap ((b : Int) - ((zi b : Nat) : Int)) = ((b - zi b : Nat) : Int) := by rw [zX (by omega) (by omega)]; omega
   rw [if_neg hc] at hle
   (repeat' first | refine gq2 (zd hd2 (zd hw1 (zd hw2 hw3))) ?_ | with_reducible first | exact ⟨⟩ | refine zh ?_ | fail)
   exact zav.to (m + 1) (by omega) (by omega) ⟨rfl,a - zi b,b - zi b,m + 1,rfl,by omega,by omega,by omega,rfl⟩
 ·have hd : decide ((b : Int) > 1) = false := by simp; omega
  rw [zqJ (i := a) (n := b) (by omega)] at hle
  (repeat' first | refine gq2 hd ?_ | with_reducible first | exact ⟨⟩ | refine zh ?_ | fail)
  (first | refine zaq hl ?_ | refine zap hl ?_)
  exact fin m (by rw [hli]; omega)
theorem c_mkleaf {σ : List zg} {b : List UInt8} (hb : b.length ≤ 1073741000) {K : KT} (hK : K (.d (.slice (bcs (zkj b)))) σ) : zD Tryz.prog zgp [.d (.slice (bcs b))] σ K := by
 refine zj znz.is rfl fun hl _ => znz.goes ?_
 have hlen := zeJ b
 have h1 := zfS (bs := b)
 simp only [znX,iN,bT,bF,eN]
 (repeat' first | refine gq2 hlen ?_ | with_reducible first | exact ⟨⟩ | refine zh ?_ | fail)
 (first | refine zaq hl ?_ | refine zap hl ?_)
 exact hK
theorem c_r5leaf {σ : List zg} {b : List UInt8} (hb : b.length ≤ 1073741000) {K : KT} (hK : K (.d (.slice (bcs (zkj b)))) σ) : zD Tryz.prog zoB [.d (.slice (bcs b))] σ K := by
 refine zj zsX.is rfl fun hl _ => zsX.goes ?_
 have hlen := zeJ b
 have h1 := zfS (bs := b)
 simp only [ztB,iN,bT,bF,eN]
 (repeat' first | refine gq2 hlen ?_ | with_reducible first | exact ⟨⟩ | refine zh ?_ | fail)
 (first | refine zaq hl ?_ | refine zap hl ?_)
 exact hK
theorem maxn (x : Int) : (if 0 > x then 0 else x) = ((x.toNat : Nat) : Int) ∧ (if x > 0 then x else 0) = ((x.toNat : Nat) : Int) := by
 constructor <;> split <;> omega
theorem gq20 {A P Q : Prop} (a : A) (h : Q) (e : A → P = Q := by intro a; simp -dsimp only [↓zey, ↓zau, ↓zbj, ↓zeA, ↓zes, ↓zeq, ↓zet, ↓zer, ↓zbo, ↓zbk, ↓zbp, ↓zbl, ↓zeu, ↓zbi, ↓zbq, ↓zbm, ↓zbr, ↓zbn, ↓zep, ↓zew, ↓zbh, ↓zbs, ↓zeg, ↓zef, ↓zeo,iN,bT,bF,eN, ↓zcS, ↓unC, ↓zW, ↓zK, ↓zL, ↓zN, ↓zZ, ↓zaw, ↓zbT, ↓zag, ↓zbu, ↓zP, ↓zq, ↓zo, ↓zby, ↓zl, ↓zaf, ↓zH, ↓zaC, ↓zaG, ↓ze, ↓zC, ↓zt, ↓zw, ↓zan, ↓zcC, ↓zdb, ↓zal, ↓zat, ↓zaF, ↓zaP, ↓zaW, ↓zu, ↓zai, ↓zM, ↓zA, ↓zaa,zdi,zbd,zba,unA,zdk,bnd,zdw,zac,zS,zdy,dm,dm1,zB,zak,zdP,zdO,zQ,Q0,Q1,Q2,Q3,Q4,Q5,zR,zr,zy,zO,zI,Q6,Q7,Q8,Q9,Q10,Q11,Q12,Q13,Q14,Nat.reduceAdd,Q15,Int.reduceToNat,Q16,Q17,Q18,Q19,Q20,reduceIte,Q21,Q22,zE,rep,zV,zdG,toD,zab,Q23,Q24,Q25,Q26,Q27,Q28,Nat.reduceLeDiff,Q29,Nat.reduceSub,Q30,Q31,Q32,sc,Q33,Q34,Q35,Q36,Q37,Q26,Q38,Q39,zgH,zgE,zgB,zgI,zcf,zgF,zgC,zgG,zgD,zce,zcg,zgJ,zgK,Bool.not_true,Bool.not_false,List.length_map,m1,a]; rfl) : P := (e a).mpr h
theorem zuq {σ : List zg} {l r : Int} (hl1 : l ≤ 9223372036854775807) (hr1 : r ≤ 9223372036854775807) {K : KT} (hK : K (.d (.slice (bcs (zhB l r)))) σ) : zD Tryz.prog zeW [.d (.int .i64 l), .d (.int .i64 r)] σ K := by
 refine zj zny.is rfl fun hl _ => zny.goes ?_
 obtain ⟨m1,m2⟩ := maxn l
 obtain ⟨m3,m4⟩ := maxn r
 have hw1 : IntKind.u64.wrap ((l.toNat : Nat) : Int) = ((l.toNat : Nat) : Int) := zch (by omega)
 have hw2 : IntKind.u64.wrap ((r.toNat : Nat) : Int) = ((r.toNat : Nat) : Int) := zch (by omega)
 have n1 := zx (n := l.toNat) (by omega)
 simp only [znW,iN,bT,bF,eN]
 (repeat' first | refine gq20 (zd m2 hw1) ?_ | with_reducible first | exact ⟨⟩ | refine zh ?_ | fail)
 refine zjH (b := [1]) (by omega) (by simp) ?_
 (repeat' first | refine gq2 (zd m3 (zd m4 hw2)) ?_ | with_reducible first | exact ⟨⟩ | refine zh ?_ | fail)
 refine zjH (b := 1 :: zcm l.toNat) (by omega) (by simp; omega) ?_
 (repeat' first | refine gq1 ?_ | with_reducible first | exact ⟨⟩ | refine zh ?_ | fail)
 (first | refine zaq hl ?_ | refine zap hl ?_)
 exact hK
theorem c_r5node {σ : List zg} {l r : Int} (hl1 : l ≤ 9223372036854775807) (hr1 : r ≤ 9223372036854775807) {K : KT} (hK : K (.d (.slice (bcs (zhB l r)))) σ) : zD Tryz.prog zoA [.d (.int .i64 l), .d (.int .i64 r)] σ K := by
 refine zj zsW.is rfl fun hl _ => zsW.goes ?_
 obtain ⟨m1,m2⟩ := maxn l
 obtain ⟨m3,m4⟩ := maxn r
 have hw1 : IntKind.u64.wrap ((l.toNat : Nat) : Int) = ((l.toNat : Nat) : Int) := zch (by omega)
 have hw2 : IntKind.u64.wrap ((r.toNat : Nat) : Int) = ((r.toNat : Nat) : Int) := zch (by omega)
 have n1 := zx (n := l.toNat) (by omega)
 simp only [ztA,iN,bT,bF,eN]
 (repeat' first | refine gq20 (zd m2 hw1) ?_ | with_reducible first | exact ⟨⟩ | refine zh ?_ | fail)
 refine zcx (b := [1]) (by omega) (by simp) ?_
 (repeat' first | refine gq2 (zd m3 (zd m4 hw2)) ?_ | with_reducible first | exact ⟨⟩ | refine zh ?_ | fail)
 refine zcx (b := 1 :: zcm l.toNat) (by omega) (by simp; omega) ?_
 (repeat' first | refine gq1 ?_ | with_reducible first | exact ⟨⟩ | refine zh ?_ | fail)
 (first | refine zaq hl ?_ | refine zap hl ?_)
 exact hK
end Go.Proofs.YtncpaekiidpchaaGreat

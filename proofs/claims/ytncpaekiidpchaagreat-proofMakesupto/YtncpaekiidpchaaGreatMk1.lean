/- Contracts: where a list is parted, how long a proof is, leaves and nodes, on both sides. -/
import Derived.Test.YtncpaekiidpchaaGreatId4
import Derived.Test.YtncpaekiidpchaaGreatCodec1
import Derived.Test.YtncpaekiidpchaaGreatSpUtf
set_option linter.all false
set_option maxRecDepth 100000
namespace Go.Proofs.YtncpaekiidpchaaGreat
open Go.AW
theorem znM {σ : List zf} {n : Nat} (hn : n ≤ 4611686018427387904) {K : AV → List zf → Prop} (hK : K (.d (.int .i64 (zn n : Nat))) σ) : zL Tryz.prog zdB [.d (.int .i64 n)] σ K := by
 refine zj zmf.is rfl fun hl _ => zmf.goes ?_
 have fin : ∀ z,zn n = z → K (.d (.int .i64 (z : Nat))) σ := fun z h => h ▸ hK
 clear hK
 simp only [zmt,iN,bT,bF,eN]
 by_cases h : n < 2
 ·have hd : decide ((n : Int) < 2) = true := by simp; omega
  (repeat' first | refine gq2 hd ?_ | with_reducible first | exact ⟨⟩ | refine zh ?_ | fail)
  (first | refine zao hl ?_ | refine zan hl ?_)
  exact fin 0 (if_pos h)
 ·have hd : decide ((n : Int) < 2) = false := by simp; omega
  (repeat' first | refine gq2 hd ?_ | with_reducible first | exact ⟨⟩ | refine zh ?_ | fail)
  refine zK n (fun j vs s => s = σ ∧ ∃ k : Nat,vs = [.d (.int .i64 k)] ∧ 1 ≤ k ∧ k < n ∧ j ≤ k ∧ zn n = zgS n k n) ⟨rfl, 1,rfl,by omega,by omega,by omega,if_neg h⟩ ?_
  rintro j vs s hj ⟨rfl,k,rfl,hk1,hk2,hjk,hsp⟩
  have hw1 : IntKind.i64.wrap ((n : Int) - (k : Int)) = ((n - k : Nat) : Int) := by rw [zai (by omega) (by omega)]; omega
  by_cases hlt : k < n - k
  ·have hd2 : decide ((k : Int) < ((n - k : Nat) : Int)) = true := by simp; omega
   have hw2 : IntKind.i64.wrap ((k : Int) * 2) = ((k * 2 : Nat) : Int) := by rw [zai (by omega) (by omega)]; omega
   (repeat' first | refine gq2 (zd hw1 (zd hd2 hw2)) ?_ | with_reducible first | exact ⟨⟩ | refine zh ?_ | fail)
   refine zav.to (j + 1) (by omega) (by omega) ⟨rfl,k * 2,rfl,by omega,by omega,by omega, ?_⟩
   rw [hsp,zmx n k n hk1 (by omega) hlt]
  ·have hd2 : decide ((k : Int) < ((n - k : Nat) : Int)) = false := by simp; omega
   (repeat' first | refine gq2 (zd hw1 hd2) ?_ | with_reducible first | exact ⟨⟩ | refine zh ?_ | fail)
   (first | refine zao hl ?_ | refine zan hl ?_)
   exact fin k (by rw [hsp,zjj _ _ _ hlt])
theorem c_r5Split {σ : List zf} {n : Nat} (hn : n ≤ 4611686018427387904) {K : AV → List zf → Prop} (hK : K (.d (.int .i64 (zn n : Nat))) σ) : zL Tryz.prog zjw [.d (.int .i64 n)] σ K := by
 refine zj zrn.is rfl fun hl _ => zrn.goes ?_
 have fin : ∀ z,zn n = z → K (.d (.int .i64 (z : Nat))) σ := fun z h => h ▸ hK
 clear hK
 simp only [zrR,iN,bT,bF,eN]
 by_cases h : n < 2
 ·have hd : decide ((n : Int) < 2) = true := by simp; omega
  (repeat' first | refine gq2 hd ?_ | with_reducible first | exact ⟨⟩ | refine zh ?_ | fail)
  (first | refine zao hl ?_ | refine zan hl ?_)
  exact fin 0 (if_pos h)
 ·have hd : decide ((n : Int) < 2) = false := by simp; omega
  (repeat' first | refine gq2 hd ?_ | with_reducible first | exact ⟨⟩ | refine zh ?_ | fail)
  refine zK n (fun j vs s => s = σ ∧ ∃ k : Nat,vs = [.d (.int .i64 k)] ∧ 1 ≤ k ∧ k < n ∧ j ≤ k ∧ zn n = zgS n k n) ⟨rfl, 1,rfl,by omega,by omega,by omega,if_neg h⟩ ?_
  rintro j vs s hj ⟨rfl,k,rfl,hk1,hk2,hjk,hsp⟩
  have hw1 : IntKind.i64.wrap ((n : Int) - (k : Int)) = ((n - k : Nat) : Int) := by rw [zai (by omega) (by omega)]; omega
  by_cases hlt : k < n - k
  ·have hd2 : decide ((k : Int) < ((n - k : Nat) : Int)) = true := by simp; omega
   have hw2 : IntKind.i64.wrap ((k : Int) * 2) = ((k * 2 : Nat) : Int) := by rw [zai (by omega) (by omega)]; omega
   (repeat' first | refine gq2 (zd hw1 (zd hd2 hw2)) ?_ | with_reducible first | exact ⟨⟩ | refine zh ?_ | fail)
   refine zav.to (j + 1) (by omega) (by omega) ⟨rfl,k * 2,rfl,by omega,by omega,by omega, ?_⟩
   rw [hsp,zmx n k n hk1 (by omega) hlt]
  ·have hd2 : decide ((k : Int) < ((n - k : Nat) : Int)) = false := by simp; omega
   (repeat' first | refine gq2 (zd hw1 hd2) ?_ | with_reducible first | exact ⟨⟩ | refine zh ?_ | fail)
   (first | refine zao hl ?_ | refine zan hl ?_)
   exact fin k (by rw [hsp,zjj _ _ _ hlt])
def zkH (i n : Int) : Int := if i < 0 ∨ i ≥ n then 0 else zfb i.toNat n.toNat
theorem c_mkLength {σ : List zf} {i n : Int} (hn : n ≤ 4611686018427387904) {K : AV → List zf → Prop} (hK : K (.d (.int .i64 (zkH i n))) σ) : zL Tryz.prog zhd [.d (.int .i64 i), .d (.int .i64 n)] σ K := by
 refine zj zkU.is rfl fun hl _ => zkU.goes ?_
 have fin : ∀ z,zkH i n = z → K (.d (.int .i64 z)) σ := fun z h => h ▸ hK
 clear hK
 simp only [zlm,iN,bT,bF,eN]
 cases h1 : decide (i < 0)
 rotate_left
 ·(repeat' first | refine gq2 h1 ?_ | with_reducible first | exact ⟨⟩ | refine zh ?_ | fail)
  (first | refine zao hl ?_ | refine zan hl ?_)
  exact fin 0 (if_pos (.inl (by simpa using h1)))
 cases h2 : decide (i ≥ n)
 rotate_left
 ·(repeat' first | refine gq2 (zd h1 h2) ?_ | with_reducible first | exact ⟨⟩ | refine zh ?_ | fail)
  (first | refine zao hl ?_ | refine zan hl ?_)
  exact fin 0 (if_pos (.inr (by simpa using h2)))
 simp only [decide_eq_false_iff_not] at h1 h2
 (repeat' first | refine gq2 (zd (decide_eq_false h1) (decide_eq_false h2)) ?_ | with_reducible first | exact ⟨⟩ | refine zh ?_ | fail)
 have hli : zkH i n = zfb i.toNat n.toNat := if_neg (by omega)
 refine zK n.toNat (fun j vs s => s = σ ∧ ∃ (a b m : Nat),vs = [.d (.int .i64 a), .d (.int .i64 b), .d (.int .i64 m)] ∧ a < b ∧ b + j ≤ n.toNat ∧ zfb i.toNat n.toNat = zfb a b + m ∧ m = j)
  ⟨rfl,i.toNat,n.toNat, 0,by rw [show ((i.toNat : Nat) : Int) = i by omega,show ((n.toNat : Nat) : Int) = n by omega]; rfl,by omega,by omega,by omega,rfl⟩ ?_
 rintro j vs s hj ⟨rfl,a,b,m,rfl,hab,hbj,hle,rfl⟩
 by_cases hlt : 1 < b
 ·have hd : decide ((b : Int) > 1) = true := by simp; omega
  have hs := zcr (n := b) (by omega)
  rw [zqS (i := a) (n := b) (by omega)] at hle
  (repeat' first | refine gq2 hd ?_ | with_reducible first | exact ⟨⟩ | refine zh ?_ | fail)
  refine znM (by omega) ?_
  by_cases hc : a < zn b
  ·have hd2 : decide ((a : Int) < ((zn b : Nat) : Int)) = true := by simp; omega
   have hw3 : IntKind.i64.wrap ((m : Int) + 1) = ((m + 1 : Nat) : Int) := by rw [zai (by omega) (by omega)]; rfl
   rw [if_pos hc] at hle
   (repeat' first | refine gq2 (zd hd2 hw3) ?_ | with_reducible first | exact ⟨⟩ | refine zh ?_ | fail)
   exact zav.to (m + 1) (by omega) (by omega) ⟨rfl,a,zn b,m + 1,rfl,hc,by omega,by omega,rfl⟩
  ·have hd2 : decide ((a : Int) < ((zn b : Nat) : Int)) = false := by simp; omega
   have hw3 : IntKind.i64.wrap ((m : Int) + 1) = ((m + 1 : Nat) : Int) := by rw [zai (by omega) (by omega)]; rfl
   have hw1 : IntKind.i64.wrap ((a : Int) - ((zn b : Nat) : Int)) = ((a - zn b : Nat) : Int) := by rw [zai (by omega) (by omega)]; omega
   have hw2 : IntKind.i64.wrap ((b : Int) - ((zn b : Nat) : Int)) = ((b - zn b : Nat) : Int) := by rw [zai (by omega) (by omega)]; omega
   rw [if_neg hc] at hle
   (repeat' first | refine gq2 (zd hd2 (zd hw1 (zd hw2 hw3))) ?_ | with_reducible first | exact ⟨⟩ | refine zh ?_ | fail)
   exact zav.to (m + 1) (by omega) (by omega) ⟨rfl,a - zn b,b - zn b,m + 1,rfl,by omega,by omega,by omega,rfl⟩
 ·have hd : decide ((b : Int) > 1) = false := by simp; omega
  rw [lengthN_1 (i := a) (n := b) (by omega)] at hle
  (repeat' first | refine gq2 hd ?_ | with_reducible first | exact ⟨⟩ | refine zh ?_ | fail)
  (first | refine zao hl ?_ | refine zan hl ?_)
  exact fin m (by rw [hli]; omega)
theorem c_mkleaf {σ : List zf} {b : List UInt8} (hb : b.length ≤ 1073741000) {K : AV → List zf → Prop} (hK : K (.d (.slice (bcs (zoW b)))) σ) : zL Tryz.prog zgH [.d (.slice (bcs b))] σ K := by
 refine zj znA.is rfl fun hl _ => znA.goes ?_
 have hlen := zeM b
 have h1 := zgi (bs := b)
 simp only [zob,iN,bT,bF,eN]
 (repeat' first | refine gq2 hlen ?_ | with_reducible first | exact ⟨⟩ | refine zh ?_ | fail)
 (first | refine zao hl ?_ | refine zan hl ?_)
 exact hK
theorem c_r5leaf {σ : List zf} {b : List UInt8} (hb : b.length ≤ 1073741000) {K : AV → List zf → Prop} (hK : K (.d (.slice (bcs (zoW b)))) σ) : zL Tryz.prog zoG [.d (.slice (bcs b))] σ K := by
 refine zj ztl.is rfl fun hl _ => ztl.goes ?_
 have hlen := zeM b
 have h1 := zgi (bs := b)
 simp only [ztY,iN,bT,bF,eN]
 (repeat' first | refine gq2 hlen ?_ | with_reducible first | exact ⟨⟩ | refine zh ?_ | fail)
 (first | refine zao hl ?_ | refine zan hl ?_)
 exact hK
theorem maxn (x : Int) : (if 0 > x then 0 else x) = ((x.toNat : Nat) : Int) ∧ (if x > 0 then x else 0) = ((x.toNat : Nat) : Int) := by
 constructor <;> split <;> omega
theorem gq20 {A P Q : Prop} (a : A) (h : Q) (e : A → P = Q := by intro a; simp -dsimp only [↓zcR, ↓zal, ↓zaM, ↓zcS, ↓zcN, ↓zcL, ↓zcO, ↓zcM, ↓zaR, ↓zaN, ↓zaS, ↓zaO, ↓zcP, ↓zaL, ↓zaT, ↓zaP, ↓zaU, ↓zaQ, ↓zcK, ↓zcQ, ↓zaK, ↓zaV, ↓zcI, ↓zcH, ↓zcJ,iN,bT,bF,eN, ↓zbI, ↓unC, ↓zQ, ↓zF, ↓zG, ↓zI, ↓zR, ↓zap, ↓zbp, ↓zab, ↓zaX, ↓zP, ↓zp, ↓zm, ↓zbg, ↓zi, ↓zY, ↓zB, ↓zas, ↓zaw, ↓ze, ↓zC, ↓zr, ↓zt, ↓zad, ↓zbL, ↓zbY, ↓zaa, ↓zaj, ↓zau, ↓zaB, ↓zaD, ↓zl, ↓zZ, ↓zH, ↓zu, ↓zS,zcd,zaI,zaH,unA,zce,bnd,zcn,zX,zV,zcp,dm,dm1,zD,zag,zcy,zcx,zU,Q0,Q1,Q2,Q3,Q4,Q5,zO,zq,zw,zM,zE,Q6,Q7,Q8,Q9,Q10,Q11,Q12,Q13,Q14,Nat.reduceAdd,Q15,Int.reduceToNat,Q16,Q17,Q18,Q19,Q20,reduceIte,Q21,Q22,zx,rep,zT,zcv,toD,zW,Q23,Q24,Q25,Q26,Q27,Q28,Nat.reduceLeDiff,Q29,Nat.reduceSub,Q30,Q31,Q32,sc,Q33,Q34,Q35,Q36,Q37,Q26,Q38,Q39,zel,zei,zef,zem,zbt,zej,zeg,zek,zeh,zbs,zbu,zen,zeo,Bool.not_true,Bool.not_false,List.length_map,m1,a]; rfl) : P := (e a).mpr h
theorem zuW {σ : List zf} {l r : Int} (hl1 : l ≤ 9223372036854775807) (hr1 : r ≤ 9223372036854775807) {K : AV → List zf → Prop} (hK : K (.d (.slice (bcs (zit l r)))) σ) : zL Tryz.prog zfa [.d (.int .i64 l), .d (.int .i64 r)] σ K := by
 refine zj znz.is rfl fun hl _ => znz.goes ?_
 obtain ⟨m1,m2⟩ := maxn l
 obtain ⟨m3,m4⟩ := maxn r
 have hw1 : IntKind.u64.wrap ((l.toNat : Nat) : Int) = ((l.toNat : Nat) : Int) := zcq (by omega)
 have hw2 : IntKind.u64.wrap ((r.toNat : Nat) : Int) = ((r.toNat : Nat) : Int) := zcq (by omega)
 have n1 := zJ (n := l.toNat) (by omega)
 simp only [zoa,iN,bT,bF,eN]
 (repeat' first | refine gq20 (zd m2 hw1) ?_ | with_reducible first | exact ⟨⟩ | refine zh ?_ | fail)
 refine zjK (b := [1]) (by omega) (by simp) ?_
 (repeat' first | refine gq2 (zd m3 (zd m4 hw2)) ?_ | with_reducible first | exact ⟨⟩ | refine zh ?_ | fail)
 refine zjK (b := 1 :: zcw l.toNat) (by omega) (by simp; omega) ?_
 (repeat' first | refine gq1 ?_ | with_reducible first | exact ⟨⟩ | refine zh ?_ | fail)
 (first | refine zao hl ?_ | refine zan hl ?_)
 exact hK
theorem c_r5node {σ : List zf} {l r : Int} (hl1 : l ≤ 9223372036854775807) (hr1 : r ≤ 9223372036854775807) {K : AV → List zf → Prop} (hK : K (.d (.slice (bcs (zit l r)))) σ) : zL Tryz.prog zoF [.d (.int .i64 l), .d (.int .i64 r)] σ K := by
 refine zj ztk.is rfl fun hl _ => ztk.goes ?_
 obtain ⟨m1,m2⟩ := maxn l
 obtain ⟨m3,m4⟩ := maxn r
 have hw1 : IntKind.u64.wrap ((l.toNat : Nat) : Int) = ((l.toNat : Nat) : Int) := zcq (by omega)
 have hw2 : IntKind.u64.wrap ((r.toNat : Nat) : Int) = ((r.toNat : Nat) : Int) := zcq (by omega)
 have n1 := zJ (n := l.toNat) (by omega)
 simp only [ztX,iN,bT,bF,eN]
 (repeat' first | refine gq20 (zd m2 hw1) ?_ | with_reducible first | exact ⟨⟩ | refine zh ?_ | fail)
 refine zcF (b := [1]) (by omega) (by simp) ?_
 (repeat' first | refine gq2 (zd m3 (zd m4 hw2)) ?_ | with_reducible first | exact ⟨⟩ | refine zh ?_ | fail)
 refine zcF (b := 1 :: zcw l.toNat) (by omega) (by simp; omega) ?_
 (repeat' first | refine gq1 ?_ | with_reducible first | exact ⟨⟩ | refine zh ?_ | fail)
 (first | refine zao hl ?_ | refine zan hl ?_)
 exact hK
end Go.Proofs.YtncpaekiidpchaaGreat

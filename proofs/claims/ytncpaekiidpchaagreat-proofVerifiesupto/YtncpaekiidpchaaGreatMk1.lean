/- Contracts: where a list is parted, how long a proof is, leaves and nodes, on both sides. -/
import Derived.Test.YtncpaekiidpchaaGreatId4
import Derived.Test.YtncpaekiidpchaaGreatCodec1
import Derived.Test.YtncpaekiidpchaaGreatSpUtf
set_option linter.all false
set_option maxRecDepth 100000
namespace Go.Proofs.YtncpaekiidpchaaGreat
open Go.AW
theorem zor {σ : List zh} {n : Nat} (hn : n ≤ 4611686018427387904) {K : KT} (hK : K (.d (.int .i64 (zj n : Nat))) σ) : zy Tryz.prog zdw [.d (.int .i64 n)] σ K := by
 refine zi zmM.is rfl fun hl _ => zmM.goes ?_
 have fin : ∀ z,zj n = z → K (.d (.int .i64 (z : Nat))) σ := fun z h => h ▸ hK
 clear hK
 simp only [zmZ,iN,bT,bF,eN]
 by_cases h : n < 2
 ·have hd : decide ((n : Int) < 2) = true := by simp; omega
  (repeat' first | refine gq2 hd ?_ | with_reducible first | exact ⟨⟩ | refine zg ?_ | fail)
  (first | refine zX hl ?_ | refine zW hl ?_)
  exact fin 0 (if_pos h)
 ·have hd : decide ((n : Int) < 2) = false := by simp; omega
  (repeat' first | refine gq2 hd ?_ | with_reducible first | exact ⟨⟩ | refine zg ?_ | fail)
  refine zB n (fun j vs s => s = σ ∧ ∃ k : Nat,vs = [.d (.int .i64 k)] ∧ 1 ≤ k ∧ k < n ∧ j ≤ k ∧ zj n = zhk n k n) ⟨rfl, 1,rfl,by omega,by omega,by omega,if_neg h⟩ ?_
  rintro j vs s hj ⟨rfl,k,rfl,hk1,hk2,hjk,hsp⟩
  have hw1 : IntKind.i64.wrap ((n : Int) - (k : Int)) = ((n - k : Nat) : Int) := by rw [zP (by omega) (by omega)]; omega
  by_cases hlt : k < n - k
  ·have hd2 : decide ((k : Int) < ((n - k : Nat) : Int)) = true := by simp; omega
   have hw2 : IntKind.i64.wrap ((k : Int) * 2) = ((k * 2 : Nat) : Int) := by rw [zP (by omega) (by omega)]; omega
   (repeat' first | refine gq2 (zc hw1 (zc hd2 hw2)) ?_ | with_reducible first | exact ⟨⟩ | refine zg ?_ | fail)
   refine zap.to (j + 1) (by omega) (by omega) ⟨rfl,k * 2,rfl,by omega,by omega,by omega, ?_⟩
   rw [hsp,znd n k n hk1 (by omega) hlt]
  ·have hd2 : decide ((k : Int) < ((n - k : Nat) : Int)) = false := by simp; omega
   (repeat' first | refine gq2 (zc hw1 hd2) ?_ | with_reducible first | exact ⟨⟩ | refine zg ?_ | fail)
   (first | refine zX hl ?_ | refine zW hl ?_)
   exact fin k (by rw [hsp,zjK _ _ _ hlt])
theorem zoq {σ : List zh} {n : Nat} (hn : n ≤ 4611686018427387904) {K : KT} (hK : K (.d (.int .i64 (zj n : Nat))) σ) : zy Tryz.prog zfD [.d (.int .i64 n)] σ K := by
 refine zi zse.is rfl fun hl _ => zse.goes ?_
 have fin : ∀ z,zj n = z → K (.d (.int .i64 (z : Nat))) σ := fun z h => h ▸ hK
 clear hK
 simp only [zsP,iN,bT,bF,eN]
 by_cases h : n < 2
 ·have hd : decide ((n : Int) < 2) = true := by simp; omega
  (repeat' first | refine gq2 hd ?_ | with_reducible first | exact ⟨⟩ | refine zg ?_ | fail)
  (first | refine zX hl ?_ | refine zW hl ?_)
  exact fin 0 (if_pos h)
 ·have hd : decide ((n : Int) < 2) = false := by simp; omega
  (repeat' first | refine gq2 hd ?_ | with_reducible first | exact ⟨⟩ | refine zg ?_ | fail)
  refine zB n (fun j vs s => s = σ ∧ ∃ k : Nat,vs = [.d (.int .i64 k)] ∧ 1 ≤ k ∧ k < n ∧ j ≤ k ∧ zj n = zhk n k n) ⟨rfl, 1,rfl,by omega,by omega,by omega,if_neg h⟩ ?_
  rintro j vs s hj ⟨rfl,k,rfl,hk1,hk2,hjk,hsp⟩
  have hw1 : IntKind.i64.wrap ((n : Int) - (k : Int)) = ((n - k : Nat) : Int) := by rw [zP (by omega) (by omega)]; omega
  by_cases hlt : k < n - k
  ·have hd2 : decide ((k : Int) < ((n - k : Nat) : Int)) = true := by simp; omega
   have hw2 : IntKind.i64.wrap ((k : Int) * 2) = ((k * 2 : Nat) : Int) := by rw [zP (by omega) (by omega)]; omega
   (repeat' first | refine gq2 (zc hw1 (zc hd2 hw2)) ?_ | with_reducible first | exact ⟨⟩ | refine zg ?_ | fail)
   refine zap.to (j + 1) (by omega) (by omega) ⟨rfl,k * 2,rfl,by omega,by omega,by omega, ?_⟩
   rw [hsp,znd n k n hk1 (by omega) hlt]
  ·have hd2 : decide ((k : Int) < ((n - k : Nat) : Int)) = false := by simp; omega
   (repeat' first | refine gq2 (zc hw1 hd2) ?_ | with_reducible first | exact ⟨⟩ | refine zg ?_ | fail)
   (first | refine zX hl ?_ | refine zW hl ?_)
   exact fin k (by rw [hsp,zjK _ _ _ hlt])
def zfF (i n : Int) : Int := if i < 0 ∨ i ≥ n then 0 else zdA i.toNat n.toNat
theorem c_mkLength {σ : List zh} {i n : Int} (hn : n ≤ 4611686018427387904) {K : KT} (hK : K (.d (.int .i64 (zfF i n))) σ) : zy Tryz.prog zhw [.d (.int .i64 i), .d (.int .i64 n)] σ K := by
 refine zi zlC.is rfl fun hl _ => zlC.goes ?_
 have fin : ∀ z,zfF i n = z → K (.d (.int .i64 z)) σ := fun z h => h ▸ hK
 clear hK
 simp only [zlW,iN,bT,bF,eN]
 cases h1 : decide (i < 0)
 rotate_left
 ·(repeat' first | refine gq2 h1 ?_ | with_reducible first | exact ⟨⟩ | refine zg ?_ | fail)
  (first | refine zX hl ?_ | refine zW hl ?_)
  exact fin 0 (if_pos (.inl (by simpa using h1)))
 cases h2 : decide (i ≥ n)
 rotate_left
 ·(repeat' first | refine gq2 (zc h1 h2) ?_ | with_reducible first | exact ⟨⟩ | refine zg ?_ | fail)
  (first | refine zX hl ?_ | refine zW hl ?_)
  exact fin 0 (if_pos (.inr (by simpa using h2)))
 simp only [decide_eq_false_iff_not] at h1 h2
 (repeat' first | refine gq2 (zc (decide_eq_false h1) (decide_eq_false h2)) ?_ | with_reducible first | exact ⟨⟩ | refine zg ?_ | fail)
 have hli : zfF i n = zdA i.toNat n.toNat := if_neg (by omega)
 refine zB n.toNat (fun j vs s => s = σ ∧ ∃ (a b m : Nat),vs = [.d (.int .i64 a), .d (.int .i64 b), .d (.int .i64 m)] ∧ a < b ∧ b + j ≤ n.toNat ∧ zdA i.toNat n.toNat = zdA a b + m ∧ m = j)
  ⟨rfl,i.toNat,n.toNat, 0,by rw [show ((i.toNat : Nat) : Int) = i by omega,show ((n.toNat : Nat) : Int) = n by omega]; rfl,by omega,by omega,by omega,rfl⟩ ?_
 rintro j vs s hj ⟨rfl,a,b,m,rfl,hab,hbj,hle,rfl⟩
 by_cases hlt : 1 < b
 ·have hd : decide ((b : Int) > 1) = true := by simp; omega
  have hs := zbB (n := b) (by omega)
  rw [zlo (i := a) (n := b) (by omega)] at hle
  (repeat' first | refine gq2 hd ?_ | with_reducible first | exact ⟨⟩ | refine zg ?_ | fail)
  refine zor (by omega) ?_
  by_cases hc : a < zj b
  ·have hd2 : decide ((a : Int) < ((zj b : Nat) : Int)) = true := by simp; omega
   have hw3 : IntKind.i64.wrap ((m : Int) + 1) = ((m + 1 : Nat) : Int) := by rw [zP (by omega) (by omega)]; rfl
   rw [if_pos hc] at hle
   (repeat' first | refine gq2 (zc hd2 hw3) ?_ | with_reducible first | exact ⟨⟩ | refine zg ?_ | fail)
   exact zap.to (m + 1) (by omega) (by omega) ⟨rfl,a,zj b,m + 1,rfl,hc,by omega,by omega,rfl⟩
  ·have hd2 : decide ((a : Int) < ((zj b : Nat) : Int)) = false := by simp; omega
   have hw3 : IntKind.i64.wrap ((m : Int) + 1) = ((m + 1 : Nat) : Int) := by rw [zP (by omega) (by omega)]; rfl
   have hw1 : IntKind.i64.wrap ((a : Int) - ((zj b : Nat) : Int)) = ((a - zj b : Nat) : Int) := by rw [zP (by omega) (by omega)]; omega
   have hw2 : IntKind.i64.wrap ((b : Int) - ((zj b : Nat) : Int)) = ((b - zj b : Nat) : Int) := by rw [zP (by omega) (by omega)]; omega
   rw [if_neg hc] at hle
   (repeat' first | refine gq2 (zc hd2 (zc hw1 (zc hw2 hw3))) ?_ | with_reducible first | exact ⟨⟩ | refine zg ?_ | fail)
   exact zap.to (m + 1) (by omega) (by omega) ⟨rfl,a - zj b,b - zj b,m + 1,rfl,by omega,by omega,by omega,rfl⟩
 ·have hd : decide ((b : Int) > 1) = false := by simp; omega
  rw [zrE (i := a) (n := b) (by omega)] at hle
  (repeat' first | refine gq2 hd ?_ | with_reducible first | exact ⟨⟩ | refine zg ?_ | fail)
  (first | refine zX hl ?_ | refine zW hl ?_)
  exact fin m (by rw [hli]; omega)
theorem c_r5Length {σ : List zh} {i n : Int} (hn : n ≤ 4611686018427387904) {K : KT} (hK : K (.d (.int .i64 (zfF i n))) σ) : zy Tryz.prog zli [.d (.int .i64 i), .d (.int .i64 n)] σ K := by
 refine zi zqe.is rfl fun hl _ => zqe.goes ?_
 have fin : ∀ z,zfF i n = z → K (.d (.int .i64 z)) σ := fun z h => h ▸ hK
 clear hK
 simp only [zqx,iN,bT,bF,eN]
 cases h1 : decide (i < 0)
 rotate_left
 ·(repeat' first | refine gq2 h1 ?_ | with_reducible first | exact ⟨⟩ | refine zg ?_ | fail)
  (first | refine zX hl ?_ | refine zW hl ?_)
  exact fin 0 (if_pos (.inl (by simpa using h1)))
 cases h2 : decide (i ≥ n)
 rotate_left
 ·(repeat' first | refine gq2 (zc h1 h2) ?_ | with_reducible first | exact ⟨⟩ | refine zg ?_ | fail)
  (first | refine zX hl ?_ | refine zW hl ?_)
  exact fin 0 (if_pos (.inr (by simpa using h2)))
 simp only [decide_eq_false_iff_not] at h1 h2
 (repeat' first | refine gq2 (zc (decide_eq_false h1) (decide_eq_false h2)) ?_ | with_reducible first | exact ⟨⟩ | refine zg ?_ | fail)
 have hli : zfF i n = zdA i.toNat n.toNat := if_neg (by omega)
 refine zB n.toNat (fun j vs s => s = σ ∧ ∃ (a b m : Nat),vs = [.d (.int .i64 a), .d (.int .i64 b), .d (.int .i64 m)] ∧ a < b ∧ b + j ≤ n.toNat ∧ zdA i.toNat n.toNat = zdA a b + m ∧ m = j)
  ⟨rfl,i.toNat,n.toNat, 0,by rw [show ((i.toNat : Nat) : Int) = i by omega,show ((n.toNat : Nat) : Int) = n by omega]; rfl,by omega,by omega,by omega,rfl⟩ ?_
 rintro j vs s hj ⟨rfl,a,b,m,rfl,hab,hbj,hle,rfl⟩
 by_cases hlt : 1 < b
 ·have hd : decide ((b : Int) > 1) = true := by simp; omega
  have hs := zbB (n := b) (by omega)
  rw [zlo (i := a) (n := b) (by omega)] at hle
  (repeat' first | refine gq2 hd ?_ | with_reducible first | exact ⟨⟩ | refine zg ?_ | fail)
  refine zoq (by omega) ?_
  by_cases hc : a < zj b
  ·have hd2 : decide ((a : Int) < ((zj b : Nat) : Int)) = true := by simp; omega
   have hw3 : IntKind.i64.wrap ((m : Int) + 1) = ((m + 1 : Nat) : Int) := by rw [zP (by omega) (by omega)]; rfl
   rw [if_pos hc] at hle
   (repeat' first | refine gq2 (zc hd2 hw3) ?_ | with_reducible first | exact ⟨⟩ | refine zg ?_ | fail)
   exact zap.to (m + 1) (by omega) (by omega) ⟨rfl,a,zj b,m + 1,rfl,hc,by omega,by omega,rfl⟩
  ·have hd2 : decide ((a : Int) < ((zj b : Nat) : Int)) = false := by simp; omega
   have hw3 : IntKind.i64.wrap ((m : Int) + 1) = ((m + 1 : Nat) : Int) := by rw [zP (by omega) (by omega)]; rfl
   have hw1 : IntKind.i64.wrap ((a : Int) - ((zj b : Nat) : Int)) = ((a - zj b : Nat) : Int) := by rw [zP (by omega) (by omega)]; omega
   have hw2 : IntKind.i64.wrap ((b : Int) - ((zj b : Nat) : Int)) = ((b - zj b : Nat) : Int) := by rw [zP (by omega) (by omega)]; omega
   rw [if_neg hc] at hle
   (repeat' first | refine gq2 (zc hd2 (zc hw1 (zc hw2 hw3))) ?_ | with_reducible first | exact ⟨⟩ | refine zg ?_ | fail)
   exact zap.to (m + 1) (by omega) (by omega) ⟨rfl,a - zj b,b - zj b,m + 1,rfl,by omega,by omega,by omega,rfl⟩
 ·have hd : decide ((b : Int) > 1) = false := by simp; omega
  rw [zrE (i := a) (n := b) (by omega)] at hle
  (repeat' first | refine gq2 hd ?_ | with_reducible first | exact ⟨⟩ | refine zg ?_ | fail)
  (first | refine zX hl ?_ | refine zW hl ?_)
  exact fin m (by rw [hli]; omega)
theorem c_mkleaf {σ : List zh} {b : List UInt8} (hb : b.length ≤ 1073741000) {K : KT} (hK : K (.d (.slice (bcs (zpw b)))) σ) : zy Tryz.prog zgX [.d (.slice (bcs b))] σ K := by
 refine zi zoe.is rfl fun hl _ => zoe.goes ?_
 have hlen := zea b
 have h1 := zgv (bs := b)
 simp only [zoH,iN,bT,bF,eN]
 (repeat' first | refine gq2 hlen ?_ | with_reducible first | exact ⟨⟩ | refine zg ?_ | fail)
 (first | refine zX hl ?_ | refine zW hl ?_)
 exact hK
theorem c_r5leaf {σ : List zh} {b : List UInt8} (hb : b.length ≤ 1073741000) {K : KT} (hK : K (.d (.slice (bcs (zpw b)))) σ) : zy Tryz.prog zmi [.d (.slice (bcs b))] σ K := by
 refine zi zug.is rfl fun hl _ => zug.goes ?_
 have hlen := zea b
 have h1 := zgv (bs := b)
 simp only [zuT,iN,bT,bF,eN]
 (repeat' first | refine gq2 hlen ?_ | with_reducible first | exact ⟨⟩ | refine zg ?_ | fail)
 (first | refine zX hl ?_ | refine zW hl ?_)
 exact hK
theorem maxn (x : Int) : (if 0 > x then 0 else x) = ((x.toNat : Nat) : Int) ∧ (if x > 0 then x else 0) = ((x.toNat : Nat) : Int) := by
 constructor <;> split <;> omega
theorem gq20 {A P Q : Prop} (a : A) (h : Q) (e : A → P = Q := by intro a; simp -dsimp only [↓zen, ↓zaw, ↓zba, ↓zeo, ↓zej, ↓zeh, ↓zek, ↓zei, ↓zbf, ↓zbb, ↓zbg, ↓zbc, ↓zel, ↓zaZ, ↓zbh, ↓zbd, ↓zbi, ↓zbe, ↓zeg, ↓zem, ↓zaY, ↓zbj, ↓zee, ↓zed, ↓zef,iN,bT,bF,eN, ↓zcI, ↓unC, ↓zV, ↓zJ, ↓zK, ↓zN, ↓zaa, ↓zas, ↓zbH, ↓zah, ↓zaV, ↓zQ, ↓zp, ↓zo, ↓zbr, ↓zk, ↓zag, ↓zG, ↓zaB, ↓zaF, ↓ze, ↓zE, ↓zr, ↓zw, ↓zam, ↓zcs, ↓zcM, ↓zak, ↓zat, ↓zaE, ↓zaJ, ↓zaP, ↓zu, ↓zai, ↓zL, ↓zA, ↓zab,zcT,zaU,zaT,unA,zcW,bnd,zds,zae,zR,zdv,dm,dm1,zC,zaj,zdH,zdG,zM,Q0,Q1,Q2,Q3,Q4,Q5,zT,zq,zx,zO,zI,Q6,Q7,Q8,Q9,Q10,Q11,Q12,Q13,Q14,Nat.reduceAdd,Q15,Int.reduceToNat,Q16,Q17,Q18,Q19,Q20,reduceIte,Q21,Q22,zF,rep,zY,zdD,toD,zad,Q23,Q24,Q25,Q26,Q27,Q28,Nat.reduceLeDiff,Q29,Nat.reduceSub,Q30,Q31,Q32,sc,Q33,Q34,Q35,Q36,Q37,Q26,Q38,Q39,zfZ,zfW,zfT,zga,zbR,zfX,zfU,zfY,zfV,zbQ,zbS,zgb,zgc,Bool.not_true,Bool.not_false,List.length_map,m1,a]; rfl) : P := (e a).mpr h
theorem zvI {σ : List zh} {l r : Int} (hl1 : l ≤ 9223372036854775807) (hr1 : r ≤ 9223372036854775807) {K : KT} (hK : K (.d (.slice (bcs (ziU l r)))) σ) : zy Tryz.prog zff [.d (.int .i64 l), .d (.int .i64 r)] σ K := by
 refine zi zod.is rfl fun hl _ => zod.goes ?_
 obtain ⟨m1,m2⟩ := maxn l
 obtain ⟨m3,m4⟩ := maxn r
 have hw1 : IntKind.u64.wrap ((l.toNat : Nat) : Int) = ((l.toNat : Nat) : Int) := zcn (by omega)
 have hw2 : IntKind.u64.wrap ((r.toNat : Nat) : Int) = ((r.toNat : Nat) : Int) := zcn (by omega)
 have n1 := zD (n := l.toNat) (by omega)
 simp only [zoG,iN,bT,bF,eN]
 (repeat' first | refine gq20 (zc m2 hw1) ?_ | with_reducible first | exact ⟨⟩ | refine zg ?_ | fail)
 refine zkm (b := [1]) (by omega) (by simp) ?_
 (repeat' first | refine gq2 (zc m3 (zc m4 hw2)) ?_ | with_reducible first | exact ⟨⟩ | refine zg ?_ | fail)
 refine zkm (b := 1 :: zcr l.toNat) (by omega) (by simp; omega) ?_
 (repeat' first | refine gq1 ?_ | with_reducible first | exact ⟨⟩ | refine zg ?_ | fail)
 (first | refine zX hl ?_ | refine zW hl ?_)
 exact hK
theorem zvH {σ : List zh} {l r : Int} (hl1 : l ≤ 9223372036854775807) (hr1 : r ≤ 9223372036854775807) {K : KT} (hK : K (.d (.slice (bcs (ziU l r)))) σ) : zy Tryz.prog zja [.d (.int .i64 l), .d (.int .i64 r)] σ K := by
 refine zi zuf.is rfl fun hl _ => zuf.goes ?_
 obtain ⟨m1,m2⟩ := maxn l
 obtain ⟨m3,m4⟩ := maxn r
 have hw1 : IntKind.u64.wrap ((l.toNat : Nat) : Int) = ((l.toNat : Nat) : Int) := zcn (by omega)
 have hw2 : IntKind.u64.wrap ((r.toNat : Nat) : Int) = ((r.toNat : Nat) : Int) := zcn (by omega)
 have n1 := zD (n := l.toNat) (by omega)
 simp only [zuS,iN,bT,bF,eN]
 (repeat' first | refine gq20 (zc m2 hw1) ?_ | with_reducible first | exact ⟨⟩ | refine zg ?_ | fail)
 refine zcC (b := [1]) (by omega) (by simp) ?_
 (repeat' first | refine gq2 (zc m3 (zc m4 hw2)) ?_ | with_reducible first | exact ⟨⟩ | refine zg ?_ | fail)
 refine zcC (b := 1 :: zcr l.toNat) (by omega) (by simp; omega) ?_
 (repeat' first | refine gq1 ?_ | with_reducible first | exact ⟨⟩ | refine zg ?_ | fail)
 (first | refine zX hl ?_ | refine zW hl ?_)
 exact hK
end Go.Proofs.YtncpaekiidpchaaGreat

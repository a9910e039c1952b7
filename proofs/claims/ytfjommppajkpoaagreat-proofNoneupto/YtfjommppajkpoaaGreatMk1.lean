/- Contracts: where a list is parted, how long a proof is, leaves and nodes, on both sides. -/
import Derived.Test.YtfjommppajkpoaaGreatId4
import Derived.Test.YtfjommppajkpoaaGreatCodec1
import Derived.Test.YtfjommppajkpoaaGreatSpUtf
set_option linter.all false
set_option maxRecDepth 100000
namespace Go.Proofs.YtfjommppajkpoaaGreat
open Go.AW
theorem znS {σ : List zg} {n : Nat} (hn : n ≤ 4611686018427387904) {K : KT} (hK : K (.d (.int .i64 (zk n : Nat))) σ) : zq Tryz.prog zdj [.d (.int .i64 n)] σ K := by
 refine zec zsO fun hl => ?_
 have fin : ∀ z,zk n = z → K (.d (.int .i64 (z : Nat))) σ := fun z h => h ▸ hK
 clear hK
 simp only [zmq,iN,bT,bF,eN]
 by_cases h : n < 2
 ·have hd : decide ((n : Int) < 2) = true := by simp; omega
  refine gq2 hd ?_
  refine zK hl ?_
  exact fin 0 (if_pos h)
 ·have hd : decide ((n : Int) < 2) = false := by simp; omega
  refine gq2 hd ?_
  refine zw n (fun j vs s => s = σ ∧ ∃ k : Nat,vs = [.d (.int .i64 k)] ∧ 1 ≤ k ∧ k < n ∧ j ≤ k ∧ zk n = zhc n k n) ⟨rfl, 1,rfl,by omega,by omega,by omega,if_neg h⟩ ?_
  rintro j vs s hj ⟨rfl,k,rfl,hk1,hk2,hjk,hsp⟩
  have hw1 : IntKind.i64.wrap ((n : Int) - (k : Int)) = ((n - k : Nat) : Int) := by rw [zJ (by omega) (by omega)]; omega
  by_cases hlt : k < n - k
  ·have hd2 : decide ((k : Int) < ((n - k : Nat) : Int)) = true := by simp; omega
   have hw2 : IntKind.i64.wrap ((k : Int) * 2) = ((k * 2 : Nat) : Int) := by rw [zJ (by omega) (by omega)]; omega
   refine gq2 (zc hw1 (zc hd2 hw2)) ?_
   refine zap.to (j + 1) (by omega) (by omega) ⟨rfl,k * 2,rfl,by omega,by omega,by omega, ?_⟩
   rw [hsp,zmu n k n hk1 (by omega) hlt]
  ·have hd2 : decide ((k : Int) < ((n - k : Nat) : Int)) = false := by simp; omega
   refine gq2 (zc hw1 hd2) ?_
   refine zK hl ?_
   exact fin k (by rw [hsp,zjd _ _ _ hlt])
theorem zrN {σ : List zg} {n : Nat} (hn : n ≤ 4611686018427387904) {K : KT} (hK : K (.d (.int .i64 (zk n : Nat))) σ) : zq Tryz.prog zhn [.d (.int .i64 n)] σ K := by
 refine zec e_r05_Split fun hl => ?_
 have fin : ∀ z,zk n = z → K (.d (.int .i64 (z : Nat))) σ := fun z h => h ▸ hK
 clear hK
 simp only [zsp,iN,bT,bF,eN]
 by_cases h : n < 2
 ·have hd : decide ((n : Int) < 2) = true := by simp; omega
  refine gq2 hd ?_
  refine zK hl ?_
  exact fin 0 (if_pos h)
 ·have hd : decide ((n : Int) < 2) = false := by simp; omega
  refine gq2 hd ?_
  refine zw n (fun j vs s => s = σ ∧ ∃ k : Nat,vs = [.d (.int .i64 k)] ∧ 1 ≤ k ∧ k < n ∧ j ≤ k ∧ zk n = zhc n k n) ⟨rfl, 1,rfl,by omega,by omega,by omega,if_neg h⟩ ?_
  rintro j vs s hj ⟨rfl,k,rfl,hk1,hk2,hjk,hsp⟩
  have hw1 : IntKind.i64.wrap ((n : Int) - (k : Int)) = ((n - k : Nat) : Int) := by rw [zJ (by omega) (by omega)]; omega
  by_cases hlt : k < n - k
  ·have hd2 : decide ((k : Int) < ((n - k : Nat) : Int)) = true := by simp; omega
   have hw2 : IntKind.i64.wrap ((k : Int) * 2) = ((k * 2 : Nat) : Int) := by rw [zJ (by omega) (by omega)]; omega
   refine gq2 (zc hw1 (zc hd2 hw2)) ?_
   refine zap.to (j + 1) (by omega) (by omega) ⟨rfl,k * 2,rfl,by omega,by omega,by omega, ?_⟩
   rw [hsp,zmu n k n hk1 (by omega) hlt]
  ·have hd2 : decide ((k : Int) < ((n - k : Nat) : Int)) = false := by simp; omega
   refine gq2 (zc hw1 hd2) ?_
   refine zK hl ?_
   exact fin k (by rw [hsp,zjd _ _ _ hlt])
def zfx (i n : Int) : Int := if i < 0 ∨ i ≥ n then 0 else zdm i.toNat n.toNat
theorem c_mkLength {σ : List zg} {i n : Int} (hn : n ≤ 4611686018427387904) {K : KT} (hK : K (.d (.int .i64 (zfx i n))) σ) : zq Tryz.prog zhq [.d (.int .i64 i), .d (.int .i64 n)] σ K := by
 refine zga zrB fun hl => ?_
 have fin : ∀ z,zfx i n = z → K (.d (.int .i64 z)) σ := fun z h => h ▸ hK
 clear hK
 simp only [zln,iN,bT,bF,eN]
 cases h1 : decide (i < 0)
 rotate_left
 ·refine gq2 h1 ?_
  refine zK hl ?_
  exact fin 0 (if_pos (.inl (by simpa using h1)))
 cases h2 : decide (i ≥ n)
 rotate_left
 ·refine gq2 (zc h1 h2) ?_
  refine zK hl ?_
  exact fin 0 (if_pos (.inr (by simpa using h2)))
 simp only [decide_eq_false_iff_not] at h1 h2
 refine gq2 (zc (decide_eq_false h1) (decide_eq_false h2)) ?_
 have hli : zfx i n = zdm i.toNat n.toNat := if_neg (by omega)
 refine zw n.toNat (fun j vs s => s = σ ∧ ∃ (a b m : Nat),vs = [.d (.int .i64 a), .d (.int .i64 b), .d (.int .i64 m)] ∧ a < b ∧ b + j ≤ n.toNat ∧ zdm i.toNat n.toNat = zdm a b + m ∧ m = j)
  ⟨rfl,i.toNat,n.toNat, 0,by rw [show ((i.toNat : Nat) : Int) = i by omega,show ((n.toNat : Nat) : Int) = n by omega]; rfl,by omega,by omega,by omega,rfl⟩ ?_
 rintro j vs s hj ⟨rfl,a,b,m,rfl,hab,hbj,hle,rfl⟩
 by_cases hlt : 1 < b
 ·have hd : decide ((b : Int) > 1) = true := by simp; omega
  have hs := zbZ (n := b) (by omega)
  rw [zkN (i := a) (n := b) (by omega)] at hle
  refine gq2 hd ?_
  refine znS (by omega) ?_
  by_cases hc : a < zk b
  ·have hd2 : decide ((a : Int) < ((zk b : Nat) : Int)) = true := by simp; omega
   have hw3 : IntKind.i64.wrap ((m : Int) + 1) = ((m + 1 : Nat) : Int) := by rw [zJ (by omega) (by omega)]; rfl
   rw [if_pos hc] at hle
   refine gq2 (zc hd2 hw3) ?_
   exact zap.to (m + 1) (by omega) (by omega) ⟨rfl,a,zk b,m + 1,rfl,hc,by omega,by omega,rfl⟩
  ·have hd2 : decide ((a : Int) < ((zk b : Nat) : Int)) = false := by simp; omega
   have hw3 : IntKind.i64.wrap ((m : Int) + 1) = ((m + 1 : Nat) : Int) := by rw [zJ (by omega) (by omega)]; rfl
   have hw1 : IntKind.i64.wrap ((a : Int) - ((zk b : Nat) : Int)) = ((a - zk b : Nat) : Int) := by rw [zJ (by omega) (by omega)]; omega
   have hw2 : IntKind.i64.wrap ((b : Int) - ((zk b : Nat) : Int)) = ((b - zk b : Nat) : Int) := by rw [zJ (by omega) (by omega)]; omega
   rw [if_neg hc] at hle
   refine gq2 (zc hd2 (zc hw1 (zc hw2 hw3))) ?_
   exact zap.to (m + 1) (by omega) (by omega) ⟨rfl,a - zk b,b - zk b,m + 1,rfl,by omega,by omega,by omega,rfl⟩
 ·have hd : decide ((b : Int) > 1) = false := by simp; omega
  rw [zre (i := a) (n := b) (by omega)] at hle
  refine gq2 hd ?_
  refine zK hl ?_
  exact fin m (by rw [hli]; omega)
theorem c_r5Length {σ : List zg} {i n : Int} (hn : n ≤ 4611686018427387904) {K : KT} (hK : K (.d (.int .i64 (zfx i n))) σ) : zq Tryz.prog zkH [.d (.int .i64 i), .d (.int .i64 n)] σ K := by
 refine zga e_r05_Length fun hl => ?_
 have fin : ∀ z,zfx i n = z → K (.d (.int .i64 z)) σ := fun z h => h ▸ hK
 clear hK
 simp only [zpP,iN,bT,bF,eN]
 cases h1 : decide (i < 0)
 rotate_left
 ·refine gq2 h1 ?_
  refine zK hl ?_
  exact fin 0 (if_pos (.inl (by simpa using h1)))
 cases h2 : decide (i ≥ n)
 rotate_left
 ·refine gq2 (zc h1 h2) ?_
  refine zK hl ?_
  exact fin 0 (if_pos (.inr (by simpa using h2)))
 simp only [decide_eq_false_iff_not] at h1 h2
 refine gq2 (zc (decide_eq_false h1) (decide_eq_false h2)) ?_
 have hli : zfx i n = zdm i.toNat n.toNat := if_neg (by omega)
 refine zw n.toNat (fun j vs s => s = σ ∧ ∃ (a b m : Nat),vs = [.d (.int .i64 a), .d (.int .i64 b), .d (.int .i64 m)] ∧ a < b ∧ b + j ≤ n.toNat ∧ zdm i.toNat n.toNat = zdm a b + m ∧ m = j)
  ⟨rfl,i.toNat,n.toNat, 0,by rw [show ((i.toNat : Nat) : Int) = i by omega,show ((n.toNat : Nat) : Int) = n by omega]; rfl,by omega,by omega,by omega,rfl⟩ ?_
 rintro j vs s hj ⟨rfl,a,b,m,rfl,hab,hbj,hle,rfl⟩
 by_cases hlt : 1 < b
 ·have hd : decide ((b : Int) > 1) = true := by simp; omega
  have hs := zbZ (n := b) (by omega)
  rw [zkN (i := a) (n := b) (by omega)] at hle
  refine gq2 hd ?_
  refine zrN (by omega) ?_
  by_cases hc : a < zk b
  ·have hd2 : decide ((a : Int) < ((zk b : Nat) : Int)) = true := by simp; omega
   have hw3 : IntKind.i64.wrap ((m : Int) + 1) = ((m + 1 : Nat) : Int) := by rw [zJ (by omega) (by omega)]; rfl
   rw [if_pos hc] at hle
   refine gq2 (zc hd2 hw3) ?_
   exact zap.to (m + 1) (by omega) (by omega) ⟨rfl,a,zk b,m + 1,rfl,hc,by omega,by omega,rfl⟩
  ·have hd2 : decide ((a : Int) < ((zk b : Nat) : Int)) = false := by simp; omega
   have hw3 : IntKind.i64.wrap ((m : Int) + 1) = ((m + 1 : Nat) : Int) := by rw [zJ (by omega) (by omega)]; rfl
   have hw1 : IntKind.i64.wrap ((a : Int) - ((zk b : Nat) : Int)) = ((a - zk b : Nat) : Int) := by rw [zJ (by omega) (by omega)]; omega
   have hw2 : IntKind.i64.wrap ((b : Int) - ((zk b : Nat) : Int)) = ((b - zk b : Nat) : Int) := by rw [zJ (by omega) (by omega)]; omega
   rw [if_neg hc] at hle
   refine gq2 (zc hd2 (zc hw1 (zc hw2 hw3))) ?_
   exact zap.to (m + 1) (by omega) (by omega) ⟨rfl,a - zk b,b - zk b,m + 1,rfl,by omega,by omega,by omega,rfl⟩
 ·have hd : decide ((b : Int) > 1) = false := by simp; omega
  rw [zre (i := a) (n := b) (by omega)] at hle
  refine gq2 hd ?_
  refine zK hl ?_
  exact fin m (by rw [hli]; omega)
theorem c_mkleaf {σ : List zg} {b : List UInt8} (hb : b.length ≤ 1073741000) {K : KT} (hK : K (.d (.slice (bcs (zoV b)))) σ) : zq Tryz.prog zgN [.d (.slice (bcs b))] σ K := by
 refine zec zuX fun hl => ?_
 have hlen := zaH b
 have h1 := zgs (bs := b)
 simp only [zoi,iN,bT,bF,eN]
 refine gq2 hlen ?_
 refine zK hl ?_
 exact hK
theorem c_r5leaf {σ : List zg} {b : List UInt8} (hb : b.length ≤ 1073741000) {K : KT} (hK : K (.d (.slice (bcs (zoV b)))) σ) : zq Tryz.prog zlz [.d (.slice (bcs b))] σ K := by
 refine zec e_r05_leaf fun hl => ?_
 have hlen := zaH b
 have h1 := zgs (bs := b)
 simp only [zug,iN,bT,bF,eN]
 refine gq2 hlen ?_
 refine zK hl ?_
 exact hK
theorem maxn (x : Int) : (if 0 > x then 0 else x) = ((x.toNat : Nat) : Int) ∧ (if x > 0 then x else 0) = ((x.toNat : Nat) : Int) := by
 constructor <;> split <;> omega
theorem gq15 {A P Q : Prop} (a : A) (h : Q) (e : A → Hd Q → P := by intro a h; (repeat' first | simp -dsimp only [↓zgr, ↓zaF, ↓zbL, ↓zgt, ↓zgn, ↓zgl, ↓zgo, ↓zgm, ↓zbR, ↓zbN, ↓zbS, ↓zbO, ↓zgp, ↓zbJ, ↓zbT, ↓zbP, ↓zbU, ↓zbQ, ↓zgj, ↓zgq, ↓zbI, ↓zbX, ↓zgc, ↓zgb, ↓zgi,iN,bT,bF,eN, ↓zdN, ↓unC, ↓zac, ↓zQ, ↓zR, ↓zV, ↓zak, ↓zau, ↓zco, ↓zag, ↓zaJ, ↓zW, ↓zp, ↓zo, ↓zbF, ↓zl, ↓zan, ↓zF, ↓zaM, ↓zaW, ↓ze, ↓zC, ↓zu, ↓zy, ↓zav, ↓zdr, ↓zdU, ↓zat, ↓zaB, ↓zaU, ↓zbk, ↓zbv, ↓zD, ↓zaq, ↓zS, ↓zE, ↓zam,zeb,zbD,zbB,unA,zei,bnd,zeF,zai,zP,zeE,dm,dm1,zB,zal,zfg,zff,zx,Q0,Q1,Q2,Q3,Q4,Q5,zZ,zh,zm,zT,zN,Q6,Q7,Q8,Q9,Q10,Q11,Q12,Q13,Q14,Nat.reduceAdd,Q15,Int.reduceToNat,Q16,Q17,Q18,Q19,Q20,reduceIte,Q21,Q22,zH,rep,zX,zfc,toD,zah,Q23,Q24,Q25,Q26,Q27,Q28,Nat.reduceLeDiff,Q29,Nat.reduceSub,Q30,Q31,Q32,sc,Q33,Q34,Q35,Q36,Q37,Q26,Q38,Q39,zkn,zkk,zkh,zko,zdu,zkl,zki,zkm,zkj,zdt,zdv,zkp,zkq,Bool.not_true,Bool.not_false,List.length_map,m1,a] | with_reducible refine zkr ?_ | fail); exact h.go) : P := e a ⟨h⟩
theorem zvp {σ : List zg} {l r : Int} (hl1 : l ≤ 9223372036854775807) (hr1 : r ≤ 9223372036854775807) {K : KT} (hK : K (.d (.slice (bcs (zit l r)))) σ) : zq Tryz.prog zeS [.d (.int .i64 l), .d (.int .i64 r)] σ K := by
 refine zga zuW fun hl => ?_
 obtain ⟨m1,m2⟩ := maxn l
 obtain ⟨m3,m4⟩ := maxn r
 have hw1 : IntKind.u64.wrap ((l.toNat : Nat) : Int) = ((l.toNat : Nat) : Int) := zci (by omega)
 have hw2 : IntKind.u64.wrap ((r.toNat : Nat) : Int) = ((r.toNat : Nat) : Int) := zci (by omega)
 have n1 := zt (n := l.toNat) (by omega)
 simp only [zoh,iN,bT,bF,eN]
 refine gq15 (zc m2 hw1) ?_
 refine zjF (b := [1]) (by omega) (by simp) ?_
 refine gq2 (zc m3 (zc m4 hw2)) ?_
 refine zjF (b := 1 :: zcn l.toNat) (by omega) (by simp; omega) ?_
 refine gq1 ?_
 refine zK hl ?_
 exact hK
theorem zvo {σ : List zg} {l r : Int} (hl1 : l ≤ 9223372036854775807) (hr1 : r ≤ 9223372036854775807) {K : KT} (hK : K (.d (.slice (bcs (zit l r)))) σ) : zq Tryz.prog ziz [.d (.int .i64 l), .d (.int .i64 r)] σ K := by
 refine zga e_r05_node fun hl => ?_
 obtain ⟨m1,m2⟩ := maxn l
 obtain ⟨m3,m4⟩ := maxn r
 have hw1 : IntKind.u64.wrap ((l.toNat : Nat) : Int) = ((l.toNat : Nat) : Int) := zci (by omega)
 have hw2 : IntKind.u64.wrap ((r.toNat : Nat) : Int) = ((r.toNat : Nat) : Int) := zci (by omega)
 have n1 := zt (n := l.toNat) (by omega)
 simp only [zuf,iN,bT,bF,eN]
 refine gq15 (zc m2 hw1) ?_
 refine zcx (b := [1]) (by omega) (by simp) ?_
 refine gq2 (zc m3 (zc m4 hw2)) ?_
 refine zcx (b := 1 :: zcn l.toNat) (by omega) (by simp; omega) ?_
 refine gq1 ?_
 refine zK hl ?_
 exact hK
end Go.Proofs.YtfjommppajkpoaaGreat

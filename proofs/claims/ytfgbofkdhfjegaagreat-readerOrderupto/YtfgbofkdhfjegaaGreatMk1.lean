/- Contracts: where a list is parted, how long a proof is, leaves and nodes, on both sides. -/
import Derived.Test.YtfgbofkdhfjegaaGreatId4
import Derived.Test.YtfgbofkdhfjegaaGreatCodec1
import Derived.Test.YtfgbofkdhfjegaaGreatSpUtf
set_option linter.all false
set_option maxRecDepth 100000
namespace Go.Proofs.YtfgbofkdhfjegaaGreat
open Go.AW
theorem c_mkSplit {σ : List zh} {n : Nat} (hn : n ≤ 4611686018427387904) {K : KT} (hK : K (.d (.int .i64 (zm n : Nat))) σ) : zr Tryz.prog zgE [.d (.int .i64 n)] σ K := by
 refine zgk ztX fun hl => ?_
 have fin : ∀ z,zm n = z → K (.d (.int .i64 (z : Nat))) σ := fun z h => h ▸ hK
 clear hK
 simp only [znF,iN,bT,bF,eN]
 by_cases h : n < 2
 ·have hd : decide ((n : Int) < 2) = true := by simp; omega
  refine gq2 hd ?_
  refine zV hl ?_
  exact fin 0 (if_pos h)
 ·have hd : decide ((n : Int) < 2) = false := by simp; omega
  refine gq2 hd ?_
  refine zt n (fun j vs s => s = σ ∧ ∃ k : Nat,vs = [.d (.int .i64 k)] ∧ 1 ≤ k ∧ k < n ∧ j ≤ k ∧ zm n = zhS n k n) ⟨rfl, 1,rfl,by omega,by omega,by omega,if_neg h⟩ ?_
  rintro j vs s hj ⟨rfl,k,rfl,hk1,hk2,hjk,hsp⟩
  have hw1 : IntKind.i64.wrap ((n : Int) - (k : Int)) = ((n - k : Nat) : Int) := by rw [zU (by omega) (by omega)]; omega
  by_cases hlt : k < n - k
  ·have hd2 : decide ((k : Int) < ((n - k : Nat) : Int)) = true := by simp; omega
   have hw2 : IntKind.i64.wrap ((k : Int) * 2) = ((k * 2 : Nat) : Int) := by rw [zU (by omega) (by omega)]; omega
   refine gq2 (zf hw1 (zf hd2 hw2)) ?_
   refine zaF.to (j + 1) (by omega) (by omega) ⟨rfl,k * 2,rfl,by omega,by omega,by omega, ?_⟩
   rw [hsp,znI n k n hk1 (by omega) hlt]
  ·have hd2 : decide ((k : Int) < ((n - k : Nat) : Int)) = false := by simp; omega
   refine gq2 (zf hw1 hd2) ?_
   refine zV hl ?_
   exact fin k (by rw [hsp,zku _ _ _ hlt])
theorem c_r5Split {σ : List zh} {n : Nat} (hn : n ≤ 4611686018427387904) {K : KT} (hK : K (.d (.int .i64 (zm n : Nat))) σ) : zr Tryz.prog zkI [.d (.int .i64 n)] σ K := by
 refine zgk e_r05_Split fun hl => ?_
 have fin : ∀ z,zm n = z → K (.d (.int .i64 (z : Nat))) σ := fun z h => h ▸ hK
 clear hK
 simp only [ztw,iN,bT,bF,eN]
 by_cases h : n < 2
 ·have hd : decide ((n : Int) < 2) = true := by simp; omega
  refine gq2 hd ?_
  refine zV hl ?_
  exact fin 0 (if_pos h)
 ·have hd : decide ((n : Int) < 2) = false := by simp; omega
  refine gq2 hd ?_
  refine zt n (fun j vs s => s = σ ∧ ∃ k : Nat,vs = [.d (.int .i64 k)] ∧ 1 ≤ k ∧ k < n ∧ j ≤ k ∧ zm n = zhS n k n) ⟨rfl, 1,rfl,by omega,by omega,by omega,if_neg h⟩ ?_
  rintro j vs s hj ⟨rfl,k,rfl,hk1,hk2,hjk,hsp⟩
  have hw1 : IntKind.i64.wrap ((n : Int) - (k : Int)) = ((n - k : Nat) : Int) := by rw [zU (by omega) (by omega)]; omega
  by_cases hlt : k < n - k
  ·have hd2 : decide ((k : Int) < ((n - k : Nat) : Int)) = true := by simp; omega
   have hw2 : IntKind.i64.wrap ((k : Int) * 2) = ((k * 2 : Nat) : Int) := by rw [zU (by omega) (by omega)]; omega
   refine gq2 (zf hw1 (zf hd2 hw2)) ?_
   refine zaF.to (j + 1) (by omega) (by omega) ⟨rfl,k * 2,rfl,by omega,by omega,by omega, ?_⟩
   rw [hsp,znI n k n hk1 (by omega) hlt]
  ·have hd2 : decide ((k : Int) < ((n - k : Nat) : Int)) = false := by simp; omega
   refine gq2 (zf hw1 hd2) ?_
   refine zV hl ?_
   exact fin k (by rw [hsp,zku _ _ _ hlt])
def zlZ (i n : Int) : Int := if i < 0 ∨ i ≥ n then 0 else zfB i.toNat n.toNat
theorem c_mkLength {σ : List zh} {i n : Int} (hn : n ≤ 4611686018427387904) {K : KT} (hK : K (.d (.int .i64 (zlZ i n))) σ) : zr Tryz.prog zib [.d (.int .i64 i), .d (.int .i64 n)] σ K := by
 refine zfJ zsO fun hl => ?_
 have fin : ∀ z,zlZ i n = z → K (.d (.int .i64 z)) σ := fun z h => h ▸ hK
 clear hK
 simp only [zmx,iN,bT,bF,eN]
 cases h1 : decide (i < 0)
 rotate_left
 ·refine gq2 h1 ?_
  refine zV hl ?_
  exact fin 0 (if_pos (.inl (by simpa using h1)))
 cases h2 : decide (i ≥ n)
 rotate_left
 ·refine gq2 (zf h1 h2) ?_
  refine zV hl ?_
  exact fin 0 (if_pos (.inr (by simpa using h2)))
 simp only [decide_eq_false_iff_not] at h1 h2
 refine gq2 (zf (decide_eq_false h1) (decide_eq_false h2)) ?_
 have hli : zlZ i n = zfB i.toNat n.toNat := if_neg (by omega)
 refine zt n.toNat (fun j vs s => s = σ ∧ ∃ (a b m : Nat),vs = [.d (.int .i64 a), .d (.int .i64 b), .d (.int .i64 m)] ∧ a < b ∧ b + j ≤ n.toNat ∧ zfB i.toNat n.toNat = zfB a b + m ∧ m = j)
  ⟨rfl,i.toNat,n.toNat, 0,by rw [show ((i.toNat : Nat) : Int) = i by omega,show ((n.toNat : Nat) : Int) = n by omega]; rfl,by omega,by omega,by omega,rfl⟩ ?_
 rintro j vs s hj ⟨rfl,a,b,m,rfl,hab,hbj,hle,rfl⟩
 by_cases hlt : 1 < b
 ·have hd : decide ((b : Int) > 1) = true := by simp; omega
  have hs := zcK (n := b) (by omega)
  rw [zoQ (i := a) (n := b) (by omega)] at hle
  refine gq2 hd ?_
  refine c_mkSplit (by omega) ?_
  by_cases hc : a < zm b
  ·have hd2 : decide ((a : Int) < ((zm b : Nat) : Int)) = true := by simp; omega
   have hw3 : IntKind.i64.wrap ((m : Int) + 1) = ((m + 1 : Nat) : Int) := by rw [zU (by omega) (by omega)]; rfl
   rw [if_pos hc] at hle
   refine gq2 (zf hd2 hw3) ?_
   exact zaF.to (m + 1) (by omega) (by omega) ⟨rfl,a,zm b,m + 1,rfl,hc,by omega,by omega,rfl⟩
  ·have hd2 : decide ((a : Int) < ((zm b : Nat) : Int)) = false := by simp; omega
   have hw3 : IntKind.i64.wrap ((m : Int) + 1) = ((m + 1 : Nat) : Int) := by rw [zU (by omega) (by omega)]; rfl
   have hw1 : IntKind.i64.wrap ((a : Int) - ((zm b : Nat) : Int)) = ((a - zm b : Nat) : Int) := by rw [zU (by omega) (by omega)]; omega
   have hw2 : IntKind.i64.wrap ((b : Int) - ((zm b : Nat) : Int)) = ((b - zm b : Nat) : Int) := by rw [zU (by omega) (by omega)]; omega
   rw [if_neg hc] at hle
   refine gq2 (zf hd2 (zf hw1 (zf hw2 hw3))) ?_
   exact zaF.to (m + 1) (by omega) (by omega) ⟨rfl,a - zm b,b - zm b,m + 1,rfl,by omega,by omega,by omega,rfl⟩
 ·have hd : decide ((b : Int) > 1) = false := by simp; omega
  rw [zsn (i := a) (n := b) (by omega)] at hle
  refine gq2 hd ?_
  refine zV hl ?_
  exact fin m (by rw [hli]; omega)
theorem c_mkleaf {σ : List zh} {b : List UInt8} (hb : b.length ≤ 1073741000) {K : KT} (hK : K (.d (.slice (bcs (znW b)))) σ) : zr Tryz.prog zkM [.d (.slice (bcs b))] σ K := by
 refine zgk zvV fun hl => ?_
 have hlen := zaJ b
 have h1 := zgd (bs := b)
 simp only [zpA,iN,bT,bF,eN]
 refine gq2 hlen ?_
 refine zV hl ?_
 exact hK
theorem c_r5leaf {σ : List zh} {b : List UInt8} (hb : b.length ≤ 1073741000) {K : KT} (hK : K (.d (.slice (bcs (znW b)))) σ) : zr Tryz.prog zpZ [.d (.slice (bcs b))] σ K := by
 refine zgk e_r05_leaf fun hl => ?_
 have hlen := zaJ b
 have h1 := zgd (bs := b)
 simp only [zvk,iN,bT,bF,eN]
 refine gq2 hlen ?_
 refine zV hl ?_
 exact hK
theorem maxn (x : Int) : (if 0 > x then 0 else x) = ((x.toNat : Nat) : Int) ∧ (if x > 0 then x else 0) = ((x.toNat : Nat) : Int) := by
 constructor <;> split <;> omega
theorem gq15 {A P Q : Prop} (a : A) (h : Q) (e : A → Hd Q → P := by intro a h; (repeat' first | simp -dsimp only [↓zeY, ↓zaC, ↓zbz, ↓zeZ, ↓zeU, ↓zeS, ↓zeV, ↓zeT, ↓zbE, ↓zbA, ↓zbF, ↓zbB, ↓zeW, ↓zby, ↓zbG, ↓zbC, ↓zbH, ↓zbD, ↓zeR, ↓zeX, ↓zbx, ↓zbJ, ↓zeP, ↓zeO, ↓zeQ,iN,bT,bF,eN, ↓zcF, ↓unC, ↓zW, ↓zK, ↓zL, ↓zN, ↓zad, ↓zax, ↓zcB, ↓zal, ↓zbj, ↓zQ, ↓zo, ↓zj, ↓zbr, ↓zg, ↓zai, ↓zH, ↓zaM, ↓zaV, ↓ze, ↓zD, ↓zw, ↓zB, ↓zao, ↓zdb, ↓zdx, ↓zaq, ↓zay, ↓zaU, ↓zbd, ↓zbl, ↓zu, ↓zan, ↓zM, ↓zE, ↓zaa,zdz,zbq,zbn,unA,zdy,bnd,zec,zaf,zS,zdY,dm,dm1,zC,zah,zen,zem,zP,Q0,Q1,Q2,Q3,Q4,Q5,zT,zx,zy,zO,zI,Q6,Q7,Q8,Q9,Q10,Q11,Q12,Q13,Q14,Nat.reduceAdd,Q15,Int.reduceToNat,Q16,Q17,Q18,Q19,Q20,reduceIte,Q21,Q22,zG,rep,zZ,zeF,toD,zaj,Q23,Q24,Q25,Q26,Q27,Q28,Nat.reduceLeDiff,Q29,Nat.reduceSub,Q30,Q31,Q32,sc,Q33,Q34,Q35,Q36,Q37,Q26,Q38,Q39,zii,zif,zic,zij,zcN,zig,zid,zih,zie,zcM,zcO,zim,zin,Bool.not_true,Bool.not_false,List.length_map,m1,a] | with_reducible refine zix ?_ | fail); exact h.go) : P := e a ⟨h⟩
theorem c_mknode {σ : List zh} {l r : Int} (hl1 : l ≤ 9223372036854775807) (hr1 : r ≤ 9223372036854775807) {K : KT} (hK : K (.d (.slice (bcs (zkA l r)))) σ) : zr Tryz.prog zhG [.d (.int .i64 l), .d (.int .i64 r)] σ K := by
 refine zfJ zvU fun hl => ?_
 obtain ⟨m1,m2⟩ := maxn l
 obtain ⟨m3,m4⟩ := maxn r
 have hw1 : IntKind.u64.wrap ((l.toNat : Nat) : Int) = ((l.toNat : Nat) : Int) := zcU (by omega)
 have hw2 : IntKind.u64.wrap ((r.toNat : Nat) : Int) = ((r.toNat : Nat) : Int) := zcU (by omega)
 have n1 := zF (n := l.toNat) (by omega)
 simp only [zpz,iN,bT,bF,eN]
 refine gq15 (zf m2 hw1) ?_
 refine zld (b := [1]) (by omega) (by simp) ?_
 refine gq2 (zf m3 (zf m4 hw2)) ?_
 refine zld (b := 1 :: zcR l.toNat) (by omega) (by simp; omega) ?_
 refine gq1 ?_
 refine zV hl ?_
 exact hK
theorem c_r5node {σ : List zh} {l r : Int} (hl1 : l ≤ 9223372036854775807) (hr1 : r ≤ 9223372036854775807) {K : KT} (hK : K (.d (.slice (bcs (zkA l r)))) σ) : zr Tryz.prog zpY [.d (.int .i64 l), .d (.int .i64 r)] σ K := by
 refine zfJ e_r05_node fun hl => ?_
 obtain ⟨m1,m2⟩ := maxn l
 obtain ⟨m3,m4⟩ := maxn r
 have hw1 : IntKind.u64.wrap ((l.toNat : Nat) : Int) = ((l.toNat : Nat) : Int) := zcU (by omega)
 have hw2 : IntKind.u64.wrap ((r.toNat : Nat) : Int) = ((r.toNat : Nat) : Int) := zcU (by omega)
 have n1 := zF (n := l.toNat) (by omega)
 simp only [zvj,iN,bT,bF,eN]
 refine gq15 (zf m2 hw1) ?_
 refine zde (b := [1]) (by omega) (by simp) ?_
 refine gq2 (zf m3 (zf m4 hw2)) ?_
 refine zde (b := 1 :: zcR l.toNat) (by omega) (by simp; omega) ?_
 refine gq1 ?_
 refine zV hl ?_
 exact hK
end Go.Proofs.YtfgbofkdhfjegaaGreat

/- Contracts: sets of brokers, the document's, to the last bit. -/
import Derived.Test.YtncpaekiidpchaaGreatAu1
import Derived.Test.YtncpaekiidpchaaGreatSpBulk
import Derived.Test.YtncpaekiidpchaaGreatMk2
import Derived.Test.YtncpaekiidpchaaGreatTp7
import Derived.Test.YtncpaekiidpchaaGreatAu3
import Derived.Test.YtncpaekiidpchaaGreatSpMake
set_option linter.all false
set_option maxRecDepth 100000
namespace Go.Proofs.YtncpaekiidpchaaGreat
open Go.AW
theorem wk13 (k : Nat) (h : k ≤ 1073741824) : IntKind.i64.wrap ((k : Int) + 1) = ((k + 1 : Nat) : Int) := by rw [zP (by omega) (by omega)]; rfl
theorem ztL {A P Q : Prop} (a : A) (h : Q) (e : A → P = Q := by intro a; simp -dsimp only [↓zen, ↓zaw, ↓zba, ↓zeo, ↓zej, ↓zeh, ↓zek, ↓zei, ↓zbf, ↓zbb, ↓zbg, ↓zbc, ↓zel, ↓zaZ, ↓zbh, ↓zbd, ↓zbi, ↓zbe, ↓zeg, ↓zem, ↓zaY, ↓zbj, ↓zee, ↓zed, ↓zef,iN,bT,bF,eN, ↓zcI, ↓unC, ↓zV, ↓zJ, ↓zK, ↓zN, ↓zaa, ↓zas, ↓zbH, ↓zah, ↓zaV, ↓zQ, ↓zp, ↓zo, ↓zbr, ↓zk, ↓zag, ↓zG, ↓zaB, ↓zaF, ↓ze, ↓zE, ↓zr, ↓zw, ↓zam, ↓zcs, ↓zcM, ↓zak, ↓zat, ↓zaE, ↓zaJ, ↓zaP, ↓zu, ↓zai, ↓zL, ↓zA, ↓zab,zcT,zaU,zaT,unA,zcW,bnd,zds,zae,zR,zdv,dm,dm1,zC,zaj,zdH,zdG,zM,Q0,Q1,Q2,Q3,Q4,Q5,zT,zq,zx,zO,zI,Q6,Q7,Q8,Q9,Q10,Q11,Q12,Q13,Q14,Nat.reduceAdd,Q15,Int.reduceToNat,Q16,Q17,Q18,Q19,Q20,reduceIte,Q21,Q22,zF,rep,zY,zdD,toD,zad,Q23,Q24,Q25,Q26,Q27,Q28,Nat.reduceLeDiff,Q29,Nat.reduceSub,Q30,Q31,Q32,sc,Q33,Q34,Q35,Q36,Q37,Q26,Q38,Q39,zfZ,zfW,zfT,zga,zbR,zfX,zfU,zfY,zfV,zbQ,zbS,zgb,zgc,Bool.not_true,Bool.not_false,List.length_map,a]; rfl) : P := (e a).mpr h
theorem c_rIn {σ : List zh} {s : Nat} {b : Int} (hs : s < 65536) {K : KT} (hK : K (.d (.bool (inF s b))) σ) : zy Tryz.prog zld [.d (.int .u16 s), .d (.int .i64 b)] σ K := by
 refine zi e_r12_Has.is rfl fun hl _ => e_r12_Has.goes ?_
 have fin : ∀ z : Bool,inF s b = z → K (.d (.bool z)) σ := fun z hz => by rw [← hz]; exact hK
 clear hK
 simp only [S_r12_Has,iN,bT,bF,eN]
 refine zB 13 (fun k vs q => q = σ ∧ vs = [.d (.int .u16 (s / 2 ^ k : Nat)), .d (.int .i64 k)] ∧ ¬ (0 ≤ b ∧ b < k ∧ s / 2 ^ b.toNat % 2 = 1)) ⟨rfl,by simp,by omega⟩ ?_
 rintro k vs q hk ⟨rfl,rfl,hno⟩
 have hle : s / 2 ^ k ≤ s := Nat.div_le_self _ _
 have hz1 : s / 2 ^ (k + 1) = s / 2 ^ k / 2 := by rw [Nat.pow_succ, ← Nat.div_div_eq_div_mul]
 have hbit : b = (k : Int) → s / 2 ^ b.toNat = s / 2 ^ k := fun h => by rw [h]; rfl
 obtain ⟨z,hz⟩ : ∃ z,s / 2 ^ k = z := ⟨_,rfl⟩
 rw [hz] at hle hz1 hbit ⊢
 by_cases hlt : k < 13
 ·have hd : decide ((k : Int) < 13) = true := by simp; omega
  have hw := wk13 k (by omega)
  have hrem : (z : Int).tmod 2 = ((z % 2 : Nat) : Int) := by rw [Int.tmod_eq_emod_of_nonneg (by omega)]; rfl
  have hquo : IntKind.u16.wrap ((z : Int).tdiv 2) = ((z / 2 : Nat) : Int) := by
   rw [Int.tdiv_eq_ediv_of_nonneg (by omega),show (z : Int) / 2 = ((z / 2 : Nat) : Int) from rfl]
   simp [IntKind.wrap,IntKind.bits,IntKind.signed]
   omega
  cases h1 : ((k : Int) == b)
  ·(repeat' first | refine ztL (zkg hd (zkg h1 (zkg hrem (zkg hquo hw)))) ?_ | with_reducible first | exact ⟨⟩ | refine zg ?_ | fail)
   refine zap.next hlt ⟨rfl,by rw [hz1], ?_⟩
   have : ¬ (k : Int) = b := by simpa using h1
   rintro ⟨g1,g2,g3⟩
   exact hno ⟨g1,by omega,g3⟩
  ·have hb : (k : Int) = b := by simpa using h1
   have hbt : b.toNat = k := by omega
   cases h2 : (((z % 2 : Nat) : Int) == 1)
   ·have h2' : ¬ z % 2 = 1 := by simp at h2; omega
    (repeat' first | refine ztL (zkg hd (zkg h1 (zkg h2 (zkg hrem (zkg hquo hw))))) ?_ | with_reducible first | exact ⟨⟩ | refine zg ?_ | fail)
    refine zap.next hlt ⟨rfl,by rw [hz1], ?_⟩
    rintro ⟨g1,g2,g3⟩
    rw [hbit hb.symm] at g3
    exact h2' g3
   ·have h2' : z % 2 = 1 := by simp at h2; omega
    (repeat' first | refine ztL (zkg hd (zkg h1 (zkg h2 (zkg hrem (zkg hquo hw))))) ?_ | with_reducible first | exact ⟨⟩ | refine zg ?_ | fail)
    (first | refine zX hl ?_ | refine zW hl ?_)
    exact fin _ (decide_eq_true ⟨by omega,by omega,by rw [hbit hb.symm]; exact h2'⟩)
 ·have hd : decide ((k : Int) < 13) = false := by simp; omega
  (repeat' first | refine ztL hd ?_ | with_reducible first | exact ⟨⟩ | refine zg ?_ | fail)
  (first | refine zX hl ?_ | refine zW hl ?_)
  exact fin _ (decide_eq_false fun h => hno ⟨h.1,by omega,h.2.2⟩)
theorem c_rList {σ : List zh} {s : Nat} (hs : s < 65536) {K : KT} (hK : K (.d (.slice (zaX (memF s)))) σ) : zy Tryz.prog zpe [.d (.int .u16 s)] σ K := by
 refine zi ztX.is rfl fun hl _ => ztX.goes ?_
 simp only [zuK,iN,bT,bF,eN]
 refine zaI 13 (fun k vs q => vs = [.own σ.length (zaX (memN s k)), .d (.int .i64 k)] ∧ q = σ ++ [.tok 1 (memN s k).length]) (.tok 0 [] 1 rfl (by simp) (.refl _ _)) ⟨rfl,rfl⟩ ?_
 rintro k vs q hk ⟨rfl,rfl⟩
 have hln := zmk s k
 have hlm : (zaX (memN s k)).length = (memN s k).length := List.length_map ..
 by_cases hlt : k < 13
 ·have hd : decide ((k : Int) < 13) = true := by simp; omega
  have hw := wk13 k (by omega)
  (repeat' first | refine ztL hd ?_ | with_reducible first | exact ⟨⟩ | refine zg ?_ | fail)
  refine c_rIn hs ?_
  have hnx := memN_next s k
  cases h1 : inF s (k : Int)
  ·rw [h1] at hnx
   simp only [Bool.false_eq_true,if_false,List.append_nil] at hnx
   (repeat' first | refine ztL hw ?_ | with_reducible first | exact ⟨⟩ | refine zg ?_ | fail)
   exact zap.next hlt ⟨by rw [hnx],by rw [hnx]⟩
  ·rw [h1,if_pos rfl] at hnx
   (repeat' first | refine ztL (zkg hw hlm) ?_ | with_reducible first | exact ⟨⟩ | refine zg ?_ | fail)
   exact zap.next hlt ⟨by rw [hnx]; simp,by rw [hnx]; simp⟩
 ·have hd : decide ((k : Int) < 13) = false := by simp; omega
  have hk13 : k = 13 := by omega
  subst hk13
  (repeat' first | refine ztL hd ?_ | with_reducible first | exact ⟨⟩ | refine zg ?_ | fail)
  (first | refine zX hl ?_ | refine zW hl ?_)
  exact hK
theorem wrap16u {x : Int} (h0 : 0 ≤ x) (h1 : x < 65536) : IntKind.u16.wrap x = x := by
 simp [IntKind.wrap,IntKind.bits,IntKind.signed]; omega
theorem c_rSetOf {σ : List zh} {l : List Int} (hl0 : l.length ≤ 1073741824) {K : KT} (hK : K (.d (.int .u16 (ofN l 13))) σ) : zy Tryz.prog zqX [.d (.slice (zaX l))] σ K := by
 refine zi e_r12_Of.is rfl fun hl _ => e_r12_Of.goes ?_
 have hlm : (zaX l).length = l.length := List.length_map ..
 simp only [S_r12_Of,iN,bT,bF,eN]
 refine zB 13 (fun k vs q => vs = [.d (.int .u16 (ofN l k)), .d (.int .u16 ((2 ^ k : Nat) : Int)), .d (.int .i64 k)] ∧ q = σ) ⟨rfl,rfl⟩ ?_
 rintro k vs q hk ⟨rfl,rfl⟩
 have hlt2 := ofN_lt l k
 have hp : 2 ^ k ≤ 2 ^ 13 := Nat.pow_le_pow_right (by omega) hk
 have hnx : ofN l (k + 1) = ofN l k + if (k : Int) ∈ l then 2 ^ k else 0 := rfl
 have hpn : 2 ^ (k + 1) = 2 ^ k * 2 := Nat.pow_succ ..
 obtain ⟨P,hP⟩ : ∃ P, 2 ^ k = P := ⟨_,rfl⟩
 obtain ⟨Q,hQ⟩ : ∃ Q,ofN l k = Q := ⟨_,rfl⟩
 rw [hP] at hlt2 hp hnx hpn ⊢
 rw [hQ] at hlt2 hnx ⊢
 by_cases hlt : k < 13
 ·have hd : decide ((k : Int) < 13) = true := by simp; omega
  have hw := wk13 k (by omega)
  have hm : IntKind.u16.wrap ((P : Int) * 2) = ((P * 2 : Nat) : Int) := by rw [wrap16u (by omega) (by omega)]; omega
  have ha : IntKind.u16.wrap ((Q : Int) + P) = ((Q + P : Nat) : Int) := by rw [wrap16u (by omega) (by omega)]; omega
  (repeat' first | refine ztL hd ?_ | with_reducible first | exact ⟨⟩ | refine zg ?_ | fail)
  refine zB l.length (fun j vs q2 => vs = [.d (.int .u16 Q), .d (.int .i64 j)] ∧ q2 = q ∧ (k : Int) ∉ l.take j) ⟨rfl,rfl,by simp⟩ ?_
  rintro j vs q hj ⟨rfl,rfl,hno⟩
  by_cases hjl : j < l.length
  ·have hd2 : decide ((j : Int) < (l.length : Int)) = true := by simp; omega
   have hx : l[j]? = some l[j] := by simp [hjl]
   have hgx := zU (f := fun t : Int => [D.int .i64 t]) hx
   obtain ⟨x,hxe⟩ : ∃ x,l[j] = x := ⟨_,rfl⟩
   rw [hxe] at hx hgx
   cases h1 : (x == (k : Int))
   ·have hne : (k : Int) ≠ x := by simp at h1; omega
    (repeat' first | refine ztL (zkg hd2 (zkg hlm (zkg hgx (zkg h1 (wk13 j (by omega)))))) ?_ | with_reducible first | exact ⟨⟩ | refine zg ?_ | fail)
    refine zap.next hjl ⟨rfl,rfl, ?_⟩
    rw [List.take_add_one,hx]
    simp [hno,hne]
   ·have he : x = (k : Int) := by simpa using h1
    have hm2 : (k : Int) ∈ l := he ▸ List.mem_of_getElem? hx
    rw [if_pos hm2] at hnx
    (repeat' first | refine ztL (zkg hd2 (zkg hlm (zkg hgx (zkg h1 (zkg hw (zkg hm ha)))))) ?_ | with_reducible first | exact ⟨⟩ | refine zg ?_ | fail)
    exact zap.next hlt ⟨by rw [hnx,hpn],rfl⟩
  ·have hd2 : decide ((j : Int) < (l.length : Int)) = false := by simp; omega
   rw [List.take_of_length_le (by omega)] at hno
   rw [if_neg hno] at hnx
   rw [Nat.add_zero] at hnx
   (repeat' first | refine ztL (zkg hd2 (zkg hlm (zkg hw hm))) ?_ | with_reducible first | exact ⟨⟩ | refine zg ?_ | fail)
   exact zap.next hlt ⟨by rw [hnx,hpn]; rfl,rfl⟩
 ·have hd : decide ((k : Int) < 13) = false := by simp; omega
  have hk13 : k = 13 := by omega
  subst hk13
  rw [← hQ]
  (repeat' first | refine ztL hd ?_ | with_reducible first | exact ⟨⟩ | refine zg ?_ | fail)
  (first | refine zX hl ?_ | refine zW hl ?_)
  exact hK
theorem times13 (f : Int) : 0 ≤ zdp 3 f ∧ zdp 3 f ≤ 13 := by
 unfold zdp; split <;> omega
theorem gq54 {P Q : Prop} (h : Q) (e : P = Q := by simp -dsimp only [↓zen, ↓zaw, ↓zba, ↓zeo, ↓zej, ↓zeh, ↓zek, ↓zei, ↓zbf, ↓zbb, ↓zbg, ↓zbc, ↓zel, ↓zaZ, ↓zbh, ↓zbd, ↓zbi, ↓zbe, ↓zeg, ↓zem, ↓zaY, ↓zbj, ↓zee, ↓zed, ↓zef,iN,bT,bF,eN, ↓zcI, ↓unC, ↓zV, ↓zJ, ↓zK, ↓zN, ↓zaa, ↓zas, ↓zbH, ↓zah, ↓zaV, ↓zQ, ↓zp, ↓zo, ↓zbr, ↓zk, ↓zag, ↓zG, ↓zaB, ↓zaF, ↓ze, ↓zE, ↓zr, ↓zw, ↓zam, ↓zcs, ↓zcM, ↓zak, ↓zat, ↓zaE, ↓zaJ, ↓zaP, ↓zu, ↓zai, ↓zL, ↓zA, ↓zab,zcT,zaU,zaT,unA,zcW,bnd,zds,zae,zR,zdv,dm,dm1,zC,zaj,zdH,zdG,zM,Q0,Q1,Q2,Q3,Q4,Q5,zT,zq,zx,zO,zI,Q6,Q7,Q8,Q9,Q10,Q11,Q12,Q13,Q14,Nat.reduceAdd,Q15,Int.reduceToNat,Q16,Q17,Q18,Q19,Q20,reduceIte,Q21,Q22,zF,rep,zY,zdD,toD,zad,Q23,Q24,Q25,Q26,Q27,Q28,Nat.reduceLeDiff,Q29,Nat.reduceSub,Q30,Q31,Q32,sc,Q33,Q34,Q35,Q36,Q37,Q26,Q38,Q39,zfZ,zfW,zfT,zga,zbR,zfX,zfU,zfY,zfV,zbQ,zbS,zgb,zgc,Bool.not_true,Bool.not_false,List.length_map]; rfl) : P := e.mpr h
theorem c_rAll {σ : List zh} {f : Int} {K : KT} (hK : K (.d (.int .u16 (allF (zdp 3 f).toNat))) σ) : zy Tryz.prog zrw [.d (.int .i64 f)] σ K := by
 refine zi e_r12_All.is rfl fun hl _ => e_r12_All.goes ?_
 have ht := times13 f
 obtain ⟨N,hN⟩ : ∃ N : Nat,(zdp 3 f).toNat = N := ⟨_,rfl⟩
 have hN2 : zdp 3 f = (N : Int) := by omega
 rw [hN] at hK
 simp only [S_r12_All,iN,bT,bF,eN]
 refine zaI N (fun k vs q => vs = [.own σ.length (zaX (zrg k)), .d (.int .i64 k)] ∧ q = σ ++ [.tok 1 k]) (.tok 0 [] 1 rfl (by simp) (.refl _ _)) ⟨rfl,rfl⟩ ?_
 rintro k vs q hk ⟨rfl,rfl⟩
 have hlm : (zaX (zrg k)).length = k := by simp [zrg]
 (repeat' first | refine gq54 ?_ | with_reducible first | exact ⟨⟩ | refine zg ?_ | fail)
 refine zuw ?_
 rw [hN2]
 by_cases hlt : k < N
 ·have hd : decide ((k : Int) < (N : Int)) = true := by simp; omega
  (repeat' first | refine ztL (zkg hd (zkg (wk13 k (by omega)) hlm)) ?_ | with_reducible first | exact ⟨⟩ | refine zg ?_ | fail)
  exact zap.next hlt ⟨by rw [ztn]; simp,rfl⟩
 ·have hd : decide ((k : Int) < (N : Int)) = false := by simp; omega
  have hk2 : k = N := by omega
  subst hk2
  (repeat' first | refine ztL hd ?_ | with_reducible first | exact ⟨⟩ | refine zg ?_ | fail)
  refine c_rSetOf (by rw [List.length_map] at hlm; omega) ?_
  (repeat' first | refine gq54 ?_ | with_reducible first | exact ⟨⟩ | refine zg ?_ | fail)
  (first | refine zX hl ?_ | refine zW hl ?_)
  exact hK
theorem c_rBoth {σ : List zh} {a b : Nat} (ha : a < 65536) (hb : b < 65536) {K : KT} (hK : K (.d (.int .u16 (bothF a b))) σ) : zy Tryz.prog zpf [.d (.int .u16 a), .d (.int .u16 b)] σ K := by
 refine zi ztY.is rfl fun hl _ => ztY.goes ?_
 simp only [zuL,iN,bT,bF,eN]
 refine zaI 13 (fun k vs q => vs = [.own σ.length (zaX (zsv a b k)), .d (.int .i64 k)] ∧ q = σ ++ [.tok 1 (zsv a b k).length]) (.tok 0 [] 1 rfl (by simp) (.refl _ _)) ⟨rfl,rfl⟩ ?_
 rintro k vs q hk ⟨rfl,rfl⟩
 have hln := bothL_len a b k
 have hlm : (zaX (zsv a b k)).length = (zsv a b k).length := List.length_map ..
 by_cases hlt : k < 13
 ·have hd : decide ((k : Int) < 13) = true := by simp; omega
  have hw := wk13 k (by omega)
  (repeat' first | refine ztL hd ?_ | with_reducible first | exact ⟨⟩ | refine zg ?_ | fail)
  refine c_rIn ha ?_
  have hnx := bothL_next a b k
  cases h1 : inF a (k : Int)
  ·rw [h1] at hnx
   simp only [Bool.false_and,Bool.false_eq_true,if_false,List.append_nil] at hnx
   (repeat' first | refine ztL hw ?_ | with_reducible first | exact ⟨⟩ | refine zg ?_ | fail)
   exact zap.next hlt ⟨by rw [hnx],by rw [hnx]⟩
  ·rw [h1,Bool.true_and] at hnx
   (repeat' first | refine gq54 ?_ | with_reducible first | exact ⟨⟩ | refine zg ?_ | fail)
   refine c_rIn hb ?_
   cases h2 : inF b (k : Int)
   ·rw [h2] at hnx
    simp only [Bool.false_eq_true,if_false,List.append_nil] at hnx
    (repeat' first | refine ztL hw ?_ | with_reducible first | exact ⟨⟩ | refine zg ?_ | fail)
    exact zap.next hlt ⟨by rw [hnx],by rw [hnx]⟩
   ·rw [h2,if_pos rfl] at hnx
    (repeat' first | refine ztL (zkg hw hlm) ?_ | with_reducible first | exact ⟨⟩ | refine zg ?_ | fail)
    exact zap.next hlt ⟨by rw [hnx]; simp,by rw [hnx]; simp⟩
 ·have hd : decide ((k : Int) < 13) = false := by simp; omega
  have hk13 : k = 13 := by omega
  subst hk13
  (repeat' first | refine ztL hd ?_ | with_reducible first | exact ⟨⟩ | refine zg ?_ | fail)
  refine c_rSetOf (by omega) ?_
  (repeat' first | refine gq54 ?_ | with_reducible first | exact ⟨⟩ | refine zg ?_ | fail)
  (first | refine zX hl ?_ | refine zW hl ?_)
  exact hK
end Go.Proofs.YtncpaekiidpchaaGreat

/- What chapter 23 begins with: blocks, and certificates of what was checked. No program in sight. -/
set_option maxRecDepth 100000
namespace Go.Proofs.YtncpaekiidpchaaGreat
open Go.AW
theorem nodeB_len {a b : Int} (ha : a ≤ 1048577) (hb : b ≤ 1048577) : (ziU a b).length ≤ 1073741824 := by
 have h1 := zD (n := a.toNat) (by omega)
 have h2 := zD (n := b.toNat) (by omega)
 simp only [ziU,List.length_cons,List.length_append]; omega
theorem znF : ∀ (f : Nat) {L l : List (List UInt8)},l.length ≤ f → zkB L → (∀ x ∈ l,x.length ≤ 1073741800) → zkB (zbM L l).2 := by
 intro f
 induction f with
 | zero =>
  intro L l hf hL _
  have : l = [] := List.eq_nil_of_length_eq_zero (by omega)
  subst this
  exact hL.sum (by simp)
 | succ f ih =>
  intro L l hf hL hx
  match l,hf,hx with
  | [],_,_ => exact hL.sum (by simp)
  | [x],_,hx => exact hL.sum (by have := hx x (by simp); simp [zpw]; omega)
  | x :: y :: r,hf,hx =>
   obtain ⟨l,hl⟩ : ∃ l,x :: y :: r = l := ⟨_,rfl⟩
   have h2 : 2 ≤ l.length := by rw [← hl]; simp
   rw [hl] at hf hx ⊢
   have hs := zbB h2
   have h1 := ih (L := L) (l := l.take (zj l.length)) (by rw [List.length_take]; omega) hL fun x h => hx x (List.mem_of_mem_take h)
   have h3 := ih (L := (zbM L (l.take (zj l.length))).2) (l := l.drop (zj l.length)) (by rw [List.length_drop]; omega) h1 fun x h => hx x (List.mem_of_mem_drop h)
   rw [zrn h2]
   refine h3.sum (nodeB_len ?_ ?_)
   ·exact (zcz _ (Nat.le_refl _) hL.len).2.2
   ·exact (zcz _ (Nat.le_refl _) h1.len).2.2
theorem zqQ {L : List (List UInt8)} (h : zkB L) (x : zeb) : zkB (zgu L x) := by
 unfold zgu
 split
 ·exact h
 ·rename_i hc
  have := hdrB_len (zdt.1 (show zaG x = 0 by simpa using hc))
  exact h.sum (by omega)
theorem pl_small {p : zbt} (h : PlI p) : zjL p := ⟨⟨by have := h.1; omega,by have := h.2.1; omega⟩,by have := h.2.2.1; omega,by have := h.2.2.2; omega⟩
theorem PlI_len {p : zbt} (h : PlI p) : (zay p).length ≤ 1073741800 := by have := placedB_len' h; omega
theorem execI {L : List (List UInt8)} {T : zch} {h : zeb} {b : List zt} (hL : zkB L) (hT : zhO T) (hA : zlY T.last) (h8 : T.last.length = 8) (hx : ∀ s ∈ b,zkT s.op ≤ 20971520) :
  zkB (zfJ L T h b).L ∧ zhO (zfJ L T h b).T ∧ zlY (zfJ L T h b).T.last ∧ (zfJ L T h b).T.last.length = 8 ∧ ((zfJ L T h b).e = 0 → zkV ⟨(zfJ L T h b).h,b,(zfJ L T h b).p⟩) := by
 have t1 := tab_dig hL hx
 have t2 := zqQ t1 h
 have hall : ∀ (b : List zt) {T : zch},T.last.length = 8 → (zaz T b).2.last.length = 8 := fun b => by
  induction b with
  | nil => intro T h; exact h
  | cons x b ih => intro T h; exact ih (by rw [applyF_last]; exact h)
 unfold zfJ
 split
 ·rename_i c0; exact ⟨hL,hT,hA,h8,fun e => absurd e c0⟩
 rename_i c0
 split
 ·exact ⟨hL,hT,hA,h8,fun e => by simp at e⟩
 split
 ·rename_i c2; exact ⟨t1,hT,hA,h8,fun e => absurd e c2⟩
 rename_i c2
 split
 ·rename_i c3; exact ⟨t2,hT,hA,h8,fun e => absurd e c3⟩
 have p1 := zov b hT
 have p2 := zsA b hT
 have p3 := zsz b hT hA
 have t3 := znF _ (L := zgu (zuo L b) h) (l := (zaz T b).1.map zay) (Nat.le_refl _) t2 fun x hx => by
  obtain ⟨p,hp,rfl⟩ := List.mem_map.1 hx
  exact PlI_len (p1.1 p hp)
 have p4 := zri p2 p3 (hall b h8)
 have t4 := t3.sum (b := zft (zaz T b).2) (by omega)
 simp only
 split
 ·exact ⟨t4,p2,p3,hall b h8,fun e => by simp at e⟩
 ·refine ⟨t4,p2,p3,hall b h8,fun _ => ⟨?_, ?_,fun p hp => pl_small (p1.1 p hp)⟩⟩
  ·have := zjb (zdt.1 (show zaG h = 0 by simpa using c0)) h.seq (by simp [zqJ])
   constructor <;> simp only <;> omega
  ·have := dig_len (L := L) (l := b) (by simpa using c2)
   have := p1.2
   simp only; omega
def voR (seq d : Int) (s : List (List UInt8) × List zS × List zS) (key : Int) : List (List UInt8) × List zS × List zS :=
 (votL s.1 6 0 seq d,votG s.1 s.2.1 key 6 0 seq d,if votE s.1 key 6 0 seq d = 0 then s.2.2 ++ [votS s.1 key 6 0 seq d] else s.2.2)
structure zgi where
 L : List (List UInt8)
 G : List zS
 h : zeb
 T : zch
 bs : List zdT
 cs : List zfk
def stX (ks : List Int) (s : zgi) (t : List (List UInt8) × List zS × List zt) (r : ExecR) : zgi :=
 if r.e ≠ 0 then { s with L := r.L,G := t.2.1,T := r.T }
 else if r.h.seq.tmod 4 ≠ 0 then ⟨r.L,t.2.1,r.h,r.T,s.bs ++ [⟨r.h,t.2.2,r.p⟩],s.cs⟩
 else
  let v := ks.foldl (voR r.h.seq (zth r.L r.h)) (zgu r.L r.h,t.2.1, [])
  ⟨v.1,v.2.1,r.h,r.T,s.bs ++ [⟨r.h,t.2.2,r.p⟩],s.cs ++ [⟨r.h.seq,zth r.L r.h,v.2.2⟩]⟩
def stR (ks : List Int) (s : zgi) (l : List zt) : zgi :=
 let t := l.foldl seR (s.L,s.G, [])
 stX ks s t (zfJ t.1 s.T s.h t.2.2)
def st0 : zgi := ⟨(genF []).2.2, [],(genF []).1,zdL, [], []⟩
def stF (ks : List Int) (bats : List (List zt)) : zgi := (bats.take 20).foldl (stR ks) st0
structure StI (N m : Nat) (s : zgi) : Prop where
 tab : zkB s.L
 led : s.G.length ≤ N
 ledI : LedI s.G
 tops : zhO s.T
 last : zlY s.T.last
 last8 : s.T.last.length = 8
 bs : ∀ b ∈ s.bs,zkV b
 bl : s.bs.length ≤ m
 cs : ∀ c ∈ s.cs,c.signs.length ≤ 13
 cl : s.cs.length ≤ m
structure VoI (N m : Nat) (s : List (List UInt8) × List zS × List zS) : Prop where
 tab : zkB s.1
 led : s.2.1.length ≤ N
 ledI : LedI s.2.1
 len : s.2.2.length ≤ m
theorem signG_len (G : List zS) (k d : Int) : (zgT G k d).length ≤ G.length + 1 := by
 unfold zgT zsW
 repeat' split
 all_goals simp
theorem voI {N m : Nat} {s : List (List UInt8) × List zS × List zS} {seq d key : Int} (h : VoI N m s) : VoI (N + 1) (m + 1) (voR seq d s key) := by
 obtain ⟨h1,h2,h3,h4⟩ := h
 refine ⟨?_, ?_, ?_, ?_⟩
 ·simp only [voR,votL]
  split
  ·rename_i hm
   have := voteB_len hm
   exact h1.sum (by omega)
  ·exact h1
 ·simp only [voR,votG,sgnG]
  have := signG_len s.2.1 key (zew s.1 (zkO 6 0 seq d))
  repeat' split
  all_goals omega
 ·simp only [voR,votG,sgnG]
  repeat' split
  ·exact h3
  ·exact h3.sign _ _
  ·exact h3
 ·simp only [voR]
  split
  ·simp; omega
  ·omega
theorem foldVo {N m : Nat} {s : List (List UInt8) × List zS × List zS} {seq d : Int} (h : VoI N m s) (l : List Int) : VoI (N + l.length) (m + l.length) (l.foldl (voR seq d) s) := by
 induction l generalizing N m s with
 | nil => exact h
 | cons x l ih =>
  have := ih (voI (key := x) (seq := seq) (d := d) h)
  simp only [List.foldl_cons,List.length_cons]
  rwa [show N + (l.length + 1) = N + 1 + l.length by omega,show m + (l.length + 1) = m + 1 + l.length by omega]
theorem ledSe {l : List zt} {s : List (List UInt8) × List zS × List zt} (h : LedI s.2.1) : LedI (l.foldl seR s).2.1 := by
 induction l generalizing s with
 | nil => exact h
 | cons x l ih =>
  refine ih ?_
  simp only [seR,sealG]
  split
  ·exact h
  ·exact h.sign _ _
theorem stI {N m : Nat} {s : zgi} {ks : List Int} {l : List zt} (h : StI N m s) (hl : ∀ x ∈ l,zkT x.op ≤ 20971520) (hk : ks.length ≤ 13) : StI (N + l.length + 13) (m + 1) (stR ks s l) := by
 have h1 := foldSe (n := s.G.length) (m := 0) (s := (s.L,s.G, [])) (l := l) ⟨h.tab,Nat.le_refl _,by simp,by simp⟩ hl
 have h2 : LedI (l.foldl seR (s.L,s.G, [])).2.1 := ledSe h.ledI
 have hN := h.led
 have hg := h1.led
 obtain ⟨e1,e2,e3,e4,e5⟩ := execI (h := s.h) h1.tab h.tops h.last h.last8 h1.sz
 have hbs : ∀ x,zkV x → ∀ b ∈ s.bs ++ [x],zkV b := fun x hx b hb => by
  rcases List.mem_append.1 hb with hb | hb
  ·exact h.bs b hb
  ·simp only [List.mem_singleton] at hb; subst hb; exact hx
 have hbl := h.bl
 have hcl := h.cl
 unfold stR stX
 simp only
 obtain ⟨t,ht⟩ : ∃ t,l.foldl seR (s.L,s.G, []) = t := ⟨_,rfl⟩
 rw [ht] at h1 h2 hg e1 e2 e3 e4 e5 ⊢
 obtain ⟨r,hr⟩ : ∃ r,zfJ t.1 s.T s.h t.2.2 = r := ⟨_,rfl⟩
 rw [hr] at e1 e2 e3 e4 e5 ⊢
 split
 ·exact ⟨e1,by simp only; omega,h2,e2,e3,e4,h.bs,by simp only; omega,h.cs,by simp only; omega⟩
 rename_i he
 have he : r.e = 0 := Classical.not_not.1 he
 split
 ·exact ⟨e1,by simp only; omega,h2,e2,e3,e4,hbs _ (e5 he),by simp; omega,h.cs,by simp only; omega⟩
 ·have v := foldVo (seq := r.h.seq) (d := zth r.L r.h) (s := (zgu r.L r.h,t.2.1, [])) (N := t.2.1.length) (m := 0) ⟨zqQ e1 r.h,Nat.le_refl _,h2,Nat.zero_le _⟩ ks
  refine ⟨v.tab,by have := v.led; simp only at this ⊢; omega,v.ledI,e2,e3,e4,hbs _ (e5 he),by simp; omega,fun c hc => ?_,by simp; omega⟩
  rcases List.mem_append.1 hc with hc | hc
  ·exact h.cs c hc
  ·simp only [List.mem_singleton] at hc
   subst hc
   have := v.len
   simp only; omega
theorem zlY.none : zlY zdL.last := fun a ha => by
 have := List.eq_of_mem_replicate ha
 subst this
 simp
theorem st0I : StI 0 0 st0 := by
 have t1 : zkB (zbM [] []).2 := znF 0 (Nat.le_refl _) zkB.nil (by simp)
 have t2 := t1.sum (b := zft zdL) (by have := zri zhO.none zlY.none rfl; omega)
 refine ⟨?_,Nat.zero_le _,⟨.nil,by simp [st0]⟩,zhO.none,zlY.none,rfl,by simp [st0],Nat.zero_le _,by simp [st0],Nat.zero_le _⟩
 simp only [st0,genF]
 split <;> exact t2
theorem foldSt {N m : Nat} {s : zgi} {ks : List Int} {bats : List (List zt)} (h : StI N m s) (hl : ∀ l ∈ bats, ∀ x ∈ l,zkT x.op ≤ 20971520) (hk : ks.length ≤ 13) :
  StI (N + (bats.map List.length).sum + 13 * bats.length) (m + bats.length) (bats.foldl (stR ks) s) := by
 induction bats generalizing N m s with
 | nil => exact h
 | cons l bats ih =>
  have := ih (stI h (hl l (by simp)) hk) fun l' h' => hl l' (by simp [h'])
  simp only [List.foldl_cons,List.length_cons,List.map_cons,List.sum_cons]
  rwa [show N + (l.length + (bats.map List.length).sum) + 13 * (bats.length + 1) = N + l.length + 13 + (bats.map List.length).sum + 13 * bats.length by omega,show m + (bats.length + 1) = m + 1 + bats.length by omega]
end Go.Proofs.YtncpaekiidpchaaGreat

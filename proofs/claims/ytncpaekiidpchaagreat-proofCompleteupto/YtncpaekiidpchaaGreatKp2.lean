/- Contracts: sets of brokers, the document's, to the last bit. -/
import Derived.Test.YtncpaekiidpchaaGreatSpNv
import Derived.Test.YtncpaekiidpchaaGreatSpBulk
import Derived.Test.YtncpaekiidpchaaGreatSpVote
set_option linter.all false
set_option maxRecDepth 100000
namespace Go.Proofs.YtncpaekiidpchaaGreat
open Go.AW
theorem wk13 (k : Nat) (h : k ≤ 1073741824) : IntKind.i64.wrap ((k : Int) + 1) = ((k + 1 : Nat) : Int) := by rw [zX (by omega) (by omega)]; rfl
theorem zsa {A P Q : Prop} (a : A) (h : Q) (e : A → P = Q := by intro a; simp -dsimp only [↓zey, ↓zau, ↓zbj, ↓zeA, ↓zes, ↓zeq, ↓zet, ↓zer, ↓zbo, ↓zbk, ↓zbp, ↓zbl, ↓zeu, ↓zbi, ↓zbq, ↓zbm, ↓zbr, ↓zbn, ↓zep, ↓zew, ↓zbh, ↓zbs, ↓zeg, ↓zef, ↓zeo,iN,bT,bF,eN, ↓zcS, ↓unC, ↓zW, ↓zK, ↓zL, ↓zN, ↓zZ, ↓zaw, ↓zbT, ↓zag, ↓zbu, ↓zP, ↓zq, ↓zo, ↓zby, ↓zl, ↓zaf, ↓zH, ↓zaC, ↓zaG, ↓ze, ↓zC, ↓zt, ↓zw, ↓zan, ↓zcC, ↓zdb, ↓zal, ↓zat, ↓zaF, ↓zaP, ↓zaW, ↓zu, ↓zai, ↓zM, ↓zA, ↓zaa,zdi,zbd,zba,unA,zdk,bnd,zdw,zac,zS,zdy,dm,dm1,zB,zak,zdP,zdO,zQ,Q0,Q1,Q2,Q3,Q4,Q5,zR,zr,zy,zO,zI,Q6,Q7,Q8,Q9,Q10,Q11,Q12,Q13,Q14,Nat.reduceAdd,Q15,Int.reduceToNat,Q16,Q17,Q18,Q19,Q20,reduceIte,Q21,Q22,zE,rep,zV,zdG,toD,zab,Q23,Q24,Q25,Q26,Q27,Q28,Nat.reduceLeDiff,Q29,Nat.reduceSub,Q30,Q31,Q32,sc,Q33,Q34,Q35,Q36,Q37,Q26,Q38,Q39,zgH,zgE,zgB,zgI,zcf,zgF,zgC,zgG,zgD,zce,zcg,zgJ,zgK,Bool.not_true,Bool.not_false,List.length_map,a]; rfl) : P := (e a).mpr h
theorem c_rIn {σ : List zg} {s : Nat} {b : Int} (hs : s < 65536) {K : KT} (hK : K (.d (.bool (inF s b))) σ) : zD Tryz.prog zkt [.d (.int .u16 s), .d (.int .i64 b)] σ K := by
 refine zj e_r12_Has.is rfl fun hl _ => e_r12_Has.goes ?_
 have fin : ∀ z : Bool,inF s b = z → K (.d (.bool z)) σ := fun z hz => by rw [← hz]; exact hK
 clear hK
 simp only [S_r12_Has,iN,bT,bF,eN]
 refine zG 13 (fun k vs q => q = σ ∧ vs = [.d (.int .u16 (s / 2 ^ k : Nat)), .d (.int .i64 k)] ∧ ¬ (0 ≤ b ∧ b < k ∧ s / 2 ^ b.toNat % 2 = 1)) ⟨rfl,by simp,by omega⟩ ?_
 rintro k vs q hk ⟨rfl,rfl,hno⟩
 have hle : s / 2 ^ k ≤ s := Nat.div_le_self _ _
 have hz1 : s / 2 ^ (k + 1) = s / 2 ^ k / 2 := by rw [Nat.pow_succ, ← Nat.div_div_eq_div_mul]
 have hbit : b = (k : Int) → s / 2 ^ b.toNat = s / 2 ^ k := fun h => by rw [h]; rfl
 obtain ⟨z,hz⟩ : ∃ z,s / 2 ^ k = z := ⟨_,rfl⟩
 rw [hz] at hle hz1 hbit ⊢
 by_cases hlt : k < 13
 ·have hd : decide ((k : Int) < 13) = true := by simp; omega
  have hw := wk13 k (by omega)
  have hrem : (z : Int).tmod 2 = ((z % 2 : Nat) : Int) := by rw [Int.tmod_eq_emod_of_nonneg (by omega)]; rfl
  have hquo : IntKind.u16.wrap ((z : Int).tdiv 2) = ((z / 2 : Nat) : Int) := by
   rw [Int.tdiv_eq_ediv_of_nonneg (by omega),show (z : Int) / 2 = ((z / 2 : Nat) : Int) from rfl]
   simp [IntKind.wrap,IntKind.bits,IntKind.signed]
   omega
  cases h1 : ((k : Int) == b)
  ·(repeat' first | refine zsa (zjA hd (zjA h1 (zjA hrem (zjA hquo hw)))) ?_ | with_reducible first | exact ⟨⟩ | refine zh ?_ | fail)
   refine zav.next hlt ⟨rfl,by rw [hz1], ?_⟩
   have : ¬ (k : Int) = b := by simpa using h1
   rintro ⟨g1,g2,g3⟩
   exact hno ⟨g1,by omega,g3⟩
  ·have hb : (k : Int) = b := by simpa using h1
   have hbt : b.toNat = k := by omega
   cases h2 : (((z % 2 : Nat) : Int) == 1)
   ·have h2' : ¬ z % 2 = 1 := by simp at h2; omega
    (repeat' first | refine zsa (zjA hd (zjA h1 (zjA h2 (zjA hrem (zjA hquo hw))))) ?_ | with_reducible first | exact ⟨⟩ | refine zh ?_ | fail)
    refine zav.next hlt ⟨rfl,by rw [hz1], ?_⟩
    rintro ⟨g1,g2,g3⟩
    rw [hbit hb.symm] at g3
    exact h2' g3
   ·have h2' : z % 2 = 1 := by simp at h2; omega
    (repeat' first | refine zsa (zjA hd (zjA h1 (zjA h2 (zjA hrem (zjA hquo hw))))) ?_ | with_reducible first | exact ⟨⟩ | refine zh ?_ | fail)
    (first | refine zaq hl ?_ | refine zap hl ?_)
    exact fin _ (decide_eq_true ⟨by omega,by omega,by rw [hbit hb.symm]; exact h2'⟩)
 ·have hd : decide ((k : Int) < 13) = false := by simp; omega
  (repeat' first | refine zsa hd ?_ | with_reducible first | exact ⟨⟩ | refine zh ?_ | fail)
  (first | refine zaq hl ?_ | refine zap hl ?_)
  exact fin _ (decide_eq_false fun h => hno ⟨h.1,by omega,h.2.2⟩)
theorem c_rList {σ : List zg} {s : Nat} (hs : s < 65536) {K : KT} (hK : K (.d (.slice (zbO (memF s)))) σ) : zD Tryz.prog zlt [.d (.int .u16 s)] σ K := by
 refine zj zsP.is rfl fun hl _ => zsP.goes ?_
 simp only [ztt,iN,bT,bF,eN]
 refine zaT 13 (fun k vs q => vs = [.own σ.length (zbO (memN s k)), .d (.int .i64 k)] ∧ q = σ ++ [.tok 1 (memN s k).length]) (.tok 0 [] 1 rfl (by simp) (.refl _ _)) ⟨rfl,rfl⟩ ?_
 rintro k vs q hk ⟨rfl,rfl⟩
 have hln := zgs s k
 have hlm : (zbO (memN s k)).length = (memN s k).length := List.length_map ..
 by_cases hlt : k < 13
 ·have hd : decide ((k : Int) < 13) = true := by simp; omega
  have hw := wk13 k (by omega)
  (repeat' first | refine zsa hd ?_ | with_reducible first | exact ⟨⟩ | refine zh ?_ | fail)
  refine c_rIn hs ?_
  have hnx := memN_next s k
  cases h1 : inF s (k : Int)
  ·rw [h1] at hnx
   simp only [Bool.false_eq_true,if_false,List.append_nil] at hnx
   (repeat' first | refine zsa hw ?_ | with_reducible first | exact ⟨⟩ | refine zh ?_ | fail)
   exact zav.next hlt ⟨by rw [hnx],by rw [hnx]⟩
  ·rw [h1,if_pos rfl] at hnx
   (repeat' first | refine zsa (zjA hw hlm) ?_ | with_reducible first | exact ⟨⟩ | refine zh ?_ | fail)
   exact zav.next hlt ⟨by rw [hnx]; simp,by rw [hnx]; simp⟩
 ·have hd : decide ((k : Int) < 13) = false := by simp; omega
  have hk13 : k = 13 := by omega
  subst hk13
  (repeat' first | refine zsa hd ?_ | with_reducible first | exact ⟨⟩ | refine zh ?_ | fail)
  (first | refine zaq hl ?_ | refine zap hl ?_)
  exact hK
theorem gq51 {P Q : Prop} (h : Q) (e : P = Q := by simp -dsimp only [↓zey, ↓zau, ↓zbj, ↓zeA, ↓zes, ↓zeq, ↓zet, ↓zer, ↓zbo, ↓zbk, ↓zbp, ↓zbl, ↓zeu, ↓zbi, ↓zbq, ↓zbm, ↓zbr, ↓zbn, ↓zep, ↓zew, ↓zbh, ↓zbs, ↓zeg, ↓zef, ↓zeo,iN,bT,bF,eN, ↓zcS, ↓unC, ↓zW, ↓zK, ↓zL, ↓zN, ↓zZ, ↓zaw, ↓zbT, ↓zag, ↓zbu, ↓zP, ↓zq, ↓zo, ↓zby, ↓zl, ↓zaf, ↓zH, ↓zaC, ↓zaG, ↓ze, ↓zC, ↓zt, ↓zw, ↓zan, ↓zcC, ↓zdb, ↓zal, ↓zat, ↓zaF, ↓zaP, ↓zaW, ↓zu, ↓zai, ↓zM, ↓zA, ↓zaa,zdi,zbd,zba,unA,zdk,bnd,zdw,zac,zS,zdy,dm,dm1,zB,zak,zdP,zdO,zQ,Q0,Q1,Q2,Q3,Q4,Q5,zR,zr,zy,zO,zI,Q6,Q7,Q8,Q9,Q10,Q11,Q12,Q13,Q14,Nat.reduceAdd,Q15,Int.reduceToNat,Q16,Q17,Q18,Q19,Q20,reduceIte,Q21,Q22,zE,rep,zV,zdG,toD,zab,Q23,Q24,Q25,Q26,Q27,Q28,Nat.reduceLeDiff,Q29,Nat.reduceSub,Q30,Q31,Q32,sc,Q33,Q34,Q35,Q36,Q37,Q26,Q38,Q39,zgH,zgE,zgB,zgI,zcf,zgF,zgC,zgG,zgD,zce,zcg,zgJ,zgK,Bool.not_true,Bool.not_false,List.length_map]; rfl) : P := e.mpr h
theorem c_rMany {σ : List zg} {s : Nat} (hs : s < 65536) {K : KT} (hK : K (.d (.int .i64 (memF s).length)) σ) : zD Tryz.prog zox [.d (.int .u16 s)] σ K := by
 refine zj zsO.is rfl fun hl _ => zsO.goes ?_
 have hlm : (zbO (memF s)).length = (memF s).length := List.length_map ..
 simp only [zts,iN,bT,bF,eN]
 (repeat' first | refine gq51 ?_ | with_reducible first | exact ⟨⟩ | refine zh ?_ | fail)
 refine c_rList hs ?_
 (repeat' first | refine zsa hlm ?_ | with_reducible first | exact ⟨⟩ | refine zh ?_ | fail)
 (first | refine zaq hl ?_ | refine zap hl ?_)
 exact hK
theorem wrap16u {x : Int} (h0 : 0 ≤ x) (h1 : x < 65536) : IntKind.u16.wrap x = x := by
 simp [IntKind.wrap,IntKind.bits,IntKind.signed]; omega
theorem c_rSetOf {σ : List zg} {l : List Int} (hl0 : l.length ≤ 1073741824) {K : KT} (hK : K (.d (.int .u16 (ofN l 13))) σ) : zD Tryz.prog zqe [.d (.slice (zbO l))] σ K := by
 refine zj e_r12_Of.is rfl fun hl _ => e_r12_Of.goes ?_
 have hlm : (zbO l).length = l.length := List.length_map ..
 simp only [S_r12_Of,iN,bT,bF,eN]
 refine zG 13 (fun k vs q => vs = [.d (.int .u16 (ofN l k)), .d (.int .u16 ((2 ^ k : Nat) : Int)), .d (.int .i64 k)] ∧ q = σ) ⟨rfl,rfl⟩ ?_
 rintro k vs q hk ⟨rfl,rfl⟩
 have hlt2 := ofN_lt l k
 have hp : 2 ^ k ≤ 2 ^ 13 := Nat.pow_le_pow_right (by omega) hk
 have hnx : ofN l (k + 1) = ofN l k + if (k : Int) ∈ l then 2 ^ k else 0 := rfl
 have hpn : 2 ^ (k + 1) = 2 ^ k * 2 := Nat.pow_succ ..
 obtain ⟨P,hP⟩ : ∃ P, 2 ^ k = P := ⟨_,rfl⟩
 obtain ⟨Q,hQ⟩ : ∃ Q,ofN l k = Q := ⟨_,rfl⟩
 rw [hP] at hlt2 hp hnx hpn ⊢
 rw [hQ] at hlt2 hnx ⊢
 by_cases hlt : k < 13
 ·have hd : decide ((k : Int) < 13) = true := by simp; omega
  have hw := wk13 k (by omega)
  have hm : IntKind.u16.wrap ((P : Int) * 2) = ((P * 2 : Nat) : Int) := by rw [wrap16u (by omega) (by omega)]; omega
  have ha : IntKind.u16.wrap ((Q : Int) + P) = ((Q + P : Nat) : Int) := by rw [wrap16u (by omega) (by omega)]; omega
  (repeat' first | refine zsa hd ?_ | with_reducible first | exact ⟨⟩ | refine zh ?_ | fail)
  refine zG l.length (fun j vs q2 => vs = [.d (.int .u16 Q), .d (.int .i64 j)] ∧ q2 = q ∧ (k : Int) ∉ l.take j) ⟨rfl,rfl,by simp⟩ ?_
  rintro j vs q hj ⟨rfl,rfl,hno⟩
  by_cases hjl : j < l.length
  ·have hd2 : decide ((j : Int) < (l.length : Int)) = true := by simp; omega
   have hx : l[j]? = some l[j] := by simp [hjl]
   have hgx := zae (f := fun t : Int => [D.int .i64 t]) hx
   obtain ⟨x,hxe⟩ : ∃ x,l[j] = x := ⟨_,rfl⟩
   rw [hxe] at hx hgx
   cases h1 : (x == (k : Int))
   ·have hne : (k : Int) ≠ x := by simp at h1; omega
    (repeat' first | refine zsa (zjA hd2 (zjA hlm (zjA hgx (zjA h1 (wk13 j (by omega)))))) ?_ | with_reducible first | exact ⟨⟩ | refine zh ?_ | fail)
    refine zav.next hjl ⟨rfl,rfl, ?_⟩
    rw [List.take_add_one,hx]
    simp [hno,hne]
   ·have he : x = (k : Int) := by simpa using h1
    have hm2 : (k : Int) ∈ l := he ▸ List.mem_of_getElem? hx
    rw [if_pos hm2] at hnx
    (repeat' first | refine zsa (zjA hd2 (zjA hlm (zjA hgx (zjA h1 (zjA hw (zjA hm ha)))))) ?_ | with_reducible first | exact ⟨⟩ | refine zh ?_ | fail)
    exact zav.next hlt ⟨by rw [hnx,hpn],rfl⟩
  ·have hd2 : decide ((j : Int) < (l.length : Int)) = false := by simp; omega
   rw [List.take_of_length_le (by omega)] at hno
   rw [if_neg hno] at hnx
   rw [Nat.add_zero] at hnx
   (repeat' first | refine zsa (zjA hd2 (zjA hlm (zjA hw hm))) ?_ | with_reducible first | exact ⟨⟩ | refine zh ?_ | fail)
   exact zav.next hlt ⟨by rw [hnx,hpn]; rfl,rfl⟩
 ·have hd : decide ((k : Int) < 13) = false := by simp; omega
  have hk13 : k = 13 := by omega
  subst hk13
  rw [← hQ]
  (repeat' first | refine zsa hd ?_ | with_reducible first | exact ⟨⟩ | refine zh ?_ | fail)
  (first | refine zaq hl ?_ | refine zap hl ?_)
  exact hK
theorem times13 (f : Int) : 0 ≤ zbP 3 f ∧ zbP 3 f ≤ 13 := by
 unfold zbP; split <;> omega
theorem c_rAll {σ : List zg} {f : Int} {K : KT} (hK : K (.d (.int .u16 (allF (zbP 3 f).toNat))) σ) : zD Tryz.prog zne [.d (.int .i64 f)] σ K := by
 refine zj e_r12_All.is rfl fun hl _ => e_r12_All.goes ?_
 have ht := times13 f
 obtain ⟨N,hN⟩ : ∃ N : Nat,(zbP 3 f).toNat = N := ⟨_,rfl⟩
 have hN2 : zbP 3 f = (N : Int) := by omega
 rw [hN] at hK
 simp only [S_r12_All,iN,bT,bF,eN]
 refine zaT N (fun k vs q => vs = [.own σ.length (zbO (zok k)), .d (.int .i64 k)] ∧ q = σ ++ [.tok 1 k]) (.tok 0 [] 1 rfl (by simp) (.refl _ _)) ⟨rfl,rfl⟩ ?_
 rintro k vs q hk ⟨rfl,rfl⟩
 have hlm : (zbO (zok k)).length = k := by simp [zok]
 (repeat' first | refine gq51 ?_ | with_reducible first | exact ⟨⟩ | refine zh ?_ | fail)
 refine c_rBrokers ?_
 rw [hN2]
 by_cases hlt : k < N
 ·have hd : decide ((k : Int) < (N : Int)) = true := by simp; omega
  (repeat' first | refine zsa (zjA hd (zjA (wk13 k (by omega)) hlm)) ?_ | with_reducible first | exact ⟨⟩ | refine zh ?_ | fail)
  exact zav.next hlt ⟨by rw [zsg]; simp,rfl⟩
 ·have hd : decide ((k : Int) < (N : Int)) = false := by simp; omega
  have hk2 : k = N := by omega
  subst hk2
  (repeat' first | refine zsa hd ?_ | with_reducible first | exact ⟨⟩ | refine zh ?_ | fail)
  refine c_rSetOf (by rw [List.length_map] at hlm; omega) ?_
  (repeat' first | refine gq51 ?_ | with_reducible first | exact ⟨⟩ | refine zh ?_ | fail)
  (first | refine zaq hl ?_ | refine zap hl ?_)
  exact hK
theorem c_rBoth {σ : List zg} {a b : Nat} (ha : a < 65536) (hb : b < 65536) {K : KT} (hK : K (.d (.int .u16 (zuw a b))) σ) : zD Tryz.prog zlu [.d (.int .u16 a), .d (.int .u16 b)] σ K := by
 refine zj zsQ.is rfl fun hl _ => zsQ.goes ?_
 simp only [ztu,iN,bT,bF,eN]
 refine zaT 13 (fun k vs q => vs = [.own σ.length (zbO (zru a b k)), .d (.int .i64 k)] ∧ q = σ ++ [.tok 1 (zru a b k).length]) (.tok 0 [] 1 rfl (by simp) (.refl _ _)) ⟨rfl,rfl⟩ ?_
 rintro k vs q hk ⟨rfl,rfl⟩
 have hln := bothL_len a b k
 have hlm : (zbO (zru a b k)).length = (zru a b k).length := List.length_map ..
 by_cases hlt : k < 13
 ·have hd : decide ((k : Int) < 13) = true := by simp; omega
  have hw := wk13 k (by omega)
  (repeat' first | refine zsa hd ?_ | with_reducible first | exact ⟨⟩ | refine zh ?_ | fail)
  refine c_rIn ha ?_
  have hnx := bothL_next a b k
  cases h1 : inF a (k : Int)
  ·rw [h1] at hnx
   simp only [Bool.false_and,Bool.false_eq_true,if_false,List.append_nil] at hnx
   (repeat' first | refine zsa hw ?_ | with_reducible first | exact ⟨⟩ | refine zh ?_ | fail)
   exact zav.next hlt ⟨by rw [hnx],by rw [hnx]⟩
  ·rw [h1,Bool.true_and] at hnx
   (repeat' first | refine gq51 ?_ | with_reducible first | exact ⟨⟩ | refine zh ?_ | fail)
   refine c_rIn hb ?_
   cases h2 : inF b (k : Int)
   ·rw [h2] at hnx
    simp only [Bool.false_eq_true,if_false,List.append_nil] at hnx
    (repeat' first | refine zsa hw ?_ | with_reducible first | exact ⟨⟩ | refine zh ?_ | fail)
    exact zav.next hlt ⟨by rw [hnx],by rw [hnx]⟩
   ·rw [h2,if_pos rfl] at hnx
    (repeat' first | refine zsa (zjA hw hlm) ?_ | with_reducible first | exact ⟨⟩ | refine zh ?_ | fail)
    exact zav.next hlt ⟨by rw [hnx]; simp,by rw [hnx]; simp⟩
 ·have hd : decide ((k : Int) < 13) = false := by simp; omega
  have hk13 : k = 13 := by omega
  subst hk13
  (repeat' first | refine zsa hd ?_ | with_reducible first | exact ⟨⟩ | refine zh ?_ | fail)
  refine c_rSetOf (by omega) ?_
  (repeat' first | refine gq51 ?_ | with_reducible first | exact ⟨⟩ | refine zh ?_ | fail)
  (first | refine zaq hl ?_ | refine zap hl ?_)
  exact hK
end Go.Proofs.YtncpaekiidpchaaGreat

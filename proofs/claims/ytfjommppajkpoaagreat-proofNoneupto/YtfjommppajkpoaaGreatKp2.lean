/- Contracts: sets of brokers, the document's, to the last bit. -/
import Derived.Test.YtfjommppajkpoaaGreatAu1
import Derived.Test.YtfjommppajkpoaaGreatSpBulk
import Derived.Test.YtfjommppajkpoaaGreatMk2
import Derived.Test.YtfjommppajkpoaaGreatTp7
import Derived.Test.YtfjommppajkpoaaGreatAu3
import Derived.Test.YtfjommppajkpoaaGreatSpMake
set_option linter.all false
set_option maxRecDepth 100000
namespace Go.Proofs.YtfjommppajkpoaaGreat
open Go.AW
theorem wk13 (k : Nat) (h : k ≤ 1073741824) : IntKind.i64.wrap ((k : Int) + 1) = ((k + 1 : Nat) : Int) := by rw [zJ (by omega) (by omega)]; rfl
theorem ztv {A P Q : Prop} (a : A) (h : Q) (e : A → Hd Q → P := by intro a h; (repeat' first | simp -dsimp only [↓zgr, ↓zaF, ↓zbL, ↓zgt, ↓zgn, ↓zgl, ↓zgo, ↓zgm, ↓zbR, ↓zbN, ↓zbS, ↓zbO, ↓zgp, ↓zbJ, ↓zbT, ↓zbP, ↓zbU, ↓zbQ, ↓zgj, ↓zgq, ↓zbI, ↓zbX, ↓zgc, ↓zgb, ↓zgi,iN,bT,bF,eN, ↓zdN, ↓unC, ↓zac, ↓zQ, ↓zR, ↓zV, ↓zak, ↓zau, ↓zco, ↓zag, ↓zaJ, ↓zW, ↓zp, ↓zo, ↓zbF, ↓zl, ↓zan, ↓zF, ↓zaM, ↓zaW, ↓ze, ↓zC, ↓zu, ↓zy, ↓zav, ↓zdr, ↓zdU, ↓zat, ↓zaB, ↓zaU, ↓zbk, ↓zbv, ↓zD, ↓zaq, ↓zS, ↓zE, ↓zam,zeb,zbD,zbB,unA,zei,bnd,zeF,zai,zP,zeE,dm,dm1,zB,zal,zfg,zff,zx,Q0,Q1,Q2,Q3,Q4,Q5,zZ,zh,zm,zT,zN,Q6,Q7,Q8,Q9,Q10,Q11,Q12,Q13,Q14,Nat.reduceAdd,Q15,Int.reduceToNat,Q16,Q17,Q18,Q19,Q20,reduceIte,Q21,Q22,zH,rep,zX,zfc,toD,zah,Q23,Q24,Q25,Q26,Q27,Q28,Nat.reduceLeDiff,Q29,Nat.reduceSub,Q30,Q31,Q32,sc,Q33,Q34,Q35,Q36,Q37,Q26,Q38,Q39,zkn,zkk,zkh,zko,zdu,zkl,zki,zkm,zkj,zdt,zdv,zkp,zkq,Bool.not_true,Bool.not_false,List.length_map,a] | with_reducible refine zkr ?_ | fail); exact h.go) : P := e a ⟨h⟩
theorem c_rIn {σ : List zg} {s : Nat} {b : Int} (hs : s < 65536) {K : KT} (hK : K (.d (.bool (inF s b))) σ) : zq Tryz.prog zkB [.d (.int .u16 s), .d (.int .i64 b)] σ K := by
 refine zga e_r12_Has fun hl => ?_
 have fin : ∀ z : Bool,inF s b = z → K (.d (.bool z)) σ := fun z hz => by rw [← hz]; exact hK
 clear hK
 simp only [S_r12_Has,iN,bT,bF,eN]
 refine zw 13 (fun k vs q => q = σ ∧ vs = [.d (.int .u16 (s / 2 ^ k : Nat)), .d (.int .i64 k)] ∧ ¬ (0 ≤ b ∧ b < k ∧ s / 2 ^ b.toNat % 2 = 1)) ⟨rfl,by simp,by omega⟩ ?_
 rintro k vs q hk ⟨rfl,rfl,hno⟩
 have hle : s / 2 ^ k ≤ s := Nat.div_le_self _ _
 have hz1 : s / 2 ^ (k + 1) = s / 2 ^ k / 2 := by rw [Nat.pow_succ, ← Nat.div_div_eq_div_mul]
 have hbit : b = (k : Int) → s / 2 ^ b.toNat = s / 2 ^ k := fun h => by rw [h]; rfl
 obtain ⟨z,hz⟩ : ∃ z,s / 2 ^ k = z := ⟨_,rfl⟩
 rw [hz] at hle hz1 hbit ⊢
 by_cases hlt : k < 13
 ·have hd : decide ((k : Int) < 13) = true := by simp; omega
  have hw := wk13 k (by omega)
  have hrem : (z : Int).tmod 2 = ((z % 2 : Nat) : Int) := by rw [Int.tmod_eq_emod_of_nonneg (by omega)]; rfl
  have hquo : IntKind.u16.wrap ((z : Int).tdiv 2) = ((z / 2 : Nat) : Int) := by
   rw [Int.tdiv_eq_ediv_of_nonneg (by omega),show (z : Int) / 2 = ((z / 2 : Nat) : Int) from rfl]
   simp [IntKind.wrap,IntKind.bits,IntKind.signed]
   omega
  cases h1 : ((k : Int) == b)
  ·refine ztv (zjy hd (zjy h1 (zjy hrem (zjy hquo hw)))) ?_
   refine zap.next hlt ⟨rfl,by rw [hz1], ?_⟩
   have : ¬ (k : Int) = b := by simpa using h1
   rintro ⟨g1,g2,g3⟩
   exact hno ⟨g1,by omega,g3⟩
  ·have hb : (k : Int) = b := by simpa using h1
   have hbt : b.toNat = k := by omega
   cases h2 : (((z % 2 : Nat) : Int) == 1)
   ·have h2' : ¬ z % 2 = 1 := by simp at h2; omega
    refine ztv (zjy hd (zjy h1 (zjy h2 (zjy hrem (zjy hquo hw))))) ?_
    refine zap.next hlt ⟨rfl,by rw [hz1], ?_⟩
    rintro ⟨g1,g2,g3⟩
    rw [hbit hb.symm] at g3
    exact h2' g3
   ·have h2' : z % 2 = 1 := by simp at h2; omega
    refine ztv (zjy hd (zjy h1 (zjy h2 (zjy hrem (zjy hquo hw))))) ?_
    refine zK hl ?_
    exact fin _ (decide_eq_true ⟨by omega,by omega,by rw [hbit hb.symm]; exact h2'⟩)
 ·have hd : decide ((k : Int) < 13) = false := by simp; omega
  refine ztv hd ?_
  refine zK hl ?_
  exact fin _ (decide_eq_false fun h => hno ⟨h.1,by omega,h.2.2⟩)
theorem c_rList {σ : List zg} {s : Nat} (hs : s < 65536) {K : KT} (hK : K (.d (.slice (zbd (memF s)))) σ) : zq Tryz.prog zoE [.d (.int .u16 s)] σ K := by
 refine zec e_r12_List fun hl => ?_
 simp only [ztX,iN,bT,bF,eN]
 refine zaO 13 (fun k vs q => vs = [.own σ.length (zbd (memN s k)), .d (.int .i64 k)] ∧ q = σ ++ [.tok 1 (memN s k).length]) (.tok 0 [] 1 rfl (by simp) (.refl _ _)) ⟨rfl,rfl⟩ ?_
 rintro k vs q hk ⟨rfl,rfl⟩
 have hln := znv s k
 have hlm : (zbd (memN s k)).length = (memN s k).length := List.length_map ..
 by_cases hlt : k < 13
 ·have hd : decide ((k : Int) < 13) = true := by simp; omega
  have hw := wk13 k (by omega)
  refine ztv hd ?_
  refine c_rIn hs ?_
  have hnx := memN_next s k
  cases h1 : inF s (k : Int)
  ·rw [h1] at hnx
   simp only [Bool.false_eq_true,if_false,List.append_nil] at hnx
   refine ztv hw ?_
   exact zap.next hlt ⟨by rw [hnx],by rw [hnx]⟩
  ·rw [h1,if_pos rfl] at hnx
   refine ztv (zjy hw hlm) ?_
   exact zap.next hlt ⟨by rw [hnx]; simp,by rw [hnx]; simp⟩
 ·have hd : decide ((k : Int) < 13) = false := by simp; omega
  have hk13 : k = 13 := by omega
  subst hk13
  refine ztv hd ?_
  refine zK hl ?_
  exact hK
theorem wrap16u {x : Int} (h0 : 0 ≤ x) (h1 : x < 65536) : IntKind.u16.wrap x = x := by
 simp [IntKind.wrap,IntKind.bits,IntKind.signed]; omega
theorem c_rSetOf {σ : List zg} {l : List Int} (hl0 : l.length ≤ 1073741824) {K : KT} (hK : K (.d (.int .u16 (ofN l 13))) σ) : zq Tryz.prog zqw [.d (.slice (zbd l))] σ K := by
 refine zec e_r12_Of fun hl => ?_
 have hlm : (zbd l).length = l.length := List.length_map ..
 simp only [S_r12_Of,iN,bT,bF,eN]
 refine zw 13 (fun k vs q => vs = [.d (.int .u16 (ofN l k)), .d (.int .u16 ((2 ^ k : Nat) : Int)), .d (.int .i64 k)] ∧ q = σ) ⟨rfl,rfl⟩ ?_
 rintro k vs q hk ⟨rfl,rfl⟩
 have hlt2 := ofN_lt l k
 have hp : 2 ^ k ≤ 2 ^ 13 := Nat.pow_le_pow_right (by omega) hk
 have hnx : ofN l (k + 1) = ofN l k + if (k : Int) ∈ l then 2 ^ k else 0 := rfl
 have hpn : 2 ^ (k + 1) = 2 ^ k * 2 := Nat.pow_succ ..
 obtain ⟨P,hP⟩ : ∃ P, 2 ^ k = P := ⟨_,rfl⟩
 obtain ⟨Q,hQ⟩ : ∃ Q,ofN l k = Q := ⟨_,rfl⟩
 rw [hP] at hlt2 hp hnx hpn ⊢
 rw [hQ] at hlt2 hnx ⊢
 by_cases hlt : k < 13
 ·have hd : decide ((k : Int) < 13) = true := by simp; omega
  have hw := wk13 k (by omega)
  have hm : IntKind.u16.wrap ((P : Int) * 2) = ((P * 2 : Nat) : Int) := by rw [wrap16u (by omega) (by omega)]; omega
  have ha : IntKind.u16.wrap ((Q : Int) + P) = ((Q + P : Nat) : Int) := by rw [wrap16u (by omega) (by omega)]; omega
  refine ztv hd ?_
  refine zw l.length (fun j vs q2 => vs = [.d (.int .u16 Q), .d (.int .i64 j)] ∧ q2 = q ∧ (k : Int) ∉ l.take j) ⟨rfl,rfl,by simp⟩ ?_
  rintro j vs q hj ⟨rfl,rfl,hno⟩
  by_cases hjl : j < l.length
  ·have hd2 : decide ((j : Int) < (l.length : Int)) = true := by simp; omega
   have hx : l[j]? = some l[j] := by simp [hjl]
   have hgx := zU (f := fun t : Int => [D.int .i64 t]) hx
   obtain ⟨x,hxe⟩ : ∃ x,l[j] = x := ⟨_,rfl⟩
   rw [hxe] at hx hgx
   cases h1 : (x == (k : Int))
   ·have hne : (k : Int) ≠ x := by simp at h1; omega
    refine ztv (zjy hd2 (zjy hlm (zjy hgx (zjy h1 (wk13 j (by omega)))))) ?_
    refine zap.next hjl ⟨rfl,rfl, ?_⟩
    rw [List.take_add_one,hx]
    simp [hno,hne]
   ·have he : x = (k : Int) := by simpa using h1
    have hm2 : (k : Int) ∈ l := he ▸ List.mem_of_getElem? hx
    rw [if_pos hm2] at hnx
    refine ztv (zjy hd2 (zjy hlm (zjy hgx (zjy h1 (zjy hw (zjy hm ha)))))) ?_
    exact zap.next hlt ⟨by rw [hnx,hpn],rfl⟩
  ·have hd2 : decide ((j : Int) < (l.length : Int)) = false := by simp; omega
   rw [List.take_of_length_le (by omega)] at hno
   rw [if_neg hno] at hnx
   rw [Nat.add_zero] at hnx
   refine ztv (zjy hd2 (zjy hlm (zjy hw hm))) ?_
   exact zap.next hlt ⟨by rw [hnx,hpn]; rfl,rfl⟩
 ·have hd : decide ((k : Int) < 13) = false := by simp; omega
  have hk13 : k = 13 := by omega
  subst hk13
  rw [← hQ]
  refine ztv hd ?_
  refine zK hl ?_
  exact hK
theorem times13 (f : Int) : 0 ≤ zdc 3 f ∧ zdc 3 f ≤ 13 := by
 unfold zdc; split <;> omega
theorem gq39 {P Q : Prop} (h : Q) (e : Hd Q → P := by intro h; (repeat' first | simp -dsimp only [↓zgr, ↓zaF, ↓zbL, ↓zgt, ↓zgn, ↓zgl, ↓zgo, ↓zgm, ↓zbR, ↓zbN, ↓zbS, ↓zbO, ↓zgp, ↓zbJ, ↓zbT, ↓zbP, ↓zbU, ↓zbQ, ↓zgj, ↓zgq, ↓zbI, ↓zbX, ↓zgc, ↓zgb, ↓zgi,iN,bT,bF,eN, ↓zdN, ↓unC, ↓zac, ↓zQ, ↓zR, ↓zV, ↓zak, ↓zau, ↓zco, ↓zag, ↓zaJ, ↓zW, ↓zp, ↓zo, ↓zbF, ↓zl, ↓zan, ↓zF, ↓zaM, ↓zaW, ↓ze, ↓zC, ↓zu, ↓zy, ↓zav, ↓zdr, ↓zdU, ↓zat, ↓zaB, ↓zaU, ↓zbk, ↓zbv, ↓zD, ↓zaq, ↓zS, ↓zE, ↓zam,zeb,zbD,zbB,unA,zei,bnd,zeF,zai,zP,zeE,dm,dm1,zB,zal,zfg,zff,zx,Q0,Q1,Q2,Q3,Q4,Q5,zZ,zh,zm,zT,zN,Q6,Q7,Q8,Q9,Q10,Q11,Q12,Q13,Q14,Nat.reduceAdd,Q15,Int.reduceToNat,Q16,Q17,Q18,Q19,Q20,reduceIte,Q21,Q22,zH,rep,zX,zfc,toD,zah,Q23,Q24,Q25,Q26,Q27,Q28,Nat.reduceLeDiff,Q29,Nat.reduceSub,Q30,Q31,Q32,sc,Q33,Q34,Q35,Q36,Q37,Q26,Q38,Q39,zkn,zkk,zkh,zko,zdu,zkl,zki,zkm,zkj,zdt,zdv,zkp,zkq,Bool.not_true,Bool.not_false,List.length_map] | with_reducible refine zkr ?_ | fail); exact h.go) : P := e ⟨h⟩
theorem c_rAll {σ : List zg} {f : Int} {K : KT} (hK : K (.d (.int .u16 (allF (zdc 3 f).toNat))) σ) : zq Tryz.prog zqX [.d (.int .i64 f)] σ K := by
 refine zec e_r12_All fun hl => ?_
 have ht := times13 f
 obtain ⟨N,hN⟩ : ∃ N : Nat,(zdc 3 f).toNat = N := ⟨_,rfl⟩
 have hN2 : zdc 3 f = (N : Int) := by omega
 rw [hN] at hK
 simp only [S_r12_All,iN,bT,bF,eN]
 refine zaO N (fun k vs q => vs = [.own σ.length (zbd (zqF k)), .d (.int .i64 k)] ∧ q = σ ++ [.tok 1 k]) (.tok 0 [] 1 rfl (by simp) (.refl _ _)) ⟨rfl,rfl⟩ ?_
 rintro k vs q hk ⟨rfl,rfl⟩
 have hlm : (zbd (zqF k)).length = k := by simp [zqF]
 refine gq39 ?_
 refine ztN ?_
 rw [hN2]
 by_cases hlt : k < N
 ·have hd : decide ((k : Int) < (N : Int)) = true := by simp; omega
  refine ztv (zjy hd (zjy (wk13 k (by omega)) hlm)) ?_
  exact zap.next hlt ⟨by rw [zsT]; simp,rfl⟩
 ·have hd : decide ((k : Int) < (N : Int)) = false := by simp; omega
  have hk2 : k = N := by omega
  subst hk2
  refine ztv hd ?_
  refine c_rSetOf (by rw [List.length_map] at hlm; omega) ?_
  refine gq39 ?_
  refine zK hl ?_
  exact hK
theorem c_rBoth {σ : List zg} {a b : Nat} (ha : a < 65536) (hb : b < 65536) {K : KT} (hK : K (.d (.int .u16 (bothF a b))) σ) : zq Tryz.prog zoF [.d (.int .u16 a), .d (.int .u16 b)] σ K := by
 refine zga e_r12_Both fun hl => ?_
 simp only [ztY,iN,bT,bF,eN]
 refine zaO 13 (fun k vs q => vs = [.own σ.length (zbd (zrS a b k)), .d (.int .i64 k)] ∧ q = σ ++ [.tok 1 (zrS a b k).length]) (.tok 0 [] 1 rfl (by simp) (.refl _ _)) ⟨rfl,rfl⟩ ?_
 rintro k vs q hk ⟨rfl,rfl⟩
 have hln := bothL_len a b k
 have hlm : (zbd (zrS a b k)).length = (zrS a b k).length := List.length_map ..
 by_cases hlt : k < 13
 ·have hd : decide ((k : Int) < 13) = true := by simp; omega
  have hw := wk13 k (by omega)
  refine ztv hd ?_
  refine c_rIn ha ?_
  have hnx := bothL_next a b k
  cases h1 : inF a (k : Int)
  ·rw [h1] at hnx
   simp only [Bool.false_and,Bool.false_eq_true,if_false,List.append_nil] at hnx
   refine ztv hw ?_
   exact zap.next hlt ⟨by rw [hnx],by rw [hnx]⟩
  ·rw [h1,Bool.true_and] at hnx
   refine gq39 ?_
   refine c_rIn hb ?_
   cases h2 : inF b (k : Int)
   ·rw [h2] at hnx
    simp only [Bool.false_eq_true,if_false,List.append_nil] at hnx
    refine ztv hw ?_
    exact zap.next hlt ⟨by rw [hnx],by rw [hnx]⟩
   ·rw [h2,if_pos rfl] at hnx
    refine ztv (zjy hw hlm) ?_
    exact zap.next hlt ⟨by rw [hnx]; simp,by rw [hnx]; simp⟩
 ·have hd : decide ((k : Int) < 13) = false := by simp; omega
  have hk13 : k = 13 := by omega
  subst hk13
  refine ztv hd ?_
  refine c_rSetOf (by omega) ?_
  refine gq39 ?_
  refine zK hl ?_
  exact hK
theorem nodeB_len {a b : Int} (ha : a ≤ 1048577) (hb : b ≤ 1048577) : (zit a b).length ≤ 1073741824 := by
 have h1 := zt (n := a.toNat) (by omega)
 have h2 := zt (n := b.toNat) (by omega)
 simp only [zit,List.length_cons,List.length_append]; omega
theorem znk : ∀ (f : Nat) {L l : List (List UInt8)},l.length ≤ f → zjN L → (∀ x ∈ l,x.length ≤ 1073741800) → zjN (zcc L l).2 := by
 intro f
 induction f with
 | zero =>
  intro L l hf hL _
  have : l = [] := List.eq_nil_of_length_eq_zero (by omega)
  subst this
  exact hL.sum (by simp)
 | succ f ih =>
  intro L l hf hL hx
  match l,hf,hx with
  | [],_,_ => exact hL.sum (by simp)
  | [x],_,hx => exact hL.sum (by have := hx x (by simp); simp [zoV]; omega)
  | x :: y :: r,hf,hx =>
   obtain ⟨l,hl⟩ : ∃ l,x :: y :: r = l := ⟨_,rfl⟩
   have h2 : 2 ≤ l.length := by rw [← hl]; simp
   rw [hl] at hf hx ⊢
   have hs := zbZ h2
   have h1 := ih (L := L) (l := l.take (zk l.length)) (by rw [List.length_take]; omega) hL fun x h => hx x (List.mem_of_mem_take h)
   have h3 := ih (L := (zcc L (l.take (zk l.length))).2) (l := l.drop (zk l.length)) (by rw [List.length_drop]; omega) h1 fun x h => hx x (List.mem_of_mem_drop h)
   rw [zux h2]
   refine h3.sum (nodeB_len ?_ ?_)
   ·exact (zcu _ (Nat.le_refl _) hL.len).2.2
   ·exact (zcu _ (Nat.le_refl _) h1.len).2.2
theorem zqt {L : List (List UInt8)} (h : zjN L) (x : zdW) : zjN (zgk L x) := by
 unfold zgk
 split
 ·exact h
 ·rename_i hc
  have := hdrB_len (zdg.1 (show zaA x = 0 by simpa using hc))
  exact h.sum (by omega)
theorem pl_small {p : zbe} (h : PlI p) : zje p := ⟨⟨by have := h.1; omega,by have := h.2.1; omega⟩,by have := h.2.2.1; omega,by have := h.2.2.2; omega⟩
theorem PlI_len {p : zbe} (h : PlI p) : (zaz p).length ≤ 1073741800 := by have := placedB_len' h; omega
theorem execI {L : List (List UInt8)} {T : zcb} {h : zdW} {b : List zr} (hL : zjN L) (hT : zhz T) (hA : zlp T.last) (h8 : T.last.length = 8) (hx : ∀ s ∈ b,zmd s.op ≤ 20971520) :
  zjN (zfz L T h b).L ∧ zhz (zfz L T h b).T ∧ zlp (zfz L T h b).T.last ∧ (zfz L T h b).T.last.length = 8 ∧ ((zfz L T h b).e = 0 → zoy ⟨(zfz L T h b).h,b,(zfz L T h b).p⟩) := by
 have t1 := tab_dig hL hx
 have t2 := zqt t1 h
 have hall : ∀ (b : List zr) {T : zcb},T.last.length = 8 → (zax T b).2.last.length = 8 := fun b => by
  induction b with
  | nil => intro T h; exact h
  | cons x b ih => intro T h; exact ih (by rw [applyF_last]; exact h)
 unfold zfz
 split
 ·rename_i c0; exact ⟨hL,hT,hA,h8,fun e => absurd e c0⟩
 rename_i c0
 split
 ·exact ⟨hL,hT,hA,h8,fun e => by simp at e⟩
 split
 ·rename_i c2; exact ⟨t1,hT,hA,h8,fun e => absurd e c2⟩
 rename_i c2
 split
 ·rename_i c3; exact ⟨t2,hT,hA,h8,fun e => absurd e c3⟩
 have p1 := znX b hT
 have p2 := zrZ b hT
 have p3 := zrY b hT hA
 have t3 := znk _ (L := zgk (ztD L b) h) (l := (zax T b).1.map zaz) (Nat.le_refl _) t2 fun x hx => by
  obtain ⟨p,hp,rfl⟩ := List.mem_map.1 hx
  exact PlI_len (p1.1 p hp)
 have p4 := zqI p2 p3 (hall b h8)
 have t4 := t3.sum (b := zfl (zax T b).2) (by omega)
 simp only
 split
 ·exact ⟨t4,p2,p3,hall b h8,fun e => by simp at e⟩
 ·refine ⟨t4,p2,p3,hall b h8,fun _ => ⟨?_, ?_,fun p hp => pl_small (p1.1 p hp)⟩⟩
  ·have := ziA (zdg.1 (show zaA h = 0 by simpa using c0)) h.seq (by simp [zqb])
   constructor <;> simp only <;> omega
  ·have := dig_len (L := L) (l := b) (by simpa using c2)
   have := p1.2
   simp only; omega
def voR (seq d : Int) (s : List (List UInt8) × List zI × List zI) (key : Int) : List (List UInt8) × List zI × List zI :=
 (votL s.1 6 0 seq d,votG s.1 s.2.1 key 6 0 seq d,if votE s.1 key 6 0 seq d = 0 then s.2.2 ++ [votS s.1 key 6 0 seq d] else s.2.2)
structure zfU where
 L : List (List UInt8)
 G : List zI
 h : zdW
 T : zcb
 bs : List zfi
 cs : List zfV
def stX (ks : List Int) (s : zfU) (t : List (List UInt8) × List zI × List zr) (r : ExecR) : zfU :=
 if r.e ≠ 0 then { s with L := r.L,G := t.2.1,T := r.T }
 else if r.h.seq.tmod 4 ≠ 0 then ⟨r.L,t.2.1,r.h,r.T,s.bs ++ [⟨r.h,t.2.2,r.p⟩],s.cs⟩
 else
  let v := ks.foldl (voR r.h.seq (zsI r.L r.h)) (zgk r.L r.h,t.2.1, [])
  ⟨v.1,v.2.1,r.h,r.T,s.bs ++ [⟨r.h,t.2.2,r.p⟩],s.cs ++ [⟨r.h.seq,zsI r.L r.h,v.2.2⟩]⟩
def stR (ks : List Int) (s : zfU) (l : List zr) : zfU :=
 let t := l.foldl seR (s.L,s.G, [])
 stX ks s t (zfz t.1 s.T s.h t.2.2)
def st0 : zfU := ⟨(genF []).2.2, [],(genF []).1,zdA, [], []⟩
def stF (ks : List Int) (bats : List (List zr)) : zfU := (bats.take 20).foldl (stR ks) st0
structure StI (N m : Nat) (s : zfU) : Prop where
 tab : zjN s.L
 led : s.G.length ≤ N
 ledI : LedI s.G
 tops : zhz s.T
 last : zlp s.T.last
 last8 : s.T.last.length = 8
 bs : ∀ b ∈ s.bs,zoy b
 bl : s.bs.length ≤ m
 cs : ∀ c ∈ s.cs,c.signs.length ≤ 13
 cl : s.cs.length ≤ m
structure VoI (N m : Nat) (s : List (List UInt8) × List zI × List zI) : Prop where
 tab : zjN s.1
 led : s.2.1.length ≤ N
 ledI : LedI s.2.1
 len : s.2.2.length ≤ m
theorem signG_len (G : List zI) (k d : Int) : (zgI G k d).length ≤ G.length + 1 := by
 unfold zgI zsz
 repeat' split
 all_goals simp
theorem voI {N m : Nat} {s : List (List UInt8) × List zI × List zI} {seq d key : Int} (h : VoI N m s) : VoI (N + 1) (m + 1) (voR seq d s key) := by
 obtain ⟨h1,h2,h3,h4⟩ := h
 refine ⟨?_, ?_, ?_, ?_⟩
 ·simp only [voR,votL]
  split
  ·rename_i hm
   have := voteB_len hm
   exact h1.sum (by omega)
  ·exact h1
 ·simp only [voR,votG,sgnG]
  have := signG_len s.2.1 key (zee s.1 (zka 6 0 seq d))
  repeat' split
  all_goals omega
 ·simp only [voR,votG,sgnG]
  repeat' split
  ·exact h3
  ·exact h3.sign _ _
  ·exact h3
 ·simp only [voR]
  split
  ·simp; omega
  ·omega
theorem foldVo {N m : Nat} {s : List (List UInt8) × List zI × List zI} {seq d : Int} (h : VoI N m s) (l : List Int) : VoI (N + l.length) (m + l.length) (l.foldl (voR seq d) s) := by
 induction l generalizing N m s with
 | nil => exact h
 | cons x l ih =>
  have := ih (voI (key := x) (seq := seq) (d := d) h)
  simp only [List.foldl_cons,List.length_cons]
  rwa [show N + (l.length + 1) = N + 1 + l.length by omega,show m + (l.length + 1) = m + 1 + l.length by omega]
theorem ledSe {l : List zr} {s : List (List UInt8) × List zI × List zr} (h : LedI s.2.1) : LedI (l.foldl seR s).2.1 := by
 induction l generalizing s with
 | nil => exact h
 | cons x l ih =>
  refine ih ?_
  simp only [seR,sealG]
  split
  ·exact h
  ·exact h.sign _ _
theorem stI {N m : Nat} {s : zfU} {ks : List Int} {l : List zr} (h : StI N m s) (hl : ∀ x ∈ l,zmd x.op ≤ 20971520) (hk : ks.length ≤ 13) : StI (N + l.length + 13) (m + 1) (stR ks s l) := by
 have h1 := foldSe (n := s.G.length) (m := 0) (s := (s.L,s.G, [])) (l := l) ⟨h.tab,Nat.le_refl _,by simp,by simp⟩ hl
 have h2 : LedI (l.foldl seR (s.L,s.G, [])).2.1 := ledSe h.ledI
 have hN := h.led
 have hg := h1.led
 obtain ⟨e1,e2,e3,e4,e5⟩ := execI (h := s.h) h1.tab h.tops h.last h.last8 h1.sz
 have hbs : ∀ x,zoy x → ∀ b ∈ s.bs ++ [x],zoy b := fun x hx b hb => by
  rcases List.mem_append.1 hb with hb | hb
  ·exact h.bs b hb
  ·simp only [List.mem_singleton] at hb; subst hb; exact hx
 have hbl := h.bl
 have hcl := h.cl
 unfold stR stX
 simp only
 obtain ⟨t,ht⟩ : ∃ t,l.foldl seR (s.L,s.G, []) = t := ⟨_,rfl⟩
 rw [ht] at h1 h2 hg e1 e2 e3 e4 e5 ⊢
 obtain ⟨r,hr⟩ : ∃ r,zfz t.1 s.T s.h t.2.2 = r := ⟨_,rfl⟩
 rw [hr] at e1 e2 e3 e4 e5 ⊢
 split
 ·exact ⟨e1,by simp only; omega,h2,e2,e3,e4,h.bs,by simp only; omega,h.cs,by simp only; omega⟩
 rename_i he
 have he : r.e = 0 := Classical.not_not.1 he
 split
 ·exact ⟨e1,by simp only; omega,h2,e2,e3,e4,hbs _ (e5 he),by simp; omega,h.cs,by simp only; omega⟩
 ·have v := foldVo (seq := r.h.seq) (d := zsI r.L r.h) (s := (zgk r.L r.h,t.2.1, [])) (N := t.2.1.length) (m := 0) ⟨zqt e1 r.h,Nat.le_refl _,h2,Nat.zero_le _⟩ ks
  refine ⟨v.tab,by have := v.led; simp only at this ⊢; omega,v.ledI,e2,e3,e4,hbs _ (e5 he),by simp; omega,fun c hc => ?_,by simp; omega⟩
  rcases List.mem_append.1 hc with hc | hc
  ·exact h.cs c hc
  ·simp only [List.mem_singleton] at hc
   subst hc
   have := v.len
   simp only; omega
theorem zlp.none : zlp zdA.last := fun a ha => by
 have := List.eq_of_mem_replicate ha
 subst this
 simp
theorem st0I : StI 0 0 st0 := by
 have t1 : zjN (zcc [] []).2 := znk 0 (Nat.le_refl _) zjN.nil (by simp)
 have t2 := t1.sum (b := zfl zdA) (by have := zqI zhz.none zlp.none rfl; omega)
 refine ⟨?_,Nat.zero_le _,⟨.nil,by simp [st0]⟩,zhz.none,zlp.none,rfl,by simp [st0],Nat.zero_le _,by simp [st0],Nat.zero_le _⟩
 simp only [st0,genF]
 split <;> exact t2
theorem foldSt {N m : Nat} {s : zfU} {ks : List Int} {bats : List (List zr)} (h : StI N m s) (hl : ∀ l ∈ bats, ∀ x ∈ l,zmd x.op ≤ 20971520) (hk : ks.length ≤ 13) :
  StI (N + (bats.map List.length).sum + 13 * bats.length) (m + bats.length) (bats.foldl (stR ks) s) := by
 induction bats generalizing N m s with
 | nil => exact h
 | cons l bats ih =>
  have := ih (stI h (hl l (by simp)) hk) fun l' h' => hl l' (by simp [h'])
  simp only [List.foldl_cons,List.length_cons,List.map_cons,List.sum_cons]
  rwa [show N + (l.length + (bats.map List.length).sum) + 13 * (bats.length + 1) = N + l.length + 13 + (bats.map List.length).sum + 13 * bats.length by omega,show m + (bats.length + 1) = m + 1 + bats.length by omega]
end Go.Proofs.YtfjommppajkpoaaGreat

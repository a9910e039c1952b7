/- Contracts: votes, on both sides. -/
import Derived.Test.YtfjommppajkpoaaGreatSpMake
import Derived.Test.YtfjommppajkpoaaGreatId5
import Derived.Test.YtfjommppajkpoaaGreatMk2
import Derived.Test.YtfjommppajkpoaaGreatCl1
import Derived.Test.YtfjommppajkpoaaGreatSh
import Derived.Test.YtfjommppajkpoaaGreatAwEnd
set_option linter.all false
set_option maxRecDepth 100000
namespace Go.Proofs.YtfjommppajkpoaaGreat
open Go.AW
theorem c_auMay {σ : List zg} {a b c d : Int} {K : KT} (hK : K (.d (.bool (zrb a b c d))) σ) :
  zq Tryz.prog zoP [.d (.int .i64 a), .d (.int .i64 b), .d (.int .i64 c), .d (.int .i64 d)] σ K := by
 refine acE4 e_auth_may fun hl => ?_
 rw [mayV_all] at hK
 simp only [zun,iN,bT,bF,eN]
 refine gq1 ?_
 have hg : ∀ (k : Nat) x, [a,b,c,d][k]? = some x → [[D.int .i64 a], [D.int .i64 b], [D.int .i64 c], [D.int .i64 d]][k]? = some [D.int .i64 x] := fun k x h => by
  have := zU (f := fun t => [D.int .i64 t]) h
  simpa using this
 have hl4 : [a,b,c,d].length = 4 := rfl
 obtain ⟨l,hlq⟩ : ∃ l, [a,b,c,d] = l := ⟨_,rfl⟩
 rw [hlq] at hK hl4 hg
 refine zw 4 (fun k vs s => vs = [.d (.int .i64 k)] ∧ (∃ T,s = σ ++ T) ∧ (l.take k).all zdd = true) ⟨rfl,⟨[],(List.append_nil σ).symm⟩,by simp⟩ ?_
 rintro k vs s hk ⟨rfl,⟨T,rfl⟩,hok⟩
 by_cases hlt : k < 4
 ·have hd : decide ((k : Int) < ((4 : Nat) : Int)) = true := by simp; omega
  have hx : l[k]? = some (l[k]'(by omega)) := List.getElem?_eq_getElem _
  have hgx := hg k _ hx
  obtain ⟨x,hxe⟩ : ∃ x,(l[k]'(by omega)) = x := ⟨_,rfl⟩
  rw [hxe] at hx hgx
  have bad : zdd x = false → l.all zdd = false := fun h => by
   rw [Bool.eq_false_iff]
   intro hall
   have := List.all_eq_true.1 hall x (List.mem_of_getElem? hx)
   rw [h] at this; cases this
  have hx2 : zdd x = (decide (0 ≤ x) && decide (x ≤ 9007199254740992)) := by simp [zdd]
  cases h1 : decide (x < 0)
  ·cases h2 : decide (x > 9007199254740992)
   ·refine gq2 (zc hd (zc hgx (zc h1 (zc h2 (wki k (by omega)))))) ?_
    refine zap.next hlt ⟨rfl,⟨_,rfl⟩, ?_⟩
    rw [List.take_add_one,hx]
    simp only [List.all_append,hok,Option.toList_some,List.all_cons,List.all_nil,Bool.true_and,Bool.and_true]
    simp at h1 h2
    simp [zdd]; omega
   ·rw [bad (by simp at h2; simp [zdd]; omega)] at hK
    refine gq2 (zc hd (zc hgx (zc h1 h2))) ?_
    refine zK hl ?_
    exact hK
  ·rw [bad (by simp at h1; simp [zdd]; omega)] at hK
   refine gq2 (zc hd (zc hgx h1)) ?_
   refine zK hl ?_
   exact hK
 ·have hd : decide ((k : Int) < ((4 : Nat) : Int)) = false := by simp; omega
  rw [List.take_of_length_le (by omega)] at hok
  rw [hok] at hK
  refine gq2 hd ?_
  refine zK hl ?_
  exact hK
theorem c_auPut {σ : List zg} {b : List UInt8} {l : List Int} (hb : b.length ≤ 1000000) (hl0 : l.length ≤ 1000) (hi : ∀ x ∈ l, 0 ≤ x ∧ x ≤ 9007199254740992) {K : KT} (hK : K (.d (.slice (bcs (b ++ zgK l)))) σ) :
  zq Tryz.prog zoO [.d (.slice (bcs b)), .d (.slice (zbd l))] σ K := by
 refine zga e_auth_put fun hl => ?_
 simp only [zum,iN,bT,bF,eN]
 refine gq1 ?_
 refine zw l.length (fun k vs s => (∃ x,vs = [x, .d (.int .i64 k)] ∧ (x = .d (.slice (bcs (b ++ zgK (l.take k)))) ∨ ∃ t,x = .own t (bcs (b ++ zgK (l.take k))))) ∧ ∃ T,s = σ ++ T) ⟨⟨_,rfl, .inl (by simp [zgK])⟩, [],by simp⟩ ?_
 rintro k vs s hk ⟨⟨y,rfl,hy⟩,T,rfl⟩
 have hdy : dm y = .d (.slice (bcs (b ++ zgK (l.take k)))) := by
  rcases hy with rfl | ⟨t,rfl⟩ <;> rfl
 by_cases hlt : k < l.length
 ·have hd : decide ((k : Int) < (l.length : Int)) = true := by simp; omega
  have hx : l[k]? = some l[k] := by simp [hlt]
  have hxi := hi _ (List.getElem_mem hlt)
  have hgx := zU (f := fun t => [D.int .i64 t]) hx
  obtain ⟨x,hxe⟩ : ∃ x,l[k] = x := ⟨_,rfl⟩
  rw [hxe] at hx hgx hxi
  have hm1 : (if x > 0 then x else 0) = x := by split <;> omega
  have hm2 : (if 0 < x then x else 0) = x := by split <;> omega
  have hw : IntKind.u64.wrap x = ((x.toNat : Nat) : Int) := by
   rw [show x = ((x.toNat : Nat) : Int) by omega,zci (by omega)]; rfl
  have hln := zkA (l := l.take k) (fun y hy => by have := hi y (List.mem_of_mem_take hy); omega)
  have hlk : (l.take k).length = k := by rw [List.length_take]; omega
  have hw2 : IntKind.i64.wrap ((k : Int) + 1) = ((k + 1 : Nat) : Int) := by rw [zJ (by omega) (by omega)]; rfl
  have hbl : (b ++ zgK (l.take k)).length ≤ 1073741824 := by rw [List.length_append]; omega
  rcases hy with rfl | ⟨t,rfl⟩
  ·refine gq2 (zc hd (zc hgx (zc hm1 (zc hm2 hw)))) ?_
   refine zjF (by omega) hbl ?_
   refine gq2 hw2 ?_
   exact zap.next hlt ⟨⟨_,rfl, .inr ⟨_,by rw [zlx hx]⟩⟩,_,rfl⟩
  ·refine gq2 (zc hd (zc hgx (zc hm1 (zc hm2 hw)))) ?_
   refine zjF (by omega) hbl ?_
   refine gq2 hw2 ?_
   exact zap.next hlt ⟨⟨_,rfl, .inr ⟨_,by rw [zlx hx]⟩⟩,_,rfl⟩
 ·have hd : decide ((k : Int) < (l.length : Int)) = false := by simp; omega
  rw [List.take_of_length_le (by omega)] at hy
  rcases hy with rfl | ⟨t,rfl⟩
  ·refine gq2 hd ?_
   refine zK hl ?_
   exact hK
  ·refine gq2 hd ?_
   refine zK hl ?_
   exact hK
theorem may_all {a b c d : Int} (h : zrb a b c d = true) : ∀ x ∈ [a,b,c,d], 0 ≤ x ∧ x ≤ 9007199254740992 := by
 rw [mayV_all,List.all_eq_true] at h
 exact fun x hx => znr.1 (h x hx)
theorem zvs {σ : List zg} {a b c d : Int} (h : zrb a b c d = true) {K : KT} (hK : K (.d (.slice (bcs (zka a b c d)))) σ) :
  zq Tryz.prog zgg [.d (.int .i64 a), .d (.int .i64 b), .d (.int .i64 c), .d (.int .i64 d)] σ K := by
 refine acE4 zql fun hl => ?_
 simp only [zjY,iN,bT,bF,eN]
 refine gq1 ?_
 refine c_auPut (b := [4]) (l := [a,b,c,d]) (by simp) (by simp) (may_all h) ?_
 refine gq1 ?_
 refine zK hl ?_
 exact hK
theorem c_auMade {σ : List zg} {id m t id2 m2 t2 : Nat} {l : List (List UInt8)} {g : List zI} (hT : zcd σ id m t l) (hG : zea σ id2 m2 t2 g) (hL : zjN l) (hg : g.length ≤ 1073741824) {K : KT}
  (hK : K (.d (.bool true)) σ) : zq Tryz.prog zmF [.box id 0, .box id2 0] σ K := by
 refine zga e_auth_made fun hl => ?_
 simp only [zst,iN,bT,bF,eN]
 refine gq1 ?_
 refine zjB hT hL.nd hL.len hL.each ?_
 refine gq1 ?_
 refine zqA (hG.app _) hg fun g' => ?_
 refine gq1 ?_
 refine zK hl ?_
 exact hK
theorem c_auSigned {σ : List zg} {id m t id2 m2 t2 : Nat} {L : List (List UInt8)} {G : List zI} {s : zI} {key : Int} {b : List UInt8} (hT : zcd σ id m t L) (hG : zea σ id2 m2 t2 G) {K : KT}
  (hK : K (.d (.bool (zfm L G s key b))) σ) : zq Tryz.prog zjv [.box id 0, .box id2 0, .agg [.d (.int .i64 s.key), .d (.int .i64 s.dig)], .d (.int .i64 key), .d (.slice (bcs b))] σ K := by
 refine acE5 zvd fun hl => ?_
 have hT1 := fun τ => hT.app τ
 have hG1 := fun τ => hG.app τ
 simp only [zop,iN,bT,bF,eN]
 refine gq1 ?_
 refine zmW (hT1 _) ?_
 have fin : ∀ z,zfm L G s key b = z → K (.d (.bool z)) σ := fun z h => h ▸ hK
 clear hK
 cases hlk : zcN L b with
 | none =>
  refine gq5 ?_
  refine zK hl ?_
  exact fin _ (by simp [zfm,hlk])
 | some i =>
  simp only [zji]
  cases h1 : (s.key == key)
  ·refine gq8 h1 ?_
   refine zK hl ?_
   exact fin _ (by simp at h1; simp [zfm,hlk,h1])
  ·cases h2 : (s.dig == ((i + 1 : Nat) : Int))
   ·refine gq8 (zc h1 h2) ?_
    refine zK hl ?_
    exact fin _ (by simp at h1 h2; simp [zfm,hlk,h1]; omega)
   ·refine gq8 (zc h1 h2) ?_
    refine c_gSigned (s := s) (hG1 _) ?_
    refine gq1 ?_
    refine zK hl ?_
    exact fin _ (by simp at h1 h2; simp [zfm,hlk,h1,h2])
theorem zvt {σ : List zg} {id m t id2 m2 t2 : Nat} {L : List (List UInt8)} {G : List zI} {s : zI} {key a b c d : Int} (hT : zcd σ id m t L) (hG : zea σ id2 m2 t2 G) (hL : zjN L) (hg : G.length ≤ 1073741824) {K : KT}
  (hK : K (.d (.bool (zin L G s key a b c d))) σ) :
  zq Tryz.prog zgh [.box id 0, .box id2 0, .agg [.d (.int .i64 s.key), .d (.int .i64 s.dig)], .d (.int .i64 key), .d (.int .i64 a), .d (.int .i64 b), .d (.int .i64 c), .d (.int .i64 d)] σ K := by
 refine acE8 zqm fun hl => ?_
 simp only [zjZ,iN,bT,bF,eN]
 refine gq1 ?_
 refine c_auMade (hT.app _) (hG.app _) hL hg ?_
 refine gq1 ?_
 refine c_auMay ?_
 cases hm : zrb a b c d
 ·rw [zin,hm,Bool.false_and] at hK
  refine gq1 ?_
  refine zK hl ?_
  exact hK
 ·rw [zin,hm,Bool.true_and] at hK
  refine gq1 ?_
  refine zvs hm ?_
  refine gq1 ?_
  refine c_auSigned (s := s) (hT.app _) (hG.app _) ?_
  refine gq1 ?_
  refine zK hl ?_
  exact hK
end Go.Proofs.YtfjommppajkpoaaGreat

/- What a new view goes on with. No program in sight. -/
namespace Go.AW
def zcQ (f : Int) : Int := if f < 1 ∨ f > 4 then 120 else 0
def zdc (n f : Int) : Int := if f < 1 ∨ f > 4 then 0 else n * f + 1
end Go.AW

/- Contracts: how many brokers there are, and a quorum has. -/
set_option maxRecDepth 100000
namespace Go.Proofs.YtfjommppajkpoaaGreat
open Go.AW
theorem zjy {A B : Prop} (a : A) (b : B) : A ∧ B := ⟨a,b⟩
theorem gq30 {A P Q : Prop} (a : A) (h : Q) (e : A → P = Q := by intro a; simp -dsimp only [↓zgr, ↓zaF, ↓zbL, ↓zgt, ↓zgn, ↓zgl, ↓zgo, ↓zgm, ↓zbR, ↓zbN, ↓zbS, ↓zbO, ↓zgp, ↓zbJ, ↓zbT, ↓zbP, ↓zbU, ↓zbQ, ↓zgj, ↓zgq, ↓zbI, ↓zbX, ↓zgc, ↓zgb, ↓zgi,iN,bT,bF,eN, ↓zdN, ↓unC, ↓zac, ↓zQ, ↓zR, ↓zV, ↓zak, ↓zau, ↓zco, ↓zag, ↓zaJ, ↓zW, ↓zp, ↓zo, ↓zbF, ↓zl, ↓zan, ↓zF, ↓zaM, ↓zaW, ↓ze, ↓zC, ↓zu, ↓zy, ↓zav, ↓zdr, ↓zdU, ↓zat, ↓zaB, ↓zaU, ↓zbk, ↓zbv, ↓zD, ↓zaq, ↓zS, ↓zE, ↓zam,zeb,zbD,zbB,unA,zei,bnd,zeF,zai,zP,zeE,dm,dm1,zB,zal,zfg,zff,zx,Q0,Q1,Q2,Q3,Q4,Q5,zZ,zh,zm,zT,zN,Q6,Q7,Q8,Q9,Q10,Q11,Q12,Q13,Q14,Nat.reduceAdd,Q15,Int.reduceToNat,Q16,Q17,Q18,Q19,Q20,reduceIte,Q21,Q22,zH,rep,zX,zfc,toD,zah,Q23,Q24,Q25,Q26,Q27,Q28,Nat.reduceLeDiff,Q29,Nat.reduceSub,Q30,Q31,Q32,sc,Q33,Q34,Q35,a]; rfl) : P := (e a).mpr h
theorem zrO {σ : List zg} {f : Int} {K : KT} (hK : K (.d (.int .i64 (zcQ f))) σ) : zq Tryz.prog zeg [.d (.int .i64 f)] σ K := by
 refine zec zsM fun hl => ?_
 simp only [zmo,iN,bT,bF,eN]
 cases h1 : decide (f < 1) <;> cases h2 : decide (f > 4)
 all_goals
  (refine gq30 (zjy h1 h2) ?_; try with_reducible exact True.intro)
  refine zK hl ?_
  simp only [decide_eq_true_eq,decide_eq_false_iff_not] at h1 h2
 ·rw [zcQ,if_neg (by omega)] at hK; exact hK
 all_goals (rw [zcQ,if_pos (by omega)] at hK; exact hK)
theorem znQ {σ : List zg} {f : Int} {K : KT} (hK : K (.d (.int .i64 (zcQ f))) σ) : zq Tryz.prog zfq [.d (.int .i64 f)] σ K := by
 refine zec e_r12_Check fun hl => ?_
 simp only [zsd,iN,bT,bF,eN]
 cases h1 : decide (f < 1) <;> cases h2 : decide (f > 4)
 all_goals
  (refine gq30 (zjy h1 h2) ?_; try with_reducible exact True.intro)
  refine zK hl ?_
  simp only [decide_eq_true_eq,decide_eq_false_iff_not] at h1 h2
 ·rw [zcQ,if_neg (by omega)] at hK; exact hK
 all_goals (rw [zcQ,if_pos (by omega)] at hK; exact hK)
theorem gq31 {P Q : Prop} (h : Q) (e : P = Q := by simp -dsimp only [↓zgr, ↓zaF, ↓zbL, ↓zgt, ↓zgn, ↓zgl, ↓zgo, ↓zgm, ↓zbR, ↓zbN, ↓zbS, ↓zbO, ↓zgp, ↓zbJ, ↓zbT, ↓zbP, ↓zbU, ↓zbQ, ↓zgj, ↓zgq, ↓zbI, ↓zbX, ↓zgc, ↓zgb, ↓zgi,iN,bT,bF,eN, ↓zdN, ↓unC, ↓zac, ↓zQ, ↓zR, ↓zV, ↓zak, ↓zau, ↓zco, ↓zag, ↓zaJ, ↓zW, ↓zp, ↓zo, ↓zbF, ↓zl, ↓zan, ↓zF, ↓zaM, ↓zaW, ↓ze, ↓zC, ↓zu, ↓zy, ↓zav, ↓zdr, ↓zdU, ↓zat, ↓zaB, ↓zaU, ↓zbk, ↓zbv, ↓zD, ↓zaq, ↓zS, ↓zE, ↓zam,zeb,zbD,zbB,unA,zei,bnd,zeF,zai,zP,zeE,dm,dm1,zB,zal,zfg,zff,zx,Q0,Q1,Q2,Q3,Q4,Q5,zZ,zh,zm,zT,zN,Q6,Q7,Q8,Q9,Q10,Q11,Q12,Q13,Q14,Nat.reduceAdd,Q15,Int.reduceToNat,Q16,Q17,Q18,Q19,Q20,reduceIte,Q21,Q22,zH,rep,zX,zfc,toD,zah,Q23,Q24,Q25,Q26,Q27,Q28,Nat.reduceLeDiff,Q29,Nat.reduceSub,Q30,Q31,Q32,sc,Q33,Q34,Q35]; rfl) : P := e.mpr h
theorem c_times {σ : List zg} {n f : Int} (hn : 0 ≤ n ∧ n ≤ 3) {K : KT} (hK : K (.d (.int .i64 (zdc n f))) σ) : zq Tryz.prog zfF [.d (.int .i64 n), .d (.int .i64 f)] σ K := by
 refine zga zsL fun hl => ?_
 simp only [zmn,iN,bT,bF,eN]
 (refine gq31 ?_; try with_reducible exact True.intro)
 refine zrO ?_
 by_cases h : f < 1 ∨ f > 4
 ·rw [zdc,if_pos h] at hK
  rw [zcQ,if_pos h]
  (refine gq30 (show ((120 : Int) != 0) = true from rfl) ?_; try with_reducible exact True.intro)
  refine zK hl ?_
  exact hK
 ·rw [zdc,if_neg h] at hK
  rw [zcQ,if_neg h]
  have h1 : 0 ≤ n * f := Int.mul_nonneg hn.1 (by omega)
  have h2 : n * f ≤ 3 * 4 := Int.mul_le_mul hn.2 (by omega) (by omega) (by omega)
  have w1 : IntKind.i64.wrap (n * f) = n * f := zJ (by omega) (by omega)
  have w2 : IntKind.i64.wrap (n * f + 1) = n * f + 1 := zJ (by omega) (by omega)
  (refine gq30 (zjy (show ((0 : Int) != 0) = false from rfl) (zjy w1 w2)) ?_; try with_reducible exact True.intro)
  refine zK hl ?_
  exact hK
theorem c_quBig {σ : List zg} {f : Int} {K : KT} (hK : K (.d (.int .i64 (zdc 2 f))) σ) : zq Tryz.prog zkI [.d (.int .i64 f)] σ K := by
 refine zec e_quorum_Big fun hl => ?_
 simp only [zpR,iN,bT,bF,eN]
 (refine gq31 ?_; try with_reducible exact True.intro)
 refine c_times (by omega) ?_
 (refine gq31 ?_; try with_reducible exact True.intro)
 refine zK hl ?_
 exact hK
theorem c_quBrokers {σ : List zg} {f : Int} {K : KT} (hK : K (.d (.int .i64 (zdc 3 f))) σ) : zq Tryz.prog zgf [.d (.int .i64 f)] σ K := by
 refine zec zqj fun hl => ?_
 simp only [zjT,iN,bT,bF,eN]
 (refine gq31 ?_; try with_reducible exact True.intro)
 refine c_times (by omega) ?_
 (refine gq31 ?_; try with_reducible exact True.intro)
 refine zK hl ?_
 exact hK
theorem ztN {σ : List zg} {f : Int} {K : KT} (hK : K (.d (.int .i64 (zdc 3 f))) σ) : zq Tryz.prog zgL [.d (.int .i64 f)] σ K := by
 refine zec zuR fun hl => ?_
 simp only [zob,iN,bT,bF,eN]
 (refine gq31 ?_; try with_reducible exact True.intro)
 refine znQ ?_
 by_cases h : f < 1 ∨ f > 4
 ·rw [zdc,if_pos h] at hK
  rw [zcQ,if_pos h]
  (refine gq30 (show ((120 : Int) != 0) = true from rfl) ?_; try with_reducible exact True.intro)
  refine zK hl ?_
  exact hK
 ·rw [zdc,if_neg h] at hK
  rw [zcQ,if_neg h]
  have w1 : IntKind.i64.wrap (3 * f) = 3 * f := zJ (by omega) (by omega)
  have w2 : IntKind.i64.wrap (3 * f + 1) = 3 * f + 1 := zJ (by omega) (by omega)
  (refine gq30 (zjy (show ((0 : Int) != 0) = false from rfl) (zjy w1 w2)) ?_; try with_reducible exact True.intro)
  refine zK hl ?_
  exact hK
theorem c_rBig {σ : List zg} {f : Int} {K : KT} (hK : K (.d (.int .i64 (zdc 2 f))) σ) : zq Tryz.prog zqW [.d (.int .i64 f)] σ K := by
 refine zec e_r12_Big fun hl => ?_
 simp only [S_r12_Big,iN,bT,bF,eN]
 (refine gq31 ?_; try with_reducible exact True.intro)
 refine znQ ?_
 by_cases h : f < 1 ∨ f > 4
 ·rw [zdc,if_pos h] at hK
  rw [zcQ,if_pos h]
  (refine gq30 (show ((120 : Int) != 0) = true from rfl) ?_; try with_reducible exact True.intro)
  refine zK hl ?_
  exact hK
 ·rw [zdc,if_neg h] at hK
  rw [zcQ,if_neg h]
  have w1 : IntKind.i64.wrap (2 * f) = 2 * f := zJ (by omega) (by omega)
  have w2 : IntKind.i64.wrap (2 * f + 1) = 2 * f + 1 := zJ (by omega) (by omega)
  (refine gq30 (zjy (show ((0 : Int) != 0) = false from rfl) (zjy w1 w2)) ?_; try with_reducible exact True.intro)
  refine zK hl ?_
  exact hK
end Go.Proofs.YtfjommppajkpoaaGreat

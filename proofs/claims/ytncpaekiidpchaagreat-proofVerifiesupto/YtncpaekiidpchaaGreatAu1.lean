/- Contracts: votes, on both sides. -/
import Derived.Test.YtncpaekiidpchaaGreatSpMake
import Derived.Test.YtncpaekiidpchaaGreatMk5
import Derived.Test.YtncpaekiidpchaaGreatMk2
import Derived.Test.YtncpaekiidpchaaGreatCl1
import Derived.Test.YtncpaekiidpchaaGreatSh
import Derived.Test.YtncpaekiidpchaaGreatAwEnd
set_option linter.all false
set_option maxRecDepth 100000
namespace Go.Proofs.YtncpaekiidpchaaGreat
open Go.AW
theorem c_auMay {σ : List zh} {a b c d : Int} {K : KT} (hK : K (.d (.bool (zrA a b c d))) σ) :
  zy Tryz.prog zpp [.d (.int .i64 a), .d (.int .i64 b), .d (.int .i64 c), .d (.int .i64 d)] σ K := by
 refine zi zun.is rfl fun hl _ => zun.goes ?_
 rw [mayV_all] at hK
 simp only [zva,iN,bT,bF,eN]
 (repeat' first | refine gq1 ?_ | with_reducible first | exact ⟨⟩ | refine zg ?_ | fail)
 have hg : ∀ (k : Nat) x, [a,b,c,d][k]? = some x → [[D.int .i64 a], [D.int .i64 b], [D.int .i64 c], [D.int .i64 d]][k]? = some [D.int .i64 x] := fun k x h => by
  have := zU (f := fun t => [D.int .i64 t]) h
  simpa using this
 have hl4 : [a,b,c,d].length = 4 := rfl
 obtain ⟨l,hlq⟩ : ∃ l, [a,b,c,d] = l := ⟨_,rfl⟩
 rw [hlq] at hK hl4 hg
 refine zB 4 (fun k vs s => vs = [.d (.int .i64 k)] ∧ (∃ T,s = σ ++ T) ∧ (l.take k).all zdq = true) ⟨rfl,⟨[],(List.append_nil σ).symm⟩,by simp⟩ ?_
 rintro k vs s hk ⟨rfl,⟨T,rfl⟩,hok⟩
 by_cases hlt : k < 4
 ·have hd : decide ((k : Int) < ((4 : Nat) : Int)) = true := by simp; omega
  have hx : l[k]? = some (l[k]'(by omega)) := List.getElem?_eq_getElem _
  have hgx := hg k _ hx
  obtain ⟨x,hxe⟩ : ∃ x,(l[k]'(by omega)) = x := ⟨_,rfl⟩
  rw [hxe] at hx hgx
  have bad : zdq x = false → l.all zdq = false := fun h => by
   rw [Bool.eq_false_iff]
   intro hall
   have := List.all_eq_true.1 hall x (List.mem_of_getElem? hx)
   rw [h] at this; cases this
  have hx2 : zdq x = (decide (0 ≤ x) && decide (x ≤ 9007199254740992)) := by simp [zdq]
  cases h1 : decide (x < 0)
  ·cases h2 : decide (x > 9007199254740992)
   ·(repeat' first | refine gq2 (zc hd (zc hgx (zc h1 (zc h2 (wki k (by omega)))))) ?_ | with_reducible first | exact ⟨⟩ | refine zg ?_ | fail)
    refine zap.next hlt ⟨rfl,⟨_,rfl⟩, ?_⟩
    rw [List.take_add_one,hx]
    simp only [List.all_append,hok,Option.toList_some,List.all_cons,List.all_nil,Bool.true_and,Bool.and_true]
    simp at h1 h2
    simp [zdq]; omega
   ·rw [bad (by simp at h2; simp [zdq]; omega)] at hK
    (repeat' first | refine gq2 (zc hd (zc hgx (zc h1 h2))) ?_ | with_reducible first | exact ⟨⟩ | refine zg ?_ | fail)
    (first | refine zX hl ?_ | refine zW hl ?_)
    exact hK
  ·rw [bad (by simp at h1; simp [zdq]; omega)] at hK
   (repeat' first | refine gq2 (zc hd (zc hgx h1)) ?_ | with_reducible first | exact ⟨⟩ | refine zg ?_ | fail)
   (first | refine zX hl ?_ | refine zW hl ?_)
   exact hK
 ·have hd : decide ((k : Int) < ((4 : Nat) : Int)) = false := by simp; omega
  rw [List.take_of_length_le (by omega)] at hok
  rw [hok] at hK
  (repeat' first | refine gq2 hd ?_ | with_reducible first | exact ⟨⟩ | refine zg ?_ | fail)
  (first | refine zX hl ?_ | refine zW hl ?_)
  exact hK
theorem c_auPut {σ : List zh} {b : List UInt8} {l : List Int} (hb : b.length ≤ 1000000) (hl0 : l.length ≤ 1000) (hi : ∀ x ∈ l, 0 ≤ x ∧ x ≤ 9007199254740992) {K : KT} (hK : K (.d (.slice (bcs (b ++ zgU l)))) σ) :
  zy Tryz.prog zpo [.d (.slice (bcs b)), .d (.slice (zaX l))] σ K := by
 refine zi zum.is rfl fun hl _ => zum.goes ?_
 simp only [zuZ,iN,bT,bF,eN]
 (repeat' first | refine gq1 ?_ | with_reducible first | exact ⟨⟩ | refine zg ?_ | fail)
 refine zB l.length (fun k vs s => (∃ x,vs = [x, .d (.int .i64 k)] ∧ (x = .d (.slice (bcs (b ++ zgU (l.take k)))) ∨ ∃ t,x = .own t (bcs (b ++ zgU (l.take k))))) ∧ ∃ T,s = σ ++ T) ⟨⟨_,rfl, .inl (by simp [zgU])⟩, [],by simp⟩ ?_
 rintro k vs s hk ⟨⟨y,rfl,hy⟩,T,rfl⟩
 have hdy : dm y = .d (.slice (bcs (b ++ zgU (l.take k)))) := by
  rcases hy with rfl | ⟨t,rfl⟩ <;> rfl
 by_cases hlt : k < l.length
 ·have hd : decide ((k : Int) < (l.length : Int)) = true := by simp; omega
  have hx : l[k]? = some l[k] := by simp [hlt]
  have hxi := hi _ (List.getElem_mem hlt)
  have hgx := zU (f := fun t => [D.int .i64 t]) hx
  obtain ⟨x,hxe⟩ : ∃ x,l[k] = x := ⟨_,rfl⟩
  rw [hxe] at hx hgx hxi
  have hm1 : (if x > 0 then x else 0) = x := by split <;> omega
  have hm2 : (if 0 < x then x else 0) = x := by split <;> omega
  have hw : IntKind.u64.wrap x = ((x.toNat : Nat) : Int) := by
   rw [show x = ((x.toNat : Nat) : Int) by omega,zcn (by omega)]; rfl
  have hln := zla (l := l.take k) (fun y hy => by have := hi y (List.mem_of_mem_take hy); omega)
  have hlk : (l.take k).length = k := by rw [List.length_take]; omega
  have hw2 : IntKind.i64.wrap ((k : Int) + 1) = ((k + 1 : Nat) : Int) := by rw [zP (by omega) (by omega)]; rfl
  have hbl : (b ++ zgU (l.take k)).length ≤ 1073741824 := by rw [List.length_append]; omega
  rcases hy with rfl | ⟨t,rfl⟩
  ·(repeat' first | refine gq2 (zc hd (zc hgx (zc hm1 (zc hm2 hw)))) ?_ | with_reducible first | exact ⟨⟩ | refine zg ?_ | fail)
   refine zkm (by omega) hbl ?_
   (repeat' first | refine gq2 hw2 ?_ | with_reducible first | exact ⟨⟩ | refine zg ?_ | fail)
   exact zap.next hlt ⟨⟨_,rfl, .inr ⟨_,by rw [zmf hx]⟩⟩,_,rfl⟩
  ·(repeat' first | refine gq2 (zc hd (zc hgx (zc hm1 (zc hm2 hw)))) ?_ | with_reducible first | exact ⟨⟩ | refine zg ?_ | fail)
   refine zkm (by omega) hbl ?_
   (repeat' first | refine gq2 hw2 ?_ | with_reducible first | exact ⟨⟩ | refine zg ?_ | fail)
   exact zap.next hlt ⟨⟨_,rfl, .inr ⟨_,by rw [zmf hx]⟩⟩,_,rfl⟩
 ·have hd : decide ((k : Int) < (l.length : Int)) = false := by simp; omega
  rw [List.take_of_length_le (by omega)] at hy
  rcases hy with rfl | ⟨t,rfl⟩
  ·(repeat' first | refine gq2 hd ?_ | with_reducible first | exact ⟨⟩ | refine zg ?_ | fail)
   (first | refine zX hl ?_ | refine zW hl ?_)
   exact hK
  ·(repeat' first | refine gq2 hd ?_ | with_reducible first | exact ⟨⟩ | refine zg ?_ | fail)
   (first | refine zX hl ?_ | refine zW hl ?_)
   exact hK
end Go.Proofs.YtncpaekiidpchaaGreat

/- Contracts: votes, the program's. -/
set_option maxRecDepth 100000
namespace Go.Proofs.YtncpaekiidpchaaGreat
open Go.AW
theorem may_all {a b c d : Int} (h : zrA a b c d = true) : ∀ x ∈ [a,b,c,d], 0 ≤ x ∧ x ≤ 9007199254740992 := by
 rw [mayV_all,List.all_eq_true] at h
 exact fun x hx => znL.1 (h x hx)
theorem zvL {σ : List zh} {a b c d : Int} (h : zrA a b c d = true) {K : KT} (hK : K (.d (.slice (bcs (zkO a b c d)))) σ) :
  zy Tryz.prog zgs [.d (.int .i64 a), .d (.int .i64 b), .d (.int .i64 c), .d (.int .i64 d)] σ K := by
 refine zi zky.is rfl fun hl _ => zky.goes ?_
 simp only [zkM,iN,bT,bF,eN]
 (repeat' first | refine gq1 ?_ | with_reducible first | exact ⟨⟩ | refine zg ?_ | fail)
 refine c_auPut (b := [4]) (l := [a,b,c,d]) (by simp) (by simp) (may_all h) ?_
 (repeat' first | refine gq1 ?_ | with_reducible first | exact ⟨⟩ | refine zg ?_ | fail)
 (first | refine zX hl ?_ | refine zW hl ?_)
 exact hK
theorem c_auMade {σ : List zh} {id m t id2 m2 t2 : Nat} {l : List (List UInt8)} {g : List zS} (hT : zcq σ id m t l) (hG : zev σ id2 m2 t2 g) (hL : zkB l) (hg : g.length ≤ 1073741824) {K : KT}
  (hK : K (.d (.bool true)) σ) : zy Tryz.prog znm [.box id 0, .box id2 0] σ K := by
 refine zi zsi.is rfl fun hl _ => zsi.goes ?_
 simp only [zsT,iN,bT,bF,eN]
 (repeat' first | refine gq1 ?_ | with_reducible first | exact ⟨⟩ | refine zg ?_ | fail)
 refine zmo hT hL.nd hL.len hL.each ?_
 (repeat' first | refine gq1 ?_ | with_reducible first | exact ⟨⟩ | refine zg ?_ | fail)
 refine zra (hG.app _) hg fun g' => ?_
 (repeat' first | refine gq1 ?_ | with_reducible first | exact ⟨⟩ | refine zg ?_ | fail)
 (first | refine zX hl ?_ | refine zW hl ?_)
 exact hK
theorem gq38 {A P Q : Prop} (a : A) (h : Q) (e : A → P = Q := by intro a; simp -dsimp only [↓zen, ↓zaw, ↓zba, ↓zeo, ↓zej, ↓zeh, ↓zek, ↓zei, ↓zbf, ↓zbb, ↓zbg, ↓zbc, ↓zel, ↓zaZ, ↓zbh, ↓zbd, ↓zbi, ↓zbe, ↓zeg, ↓zem, ↓zaY, ↓zbj, ↓zee, ↓zed, ↓zef,iN,bT,bF,eN, ↓zcI, ↓unC, ↓zV, ↓zJ, ↓zK, ↓zN, ↓zaa, ↓zas, ↓zbH, ↓zah, ↓zaV, ↓zQ, ↓zp, ↓zo, ↓zbr, ↓zk, ↓zag, ↓zG, ↓zaB, ↓zaF, ↓ze, ↓zE, ↓zr, ↓zw, ↓zam, ↓zcs, ↓zcM, ↓zak, ↓zat, ↓zaE, ↓zaJ, ↓zaP, ↓zu, ↓zai, ↓zL, ↓zA, ↓zab,zcT,zaU,zaT,unA,zcW,bnd,zds,zae,zR,zdv,dm,dm1,zC,zaj,zdH,zdG,zM,Q0,Q1,Q2,Q3,Q4,Q5,zT,zq,zx,zO,zI,Q6,Q7,Q8,Q9,Q10,Q11,Q12,Q13,Q14,Nat.reduceAdd,Q15,Int.reduceToNat,Q16,Q17,Q18,Q19,Q20,reduceIte,Q21,Q22,zF,rep,zY,zdD,toD,zad,Q23,Q24,Q25,Q26,Q27,Q28,Nat.reduceLeDiff,Q29,Nat.reduceSub,Q30,Q31,Q32,sc,Q33,Q34,Q35,Q36,Q37,Q26,Q38,Q39,zfZ,zfW,zfT,zga,zbR,zfX,zfU,zfY,zfV,zbQ,zbS,zgb,zgc,Bool.not_true,Bool.not_false,List.length_map,Bool.false_and,Option.isSome_some,zda,a]; rfl) : P := (e a).mpr h
theorem gq39 {A P Q : Prop} (a : A) (h : Q) (e : A → P = Q := by intro a; simp -dsimp only [↓zen, ↓zaw, ↓zba, ↓zeo, ↓zej, ↓zeh, ↓zek, ↓zei, ↓zbf, ↓zbb, ↓zbg, ↓zbc, ↓zel, ↓zaZ, ↓zbh, ↓zbd, ↓zbi, ↓zbe, ↓zeg, ↓zem, ↓zaY, ↓zbj, ↓zee, ↓zed, ↓zef,iN,bT,bF,eN, ↓zcI, ↓unC, ↓zV, ↓zJ, ↓zK, ↓zN, ↓zaa, ↓zas, ↓zbH, ↓zah, ↓zaV, ↓zQ, ↓zp, ↓zo, ↓zbr, ↓zk, ↓zag, ↓zG, ↓zaB, ↓zaF, ↓ze, ↓zE, ↓zr, ↓zw, ↓zam, ↓zcs, ↓zcM, ↓zak, ↓zat, ↓zaE, ↓zaJ, ↓zaP, ↓zu, ↓zai, ↓zL, ↓zA, ↓zab,zcT,zaU,zaT,unA,zcW,bnd,zds,zae,zR,zdv,dm,dm1,zC,zaj,zdH,zdG,zM,Q0,Q1,Q2,Q3,Q4,Q5,zT,zq,zx,zO,zI,Q6,Q7,Q8,Q9,Q10,Q11,Q12,Q13,Q14,Nat.reduceAdd,Q15,Int.reduceToNat,Q16,Q17,Q18,Q19,Q20,reduceIte,Q21,Q22,zF,rep,zY,zdD,toD,zad,Q23,Q24,Q25,Q26,Q27,Q28,Nat.reduceLeDiff,Q29,Nat.reduceSub,Q30,Q31,Q32,sc,Q33,Q34,Q35,Q36,Q37,Q26,Q38,Q39,zfZ,zfW,zfT,zga,zbR,zfX,zfU,zfY,zfV,zbQ,zbS,zgb,zgc,Bool.not_true,Bool.not_false,List.length_map,Bool.false_and,Bool.true_and,Option.isSome_some,zda,a]; rfl) : P := (e a).mpr h
theorem gq40 {A P Q : Prop} (a : A) (h : Q) (e : A → P = Q := by intro a; simp -dsimp only [↓zen, ↓zaw, ↓zba, ↓zeo, ↓zej, ↓zeh, ↓zek, ↓zei, ↓zbf, ↓zbb, ↓zbg, ↓zbc, ↓zel, ↓zaZ, ↓zbh, ↓zbd, ↓zbi, ↓zbe, ↓zeg, ↓zem, ↓zaY, ↓zbj, ↓zee, ↓zed, ↓zef,iN,bT,bF,eN, ↓zcI, ↓unC, ↓zV, ↓zJ, ↓zK, ↓zN, ↓zaa, ↓zas, ↓zbH, ↓zah, ↓zaV, ↓zQ, ↓zp, ↓zo, ↓zbr, ↓zk, ↓zag, ↓zG, ↓zaB, ↓zaF, ↓ze, ↓zE, ↓zr, ↓zw, ↓zam, ↓zcs, ↓zcM, ↓zak, ↓zat, ↓zaE, ↓zaJ, ↓zaP, ↓zu, ↓zai, ↓zL, ↓zA, ↓zab,zcT,zaU,zaT,unA,zcW,bnd,zds,zae,zR,zdv,dm,dm1,zC,zaj,zdH,zdG,zM,Q0,Q1,Q2,Q3,Q4,Q5,zT,zq,zx,zO,zI,Q6,Q7,Q8,Q9,Q10,Q11,Q12,Q13,Q14,Nat.reduceAdd,Q15,Int.reduceToNat,Q16,Q17,Q18,Q19,Q20,reduceIte,Q21,Q22,zF,rep,zY,zdD,toD,zad,Q23,Q24,Q25,Q26,Q27,Q28,Nat.reduceLeDiff,Q29,Nat.reduceSub,Q30,Q31,Q32,sc,Q33,Q34,Q35,Q36,Q37,Q26,Q38,Q39,zfZ,zfW,zfT,zga,zbR,zfX,zfU,zfY,zfV,zbQ,zbS,zgb,zgc,Bool.not_true,Bool.not_false,List.length_map,Bool.and_self,Option.isSome_some,zda,a]; rfl) : P := (e a).mpr h
theorem c_auSigned {σ : List zh} {id m t id2 m2 t2 : Nat} {L : List (List UInt8)} {G : List zS} {s : zS} {key : Int} {b : List UInt8} (hT : zcq σ id m t L) (hG : zev σ id2 m2 t2 G) {K : KT}
  (hK : K (.d (.bool (zfu L G s key b))) σ) : zy Tryz.prog zkc [.box id 0, .box id2 0, .agg [.d (.int .i64 s.key), .d (.int .i64 s.dig)], .d (.int .i64 key), .d (.slice (bcs b))] σ K := by
 refine zi zol.is rfl fun hl _ => zol.goes ?_
 have hT1 := fun τ => hT.app τ
 have hG1 := fun τ => hG.app τ
 simp only [zoO,iN,bT,bF,eN]
 (repeat' first | refine gq1 ?_ | with_reducible first | exact ⟨⟩ | refine zg ?_ | fail)
 refine znu (hT1 _) ?_
 have fin : ∀ z,zfu L G s key b = z → K (.d (.bool z)) σ := fun z h => h ▸ hK
 clear hK
 cases hlk : zcX L b with
 | none =>
  (repeat' first | refine gq7 ?_ | with_reducible first | exact ⟨⟩ | refine zg ?_ | fail)
  (first | refine zX hl ?_ | refine zW hl ?_)
  exact fin _ (by simp [zfu,hlk])
 | some i =>
  simp only [zlb]
  cases h1 : (s.key == key)
  ·(repeat' first | refine gq38 h1 ?_ | with_reducible first | exact ⟨⟩ | refine zg ?_ | fail)
   (first | refine zX hl ?_ | refine zW hl ?_)
   exact fin _ (by simp at h1; simp [zfu,hlk,h1])
  ·cases h2 : (s.dig == ((i + 1 : Nat) : Int))
   ·(repeat' first | refine gq39 (zc h1 h2) ?_ | with_reducible first | exact ⟨⟩ | refine zg ?_ | fail)
    (first | refine zX hl ?_ | refine zW hl ?_)
    exact fin _ (by simp at h1 h2; simp [zfu,hlk,h1]; omega)
   ·(repeat' first | refine gq40 (zc h1 h2) ?_ | with_reducible first | exact ⟨⟩ | refine zg ?_ | fail)
    refine c_gSigned (s := s) (hG1 _) ?_
    (repeat' first | refine gq1 ?_ | with_reducible first | exact ⟨⟩ | refine zg ?_ | fail)
    (first | refine zX hl ?_ | refine zW hl ?_)
    exact fin _ (by simp at h1 h2; simp [zfu,hlk,h1,h2])
theorem zvM {σ : List zh} {id m t id2 m2 t2 : Nat} {L : List (List UInt8)} {G : List zS} {s : zS} {key a b c d : Int} (hT : zcq σ id m t L) (hG : zev σ id2 m2 t2 G) (hL : zkB L) (hg : G.length ≤ 1073741824) {K : KT}
  (hK : K (.d (.bool (ziR L G s key a b c d))) σ) :
  zy Tryz.prog zgt [.box id 0, .box id2 0, .agg [.d (.int .i64 s.key), .d (.int .i64 s.dig)], .d (.int .i64 key), .d (.int .i64 a), .d (.int .i64 b), .d (.int .i64 c), .d (.int .i64 d)] σ K := by
 refine zi zkz.is rfl fun hl _ => zkz.goes ?_
 simp only [zkN,iN,bT,bF,eN]
 (repeat' first | refine gq1 ?_ | with_reducible first | exact ⟨⟩ | refine zg ?_ | fail)
 refine c_auMade (hT.app _) (hG.app _) hL hg ?_
 (repeat' first | refine gq1 ?_ | with_reducible first | exact ⟨⟩ | refine zg ?_ | fail)
 refine c_auMay ?_
 cases hm : zrA a b c d
 ·rw [ziR,hm,Bool.false_and] at hK
  (repeat' first | refine gq1 ?_ | with_reducible first | exact ⟨⟩ | refine zg ?_ | fail)
  (first | refine zX hl ?_ | refine zW hl ?_)
  exact hK
 ·rw [ziR,hm,Bool.true_and] at hK
  (repeat' first | refine gq1 ?_ | with_reducible first | exact ⟨⟩ | refine zg ?_ | fail)
  refine zvL hm ?_
  (repeat' first | refine gq1 ?_ | with_reducible first | exact ⟨⟩ | refine zg ?_ | fail)
  refine c_auSigned (s := s) (hT.app _) (hG.app _) ?_
  (repeat' first | refine gq1 ?_ | with_reducible first | exact ⟨⟩ | refine zg ?_ | fail)
  (first | refine zX hl ?_ | refine zW hl ?_)
  exact hK
end Go.Proofs.YtncpaekiidpchaaGreat

/- What a new view goes on with. No program in sight. -/
namespace Go.AW
def zdd (f : Int) : Int := if f < 1 ∨ f > 4 then 120 else 0
def zdp (n f : Int) : Int := if f < 1 ∨ f > 4 then 0 else n * f + 1
end Go.AW

/- Contracts: how many brokers there are, and a quorum has. -/
set_option maxRecDepth 100000
namespace Go.Proofs.YtncpaekiidpchaaGreat
open Go.AW
theorem zkg {A B : Prop} (a : A) (b : B) : A ∧ B := ⟨a,b⟩
theorem gq41 {A P Q : Prop} (a : A) (h : Q) (e : A → P = Q := by intro a; simp -dsimp only [↓zen, ↓zaw, ↓zba, ↓zeo, ↓zej, ↓zeh, ↓zek, ↓zei, ↓zbf, ↓zbb, ↓zbg, ↓zbc, ↓zel, ↓zaZ, ↓zbh, ↓zbd, ↓zbi, ↓zbe, ↓zeg, ↓zem, ↓zaY, ↓zbj, ↓zee, ↓zed, ↓zef,iN,bT,bF,eN, ↓zcI, ↓unC, ↓zV, ↓zJ, ↓zK, ↓zN, ↓zaa, ↓zas, ↓zbH, ↓zah, ↓zaV, ↓zQ, ↓zp, ↓zo, ↓zbr, ↓zk, ↓zag, ↓zG, ↓zaB, ↓zaF, ↓ze, ↓zE, ↓zr, ↓zw, ↓zam, ↓zcs, ↓zcM, ↓zak, ↓zat, ↓zaE, ↓zaJ, ↓zaP, ↓zu, ↓zai, ↓zL, ↓zA, ↓zab,zcT,zaU,zaT,unA,zcW,bnd,zds,zae,zR,zdv,dm,dm1,zC,zaj,zdH,zdG,zM,Q0,Q1,Q2,Q3,Q4,Q5,zT,zq,zx,zO,zI,Q6,Q7,Q8,Q9,Q10,Q11,Q12,Q13,Q14,Nat.reduceAdd,Q15,Int.reduceToNat,Q16,Q17,Q18,Q19,Q20,reduceIte,Q21,Q22,zF,rep,zY,zdD,toD,zad,Q23,Q24,Q25,Q26,Q27,Q28,Nat.reduceLeDiff,Q29,Nat.reduceSub,Q30,Q31,Q32,sc,Q33,Q34,Q35,a]; rfl) : P := (e a).mpr h
theorem zsq {σ : List zh} {f : Int} {K : KT} (hK : K (.d (.int .i64 (zdd f))) σ) : zy Tryz.prog zey [.d (.int .i64 f)] σ K := by
 refine zi zmJ.is rfl fun hl _ => zmJ.goes ?_
 simp only [zmW,iN,bT,bF,eN]
 cases h1 : decide (f < 1) <;> cases h2 : decide (f > 4)
 all_goals
  (refine gq41 (zkg h1 h2) ?_; try with_reducible exact True.intro)
  (first | refine zX hl ?_ | refine zW hl ?_)
  simp only [decide_eq_true_eq,decide_eq_false_iff_not] at h1 h2
 ·rw [zdd,if_neg (by omega)] at hK; exact hK
 all_goals (rw [zdd,if_pos (by omega)] at hK; exact hK)
theorem zoo {σ : List zh} {f : Int} {K : KT} (hK : K (.d (.int .i64 (zdd f))) σ) : zy Tryz.prog zfz [.d (.int .i64 f)] σ K := by
 refine zi zrS.is rfl fun hl _ => zrS.goes ?_
 simp only [zsD,iN,bT,bF,eN]
 cases h1 : decide (f < 1) <;> cases h2 : decide (f > 4)
 all_goals
  (refine gq41 (zkg h1 h2) ?_; try with_reducible exact True.intro)
  (first | refine zX hl ?_ | refine zW hl ?_)
  simp only [decide_eq_true_eq,decide_eq_false_iff_not] at h1 h2
 ·rw [zdd,if_neg (by omega)] at hK; exact hK
 all_goals (rw [zdd,if_pos (by omega)] at hK; exact hK)
theorem gq42 {P Q : Prop} (h : Q) (e : P = Q := by simp -dsimp only [↓zen, ↓zaw, ↓zba, ↓zeo, ↓zej, ↓zeh, ↓zek, ↓zei, ↓zbf, ↓zbb, ↓zbg, ↓zbc, ↓zel, ↓zaZ, ↓zbh, ↓zbd, ↓zbi, ↓zbe, ↓zeg, ↓zem, ↓zaY, ↓zbj, ↓zee, ↓zed, ↓zef,iN,bT,bF,eN, ↓zcI, ↓unC, ↓zV, ↓zJ, ↓zK, ↓zN, ↓zaa, ↓zas, ↓zbH, ↓zah, ↓zaV, ↓zQ, ↓zp, ↓zo, ↓zbr, ↓zk, ↓zag, ↓zG, ↓zaB, ↓zaF, ↓ze, ↓zE, ↓zr, ↓zw, ↓zam, ↓zcs, ↓zcM, ↓zak, ↓zat, ↓zaE, ↓zaJ, ↓zaP, ↓zu, ↓zai, ↓zL, ↓zA, ↓zab,zcT,zaU,zaT,unA,zcW,bnd,zds,zae,zR,zdv,dm,dm1,zC,zaj,zdH,zdG,zM,Q0,Q1,Q2,Q3,Q4,Q5,zT,zq,zx,zO,zI,Q6,Q7,Q8,Q9,Q10,Q11,Q12,Q13,Q14,Nat.reduceAdd,Q15,Int.reduceToNat,Q16,Q17,Q18,Q19,Q20,reduceIte,Q21,Q22,zF,rep,zY,zdD,toD,zad,Q23,Q24,Q25,Q26,Q27,Q28,Nat.reduceLeDiff,Q29,Nat.reduceSub,Q30,Q31,Q32,sc,Q33,Q34,Q35]; rfl) : P := e.mpr h
theorem c_times {σ : List zh} {n f : Int} (hn : 0 ≤ n ∧ n ≤ 3) {K : KT} (hK : K (.d (.int .i64 (zdp n f))) σ) : zy Tryz.prog zfN [.d (.int .i64 n), .d (.int .i64 f)] σ K := by
 refine zi zmI.is rfl fun hl _ => zmI.goes ?_
 simp only [zmV,iN,bT,bF,eN]
 (refine gq42 ?_; try with_reducible exact True.intro)
 refine zsq ?_
 by_cases h : f < 1 ∨ f > 4
 ·rw [zdp,if_pos h] at hK
  rw [zdd,if_pos h]
  (refine gq41 (show ((120 : Int) != 0) = true from rfl) ?_; try with_reducible exact True.intro)
  (first | refine zX hl ?_ | refine zW hl ?_)
  exact hK
 ·rw [zdp,if_neg h] at hK
  rw [zdd,if_neg h]
  have h1 : 0 ≤ n * f := Int.mul_nonneg hn.1 (by omega)
  have h2 : n * f ≤ 3 * 4 := Int.mul_le_mul hn.2 (by omega) (by omega) (by omega)
  have w1 : IntKind.i64.wrap (n * f) = n * f := zP (by omega) (by omega)
  have w2 : IntKind.i64.wrap (n * f + 1) = n * f + 1 := zP (by omega) (by omega)
  (refine gq41 (zkg (show ((0 : Int) != 0) = false from rfl) (zkg w1 w2)) ?_; try with_reducible exact True.intro)
  (first | refine zX hl ?_ | refine zW hl ?_)
  exact hK
theorem c_quBig {σ : List zh} {f : Int} {K : KT} (hK : K (.d (.int .i64 (zdp 2 f))) σ) : zy Tryz.prog zlj [.d (.int .i64 f)] σ K := by
 refine zi zqg.is rfl fun hl _ => zqg.goes ?_
 simp only [zqz,iN,bT,bF,eN]
 (refine gq42 ?_; try with_reducible exact True.intro)
 refine c_times (by omega) ?_
 (refine gq42 ?_; try with_reducible exact True.intro)
 (first | refine zX hl ?_ | refine zW hl ?_)
 exact hK
theorem c_quBrokers {σ : List zh} {f : Int} {K : KT} (hK : K (.d (.int .i64 (zdp 3 f))) σ) : zy Tryz.prog zgr [.d (.int .i64 f)] σ K := by
 refine zi zkt.is rfl fun hl _ => zkt.goes ?_
 simp only [zkH,iN,bT,bF,eN]
 (refine gq42 ?_; try with_reducible exact True.intro)
 refine c_times (by omega) ?_
 (refine gq42 ?_; try with_reducible exact True.intro)
 (first | refine zX hl ?_ | refine zW hl ?_)
 exact hK
theorem zuw {σ : List zh} {f : Int} {K : KT} (hK : K (.d (.int .i64 (zdp 3 f))) σ) : zy Tryz.prog zgV [.d (.int .i64 f)] σ K := by
 refine zi znY.is rfl fun hl _ => znY.goes ?_
 simp only [zoB,iN,bT,bF,eN]
 (refine gq42 ?_; try with_reducible exact True.intro)
 refine zoo ?_
 by_cases h : f < 1 ∨ f > 4
 ·rw [zdp,if_pos h] at hK
  rw [zdd,if_pos h]
  (refine gq41 (show ((120 : Int) != 0) = true from rfl) ?_; try with_reducible exact True.intro)
  (first | refine zX hl ?_ | refine zW hl ?_)
  exact hK
 ·rw [zdp,if_neg h] at hK
  rw [zdd,if_neg h]
  have w1 : IntKind.i64.wrap (3 * f) = 3 * f := zP (by omega) (by omega)
  have w2 : IntKind.i64.wrap (3 * f + 1) = 3 * f + 1 := zP (by omega) (by omega)
  (refine gq41 (zkg (show ((0 : Int) != 0) = false from rfl) (zkg w1 w2)) ?_; try with_reducible exact True.intro)
  (first | refine zX hl ?_ | refine zW hl ?_)
  exact hK
theorem c_rBig {σ : List zh} {f : Int} {K : KT} (hK : K (.d (.int .i64 (zdp 2 f))) σ) : zy Tryz.prog zrv [.d (.int .i64 f)] σ K := by
 refine zi e_r12_Big.is rfl fun hl _ => e_r12_Big.goes ?_
 simp only [S_r12_Big,iN,bT,bF,eN]
 (refine gq42 ?_; try with_reducible exact True.intro)
 refine zoo ?_
 by_cases h : f < 1 ∨ f > 4
 ·rw [zdp,if_pos h] at hK
  rw [zdd,if_pos h]
  (refine gq41 (show ((120 : Int) != 0) = true from rfl) ?_; try with_reducible exact True.intro)
  (first | refine zX hl ?_ | refine zW hl ?_)
  exact hK
 ·rw [zdp,if_neg h] at hK
  rw [zdd,if_neg h]
  have w1 : IntKind.i64.wrap (2 * f) = 2 * f := zP (by omega) (by omega)
  have w2 : IntKind.i64.wrap (2 * f + 1) = 2 * f + 1 := zP (by omega) (by omega)
  (refine gq41 (zkg (show ((0 : Int) != 0) = false from rfl) (zkg w1 w2)) ?_; try with_reducible exact True.intro)
  (first | refine zX hl ?_ | refine zW hl ?_)
  exact hK
end Go.Proofs.YtncpaekiidpchaaGreat

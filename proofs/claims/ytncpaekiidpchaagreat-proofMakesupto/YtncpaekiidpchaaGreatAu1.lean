/- Contracts: votes, on both sides. -/
import Derived.Test.YtncpaekiidpchaaGreatSpMake
import Derived.Test.YtncpaekiidpchaaGreatMk5
import Derived.Test.YtncpaekiidpchaaGreatSpVote
set_option linter.all false
set_option maxRecDepth 100000
namespace Go.Proofs.YtncpaekiidpchaaGreat
open Go.AW
theorem c_auMay {σ : List zf} {a b c d : Int} {K : AV → List zf → Prop} (hK : K (.d (.bool (zrX a b c d))) σ) :
  zL Tryz.prog zoO [.d (.int .i64 a), .d (.int .i64 b), .d (.int .i64 c), .d (.int .i64 d)] σ K := by
 refine zj ztt.is rfl fun hl _ => ztt.goes ?_
 rw [mayV_all] at hK
 simp only [zug,iN,bT,bF,eN]
 (repeat' first | refine gq1 ?_ | with_reducible first | exact ⟨⟩ | refine zh ?_ | fail)
 have hg : ∀ (k : Nat) x, [a,b,c,d][k]? = some x → [[D.int .i64 a], [D.int .i64 b], [D.int .i64 c], [D.int .i64 d]][k]? = some [D.int .i64 x] := fun k x h => by
  have := zaf (f := fun t => [D.int .i64 t]) h
  simpa using this
 have hl4 : [a,b,c,d].length = 4 := rfl
 obtain ⟨l,hlq⟩ : ∃ l, [a,b,c,d] = l := ⟨_,rfl⟩
 rw [hlq] at hK hl4 hg
 refine zK 4 (fun k vs s => vs = [.d (.int .i64 k)] ∧ (∃ T,s = σ ++ T) ∧ (l.take k).all zdw = true) ⟨rfl,⟨[],(List.append_nil σ).symm⟩,by simp⟩ ?_
 rintro k vs s hk ⟨rfl,⟨T,rfl⟩,hok⟩
 by_cases hlt : k < 4
 ·have hd : decide ((k : Int) < ((4 : Nat) : Int)) = true := by simp; omega
  have hx : l[k]? = some (l[k]'(by omega)) := List.getElem?_eq_getElem _
  have hgx := hg k _ hx
  obtain ⟨x,hxe⟩ : ∃ x,(l[k]'(by omega)) = x := ⟨_,rfl⟩
  rw [hxe] at hx hgx
  have bad : zdw x = false → l.all zdw = false := fun h => by
   rw [Bool.eq_false_iff]
   intro hall
   have := List.all_eq_true.1 hall x (List.mem_of_getElem? hx)
   rw [h] at this; cases this
  have hx2 : zdw x = (decide (0 ≤ x) && decide (x ≤ 9007199254740992)) := by simp [zdw]
  cases h1 : decide (x < 0)
  ·cases h2 : decide (x > 9007199254740992)
   ·(repeat' first | refine gq2 (zd hd (zd hgx (zd h1 (zd h2 (wki k (by omega)))))) ?_ | with_reducible first | exact ⟨⟩ | refine zh ?_ | fail)
    refine zav.next hlt ⟨rfl,⟨_,rfl⟩, ?_⟩
    rw [List.take_add_one,hx]
    simp only [List.all_append,hok,Option.toList_some,List.all_cons,List.all_nil,Bool.true_and,Bool.and_true]
    simp at h1 h2
    simp [zdw]; omega
   ·rw [bad (by simp at h2; simp [zdw]; omega)] at hK
    (repeat' first | refine gq2 (zd hd (zd hgx (zd h1 h2))) ?_ | with_reducible first | exact ⟨⟩ | refine zh ?_ | fail)
    (first | refine zao hl ?_ | refine zan hl ?_)
    exact hK
  ·rw [bad (by simp at h1; simp [zdw]; omega)] at hK
   (repeat' first | refine gq2 (zd hd (zd hgx h1)) ?_ | with_reducible first | exact ⟨⟩ | refine zh ?_ | fail)
   (first | refine zao hl ?_ | refine zan hl ?_)
   exact hK
 ·have hd : decide ((k : Int) < ((4 : Nat) : Int)) = false := by simp; omega
  rw [List.take_of_length_le (by omega)] at hok
  rw [hok] at hK
  (repeat' first | refine gq2 hd ?_ | with_reducible first | exact ⟨⟩ | refine zh ?_ | fail)
  (first | refine zao hl ?_ | refine zan hl ?_)
  exact hK
theorem c_auPut {σ : List zf} {b : List UInt8} {l : List Int} (hb : b.length ≤ 1000000) (hl0 : l.length ≤ 1000) (hi : ∀ x ∈ l, 0 ≤ x ∧ x ≤ 9007199254740992) {K : AV → List zf → Prop} (hK : K (.d (.slice (bcs (b ++ zgF l)))) σ) :
  zL Tryz.prog zoN [.d (.slice (bcs b)), .d (.slice (zbC l))] σ K := by
 refine zj zts.is rfl fun hl _ => zts.goes ?_
 simp only [zuf,iN,bT,bF,eN]
 (repeat' first | refine gq1 ?_ | with_reducible first | exact ⟨⟩ | refine zh ?_ | fail)
 refine zK l.length (fun k vs s => (∃ x,vs = [x, .d (.int .i64 k)] ∧ (x = .d (.slice (bcs (b ++ zgF (l.take k)))) ∨ ∃ t,x = .own t (bcs (b ++ zgF (l.take k))))) ∧ ∃ T,s = σ ++ T) ⟨⟨_,rfl, .inl (by simp [zgF])⟩, [],by simp⟩ ?_
 rintro k vs s hk ⟨⟨y,rfl,hy⟩,T,rfl⟩
 have hdy : dm y = .d (.slice (bcs (b ++ zgF (l.take k)))) := by
  rcases hy with rfl | ⟨t,rfl⟩ <;> rfl
 by_cases hlt : k < l.length
 ·have hd : decide ((k : Int) < (l.length : Int)) = true := by simp; omega
  have hx : l[k]? = some l[k] := by simp [hlt]
  have hxi := hi _ (List.getElem_mem hlt)
  have hgx := zaf (f := fun t => [D.int .i64 t]) hx
  obtain ⟨x,hxe⟩ : ∃ x,l[k] = x := ⟨_,rfl⟩
  rw [hxe] at hx hgx hxi
  have hm1 : (if x > 0 then x else 0) = x := by split <;> omega
  have hm2 : (if 0 < x then x else 0) = x := by split <;> omega
  have hw : IntKind.u64.wrap x = ((x.toNat : Nat) : Int) := by
   rw [show x = ((x.toNat : Nat) : Int) by omega,zcq (by omega)]; rfl
  have hln := zky (l := l.take k) (fun y hy => by have := hi y (List.mem_of_mem_take hy); omega)
  have hlk : (l.take k).length = k := by rw [List.length_take]; omega
  have hw2 : IntKind.i64.wrap ((k : Int) + 1) = ((k + 1 : Nat) : Int) := by rw [zai (by omega) (by omega)]; rfl
  have hbl : (b ++ zgF (l.take k)).length ≤ 1073741824 := by rw [List.length_append]; omega
  rcases hy with rfl | ⟨t,rfl⟩
  ·(repeat' first | refine gq2 (zd hd (zd hgx (zd hm1 (zd hm2 hw)))) ?_ | with_reducible first | exact ⟨⟩ | refine zh ?_ | fail)
   refine zjK (by omega) hbl ?_
   (repeat' first | refine gq2 hw2 ?_ | with_reducible first | exact ⟨⟩ | refine zh ?_ | fail)
   exact zav.next hlt ⟨⟨_,rfl, .inr ⟨_,by rw [zlx hx]⟩⟩,_,rfl⟩
  ·(repeat' first | refine gq2 (zd hd (zd hgx (zd hm1 (zd hm2 hw)))) ?_ | with_reducible first | exact ⟨⟩ | refine zh ?_ | fail)
   refine zjK (by omega) hbl ?_
   (repeat' first | refine gq2 hw2 ?_ | with_reducible first | exact ⟨⟩ | refine zh ?_ | fail)
   exact zav.next hlt ⟨⟨_,rfl, .inr ⟨_,by rw [zlx hx]⟩⟩,_,rfl⟩
 ·have hd : decide ((k : Int) < (l.length : Int)) = false := by simp; omega
  rw [List.take_of_length_le (by omega)] at hy
  rcases hy with rfl | ⟨t,rfl⟩
  ·(repeat' first | refine gq2 hd ?_ | with_reducible first | exact ⟨⟩ | refine zh ?_ | fail)
   (first | refine zao hl ?_ | refine zan hl ?_)
   exact hK
  ·(repeat' first | refine gq2 hd ?_ | with_reducible first | exact ⟨⟩ | refine zh ?_ | fail)
   (first | refine zao hl ?_ | refine zan hl ?_)
   exact hK
end Go.Proofs.YtncpaekiidpchaaGreat

/- Contracts: votes, the program's. -/
set_option maxRecDepth 100000
namespace Go.Proofs.YtncpaekiidpchaaGreat
open Go.AW
theorem may_all {a b c d : Int} (h : zrX a b c d = true) : ∀ x ∈ [a,b,c,d], 0 ≤ x ∧ x ≤ 9007199254740992 := by
 rw [mayV_all,List.all_eq_true] at h
 exact fun x hx => znh.1 (h x hx)
theorem zva {σ : List zf} {a b c d : Int} (h : zrX a b c d = true) {K : AV → List zf → Prop} (hK : K (.d (.slice (bcs (zkk a b c d)))) σ) :
  zL Tryz.prog zgf [.d (.int .i64 a), .d (.int .i64 b), .d (.int .i64 c), .d (.int .i64 d)] σ K := by
 refine zj zjV.is rfl fun hl _ => zjV.goes ?_
 simp only [zki,iN,bT,bF,eN]
 (repeat' first | refine gq1 ?_ | with_reducible first | exact ⟨⟩ | refine zh ?_ | fail)
 refine c_auPut (b := [4]) (l := [a,b,c,d]) (by simp) (by simp) (may_all h) ?_
 (repeat' first | refine gq1 ?_ | with_reducible first | exact ⟨⟩ | refine zh ?_ | fail)
 (first | refine zao hl ?_ | refine zan hl ?_)
 exact hK
theorem c_auMade {σ : List zf} {id m t id2 m2 t2 : Nat} {l : List (List UInt8)} {g : List zae} (hT : zcu σ id m t l) (hG : zeb σ id2 m2 t2 g) (hL : zjY l) (hg : g.length ≤ 1073741824) {K : AV → List zf → Prop}
  (hK : K (.d (.bool true)) σ) : zL Tryz.prog zmH [.box id 0, .box id2 0] σ K := by
 refine zj zrs.is rfl fun hl _ => zrs.goes ?_
 simp only [zrW,iN,bT,bF,eN]
 (repeat' first | refine gq1 ?_ | with_reducible first | exact ⟨⟩ | refine zh ?_ | fail)
 refine zlI hT hL.nd hL.len hL.each ?_
 (repeat' first | refine gq1 ?_ | with_reducible first | exact ⟨⟩ | refine zh ?_ | fail)
 refine zqr (hG.app _) hg fun g' => ?_
 (repeat' first | refine gq1 ?_ | with_reducible first | exact ⟨⟩ | refine zh ?_ | fail)
 (first | refine zao hl ?_ | refine zan hl ?_)
 exact hK
theorem gq44 {A P Q : Prop} (a : A) (h : Q) (e : A → P = Q := by intro a; simp -dsimp only [↓zcR, ↓zal, ↓zaM, ↓zcS, ↓zcN, ↓zcL, ↓zcO, ↓zcM, ↓zaR, ↓zaN, ↓zaS, ↓zaO, ↓zcP, ↓zaL, ↓zaT, ↓zaP, ↓zaU, ↓zaQ, ↓zcK, ↓zcQ, ↓zaK, ↓zaV, ↓zcI, ↓zcH, ↓zcJ,iN,bT,bF,eN, ↓zbI, ↓unC, ↓zQ, ↓zF, ↓zG, ↓zI, ↓zR, ↓zap, ↓zbp, ↓zab, ↓zaX, ↓zP, ↓zp, ↓zm, ↓zbg, ↓zi, ↓zY, ↓zB, ↓zas, ↓zaw, ↓ze, ↓zC, ↓zr, ↓zt, ↓zad, ↓zbL, ↓zbY, ↓zaa, ↓zaj, ↓zau, ↓zaB, ↓zaD, ↓zl, ↓zZ, ↓zH, ↓zu, ↓zS,zcd,zaI,zaH,unA,zce,bnd,zcn,zX,zV,zcp,dm,dm1,zD,zag,zcy,zcx,zU,Q0,Q1,Q2,Q3,Q4,Q5,zO,zq,zw,zM,zE,Q6,Q7,Q8,Q9,Q10,Q11,Q12,Q13,Q14,Nat.reduceAdd,Q15,Int.reduceToNat,Q16,Q17,Q18,Q19,Q20,reduceIte,Q21,Q22,zx,rep,zT,zcv,toD,zW,Q23,Q24,Q25,Q26,Q27,Q28,Nat.reduceLeDiff,Q29,Nat.reduceSub,Q30,Q31,Q32,sc,Q33,Q34,Q35,Q36,Q37,Q26,Q38,Q39,zel,zei,zef,zem,zbt,zej,zeg,zek,zeh,zbs,zbu,zen,zeo,Bool.not_true,Bool.not_false,List.length_map,Bool.false_and,Option.isSome_some,zcj,a]; rfl) : P := (e a).mpr h
theorem gq45 {A P Q : Prop} (a : A) (h : Q) (e : A → P = Q := by intro a; simp -dsimp only [↓zcR, ↓zal, ↓zaM, ↓zcS, ↓zcN, ↓zcL, ↓zcO, ↓zcM, ↓zaR, ↓zaN, ↓zaS, ↓zaO, ↓zcP, ↓zaL, ↓zaT, ↓zaP, ↓zaU, ↓zaQ, ↓zcK, ↓zcQ, ↓zaK, ↓zaV, ↓zcI, ↓zcH, ↓zcJ,iN,bT,bF,eN, ↓zbI, ↓unC, ↓zQ, ↓zF, ↓zG, ↓zI, ↓zR, ↓zap, ↓zbp, ↓zab, ↓zaX, ↓zP, ↓zp, ↓zm, ↓zbg, ↓zi, ↓zY, ↓zB, ↓zas, ↓zaw, ↓ze, ↓zC, ↓zr, ↓zt, ↓zad, ↓zbL, ↓zbY, ↓zaa, ↓zaj, ↓zau, ↓zaB, ↓zaD, ↓zl, ↓zZ, ↓zH, ↓zu, ↓zS,zcd,zaI,zaH,unA,zce,bnd,zcn,zX,zV,zcp,dm,dm1,zD,zag,zcy,zcx,zU,Q0,Q1,Q2,Q3,Q4,Q5,zO,zq,zw,zM,zE,Q6,Q7,Q8,Q9,Q10,Q11,Q12,Q13,Q14,Nat.reduceAdd,Q15,Int.reduceToNat,Q16,Q17,Q18,Q19,Q20,reduceIte,Q21,Q22,zx,rep,zT,zcv,toD,zW,Q23,Q24,Q25,Q26,Q27,Q28,Nat.reduceLeDiff,Q29,Nat.reduceSub,Q30,Q31,Q32,sc,Q33,Q34,Q35,Q36,Q37,Q26,Q38,Q39,zel,zei,zef,zem,zbt,zej,zeg,zek,zeh,zbs,zbu,zen,zeo,Bool.not_true,Bool.not_false,List.length_map,Bool.false_and,Bool.true_and,Option.isSome_some,zcj,a]; rfl) : P := (e a).mpr h
theorem gq46 {A P Q : Prop} (a : A) (h : Q) (e : A → P = Q := by intro a; simp -dsimp only [↓zcR, ↓zal, ↓zaM, ↓zcS, ↓zcN, ↓zcL, ↓zcO, ↓zcM, ↓zaR, ↓zaN, ↓zaS, ↓zaO, ↓zcP, ↓zaL, ↓zaT, ↓zaP, ↓zaU, ↓zaQ, ↓zcK, ↓zcQ, ↓zaK, ↓zaV, ↓zcI, ↓zcH, ↓zcJ,iN,bT,bF,eN, ↓zbI, ↓unC, ↓zQ, ↓zF, ↓zG, ↓zI, ↓zR, ↓zap, ↓zbp, ↓zab, ↓zaX, ↓zP, ↓zp, ↓zm, ↓zbg, ↓zi, ↓zY, ↓zB, ↓zas, ↓zaw, ↓ze, ↓zC, ↓zr, ↓zt, ↓zad, ↓zbL, ↓zbY, ↓zaa, ↓zaj, ↓zau, ↓zaB, ↓zaD, ↓zl, ↓zZ, ↓zH, ↓zu, ↓zS,zcd,zaI,zaH,unA,zce,bnd,zcn,zX,zV,zcp,dm,dm1,zD,zag,zcy,zcx,zU,Q0,Q1,Q2,Q3,Q4,Q5,zO,zq,zw,zM,zE,Q6,Q7,Q8,Q9,Q10,Q11,Q12,Q13,Q14,Nat.reduceAdd,Q15,Int.reduceToNat,Q16,Q17,Q18,Q19,Q20,reduceIte,Q21,Q22,zx,rep,zT,zcv,toD,zW,Q23,Q24,Q25,Q26,Q27,Q28,Nat.reduceLeDiff,Q29,Nat.reduceSub,Q30,Q31,Q32,sc,Q33,Q34,Q35,Q36,Q37,Q26,Q38,Q39,zel,zei,zef,zem,zbt,zej,zeg,zek,zeh,zbs,zbu,zen,zeo,Bool.not_true,Bool.not_false,List.length_map,Bool.and_self,Option.isSome_some,zcj,a]; rfl) : P := (e a).mpr h
theorem c_auSigned {σ : List zf} {id m t id2 m2 t2 : Nat} {L : List (List UInt8)} {G : List zae} {s : zae} {key : Int} {b : List UInt8} (hT : zcu σ id m t L) (hG : zeb σ id2 m2 t2 G) {K : AV → List zf → Prop}
  (hK : K (.d (.bool (zmy L G s key b))) σ) : zL Tryz.prog zjD [.box id 0, .box id2 0, .agg [.d (.int .i64 s.key), .d (.int .i64 s.dig)], .d (.int .i64 key), .d (.slice (bcs b))] σ K := by
 refine zj znH.is rfl fun hl _ => znH.goes ?_
 have hT1 := fun τ => hT.app τ
 have hG1 := fun τ => hG.app τ
 simp only [zoi,iN,bT,bF,eN]
 (repeat' first | refine gq1 ?_ | with_reducible first | exact ⟨⟩ | refine zh ?_ | fail)
 refine zmS (hT1 _) ?_
 have fin : ∀ z,zmy L G s key b = z → K (.d (.bool z)) σ := fun z h => h ▸ hK
 clear hK
 cases hlk : zdD L b with
 | none =>
  (repeat' first | refine gq7 ?_ | with_reducible first | exact ⟨⟩ | refine zh ?_ | fail)
  (first | refine zao hl ?_ | refine zan hl ?_)
  exact fin _ (by simp [zmy,hlk])
 | some i =>
  simp only [zni]
  cases h1 : (s.key == key)
  ·(repeat' first | refine gq44 h1 ?_ | with_reducible first | exact ⟨⟩ | refine zh ?_ | fail)
   (first | refine zao hl ?_ | refine zan hl ?_)
   exact fin _ (by simp at h1; simp [zmy,hlk,h1])
  ·cases h2 : (s.dig == ((i + 1 : Nat) : Int))
   ·(repeat' first | refine gq45 (zd h1 h2) ?_ | with_reducible first | exact ⟨⟩ | refine zh ?_ | fail)
    (first | refine zao hl ?_ | refine zan hl ?_)
    exact fin _ (by simp at h1 h2; simp [zmy,hlk,h1]; omega)
   ·(repeat' first | refine gq46 (zd h1 h2) ?_ | with_reducible first | exact ⟨⟩ | refine zh ?_ | fail)
    refine c_gSigned (s := s) (hG1 _) ?_
    (repeat' first | refine gq1 ?_ | with_reducible first | exact ⟨⟩ | refine zh ?_ | fail)
    (first | refine zao hl ?_ | refine zan hl ?_)
    exact fin _ (by simp at h1 h2; simp [zmy,hlk,h1,h2])
theorem zvb {σ : List zf} {id m t id2 m2 t2 : Nat} {L : List (List UInt8)} {G : List zae} {s : zae} {key a b c d : Int} (hT : zcu σ id m t L) (hG : zeb σ id2 m2 t2 G) (hL : zjY L) (hg : G.length ≤ 1073741824) {K : AV → List zf → Prop}
  (hK : K (.d (.bool (zqw L G s key a b c d))) σ) :
  zL Tryz.prog zgg [.box id 0, .box id2 0, .agg [.d (.int .i64 s.key), .d (.int .i64 s.dig)], .d (.int .i64 key), .d (.int .i64 a), .d (.int .i64 b), .d (.int .i64 c), .d (.int .i64 d)] σ K := by
 refine zj zjW.is rfl fun hl _ => zjW.goes ?_
 simp only [zkj,iN,bT,bF,eN]
 (repeat' first | refine gq1 ?_ | with_reducible first | exact ⟨⟩ | refine zh ?_ | fail)
 refine c_auMade (hT.app _) (hG.app _) hL hg ?_
 (repeat' first | refine gq1 ?_ | with_reducible first | exact ⟨⟩ | refine zh ?_ | fail)
 refine c_auMay ?_
 cases hm : zrX a b c d
 ·rw [zqw,hm,Bool.false_and] at hK
  (repeat' first | refine gq1 ?_ | with_reducible first | exact ⟨⟩ | refine zh ?_ | fail)
  (first | refine zao hl ?_ | refine zan hl ?_)
  exact hK
 ·rw [zqw,hm,Bool.true_and] at hK
  (repeat' first | refine gq1 ?_ | with_reducible first | exact ⟨⟩ | refine zh ?_ | fail)
  refine zva hm ?_
  (repeat' first | refine gq1 ?_ | with_reducible first | exact ⟨⟩ | refine zh ?_ | fail)
  refine c_auSigned (s := s) (hT.app _) (hG.app _) ?_
  (repeat' first | refine gq1 ?_ | with_reducible first | exact ⟨⟩ | refine zh ?_ | fail)
  (first | refine zao hl ?_ | refine zan hl ?_)
  exact hK
end Go.Proofs.YtncpaekiidpchaaGreat

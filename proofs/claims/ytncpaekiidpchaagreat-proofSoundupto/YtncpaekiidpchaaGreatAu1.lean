/- Contracts: votes, on both sides. -/
import Derived.Test.YtncpaekiidpchaaGreatSpMake
import Derived.Test.YtncpaekiidpchaaGreatMk5
import Derived.Test.YtncpaekiidpchaaGreatSpVote
set_option linter.all false
set_option maxRecDepth 100000
namespace Go.Proofs.YtncpaekiidpchaaGreat
open Go.AW
theorem c_auMay {σ : List zg} {a b c d : Int} {K : KT} (hK : K (.d (.bool (zmM a b c d))) σ) :
  zE Tryz.prog zoI [.d (.int .i64 a), .d (.int .i64 b), .d (.int .i64 c), .d (.int .i64 d)] σ K := by
 refine zi ztk.is rfl fun hl _ => ztk.goes ?_
 rw [mayV_all] at hK
 simp only [ztP,iN,bT,bF,eN]
 (repeat' first | refine gq1 ?_ | with_reducible first | exact ⟨⟩ | refine zh ?_ | fail)
 have hg : ∀ (k : Nat) x, [a,b,c,d][k]? = some x → [[D.int .i64 a], [D.int .i64 b], [D.int .i64 c], [D.int .i64 d]][k]? = some [D.int .i64 x] := fun k x h => by
  have := zae (f := fun t => [D.int .i64 t]) h
  simpa using this
 have hl4 : [a,b,c,d].length = 4 := rfl
 obtain ⟨l,hlq⟩ : ∃ l, [a,b,c,d] = l := ⟨_,rfl⟩
 rw [hlq] at hK hl4 hg
 refine zG 4 (fun k vs s => vs = [.d (.int .i64 k)] ∧ (∃ T,s = σ ++ T) ∧ (l.take k).all zcv = true) ⟨rfl,⟨[],(List.append_nil σ).symm⟩,by simp⟩ ?_
 rintro k vs s hk ⟨rfl,⟨T,rfl⟩,hok⟩
 by_cases hlt : k < 4
 ·have hd : decide ((k : Int) < ((4 : Nat) : Int)) = true := by simp; omega
  have hx : l[k]? = some (l[k]'(by omega)) := List.getElem?_eq_getElem _
  have hgx := hg k _ hx
  obtain ⟨x,hxe⟩ : ∃ x,(l[k]'(by omega)) = x := ⟨_,rfl⟩
  rw [hxe] at hx hgx
  have bad : zcv x = false → l.all zcv = false := fun h => by
   rw [Bool.eq_false_iff]
   intro hall
   have := List.all_eq_true.1 hall x (List.mem_of_getElem? hx)
   rw [h] at this; cases this
  have hx2 : zcv x = (decide (0 ≤ x) && decide (x ≤ 9007199254740992)) := by simp [zcv]
  cases h1 : decide (x < 0)
  ·cases h2 : decide (x > 9007199254740992)
   ·(repeat' first | refine gq2 (zd hd (zd hgx (zd h1 (zd h2 (wki k (by omega)))))) ?_ | with_reducible first | exact ⟨⟩ | refine zh ?_ | fail)
    refine zav.next hlt ⟨rfl,⟨_,rfl⟩, ?_⟩
    rw [List.take_add_one,hx]
    simp only [List.all_append,hok,Option.toList_some,List.all_cons,List.all_nil,Bool.true_and,Bool.and_true]
    simp at h1 h2
    simp [zcv]; omega
   ·rw [bad (by simp at h2; simp [zcv]; omega)] at hK
    (repeat' first | refine gq2 (zd hd (zd hgx (zd h1 h2))) ?_ | with_reducible first | exact ⟨⟩ | refine zh ?_ | fail)
    (first | refine zar hl ?_ | refine zaq hl ?_)
    exact hK
  ·rw [bad (by simp at h1; simp [zcv]; omega)] at hK
   (repeat' first | refine gq2 (zd hd (zd hgx h1)) ?_ | with_reducible first | exact ⟨⟩ | refine zh ?_ | fail)
   (first | refine zar hl ?_ | refine zaq hl ?_)
   exact hK
 ·have hd : decide ((k : Int) < ((4 : Nat) : Int)) = false := by simp; omega
  rw [List.take_of_length_le (by omega)] at hok
  rw [hok] at hK
  (repeat' first | refine gq2 hd ?_ | with_reducible first | exact ⟨⟩ | refine zh ?_ | fail)
  (first | refine zar hl ?_ | refine zaq hl ?_)
  exact hK
theorem c_auPut {σ : List zg} {b : List UInt8} {l : List Int} (hb : b.length ≤ 1000000) (hl0 : l.length ≤ 1000) (hi : ∀ x ∈ l, 0 ≤ x ∧ x ≤ 9007199254740992) {K : KT} (hK : K (.d (.slice (bcs (b ++ zfE l)))) σ) :
  zE Tryz.prog zoH [.d (.slice (bcs b)), .d (.slice (zbJ l))] σ K := by
 refine zi ztj.is rfl fun hl _ => ztj.goes ?_
 simp only [ztO,iN,bT,bF,eN]
 (repeat' first | refine gq1 ?_ | with_reducible first | exact ⟨⟩ | refine zh ?_ | fail)
 refine zG l.length (fun k vs s => (∃ x,vs = [x, .d (.int .i64 k)] ∧ (x = .d (.slice (bcs (b ++ zfE (l.take k)))) ∨ ∃ t,x = .own t (bcs (b ++ zfE (l.take k))))) ∧ ∃ T,s = σ ++ T) ⟨⟨_,rfl, .inl (by simp [zfE])⟩, [],by simp⟩ ?_
 rintro k vs s hk ⟨⟨y,rfl,hy⟩,T,rfl⟩
 have hdy : dm y = .d (.slice (bcs (b ++ zfE (l.take k)))) := by
  rcases hy with rfl | ⟨t,rfl⟩ <;> rfl
 by_cases hlt : k < l.length
 ·have hd : decide ((k : Int) < (l.length : Int)) = true := by simp; omega
  have hx : l[k]? = some l[k] := by simp [hlt]
  have hxi := hi _ (List.getElem_mem hlt)
  have hgx := zae (f := fun t => [D.int .i64 t]) hx
  obtain ⟨x,hxe⟩ : ∃ x,l[k] = x := ⟨_,rfl⟩
  rw [hxe] at hx hgx hxi
  have hm1 : (if x > 0 then x else 0) = x := by split <;> omega
  have hm2 : (if 0 < x then x else 0) = x := by split <;> omega
  have hw : IntKind.u64.wrap x = ((x.toNat : Nat) : Int) := by
   rw [show x = ((x.toNat : Nat) : Int) by omega,zch (by omega)]; rfl
  have hln := zkA (l := l.take k) (fun y hy => by have := hi y (List.mem_of_mem_take hy); omega)
  have hlk : (l.take k).length = k := by rw [List.length_take]; omega
  have hw2 : IntKind.i64.wrap ((k : Int) + 1) = ((k + 1 : Nat) : Int) := by rw [zY (by omega) (by omega)]; rfl
  have hbl : (b ++ zfE (l.take k)).length ≤ 1073741824 := by rw [List.length_append]; omega
  rcases hy with rfl | ⟨t,rfl⟩
  ·(repeat' first | refine gq2 (zd hd (zd hgx (zd hm1 (zd hm2 hw)))) ?_ | with_reducible first | exact ⟨⟩ | refine zh ?_ | fail)
   refine zjM (by omega) hbl ?_
   (repeat' first | refine gq2 hw2 ?_ | with_reducible first | exact ⟨⟩ | refine zh ?_ | fail)
   exact zav.next hlt ⟨⟨_,rfl, .inr ⟨_,by rw [zlB hx]⟩⟩,_,rfl⟩
  ·(repeat' first | refine gq2 (zd hd (zd hgx (zd hm1 (zd hm2 hw)))) ?_ | with_reducible first | exact ⟨⟩ | refine zh ?_ | fail)
   refine zjM (by omega) hbl ?_
   (repeat' first | refine gq2 hw2 ?_ | with_reducible first | exact ⟨⟩ | refine zh ?_ | fail)
   exact zav.next hlt ⟨⟨_,rfl, .inr ⟨_,by rw [zlB hx]⟩⟩,_,rfl⟩
 ·have hd : decide ((k : Int) < (l.length : Int)) = false := by simp; omega
  rw [List.take_of_length_le (by omega)] at hy
  rcases hy with rfl | ⟨t,rfl⟩
  ·(repeat' first | refine gq2 hd ?_ | with_reducible first | exact ⟨⟩ | refine zh ?_ | fail)
   (first | refine zar hl ?_ | refine zaq hl ?_)
   exact hK
  ·(repeat' first | refine gq2 hd ?_ | with_reducible first | exact ⟨⟩ | refine zh ?_ | fail)
   (first | refine zar hl ?_ | refine zaq hl ?_)
   exact hK
end Go.Proofs.YtncpaekiidpchaaGreat

/- Contracts: votes, the program's. -/
set_option maxRecDepth 100000
namespace Go.Proofs.YtncpaekiidpchaaGreat
open Go.AW
theorem may_all {a b c d : Int} (h : zmM a b c d = true) : ∀ x ∈ [a,b,c,d], 0 ≤ x ∧ x ≤ 9007199254740992 := by
 rw [mayV_all,List.all_eq_true] at h
 exact fun x hx => zdl.1 (h x hx)
theorem zuD {σ : List zg} {a b c d : Int} (h : zmM a b c d = true) {K : KT} (hK : K (.d (.slice (bcs (zdC a b c d)))) σ) :
  zE Tryz.prog zfV [.d (.int .i64 a), .d (.int .i64 b), .d (.int .i64 c), .d (.int .i64 d)] σ K := by
 refine zi zjZ.is rfl fun hl _ => zjZ.goes ?_
 simp only [zkm,iN,bT,bF,eN]
 (repeat' first | refine gq1 ?_ | with_reducible first | exact ⟨⟩ | refine zh ?_ | fail)
 refine c_auPut (b := [4]) (l := [a,b,c,d]) (by simp) (by simp) (may_all h) ?_
 (repeat' first | refine gq1 ?_ | with_reducible first | exact ⟨⟩ | refine zh ?_ | fail)
 (first | refine zar hl ?_ | refine zaq hl ?_)
 exact hK
theorem c_auMade {σ : List zg} {id m t id2 m2 t2 : Nat} {l : List (List UInt8)} {g : List zJ} (hT : zcm σ id m t l) (hG : zdZ σ id2 m2 t2 g) (hL : zkc l) (hg : g.length ≤ 1073741824) {K : KT}
  (hK : K (.d (.bool true)) σ) : zE Tryz.prog zmL [.box id 0, .box id2 0] σ K := by
 refine zi zrq.is rfl fun hl _ => zrq.goes ?_
 simp only [zrV,iN,bT,bF,eN]
 (repeat' first | refine gq1 ?_ | with_reducible first | exact ⟨⟩ | refine zh ?_ | fail)
 refine zlJ hT hL.nd hL.len hL.each ?_
 (repeat' first | refine gq1 ?_ | with_reducible first | exact ⟨⟩ | refine zh ?_ | fail)
 refine zqo (hG.app _) hg fun g' => ?_
 (repeat' first | refine gq1 ?_ | with_reducible first | exact ⟨⟩ | refine zh ?_ | fail)
 (first | refine zar hl ?_ | refine zaq hl ?_)
 exact hK
theorem gq37 {A P Q : Prop} (a : A) (h : Q) (e : A → P = Q := by intro a; simp -dsimp only [↓zes, ↓zaw, ↓zbf, ↓zet, ↓zen, ↓zel, ↓zeo, ↓zem, ↓zbk, ↓zbg, ↓zbl, ↓zbh, ↓zep, ↓zbe, ↓zbm, ↓zbi, ↓zbn, ↓zbj, ↓zek, ↓zeq, ↓zbd, ↓zbo, ↓zef, ↓zee, ↓zej,iN,bT,bF,eN, ↓zcS, ↓unC, ↓zU, ↓zK, ↓zL, ↓zN, ↓zZ, ↓zax, ↓zbQ, ↓zaf, ↓zbp, ↓zP, ↓zq, ↓zo, ↓zbu, ↓zl, ↓zah, ↓zI, ↓zaD, ↓zaG, ↓ze, ↓zC, ↓zt, ↓zw, ↓zan, ↓zcC, ↓zcV, ↓zal, ↓zat, ↓zaE, ↓zaN, ↓zaS, ↓zu, ↓zai, ↓zM, ↓zA, ↓zaa,zcZ,zba,zaV,unA,zdg,bnd,zdy,zad,zS,zdz,dm,dm1,zB,zak,zdQ,zdP,zR,Q0,Q1,Q2,Q3,Q4,Q5,zQ,zr,zy,zO,zH,Q6,Q7,Q8,Q9,Q10,Q11,Q12,Q13,Q14,Nat.reduceAdd,Q15,Int.reduceToNat,Q16,Q17,Q18,Q19,Q20,reduceIte,Q21,Q22,zD,rep,zV,zdK,toD,zac,Q23,Q24,Q25,Q26,Q27,Q28,Nat.reduceLeDiff,Q29,Nat.reduceSub,Q30,Q31,Q32,sc,Q33,Q34,Q35,Q36,Q37,Q26,Q38,Q39,zgF,zgC,zgz,zgG,zcb,zgD,zgA,zgE,zgB,zca,zcc,zgK,zgL,Bool.not_true,Bool.not_false,List.length_map,Bool.false_and,Option.isSome_some,zcW,a]; rfl) : P := (e a).mpr h
theorem gq38 {A P Q : Prop} (a : A) (h : Q) (e : A → P = Q := by intro a; simp -dsimp only [↓zes, ↓zaw, ↓zbf, ↓zet, ↓zen, ↓zel, ↓zeo, ↓zem, ↓zbk, ↓zbg, ↓zbl, ↓zbh, ↓zep, ↓zbe, ↓zbm, ↓zbi, ↓zbn, ↓zbj, ↓zek, ↓zeq, ↓zbd, ↓zbo, ↓zef, ↓zee, ↓zej,iN,bT,bF,eN, ↓zcS, ↓unC, ↓zU, ↓zK, ↓zL, ↓zN, ↓zZ, ↓zax, ↓zbQ, ↓zaf, ↓zbp, ↓zP, ↓zq, ↓zo, ↓zbu, ↓zl, ↓zah, ↓zI, ↓zaD, ↓zaG, ↓ze, ↓zC, ↓zt, ↓zw, ↓zan, ↓zcC, ↓zcV, ↓zal, ↓zat, ↓zaE, ↓zaN, ↓zaS, ↓zu, ↓zai, ↓zM, ↓zA, ↓zaa,zcZ,zba,zaV,unA,zdg,bnd,zdy,zad,zS,zdz,dm,dm1,zB,zak,zdQ,zdP,zR,Q0,Q1,Q2,Q3,Q4,Q5,zQ,zr,zy,zO,zH,Q6,Q7,Q8,Q9,Q10,Q11,Q12,Q13,Q14,Nat.reduceAdd,Q15,Int.reduceToNat,Q16,Q17,Q18,Q19,Q20,reduceIte,Q21,Q22,zD,rep,zV,zdK,toD,zac,Q23,Q24,Q25,Q26,Q27,Q28,Nat.reduceLeDiff,Q29,Nat.reduceSub,Q30,Q31,Q32,sc,Q33,Q34,Q35,Q36,Q37,Q26,Q38,Q39,zgF,zgC,zgz,zgG,zcb,zgD,zgA,zgE,zgB,zca,zcc,zgK,zgL,Bool.not_true,Bool.not_false,List.length_map,Bool.false_and,Bool.true_and,Option.isSome_some,zcW,a]; rfl) : P := (e a).mpr h
theorem gq39 {A P Q : Prop} (a : A) (h : Q) (e : A → P = Q := by intro a; simp -dsimp only [↓zes, ↓zaw, ↓zbf, ↓zet, ↓zen, ↓zel, ↓zeo, ↓zem, ↓zbk, ↓zbg, ↓zbl, ↓zbh, ↓zep, ↓zbe, ↓zbm, ↓zbi, ↓zbn, ↓zbj, ↓zek, ↓zeq, ↓zbd, ↓zbo, ↓zef, ↓zee, ↓zej,iN,bT,bF,eN, ↓zcS, ↓unC, ↓zU, ↓zK, ↓zL, ↓zN, ↓zZ, ↓zax, ↓zbQ, ↓zaf, ↓zbp, ↓zP, ↓zq, ↓zo, ↓zbu, ↓zl, ↓zah, ↓zI, ↓zaD, ↓zaG, ↓ze, ↓zC, ↓zt, ↓zw, ↓zan, ↓zcC, ↓zcV, ↓zal, ↓zat, ↓zaE, ↓zaN, ↓zaS, ↓zu, ↓zai, ↓zM, ↓zA, ↓zaa,zcZ,zba,zaV,unA,zdg,bnd,zdy,zad,zS,zdz,dm,dm1,zB,zak,zdQ,zdP,zR,Q0,Q1,Q2,Q3,Q4,Q5,zQ,zr,zy,zO,zH,Q6,Q7,Q8,Q9,Q10,Q11,Q12,Q13,Q14,Nat.reduceAdd,Q15,Int.reduceToNat,Q16,Q17,Q18,Q19,Q20,reduceIte,Q21,Q22,zD,rep,zV,zdK,toD,zac,Q23,Q24,Q25,Q26,Q27,Q28,Nat.reduceLeDiff,Q29,Nat.reduceSub,Q30,Q31,Q32,sc,Q33,Q34,Q35,Q36,Q37,Q26,Q38,Q39,zgF,zgC,zgz,zgG,zcb,zgD,zgA,zgE,zgB,zca,zcc,zgK,zgL,Bool.not_true,Bool.not_false,List.length_map,Bool.and_self,Option.isSome_some,zcW,a]; rfl) : P := (e a).mpr h
theorem c_auSigned {σ : List zg} {id m t id2 m2 t2 : Nat} {L : List (List UInt8)} {G : List zJ} {s : zJ} {key : Int} {b : List UInt8} (hT : zcm σ id m t L) (hG : zdZ σ id2 m2 t2 G) {K : KT}
  (hK : K (.d (.bool (zkv L G s key b))) σ) : zE Tryz.prog zjC [.box id 0, .box id2 0, .agg [.d (.int .i64 s.key), .d (.int .i64 s.dig)], .d (.int .i64 key), .d (.slice (bcs b))] σ K := by
 refine zi znL.is rfl fun hl _ => znL.goes ?_
 have hT1 := fun τ => hT.app τ
 have hG1 := fun τ => hG.app τ
 simp only [zoi,iN,bT,bF,eN]
 (repeat' first | refine gq1 ?_ | with_reducible first | exact ⟨⟩ | refine zh ?_ | fail)
 refine zmV (hT1 _) ?_
 have fin : ∀ z,zkv L G s key b = z → K (.d (.bool z)) σ := fun z h => h ▸ hK
 clear hK
 cases hlk : zbP L b with
 | none =>
  (repeat' first | refine gq7 ?_ | with_reducible first | exact ⟨⟩ | refine zh ?_ | fail)
  (first | refine zar hl ?_ | refine zaq hl ?_)
  exact fin _ (by simp [zkv,hlk])
 | some i =>
  simp only [zgu]
  cases h1 : (s.key == key)
  ·(repeat' first | refine gq37 h1 ?_ | with_reducible first | exact ⟨⟩ | refine zh ?_ | fail)
   (first | refine zar hl ?_ | refine zaq hl ?_)
   exact fin _ (by simp at h1; simp [zkv,hlk,h1])
  ·cases h2 : (s.dig == ((i + 1 : Nat) : Int))
   ·(repeat' first | refine gq38 (zd h1 h2) ?_ | with_reducible first | exact ⟨⟩ | refine zh ?_ | fail)
    (first | refine zar hl ?_ | refine zaq hl ?_)
    exact fin _ (by simp at h1 h2; simp [zkv,hlk,h1]; omega)
   ·(repeat' first | refine gq39 (zd h1 h2) ?_ | with_reducible first | exact ⟨⟩ | refine zh ?_ | fail)
    refine c_gSigned (s := s) (hG1 _) ?_
    (repeat' first | refine gq1 ?_ | with_reducible first | exact ⟨⟩ | refine zh ?_ | fail)
    (first | refine zar hl ?_ | refine zaq hl ?_)
    exact fin _ (by simp at h1 h2; simp [zkv,hlk,h1,h2])
theorem zuE {σ : List zg} {id m t id2 m2 t2 : Nat} {L : List (List UInt8)} {G : List zJ} {s : zJ} {key a b c d : Int} (hT : zcm σ id m t L) (hG : zdZ σ id2 m2 t2 G) (hL : zkc L) (hg : G.length ≤ 1073741824) {K : KT}
  (hK : K (.d (.bool (zph L G s key a b c d))) σ) :
  zE Tryz.prog zfW [.box id 0, .box id2 0, .agg [.d (.int .i64 s.key), .d (.int .i64 s.dig)], .d (.int .i64 key), .d (.int .i64 a), .d (.int .i64 b), .d (.int .i64 c), .d (.int .i64 d)] σ K := by
 refine zi zka.is rfl fun hl _ => zka.goes ?_
 simp only [zkn,iN,bT,bF,eN]
 (repeat' first | refine gq1 ?_ | with_reducible first | exact ⟨⟩ | refine zh ?_ | fail)
 refine c_auMade (hT.app _) (hG.app _) hL hg ?_
 (repeat' first | refine gq1 ?_ | with_reducible first | exact ⟨⟩ | refine zh ?_ | fail)
 refine c_auMay ?_
 cases hm : zmM a b c d
 ·rw [zph,hm,Bool.false_and] at hK
  (repeat' first | refine gq1 ?_ | with_reducible first | exact ⟨⟩ | refine zh ?_ | fail)
  (first | refine zar hl ?_ | refine zaq hl ?_)
  exact hK
 ·rw [zph,hm,Bool.true_and] at hK
  (repeat' first | refine gq1 ?_ | with_reducible first | exact ⟨⟩ | refine zh ?_ | fail)
  refine zuD hm ?_
  (repeat' first | refine gq1 ?_ | with_reducible first | exact ⟨⟩ | refine zh ?_ | fail)
  refine c_auSigned (s := s) (hT.app _) (hG.app _) ?_
  (repeat' first | refine gq1 ?_ | with_reducible first | exact ⟨⟩ | refine zh ?_ | fail)
  (first | refine zar hl ?_ | refine zaq hl ?_)
  exact hK
end Go.Proofs.YtncpaekiidpchaaGreat

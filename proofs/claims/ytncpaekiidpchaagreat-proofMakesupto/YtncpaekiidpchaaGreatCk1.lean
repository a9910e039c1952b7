/- Contracts: what is asked of a proof, the program's. -/
import Derived.Test.YtncpaekiidpchaaGreatOp1
import Derived.Test.YtncpaekiidpchaaGreatRc1
import Derived.Test.YtncpaekiidpchaaGreatCodec1
import Derived.Test.YtncpaekiidpchaaGreatHd2
set_option linter.all false
set_option maxRecDepth 100000
namespace Go.Proofs.YtncpaekiidpchaaGreat
open Go.AW
abbrev zlN (e : Int) : zf := .box [.d (.int .i64 e)]
theorem zgL (n : Nat) (e : Int) : zsq n (zlN e) := by
 intro c hc
 simp only [List.mem_cons,List.not_mem_nil,or_false] at hc
 subst hc; exact .d _
theorem c_says {σ : List zf} {id : Nat} {e x : Int} (hσ : σ[id]? = some (zlN e)) {K : AV → List zf → Prop} (hK : K (.tup []) (σ.set id (zlN (zgO e x)))) : zL Tryz.prog zaZ [.box id 0, .d (.int .i64 x)] σ K := by
 refine zj zgn.is rfl fun hl _ => zgn.goes ?_
 simp only [zgx,iN,bT,bF,eN]
 cases h : (e == 0)
 ·rw [zgO,if_pos (by simpa using h),zbD hσ] at hK
  (repeat' first | refine zeN (zbl hσ h) ?_ | with_reducible first | exact ⟨⟩ | refine zh ?_ | fail)
  (first | refine zao hl ?_ | refine zan hl ?_)
  exact hK
 ·rw [zgO,if_neg (by simpa using h)] at hK
  (repeat' first | refine zeN (zbl hσ h) ?_ | with_reducible first | exact ⟨⟩ | refine zh ?_ | fail)
  exact zeC (by simp [zbV,dmT,zby]) hl (zgL _ _) hK
theorem thn_0 (e : Int) : zgO e 0 = e := by
 unfold zgO; split
 ·rfl
 ·rename_i h; simp at h; exact h.symm
theorem zvc {σ : List zf} {id : Nat} {e n lo hi : Int} (hσ : σ[id]? = some (zlN e)) {K : AV → List zf → Prop} (hK : K (.tup []) (σ.set id (zlN (zgO e (inE n lo hi))))) :
  zL Tryz.prog zbW [.box id 0, .d (.int .i64 n), .d (.int .i64 lo), .d (.int .i64 hi)] σ K := by
 refine zj zhU.is rfl fun hl _ => zhU.goes ?_
 simp only [zic,iN,bT,bF,eN]
 have bad : (n < lo ∨ n > hi) → zL Tryz.prog zaZ [.box id 0, .d (.int .i64 100)] σ fun _ s => AW.Ends σ.length K (some []) s := fun h => by
  rw [inE,if_pos h] at hK
  refine c_says hσ ?_
  exact zeC (by simp [zbV,dmT,zby]) hl (zgL _ _) hK
 cases h1 : decide (n < lo)
 ·cases h2 : decide (n > hi)
  ·rw [inE,if_neg (by simp at h1 h2; omega),thn_0,zbD hσ] at hK
   (repeat' first | refine zeN (zbl h1 h2) ?_ | with_reducible first | exact ⟨⟩ | refine zh ?_ | fail)
   (first | refine zao hl ?_ | refine zan hl ?_)
   exact hK
  ·(repeat' first | refine zeN (zbl h1 h2) ?_ | with_reducible first | exact ⟨⟩ | refine zh ?_ | fail)
   exact bad (.inr (by simpa using h2))
 ·(repeat' first | refine zeN h1 ?_ | with_reducible first | exact ⟨⟩ | refine zh ?_ | fail)
  exact bad (.inl (by simpa using h1))
theorem zlL {σ : List zf} {id : Nat} {e n : Int} (hσ : σ[id]? = some (zlN e)) {K : AV → List zf → Prop} (hK : K (.tup []) (σ.set id (zlN (zgO e (zok n))))) :
  zL Tryz.prog zbh [.box id 0, .d (.int .i64 n)] σ K := by
 refine zj zho.is rfl fun hl _ => zho.goes ?_
 simp only [zhD,iN,bT,bF,eN]
 (repeat' first | refine zrY ?_ | with_reducible first | exact ⟨⟩ | refine zh ?_ | fail)
 refine zvc hσ ?_
 exact zeC (by simp [zbV,dmT,zby]) hl (zgL _ _) hK
theorem c_askPos {σ : List zf} {id : Nat} {e n : Int} (hσ : σ[id]? = some (zlN e)) {K : AV → List zf → Prop} (hK : K (.tup []) (σ.set id (zlN (zgO e (posE n))))) :
  zL Tryz.prog zeB [.box id 0, .d (.int .i64 n)] σ K := by
 refine zj zhn.is rfl fun hl _ => zhn.goes ?_
 simp only [zhC,iN,bT,bF,eN]
 (repeat' first | refine zrY ?_ | with_reducible first | exact ⟨⟩ | refine zh ?_ | fail)
 refine zvc hσ ?_
 exact zeC (by simp [zbV,dmT,zby]) hl (zgL _ _) hK
theorem zkX {σ : List zf} {id : Nat} {e n hi : Int} (hσ : σ[id]? = some (zlN e)) {K : AV → List zf → Prop} (hK : K (.tup []) (σ.set id (zlN (zgO e (inE n 0 hi))))) :
  zL Tryz.prog zbk [.box id 0, .d (.int .i64 n), .d (.int .i64 hi)] σ K := by
 refine zj zgp.is rfl fun hl _ => zgp.goes ?_
 simp only [zgz,iN,bT,bF,eN]
 (repeat' first | refine zrY ?_ | with_reducible first | exact ⟨⟩ | refine zh ?_ | fail)
 refine zvc hσ ?_
 exact zeC (by simp [zbV,dmT,zby]) hl (zgL _ _) hK
theorem c_askName {σ : List zf} {id : Nat} {e : Int} {x : List UInt8} (hσ : σ[id]? = some (zlN e)) (hx : x.length ≤ 1073741824) {K : AV → List zf → Prop} (hK : K (.tup []) (σ.set id (zlN (zgO e (nameE x))))) :
  zL Tryz.prog zdX [.box id 0, .d (.str x)] σ K := by
 refine zj zgo.is rfl fun hl _ => zgo.goes ?_
 simp only [zgy,iN,bT,bF,eN]
 (repeat' first | refine zrY ?_ | with_reducible first | exact ⟨⟩ | refine zh ?_ | fail)
 refine c_Name hx ?_
 cases h : zfj x
 ·rw [nameE,if_neg (by simp [h])] at hK
  (repeat' first | refine zrY ?_ | with_reducible first | exact ⟨⟩ | refine zh ?_ | fail)
  refine c_says hσ ?_
  exact zeC (by simp [zbV,dmT,zby]) hl (zgL _ _) hK
 ·rw [nameE,if_pos h,thn_0,zbD hσ] at hK
  (repeat' first | refine zrY ?_ | with_reducible first | exact ⟨⟩ | refine zh ?_ | fail)
  (first | refine zao hl ?_ | refine zan hl ?_)
  exact hK
theorem fst_snoc (e : Int) (l : List Int) (x : Int) : zgO (zeO (e :: l)) x = zeO (e :: (l ++ [x])) := by
 rw [show e :: (l ++ [x]) = (e :: l) ++ [x] from rfl,zjF]
 unfold zgO
 split
 ·rfl
 ·simp [zeO]
theorem zgK {α β : Type} {f : α → β} {l : List α} {k : Nat} {x : α} (h : l[k]? = some x) : (l.take (k + 1)).map f = (l.take k).map f ++ [f x] := by
 rw [List.take_add_one,h]; simp
theorem wkc (k : Nat) (h : k ≤ 1073741824) : IntKind.i64.wrap ((k : Int) + 1) = ((k + 1 : Nat) : Int) := by rw [zai (by omega) (by omega)]; rfl
theorem fst1 (e x : Int) : zeO [e,x] = zgO e x := by
 unfold zgO
 simp only [zeO]
 split
 ·rfl
 ·split
  ·rfl
  ·rename_i h; simp at h; exact h.symm
theorem bft : ((false : Bool) == true) = false := rfl
theorem btf : ((true : Bool) == false) = false := rfl
theorem gq40 {A P Q : Prop} (a : A) (h : Q) (e : A → P = Q := by intro a; simp -dsimp only [↓zcR, ↓zal, ↓zaM, ↓zcS, ↓zcN, ↓zcL, ↓zcO, ↓zcM, ↓zaR, ↓zaN, ↓zaS, ↓zaO, ↓zcP, ↓zaL, ↓zaT, ↓zaP, ↓zaU, ↓zaQ, ↓zcK, ↓zcQ, ↓zaK, ↓zaV, ↓zcI, ↓zcH, ↓zcJ,iN,bT,bF,eN, ↓zbI, ↓unC, ↓zQ, ↓zF, ↓zG, ↓zI, ↓zR, ↓zap, ↓zbp, ↓zab, ↓zaX, ↓zP, ↓zp, ↓zm, ↓zbg, ↓zi, ↓zY, ↓zB, ↓zas, ↓zaw, ↓ze, ↓zC, ↓zr, ↓zt, ↓zad, ↓zbL, ↓zbY, ↓zaa, ↓zaj, ↓zau, ↓zaB, ↓zaD, ↓zl, ↓zZ, ↓zH, ↓zu, ↓zS,zcd,zaI,zaH,unA,zce,bnd,zcn,zX,zV,zcp,dm,dm1,zD,zag,zcy,zcx,zU,Q0,Q1,Q2,Q3,Q4,Q5,zO,zq,zw,zM,zE,Q6,Q7,Q8,Q9,Q10,Q11,Q12,Q13,Q14,Nat.reduceAdd,Q15,Int.reduceToNat,Q16,Q17,Q18,Q19,Q20,reduceIte,Q21,Q22,zx,rep,zT,zcv,toD,zW,Q23,Q24,Q25,Q26,Q27,Q28,Nat.reduceLeDiff,Q29,Nat.reduceSub,Q30,Q31,Q32,sc,Q33,Q34,Q35,Q36,Q37,Q26,Q38,Q39,zel,zei,zef,zem,zbt,zej,zeg,zek,zeh,zbs,zbu,zen,zeo,Bool.not_true,Bool.not_false,List.length_map,zgE,a]; rfl) : P := (e a).mpr h
theorem c_askSigns {σ : List zf} {id : Nat} {e : Int} {l : List zae} (hσ : σ[id]? = some (zlN e)) (hl0 : l.length ≤ 1073741824) {K : AV → List zf → Prop} (hK : K (.tup []) (σ.set id (zlN (zgO e (zeO (zqk l)))))) :
  zL Tryz.prog zbz [.box id 0, .d (.slice (zaz l))] σ K := by
 refine zj zfR.is rfl fun hl _ => zfR.goes ?_
 have hlen : (zaz l).length = l.length := List.length_map ..
 have hid := zN hσ
 rw [thn_fst,zqk] at hK
 simp only [zfX,iN,bT,bF,eN]
 (repeat' first | refine zeN hlen ?_ | with_reducible first | exact ⟨⟩ | refine zh ?_ | fail)
 refine zkX hσ ?_
 (repeat' first | refine zeN hlen ?_ | with_reducible first | exact ⟨⟩ | refine zh ?_ | fail)
 refine zK l.length (fun k vs s => vs = [.d (.int .i64 k)] ∧ ∃ T,s = σ.set id (zlN (zeO (e :: (inE l.length 0 13 :: (l.take k).map fun s => zay s.key s.dig)))) ++ T) ⟨rfl, [],by rw [List.take_zero,List.map_nil,fst1,List.append_nil]⟩ ?_
 rintro k vs s hk ⟨rfl,T,rfl⟩
 by_cases hlt : k < l.length
 ·have hd : decide ((k : Int) < (l.length : Int)) = true := by simp; omega
  have hx : l[k]? = some l[k] := by simp [hlt]
  have hgx := zaf (f := zgE) hx
  obtain ⟨x,hxe⟩ : ∃ x,l[k] = x := ⟨_,rfl⟩
  rw [hxe] at hx hgx
  have hmn := zgK (f := fun s : zae => zay s.key s.dig) hx
  have fs := fst_snoc e (inE l.length 0 13 :: (l.take k).map fun s => zay s.key s.dig) (zay x.key x.dig)
  simp only [List.cons_append] at fs
  rw [← hmn] at fs
  obtain ⟨E,hE⟩ : ∃ E,zeO (e :: (inE l.length 0 13 :: (l.take k).map fun s => zay s.key s.dig)) = E := ⟨_,rfl⟩
  rw [hE] at fs ⊢
  have hS : ∀ τ,(σ.set id (zlN E) ++ τ)[id]? = some (zlN E) := fun τ => zg (zbn hσ)
  (repeat' first | refine gq40 (zbl hd (zbl hgx hlen)) ?_ | with_reducible first | exact ⟨⟩ | refine zh ?_ | fail)
  refine zuR ?_
  (repeat' first | refine zrY ?_ | with_reducible first | exact ⟨⟩ | refine zh ?_ | fail)
  refine c_says (e := E) (hS _) ?_
  rw [zbE (zbn hσ),List.set_set]
  (repeat' first | refine zeN (wkc k (by omega)) ?_ | with_reducible first | exact ⟨⟩ | refine zh ?_ | fail)
  exact zav.next hlt ⟨rfl,_,by rw [fs]⟩
 ·have hd : decide ((k : Int) < (l.length : Int)) = false := by simp; omega
  rw [List.take_of_length_le (by omega)]
  (repeat' first | refine zeN hd ?_ | with_reducible first | exact ⟨⟩ | refine zh ?_ | fail)
  exact ziF (by simp [zbV,dmT,zby]) hl (zgL _ _) hK
theorem gq41 {A P Q : Prop} (a : A) (h : Q) (e : A → P = Q := by intro a; simp -dsimp only [↓zcR, ↓zal, ↓zaM, ↓zcS, ↓zcN, ↓zcL, ↓zcO, ↓zcM, ↓zaR, ↓zaN, ↓zaS, ↓zaO, ↓zcP, ↓zaL, ↓zaT, ↓zaP, ↓zaU, ↓zaQ, ↓zcK, ↓zcQ, ↓zaK, ↓zaV, ↓zcI, ↓zcH, ↓zcJ,iN,bT,bF,eN, ↓zbI, ↓unC, ↓zQ, ↓zF, ↓zG, ↓zI, ↓zR, ↓zap, ↓zbp, ↓zab, ↓zaX, ↓zP, ↓zp, ↓zm, ↓zbg, ↓zi, ↓zY, ↓zB, ↓zas, ↓zaw, ↓ze, ↓zC, ↓zr, ↓zt, ↓zad, ↓zbL, ↓zbY, ↓zaa, ↓zaj, ↓zau, ↓zaB, ↓zaD, ↓zl, ↓zZ, ↓zH, ↓zu, ↓zS,zcd,zaI,zaH,unA,zce,bnd,zcn,zX,zV,zcp,dm,dm1,zD,zag,zcy,zcx,zU,Q0,Q1,Q2,Q3,Q4,Q5,zO,zq,zw,zM,zE,Q6,Q7,Q8,Q9,Q10,Q11,Q12,Q13,Q14,Nat.reduceAdd,Q15,Int.reduceToNat,Q16,Q17,Q18,Q19,Q20,reduceIte,Q21,Q22,zx,rep,zT,zcv,toD,zW,Q23,Q24,Q25,Q26,Q27,Q28,Nat.reduceLeDiff,Q29,Nat.reduceSub,Q30,Q31,Q32,sc,Q33,Q34,Q35,Q36,Q37,Q26,Q38,Q39,zel,zei,zef,zem,zbt,zej,zeg,zek,zeh,zbs,zbu,zen,zeo,Bool.not_true,Bool.not_false,List.length_map,beq_self_eq_true,bft,btf,a]; rfl) : P := (e a).mpr h
theorem gq42 {A P Q : Prop} (a : A) (h : Q) (e : A → P = Q := by intro a; simp -dsimp only [↓zcR, ↓zal, ↓zaM, ↓zcS, ↓zcN, ↓zcL, ↓zcO, ↓zcM, ↓zaR, ↓zaN, ↓zaS, ↓zaO, ↓zcP, ↓zaL, ↓zaT, ↓zaP, ↓zaU, ↓zaQ, ↓zcK, ↓zcQ, ↓zaK, ↓zaV, ↓zcI, ↓zcH, ↓zcJ,iN,bT,bF,eN, ↓zbI, ↓unC, ↓zQ, ↓zF, ↓zG, ↓zI, ↓zR, ↓zap, ↓zbp, ↓zab, ↓zaX, ↓zP, ↓zp, ↓zm, ↓zbg, ↓zi, ↓zY, ↓zB, ↓zas, ↓zaw, ↓ze, ↓zC, ↓zr, ↓zt, ↓zad, ↓zbL, ↓zbY, ↓zaa, ↓zaj, ↓zau, ↓zaB, ↓zaD, ↓zl, ↓zZ, ↓zH, ↓zu, ↓zS,zcd,zaI,zaH,unA,zce,bnd,zcn,zX,zV,zcp,dm,dm1,zD,zag,zcy,zcx,zU,Q0,Q1,Q2,Q3,Q4,Q5,zO,zq,zw,zM,zE,Q6,Q7,Q8,Q9,Q10,Q11,Q12,Q13,Q14,Nat.reduceAdd,Q15,Int.reduceToNat,Q16,Q17,Q18,Q19,Q20,reduceIte,Q21,Q22,zx,rep,zT,zcv,toD,zW,Q23,Q24,Q25,Q26,Q27,Q28,Nat.reduceLeDiff,Q29,Nat.reduceSub,Q30,Q31,Q32,sc,Q33,Q34,Q35,Q36,Q37,Q26,Q38,Q39,zel,zei,zef,zem,zbt,zej,zeg,zek,zeh,zbs,zbu,zen,zeo,Bool.not_true,Bool.not_false,List.length_map,bft,btf,a]; rfl) : P := (e a).mpr h
theorem c_askCert {σ : List zf} {id : Nat} {e : Int} {c : zfF} (hσ : σ[id]? = some (zlN e)) (hl0 : c.signs.length ≤ 1073741824) {K : AV → List zf → Prop} (hK : K (.tup []) (σ.set id (zlN (zgO e (zeO (zmR c)))))) :
  zL Tryz.prog zdY [.box id 0,certA c] σ K := by
 refine zj zgq.is rfl fun hl _ => zgq.goes ?_
 have hlen : (zaz c.signs).length = c.signs.length := List.length_map ..
 simp only [zgA,iN,bT,bF,eN,certA]
 have hB : ∀ X,(σ.set id X ++ [zf.box [AV.d (D.int .i64 c.seq),AV.d (D.int .i64 c.dig),AV.d (D.slice (zaz c.signs))]])[σ.length]? = some (zf.box [AV.d (D.int .i64 c.seq),AV.d (D.int .i64 c.dig),AV.d (D.slice (zaz c.signs))]) := fun X => by
  rw [List.getElem?_append_right (by simp)]; simp
 have hS : ∀ E τ,(σ.set id (zlN E) ++ τ)[id]? = some (zlN E) := fun E τ => zg (zbn hσ)
 have hP : ∀ E Y τ,(σ.set id (zlN E) ++ τ).set id Y = σ.set id Y ++ τ := fun E Y τ => by rw [zbE (zbn hσ),List.set_set]
 have e4 : zgO e (zeO (zmR c)) = zgO (zgO (zgO (zgO e (zok c.seq)) (zok c.dig)) (zht c)) (zeO (zqk c.signs)) := by
  simp only [zmR,zeO,zgO]
  by_cases h0 : e = 0
  ·by_cases h1 : zok c.seq = 0
   ·by_cases h2 : zok c.dig = 0
    ·by_cases h3 : zht c = 0
     ·simp [h0,h1,h2,h3]
     ·simp [h0,h1,h2,h3]
    ·simp [h0,h1,h2]
   ·simp [h0,h1]
  ·simp [h0]
 rw [e4] at hK
 (repeat' first | refine zrY ?_ | with_reducible first | exact ⟨⟩ | refine zh ?_ | fail)
 refine zlL (zg hσ) ?_
 rw [zbE hσ]
 (repeat' first | refine zeN hB ?_ | with_reducible first | exact ⟨⟩ | refine zh ?_ | fail)
 refine zlL (hS _ _) ?_
 rw [hP]
 obtain ⟨E,hE⟩ : ∃ E,zgO (zgO e (zok c.seq)) (zok c.dig) = E := ⟨_,rfl⟩
 rw [hE] at hK ⊢
 have tail : ∀ M,M = zht c → zL Tryz.prog zbz [.box id 0, .d (.slice (zaz c.signs))] (σ.set id (zlN (zgO E M)) ++ [zf.box [AV.d (D.int .i64 c.seq),AV.d (D.int .i64 c.dig),AV.d (D.slice (zaz c.signs))]]) fun _ s => AW.Ends σ.length K (some []) s := fun M hM => by
  subst hM
  refine c_askSigns (hS _ _) hl0 ?_
  rw [hP]
  exact ziF (by simp [zbV,dmT,zby]) hl (zgL _ _) hK
 have no : zht c = 100 → zL Tryz.prog zaZ [.box id 0, .d (.int .i64 100)] (σ.set id (zlN E) ++ [zf.box [AV.d (D.int .i64 c.seq),AV.d (D.int .i64 c.dig),AV.d (D.slice (zaz c.signs))]]) fun _ s => fl 2 (.box σ.length 0) s fun g s => cA Tryz.prog zbz [.box id 0,g] s fun _ s => AW.Ends σ.length K (some []) s := fun h => by
  refine c_says (hS _ _) ?_
  rw [hP]
  (repeat' first | refine zeN hB ?_ | with_reducible first | exact ⟨⟩ | refine zh ?_ | fail)
  exact tail 100 h.symm
 have yes : zht c = 0 → zL Tryz.prog zbz [.box id 0, .d (.slice (zaz c.signs))] (σ.set id (zlN E) ++ [zf.box [AV.d (D.int .i64 c.seq),AV.d (D.int .i64 c.dig),AV.d (D.slice (zaz c.signs))]]) fun _ s => AW.Ends σ.length K (some []) s := fun h => by
  have := tail 0 h.symm
  rw [thn_0] at this
  exact this
 cases h1 : (c.seq == 0)
 ·cases h2 : (c.dig == 0)
  ·(repeat' first | refine gq41 (zbl hB (zbl h1 h2)) ?_ | with_reducible first | exact ⟨⟩ | refine zh ?_ | fail)
   exact yes (by simp at h1 h2; simp [zht,h1,h2])
  ·(repeat' first | refine gq42 (zbl hB (zbl h1 h2)) ?_ | with_reducible first | exact ⟨⟩ | refine zh ?_ | fail)
   exact no (by simp at h1 h2; simp [zht,h1,h2])
 ·cases h2 : (c.dig == 0)
  ·(repeat' first | refine gq42 (zbl hB (zbl h1 h2)) ?_ | with_reducible first | exact ⟨⟩ | refine zh ?_ | fail)
   exact no (by simp at h1 h2; simp [zht,h1,h2])
  ·cases h3 : decide ((c.signs.length : Int) > 0)
   ·(repeat' first | refine gq41 (zbl hB (zbl h1 (zbl h2 (zbl hlen h3)))) ?_ | with_reducible first | exact ⟨⟩ | refine zh ?_ | fail)
    exact yes (by simp at h1 h2 h3; simp [zht,h1,h2,h3])
   ·(repeat' first | refine gq41 (zbl hB (zbl h1 (zbl h2 (zbl hlen h3)))) ?_ | with_reducible first | exact ⟨⟩ | refine zh ?_ | fail)
    exact no (by simp only [beq_iff_eq,decide_eq_true_eq] at h1 h2 h3; rw [zht,if_pos (.inr ⟨h1,by omega⟩)])
end Go.Proofs.YtncpaekiidpchaaGreat

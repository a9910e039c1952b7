/- Contracts: what is asked of a proof, the program's. -/
import Derived.Test.YtncpaekiidpchaaGreatOp1
import Derived.Test.YtncpaekiidpchaaGreatOpC
import Derived.Test.YtncpaekiidpchaaGreatCodec1
import Derived.Test.YtncpaekiidpchaaGreatHd2
set_option linter.all false
set_option maxRecDepth 100000
namespace Go.Proofs.YtncpaekiidpchaaGreat
open Go.AW
abbrev zlF (e : Int) : zg := .box [.d (.int .i64 e)]
theorem zgv (n : Nat) (e : Int) : ztJ n (zlF e) := by
 intro c hc
 simp only [List.mem_cons,List.not_mem_nil,or_false] at hc
 subst hc; exact .d _
theorem c_says {σ : List zg} {id : Nat} {e x : Int} (hσ : σ[id]? = some (zlF e)) {K : KT} (hK : K (.tup []) (σ.set id (zlF (zgy e x)))) : zD Tryz.prog zaK [.box id 0, .d (.int .i64 x)] σ K := by
 refine zj zfY.is rfl fun hl _ => zfY.goes ?_
 simp only [zgh,iN,bT,bF,eN]
 cases h : (e == 0)
 ·rw [zgy,if_pos (by simpa using h),zbC hσ] at hK
  (repeat' first | refine zfU (zdv hσ h) ?_ | with_reducible first | exact ⟨⟩ | refine zh ?_ | fail)
  (first | refine zaq hl ?_ | refine zap hl ?_)
  exact hK
 ·rw [zgy,if_neg (by simpa using h)] at hK
  (repeat' first | refine zfU (zdv hσ h) ?_ | with_reducible first | exact ⟨⟩ | refine zh ?_ | fail)
  exact zev (by simp [zca,dmT,zbv]) hl (zgv _ _) hK
theorem thn_0 (e : Int) : zgy e 0 = e := by
 unfold zgy; split
 ·rfl
 ·rename_i h; simp at h; exact h.symm
theorem zuv {σ : List zg} {id : Nat} {e n lo hi : Int} (hσ : σ[id]? = some (zlF e)) {K : KT} (hK : K (.tup []) (σ.set id (zlF (zgy e (inE n lo hi))))) :
  zD Tryz.prog zbQ [.box id 0, .d (.int .i64 n), .d (.int .i64 lo), .d (.int .i64 hi)] σ K := by
 refine zj zhP.is rfl fun hl _ => zhP.goes ?_
 simp only [zhX,iN,bT,bF,eN]
 have bad : (n < lo ∨ n > hi) → zD Tryz.prog zaK [.box id 0, .d (.int .i64 100)] σ fun _ s => AW.Ends σ.length K (some []) s := fun h => by
  rw [inE,if_pos h] at hK
  refine c_says hσ ?_
  exact zev (by simp [zca,dmT,zbv]) hl (zgv _ _) hK
 cases h1 : decide (n < lo)
 ·cases h2 : decide (n > hi)
  ·rw [inE,if_neg (by simp at h1 h2; omega),thn_0,zbC hσ] at hK
   (repeat' first | refine zfU (zdv h1 h2) ?_ | with_reducible first | exact ⟨⟩ | refine zh ?_ | fail)
   (first | refine zaq hl ?_ | refine zap hl ?_)
   exact hK
  ·(repeat' first | refine zfU (zdv h1 h2) ?_ | with_reducible first | exact ⟨⟩ | refine zh ?_ | fail)
   exact bad (.inr (by simpa using h2))
 ·(repeat' first | refine zfU h1 ?_ | with_reducible first | exact ⟨⟩ | refine zh ?_ | fail)
  exact bad (.inl (by simpa using h1))
theorem zlC {σ : List zg} {id : Nat} {e n : Int} (hσ : σ[id]? = some (zlF e)) {K : KT} (hK : K (.tup []) (σ.set id (zlF (zgy e (zof n))))) :
  zD Tryz.prog zaR [.box id 0, .d (.int .i64 n)] σ K := by
 refine zj zhi.is rfl fun hl _ => zhi.goes ?_
 simp only [zhv,iN,bT,bF,eN]
 (repeat' first | refine zsF ?_ | with_reducible first | exact ⟨⟩ | refine zh ?_ | fail)
 refine zuv hσ ?_
 exact zev (by simp [zca,dmT,zbv]) hl (zgv _ _) hK
theorem c_askPos {σ : List zg} {id : Nat} {e n : Int} (hσ : σ[id]? = some (zlF e)) {K : KT} (hK : K (.tup []) (σ.set id (zlF (zgy e (posE n))))) :
  zD Tryz.prog zem [.box id 0, .d (.int .i64 n)] σ K := by
 refine zj zhh.is rfl fun hl _ => zhh.goes ?_
 simp only [zhu,iN,bT,bF,eN]
 (repeat' first | refine zsF ?_ | with_reducible first | exact ⟨⟩ | refine zh ?_ | fail)
 refine zuv hσ ?_
 exact zev (by simp [zca,dmT,zbv]) hl (zgv _ _) hK
theorem zkT {σ : List zg} {id : Nat} {e n hi : Int} (hσ : σ[id]? = some (zlF e)) {K : KT} (hK : K (.tup []) (σ.set id (zlF (zgy e (inE n 0 hi))))) :
  zD Tryz.prog zaX [.box id 0, .d (.int .i64 n), .d (.int .i64 hi)] σ K := by
 refine zj zga.is rfl fun hl _ => zga.goes ?_
 simp only [zgj,iN,bT,bF,eN]
 (repeat' first | refine zsF ?_ | with_reducible first | exact ⟨⟩ | refine zh ?_ | fail)
 refine zuv hσ ?_
 exact zev (by simp [zca,dmT,zbv]) hl (zgv _ _) hK
theorem c_askName {σ : List zg} {id : Nat} {e : Int} {x : List UInt8} (hσ : σ[id]? = some (zlF e)) (hx : x.length ≤ 1073741824) {K : KT} (hK : K (.tup []) (σ.set id (zlF (zgy e (nameE x))))) :
  zD Tryz.prog zdR [.box id 0, .d (.str x)] σ K := by
 refine zj zfZ.is rfl fun hl _ => zfZ.goes ?_
 simp only [zgi,iN,bT,bF,eN]
 (repeat' first | refine zsF ?_ | with_reducible first | exact ⟨⟩ | refine zh ?_ | fail)
 refine c_Name hx ?_
 cases h : zdA x
 ·rw [nameE,if_neg (by simp [h])] at hK
  (repeat' first | refine zsF ?_ | with_reducible first | exact ⟨⟩ | refine zh ?_ | fail)
  refine c_says hσ ?_
  exact zev (by simp [zca,dmT,zbv]) hl (zgv _ _) hK
 ·rw [nameE,if_pos h,thn_0,zbC hσ] at hK
  (repeat' first | refine zsF ?_ | with_reducible first | exact ⟨⟩ | refine zh ?_ | fail)
  (first | refine zaq hl ?_ | refine zap hl ?_)
  exact hK
theorem fst_snoc (e : Int) (l : List Int) (x : Int) : zgy (zeG (e :: l)) x = zeG (e :: (l ++ [x])) := by
 rw [show e :: (l ++ [x]) = (e :: l) ++ [x] from rfl,zjB]
 unfold zgy
 split
 ·rfl
 ·simp [zeG]
theorem zgu {α β : Type} {f : α → β} {l : List α} {k : Nat} {x : α} (h : l[k]? = some x) : (l.take (k + 1)).map f = (l.take k).map f ++ [f x] := by
 rw [List.take_add_one,h]; simp
theorem wkc (k : Nat) (h : k ≤ 1073741824) : IntKind.i64.wrap ((k : Int) + 1) = ((k + 1 : Nat) : Int) := by rw [zX (by omega) (by omega)]; rfl
theorem fst1 (e x : Int) : zeG [e,x] = zgy e x := by
 unfold zgy
 simp only [zeG]
 split
 ·rfl
 ·split
  ·rfl
  ·rename_i h; simp at h; exact h.symm
theorem bft : ((false : Bool) == true) = false := rfl
theorem btf : ((true : Bool) == false) = false := rfl
theorem gq33 {A P Q : Prop} (a : A) (h : Q) (e : A → P = Q := by intro a; simp -dsimp only [↓zey, ↓zau, ↓zbj, ↓zeA, ↓zes, ↓zeq, ↓zet, ↓zer, ↓zbo, ↓zbk, ↓zbp, ↓zbl, ↓zeu, ↓zbi, ↓zbq, ↓zbm, ↓zbr, ↓zbn, ↓zep, ↓zew, ↓zbh, ↓zbs, ↓zeg, ↓zef, ↓zeo,iN,bT,bF,eN, ↓zcS, ↓unC, ↓zW, ↓zK, ↓zL, ↓zN, ↓zZ, ↓zaw, ↓zbT, ↓zag, ↓zbu, ↓zP, ↓zq, ↓zo, ↓zby, ↓zl, ↓zaf, ↓zH, ↓zaC, ↓zaG, ↓ze, ↓zC, ↓zt, ↓zw, ↓zan, ↓zcC, ↓zdb, ↓zal, ↓zat, ↓zaF, ↓zaP, ↓zaW, ↓zu, ↓zai, ↓zM, ↓zA, ↓zaa,zdi,zbd,zba,unA,zdk,bnd,zdw,zac,zS,zdy,dm,dm1,zB,zak,zdP,zdO,zQ,Q0,Q1,Q2,Q3,Q4,Q5,zR,zr,zy,zO,zI,Q6,Q7,Q8,Q9,Q10,Q11,Q12,Q13,Q14,Nat.reduceAdd,Q15,Int.reduceToNat,Q16,Q17,Q18,Q19,Q20,reduceIte,Q21,Q22,zE,rep,zV,zdG,toD,zab,Q23,Q24,Q25,Q26,Q27,Q28,Nat.reduceLeDiff,Q29,Nat.reduceSub,Q30,Q31,Q32,sc,Q33,Q34,Q35,Q36,Q37,Q26,Q38,Q39,zgH,zgE,zgB,zgI,zcf,zgF,zgC,zgG,zgD,zce,zcg,zgJ,zgK,Bool.not_true,Bool.not_false,List.length_map,zid,a]; rfl) : P := (e a).mpr h
theorem c_askSigns {σ : List zg} {id : Nat} {e : Int} {l : List zJ} (hσ : σ[id]? = some (zlF e)) (hl0 : l.length ≤ 1073741824) {K : KT} (hK : K (.tup []) (σ.set id (zlF (zgy e (zeG (zmV l)))))) :
  zD Tryz.prog zbt [.box id 0, .d (.slice (zaz l))] σ K := by
 refine zj zfD.is rfl fun hl _ => zfD.goes ?_
 have hlen : (zaz l).length = l.length := List.length_map ..
 have hid := zF hσ
 rw [thn_fst,zmV] at hK
 simp only [zfI,iN,bT,bF,eN]
 (repeat' first | refine zfU hlen ?_ | with_reducible first | exact ⟨⟩ | refine zh ?_ | fail)
 refine zkT hσ ?_
 (repeat' first | refine zfU hlen ?_ | with_reducible first | exact ⟨⟩ | refine zh ?_ | fail)
 refine zG l.length (fun k vs s => vs = [.d (.int .i64 k)] ∧ ∃ T,s = σ.set id (zlF (zeG (e :: (inE l.length 0 13 :: (l.take k).map fun s => zar s.key s.dig)))) ++ T) ⟨rfl, [],by rw [List.take_zero,List.map_nil,fst1,List.append_nil]⟩ ?_
 rintro k vs s hk ⟨rfl,T,rfl⟩
 by_cases hlt : k < l.length
 ·have hd : decide ((k : Int) < (l.length : Int)) = true := by simp; omega
  have hx : l[k]? = some l[k] := by simp [hlt]
  have hgx := zae (f := zid) hx
  obtain ⟨x,hxe⟩ : ∃ x,l[k] = x := ⟨_,rfl⟩
  rw [hxe] at hx hgx
  have hmn := zgu (f := fun s : zJ => zar s.key s.dig) hx
  have fs := fst_snoc e (inE l.length 0 13 :: (l.take k).map fun s => zar s.key s.dig) (zar x.key x.dig)
  simp only [List.cons_append] at fs
  rw [← hmn] at fs
  obtain ⟨E,hE⟩ : ∃ E,zeG (e :: (inE l.length 0 13 :: (l.take k).map fun s => zar s.key s.dig)) = E := ⟨_,rfl⟩
  rw [hE] at fs ⊢
  have hS : ∀ τ,(σ.set id (zlF E) ++ τ)[id]? = some (zlF E) := fun τ => zf (zbz hσ)
  (repeat' first | refine gq33 (zdv hd (zdv hgx hlen)) ?_ | with_reducible first | exact ⟨⟩ | refine zh ?_ | fail)
  refine zuk ?_
  (repeat' first | refine zsF ?_ | with_reducible first | exact ⟨⟩ | refine zh ?_ | fail)
  refine c_says (e := E) (hS _) ?_
  rw [zbI (zbz hσ),List.set_set]
  (repeat' first | refine zfU (wkc k (by omega)) ?_ | with_reducible first | exact ⟨⟩ | refine zh ?_ | fail)
  exact zav.next hlt ⟨rfl,_,by rw [fs]⟩
 ·have hd : decide ((k : Int) < (l.length : Int)) = false := by simp; omega
  rw [List.take_of_length_le (by omega)]
  (repeat' first | refine zfU hd ?_ | with_reducible first | exact ⟨⟩ | refine zh ?_ | fail)
  exact ziH (by simp [zca,dmT,zbv]) hl (zgv _ _) hK
theorem gq34 {A P Q : Prop} (a : A) (h : Q) (e : A → P = Q := by intro a; simp -dsimp only [↓zey, ↓zau, ↓zbj, ↓zeA, ↓zes, ↓zeq, ↓zet, ↓zer, ↓zbo, ↓zbk, ↓zbp, ↓zbl, ↓zeu, ↓zbi, ↓zbq, ↓zbm, ↓zbr, ↓zbn, ↓zep, ↓zew, ↓zbh, ↓zbs, ↓zeg, ↓zef, ↓zeo,iN,bT,bF,eN, ↓zcS, ↓unC, ↓zW, ↓zK, ↓zL, ↓zN, ↓zZ, ↓zaw, ↓zbT, ↓zag, ↓zbu, ↓zP, ↓zq, ↓zo, ↓zby, ↓zl, ↓zaf, ↓zH, ↓zaC, ↓zaG, ↓ze, ↓zC, ↓zt, ↓zw, ↓zan, ↓zcC, ↓zdb, ↓zal, ↓zat, ↓zaF, ↓zaP, ↓zaW, ↓zu, ↓zai, ↓zM, ↓zA, ↓zaa,zdi,zbd,zba,unA,zdk,bnd,zdw,zac,zS,zdy,dm,dm1,zB,zak,zdP,zdO,zQ,Q0,Q1,Q2,Q3,Q4,Q5,zR,zr,zy,zO,zI,Q6,Q7,Q8,Q9,Q10,Q11,Q12,Q13,Q14,Nat.reduceAdd,Q15,Int.reduceToNat,Q16,Q17,Q18,Q19,Q20,reduceIte,Q21,Q22,zE,rep,zV,zdG,toD,zab,Q23,Q24,Q25,Q26,Q27,Q28,Nat.reduceLeDiff,Q29,Nat.reduceSub,Q30,Q31,Q32,sc,Q33,Q34,Q35,Q36,Q37,Q26,Q38,Q39,zgH,zgE,zgB,zgI,zcf,zgF,zgC,zgG,zgD,zce,zcg,zgJ,zgK,Bool.not_true,Bool.not_false,List.length_map,beq_self_eq_true,bft,btf,a]; rfl) : P := (e a).mpr h
theorem gq35 {A P Q : Prop} (a : A) (h : Q) (e : A → P = Q := by intro a; simp -dsimp only [↓zey, ↓zau, ↓zbj, ↓zeA, ↓zes, ↓zeq, ↓zet, ↓zer, ↓zbo, ↓zbk, ↓zbp, ↓zbl, ↓zeu, ↓zbi, ↓zbq, ↓zbm, ↓zbr, ↓zbn, ↓zep, ↓zew, ↓zbh, ↓zbs, ↓zeg, ↓zef, ↓zeo,iN,bT,bF,eN, ↓zcS, ↓unC, ↓zW, ↓zK, ↓zL, ↓zN, ↓zZ, ↓zaw, ↓zbT, ↓zag, ↓zbu, ↓zP, ↓zq, ↓zo, ↓zby, ↓zl, ↓zaf, ↓zH, ↓zaC, ↓zaG, ↓ze, ↓zC, ↓zt, ↓zw, ↓zan, ↓zcC, ↓zdb, ↓zal, ↓zat, ↓zaF, ↓zaP, ↓zaW, ↓zu, ↓zai, ↓zM, ↓zA, ↓zaa,zdi,zbd,zba,unA,zdk,bnd,zdw,zac,zS,zdy,dm,dm1,zB,zak,zdP,zdO,zQ,Q0,Q1,Q2,Q3,Q4,Q5,zR,zr,zy,zO,zI,Q6,Q7,Q8,Q9,Q10,Q11,Q12,Q13,Q14,Nat.reduceAdd,Q15,Int.reduceToNat,Q16,Q17,Q18,Q19,Q20,reduceIte,Q21,Q22,zE,rep,zV,zdG,toD,zab,Q23,Q24,Q25,Q26,Q27,Q28,Nat.reduceLeDiff,Q29,Nat.reduceSub,Q30,Q31,Q32,sc,Q33,Q34,Q35,Q36,Q37,Q26,Q38,Q39,zgH,zgE,zgB,zgI,zcf,zgF,zgC,zgG,zgD,zce,zcg,zgJ,zgK,Bool.not_true,Bool.not_false,List.length_map,bft,btf,a]; rfl) : P := (e a).mpr h
theorem c_askCert {σ : List zg} {id : Nat} {e : Int} {c : zfH} (hσ : σ[id]? = some (zlF e)) (hl0 : c.signs.length ≤ 1073741824) {K : KT} (hK : K (.tup []) (σ.set id (zlF (zgy e (zeG (zkR c)))))) :
  zD Tryz.prog zdS [.box id 0,certA c] σ K := by
 refine zj zgb.is rfl fun hl _ => zgb.goes ?_
 have hlen : (zaz c.signs).length = c.signs.length := List.length_map ..
 simp only [zgk,iN,bT,bF,eN,certA]
 have hB : ∀ X,(σ.set id X ++ [zg.box [AV.d (D.int .i64 c.seq),AV.d (D.int .i64 c.dig),AV.d (D.slice (zaz c.signs))]])[σ.length]? = some (zg.box [AV.d (D.int .i64 c.seq),AV.d (D.int .i64 c.dig),AV.d (D.slice (zaz c.signs))]) := fun X => by
  rw [List.getElem?_append_right (by simp)]; simp
 have hS : ∀ E τ,(σ.set id (zlF E) ++ τ)[id]? = some (zlF E) := fun E τ => zf (zbz hσ)
 have hP : ∀ E Y τ,(σ.set id (zlF E) ++ τ).set id Y = σ.set id Y ++ τ := fun E Y τ => by rw [zbI (zbz hσ),List.set_set]
 have e4 : zgy e (zeG (zkR c)) = zgy (zgy (zgy (zgy e (zof c.seq)) (zof c.dig)) (zfR c)) (zeG (zmV c.signs)) := by
  simp only [zkR,zeG,zgy]
  by_cases h0 : e = 0
  ·by_cases h1 : zof c.seq = 0
   ·by_cases h2 : zof c.dig = 0
    ·by_cases h3 : zfR c = 0
     ·simp [h0,h1,h2,h3]
     ·simp [h0,h1,h2,h3]
    ·simp [h0,h1,h2]
   ·simp [h0,h1]
  ·simp [h0]
 rw [e4] at hK
 (repeat' first | refine zsF ?_ | with_reducible first | exact ⟨⟩ | refine zh ?_ | fail)
 refine zlC (zf hσ) ?_
 rw [zbI hσ]
 (repeat' first | refine zfU hB ?_ | with_reducible first | exact ⟨⟩ | refine zh ?_ | fail)
 refine zlC (hS _ _) ?_
 rw [hP]
 obtain ⟨E,hE⟩ : ∃ E,zgy (zgy e (zof c.seq)) (zof c.dig) = E := ⟨_,rfl⟩
 rw [hE] at hK ⊢
 have tail : ∀ M,M = zfR c → zD Tryz.prog zbt [.box id 0, .d (.slice (zaz c.signs))] (σ.set id (zlF (zgy E M)) ++ [zg.box [AV.d (D.int .i64 c.seq),AV.d (D.int .i64 c.dig),AV.d (D.slice (zaz c.signs))]]) fun _ s => AW.Ends σ.length K (some []) s := fun M hM => by
  subst hM
  refine c_askSigns (hS _ _) hl0 ?_
  rw [hP]
  exact ziH (by simp [zca,dmT,zbv]) hl (zgv _ _) hK
 have no : zfR c = 100 → zD Tryz.prog zaK [.box id 0, .d (.int .i64 100)] (σ.set id (zlF E) ++ [zg.box [AV.d (D.int .i64 c.seq),AV.d (D.int .i64 c.dig),AV.d (D.slice (zaz c.signs))]]) fun _ s => fl 2 (.box σ.length 0) s fun g s => cA Tryz.prog zbt [.box id 0,g] s fun _ s => AW.Ends σ.length K (some []) s := fun h => by
  refine c_says (hS _ _) ?_
  rw [hP]
  (repeat' first | refine zfU hB ?_ | with_reducible first | exact ⟨⟩ | refine zh ?_ | fail)
  exact tail 100 h.symm
 have yes : zfR c = 0 → zD Tryz.prog zbt [.box id 0, .d (.slice (zaz c.signs))] (σ.set id (zlF E) ++ [zg.box [AV.d (D.int .i64 c.seq),AV.d (D.int .i64 c.dig),AV.d (D.slice (zaz c.signs))]]) fun _ s => AW.Ends σ.length K (some []) s := fun h => by
  have := tail 0 h.symm
  rw [thn_0] at this
  exact this
 cases h1 : (c.seq == 0)
 ·cases h2 : (c.dig == 0)
  ·(repeat' first | refine gq34 (zdv hB (zdv h1 h2)) ?_ | with_reducible first | exact ⟨⟩ | refine zh ?_ | fail)
   exact yes (by simp at h1 h2; simp [zfR,h1,h2])
  ·(repeat' first | refine gq35 (zdv hB (zdv h1 h2)) ?_ | with_reducible first | exact ⟨⟩ | refine zh ?_ | fail)
   exact no (by simp at h1 h2; simp [zfR,h1,h2])
 ·cases h2 : (c.dig == 0)
  ·(repeat' first | refine gq35 (zdv hB (zdv h1 h2)) ?_ | with_reducible first | exact ⟨⟩ | refine zh ?_ | fail)
   exact no (by simp at h1 h2; simp [zfR,h1,h2])
  ·cases h3 : decide ((c.signs.length : Int) > 0)
   ·(repeat' first | refine gq34 (zdv hB (zdv h1 (zdv h2 (zdv hlen h3)))) ?_ | with_reducible first | exact ⟨⟩ | refine zh ?_ | fail)
    exact yes (by simp at h1 h2 h3; simp [zfR,h1,h2,h3])
   ·(repeat' first | refine gq34 (zdv hB (zdv h1 (zdv h2 (zdv hlen h3)))) ?_ | with_reducible first | exact ⟨⟩ | refine zh ?_ | fail)
    exact no (by simp only [beq_iff_eq,decide_eq_true_eq] at h1 h2 h3; rw [zfR,if_pos (.inr ⟨h1,by omega⟩)])
end Go.Proofs.YtncpaekiidpchaaGreat

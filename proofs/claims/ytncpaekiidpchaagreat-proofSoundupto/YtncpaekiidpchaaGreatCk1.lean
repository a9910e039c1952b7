/- Contracts: what is asked of a proof, the program's. -/
import Derived.Test.YtncpaekiidpchaaGreatOp1
import Derived.Test.YtncpaekiidpchaaGreatOpC
import Derived.Test.YtncpaekiidpchaaGreatCodec1
import Derived.Test.YtncpaekiidpchaaGreatHd2
set_option linter.all false
set_option maxRecDepth 100000
namespace Go.Proofs.YtncpaekiidpchaaGreat
open Go.AW
abbrev zlO (e : Int) : zg := .box [.d (.int .i64 e)]
theorem zgN (n : Nat) (e : Int) : ztQ n (zlO e) := by
 intro c hc
 simp only [List.mem_cons,List.not_mem_nil,or_false] at hc
 subst hc; exact .d _
theorem c_says {σ : List zg} {id : Nat} {e x : Int} (hσ : σ[id]? = some (zlO e)) {K : KT} (hK : K (.tup []) (σ.set id (zlO (zgQ e x)))) : zE Tryz.prog zaJ [.box id 0, .d (.int .i64 x)] σ K := by
 refine zi zgf.is rfl fun hl _ => zgf.goes ?_
 simp only [zgo,iN,bT,bF,eN]
 cases h : (e == 0)
 ·rw [zgQ,if_pos (by simpa using h),zbC hσ] at hK
  (repeat' first | refine zgM (zdA hσ h) ?_ | with_reducible first | exact ⟨⟩ | refine zh ?_ | fail)
  (first | refine zar hl ?_ | refine zaq hl ?_)
  exact hK
 ·rw [zgQ,if_neg (by simpa using h)] at hK
  (repeat' first | refine zgM (zdA hσ h) ?_ | with_reducible first | exact ⟨⟩ | refine zh ?_ | fail)
  exact zeD (by simp [zbZ,dmT,zbr]) hl (zgN _ _) hK
theorem thn_0 (e : Int) : zgQ e 0 = e := by
 unfold zgQ; split
 ·rfl
 ·rename_i h; simp at h; exact h.symm
theorem zuF {σ : List zg} {id : Nat} {e n lo hi : Int} (hσ : σ[id]? = some (zlO e)) {K : KT} (hK : K (.tup []) (σ.set id (zlO (zgQ e (inE n lo hi))))) :
  zE Tryz.prog zbS [.box id 0, .d (.int .i64 n), .d (.int .i64 lo), .d (.int .i64 hi)] σ K := by
 refine zi zhQ.is rfl fun hl _ => zhQ.goes ?_
 simp only [zhY,iN,bT,bF,eN]
 have bad : (n < lo ∨ n > hi) → zE Tryz.prog zaJ [.box id 0, .d (.int .i64 100)] σ fun _ s => AW.Ends σ.length K (some []) s := fun h => by
  rw [inE,if_pos h] at hK
  refine c_says hσ ?_
  exact zeD (by simp [zbZ,dmT,zbr]) hl (zgN _ _) hK
 cases h1 : decide (n < lo)
 ·cases h2 : decide (n > hi)
  ·rw [inE,if_neg (by simp at h1 h2; omega),thn_0,zbC hσ] at hK
   (repeat' first | refine zgM (zdA h1 h2) ?_ | with_reducible first | exact ⟨⟩ | refine zh ?_ | fail)
   (first | refine zar hl ?_ | refine zaq hl ?_)
   exact hK
  ·(repeat' first | refine zgM (zdA h1 h2) ?_ | with_reducible first | exact ⟨⟩ | refine zh ?_ | fail)
   exact bad (.inr (by simpa using h2))
 ·(repeat' first | refine zgM h1 ?_ | with_reducible first | exact ⟨⟩ | refine zh ?_ | fail)
  exact bad (.inl (by simpa using h1))
theorem zlL {σ : List zg} {id : Nat} {e n : Int} (hσ : σ[id]? = some (zlO e)) {K : KT} (hK : K (.tup []) (σ.set id (zlO (zgQ e (znm n))))) :
  zE Tryz.prog zaP [.box id 0, .d (.int .i64 n)] σ K := by
 refine zi zho.is rfl fun hl _ => zho.goes ?_
 simp only [zhA,iN,bT,bF,eN]
 (repeat' first | refine zsM ?_ | with_reducible first | exact ⟨⟩ | refine zh ?_ | fail)
 refine zuF hσ ?_
 exact zeD (by simp [zbZ,dmT,zbr]) hl (zgN _ _) hK
theorem c_askPos {σ : List zg} {id : Nat} {e n : Int} (hσ : σ[id]? = some (zlO e)) {K : KT} (hK : K (.tup []) (σ.set id (zlO (zgQ e (posE n))))) :
  zE Tryz.prog zeC [.box id 0, .d (.int .i64 n)] σ K := by
 refine zi zhn.is rfl fun hl _ => zhn.goes ?_
 simp only [zhz,iN,bT,bF,eN]
 (repeat' first | refine zsM ?_ | with_reducible first | exact ⟨⟩ | refine zh ?_ | fail)
 refine zuF hσ ?_
 exact zeD (by simp [zbZ,dmT,zbr]) hl (zgN _ _) hK
theorem zla {σ : List zg} {id : Nat} {e n hi : Int} (hσ : σ[id]? = some (zlO e)) {K : KT} (hK : K (.tup []) (σ.set id (zlO (zgQ e (inE n 0 hi))))) :
  zE Tryz.prog zaW [.box id 0, .d (.int .i64 n), .d (.int .i64 hi)] σ K := by
 refine zi zgh.is rfl fun hl _ => zgh.goes ?_
 simp only [zgq,iN,bT,bF,eN]
 (repeat' first | refine zsM ?_ | with_reducible first | exact ⟨⟩ | refine zh ?_ | fail)
 refine zuF hσ ?_
 exact zeD (by simp [zbZ,dmT,zbr]) hl (zgN _ _) hK
theorem c_askName {σ : List zg} {id : Nat} {e : Int} {x : List UInt8} (hσ : σ[id]? = some (zlO e)) (hx : x.length ≤ 1073741824) {K : KT} (hK : K (.tup []) (σ.set id (zlO (zgQ e (nameE x))))) :
  zE Tryz.prog zdW [.box id 0, .d (.str x)] σ K := by
 refine zi zgg.is rfl fun hl _ => zgg.goes ?_
 simp only [zgp,iN,bT,bF,eN]
 (repeat' first | refine zsM ?_ | with_reducible first | exact ⟨⟩ | refine zh ?_ | fail)
 refine c_Name hx ?_
 cases h : zdM x
 ·rw [nameE,if_neg (by simp [h])] at hK
  (repeat' first | refine zsM ?_ | with_reducible first | exact ⟨⟩ | refine zh ?_ | fail)
  refine c_says hσ ?_
  exact zeD (by simp [zbZ,dmT,zbr]) hl (zgN _ _) hK
 ·rw [nameE,if_pos h,thn_0,zbC hσ] at hK
  (repeat' first | refine zsM ?_ | with_reducible first | exact ⟨⟩ | refine zh ?_ | fail)
  (first | refine zar hl ?_ | refine zaq hl ?_)
  exact hK
theorem fst_snoc (e : Int) (l : List Int) (x : Int) : zgQ (zeM (e :: l)) x = zeM (e :: (l ++ [x])) := by
 rw [show e :: (l ++ [x]) = (e :: l) ++ [x] from rfl,zjF]
 unfold zgQ
 split
 ·rfl
 ·simp [zeM]
theorem zgI {α β : Type} {f : α → β} {l : List α} {k : Nat} {x : α} (h : l[k]? = some x) : (l.take (k + 1)).map f = (l.take k).map f ++ [f x] := by
 rw [List.take_add_one,h]; simp
theorem wkc (k : Nat) (h : k ≤ 1073741824) : IntKind.i64.wrap ((k : Int) + 1) = ((k + 1 : Nat) : Int) := by rw [zY (by omega) (by omega)]; rfl
theorem fst1 (e x : Int) : zeM [e,x] = zgQ e x := by
 unfold zgQ
 simp only [zeM]
 split
 ·rfl
 ·split
  ·rfl
  ·rename_i h; simp at h; exact h.symm
theorem bft : ((false : Bool) == true) = false := rfl
theorem btf : ((true : Bool) == false) = false := rfl
theorem gq33 {A P Q : Prop} (a : A) (h : Q) (e : A → P = Q := by intro a; simp -dsimp only [↓zes, ↓zaw, ↓zbf, ↓zet, ↓zen, ↓zel, ↓zeo, ↓zem, ↓zbk, ↓zbg, ↓zbl, ↓zbh, ↓zep, ↓zbe, ↓zbm, ↓zbi, ↓zbn, ↓zbj, ↓zek, ↓zeq, ↓zbd, ↓zbo, ↓zef, ↓zee, ↓zej,iN,bT,bF,eN, ↓zcS, ↓unC, ↓zU, ↓zK, ↓zL, ↓zN, ↓zZ, ↓zax, ↓zbQ, ↓zaf, ↓zbp, ↓zP, ↓zq, ↓zo, ↓zbu, ↓zl, ↓zah, ↓zI, ↓zaD, ↓zaG, ↓ze, ↓zC, ↓zt, ↓zw, ↓zan, ↓zcC, ↓zcV, ↓zal, ↓zat, ↓zaE, ↓zaN, ↓zaS, ↓zu, ↓zai, ↓zM, ↓zA, ↓zaa,zcZ,zba,zaV,unA,zdg,bnd,zdy,zad,zS,zdz,dm,dm1,zB,zak,zdQ,zdP,zR,Q0,Q1,Q2,Q3,Q4,Q5,zQ,zr,zy,zO,zH,Q6,Q7,Q8,Q9,Q10,Q11,Q12,Q13,Q14,Nat.reduceAdd,Q15,Int.reduceToNat,Q16,Q17,Q18,Q19,Q20,reduceIte,Q21,Q22,zD,rep,zV,zdK,toD,zac,Q23,Q24,Q25,Q26,Q27,Q28,Nat.reduceLeDiff,Q29,Nat.reduceSub,Q30,Q31,Q32,sc,Q33,Q34,Q35,Q36,Q37,Q26,Q38,Q39,zgF,zgC,zgz,zgG,zcb,zgD,zgA,zgE,zgB,zca,zcc,zgK,zgL,Bool.not_true,Bool.not_false,List.length_map,zhF,a]; rfl) : P := (e a).mpr h
theorem c_askSigns {σ : List zg} {id : Nat} {e : Int} {l : List zJ} (hσ : σ[id]? = some (zlO e)) (hl0 : l.length ≤ 1073741824) {K : KT} (hK : K (.tup []) (σ.set id (zlO (zgQ e (zeM (zqi l)))))) :
  zE Tryz.prog zbq [.box id 0, .d (.slice (zaA l))] σ K := by
 refine zi zfJ.is rfl fun hl _ => zfJ.goes ?_
 have hlen : (zaA l).length = l.length := List.length_map ..
 have hid := zF hσ
 rw [thn_fst,zqi] at hK
 simp only [zfO,iN,bT,bF,eN]
 (repeat' first | refine zgM hlen ?_ | with_reducible first | exact ⟨⟩ | refine zh ?_ | fail)
 refine zla hσ ?_
 (repeat' first | refine zgM hlen ?_ | with_reducible first | exact ⟨⟩ | refine zh ?_ | fail)
 refine zG l.length (fun k vs s => vs = [.d (.int .i64 k)] ∧ ∃ T,s = σ.set id (zlO (zeM (e :: (inE l.length 0 13 :: (l.take k).map fun s => zau s.key s.dig)))) ++ T) ⟨rfl, [],by rw [List.take_zero,List.map_nil,fst1,List.append_nil]⟩ ?_
 rintro k vs s hk ⟨rfl,T,rfl⟩
 by_cases hlt : k < l.length
 ·have hd : decide ((k : Int) < (l.length : Int)) = true := by simp; omega
  have hx : l[k]? = some l[k] := by simp [hlt]
  have hgx := zae (f := zhF) hx
  obtain ⟨x,hxe⟩ : ∃ x,l[k] = x := ⟨_,rfl⟩
  rw [hxe] at hx hgx
  have hmn := zgI (f := fun s : zJ => zau s.key s.dig) hx
  have fs := fst_snoc e (inE l.length 0 13 :: (l.take k).map fun s => zau s.key s.dig) (zau x.key x.dig)
  simp only [List.cons_append] at fs
  rw [← hmn] at fs
  obtain ⟨E,hE⟩ : ∃ E,zeM (e :: (inE l.length 0 13 :: (l.take k).map fun s => zau s.key s.dig)) = E := ⟨_,rfl⟩
  rw [hE] at fs ⊢
  have hS : ∀ τ,(σ.set id (zlO E) ++ τ)[id]? = some (zlO E) := fun τ => zf (zbv hσ)
  (repeat' first | refine gq33 (zdA hd (zdA hgx hlen)) ?_ | with_reducible first | exact ⟨⟩ | refine zh ?_ | fail)
  refine zut ?_
  (repeat' first | refine zsM ?_ | with_reducible first | exact ⟨⟩ | refine zh ?_ | fail)
  refine c_says (e := E) (hS _) ?_
  rw [zbD (zbv hσ),List.set_set]
  (repeat' first | refine zgM (wkc k (by omega)) ?_ | with_reducible first | exact ⟨⟩ | refine zh ?_ | fail)
  exact zav.next hlt ⟨rfl,_,by rw [fs]⟩
 ·have hd : decide ((k : Int) < (l.length : Int)) = false := by simp; omega
  rw [List.take_of_length_le (by omega)]
  (repeat' first | refine zgM hd ?_ | with_reducible first | exact ⟨⟩ | refine zh ?_ | fail)
  exact ziK (by simp [zbZ,dmT,zbr]) hl (zgN _ _) hK
theorem gq34 {A P Q : Prop} (a : A) (h : Q) (e : A → P = Q := by intro a; simp -dsimp only [↓zes, ↓zaw, ↓zbf, ↓zet, ↓zen, ↓zel, ↓zeo, ↓zem, ↓zbk, ↓zbg, ↓zbl, ↓zbh, ↓zep, ↓zbe, ↓zbm, ↓zbi, ↓zbn, ↓zbj, ↓zek, ↓zeq, ↓zbd, ↓zbo, ↓zef, ↓zee, ↓zej,iN,bT,bF,eN, ↓zcS, ↓unC, ↓zU, ↓zK, ↓zL, ↓zN, ↓zZ, ↓zax, ↓zbQ, ↓zaf, ↓zbp, ↓zP, ↓zq, ↓zo, ↓zbu, ↓zl, ↓zah, ↓zI, ↓zaD, ↓zaG, ↓ze, ↓zC, ↓zt, ↓zw, ↓zan, ↓zcC, ↓zcV, ↓zal, ↓zat, ↓zaE, ↓zaN, ↓zaS, ↓zu, ↓zai, ↓zM, ↓zA, ↓zaa,zcZ,zba,zaV,unA,zdg,bnd,zdy,zad,zS,zdz,dm,dm1,zB,zak,zdQ,zdP,zR,Q0,Q1,Q2,Q3,Q4,Q5,zQ,zr,zy,zO,zH,Q6,Q7,Q8,Q9,Q10,Q11,Q12,Q13,Q14,Nat.reduceAdd,Q15,Int.reduceToNat,Q16,Q17,Q18,Q19,Q20,reduceIte,Q21,Q22,zD,rep,zV,zdK,toD,zac,Q23,Q24,Q25,Q26,Q27,Q28,Nat.reduceLeDiff,Q29,Nat.reduceSub,Q30,Q31,Q32,sc,Q33,Q34,Q35,Q36,Q37,Q26,Q38,Q39,zgF,zgC,zgz,zgG,zcb,zgD,zgA,zgE,zgB,zca,zcc,zgK,zgL,Bool.not_true,Bool.not_false,List.length_map,beq_self_eq_true,bft,btf,a]; rfl) : P := (e a).mpr h
theorem gq35 {A P Q : Prop} (a : A) (h : Q) (e : A → P = Q := by intro a; simp -dsimp only [↓zes, ↓zaw, ↓zbf, ↓zet, ↓zen, ↓zel, ↓zeo, ↓zem, ↓zbk, ↓zbg, ↓zbl, ↓zbh, ↓zep, ↓zbe, ↓zbm, ↓zbi, ↓zbn, ↓zbj, ↓zek, ↓zeq, ↓zbd, ↓zbo, ↓zef, ↓zee, ↓zej,iN,bT,bF,eN, ↓zcS, ↓unC, ↓zU, ↓zK, ↓zL, ↓zN, ↓zZ, ↓zax, ↓zbQ, ↓zaf, ↓zbp, ↓zP, ↓zq, ↓zo, ↓zbu, ↓zl, ↓zah, ↓zI, ↓zaD, ↓zaG, ↓ze, ↓zC, ↓zt, ↓zw, ↓zan, ↓zcC, ↓zcV, ↓zal, ↓zat, ↓zaE, ↓zaN, ↓zaS, ↓zu, ↓zai, ↓zM, ↓zA, ↓zaa,zcZ,zba,zaV,unA,zdg,bnd,zdy,zad,zS,zdz,dm,dm1,zB,zak,zdQ,zdP,zR,Q0,Q1,Q2,Q3,Q4,Q5,zQ,zr,zy,zO,zH,Q6,Q7,Q8,Q9,Q10,Q11,Q12,Q13,Q14,Nat.reduceAdd,Q15,Int.reduceToNat,Q16,Q17,Q18,Q19,Q20,reduceIte,Q21,Q22,zD,rep,zV,zdK,toD,zac,Q23,Q24,Q25,Q26,Q27,Q28,Nat.reduceLeDiff,Q29,Nat.reduceSub,Q30,Q31,Q32,sc,Q33,Q34,Q35,Q36,Q37,Q26,Q38,Q39,zgF,zgC,zgz,zgG,zcb,zgD,zgA,zgE,zgB,zca,zcc,zgK,zgL,Bool.not_true,Bool.not_false,List.length_map,bft,btf,a]; rfl) : P := (e a).mpr h
theorem c_askCert {σ : List zg} {id : Nat} {e : Int} {c : zfN} (hσ : σ[id]? = some (zlO e)) (hl0 : c.signs.length ≤ 1073741824) {K : KT} (hK : K (.tup []) (σ.set id (zlO (zgQ e (zeM (zmU c)))))) :
  zE Tryz.prog zdX [.box id 0,certA c] σ K := by
 refine zi zgi.is rfl fun hl _ => zgi.goes ?_
 have hlen : (zaA c.signs).length = c.signs.length := List.length_map ..
 simp only [zgr,iN,bT,bF,eN,certA]
 have hB : ∀ X,(σ.set id X ++ [zg.box [AV.d (D.int .i64 c.seq),AV.d (D.int .i64 c.dig),AV.d (D.slice (zaA c.signs))]])[σ.length]? = some (zg.box [AV.d (D.int .i64 c.seq),AV.d (D.int .i64 c.dig),AV.d (D.slice (zaA c.signs))]) := fun X => by
  rw [List.getElem?_append_right (by simp)]; simp
 have hS : ∀ E τ,(σ.set id (zlO E) ++ τ)[id]? = some (zlO E) := fun E τ => zf (zbv hσ)
 have hP : ∀ E Y τ,(σ.set id (zlO E) ++ τ).set id Y = σ.set id Y ++ τ := fun E Y τ => by rw [zbD (zbv hσ),List.set_set]
 have e4 : zgQ e (zeM (zmU c)) = zgQ (zgQ (zgQ (zgQ e (znm c.seq)) (znm c.dig)) (zht c)) (zeM (zqi c.signs)) := by
  simp only [zmU,zeM,zgQ]
  by_cases h0 : e = 0
  ·by_cases h1 : znm c.seq = 0
   ·by_cases h2 : znm c.dig = 0
    ·by_cases h3 : zht c = 0
     ·simp [h0,h1,h2,h3]
     ·simp [h0,h1,h2,h3]
    ·simp [h0,h1,h2]
   ·simp [h0,h1]
  ·simp [h0]
 rw [e4] at hK
 (repeat' first | refine zsM ?_ | with_reducible first | exact ⟨⟩ | refine zh ?_ | fail)
 refine zlL (zf hσ) ?_
 rw [zbD hσ]
 (repeat' first | refine zgM hB ?_ | with_reducible first | exact ⟨⟩ | refine zh ?_ | fail)
 refine zlL (hS _ _) ?_
 rw [hP]
 obtain ⟨E,hE⟩ : ∃ E,zgQ (zgQ e (znm c.seq)) (znm c.dig) = E := ⟨_,rfl⟩
 rw [hE] at hK ⊢
 have tail : ∀ M,M = zht c → zE Tryz.prog zbq [.box id 0, .d (.slice (zaA c.signs))] (σ.set id (zlO (zgQ E M)) ++ [zg.box [AV.d (D.int .i64 c.seq),AV.d (D.int .i64 c.dig),AV.d (D.slice (zaA c.signs))]]) fun _ s => AW.Ends σ.length K (some []) s := fun M hM => by
  subst hM
  refine c_askSigns (hS _ _) hl0 ?_
  rw [hP]
  exact ziK (by simp [zbZ,dmT,zbr]) hl (zgN _ _) hK
 have no : zht c = 100 → zE Tryz.prog zaJ [.box id 0, .d (.int .i64 100)] (σ.set id (zlO E) ++ [zg.box [AV.d (D.int .i64 c.seq),AV.d (D.int .i64 c.dig),AV.d (D.slice (zaA c.signs))]]) fun _ s => fl 2 (.box σ.length 0) s fun g s => cA Tryz.prog zbq [.box id 0,g] s fun _ s => AW.Ends σ.length K (some []) s := fun h => by
  refine c_says (hS _ _) ?_
  rw [hP]
  (repeat' first | refine zgM hB ?_ | with_reducible first | exact ⟨⟩ | refine zh ?_ | fail)
  exact tail 100 h.symm
 have yes : zht c = 0 → zE Tryz.prog zbq [.box id 0, .d (.slice (zaA c.signs))] (σ.set id (zlO E) ++ [zg.box [AV.d (D.int .i64 c.seq),AV.d (D.int .i64 c.dig),AV.d (D.slice (zaA c.signs))]]) fun _ s => AW.Ends σ.length K (some []) s := fun h => by
  have := tail 0 h.symm
  rw [thn_0] at this
  exact this
 cases h1 : (c.seq == 0)
 ·cases h2 : (c.dig == 0)
  ·(repeat' first | refine gq34 (zdA hB (zdA h1 h2)) ?_ | with_reducible first | exact ⟨⟩ | refine zh ?_ | fail)
   exact yes (by simp at h1 h2; simp [zht,h1,h2])
  ·(repeat' first | refine gq35 (zdA hB (zdA h1 h2)) ?_ | with_reducible first | exact ⟨⟩ | refine zh ?_ | fail)
   exact no (by simp at h1 h2; simp [zht,h1,h2])
 ·cases h2 : (c.dig == 0)
  ·(repeat' first | refine gq35 (zdA hB (zdA h1 h2)) ?_ | with_reducible first | exact ⟨⟩ | refine zh ?_ | fail)
   exact no (by simp at h1 h2; simp [zht,h1,h2])
  ·cases h3 : decide ((c.signs.length : Int) > 0)
   ·(repeat' first | refine gq34 (zdA hB (zdA h1 (zdA h2 (zdA hlen h3)))) ?_ | with_reducible first | exact ⟨⟩ | refine zh ?_ | fail)
    exact yes (by simp at h1 h2 h3; simp [zht,h1,h2,h3])
   ·(repeat' first | refine gq34 (zdA hB (zdA h1 (zdA h2 (zdA hlen h3)))) ?_ | with_reducible first | exact ⟨⟩ | refine zh ?_ | fail)
    exact no (by simp only [beq_iff_eq,decide_eq_true_eq] at h1 h2 h3; rw [zht,if_pos (.inr ⟨h1,by omega⟩)])
end Go.Proofs.YtncpaekiidpchaaGreat

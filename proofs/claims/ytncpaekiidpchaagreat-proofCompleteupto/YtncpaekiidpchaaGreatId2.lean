/- Contracts: the program's tables and ledgers. -/
import Derived.Test.YtncpaekiidpchaaGreatSpTab
set_option linter.all false
set_option maxRecDepth 100000
namespace Go.Proofs.YtncpaekiidpchaaGreat
open Go.AW
theorem gq1 {P Q : Prop} (h : Q) (e : P = Q := by simp -dsimp only [↓zey, ↓zau, ↓zbj, ↓zeA, ↓zes, ↓zeq, ↓zet, ↓zer, ↓zbo, ↓zbk, ↓zbp, ↓zbl, ↓zeu, ↓zbi, ↓zbq, ↓zbm, ↓zbr, ↓zbn, ↓zep, ↓zew, ↓zbh, ↓zbs, ↓zeg, ↓zef, ↓zeo,iN,bT,bF,eN, ↓zcS, ↓unC, ↓zW, ↓zK, ↓zL, ↓zN, ↓zZ, ↓zaw, ↓zbT, ↓zag, ↓zbu, ↓zP, ↓zq, ↓zo, ↓zby, ↓zl, ↓zaf, ↓zH, ↓zaC, ↓zaG, ↓ze, ↓zC, ↓zt, ↓zw, ↓zan, ↓zcC, ↓zdb, ↓zal, ↓zat, ↓zaF, ↓zaP, ↓zaW, ↓zu, ↓zai, ↓zM, ↓zA, ↓zaa,zdi,zbd,zba,unA,zdk,bnd,zdw,zac,zS,zdy,dm,dm1,zB,zak,zdP,zdO,zQ,Q0,Q1,Q2,Q3,Q4,Q5,zR,zr,zy,zO,zI,Q6,Q7,Q8,Q9,Q10,Q11,Q12,Q13,Q14,Nat.reduceAdd,Q15,Int.reduceToNat,Q16,Q17,Q18,Q19,Q20,reduceIte,Q21,Q22,zE,rep,zV,zdG,toD,zab,Q23,Q24,Q25,Q26,Q27,Q28,Nat.reduceLeDiff,Q29,Nat.reduceSub,Q30,Q31,Q32,sc,Q33,Q34,Q35,Q36,Q37,Q26,Q38,Q39,zgH,zgE,zgB,zgI,zcf,zgF,zgC,zgG,zgD,zce,zcg,zgJ,zgK,Bool.not_true,Bool.not_false,List.length_map]; rfl) : P := e.mpr h
theorem ztn {σ : List zg} {K : KT} (hK : K (.box (σ.length + 1) 0) (σ ++ tabO σ.length [])) : zD Tryz.prog zeb [] σ K := by
 refine zD.weaken ?_
 refine zcr zjR.is rfl (fun s => List.range' σ.length 2) fun hl _ => zjR.goes ?_
 simp only [zkb,iN,bT,bF,eN]
 (repeat' first | refine gq1 ?_ | with_reducible first | exact ⟨⟩ | refine zh ?_ | fail)
 refine zeX (σ' := σ) (os := [.map [], .box [.exact [], .map σ.length]]) rfl rfl hl ?_ (.box _ _ (by simp)) ?_
 ·intro x hx
  simp only [List.mem_cons,List.not_mem_nil,or_false] at hx
  rcases hx with rfl | rfl
  ·intro e he; cases he
  ·intro c hc
   simp only [List.mem_cons,List.not_mem_nil,or_false] at hc
   rcases hc with rfl | rfl
   ·exact .exact _
   ·exact .map _ (by simp)
 ·refine ⟨.box (σ.length + 1) 0, σ ++ tabO σ.length [], ?_,hK⟩
  refine .tokB (σ.length + 1) 0 [.exact [], .map σ.length] [] 1 (by rw [zr]; rfl) rfl (by simp) ?_
  have e : (σ ++ [zg.map [],zg.box [AV.exact [],AV.map σ.length]]).set (σ.length + 1) (.box ([AV.exact [],AV.map σ.length].set 0 (.own (σ ++ [zg.map [],zg.box [AV.exact [],AV.map σ.length]]).length []))) ++ [.tok 1 0] = σ ++ tabO σ.length [] := by
   rw [zO]; simp [tabO]; rfl
  rw [List.length_nil,e]
  exact .refl _ _
theorem zrt {σ : List zg} {K : KT} (hK : K (.box (σ.length + 1) 0) (σ ++ ledO σ.length [])) : zD Tryz.prog zdK [] σ K := by
 refine zD.weaken ?_
 refine zcr ziP.is rfl (fun s => List.range' σ.length 2) fun hl _ => ziP.goes ?_
 simp only [zje,iN,bT,bF,eN]
 (repeat' first | refine gq1 ?_ | with_reducible first | exact ⟨⟩ | refine zh ?_ | fail)
 refine zeX (σ' := σ) (os := [.map [], .box [.exact [], .map σ.length]]) rfl rfl hl ?_ (.box _ _ (by simp)) ?_
 ·intro x hx
  simp only [List.mem_cons,List.not_mem_nil,or_false] at hx
  rcases hx with rfl | rfl
  ·intro e he; cases he
  ·intro c hc
   simp only [List.mem_cons,List.not_mem_nil,or_false] at hc
   rcases hc with rfl | rfl
   ·exact .exact _
   ·exact .map _ (by simp)
 ·refine ⟨.box (σ.length + 1) 0, σ ++ ledO σ.length [], ?_,hK⟩
  refine .tokB (σ.length + 1) 0 [.exact [], .map σ.length] [] 2 (by rw [zr]; rfl) rfl (by simp) ?_
  have e : (σ ++ [zg.map [],zg.box [AV.exact [],AV.map σ.length]]).set (σ.length + 1) (.box ([AV.exact [],AV.map σ.length].set 0 (.own (σ ++ [zg.map [],zg.box [AV.exact [],AV.map σ.length]]).length []))) ++ [.tok 2 0] = σ ++ ledO σ.length [] := by
   rw [zO]; simp [ledO]; rfl
  rw [List.length_nil,e]
  exact .refl _ _
theorem gq2 {A P Q : Prop} (a : A) (h : Q) (e : A → P = Q := by intro a; simp -dsimp only [↓zey, ↓zau, ↓zbj, ↓zeA, ↓zes, ↓zeq, ↓zet, ↓zer, ↓zbo, ↓zbk, ↓zbp, ↓zbl, ↓zeu, ↓zbi, ↓zbq, ↓zbm, ↓zbr, ↓zbn, ↓zep, ↓zew, ↓zbh, ↓zbs, ↓zeg, ↓zef, ↓zeo,iN,bT,bF,eN, ↓zcS, ↓unC, ↓zW, ↓zK, ↓zL, ↓zN, ↓zZ, ↓zaw, ↓zbT, ↓zag, ↓zbu, ↓zP, ↓zq, ↓zo, ↓zby, ↓zl, ↓zaf, ↓zH, ↓zaC, ↓zaG, ↓ze, ↓zC, ↓zt, ↓zw, ↓zan, ↓zcC, ↓zdb, ↓zal, ↓zat, ↓zaF, ↓zaP, ↓zaW, ↓zu, ↓zai, ↓zM, ↓zA, ↓zaa,zdi,zbd,zba,unA,zdk,bnd,zdw,zac,zS,zdy,dm,dm1,zB,zak,zdP,zdO,zQ,Q0,Q1,Q2,Q3,Q4,Q5,zR,zr,zy,zO,zI,Q6,Q7,Q8,Q9,Q10,Q11,Q12,Q13,Q14,Nat.reduceAdd,Q15,Int.reduceToNat,Q16,Q17,Q18,Q19,Q20,reduceIte,Q21,Q22,zE,rep,zV,zdG,toD,zab,Q23,Q24,Q25,Q26,Q27,Q28,Nat.reduceLeDiff,Q29,Nat.reduceSub,Q30,Q31,Q32,sc,Q33,Q34,Q35,Q36,Q37,Q26,Q38,Q39,zgH,zgE,zgB,zgI,zcf,zgF,zgC,zgG,zgD,zce,zcg,zgJ,zgK,Bool.not_true,Bool.not_false,List.length_map,a]; rfl) : P := (e a).mpr h
theorem zui {σ : List zg} {id m t : Nat} {l : List (List UInt8)} (hT : zcl σ id m t l) {K : KT} (hK : K (.d (.bool false)) σ) : zD Tryz.prog zbR [.box id 0] σ K := by
 refine zj zhQ.is rfl fun hl _ => zhQ.goes ?_
 have hb := hT.box
 simp only [zhY,iN,bT,bF,eN]
 (repeat' first | refine gq2 hb ?_ | with_reducible first | exact ⟨⟩ | refine zh ?_ | fail)
 (first | refine zaq hl ?_ | refine zap hl ?_)
 exact hK
theorem zur {σ : List zg} {id m t : Nat} {g : List zJ} (hG : zdV σ id m t g) {K : KT} (hK : K (.d (.bool false)) σ) : zD Tryz.prog zbF [.box id 0] σ K := by
 refine zj zhl.is rfl fun hl _ => zhl.goes ?_
 have hb := hG.box
 simp only [zhy,iN,bT,bF,eN]
 (repeat' first | refine gq2 hb ?_ | with_reducible first | exact ⟨⟩ | refine zh ?_ | fail)
 (first | refine zaq hl ?_ | refine zap hl ?_)
 exact hK
theorem zd {A B : Prop} (a : A) (b : B) : A ∧ B := ⟨a,b⟩
theorem gq3 {A P Q : Prop} (a : A) (h : Q) (e : A → P = Q := by intro a; simp -dsimp only [↓zey, ↓zau, ↓zbj, ↓zeA, ↓zes, ↓zeq, ↓zet, ↓zer, ↓zbo, ↓zbk, ↓zbp, ↓zbl, ↓zeu, ↓zbi, ↓zbq, ↓zbm, ↓zbr, ↓zbn, ↓zep, ↓zew, ↓zbh, ↓zbs, ↓zeg, ↓zef, ↓zeo,iN,bT,bF,eN, ↓zcS, ↓unC, ↓zW, ↓zK, ↓zL, ↓zN, ↓zZ, ↓zaw, ↓zbT, ↓zag, ↓zbu, ↓zP, ↓zq, ↓zo, ↓zby, ↓zl, ↓zaf, ↓zH, ↓zaC, ↓zaG, ↓ze, ↓zC, ↓zt, ↓zw, ↓zan, ↓zcC, ↓zdb, ↓zal, ↓zat, ↓zaF, ↓zaP, ↓zaW, ↓zu, ↓zai, ↓zM, ↓zA, ↓zaa,zdi,zbd,zba,unA,zdk,bnd,zdw,zac,zS,zdy,dm,dm1,zB,zak,zdP,zdO,zQ,Q0,Q1,Q2,Q3,Q4,Q5,zR,zr,zy,zO,zI,Q6,Q7,Q8,Q9,Q10,Q11,Q12,Q13,Q14,Nat.reduceAdd,Q15,Int.reduceToNat,Q16,Q17,Q18,Q19,Q20,reduceIte,Q21,Q22,zE,rep,zV,zdG,toD,zab,Q23,Q24,Q25,Q26,Q27,Q28,Nat.reduceLeDiff,Q29,Nat.reduceSub,Q30,Q31,Q32,sc,Q33,Q34,Q35,Q36,Q37,Q26,Q38,Q39,zgH,zgE,zgB,zgI,zcf,zgF,zgC,zgG,zgD,zce,zcg,zgJ,zgK,Bool.not_true,Bool.not_false,List.length_map,zmJ,zdY,zeE,zaF,mgetR,a]; rfl) : P := (e a).mpr h
theorem zmI {σ : List zg} {id m t : Nat} {l : List (List UInt8)} {b : List UInt8} (hT : zcl σ id m t l) {K : KT} (hK : K (.tup [.d (.int .i64 (zks (zcu l b))), .d (.bool (zcu l b).isSome)]) σ) :
  zD Tryz.prog zaL [.box id 0, .d (.slice (bcs b))] σ K := by
 refine zj zhR.is rfl fun hl _ => zhR.goes ?_
 have hb := hT.box
 have hm := hT.map
 have hf := mfind_tab l b
 simp only [zhZ,iN,bT,bF,eN]
 (repeat' first | refine gq1 ?_ | with_reducible first | exact ⟨⟩ | refine zh ?_ | fail)
 refine zui hT ?_
 cases ho : zcu l b with
 | none =>
  rw [ho] at hf hK
  simp only [Option.map_none] at hf
  (repeat' first | refine gq3 (zd hb (zd hm hf)) ?_ | with_reducible first | exact ⟨⟩ | refine zh ?_ | fail)
  (first | refine zaq hl ?_ | refine zap hl ?_)
  exact hK
 | some k =>
  rw [ho] at hf hK
  simp only [Option.map_some] at hf
  (repeat' first | refine gq3 (zd hb (zd hm hf)) ?_ | with_reducible first | exact ⟨⟩ | refine zh ?_ | fail)
  (first | refine zaq hl ?_ | refine zap hl ?_)
  exact hK
theorem c_tLen {σ : List zg} {id m t : Nat} {l : List (List UInt8)} (hT : zcl σ id m t l) {K : KT} (hK : K (.d (.int .i64 l.length)) σ) : zD Tryz.prog zfo [.box id 0] σ K := by
 refine zj ziO.is rfl fun hl _ => ziO.goes ?_
 have hb := hT.box
 simp only [zjd,iN,bT,bF,eN]
 (repeat' first | refine gq1 ?_ | with_reducible first | exact ⟨⟩ | refine zh ?_ | fail)
 refine zui hT ?_
 (repeat' first | refine gq2 hb ?_ | with_reducible first | exact ⟨⟩ | refine zh ?_ | fail)
 (first | refine zaq hl ?_ | refine zap hl ?_)
 exact hK
theorem c_gLen {σ : List zg} {id m t : Nat} {g : List zJ} (hG : zdV σ id m t g) {K : KT} (hK : K (.d (.int .i64 g.length)) σ) : zD Tryz.prog zdr [.box id 0] σ K := by
 refine zj zhS.is rfl fun hl _ => zhS.goes ?_
 have hb := hG.box
 simp only [zia,iN,bT,bF,eN]
 (repeat' first | refine gq1 ?_ | with_reducible first | exact ⟨⟩ | refine zh ?_ | fail)
 refine zur hG ?_
 (repeat' first | refine gq2 hb ?_ | with_reducible first | exact ⟨⟩ | refine zh ?_ | fail)
 (first | refine zaq hl ?_ | refine zap hl ?_)
 exact hK
theorem gq4 {A P Q : Prop} (a : A) (h : Q) (e : A → P = Q := by intro a; simp -dsimp only [↓zey, ↓zau, ↓zbj, ↓zeA, ↓zes, ↓zeq, ↓zet, ↓zer, ↓zbo, ↓zbk, ↓zbp, ↓zbl, ↓zeu, ↓zbi, ↓zbq, ↓zbm, ↓zbr, ↓zbn, ↓zep, ↓zew, ↓zbh, ↓zbs, ↓zeg, ↓zef, ↓zeo,iN,bT,bF,eN, ↓zcS, ↓unC, ↓zW, ↓zK, ↓zL, ↓zN, ↓zZ, ↓zaw, ↓zbT, ↓zag, ↓zbu, ↓zP, ↓zq, ↓zo, ↓zby, ↓zl, ↓zaf, ↓zH, ↓zaC, ↓zaG, ↓ze, ↓zC, ↓zt, ↓zw, ↓zan, ↓zcC, ↓zdb, ↓zal, ↓zat, ↓zaF, ↓zaP, ↓zaW, ↓zu, ↓zai, ↓zM, ↓zA, ↓zaa,zdi,zbd,zba,unA,zdk,bnd,zdw,zac,zS,zdy,dm,dm1,zB,zak,zdP,zdO,zQ,Q0,Q1,Q2,Q3,Q4,Q5,zR,zr,zy,zO,zI,Q6,Q7,Q8,Q9,Q10,Q11,Q12,Q13,Q14,Nat.reduceAdd,Q15,Int.reduceToNat,Q16,Q17,Q18,Q19,Q20,reduceIte,Q21,Q22,zE,rep,zV,zdG,toD,zab,Q23,Q24,Q25,Q26,Q27,Q28,Nat.reduceLeDiff,Q29,Nat.reduceSub,Q30,Q31,Q32,sc,Q33,Q34,Q35,Q36,Q37,Q26,Q38,Q39,zgH,zgE,zgB,zgI,zcf,zgF,zgC,zgG,zgD,zce,zcg,zgJ,zgK,Bool.not_true,Bool.not_false,List.length_map,zdY,zcT,zeE,zaF,mgetR,a]; rfl) : P := (e a).mpr h
theorem c_gSigned {σ : List zg} {id m t : Nat} {g : List zJ} {s : zJ} (hG : zdV σ id m t g) {K : KT} (hK : K (.d (.bool (decide (s ∈ g)))) σ) :
  zD Tryz.prog zdD [.box id 0, .agg [.d (.int .i64 s.key), .d (.int .i64 s.dig)]] σ K := by
 refine zj zfF.is rfl fun hl _ => zfF.goes ?_
 have hb : ∀ τ,(σ ++ τ)[id]? = _ := fun τ => zf hG.box
 have hm : ∀ τ,(σ ++ τ)[m]? = _ := fun τ => zf hG.map
 simp only [zfK,iN,bT,bF,eN]
 (repeat' first | refine gq1 ?_ | with_reducible first | exact ⟨⟩ | refine zh ?_ | fail)
 refine zur (hG.app _) ?_
 by_cases hs : s ∈ g
 ·obtain ⟨k,hf⟩ := znf hs
  rw [decide_eq_true hs] at hK
  (repeat' first | refine gq4 (zd hb (zd hm hf)) ?_ | with_reducible first | exact ⟨⟩ | refine zh ?_ | fail)
  (first | refine zaq hl ?_ | refine zap hl ?_)
  exact hK
 ·have hf := zpl hs
  rw [decide_eq_false hs] at hK
  (repeat' first | refine gq4 (zd hb (zd hm hf)) ?_ | with_reducible first | exact ⟨⟩ | refine zh ?_ | fail)
  (first | refine zaq hl ?_ | refine zap hl ?_)
  exact hK
theorem gq5 {A P Q : Prop} (a : A) (h : Q) (e : A → P = Q := by intro a; simp -dsimp only [↓zey, ↓zau, ↓zbj, ↓zeA, ↓zes, ↓zeq, ↓zet, ↓zer, ↓zbo, ↓zbk, ↓zbp, ↓zbl, ↓zeu, ↓zbi, ↓zbq, ↓zbm, ↓zbr, ↓zbn, ↓zep, ↓zew, ↓zbh, ↓zbs, ↓zeg, ↓zef, ↓zeo,iN,bT,bF,eN, ↓zcS, ↓unC, ↓zW, ↓zK, ↓zL, ↓zN, ↓zZ, ↓zaw, ↓zbT, ↓zag, ↓zbu, ↓zP, ↓zq, ↓zo, ↓zby, ↓zl, ↓zaf, ↓zH, ↓zaC, ↓zaG, ↓ze, ↓zC, ↓zt, ↓zw, ↓zan, ↓zcC, ↓zdb, ↓zal, ↓zat, ↓zaF, ↓zaP, ↓zaW, ↓zu, ↓zai, ↓zM, ↓zA, ↓zaa,zdi,zbd,zba,unA,zdk,bnd,zdw,zac,zS,zdy,dm,dm1,zB,zak,zdP,zdO,zQ,Q0,Q1,Q2,Q3,Q4,Q5,zR,zr,zy,zO,zI,Q6,Q7,Q8,Q9,Q10,Q11,Q12,Q13,Q14,Nat.reduceAdd,Q15,Int.reduceToNat,Q16,Q17,Q18,Q19,Q20,reduceIte,Q21,Q22,zE,rep,zV,zdG,toD,zab,Q23,Q24,Q25,Q26,Q27,Q28,Nat.reduceLeDiff,Q29,Nat.reduceSub,Q30,Q31,Q32,sc,Q33,Q34,Q35,Q36,Q37,Q26,Q38,Q39,zgH,zgE,zgB,zgI,zcf,zgF,zgC,zgG,zgD,zce,zcg,zgJ,zgK,Bool.not_true,Bool.not_false,List.length_map,zeJ,zmJ,zeE,zaP,a]; rfl) : P := (e a).mpr h
theorem zti {σ : List zg} {id m t : Nat} {l : List (List UInt8)} {b : List UInt8} (hT : zcl σ id m t l) (hbl : b.length ≤ 1073741824) (hll : l.length ≤ 1048576) {K : KT}
  (hK : K (.d (.int .i64 (zcI l b))) (putTab σ id m t (zdH l b))) : zD Tryz.prog zbE [.box id 0, .d (.slice (bcs b))] σ K := by
 refine zj ziN.is rfl fun hl _ => ziN.goes ?_
 have hb := hT.box
 have hm := hT.map
 have ht := hT.tok
 have hf := mfind_tab l b
 obtain ⟨n1,n2,n3⟩ := hT.ne
 have hlen : (zdt l).length = l.length := List.length_map ..
 simp only [zjc,iN,bT,bF,eN]
 (repeat' first | refine gq1 ?_ | with_reducible first | exact ⟨⟩ | refine zh ?_ | fail)
 refine zui hT ?_
 cases ho : zcu l b with
 | some k =>
  rw [ho] at hf
  simp only [zcI,zdH,ho] at hK
  rw [hT.self] at hK
  simp only [Option.map_some] at hf
  (repeat' first | refine gq3 (zd hb (zd hm hf)) ?_ | with_reducible first | exact ⟨⟩ | refine zh ?_ | fail)
  (first | refine zaq hl ?_ | refine zap hl ?_)
  exact hK
 | none =>
  rw [ho] at hf
  simp only [zcI,zdH,ho] at hK
  simp only [Option.map_none] at hf
  by_cases hfull : l.length ≥ 1048576
  ·rw [if_pos hfull,if_pos hfull,hT.self] at hK
   have hd : decide ((l.length : Int) ≥ 1048576) = true := by simp; omega
   (repeat' first | refine gq3 (zd hb (zd hm (zd hf (zd hlen hd)))) ?_ | with_reducible first | exact ⟨⟩ | refine zh ?_ | fail)
   (first | refine zaq hl ?_ | refine zap hl ?_)
   exact hK
  ·rw [if_neg hfull,if_neg hfull] at hK
   have hd : decide ((l.length : Int) ≥ 1048576) = false := by simp; omega
   have g1 : ∀ τ,(σ ++ τ)[id]? = some (.box [.own t (zdt l), .map m]) := fun τ => zf hb
   have g2 : ∀ τ,(σ ++ τ)[t]? = some (.tok 1 l.length) := fun τ => zf ht
   have s1 : ∀ X τ,(σ ++ τ).set t X = σ.set t X ++ τ := fun X τ => zbI ht
   have hb' : ∀ X,(σ.set t X)[id]? = some (.box [.own t (zdt l), .map m]) := fun X => by rw [List.getElem?_set_ne (Ne.symm n2)]; exact hb
   have g3 : ∀ X τ,(σ.set t X ++ τ)[id]? = some (.box [.own t (zdt l), .map m]) := fun X τ => zf (hb' X)
   have s2 : ∀ X Y τ,(σ.set t X ++ τ).set id Y = (σ.set t X).set id Y ++ τ := fun X Y τ => zbI (hb' X)
   have g4 : ∀ X Y τ,((σ.set t X).set id Y ++ τ)[id]? = some Y := fun X Y τ => zf (zbz (hb' X))
   have hm' : ∀ X Y,((σ.set t X).set id Y)[m]? = some (.map (tabM l)) := fun X Y => by rw [List.getElem?_set_ne n1,List.getElem?_set_ne (Ne.symm n3)]; exact hm
   have g5 : ∀ X Y τ,((σ.set t X).set id Y ++ τ)[m]? = some (.map (tabM l)) := fun X Y τ => zf (hm' X Y)
   have s3 : ∀ X Y Z τ,((σ.set t X).set id Y ++ τ).set m Z = ((σ.set t X).set id Y).set m Z ++ τ := fun X Y Z τ => zbI (hm' X Y)
   (repeat' first | refine gq3 (zd hb (zd hm (zd hf (zd hlen hd)))) ?_ | with_reducible first | exact ⟨⟩ | refine zh ?_ | fail)
   refine zus zfS (by rw [zeJ]; omega) ?_
   (repeat' first | refine gq5 (zd g1 (zd g2 (zd s1 (zd g3 (zd s2 (zd g4 (zd g5 (zd s3 (zd hf hlen))))))))) ?_ | with_reducible first | exact ⟨⟩ | refine zh ?_ | fail)
   refine ⟨hb.symm,by simp,by omega, ?_⟩
   have e : putTab σ id m t (l ++ [b]) = ((σ.set t (zg.tok 1 (l.length + 1))).set id (zg.box [AV.own t (zdt l ++ [[D.slice (bcs b)]]),AV.map m])).set m (zg.map (tabM l ++ [(AV.d (D.str b),AV.d (D.int IntKind.i64 ((l.length + 1 : Nat) : Int)))])) := by
    simp [putTab,tabM_add,zdt]
    rw [← tabM_add]; simp
   rw [← e]
   exact zdc (zco ..) (by simp [zdh,dmT,dm,dm1,zca]) (hT.lows hl _) hK
end Go.Proofs.YtncpaekiidpchaaGreat

/- Contracts: the program's tables and ledgers. -/
import Derived.Test.YtncpaekiidpchaaGreatSpTab
set_option linter.all false
set_option maxRecDepth 100000
namespace Go.Proofs.YtncpaekiidpchaaGreat
open Go.AW
theorem gq1 {P Q : Prop} (h : Q) (e : P = Q := by simp -dsimp only [↓zcR, ↓zal, ↓zaM, ↓zcS, ↓zcN, ↓zcL, ↓zcO, ↓zcM, ↓zaR, ↓zaN, ↓zaS, ↓zaO, ↓zcP, ↓zaL, ↓zaT, ↓zaP, ↓zaU, ↓zaQ, ↓zcK, ↓zcQ, ↓zaK, ↓zaV, ↓zcI, ↓zcH, ↓zcJ,iN,bT,bF,eN, ↓zbI, ↓unC, ↓zQ, ↓zF, ↓zG, ↓zI, ↓zR, ↓zap, ↓zbp, ↓zab, ↓zaX, ↓zP, ↓zp, ↓zm, ↓zbg, ↓zi, ↓zY, ↓zB, ↓zas, ↓zaw, ↓ze, ↓zC, ↓zr, ↓zt, ↓zad, ↓zbL, ↓zbY, ↓zaa, ↓zaj, ↓zau, ↓zaB, ↓zaD, ↓zl, ↓zZ, ↓zH, ↓zu, ↓zS,zcd,zaI,zaH,unA,zce,bnd,zcn,zX,zV,zcp,dm,dm1,zD,zag,zcy,zcx,zU,Q0,Q1,Q2,Q3,Q4,Q5,zO,zq,zw,zM,zE,Q6,Q7,Q8,Q9,Q10,Q11,Q12,Q13,Q14,Nat.reduceAdd,Q15,Int.reduceToNat,Q16,Q17,Q18,Q19,Q20,reduceIte,Q21,Q22,zx,rep,zT,zcv,toD,zW,Q23,Q24,Q25,Q26,Q27,Q28,Nat.reduceLeDiff,Q29,Nat.reduceSub,Q30,Q31,Q32,sc,Q33,Q34,Q35,Q36,Q37,Q26,Q38,Q39,zel,zei,zef,zem,zbt,zej,zeg,zek,zeh,zbs,zbu,zen,zeo,Bool.not_true,Bool.not_false,List.length_map]; rfl) : P := e.mpr h
theorem ztF {σ : List zf} {K : AV → List zf → Prop} (hK : K (.box (σ.length + 1) 0) (σ ++ tabO σ.length [])) : zL Tryz.prog zet [] σ K := by
 refine zL.weaken ?_
 refine zco zjT.is rfl (fun s => List.range' σ.length 2) fun hl _ => zjT.goes ?_
 simp only [zkg,iN,bT,bF,eN]
 (repeat' first | refine gq1 ?_ | with_reducible first | exact ⟨⟩ | refine zh ?_ | fail)
 refine zfc (σ' := σ) (os := [.map [], .box [.exact [], .map σ.length]]) rfl rfl hl ?_ (.box _ _ (by simp)) ?_
 ·intro x hx
  simp only [List.mem_cons,List.not_mem_nil,or_false] at hx
  rcases hx with rfl | rfl
  ·intro e he; cases he
  ·intro c hc
   simp only [List.mem_cons,List.not_mem_nil,or_false] at hc
   rcases hc with rfl | rfl
   ·exact .exact _
   ·exact .map _ (by simp)
 ·refine ⟨.box (σ.length + 1) 0, σ ++ tabO σ.length [], ?_,hK⟩
  refine .tokB (σ.length + 1) 0 [.exact [], .map σ.length] [] 1 (by rw [zq]; rfl) rfl (by simp) ?_
  have e : (σ ++ [zf.map [],zf.box [AV.exact [],AV.map σ.length]]).set (σ.length + 1) (.box ([AV.exact [],AV.map σ.length].set 0 (.own (σ ++ [zf.map [],zf.box [AV.exact [],AV.map σ.length]]).length []))) ++ [.tok 1 0] = σ ++ tabO σ.length [] := by
   rw [zM]; simp [tabO]; rfl
  rw [List.length_nil,e]
  exact .refl _ _
theorem zrB {σ : List zf} {K : AV → List zf → Prop} (hK : K (.box (σ.length + 1) 0) (σ ++ ledO σ.length [])) : zL Tryz.prog zdT [] σ K := by
 refine zL.weaken ?_
 refine zco ziP.is rfl (fun s => List.range' σ.length 2) fun hl _ => ziP.goes ?_
 simp only [zjf,iN,bT,bF,eN]
 (repeat' first | refine gq1 ?_ | with_reducible first | exact ⟨⟩ | refine zh ?_ | fail)
 refine zfc (σ' := σ) (os := [.map [], .box [.exact [], .map σ.length]]) rfl rfl hl ?_ (.box _ _ (by simp)) ?_
 ·intro x hx
  simp only [List.mem_cons,List.not_mem_nil,or_false] at hx
  rcases hx with rfl | rfl
  ·intro e he; cases he
  ·intro c hc
   simp only [List.mem_cons,List.not_mem_nil,or_false] at hc
   rcases hc with rfl | rfl
   ·exact .exact _
   ·exact .map _ (by simp)
 ·refine ⟨.box (σ.length + 1) 0, σ ++ ledO σ.length [], ?_,hK⟩
  refine .tokB (σ.length + 1) 0 [.exact [], .map σ.length] [] 2 (by rw [zq]; rfl) rfl (by simp) ?_
  have e : (σ ++ [zf.map [],zf.box [AV.exact [],AV.map σ.length]]).set (σ.length + 1) (.box ([AV.exact [],AV.map σ.length].set 0 (.own (σ ++ [zf.map [],zf.box [AV.exact [],AV.map σ.length]]).length []))) ++ [.tok 2 0] = σ ++ ledO σ.length [] := by
   rw [zM]; simp [ledO]; rfl
  rw [List.length_nil,e]
  exact .refl _ _
theorem gq2 {A P Q : Prop} (a : A) (h : Q) (e : A → P = Q := by intro a; simp -dsimp only [↓zcR, ↓zal, ↓zaM, ↓zcS, ↓zcN, ↓zcL, ↓zcO, ↓zcM, ↓zaR, ↓zaN, ↓zaS, ↓zaO, ↓zcP, ↓zaL, ↓zaT, ↓zaP, ↓zaU, ↓zaQ, ↓zcK, ↓zcQ, ↓zaK, ↓zaV, ↓zcI, ↓zcH, ↓zcJ,iN,bT,bF,eN, ↓zbI, ↓unC, ↓zQ, ↓zF, ↓zG, ↓zI, ↓zR, ↓zap, ↓zbp, ↓zab, ↓zaX, ↓zP, ↓zp, ↓zm, ↓zbg, ↓zi, ↓zY, ↓zB, ↓zas, ↓zaw, ↓ze, ↓zC, ↓zr, ↓zt, ↓zad, ↓zbL, ↓zbY, ↓zaa, ↓zaj, ↓zau, ↓zaB, ↓zaD, ↓zl, ↓zZ, ↓zH, ↓zu, ↓zS,zcd,zaI,zaH,unA,zce,bnd,zcn,zX,zV,zcp,dm,dm1,zD,zag,zcy,zcx,zU,Q0,Q1,Q2,Q3,Q4,Q5,zO,zq,zw,zM,zE,Q6,Q7,Q8,Q9,Q10,Q11,Q12,Q13,Q14,Nat.reduceAdd,Q15,Int.reduceToNat,Q16,Q17,Q18,Q19,Q20,reduceIte,Q21,Q22,zx,rep,zT,zcv,toD,zW,Q23,Q24,Q25,Q26,Q27,Q28,Nat.reduceLeDiff,Q29,Nat.reduceSub,Q30,Q31,Q32,sc,Q33,Q34,Q35,Q36,Q37,Q26,Q38,Q39,zel,zei,zef,zem,zbt,zej,zeg,zek,zeh,zbs,zbu,zen,zeo,Bool.not_true,Bool.not_false,List.length_map,a]; rfl) : P := (e a).mpr h
theorem zuN {σ : List zf} {id m t : Nat} {l : List (List UInt8)} (hT : zcu σ id m t l) {K : AV → List zf → Prop} (hK : K (.d (.bool false)) σ) : zL Tryz.prog zbX [.box id 0] σ K := by
 refine zj zhV.is rfl fun hl _ => zhV.goes ?_
 have hb := hT.box
 simp only [zid,iN,bT,bF,eN]
 (repeat' first | refine gq2 hb ?_ | with_reducible first | exact ⟨⟩ | refine zh ?_ | fail)
 (first | refine zao hl ?_ | refine zan hl ?_)
 exact hK
theorem zuX {σ : List zf} {id m t : Nat} {g : List zae} (hG : zeb σ id m t g) {K : AV → List zf → Prop} (hK : K (.d (.bool false)) σ) : zL Tryz.prog zbK [.box id 0] σ K := by
 refine zj zhq.is rfl fun hl _ => zhq.goes ?_
 have hb := hG.box
 simp only [zhF,iN,bT,bF,eN]
 (repeat' first | refine gq2 hb ?_ | with_reducible first | exact ⟨⟩ | refine zh ?_ | fail)
 (first | refine zao hl ?_ | refine zan hl ?_)
 exact hK
theorem zd {A B : Prop} (a : A) (b : B) : A ∧ B := ⟨a,b⟩
theorem gq3 {A P Q : Prop} (a : A) (h : Q) (e : A → P = Q := by intro a; simp -dsimp only [↓zcR, ↓zal, ↓zaM, ↓zcS, ↓zcN, ↓zcL, ↓zcO, ↓zcM, ↓zaR, ↓zaN, ↓zaS, ↓zaO, ↓zcP, ↓zaL, ↓zaT, ↓zaP, ↓zaU, ↓zaQ, ↓zcK, ↓zcQ, ↓zaK, ↓zaV, ↓zcI, ↓zcH, ↓zcJ,iN,bT,bF,eN, ↓zbI, ↓unC, ↓zQ, ↓zF, ↓zG, ↓zI, ↓zR, ↓zap, ↓zbp, ↓zab, ↓zaX, ↓zP, ↓zp, ↓zm, ↓zbg, ↓zi, ↓zY, ↓zB, ↓zas, ↓zaw, ↓ze, ↓zC, ↓zr, ↓zt, ↓zad, ↓zbL, ↓zbY, ↓zaa, ↓zaj, ↓zau, ↓zaB, ↓zaD, ↓zl, ↓zZ, ↓zH, ↓zu, ↓zS,zcd,zaI,zaH,unA,zce,bnd,zcn,zX,zV,zcp,dm,dm1,zD,zag,zcy,zcx,zU,Q0,Q1,Q2,Q3,Q4,Q5,zO,zq,zw,zM,zE,Q6,Q7,Q8,Q9,Q10,Q11,Q12,Q13,Q14,Nat.reduceAdd,Q15,Int.reduceToNat,Q16,Q17,Q18,Q19,Q20,reduceIte,Q21,Q22,zx,rep,zT,zcv,toD,zW,Q23,Q24,Q25,Q26,Q27,Q28,Nat.reduceLeDiff,Q29,Nat.reduceSub,Q30,Q31,Q32,sc,Q33,Q34,Q35,Q36,Q37,Q26,Q38,Q39,zel,zei,zef,zem,zbt,zej,zeg,zek,zeh,zbs,zbu,zen,zeo,Bool.not_true,Bool.not_false,List.length_map,zhu,zeq,zeG,zau,mgetR,a]; rfl) : P := (e a).mpr h
theorem zmS {σ : List zf} {id m t : Nat} {l : List (List UInt8)} {b : List UInt8} (hT : zcu σ id m t l) {K : AV → List zf → Prop} (hK : K (.tup [.d (.int .i64 (zni (zdD l b))), .d (.bool (zdD l b).isSome)]) σ) :
  zL Tryz.prog zbc [.box id 0, .d (.slice (bcs b))] σ K := by
 refine zj zhW.is rfl fun hl _ => zhW.goes ?_
 have hb := hT.box
 have hm := hT.map
 have hf := mfind_tab l b
 simp only [zie,iN,bT,bF,eN]
 (repeat' first | refine gq1 ?_ | with_reducible first | exact ⟨⟩ | refine zh ?_ | fail)
 refine zuN hT ?_
 cases ho : zdD l b with
 | none =>
  rw [ho] at hf hK
  simp only [Option.map_none] at hf
  (repeat' first | refine gq3 (zd hb (zd hm hf)) ?_ | with_reducible first | exact ⟨⟩ | refine zh ?_ | fail)
  (first | refine zao hl ?_ | refine zan hl ?_)
  exact hK
 | some k =>
  rw [ho] at hf hK
  simp only [Option.map_some] at hf
  (repeat' first | refine gq3 (zd hb (zd hm hf)) ?_ | with_reducible first | exact ⟨⟩ | refine zh ?_ | fail)
  (first | refine zao hl ?_ | refine zan hl ?_)
  exact hK
theorem c_tLen {σ : List zf} {id m t : Nat} {l : List (List UInt8)} (hT : zcu σ id m t l) {K : AV → List zf → Prop} (hK : K (.d (.int .i64 l.length)) σ) : zL Tryz.prog zdS [.box id 0] σ K := by
 refine zj ziO.is rfl fun hl _ => ziO.goes ?_
 have hb := hT.box
 simp only [zje,iN,bT,bF,eN]
 (repeat' first | refine gq1 ?_ | with_reducible first | exact ⟨⟩ | refine zh ?_ | fail)
 refine zuN hT ?_
 (repeat' first | refine gq2 hb ?_ | with_reducible first | exact ⟨⟩ | refine zh ?_ | fail)
 (first | refine zao hl ?_ | refine zan hl ?_)
 exact hK
theorem c_gLen {σ : List zf} {id m t : Nat} {g : List zae} (hG : zeb σ id m t g) {K : AV → List zf → Prop} (hK : K (.d (.int .i64 g.length)) σ) : zL Tryz.prog zdG [.box id 0] σ K := by
 refine zj zhX.is rfl fun hl _ => zhX.goes ?_
 have hb := hG.box
 simp only [zif,iN,bT,bF,eN]
 (repeat' first | refine gq1 ?_ | with_reducible first | exact ⟨⟩ | refine zh ?_ | fail)
 refine zuX hG ?_
 (repeat' first | refine gq2 hb ?_ | with_reducible first | exact ⟨⟩ | refine zh ?_ | fail)
 (first | refine zao hl ?_ | refine zan hl ?_)
 exact hK
theorem gq4 {A P Q : Prop} (a : A) (h : Q) (e : A → P = Q := by intro a; simp -dsimp only [↓zcR, ↓zal, ↓zaM, ↓zcS, ↓zcN, ↓zcL, ↓zcO, ↓zcM, ↓zaR, ↓zaN, ↓zaS, ↓zaO, ↓zcP, ↓zaL, ↓zaT, ↓zaP, ↓zaU, ↓zaQ, ↓zcK, ↓zcQ, ↓zaK, ↓zaV, ↓zcI, ↓zcH, ↓zcJ,iN,bT,bF,eN, ↓zbI, ↓unC, ↓zQ, ↓zF, ↓zG, ↓zI, ↓zR, ↓zap, ↓zbp, ↓zab, ↓zaX, ↓zP, ↓zp, ↓zm, ↓zbg, ↓zi, ↓zY, ↓zB, ↓zas, ↓zaw, ↓ze, ↓zC, ↓zr, ↓zt, ↓zad, ↓zbL, ↓zbY, ↓zaa, ↓zaj, ↓zau, ↓zaB, ↓zaD, ↓zl, ↓zZ, ↓zH, ↓zu, ↓zS,zcd,zaI,zaH,unA,zce,bnd,zcn,zX,zV,zcp,dm,dm1,zD,zag,zcy,zcx,zU,Q0,Q1,Q2,Q3,Q4,Q5,zO,zq,zw,zM,zE,Q6,Q7,Q8,Q9,Q10,Q11,Q12,Q13,Q14,Nat.reduceAdd,Q15,Int.reduceToNat,Q16,Q17,Q18,Q19,Q20,reduceIte,Q21,Q22,zx,rep,zT,zcv,toD,zW,Q23,Q24,Q25,Q26,Q27,Q28,Nat.reduceLeDiff,Q29,Nat.reduceSub,Q30,Q31,Q32,sc,Q33,Q34,Q35,Q36,Q37,Q26,Q38,Q39,zel,zei,zef,zem,zbt,zej,zeg,zek,zeh,zbs,zbu,zen,zeo,Bool.not_true,Bool.not_false,List.length_map,zeq,zcj,zeG,zau,mgetR,a]; rfl) : P := (e a).mpr h
theorem c_gSigned {σ : List zf} {id m t : Nat} {g : List zae} {s : zae} (hG : zeb σ id m t g) {K : AV → List zf → Prop} (hK : K (.d (.bool (decide (s ∈ g)))) σ) :
  zL Tryz.prog zdL [.box id 0, .agg [.d (.int .i64 s.key), .d (.int .i64 s.dig)]] σ K := by
 refine zj zfT.is rfl fun hl _ => zfT.goes ?_
 have hb : ∀ τ,(σ ++ τ)[id]? = _ := fun τ => zg hG.box
 have hm : ∀ τ,(σ ++ τ)[m]? = _ := fun τ => zg hG.map
 simp only [zfZ,iN,bT,bF,eN]
 (repeat' first | refine gq1 ?_ | with_reducible first | exact ⟨⟩ | refine zh ?_ | fail)
 refine zuX (hG.app _) ?_
 by_cases hs : s ∈ g
 ·obtain ⟨k,hf⟩ := znk hs
  rw [decide_eq_true hs] at hK
  (repeat' first | refine gq4 (zd hb (zd hm hf)) ?_ | with_reducible first | exact ⟨⟩ | refine zh ?_ | fail)
  (first | refine zao hl ?_ | refine zan hl ?_)
  exact hK
 ·have hf := zpq hs
  rw [decide_eq_false hs] at hK
  (repeat' first | refine gq4 (zd hb (zd hm hf)) ?_ | with_reducible first | exact ⟨⟩ | refine zh ?_ | fail)
  (first | refine zao hl ?_ | refine zan hl ?_)
  exact hK
theorem gq5 {A P Q : Prop} (a : A) (h : Q) (e : A → P = Q := by intro a; simp -dsimp only [↓zcR, ↓zal, ↓zaM, ↓zcS, ↓zcN, ↓zcL, ↓zcO, ↓zcM, ↓zaR, ↓zaN, ↓zaS, ↓zaO, ↓zcP, ↓zaL, ↓zaT, ↓zaP, ↓zaU, ↓zaQ, ↓zcK, ↓zcQ, ↓zaK, ↓zaV, ↓zcI, ↓zcH, ↓zcJ,iN,bT,bF,eN, ↓zbI, ↓unC, ↓zQ, ↓zF, ↓zG, ↓zI, ↓zR, ↓zap, ↓zbp, ↓zab, ↓zaX, ↓zP, ↓zp, ↓zm, ↓zbg, ↓zi, ↓zY, ↓zB, ↓zas, ↓zaw, ↓ze, ↓zC, ↓zr, ↓zt, ↓zad, ↓zbL, ↓zbY, ↓zaa, ↓zaj, ↓zau, ↓zaB, ↓zaD, ↓zl, ↓zZ, ↓zH, ↓zu, ↓zS,zcd,zaI,zaH,unA,zce,bnd,zcn,zX,zV,zcp,dm,dm1,zD,zag,zcy,zcx,zU,Q0,Q1,Q2,Q3,Q4,Q5,zO,zq,zw,zM,zE,Q6,Q7,Q8,Q9,Q10,Q11,Q12,Q13,Q14,Nat.reduceAdd,Q15,Int.reduceToNat,Q16,Q17,Q18,Q19,Q20,reduceIte,Q21,Q22,zx,rep,zT,zcv,toD,zW,Q23,Q24,Q25,Q26,Q27,Q28,Nat.reduceLeDiff,Q29,Nat.reduceSub,Q30,Q31,Q32,sc,Q33,Q34,Q35,Q36,Q37,Q26,Q38,Q39,zel,zei,zef,zem,zbt,zej,zeg,zek,zeh,zbs,zbu,zen,zeo,Bool.not_true,Bool.not_false,List.length_map,zeM,zhu,zeG,zaB,a]; rfl) : P := (e a).mpr h
theorem zty {σ : List zf} {id m t : Nat} {l : List (List UInt8)} {b : List UInt8} (hT : zcu σ id m t l) (hbl : b.length ≤ 1073741824) (hll : l.length ≤ 1048576) {K : AV → List zf → Prop}
  (hK : K (.d (.int .i64 (zed l b))) (putTab σ id m t (zfk l b))) : zL Tryz.prog zbJ [.box id 0, .d (.slice (bcs b))] σ K := by
 refine zj ziN.is rfl fun hl _ => ziN.goes ?_
 have hb := hT.box
 have hm := hT.map
 have ht := hT.tok
 have hf := mfind_tab l b
 obtain ⟨n1,n2,n3⟩ := hT.ne
 have hlen : (zcU l).length = l.length := List.length_map ..
 simp only [zjd,iN,bT,bF,eN]
 (repeat' first | refine gq1 ?_ | with_reducible first | exact ⟨⟩ | refine zh ?_ | fail)
 refine zuN hT ?_
 cases ho : zdD l b with
 | some k =>
  rw [ho] at hf
  simp only [zed,zfk,ho] at hK
  rw [hT.self] at hK
  simp only [Option.map_some] at hf
  (repeat' first | refine gq3 (zd hb (zd hm hf)) ?_ | with_reducible first | exact ⟨⟩ | refine zh ?_ | fail)
  (first | refine zao hl ?_ | refine zan hl ?_)
  exact hK
 | none =>
  rw [ho] at hf
  simp only [zed,zfk,ho] at hK
  simp only [Option.map_none] at hf
  by_cases hfull : l.length ≥ 1048576
  ·rw [if_pos hfull,if_pos hfull,hT.self] at hK
   have hd : decide ((l.length : Int) ≥ 1048576) = true := by simp; omega
   (repeat' first | refine gq3 (zd hb (zd hm (zd hf (zd hlen hd)))) ?_ | with_reducible first | exact ⟨⟩ | refine zh ?_ | fail)
   (first | refine zao hl ?_ | refine zan hl ?_)
   exact hK
  ·rw [if_neg hfull,if_neg hfull] at hK
   have hd : decide ((l.length : Int) ≥ 1048576) = false := by simp; omega
   have g1 : ∀ τ,(σ ++ τ)[id]? = some (.box [.own t (zcU l), .map m]) := fun τ => zg hb
   have g2 : ∀ τ,(σ ++ τ)[t]? = some (.tok 1 l.length) := fun τ => zg ht
   have s1 : ∀ X τ,(σ ++ τ).set t X = σ.set t X ++ τ := fun X τ => zbE ht
   have hb' : ∀ X,(σ.set t X)[id]? = some (.box [.own t (zcU l), .map m]) := fun X => by rw [List.getElem?_set_ne (Ne.symm n2)]; exact hb
   have g3 : ∀ X τ,(σ.set t X ++ τ)[id]? = some (.box [.own t (zcU l), .map m]) := fun X τ => zg (hb' X)
   have s2 : ∀ X Y τ,(σ.set t X ++ τ).set id Y = (σ.set t X).set id Y ++ τ := fun X Y τ => zbE (hb' X)
   have g4 : ∀ X Y τ,((σ.set t X).set id Y ++ τ)[id]? = some Y := fun X Y τ => zg (zbn (hb' X))
   have hm' : ∀ X Y,((σ.set t X).set id Y)[m]? = some (.map (tabM l)) := fun X Y => by rw [List.getElem?_set_ne n1,List.getElem?_set_ne (Ne.symm n3)]; exact hm
   have g5 : ∀ X Y τ,((σ.set t X).set id Y ++ τ)[m]? = some (.map (tabM l)) := fun X Y τ => zg (hm' X Y)
   have s3 : ∀ X Y Z τ,((σ.set t X).set id Y ++ τ).set m Z = ((σ.set t X).set id Y).set m Z ++ τ := fun X Y Z τ => zbE (hm' X Y)
   (repeat' first | refine gq3 (zd hb (zd hm (zd hf (zd hlen hd)))) ?_ | with_reducible first | exact ⟨⟩ | refine zh ?_ | fail)
   refine zuZ zgi (by rw [zeM]; omega) ?_
   (repeat' first | refine gq5 (zd g1 (zd g2 (zd s1 (zd g3 (zd s2 (zd g4 (zd g5 (zd s3 (zd hf hlen))))))))) ?_ | with_reducible first | exact ⟨⟩ | refine zh ?_ | fail)
   refine ⟨hb.symm,by simp,by omega, ?_⟩
   have e : putTab σ id m t (l ++ [b]) = ((σ.set t (zf.tok 1 (l.length + 1))).set id (zf.box [AV.own t (zcU l ++ [[D.slice (bcs b)]]),AV.map m])).set m (zf.map (tabM l ++ [(AV.d (D.str b),AV.d (D.int IntKind.i64 ((l.length + 1 : Nat) : Int)))])) := by
    simp [putTab,tabM_add,zcU]
    rw [← tabM_add]; simp
   rw [← e]
   exact zda (zcm ..) (by simp [zdj,dmT,dm,dm1,zbV]) (hT.lows hl _) hK
end Go.Proofs.YtncpaekiidpchaaGreat

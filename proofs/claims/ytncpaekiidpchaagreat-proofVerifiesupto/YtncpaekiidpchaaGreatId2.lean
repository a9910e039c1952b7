/- Contracts: the program's tables and ledgers. -/
import Derived.Test.YtncpaekiidpchaaGreatSpTab
set_option linter.all false
set_option maxRecDepth 100000
namespace Go.Proofs.YtncpaekiidpchaaGreat
open Go.AW
theorem gq1 {P Q : Prop} (h : Q) (e : P = Q := by simp -dsimp only [↓zen, ↓zaw, ↓zba, ↓zeo, ↓zej, ↓zeh, ↓zek, ↓zei, ↓zbf, ↓zbb, ↓zbg, ↓zbc, ↓zel, ↓zaZ, ↓zbh, ↓zbd, ↓zbi, ↓zbe, ↓zeg, ↓zem, ↓zaY, ↓zbj, ↓zee, ↓zed, ↓zef,iN,bT,bF,eN, ↓zcI, ↓unC, ↓zV, ↓zJ, ↓zK, ↓zN, ↓zaa, ↓zas, ↓zbH, ↓zah, ↓zaV, ↓zQ, ↓zp, ↓zo, ↓zbr, ↓zk, ↓zag, ↓zG, ↓zaB, ↓zaF, ↓ze, ↓zE, ↓zr, ↓zw, ↓zam, ↓zcs, ↓zcM, ↓zak, ↓zat, ↓zaE, ↓zaJ, ↓zaP, ↓zu, ↓zai, ↓zL, ↓zA, ↓zab,zcT,zaU,zaT,unA,zcW,bnd,zds,zae,zR,zdv,dm,dm1,zC,zaj,zdH,zdG,zM,Q0,Q1,Q2,Q3,Q4,Q5,zT,zq,zx,zO,zI,Q6,Q7,Q8,Q9,Q10,Q11,Q12,Q13,Q14,Nat.reduceAdd,Q15,Int.reduceToNat,Q16,Q17,Q18,Q19,Q20,reduceIte,Q21,Q22,zF,rep,zY,zdD,toD,zad,Q23,Q24,Q25,Q26,Q27,Q28,Nat.reduceLeDiff,Q29,Nat.reduceSub,Q30,Q31,Q32,sc,Q33,Q34,Q35,Q36,Q37,Q26,Q38,Q39,zfZ,zfW,zfT,zga,zbR,zfX,zfU,zfY,zfV,zbQ,zbS,zgb,zgc,Bool.not_true,Bool.not_false,List.length_map]; rfl) : P := e.mpr h
theorem zuB {σ : List zh} {K : KT} (hK : K (.box (σ.length + 1) 0) (σ ++ tabO σ.length [])) : zy Tryz.prog zeD [] σ K := by
 refine zy.weaken ?_
 refine zcm zkw.is rfl (fun s => List.range' σ.length 2) fun hl _ => zkw.goes ?_
 simp only [zkK,iN,bT,bF,eN]
 (repeat' first | refine gq1 ?_ | with_reducible first | exact ⟨⟩ | refine zg ?_ | fail)
 refine zfg (σ' := σ) (os := [.map [], .box [.exact [], .map σ.length]]) rfl rfl hl ?_ (.box _ _ (by simp)) ?_
 ·intro x hx
  simp only [List.mem_cons,List.not_mem_nil,or_false] at hx
  rcases hx with rfl | rfl
  ·intro e he; cases he
  ·intro c hc
   simp only [List.mem_cons,List.not_mem_nil,or_false] at hc
   rcases hc with rfl | rfl
   ·exact .exact _
   ·exact .map _ (by simp)
 ·refine ⟨.box (σ.length + 1) 0, σ ++ tabO σ.length [], ?_,hK⟩
  refine .tokB (σ.length + 1) 0 [.exact [], .map σ.length] [] 1 (by rw [zq]; rfl) rfl (by simp) ?_
  have e : (σ ++ [zh.map [],zh.box [AV.exact [],AV.map σ.length]]).set (σ.length + 1) (.box ([AV.exact [],AV.map σ.length].set 0 (.own (σ ++ [zh.map [],zh.box [AV.exact [],AV.map σ.length]]).length []))) ++ [.tok 1 0] = σ ++ tabO σ.length [] := by
   rw [zO]; simp [tabO]; rfl
  rw [List.length_nil,e]
  exact .refl _ _
theorem zsu {σ : List zh} {K : KT} (hK : K (.box (σ.length + 1) 0) (σ ++ ledO σ.length [])) : zy Tryz.prog zdY [] σ K := by
 refine zy.weaken ?_
 refine zcm zjr.is rfl (fun s => List.range' σ.length 2) fun hl _ => zjr.goes ?_
 simp only [zjG,iN,bT,bF,eN]
 (repeat' first | refine gq1 ?_ | with_reducible first | exact ⟨⟩ | refine zg ?_ | fail)
 refine zfg (σ' := σ) (os := [.map [], .box [.exact [], .map σ.length]]) rfl rfl hl ?_ (.box _ _ (by simp)) ?_
 ·intro x hx
  simp only [List.mem_cons,List.not_mem_nil,or_false] at hx
  rcases hx with rfl | rfl
  ·intro e he; cases he
  ·intro c hc
   simp only [List.mem_cons,List.not_mem_nil,or_false] at hc
   rcases hc with rfl | rfl
   ·exact .exact _
   ·exact .map _ (by simp)
 ·refine ⟨.box (σ.length + 1) 0, σ ++ ledO σ.length [], ?_,hK⟩
  refine .tokB (σ.length + 1) 0 [.exact [], .map σ.length] [] 2 (by rw [zq]; rfl) rfl (by simp) ?_
  have e : (σ ++ [zh.map [],zh.box [AV.exact [],AV.map σ.length]]).set (σ.length + 1) (.box ([AV.exact [],AV.map σ.length].set 0 (.own (σ ++ [zh.map [],zh.box [AV.exact [],AV.map σ.length]]).length []))) ++ [.tok 2 0] = σ ++ ledO σ.length [] := by
   rw [zO]; simp [ledO]; rfl
  rw [List.length_nil,e]
  exact .refl _ _
theorem gq2 {A P Q : Prop} (a : A) (h : Q) (e : A → P = Q := by intro a; simp -dsimp only [↓zen, ↓zaw, ↓zba, ↓zeo, ↓zej, ↓zeh, ↓zek, ↓zei, ↓zbf, ↓zbb, ↓zbg, ↓zbc, ↓zel, ↓zaZ, ↓zbh, ↓zbd, ↓zbi, ↓zbe, ↓zeg, ↓zem, ↓zaY, ↓zbj, ↓zee, ↓zed, ↓zef,iN,bT,bF,eN, ↓zcI, ↓unC, ↓zV, ↓zJ, ↓zK, ↓zN, ↓zaa, ↓zas, ↓zbH, ↓zah, ↓zaV, ↓zQ, ↓zp, ↓zo, ↓zbr, ↓zk, ↓zag, ↓zG, ↓zaB, ↓zaF, ↓ze, ↓zE, ↓zr, ↓zw, ↓zam, ↓zcs, ↓zcM, ↓zak, ↓zat, ↓zaE, ↓zaJ, ↓zaP, ↓zu, ↓zai, ↓zL, ↓zA, ↓zab,zcT,zaU,zaT,unA,zcW,bnd,zds,zae,zR,zdv,dm,dm1,zC,zaj,zdH,zdG,zM,Q0,Q1,Q2,Q3,Q4,Q5,zT,zq,zx,zO,zI,Q6,Q7,Q8,Q9,Q10,Q11,Q12,Q13,Q14,Nat.reduceAdd,Q15,Int.reduceToNat,Q16,Q17,Q18,Q19,Q20,reduceIte,Q21,Q22,zF,rep,zY,zdD,toD,zad,Q23,Q24,Q25,Q26,Q27,Q28,Nat.reduceLeDiff,Q29,Nat.reduceSub,Q30,Q31,Q32,sc,Q33,Q34,Q35,Q36,Q37,Q26,Q38,Q39,zfZ,zfW,zfT,zga,zbR,zfX,zfU,zfY,zfV,zbQ,zbS,zgb,zgc,Bool.not_true,Bool.not_false,List.length_map,a]; rfl) : P := (e a).mpr h
theorem zvA {σ : List zh} {id m t : Nat} {l : List (List UInt8)} (hT : zcq σ id m t l) {K : KT} (hK : K (.d (.bool false)) σ) : zy Tryz.prog zbW [.box id 0] σ K := by
 refine zi zis.is rfl fun hl _ => zis.goes ?_
 have hb := hT.box
 simp only [ziC,iN,bT,bF,eN]
 (repeat' first | refine gq2 hb ?_ | with_reducible first | exact ⟨⟩ | refine zg ?_ | fail)
 (first | refine zX hl ?_ | refine zW hl ?_)
 exact hK
theorem zvJ {σ : List zh} {id m t : Nat} {g : List zS} (hG : zev σ id m t g) {K : KT} (hK : K (.d (.bool false)) σ) : zy Tryz.prog zbJ [.box id 0] σ K := by
 refine zi zhJ.is rfl fun hl _ => zhJ.goes ?_
 have hb := hG.box
 simp only [zhX,iN,bT,bF,eN]
 (repeat' first | refine gq2 hb ?_ | with_reducible first | exact ⟨⟩ | refine zg ?_ | fail)
 (first | refine zX hl ?_ | refine zW hl ?_)
 exact hK
theorem zc {A B : Prop} (a : A) (b : B) : A ∧ B := ⟨a,b⟩
theorem gq3 {A P Q : Prop} (a : A) (h : Q) (e : A → P = Q := by intro a; simp -dsimp only [↓zen, ↓zaw, ↓zba, ↓zeo, ↓zej, ↓zeh, ↓zek, ↓zei, ↓zbf, ↓zbb, ↓zbg, ↓zbc, ↓zel, ↓zaZ, ↓zbh, ↓zbd, ↓zbi, ↓zbe, ↓zeg, ↓zem, ↓zaY, ↓zbj, ↓zee, ↓zed, ↓zef,iN,bT,bF,eN, ↓zcI, ↓unC, ↓zV, ↓zJ, ↓zK, ↓zN, ↓zaa, ↓zas, ↓zbH, ↓zah, ↓zaV, ↓zQ, ↓zp, ↓zo, ↓zbr, ↓zk, ↓zag, ↓zG, ↓zaB, ↓zaF, ↓ze, ↓zE, ↓zr, ↓zw, ↓zam, ↓zcs, ↓zcM, ↓zak, ↓zat, ↓zaE, ↓zaJ, ↓zaP, ↓zu, ↓zai, ↓zL, ↓zA, ↓zab,zcT,zaU,zaT,unA,zcW,bnd,zds,zae,zR,zdv,dm,dm1,zC,zaj,zdH,zdG,zM,Q0,Q1,Q2,Q3,Q4,Q5,zT,zq,zx,zO,zI,Q6,Q7,Q8,Q9,Q10,Q11,Q12,Q13,Q14,Nat.reduceAdd,Q15,Int.reduceToNat,Q16,Q17,Q18,Q19,Q20,reduceIte,Q21,Q22,zF,rep,zY,zdD,toD,zad,Q23,Q24,Q25,Q26,Q27,Q28,Nat.reduceLeDiff,Q29,Nat.reduceSub,Q30,Q31,Q32,sc,Q33,Q34,Q35,Q36,Q37,Q26,Q38,Q39,zfZ,zfW,zfT,zga,zbR,zfX,zfU,zfY,zfV,zbQ,zbS,zgb,zgc,Bool.not_true,Bool.not_false,List.length_map,znv,zeA,zeR,zaE,mgetR,a]; rfl) : P := (e a).mpr h
theorem znu {σ : List zh} {id m t : Nat} {l : List (List UInt8)} {b : List UInt8} (hT : zcq σ id m t l) {K : KT} (hK : K (.tup [.d (.int .i64 (zlb (zcX l b))), .d (.bool (zcX l b).isSome)]) σ) :
  zy Tryz.prog zaN [.box id 0, .d (.slice (bcs b))] σ K := by
 refine zi zit.is rfl fun hl _ => zit.goes ?_
 have hb := hT.box
 have hm := hT.map
 have hf := mfind_tab l b
 simp only [ziD,iN,bT,bF,eN]
 (repeat' first | refine gq1 ?_ | with_reducible first | exact ⟨⟩ | refine zg ?_ | fail)
 refine zvA hT ?_
 cases ho : zcX l b with
 | none =>
  rw [ho] at hf hK
  simp only [Option.map_none] at hf
  (repeat' first | refine gq3 (zc hb (zc hm hf)) ?_ | with_reducible first | exact ⟨⟩ | refine zg ?_ | fail)
  (first | refine zX hl ?_ | refine zW hl ?_)
  exact hK
 | some k =>
  rw [ho] at hf hK
  simp only [Option.map_some] at hf
  (repeat' first | refine gq3 (zc hb (zc hm hf)) ?_ | with_reducible first | exact ⟨⟩ | refine zg ?_ | fail)
  (first | refine zX hl ?_ | refine zW hl ?_)
  exact hK
theorem c_tLen {σ : List zh} {id m t : Nat} {l : List (List UInt8)} (hT : zcq σ id m t l) {K : KT} (hK : K (.d (.int .i64 l.length)) σ) : zy Tryz.prog zbI [.box id 0] σ K := by
 refine zi zjq.is rfl fun hl _ => zjq.goes ?_
 have hb := hT.box
 simp only [zjF,iN,bT,bF,eN]
 (repeat' first | refine gq1 ?_ | with_reducible first | exact ⟨⟩ | refine zg ?_ | fail)
 refine zvA hT ?_
 (repeat' first | refine gq2 hb ?_ | with_reducible first | exact ⟨⟩ | refine zg ?_ | fail)
 (first | refine zX hl ?_ | refine zW hl ?_)
 exact hK
theorem c_gLen {σ : List zh} {id m t : Nat} {g : List zS} (hG : zev σ id m t g) {K : KT} (hK : K (.d (.int .i64 g.length)) σ) : zy Tryz.prog zbX [.box id 0] σ K := by
 refine zi ziu.is rfl fun hl _ => ziu.goes ?_
 have hb := hG.box
 simp only [ziE,iN,bT,bF,eN]
 (repeat' first | refine gq1 ?_ | with_reducible first | exact ⟨⟩ | refine zg ?_ | fail)
 refine zvJ hG ?_
 (repeat' first | refine gq2 hb ?_ | with_reducible first | exact ⟨⟩ | refine zg ?_ | fail)
 (first | refine zX hl ?_ | refine zW hl ?_)
 exact hK
theorem gq4 {A P Q : Prop} (a : A) (h : Q) (e : A → P = Q := by intro a; simp -dsimp only [↓zen, ↓zaw, ↓zba, ↓zeo, ↓zej, ↓zeh, ↓zek, ↓zei, ↓zbf, ↓zbb, ↓zbg, ↓zbc, ↓zel, ↓zaZ, ↓zbh, ↓zbd, ↓zbi, ↓zbe, ↓zeg, ↓zem, ↓zaY, ↓zbj, ↓zee, ↓zed, ↓zef,iN,bT,bF,eN, ↓zcI, ↓unC, ↓zV, ↓zJ, ↓zK, ↓zN, ↓zaa, ↓zas, ↓zbH, ↓zah, ↓zaV, ↓zQ, ↓zp, ↓zo, ↓zbr, ↓zk, ↓zag, ↓zG, ↓zaB, ↓zaF, ↓ze, ↓zE, ↓zr, ↓zw, ↓zam, ↓zcs, ↓zcM, ↓zak, ↓zat, ↓zaE, ↓zaJ, ↓zaP, ↓zu, ↓zai, ↓zL, ↓zA, ↓zab,zcT,zaU,zaT,unA,zcW,bnd,zds,zae,zR,zdv,dm,dm1,zC,zaj,zdH,zdG,zM,Q0,Q1,Q2,Q3,Q4,Q5,zT,zq,zx,zO,zI,Q6,Q7,Q8,Q9,Q10,Q11,Q12,Q13,Q14,Nat.reduceAdd,Q15,Int.reduceToNat,Q16,Q17,Q18,Q19,Q20,reduceIte,Q21,Q22,zF,rep,zY,zdD,toD,zad,Q23,Q24,Q25,Q26,Q27,Q28,Nat.reduceLeDiff,Q29,Nat.reduceSub,Q30,Q31,Q32,sc,Q33,Q34,Q35,Q36,Q37,Q26,Q38,Q39,zfZ,zfW,zfT,zga,zbR,zfX,zfU,zfY,zfV,zbQ,zbS,zgb,zgc,Bool.not_true,Bool.not_false,List.length_map,zeA,zda,zeR,zaE,mgetR,a]; rfl) : P := (e a).mpr h
theorem c_gSigned {σ : List zh} {id m t : Nat} {g : List zS} {s : zS} (hG : zev σ id m t g) {K : KT} (hK : K (.d (.bool (decide (s ∈ g)))) σ) :
  zy Tryz.prog zdQ [.box id 0, .agg [.d (.int .i64 s.key), .d (.int .i64 s.dig)]] σ K := by
 refine zi zgg.is rfl fun hl _ => zgg.goes ?_
 have hb : ∀ τ,(σ ++ τ)[id]? = _ := fun τ => zf hG.box
 have hm : ∀ τ,(σ ++ τ)[m]? = _ := fun τ => zf hG.map
 simp only [zgl,iN,bT,bF,eN]
 (repeat' first | refine gq1 ?_ | with_reducible first | exact ⟨⟩ | refine zg ?_ | fail)
 refine zvJ (hG.app _) ?_
 by_cases hs : s ∈ g
 ·obtain ⟨k,hf⟩ := znO hs
  rw [decide_eq_true hs] at hK
  (repeat' first | refine gq4 (zc hb (zc hm hf)) ?_ | with_reducible first | exact ⟨⟩ | refine zg ?_ | fail)
  (first | refine zX hl ?_ | refine zW hl ?_)
  exact hK
 ·have hf := zpR hs
  rw [decide_eq_false hs] at hK
  (repeat' first | refine gq4 (zc hb (zc hm hf)) ?_ | with_reducible first | exact ⟨⟩ | refine zg ?_ | fail)
  (first | refine zX hl ?_ | refine zW hl ?_)
  exact hK
theorem gq5 {A P Q : Prop} (a : A) (h : Q) (e : A → P = Q := by intro a; simp -dsimp only [↓zen, ↓zaw, ↓zba, ↓zeo, ↓zej, ↓zeh, ↓zek, ↓zei, ↓zbf, ↓zbb, ↓zbg, ↓zbc, ↓zel, ↓zaZ, ↓zbh, ↓zbd, ↓zbi, ↓zbe, ↓zeg, ↓zem, ↓zaY, ↓zbj, ↓zee, ↓zed, ↓zef,iN,bT,bF,eN, ↓zcI, ↓unC, ↓zV, ↓zJ, ↓zK, ↓zN, ↓zaa, ↓zas, ↓zbH, ↓zah, ↓zaV, ↓zQ, ↓zp, ↓zo, ↓zbr, ↓zk, ↓zag, ↓zG, ↓zaB, ↓zaF, ↓ze, ↓zE, ↓zr, ↓zw, ↓zam, ↓zcs, ↓zcM, ↓zak, ↓zat, ↓zaE, ↓zaJ, ↓zaP, ↓zu, ↓zai, ↓zL, ↓zA, ↓zab,zcT,zaU,zaT,unA,zcW,bnd,zds,zae,zR,zdv,dm,dm1,zC,zaj,zdH,zdG,zM,Q0,Q1,Q2,Q3,Q4,Q5,zT,zq,zx,zO,zI,Q6,Q7,Q8,Q9,Q10,Q11,Q12,Q13,Q14,Nat.reduceAdd,Q15,Int.reduceToNat,Q16,Q17,Q18,Q19,Q20,reduceIte,Q21,Q22,zF,rep,zY,zdD,toD,zad,Q23,Q24,Q25,Q26,Q27,Q28,Nat.reduceLeDiff,Q29,Nat.reduceSub,Q30,Q31,Q32,sc,Q33,Q34,Q35,Q36,Q37,Q26,Q38,Q39,zfZ,zfW,zfT,zga,zbR,zfX,zfU,zfY,zfV,zbQ,zbS,zgb,zgc,Bool.not_true,Bool.not_false,List.length_map,zea,znv,zeR,zaJ,a]; rfl) : P := (e a).mpr h
theorem zso {σ : List zh} {id m t : Nat} {l : List (List UInt8)} {b : List UInt8} (hT : zcq σ id m t l) (hbl : b.length ≤ 1073741824) (hll : l.length ≤ 1048576) {K : KT}
  (hK : K (.d (.int .i64 (zew l b))) (putTab σ id m t (zfo l b))) : zy Tryz.prog zbx [.box id 0, .d (.slice (bcs b))] σ K := by
 refine zi zjp.is rfl fun hl _ => zjp.goes ?_
 have hb := hT.box
 have hm := hT.map
 have ht := hT.tok
 have hf := mfind_tab l b
 obtain ⟨n1,n2,n3⟩ := hT.ne
 have hlen : (zcy l).length = l.length := List.length_map ..
 simp only [zjE,iN,bT,bF,eN]
 (repeat' first | refine gq1 ?_ | with_reducible first | exact ⟨⟩ | refine zg ?_ | fail)
 refine zvA hT ?_
 cases ho : zcX l b with
 | some k =>
  rw [ho] at hf
  simp only [zew,zfo,ho] at hK
  rw [hT.self] at hK
  simp only [Option.map_some] at hf
  (repeat' first | refine gq3 (zc hb (zc hm hf)) ?_ | with_reducible first | exact ⟨⟩ | refine zg ?_ | fail)
  (first | refine zX hl ?_ | refine zW hl ?_)
  exact hK
 | none =>
  rw [ho] at hf
  simp only [zew,zfo,ho] at hK
  simp only [Option.map_none] at hf
  by_cases hfull : l.length ≥ 1048576
  ·rw [if_pos hfull,if_pos hfull,hT.self] at hK
   have hd : decide ((l.length : Int) ≥ 1048576) = true := by simp; omega
   (repeat' first | refine gq3 (zc hb (zc hm (zc hf (zc hlen hd)))) ?_ | with_reducible first | exact ⟨⟩ | refine zg ?_ | fail)
   (first | refine zX hl ?_ | refine zW hl ?_)
   exact hK
  ·rw [if_neg hfull,if_neg hfull] at hK
   have hd : decide ((l.length : Int) ≥ 1048576) = false := by simp; omega
   have g1 : ∀ τ,(σ ++ τ)[id]? = some (.box [.own t (zcy l), .map m]) := fun τ => zf hb
   have g2 : ∀ τ,(σ ++ τ)[t]? = some (.tok 1 l.length) := fun τ => zf ht
   have s1 : ∀ X τ,(σ ++ τ).set t X = σ.set t X ++ τ := fun X τ => zbD ht
   have hb' : ∀ X,(σ.set t X)[id]? = some (.box [.own t (zcy l), .map m]) := fun X => by rw [List.getElem?_set_ne (Ne.symm n2)]; exact hb
   have g3 : ∀ X τ,(σ.set t X ++ τ)[id]? = some (.box [.own t (zcy l), .map m]) := fun X τ => zf (hb' X)
   have s2 : ∀ X Y τ,(σ.set t X ++ τ).set id Y = (σ.set t X).set id Y ++ τ := fun X Y τ => zbD (hb' X)
   have g4 : ∀ X Y τ,((σ.set t X).set id Y ++ τ)[id]? = some Y := fun X Y τ => zf (zbm (hb' X))
   have hm' : ∀ X Y,((σ.set t X).set id Y)[m]? = some (.map (tabM l)) := fun X Y => by rw [List.getElem?_set_ne n1,List.getElem?_set_ne (Ne.symm n3)]; exact hm
   have g5 : ∀ X Y τ,((σ.set t X).set id Y ++ τ)[m]? = some (.map (tabM l)) := fun X Y τ => zf (hm' X Y)
   have s3 : ∀ X Y Z τ,((σ.set t X).set id Y ++ τ).set m Z = ((σ.set t X).set id Y).set m Z ++ τ := fun X Y Z τ => zbD (hm' X Y)
   (repeat' first | refine gq3 (zc hb (zc hm (zc hf (zc hlen hd)))) ?_ | with_reducible first | exact ⟨⟩ | refine zg ?_ | fail)
   refine zvK zgv (by rw [zea]; omega) ?_
   (repeat' first | refine gq5 (zc g1 (zc g2 (zc s1 (zc g3 (zc s2 (zc g4 (zc g5 (zc s3 (zc hf hlen))))))))) ?_ | with_reducible first | exact ⟨⟩ | refine zg ?_ | fail)
   refine ⟨hb.symm,by simp,by omega, ?_⟩
   have e : putTab σ id m t (l ++ [b]) = ((σ.set t (zh.tok 1 (l.length + 1))).set id (zh.box [AV.own t (zcy l ++ [[D.slice (bcs b)]]),AV.map m])).set m (zh.map (tabM l ++ [(AV.d (D.str b),AV.d (D.int IntKind.i64 ((l.length + 1 : Nat) : Int)))])) := by
    simp [putTab,tabM_add,zcy]
    rw [← tabM_add]; simp
   rw [← e]
   exact zcN (zcv ..) (by simp [zcZ,dmT,dm,dm1,zcf]) (hT.lows hl _) hK
end Go.Proofs.YtncpaekiidpchaaGreat

/- Contracts: a ledger signs; a table's clone; whether both were made. -/
set_option maxRecDepth 100000
namespace Go.Proofs.YtncpaekiidpchaaGreat
open Go.AW
def zvd (s : zS) : AV := .agg [.d (.int .i64 s.key), .d (.int .i64 s.dig)]
def signR (k d : Int) : zS := if zeW k d = 0 then ⟨k,d⟩ else ⟨0, 0⟩
def zgT (g : List zS) (k d : Int) : List zS := if zeW k d = 0 then zsW g ⟨k,d⟩ else g
theorem gq6 {A P Q : Prop} (a : A) (h : Q) (e : A → P = Q := by intro a; simp -dsimp only [↓zen, ↓zaw, ↓zba, ↓zeo, ↓zej, ↓zeh, ↓zek, ↓zei, ↓zbf, ↓zbb, ↓zbg, ↓zbc, ↓zel, ↓zaZ, ↓zbh, ↓zbd, ↓zbi, ↓zbe, ↓zeg, ↓zem, ↓zaY, ↓zbj, ↓zee, ↓zed, ↓zef,iN,bT,bF,eN, ↓zcI, ↓unC, ↓zV, ↓zJ, ↓zK, ↓zN, ↓zaa, ↓zas, ↓zbH, ↓zah, ↓zaV, ↓zQ, ↓zp, ↓zo, ↓zbr, ↓zk, ↓zag, ↓zG, ↓zaB, ↓zaF, ↓ze, ↓zE, ↓zr, ↓zw, ↓zam, ↓zcs, ↓zcM, ↓zak, ↓zat, ↓zaE, ↓zaJ, ↓zaP, ↓zu, ↓zai, ↓zL, ↓zA, ↓zab,zcT,zaU,zaT,unA,zcW,bnd,zds,zae,zR,zdv,dm,dm1,zC,zaj,zdH,zdG,zM,Q0,Q1,Q2,Q3,Q4,Q5,zT,zq,zx,zO,zI,Q6,Q7,Q8,Q9,Q10,Q11,Q12,Q13,Q14,Nat.reduceAdd,Q15,Int.reduceToNat,Q16,Q17,Q18,Q19,Q20,reduceIte,Q21,Q22,zF,rep,zY,zdD,toD,zad,Q23,Q24,Q25,Q26,Q27,Q28,Nat.reduceLeDiff,Q29,Nat.reduceSub,Q30,Q31,Q32,sc,Q33,Q34,Q35,Q36,Q37,Q26,Q38,Q39,zfZ,zfW,zfT,zga,zbR,zfX,zfU,zfY,zfV,zbQ,zbS,zgb,zgc,Bool.not_true,Bool.not_false,List.length_map,zeA,zda,zeR,zaE,mgetR,zaJ,a]; rfl) : P := (e a).mpr h
theorem c_gSign {σ : List zh} {id m t : Nat} {g : List zS} {k d : Int} (hG : zev σ id m t g) (hgl : g.length ≤ 1073741824) {K : KT}
  (hK : K (.tup [zvd (signR k d), .d (.int .i64 (zeW k d))]) (putLed σ id m t (zgT g k d))) : zy Tryz.prog zdj [.box id 0, .d (.int .i64 k), .d (.int .i64 d)] σ K := by
 refine zi zhK.is rfl fun hl _ => zhK.goes ?_
 have hb : ∀ τ,(σ ++ τ)[id]? = some (.box [.own t (zoQ g), .map m]) := fun τ => zf hG.box
 have hm : ∀ τ,(σ ++ τ)[m]? = some (.map (zte g)) := fun τ => zf hG.map
 obtain ⟨n1,n2,n3⟩ := hG.ne
 have hlen : (zoQ g).length = g.length := List.length_map ..
 have bad : zeW k d ≠ 0 → K (.tup [.agg [.d (.int .i64 0), .d (.int .i64 0)], .d (.int .i64 (zeW k d))]) σ := fun h => by
  rw [signR,zgT,if_neg h,if_neg h,hG.self] at hK
  exact hK
 simp only [zhY,iN,bT,bF,eN]
 (repeat' first | refine gq1 ?_ | with_reducible first | exact ⟨⟩ | refine zg ?_ | fail)
 refine zvJ (hG.app _) ?_
 cases h1 : decide (k < 0)
 ·cases h2 : decide (k ≥ 21)
  ·have hk : ¬ (k < 0 ∨ k ≥ 21) := by simp at h1 h2; omega
   cases h3 : decide (d < 1)
   ·have he : zeW k d = 0 := by rw [zeW,if_neg hk,if_neg (by simpa using h3)]
    rw [he,signR,zgT,if_pos he,if_pos he] at hK
    by_cases hs : (⟨k,d⟩ : zS) ∈ g
    ·obtain ⟨j,hf⟩ := znO hs
     simp only at hf
     rw [zsW,if_pos hs,hG.self] at hK
     (repeat' first | refine gq4 (zc h1 (zc h2 (zc h3 (zc hb (zc hm hf))))) ?_ | with_reducible first | exact ⟨⟩ | refine zg ?_ | fail)
     (first | refine zX hl ?_ | refine zW hl ?_)
     exact hK
    ·have hf := zpR hs
     simp only at hf
     rw [zsW,if_neg hs] at hK
     have hmm : σ[m]? = some (.map (zte g)) := hG.map
     have s1 : ∀ X τ,(σ ++ τ).set m X = σ.set m X ++ τ := fun X τ => zbD hG.map
     have hb' : ∀ X,(σ.set m X)[id]? = some (.box [.own t (zoQ g), .map m]) := fun X => by rw [List.getElem?_set_ne (Ne.symm n1)]; exact hG.box
     have ht' : ∀ X,(σ.set m X)[t]? = some (.tok 2 g.length) := fun X => by rw [List.getElem?_set_ne n3]; exact hG.tok
     have g3 : ∀ X τ,(σ.set m X ++ τ)[id]? = some (.box [.own t (zoQ g), .map m]) := fun X τ => zf (hb' X)
     have g4 : ∀ X τ,(σ.set m X ++ τ)[t]? = some (.tok 2 g.length) := fun X τ => zf (ht' X)
     have s2 : ∀ X Y τ,(σ.set m X ++ τ).set t Y = (σ.set m X).set t Y ++ τ := fun X Y τ => zbD (ht' X)
     have hb2 : ∀ X Y,((σ.set m X).set t Y)[id]? = some (.box [.own t (zoQ g), .map m]) := fun X Y => by rw [List.getElem?_set_ne (Ne.symm n2)]; exact hb' X
     have s3 : ∀ X Y Z τ,((σ.set m X).set t Y ++ τ).set id Z = ((σ.set m X).set t Y).set id Z ++ τ := fun X Y Z τ => zbD (hb2 X Y)
     have g5 : ∀ X Y τ,((σ.set m X).set t Y ++ τ)[id]? = some (.box [.own t (zoQ g), .map m]) := fun X Y τ => zf (hb2 X Y)
     have L1 : ∀ X : zh, σ.length = (σ.set m X).length := fun X => by simp
     have L2 : ∀ X Y : zh, σ.length = ((σ.set m X).set t Y).length := fun X Y => by simp
     have L3 : ∀ X Y Z : zh, σ.length = (((σ.set m X).set t Y).set id Z).length := fun X Y Z => by simp
     have e1 : ∀ X τ n,(σ.set m X ++ τ)[σ.length + n]? = τ[n]? := fun X τ n => by rw [L1 X]; exact zq ..
     have e2 : ∀ X Y Z τ n,(((σ.set m X).set t Y).set id Z ++ τ)[σ.length + n]? = τ[n]? := fun X Y Z τ n => by rw [L3 X Y Z]; exact zq ..
     have e3 : ∀ X Y Z τ W,(((σ.set m X).set t Y).set id Z ++ τ).set σ.length W = ((σ.set m X).set t Y).set id Z ++ τ.set 0 W := fun X Y Z τ W => by rw [L3 X Y Z]; exact zI ..
     have e4 : ∀ X Y Z τ,(((σ.set m X).set t Y).set id Z ++ τ)[σ.length]? = τ[0]? := fun X Y Z τ => by rw [L3 X Y Z]; exact zx ..
     (repeat' first | refine gq6 (zc h1 (zc h2 (zc h3 (zc hb (zc hm (zc hf (zc s1 (zc g3 (zc g4 (zc s2 (zc s3 (zc g5 (zc e1 (zc e2 (zc e3 (zc e4 hlen)))))))))))))))) ?_ | with_reducible first | exact ⟨⟩ | refine zg ?_ | fail)
     have e : putLed σ id m t (g ++ [⟨k,d⟩]) = (((σ.set m (zh.map (zte g ++ [(AV.agg [AV.d (D.int IntKind.i64 k),AV.d (D.int IntKind.i64 d)],AV.d (D.bool true))]))).set t (zh.tok 2 (g.length + 1))).set id (zh.box [AV.own t (zoQ g ++ [[D.int IntKind.i64 k,D.int IntKind.i64 d]]),AV.map m])) := by
      rw [ledM_add g ⟨k,d⟩]
      simp [putLed,zoQ,zgn]
     rw [← e]
     exact zcN (putLed_len ..) (by simp [zcZ,dmT,dm,dm1,zcf,zbu,zeu]) (hG.lows hl _) hK
   ·have he : zeW k d = 1 := by rw [zeW,if_neg hk,if_pos (by simpa using h3)]
    have := bad (by rw [he]; decide)
    rw [he] at this
    (repeat' first | refine gq2 (zc h1 (zc h2 h3)) ?_ | with_reducible first | exact ⟨⟩ | refine zg ?_ | fail)
    (first | refine zX hl ?_ | refine zW hl ?_)
    exact this
  ·have he : zeW k d = 20 := by rw [zeW,if_pos (by simp at h2; omega)]
   have := bad (by rw [he]; decide)
   rw [he] at this
   (repeat' first | refine gq2 (zc h1 h2) ?_ | with_reducible first | exact ⟨⟩ | refine zg ?_ | fail)
   (first | refine zX hl ?_ | refine zW hl ?_)
   exact this
 ·have he : zeW k d = 20 := by rw [zeW,if_pos (by simp at h1; omega)]
  have := bad (by rw [he]; decide)
  rw [he] at this
  (repeat' first | refine gq2 h1 ?_ | with_reducible first | exact ⟨⟩ | refine zg ?_ | fail)
  (first | refine zX hl ?_ | refine zW hl ?_)
  exact this
theorem gq7 {P Q : Prop} (h : Q) (e : P = Q := by simp -dsimp only [↓zen, ↓zaw, ↓zba, ↓zeo, ↓zej, ↓zeh, ↓zek, ↓zei, ↓zbf, ↓zbb, ↓zbg, ↓zbc, ↓zel, ↓zaZ, ↓zbh, ↓zbd, ↓zbi, ↓zbe, ↓zeg, ↓zem, ↓zaY, ↓zbj, ↓zee, ↓zed, ↓zef,iN,bT,bF,eN, ↓zcI, ↓unC, ↓zV, ↓zJ, ↓zK, ↓zN, ↓zaa, ↓zas, ↓zbH, ↓zah, ↓zaV, ↓zQ, ↓zp, ↓zo, ↓zbr, ↓zk, ↓zag, ↓zG, ↓zaB, ↓zaF, ↓ze, ↓zE, ↓zr, ↓zw, ↓zam, ↓zcs, ↓zcM, ↓zak, ↓zat, ↓zaE, ↓zaJ, ↓zaP, ↓zu, ↓zai, ↓zL, ↓zA, ↓zab,zcT,zaU,zaT,unA,zcW,bnd,zds,zae,zR,zdv,dm,dm1,zC,zaj,zdH,zdG,zM,Q0,Q1,Q2,Q3,Q4,Q5,zT,zq,zx,zO,zI,Q6,Q7,Q8,Q9,Q10,Q11,Q12,Q13,Q14,Nat.reduceAdd,Q15,Int.reduceToNat,Q16,Q17,Q18,Q19,Q20,reduceIte,Q21,Q22,zF,rep,zY,zdD,toD,zad,Q23,Q24,Q25,Q26,Q27,Q28,Nat.reduceLeDiff,Q29,Nat.reduceSub,Q30,Q31,Q32,sc,Q33,Q34,Q35,Q36,Q37,Q26,Q38,Q39,zfZ,zfW,zfT,zga,zbR,zfX,zfU,zfY,zfV,zbQ,zbS,zgb,zgc,Bool.not_true,Bool.not_false,List.length_map,Option.isSome_none]; rfl) : P := e.mpr h
theorem c_From {σ : List zh} {l : List (List UInt8)} (hn : l.Nodup) (hl0 : l.length ≤ 1048576) (hb : ∀ b ∈ l,b.length ≤ 1073741824) {K : KT}
  (hK : K (.tup [.box (σ.length + 1) 0, .d (.int .i64 0)]) (σ ++ tabO σ.length l)) : zy Tryz.prog zll [.d (.slice (zcy l))] σ K := by
 refine zcm zqk.is rfl (fun s => List.range' σ.length 3) fun hl _ => zqk.goes ?_
 have hlen : (zcy l).length = l.length := List.length_map ..
 have hd : decide ((l.length : Int) > 1048576) = false := by simp; omega
 simp only [zqD,iN,bT,bF,eN]
 (repeat' first | refine gq2 (zc hlen hd) ?_ | with_reducible first | exact ⟨⟩ | refine zg ?_ | fail)
 refine zuB ?_
 (repeat' first | refine gq1 ?_ | with_reducible first | exact ⟨⟩ | refine zg ?_ | fail)
 refine zB l.length (fun k vs s => vs = [.d (.int .i64 k)] ∧ s = σ ++ tabO σ.length (l.take k)) ⟨rfl,rfl⟩ ?_
 rintro k vs s hk ⟨rfl,rfl⟩
 by_cases hlt : k < l.length
 ·have hd : decide ((k : Int) < (l.length : Int)) = true := by simp; omega
  have hx : l[k]? = some l[k] := by simp [hlt]
  have hgx := zU (f := fun b => [D.slice (bcs b)]) hx
  have hxb := hb _ (List.getElem_mem hlt)
  have hnot : l[k] ∉ l.take k := fun hm => by
   obtain ⟨i,hi,he⟩ := List.mem_take_iff_getElem.1 hm
   have := (List.getElem_inj hn).1 he
   omega
  obtain ⟨x,hxe⟩ : ∃ x,l[k] = x := ⟨_,rfl⟩
  rw [hxe] at hx hgx hxb hnot
  have hno := ztD hnot
  have hT : zcq (σ ++ tabO σ.length (l.take k)) (σ.length + 1) σ.length (σ.length + 2) (l.take k) := by simpa using tabAt_new σ (l.take k) []
  have hP : ∀ l',putTab (σ ++ tabO σ.length (l.take k)) (σ.length + 1) σ.length (σ.length + 2) l' = σ ++ tabO σ.length l' := fun l' => by simpa using putTab_new σ (l.take k) l' []
  (repeat' first | refine gq2 (zc hlen (zc hd hgx)) ?_ | with_reducible first | exact ⟨⟩ | refine zg ?_ | fail)
  refine znu hT ?_
  rw [hno]
  (repeat' first | refine gq7 ?_ | with_reducible first | exact ⟨⟩ | refine zg ?_ | fail)
  refine zso hT hxb (by rw [List.length_take]; omega) ?_
  rw [hP]
  have e : zfo (l.take k) x = l.take (k + 1) := by
   have h1 : (l.take k).length = k := by rw [List.length_take]; omega
   rw [zfo,hno]
   simp only [h1]
   rw [if_neg (by omega),List.take_add_one,hx]; rfl
  rw [e]
  have hw : IntKind.i64.wrap ((k : Int) + 1) = ((k + 1 : Nat) : Int) := by rw [zP (by omega) (by omega)]; rfl
  (repeat' first | refine gq2 hw ?_ | with_reducible first | exact ⟨⟩ | refine zg ?_ | fail)
  exact zap.next hlt ⟨rfl,rfl⟩
 ·have hd : decide ((k : Int) < (l.length : Int)) = false := by simp; omega
  rw [List.take_of_length_le (by omega)]
  (repeat' first | refine gq2 (zc hlen hd) ?_ | with_reducible first | exact ⟨⟩ | refine zg ?_ | fail)
  refine zfg (σ' := σ) (os := tabO σ.length l) rfl rfl hl (low_tabO _ _) ?_ hK
  exact .tup _ (by simp [zcZ]; exact .box _ _ (by simp))
theorem zmo {σ : List zh} {id m t : Nat} {l : List (List UInt8)} (hT : zcq σ id m t l) (hn : l.Nodup) (hl0 : l.length ≤ 1048576) (hb : ∀ b ∈ l,b.length ≤ 1073741824) {K : KT}
  (hK : K (.box (σ.length + 1) 0) (σ ++ tabO σ.length l)) : zy Tryz.prog zaR [.box id 0] σ K := by
 refine zcm zhI.is rfl (fun s => List.range' σ.length 3) fun hl _ => zhI.goes ?_
 have hbx := hT.box
 simp only [zhW,iN,bT,bF,eN]
 (repeat' first | refine gq1 ?_ | with_reducible first | exact ⟨⟩ | refine zg ?_ | fail)
 refine zvA hT ?_
 (repeat' first | refine gq2 hbx ?_ | with_reducible first | exact ⟨⟩ | refine zg ?_ | fail)
 refine c_From hn hl0 hb ?_
 (repeat' first | refine gq1 ?_ | with_reducible first | exact ⟨⟩ | refine zg ?_ | fail)
 exact zfg (σ' := σ) (os := tabO σ.length l) rfl rfl hl (low_tabO _ _) (.box _ _ (by simp)) hK
end Go.Proofs.YtncpaekiidpchaaGreat

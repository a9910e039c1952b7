/- Contracts: the document's tables and ledgers. -/
import Derived.Test.YtncpaekiidpchaaGreatId3
set_option linter.all false
set_option maxRecDepth 100000
namespace Go.Proofs.YtncpaekiidpchaaGreat
open Go.AW
def rtO (l : List (List UInt8)) : zf := .box [.d (.slice (zcU l))]
def rlO (g : List zae) : zf := .box [.d (.slice (zol g))]
theorem zew (n : Nat) (l : List (List UInt8)) : zsq n (rtO l) := by
 intro c hc
 simp only [List.mem_cons,List.not_mem_nil,or_false] at hc
 subst hc; exact .d _
theorem rlO_low (n : Nat) (g : List zae) : zsq n (rlO g) := by
 intro c hc
 simp only [List.mem_cons,List.not_mem_nil,or_false] at hc
 subst hc; exact .d _
theorem wki (k : Nat) (h : k ≤ 1073741824) : IntKind.i64.wrap ((k : Int) + 1) = ((k + 1 : Nat) : Int) := by rw [zai (by omega) (by omega)]; rfl
theorem gq8 {P Q : Prop} (h : Q) (e : P = Q := by simp -dsimp only [↓zcR, ↓zal, ↓zaM, ↓zcS, ↓zcN, ↓zcL, ↓zcO, ↓zcM, ↓zaR, ↓zaN, ↓zaS, ↓zaO, ↓zcP, ↓zaL, ↓zaT, ↓zaP, ↓zaU, ↓zaQ, ↓zcK, ↓zcQ, ↓zaK, ↓zaV, ↓zcI, ↓zcH, ↓zcJ,iN,bT,bF,eN, ↓zbI, ↓unC, ↓zQ, ↓zF, ↓zG, ↓zI, ↓zR, ↓zap, ↓zbp, ↓zab, ↓zaX, ↓zP, ↓zp, ↓zm, ↓zbg, ↓zi, ↓zY, ↓zB, ↓zas, ↓zaw, ↓ze, ↓zC, ↓zr, ↓zt, ↓zad, ↓zbL, ↓zbY, ↓zaa, ↓zaj, ↓zau, ↓zaB, ↓zaD, ↓zl, ↓zZ, ↓zH, ↓zu, ↓zS,zcd,zaI,zaH,unA,zce,bnd,zcn,zX,zV,zcp,dm,dm1,zD,zag,zcy,zcx,zU,Q0,Q1,Q2,Q3,Q4,Q5,zO,zq,zw,zM,zE,Q6,Q7,Q8,Q9,Q10,Q11,Q12,Q13,Q14,Nat.reduceAdd,Q15,Int.reduceToNat,Q16,Q17,Q18,Q19,Q20,reduceIte,Q21,Q22,zx,rep,zT,zcv,toD,zW,Q23,Q24,Q25,Q26,Q27,Q28,Nat.reduceLeDiff,Q29,Nat.reduceSub,Q30,Q31,Q32,sc,Q33,Q34,Q35,Q36,Q37,Q26,Q38,Q39,zel,zei,zef,zem,zbt,zej,zeg,zek,zeh,zbs,zbu,zen,zeo,Bool.not_true,Bool.not_false,List.length_map,zhu]; rfl) : P := e.mpr h
theorem c_rtSame {σ : List zf} {a b : List UInt8} {K : AV → List zf → Prop} (hK : K (.d (.bool (a == b))) σ) : zL Tryz.prog zoJ [.d (.slice (bcs a)), .d (.slice (bcs b))] σ K := by
 refine zj zto.is rfl fun hl _ => zto.goes ?_
 simp only [zub,iN,bT,bF,eN]
 (repeat' first | refine gq8 ?_ | with_reducible first | exact ⟨⟩ | refine zh ?_ | fail)
 (first | refine zao hl ?_ | refine zan hl ?_)
 exact hK
theorem c_rtLook {σ : List zf} {id : Nat} {l : List (List UInt8)} {b : List UInt8} (hT : σ[id]? = some (rtO l)) (hl0 : l.length ≤ 1048576) {K : AV → List zf → Prop}
  (hK : K (.tup [.d (.int .i64 (zni (zdD l b))), .d (.bool (zdD l b).isSome)]) σ) : zL Tryz.prog zgc [.box id 0, .d (.slice (bcs b))] σ K := by
 refine zj zjO.is rfl fun hl _ => zjO.goes ?_
 have hlen : (zcU l).length = l.length := List.length_map ..
 have hb : σ[id]? = some (.box [.d (.slice (zcU l))]) := hT
 simp only [zkb,iN,bT,bF,eN]
 refine zK l.length (fun k vs s => vs = [.d (.int .i64 k)] ∧ s = σ ∧ zdD (l.take k) b = none) ⟨rfl,rfl,rfl⟩ ?_
 rintro k vs s hk ⟨rfl,rfl,hno⟩
 by_cases hlt : k < l.length
 ·have hd : decide ((k : Int) < (l.length : Int)) = true := by simp; omega
  have hx : l[k]? = some l[k] := by simp [hlt]
  have hgx := zaf (f := fun b => [D.slice (bcs b)]) hx
  obtain ⟨x,hxe⟩ : ∃ x,l[k] = x := ⟨_,rfl⟩
  rw [hxe] at hx hgx
  (repeat' first | refine gq2 (zd hlen (zd hd (zd hb hgx))) ?_ | with_reducible first | exact ⟨⟩ | refine zh ?_ | fail)
  refine c_rtSame ?_
  cases he : (x == b)
  ·(repeat' first | refine gq2 (wki k (by omega)) ?_ | with_reducible first | exact ⟨⟩ | refine zh ?_ | fail)
   exact zav.next hlt ⟨rfl,rfl,look_next hx hno he⟩
  ·rw [look_hit hx hno he] at hK
   (repeat' first | refine gq2 (wki k (by omega)) ?_ | with_reducible first | exact ⟨⟩ | refine zh ?_ | fail)
   (first | refine zao hl ?_ | refine zan hl ?_)
   exact hK
 ·have hd : decide ((k : Int) < (l.length : Int)) = false := by simp; omega
  rw [List.take_of_length_le (by omega)] at hno
  rw [hno] at hK
  (repeat' first | refine gq2 (zd hlen (zd hd hb)) ?_ | with_reducible first | exact ⟨⟩ | refine zh ?_ | fail)
  (first | refine zao hl ?_ | refine zan hl ?_)
  exact hK
theorem gq9 {P Q : Prop} (h : Q) (e : P = Q := by simp -dsimp only [↓zcR, ↓zal, ↓zaM, ↓zcS, ↓zcN, ↓zcL, ↓zcO, ↓zcM, ↓zaR, ↓zaN, ↓zaS, ↓zaO, ↓zcP, ↓zaL, ↓zaT, ↓zaP, ↓zaU, ↓zaQ, ↓zcK, ↓zcQ, ↓zaK, ↓zaV, ↓zcI, ↓zcH, ↓zcJ,iN,bT,bF,eN, ↓zbI, ↓unC, ↓zQ, ↓zF, ↓zG, ↓zI, ↓zR, ↓zap, ↓zbp, ↓zab, ↓zaX, ↓zP, ↓zp, ↓zm, ↓zbg, ↓zi, ↓zY, ↓zB, ↓zas, ↓zaw, ↓ze, ↓zC, ↓zr, ↓zt, ↓zad, ↓zbL, ↓zbY, ↓zaa, ↓zaj, ↓zau, ↓zaB, ↓zaD, ↓zl, ↓zZ, ↓zH, ↓zu, ↓zS,zcd,zaI,zaH,unA,zce,bnd,zcn,zX,zV,zcp,dm,dm1,zD,zag,zcy,zcx,zU,Q0,Q1,Q2,Q3,Q4,Q5,zO,zq,zw,zM,zE,Q6,Q7,Q8,Q9,Q10,Q11,Q12,Q13,Q14,Nat.reduceAdd,Q15,Int.reduceToNat,Q16,Q17,Q18,Q19,Q20,reduceIte,Q21,Q22,zx,rep,zT,zcv,toD,zW,Q23,Q24,Q25,Q26,Q27,Q28,Nat.reduceLeDiff,Q29,Nat.reduceSub,Q30,Q31,Q32,sc,Q33,Q34,Q35,Q36,Q37,Q26,Q38,Q39,zel,zei,zef,zem,zbt,zej,zeg,zek,zeh,zbs,zbu,zen,zeo,Bool.not_true,Bool.not_false,List.length_map,Option.isSome_some,zni]; rfl) : P := e.mpr h
theorem gq10 {A P Q : Prop} (a : A) (h : Q) (e : A → P = Q := by intro a; simp -dsimp only [↓zcR, ↓zal, ↓zaM, ↓zcS, ↓zcN, ↓zcL, ↓zcO, ↓zcM, ↓zaR, ↓zaN, ↓zaS, ↓zaO, ↓zcP, ↓zaL, ↓zaT, ↓zaP, ↓zaU, ↓zaQ, ↓zcK, ↓zcQ, ↓zaK, ↓zaV, ↓zcI, ↓zcH, ↓zcJ,iN,bT,bF,eN, ↓zbI, ↓unC, ↓zQ, ↓zF, ↓zG, ↓zI, ↓zR, ↓zap, ↓zbp, ↓zab, ↓zaX, ↓zP, ↓zp, ↓zm, ↓zbg, ↓zi, ↓zY, ↓zB, ↓zas, ↓zaw, ↓ze, ↓zC, ↓zr, ↓zt, ↓zad, ↓zbL, ↓zbY, ↓zaa, ↓zaj, ↓zau, ↓zaB, ↓zaD, ↓zl, ↓zZ, ↓zH, ↓zu, ↓zS,zcd,zaI,zaH,unA,zce,bnd,zcn,zX,zV,zcp,dm,dm1,zD,zag,zcy,zcx,zU,Q0,Q1,Q2,Q3,Q4,Q5,zO,zq,zw,zM,zE,Q6,Q7,Q8,Q9,Q10,Q11,Q12,Q13,Q14,Nat.reduceAdd,Q15,Int.reduceToNat,Q16,Q17,Q18,Q19,Q20,reduceIte,Q21,Q22,zx,rep,zT,zcv,toD,zW,Q23,Q24,Q25,Q26,Q27,Q28,Nat.reduceLeDiff,Q29,Nat.reduceSub,Q30,Q31,Q32,sc,Q33,Q34,Q35,Q36,Q37,Q26,Q38,Q39,zel,zei,zef,zem,zbt,zej,zeg,zek,zeh,zbs,zbu,zen,zeo,Bool.not_true,Bool.not_false,List.length_map,Option.isSome_none,zni,a]; rfl) : P := (e a).mpr h
theorem zjI {σ : List zf} {id : Nat} {l : List (List UInt8)} {b : List UInt8} (hT : σ[id]? = some (rtO l)) (hbl : b.length ≤ 1073741824) (hl0 : l.length ≤ 1048576) {K : AV → List zf → Prop}
  (hK : K (.d (.int .i64 (zed l b))) (σ.set id (rtO (zfk l b)))) : zL Tryz.prog zbr [.box id 0, .d (.slice (bcs b))] σ K := by
 refine acall_ofW zkQ.is rfl fun hl _ => zkQ.goes ?_
 have hlen : (zcU l).length = l.length := List.length_map ..
 have hb : ∀ τ,(σ ++ τ)[id]? = some (.box [.d (.slice (zcU l))]) := fun τ => zg hT
 have hb0 : σ[id]? = some (.box [.d (.slice (zcU l))]) := hT
 have hlt := zN hT
 simp only [zli,iN,bT,bF,eN]
 (repeat' first | refine gq1 ?_ | with_reducible first | exact ⟨⟩ | refine zh ?_ | fail)
 refine c_rtLook hT hl0 ?_
 cases ho : zdD l b with
 | some k =>
  simp only [zed,zfk,ho] at hK
  rw [zbD hT] at hK
  (repeat' first | refine gq9 ?_ | with_reducible first | exact ⟨⟩ | refine zh ?_ | fail)
  refine zlE ?_
  (first | refine zao hl ?_ | refine zan hl ?_)
  exact hK
 | none =>
  simp only [zed,zfk,ho] at hK
  by_cases hfull : l.length ≥ 1048576
  ·rw [if_pos hfull,if_pos hfull,zbD hT] at hK
   have hd : decide ((l.length : Int) ≥ 1048576) = true := by simp; omega
   (repeat' first | refine gq10 (zd hb0 (zd hlen hd)) ?_ | with_reducible first | exact ⟨⟩ | refine zh ?_ | fail)
   refine zlE ?_
   (first | refine zao hl ?_ | refine zan hl ?_)
   exact hK
  ·rw [if_neg hfull,if_neg hfull] at hK
   have hd : decide ((l.length : Int) ≥ 1048576) = false := by simp; omega
   have s1 : ∀ X τ,(σ ++ τ).set id X = σ.set id X ++ τ := fun X τ => zbE hT
   have g1 : ∀ X τ,(σ.set id X ++ τ)[id]? = some X := fun X τ => zg (zbn hT)
   have bl : (bcs b).length = b.length := zeM b
   have b1 : ∀ e ∈ bcs b,e.length = 1 := zgi
   have t1 : ∀ e ∈ zcU l,e.length = 1 := zgV (f := fun b => [D.slice (bcs b)]) (fun _ => rfl) l
   (repeat' first | refine gq10 (zd hb (zd hb0 (zd hlen (zd hd (zd s1 (zd g1 bl)))))) ?_ | with_reducible first | exact ⟨⟩ | refine zh ?_ | fail)
   have e : zcU l ++ [[D.slice (bcs b)]] = zcU (l ++ [b]) := by simp [zcU]
   rw [e]
   exact zsX hT (by simp [zdj,dmT,dm,dm1,zbV]) hl hK
theorem gq11 {A P Q : Prop} (a : A) (h : Q) (e : A → P = Q := by intro a; simp -dsimp only [↓zcR, ↓zal, ↓zaM, ↓zcS, ↓zcN, ↓zcL, ↓zcO, ↓zcM, ↓zaR, ↓zaN, ↓zaS, ↓zaO, ↓zcP, ↓zaL, ↓zaT, ↓zaP, ↓zaU, ↓zaQ, ↓zcK, ↓zcQ, ↓zaK, ↓zaV, ↓zcI, ↓zcH, ↓zcJ,iN,bT,bF,eN, ↓zbI, ↓unC, ↓zQ, ↓zF, ↓zG, ↓zI, ↓zR, ↓zap, ↓zbp, ↓zab, ↓zaX, ↓zP, ↓zp, ↓zm, ↓zbg, ↓zi, ↓zY, ↓zB, ↓zas, ↓zaw, ↓ze, ↓zC, ↓zr, ↓zt, ↓zad, ↓zbL, ↓zbY, ↓zaa, ↓zaj, ↓zau, ↓zaB, ↓zaD, ↓zl, ↓zZ, ↓zH, ↓zu, ↓zS,zcd,zaI,zaH,unA,zce,bnd,zcn,zX,zV,zcp,dm,dm1,zD,zag,zcy,zcx,zU,Q0,Q1,Q2,Q3,Q4,Q5,zO,zq,zw,zM,zE,Q6,Q7,Q8,Q9,Q10,Q11,Q12,Q13,Q14,Nat.reduceAdd,Q15,Int.reduceToNat,Q16,Q17,Q18,Q19,Q20,reduceIte,Q21,Q22,zx,rep,zT,zcv,toD,zW,Q23,Q24,Q25,Q26,Q27,Q28,Nat.reduceLeDiff,Q29,Nat.reduceSub,Q30,Q31,Q32,sc,Q33,Q34,Q35,Q36,Q37,Q26,Q38,Q39,zel,zei,zef,zem,zbt,zej,zeg,zek,zeh,zbs,zbu,zen,zeo,Bool.not_true,Bool.not_false,List.length_map,beq_self_eq_true,zcj,zgE,a]; rfl) : P := (e a).mpr h
theorem gq12 {A P Q : Prop} (a : A) (h : Q) (e : A → P = Q := by intro a; simp -dsimp only [↓zcR, ↓zal, ↓zaM, ↓zcS, ↓zcN, ↓zcL, ↓zcO, ↓zcM, ↓zaR, ↓zaN, ↓zaS, ↓zaO, ↓zcP, ↓zaL, ↓zaT, ↓zaP, ↓zaU, ↓zaQ, ↓zcK, ↓zcQ, ↓zaK, ↓zaV, ↓zcI, ↓zcH, ↓zcJ,iN,bT,bF,eN, ↓zbI, ↓unC, ↓zQ, ↓zF, ↓zG, ↓zI, ↓zR, ↓zap, ↓zbp, ↓zab, ↓zaX, ↓zP, ↓zp, ↓zm, ↓zbg, ↓zi, ↓zY, ↓zB, ↓zas, ↓zaw, ↓ze, ↓zC, ↓zr, ↓zt, ↓zad, ↓zbL, ↓zbY, ↓zaa, ↓zaj, ↓zau, ↓zaB, ↓zaD, ↓zl, ↓zZ, ↓zH, ↓zu, ↓zS,zcd,zaI,zaH,unA,zce,bnd,zcn,zX,zV,zcp,dm,dm1,zD,zag,zcy,zcx,zU,Q0,Q1,Q2,Q3,Q4,Q5,zO,zq,zw,zM,zE,Q6,Q7,Q8,Q9,Q10,Q11,Q12,Q13,Q14,Nat.reduceAdd,Q15,Int.reduceToNat,Q16,Q17,Q18,Q19,Q20,reduceIte,Q21,Q22,zx,rep,zT,zcv,toD,zW,Q23,Q24,Q25,Q26,Q27,Q28,Nat.reduceLeDiff,Q29,Nat.reduceSub,Q30,Q31,Q32,sc,Q33,Q34,Q35,Q36,Q37,Q26,Q38,Q39,zel,zei,zef,zem,zbt,zej,zeg,zek,zeh,zbs,zbu,zen,zeo,Bool.not_true,Bool.not_false,List.length_map,Bool.false_and,zcj,zgE,a]; rfl) : P := (e a).mpr h
theorem gq13 {A P Q : Prop} (a : A) (h : Q) (e : A → P = Q := by intro a; simp -dsimp only [↓zcR, ↓zal, ↓zaM, ↓zcS, ↓zcN, ↓zcL, ↓zcO, ↓zcM, ↓zaR, ↓zaN, ↓zaS, ↓zaO, ↓zcP, ↓zaL, ↓zaT, ↓zaP, ↓zaU, ↓zaQ, ↓zcK, ↓zcQ, ↓zaK, ↓zaV, ↓zcI, ↓zcH, ↓zcJ,iN,bT,bF,eN, ↓zbI, ↓unC, ↓zQ, ↓zF, ↓zG, ↓zI, ↓zR, ↓zap, ↓zbp, ↓zab, ↓zaX, ↓zP, ↓zp, ↓zm, ↓zbg, ↓zi, ↓zY, ↓zB, ↓zas, ↓zaw, ↓ze, ↓zC, ↓zr, ↓zt, ↓zad, ↓zbL, ↓zbY, ↓zaa, ↓zaj, ↓zau, ↓zaB, ↓zaD, ↓zl, ↓zZ, ↓zH, ↓zu, ↓zS,zcd,zaI,zaH,unA,zce,bnd,zcn,zX,zV,zcp,dm,dm1,zD,zag,zcy,zcx,zU,Q0,Q1,Q2,Q3,Q4,Q5,zO,zq,zw,zM,zE,Q6,Q7,Q8,Q9,Q10,Q11,Q12,Q13,Q14,Nat.reduceAdd,Q15,Int.reduceToNat,Q16,Q17,Q18,Q19,Q20,reduceIte,Q21,Q22,zx,rep,zT,zcv,toD,zW,Q23,Q24,Q25,Q26,Q27,Q28,Nat.reduceLeDiff,Q29,Nat.reduceSub,Q30,Q31,Q32,sc,Q33,Q34,Q35,Q36,Q37,Q26,Q38,Q39,zel,zei,zef,zem,zbt,zej,zeg,zek,zeh,zbs,zbu,zen,zeo,Bool.not_true,Bool.not_false,List.length_map,Bool.true_and,zcj,zgE,a]; rfl) : P := (e a).mpr h
theorem c_rgSigned {σ : List zf} {id : Nat} {g : List zae} {s : zae} (hG : σ[id]? = some (rlO g)) (hg0 : g.length ≤ 1073741824) {K : AV → List zf → Prop} (hK : K (.d (.bool (decide (s ∈ g)))) σ) :
  zL Tryz.prog zeA [.box id 0, .agg [.d (.int .i64 s.key), .d (.int .i64 s.dig)]] σ K := by
 refine zj zhm.is rfl fun hl _ => zhm.goes ?_
 have hlen : (zol g).length = g.length := List.length_map ..
 have hb : ∀ τ,(σ ++ τ)[id]? = some (.box [.d (.slice (zol g))]) := fun τ => zg hG
 simp only [zhB,iN,bT,bF,eN]
 (repeat' first | refine gq1 ?_ | with_reducible first | exact ⟨⟩ | refine zh ?_ | fail)
 refine zK g.length (fun k vs q => vs = [.d (.int .i64 k)] ∧ q = σ ++ [.box [.d (.int .i64 s.key), .d (.int .i64 s.dig)]] ∧ s ∉ g.take k) ⟨rfl,rfl,by simp⟩ ?_
 rintro k vs q hk ⟨rfl,rfl,hno⟩
 by_cases hlt : k < g.length
 ·have hd : decide ((k : Int) < (g.length : Int)) = true := by simp; omega
  have hx : g[k]? = some g[k] := by simp [hlt]
  have hgx := zaf (f := zgE) hx
  obtain ⟨x,hxe⟩ : ∃ x,g[k] = x := ⟨_,rfl⟩
  rw [hxe] at hx hgx
  by_cases he : x = s
  ·subst he
   rw [decide_eq_true (List.mem_of_getElem? hx)] at hK
   (repeat' first | refine gq11 (zd hlen (zd hd (zd hb hgx))) ?_ | with_reducible first | exact ⟨⟩ | refine zh ?_ | fail)
   (first | refine zao hl ?_ | refine zan hl ?_)
   exact hK
  ·have hn2 : s ∉ g.take (k + 1) := by
    rw [List.take_add_one,hx]; simp
    exact ⟨hno,fun h => he h.symm⟩
   have e : x = s ↔ x.key = s.key ∧ x.dig = s.dig := by cases s; cases x; simp
   cases h1 : (x.key == s.key)
   ·(repeat' first | refine gq12 (zd hlen (zd hd (zd hb (zd hgx (zd h1 (wki k (by omega))))))) ?_ | with_reducible first | exact ⟨⟩ | refine zh ?_ | fail)
    exact zav.next hlt ⟨rfl,rfl,hn2⟩
   ·have h2 : (x.dig == s.dig) = false := by
     have : ¬ x.dig = s.dig := fun h => he (e.2 ⟨by simpa using h1,h⟩)
     simpa using this
    (repeat' first | refine gq13 (zd hlen (zd hd (zd hb (zd hgx (zd h1 (zd h2 (wki k (by omega)))))))) ?_ | with_reducible first | exact ⟨⟩ | refine zh ?_ | fail)
    exact zav.next hlt ⟨rfl,rfl,hn2⟩
 ·have hd : decide ((k : Int) < (g.length : Int)) = false := by simp; omega
  rw [List.take_of_length_le (by omega)] at hno
  rw [decide_eq_false hno] at hK
  (repeat' first | refine gq2 (zd hlen (zd hd hb)) ?_ | with_reducible first | exact ⟨⟩ | refine zh ?_ | fail)
  (first | refine zao hl ?_ | refine zan hl ?_)
  exact hK
theorem c_rgSign {σ : List zf} {id : Nat} {g : List zae} {k d : Int} (hG : σ[id]? = some (rlO g)) (hgl : g.length ≤ 1073741824) {K : AV → List zf → Prop}
  (hK : K (.tup [zun (signR k d), .d (.int .i64 (zeR k d))]) (σ.set id (rlO (zgD g k d)))) : zL Tryz.prog zdR [.box id 0, .d (.int .i64 k), .d (.int .i64 d)] σ K := by
 refine acall_ofW ziL.is rfl fun hl _ => ziL.goes ?_
 have hb : ∀ τ,(σ ++ τ)[id]? = some (.box [.d (.slice (zol g))]) := fun τ => zg hG
 have hlen : (zol g).length = g.length := List.length_map ..
 have bad : zeR k d ≠ 0 → K (.tup [.agg [.d (.int .i64 0), .d (.int .i64 0)], .d (.int .i64 (zeR k d))]) σ := fun h => by
  rw [signR,zgD,if_neg h,if_neg h,zbD hG] at hK
  exact hK
 simp only [zjb,iN,bT,bF,eN]
 (repeat' first | refine gq1 ?_ | with_reducible first | exact ⟨⟩ | refine zh ?_ | fail)
 cases h1 : decide (k < 0)
 ·cases h2 : decide (k ≥ 21)
  ·have hk : ¬ (k < 0 ∨ k ≥ 21) := by simp at h1 h2; omega
   cases h3 : decide (d < 1)
   ·have he : zeR k d = 0 := by rw [zeR,if_neg hk,if_neg (by simpa using h3)]
    rw [he,signR,zgD,if_pos he,if_pos he] at hK
    (repeat' first | refine gq2 (zd h1 (zd h2 h3)) ?_ | with_reducible first | exact ⟨⟩ | refine zh ?_ | fail)
    refine c_rgSigned (s := ⟨k,d⟩) (zg hG) hgl ?_
    by_cases hs : (⟨k,d⟩ : zae) ∈ g
    ·rw [decide_eq_true hs]
     rw [zsb,if_pos hs,zbD hG] at hK
     (repeat' first | refine gq2 hb ?_ | with_reducible first | exact ⟨⟩ | refine zh ?_ | fail)
     refine zlE ?_
     (first | refine zao hl ?_ | refine zan hl ?_)
     exact hK
    ·rw [decide_eq_false hs]
     rw [zsb,if_neg hs] at hK
     have s1 : ∀ X τ,(σ ++ τ).set id X = σ.set id X ++ τ := fun X τ => zbE hG
     have L1 : ∀ X : zf, σ.length = (σ.set id X).length := fun X => by simp
     have e1 : ∀ X τ n,(σ.set id X ++ τ)[σ.length + n]? = τ[n]? := fun X τ n => by rw [L1 X]; exact zq ..
     have e3 : ∀ X τ W,(σ.set id X ++ τ).set σ.length W = σ.set id X ++ τ.set 0 W := fun X τ W => by rw [L1 X]; exact zE ..
     have e4 : ∀ X τ,(σ.set id X ++ τ)[σ.length]? = τ[0]? := fun X τ => by rw [L1 X]; exact zw ..
     (repeat' first | refine gq2 (zd hb (zd hlen (zd s1 (zd e1 (zd e3 e4))))) ?_ | with_reducible first | exact ⟨⟩ | refine zh ?_ | fail)
     have e : zol g ++ [[D.int .i64 k,D.int .i64 d]] = zol (g ++ [⟨k,d⟩]) := by simp [zol,zaz,zgE]
     refine ⟨zgV (f := zgE) (fun _ => rfl) g,by simp,by omega,by simp,by omega, ?_⟩
     rw [e]
     exact zsX hG (by simp [zdj,dmT,dm,dm1,zbV,zby,zea]) hl hK
   ·have he : zeR k d = 1 := by rw [zeR,if_neg hk,if_pos (by simpa using h3)]
    have := bad (by rw [he]; decide)
    rw [he] at this
    (repeat' first | refine gq2 (zd h1 (zd h2 h3)) ?_ | with_reducible first | exact ⟨⟩ | refine zh ?_ | fail)
    refine zlE ?_
    (first | refine zao hl ?_ | refine zan hl ?_)
    exact this
  ·have he : zeR k d = 20 := by rw [zeR,if_pos (by simp at h2; omega)]
   have := bad (by rw [he]; decide)
   rw [he] at this
   (repeat' first | refine gq2 (zd h1 h2) ?_ | with_reducible first | exact ⟨⟩ | refine zh ?_ | fail)
   refine zlE ?_
   (first | refine zao hl ?_ | refine zan hl ?_)
   exact this
 ·have he : zeR k d = 20 := by rw [zeR,if_pos (by simp at h1; omega)]
  have := bad (by rw [he]; decide)
  rw [he] at this
  (repeat' first | refine gq2 h1 ?_ | with_reducible first | exact ⟨⟩ | refine zh ?_ | fail)
  refine zlE ?_
  (first | refine zao hl ?_ | refine zan hl ?_)
  exact this
end Go.Proofs.YtncpaekiidpchaaGreat

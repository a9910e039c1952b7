/- Contracts: the document's tables and ledgers. -/
import Derived.Test.YtncpaekiidpchaaGreatId3
set_option linter.all false
set_option maxRecDepth 100000
namespace Go.Proofs.YtncpaekiidpchaaGreat
open Go.AW
def rtO (l : List (List UInt8)) : zg := .box [.d (.slice (zdt l))]
def rlO (g : List zJ) : zg := .box [.d (.slice (zoh g))]
theorem zfh (n : Nat) (l : List (List UInt8)) : ztJ n (rtO l) := by
 intro c hc
 simp only [List.mem_cons,List.not_mem_nil,or_false] at hc
 subst hc; exact .d _
theorem rlO_low (n : Nat) (g : List zJ) : ztJ n (rlO g) := by
 intro c hc
 simp only [List.mem_cons,List.not_mem_nil,or_false] at hc
 subst hc; exact .d _
theorem wki (k : Nat) (h : k ≤ 1073741824) : IntKind.i64.wrap ((k : Int) + 1) = ((k + 1 : Nat) : Int) := by rw [zX (by omega) (by omega)]; rfl
theorem gq8 {P Q : Prop} (h : Q) (e : P = Q := by simp -dsimp only [↓zey, ↓zau, ↓zbj, ↓zeA, ↓zes, ↓zeq, ↓zet, ↓zer, ↓zbo, ↓zbk, ↓zbp, ↓zbl, ↓zeu, ↓zbi, ↓zbq, ↓zbm, ↓zbr, ↓zbn, ↓zep, ↓zew, ↓zbh, ↓zbs, ↓zeg, ↓zef, ↓zeo,iN,bT,bF,eN, ↓zcS, ↓unC, ↓zW, ↓zK, ↓zL, ↓zN, ↓zZ, ↓zaw, ↓zbT, ↓zag, ↓zbu, ↓zP, ↓zq, ↓zo, ↓zby, ↓zl, ↓zaf, ↓zH, ↓zaC, ↓zaG, ↓ze, ↓zC, ↓zt, ↓zw, ↓zan, ↓zcC, ↓zdb, ↓zal, ↓zat, ↓zaF, ↓zaP, ↓zaW, ↓zu, ↓zai, ↓zM, ↓zA, ↓zaa,zdi,zbd,zba,unA,zdk,bnd,zdw,zac,zS,zdy,dm,dm1,zB,zak,zdP,zdO,zQ,Q0,Q1,Q2,Q3,Q4,Q5,zR,zr,zy,zO,zI,Q6,Q7,Q8,Q9,Q10,Q11,Q12,Q13,Q14,Nat.reduceAdd,Q15,Int.reduceToNat,Q16,Q17,Q18,Q19,Q20,reduceIte,Q21,Q22,zE,rep,zV,zdG,toD,zab,Q23,Q24,Q25,Q26,Q27,Q28,Nat.reduceLeDiff,Q29,Nat.reduceSub,Q30,Q31,Q32,sc,Q33,Q34,Q35,Q36,Q37,Q26,Q38,Q39,zgH,zgE,zgB,zgI,zcf,zgF,zgC,zgG,zgD,zce,zcg,zgJ,zgK,Bool.not_true,Bool.not_false,List.length_map,zmJ]; rfl) : P := e.mpr h
theorem c_rtSame {σ : List zg} {a b : List UInt8} {K : KT} (hK : K (.d (.bool (a == b))) σ) : zD Tryz.prog zoE [.d (.slice (bcs a)), .d (.slice (bcs b))] σ K := by
 refine zj zta.is rfl fun hl _ => zta.goes ?_
 simp only [ztE,iN,bT,bF,eN]
 (repeat' first | refine gq8 ?_ | with_reducible first | exact ⟨⟩ | refine zh ?_ | fail)
 (first | refine zaq hl ?_ | refine zap hl ?_)
 exact hK
theorem c_rtLook {σ : List zg} {id : Nat} {l : List (List UInt8)} {b : List UInt8} (hT : σ[id]? = some (rtO l)) (hl0 : l.length ≤ 1048576) {K : KT}
  (hK : K (.tup [.d (.int .i64 (zks (zcu l b))), .d (.bool (zcu l b).isSome)]) σ) : zD Tryz.prog zfM [.box id 0, .d (.slice (bcs b))] σ K := by
 refine zj zjN.is rfl fun hl _ => zjN.goes ?_
 have hlen : (zdt l).length = l.length := List.length_map ..
 have hb : σ[id]? = some (.box [.d (.slice (zdt l))]) := hT
 simp only [zjX,iN,bT,bF,eN]
 refine zG l.length (fun k vs s => vs = [.d (.int .i64 k)] ∧ s = σ ∧ zcu (l.take k) b = none) ⟨rfl,rfl,rfl⟩ ?_
 rintro k vs s hk ⟨rfl,rfl,hno⟩
 by_cases hlt : k < l.length
 ·have hd : decide ((k : Int) < (l.length : Int)) = true := by simp; omega
  have hx : l[k]? = some l[k] := by simp [hlt]
  have hgx := zae (f := fun b => [D.slice (bcs b)]) hx
  obtain ⟨x,hxe⟩ : ∃ x,l[k] = x := ⟨_,rfl⟩
  rw [hxe] at hx hgx
  (repeat' first | refine gq2 (zd hlen (zd hd (zd hb hgx))) ?_ | with_reducible first | exact ⟨⟩ | refine zh ?_ | fail)
  refine c_rtSame ?_
  cases he : (x == b)
  ·(repeat' first | refine gq2 (wki k (by omega)) ?_ | with_reducible first | exact ⟨⟩ | refine zh ?_ | fail)
   exact zav.next hlt ⟨rfl,rfl,look_next hx hno he⟩
  ·rw [look_hit hx hno he] at hK
   (repeat' first | refine gq2 (wki k (by omega)) ?_ | with_reducible first | exact ⟨⟩ | refine zh ?_ | fail)
   (first | refine zaq hl ?_ | refine zap hl ?_)
   exact hK
 ·have hd : decide ((k : Int) < (l.length : Int)) = false := by simp; omega
  rw [List.take_of_length_le (by omega)] at hno
  rw [hno] at hK
  (repeat' first | refine gq2 (zd hlen (zd hd hb)) ?_ | with_reducible first | exact ⟨⟩ | refine zh ?_ | fail)
  (first | refine zaq hl ?_ | refine zap hl ?_)
  exact hK
theorem gq9 {P Q : Prop} (h : Q) (e : P = Q := by simp -dsimp only [↓zey, ↓zau, ↓zbj, ↓zeA, ↓zes, ↓zeq, ↓zet, ↓zer, ↓zbo, ↓zbk, ↓zbp, ↓zbl, ↓zeu, ↓zbi, ↓zbq, ↓zbm, ↓zbr, ↓zbn, ↓zep, ↓zew, ↓zbh, ↓zbs, ↓zeg, ↓zef, ↓zeo,iN,bT,bF,eN, ↓zcS, ↓unC, ↓zW, ↓zK, ↓zL, ↓zN, ↓zZ, ↓zaw, ↓zbT, ↓zag, ↓zbu, ↓zP, ↓zq, ↓zo, ↓zby, ↓zl, ↓zaf, ↓zH, ↓zaC, ↓zaG, ↓ze, ↓zC, ↓zt, ↓zw, ↓zan, ↓zcC, ↓zdb, ↓zal, ↓zat, ↓zaF, ↓zaP, ↓zaW, ↓zu, ↓zai, ↓zM, ↓zA, ↓zaa,zdi,zbd,zba,unA,zdk,bnd,zdw,zac,zS,zdy,dm,dm1,zB,zak,zdP,zdO,zQ,Q0,Q1,Q2,Q3,Q4,Q5,zR,zr,zy,zO,zI,Q6,Q7,Q8,Q9,Q10,Q11,Q12,Q13,Q14,Nat.reduceAdd,Q15,Int.reduceToNat,Q16,Q17,Q18,Q19,Q20,reduceIte,Q21,Q22,zE,rep,zV,zdG,toD,zab,Q23,Q24,Q25,Q26,Q27,Q28,Nat.reduceLeDiff,Q29,Nat.reduceSub,Q30,Q31,Q32,sc,Q33,Q34,Q35,Q36,Q37,Q26,Q38,Q39,zgH,zgE,zgB,zgI,zcf,zgF,zgC,zgG,zgD,zce,zcg,zgJ,zgK,Bool.not_true,Bool.not_false,List.length_map,Option.isSome_some,zks]; rfl) : P := e.mpr h
theorem gq10 {A P Q : Prop} (a : A) (h : Q) (e : A → P = Q := by intro a; simp -dsimp only [↓zey, ↓zau, ↓zbj, ↓zeA, ↓zes, ↓zeq, ↓zet, ↓zer, ↓zbo, ↓zbk, ↓zbp, ↓zbl, ↓zeu, ↓zbi, ↓zbq, ↓zbm, ↓zbr, ↓zbn, ↓zep, ↓zew, ↓zbh, ↓zbs, ↓zeg, ↓zef, ↓zeo,iN,bT,bF,eN, ↓zcS, ↓unC, ↓zW, ↓zK, ↓zL, ↓zN, ↓zZ, ↓zaw, ↓zbT, ↓zag, ↓zbu, ↓zP, ↓zq, ↓zo, ↓zby, ↓zl, ↓zaf, ↓zH, ↓zaC, ↓zaG, ↓ze, ↓zC, ↓zt, ↓zw, ↓zan, ↓zcC, ↓zdb, ↓zal, ↓zat, ↓zaF, ↓zaP, ↓zaW, ↓zu, ↓zai, ↓zM, ↓zA, ↓zaa,zdi,zbd,zba,unA,zdk,bnd,zdw,zac,zS,zdy,dm,dm1,zB,zak,zdP,zdO,zQ,Q0,Q1,Q2,Q3,Q4,Q5,zR,zr,zy,zO,zI,Q6,Q7,Q8,Q9,Q10,Q11,Q12,Q13,Q14,Nat.reduceAdd,Q15,Int.reduceToNat,Q16,Q17,Q18,Q19,Q20,reduceIte,Q21,Q22,zE,rep,zV,zdG,toD,zab,Q23,Q24,Q25,Q26,Q27,Q28,Nat.reduceLeDiff,Q29,Nat.reduceSub,Q30,Q31,Q32,sc,Q33,Q34,Q35,Q36,Q37,Q26,Q38,Q39,zgH,zgE,zgB,zgI,zcf,zgF,zgC,zgG,zgD,zce,zcg,zgJ,zgK,Bool.not_true,Bool.not_false,List.length_map,Option.isSome_none,zks,a]; rfl) : P := (e a).mpr h
theorem zjF {σ : List zg} {id : Nat} {l : List (List UInt8)} {b : List UInt8} (hT : σ[id]? = some (rtO l)) (hbl : b.length ≤ 1073741824) (hl0 : l.length ≤ 1048576) {K : KT}
  (hK : K (.d (.int .i64 (zcI l b))) (σ.set id (rtO (zdH l b)))) : zD Tryz.prog zbc [.box id 0, .d (.slice (bcs b))] σ K := by
 refine acall_ofW zkL.is rfl fun hl _ => zkL.goes ?_
 have hlen : (zdt l).length = l.length := List.length_map ..
 have hb : ∀ τ,(σ ++ τ)[id]? = some (.box [.d (.slice (zdt l))]) := fun τ => zf hT
 have hb0 : σ[id]? = some (.box [.d (.slice (zdt l))]) := hT
 have hlt := zF hT
 simp only [zlc,iN,bT,bF,eN]
 (repeat' first | refine gq1 ?_ | with_reducible first | exact ⟨⟩ | refine zh ?_ | fail)
 refine c_rtLook hT hl0 ?_
 cases ho : zcu l b with
 | some k =>
  simp only [zcI,zdH,ho] at hK
  rw [zbC hT] at hK
  (repeat' first | refine gq9 ?_ | with_reducible first | exact ⟨⟩ | refine zh ?_ | fail)
  refine zlx ?_
  (first | refine zaq hl ?_ | refine zap hl ?_)
  exact hK
 | none =>
  simp only [zcI,zdH,ho] at hK
  by_cases hfull : l.length ≥ 1048576
  ·rw [if_pos hfull,if_pos hfull,zbC hT] at hK
   have hd : decide ((l.length : Int) ≥ 1048576) = true := by simp; omega
   (repeat' first | refine gq10 (zd hb0 (zd hlen hd)) ?_ | with_reducible first | exact ⟨⟩ | refine zh ?_ | fail)
   refine zlx ?_
   (first | refine zaq hl ?_ | refine zap hl ?_)
   exact hK
  ·rw [if_neg hfull,if_neg hfull] at hK
   have hd : decide ((l.length : Int) ≥ 1048576) = false := by simp; omega
   have s1 : ∀ X τ,(σ ++ τ).set id X = σ.set id X ++ τ := fun X τ => zbI hT
   have g1 : ∀ X τ,(σ.set id X ++ τ)[id]? = some X := fun X τ => zf (zbz hT)
   have bl : (bcs b).length = b.length := zeJ b
   have b1 : ∀ e ∈ bcs b,e.length = 1 := zfS
   have t1 : ∀ e ∈ zdt l,e.length = 1 := zif (f := fun b => [D.slice (bcs b)]) (fun _ => rfl) l
   (repeat' first | refine gq10 (zd hb (zd hb0 (zd hlen (zd hd (zd s1 (zd g1 bl)))))) ?_ | with_reducible first | exact ⟨⟩ | refine zh ?_ | fail)
   have e : zdt l ++ [[D.slice (bcs b)]] = zdt (l ++ [b]) := by simp [zdt]
   rw [e]
   exact zsN hT (by simp [zdh,dmT,dm,dm1,zca]) hl hK
theorem gq11 {A P Q : Prop} (a : A) (h : Q) (e : A → P = Q := by intro a; simp -dsimp only [↓zey, ↓zau, ↓zbj, ↓zeA, ↓zes, ↓zeq, ↓zet, ↓zer, ↓zbo, ↓zbk, ↓zbp, ↓zbl, ↓zeu, ↓zbi, ↓zbq, ↓zbm, ↓zbr, ↓zbn, ↓zep, ↓zew, ↓zbh, ↓zbs, ↓zeg, ↓zef, ↓zeo,iN,bT,bF,eN, ↓zcS, ↓unC, ↓zW, ↓zK, ↓zL, ↓zN, ↓zZ, ↓zaw, ↓zbT, ↓zag, ↓zbu, ↓zP, ↓zq, ↓zo, ↓zby, ↓zl, ↓zaf, ↓zH, ↓zaC, ↓zaG, ↓ze, ↓zC, ↓zt, ↓zw, ↓zan, ↓zcC, ↓zdb, ↓zal, ↓zat, ↓zaF, ↓zaP, ↓zaW, ↓zu, ↓zai, ↓zM, ↓zA, ↓zaa,zdi,zbd,zba,unA,zdk,bnd,zdw,zac,zS,zdy,dm,dm1,zB,zak,zdP,zdO,zQ,Q0,Q1,Q2,Q3,Q4,Q5,zR,zr,zy,zO,zI,Q6,Q7,Q8,Q9,Q10,Q11,Q12,Q13,Q14,Nat.reduceAdd,Q15,Int.reduceToNat,Q16,Q17,Q18,Q19,Q20,reduceIte,Q21,Q22,zE,rep,zV,zdG,toD,zab,Q23,Q24,Q25,Q26,Q27,Q28,Nat.reduceLeDiff,Q29,Nat.reduceSub,Q30,Q31,Q32,sc,Q33,Q34,Q35,Q36,Q37,Q26,Q38,Q39,zgH,zgE,zgB,zgI,zcf,zgF,zgC,zgG,zgD,zce,zcg,zgJ,zgK,Bool.not_true,Bool.not_false,List.length_map,beq_self_eq_true,zcT,zid,a]; rfl) : P := (e a).mpr h
theorem gq12 {A P Q : Prop} (a : A) (h : Q) (e : A → P = Q := by intro a; simp -dsimp only [↓zey, ↓zau, ↓zbj, ↓zeA, ↓zes, ↓zeq, ↓zet, ↓zer, ↓zbo, ↓zbk, ↓zbp, ↓zbl, ↓zeu, ↓zbi, ↓zbq, ↓zbm, ↓zbr, ↓zbn, ↓zep, ↓zew, ↓zbh, ↓zbs, ↓zeg, ↓zef, ↓zeo,iN,bT,bF,eN, ↓zcS, ↓unC, ↓zW, ↓zK, ↓zL, ↓zN, ↓zZ, ↓zaw, ↓zbT, ↓zag, ↓zbu, ↓zP, ↓zq, ↓zo, ↓zby, ↓zl, ↓zaf, ↓zH, ↓zaC, ↓zaG, ↓ze, ↓zC, ↓zt, ↓zw, ↓zan, ↓zcC, ↓zdb, ↓zal, ↓zat, ↓zaF, ↓zaP, ↓zaW, ↓zu, ↓zai, ↓zM, ↓zA, ↓zaa,zdi,zbd,zba,unA,zdk,bnd,zdw,zac,zS,zdy,dm,dm1,zB,zak,zdP,zdO,zQ,Q0,Q1,Q2,Q3,Q4,Q5,zR,zr,zy,zO,zI,Q6,Q7,Q8,Q9,Q10,Q11,Q12,Q13,Q14,Nat.reduceAdd,Q15,Int.reduceToNat,Q16,Q17,Q18,Q19,Q20,reduceIte,Q21,Q22,zE,rep,zV,zdG,toD,zab,Q23,Q24,Q25,Q26,Q27,Q28,Nat.reduceLeDiff,Q29,Nat.reduceSub,Q30,Q31,Q32,sc,Q33,Q34,Q35,Q36,Q37,Q26,Q38,Q39,zgH,zgE,zgB,zgI,zcf,zgF,zgC,zgG,zgD,zce,zcg,zgJ,zgK,Bool.not_true,Bool.not_false,List.length_map,Bool.false_and,zcT,zid,a]; rfl) : P := (e a).mpr h
theorem gq13 {A P Q : Prop} (a : A) (h : Q) (e : A → P = Q := by intro a; simp -dsimp only [↓zey, ↓zau, ↓zbj, ↓zeA, ↓zes, ↓zeq, ↓zet, ↓zer, ↓zbo, ↓zbk, ↓zbp, ↓zbl, ↓zeu, ↓zbi, ↓zbq, ↓zbm, ↓zbr, ↓zbn, ↓zep, ↓zew, ↓zbh, ↓zbs, ↓zeg, ↓zef, ↓zeo,iN,bT,bF,eN, ↓zcS, ↓unC, ↓zW, ↓zK, ↓zL, ↓zN, ↓zZ, ↓zaw, ↓zbT, ↓zag, ↓zbu, ↓zP, ↓zq, ↓zo, ↓zby, ↓zl, ↓zaf, ↓zH, ↓zaC, ↓zaG, ↓ze, ↓zC, ↓zt, ↓zw, ↓zan, ↓zcC, ↓zdb, ↓zal, ↓zat, ↓zaF, ↓zaP, ↓zaW, ↓zu, ↓zai, ↓zM, ↓zA, ↓zaa,zdi,zbd,zba,unA,zdk,bnd,zdw,zac,zS,zdy,dm,dm1,zB,zak,zdP,zdO,zQ,Q0,Q1,Q2,Q3,Q4,Q5,zR,zr,zy,zO,zI,Q6,Q7,Q8,Q9,Q10,Q11,Q12,Q13,Q14,Nat.reduceAdd,Q15,Int.reduceToNat,Q16,Q17,Q18,Q19,Q20,reduceIte,Q21,Q22,zE,rep,zV,zdG,toD,zab,Q23,Q24,Q25,Q26,Q27,Q28,Nat.reduceLeDiff,Q29,Nat.reduceSub,Q30,Q31,Q32,sc,Q33,Q34,Q35,Q36,Q37,Q26,Q38,Q39,zgH,zgE,zgB,zgI,zcf,zgF,zgC,zgG,zgD,zce,zcg,zgJ,zgK,Bool.not_true,Bool.not_false,List.length_map,Bool.true_and,zcT,zid,a]; rfl) : P := (e a).mpr h
theorem c_rgSigned {σ : List zg} {id : Nat} {g : List zJ} {s : zJ} (hG : σ[id]? = some (rlO g)) (hg0 : g.length ≤ 1073741824) {K : KT} (hK : K (.d (.bool (decide (s ∈ g)))) σ) :
  zD Tryz.prog zel [.box id 0, .agg [.d (.int .i64 s.key), .d (.int .i64 s.dig)]] σ K := by
 refine zj zhg.is rfl fun hl _ => zhg.goes ?_
 have hlen : (zoh g).length = g.length := List.length_map ..
 have hb : ∀ τ,(σ ++ τ)[id]? = some (.box [.d (.slice (zoh g))]) := fun τ => zf hG
 simp only [zht,iN,bT,bF,eN]
 (repeat' first | refine gq1 ?_ | with_reducible first | exact ⟨⟩ | refine zh ?_ | fail)
 refine zG g.length (fun k vs q => vs = [.d (.int .i64 k)] ∧ q = σ ++ [.box [.d (.int .i64 s.key), .d (.int .i64 s.dig)]] ∧ s ∉ g.take k) ⟨rfl,rfl,by simp⟩ ?_
 rintro k vs q hk ⟨rfl,rfl,hno⟩
 by_cases hlt : k < g.length
 ·have hd : decide ((k : Int) < (g.length : Int)) = true := by simp; omega
  have hx : g[k]? = some g[k] := by simp [hlt]
  have hgx := zae (f := zid) hx
  obtain ⟨x,hxe⟩ : ∃ x,g[k] = x := ⟨_,rfl⟩
  rw [hxe] at hx hgx
  by_cases he : x = s
  ·subst he
   rw [decide_eq_true (List.mem_of_getElem? hx)] at hK
   (repeat' first | refine gq11 (zd hlen (zd hd (zd hb hgx))) ?_ | with_reducible first | exact ⟨⟩ | refine zh ?_ | fail)
   (first | refine zaq hl ?_ | refine zap hl ?_)
   exact hK
  ·have hn2 : s ∉ g.take (k + 1) := by
    rw [List.take_add_one,hx]; simp
    exact ⟨hno,fun h => he h.symm⟩
   have e : x = s ↔ x.key = s.key ∧ x.dig = s.dig := by cases s; cases x; simp
   cases h1 : (x.key == s.key)
   ·(repeat' first | refine gq12 (zd hlen (zd hd (zd hb (zd hgx (zd h1 (wki k (by omega))))))) ?_ | with_reducible first | exact ⟨⟩ | refine zh ?_ | fail)
    exact zav.next hlt ⟨rfl,rfl,hn2⟩
   ·have h2 : (x.dig == s.dig) = false := by
     have : ¬ x.dig = s.dig := fun h => he (e.2 ⟨by simpa using h1,h⟩)
     simpa using this
    (repeat' first | refine gq13 (zd hlen (zd hd (zd hb (zd hgx (zd h1 (zd h2 (wki k (by omega)))))))) ?_ | with_reducible first | exact ⟨⟩ | refine zh ?_ | fail)
    exact zav.next hlt ⟨rfl,rfl,hn2⟩
 ·have hd : decide ((k : Int) < (g.length : Int)) = false := by simp; omega
  rw [List.take_of_length_le (by omega)] at hno
  rw [decide_eq_false hno] at hK
  (repeat' first | refine gq2 (zd hlen (zd hd hb)) ?_ | with_reducible first | exact ⟨⟩ | refine zh ?_ | fail)
  (first | refine zaq hl ?_ | refine zap hl ?_)
  exact hK
theorem c_rgSign {σ : List zg} {id : Nat} {g : List zJ} {k d : Int} (hG : σ[id]? = some (rlO g)) (hgl : g.length ≤ 1073741824) {K : KT}
  (hK : K (.tup [ztP (signR k d), .d (.int .i64 (zdu k d))]) (σ.set id (rlO (zeL g k d)))) : zD Tryz.prog zdJ [.box id 0, .d (.int .i64 k), .d (.int .i64 d)] σ K := by
 refine acall_ofW ziL.is rfl fun hl _ => ziL.goes ?_
 have hb : ∀ τ,(σ ++ τ)[id]? = some (.box [.d (.slice (zoh g))]) := fun τ => zf hG
 have hlen : (zoh g).length = g.length := List.length_map ..
 have bad : zdu k d ≠ 0 → K (.tup [.agg [.d (.int .i64 0), .d (.int .i64 0)], .d (.int .i64 (zdu k d))]) σ := fun h => by
  rw [signR,zeL,if_neg h,if_neg h,zbC hG] at hK
  exact hK
 simp only [zja,iN,bT,bF,eN]
 (repeat' first | refine gq1 ?_ | with_reducible first | exact ⟨⟩ | refine zh ?_ | fail)
 cases h1 : decide (k < 0)
 ·cases h2 : decide (k ≥ 21)
  ·have hk : ¬ (k < 0 ∨ k ≥ 21) := by simp at h1 h2; omega
   cases h3 : decide (d < 1)
   ·have he : zdu k d = 0 := by rw [zdu,if_neg hk,if_neg (by simpa using h3)]
    rw [he,signR,zeL,if_pos he,if_pos he] at hK
    (repeat' first | refine gq2 (zd h1 (zd h2 h3)) ?_ | with_reducible first | exact ⟨⟩ | refine zh ?_ | fail)
    refine c_rgSigned (s := ⟨k,d⟩) (zf hG) hgl ?_
    by_cases hs : (⟨k,d⟩ : zJ) ∈ g
    ·rw [decide_eq_true hs]
     rw [zkg,if_pos hs,zbC hG] at hK
     (repeat' first | refine gq2 hb ?_ | with_reducible first | exact ⟨⟩ | refine zh ?_ | fail)
     refine zlx ?_
     (first | refine zaq hl ?_ | refine zap hl ?_)
     exact hK
    ·rw [decide_eq_false hs]
     rw [zkg,if_neg hs] at hK
     have s1 : ∀ X τ,(σ ++ τ).set id X = σ.set id X ++ τ := fun X τ => zbI hG
     have L1 : ∀ X : zg, σ.length = (σ.set id X).length := fun X => by simp
     have e1 : ∀ X τ n,(σ.set id X ++ τ)[σ.length + n]? = τ[n]? := fun X τ n => by rw [L1 X]; exact zr ..
     have e3 : ∀ X τ W,(σ.set id X ++ τ).set σ.length W = σ.set id X ++ τ.set 0 W := fun X τ W => by rw [L1 X]; exact zI ..
     have e4 : ∀ X τ,(σ.set id X ++ τ)[σ.length]? = τ[0]? := fun X τ => by rw [L1 X]; exact zy ..
     (repeat' first | refine gq2 (zd hb (zd hlen (zd s1 (zd e1 (zd e3 e4))))) ?_ | with_reducible first | exact ⟨⟩ | refine zh ?_ | fail)
     have e : zoh g ++ [[D.int .i64 k,D.int .i64 d]] = zoh (g ++ [⟨k,d⟩]) := by simp [zoh,zaz,zid]
     refine ⟨zif (f := zid) (fun _ => rfl) g,by simp,by omega,by simp,by omega, ?_⟩
     rw [e]
     exact zsN hG (by simp [zdh,dmT,dm,dm1,zca,zbv,zeB]) hl hK
   ·have he : zdu k d = 1 := by rw [zdu,if_neg hk,if_pos (by simpa using h3)]
    have := bad (by rw [he]; decide)
    rw [he] at this
    (repeat' first | refine gq2 (zd h1 (zd h2 h3)) ?_ | with_reducible first | exact ⟨⟩ | refine zh ?_ | fail)
    refine zlx ?_
    (first | refine zaq hl ?_ | refine zap hl ?_)
    exact this
  ·have he : zdu k d = 20 := by rw [zdu,if_pos (by simp at h2; omega)]
   have := bad (by rw [he]; decide)
   rw [he] at this
   (repeat' first | refine gq2 (zd h1 h2) ?_ | with_reducible first | exact ⟨⟩ | refine zh ?_ | fail)
   refine zlx ?_
   (first | refine zaq hl ?_ | refine zap hl ?_)
   exact this
 ·have he : zdu k d = 20 := by rw [zdu,if_pos (by simp at h1; omega)]
  have := bad (by rw [he]; decide)
  rw [he] at this
  (repeat' first | refine gq2 h1 ?_ | with_reducible first | exact ⟨⟩ | refine zh ?_ | fail)
  refine zlx ?_
  (first | refine zaq hl ?_ | refine zap hl ?_)
  exact this
end Go.Proofs.YtncpaekiidpchaaGreat

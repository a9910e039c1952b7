/- Contracts: the document's tables and ledgers. -/
import Derived.Test.YtncpaekiidpchaaGreatId2
set_option linter.all false
set_option maxRecDepth 100000
namespace Go.Proofs.YtncpaekiidpchaaGreat
open Go.AW
def rtO (l : List (List UInt8)) : zh := .box [.d (.slice (zcy l))]
def rlO (g : List zS) : zh := .box [.d (.slice (zoQ g))]
theorem zeG (n : Nat) (l : List (List UInt8)) : ztl n (rtO l) := by
 intro c hc
 simp only [List.mem_cons,List.not_mem_nil,or_false] at hc
 subst hc; exact .d _
theorem rlO_low (n : Nat) (g : List zS) : ztl n (rlO g) := by
 intro c hc
 simp only [List.mem_cons,List.not_mem_nil,or_false] at hc
 subst hc; exact .d _
theorem wki (k : Nat) (h : k ≤ 1073741824) : IntKind.i64.wrap ((k : Int) + 1) = ((k + 1 : Nat) : Int) := by rw [zP (by omega) (by omega)]; rfl
theorem gq8 {P Q : Prop} (h : Q) (e : P = Q := by simp -dsimp only [↓zen, ↓zaw, ↓zba, ↓zeo, ↓zej, ↓zeh, ↓zek, ↓zei, ↓zbf, ↓zbb, ↓zbg, ↓zbc, ↓zel, ↓zaZ, ↓zbh, ↓zbd, ↓zbi, ↓zbe, ↓zeg, ↓zem, ↓zaY, ↓zbj, ↓zee, ↓zed, ↓zef,iN,bT,bF,eN, ↓zcI, ↓unC, ↓zV, ↓zJ, ↓zK, ↓zN, ↓zaa, ↓zas, ↓zbH, ↓zah, ↓zaV, ↓zQ, ↓zp, ↓zo, ↓zbr, ↓zk, ↓zag, ↓zG, ↓zaB, ↓zaF, ↓ze, ↓zE, ↓zr, ↓zw, ↓zam, ↓zcs, ↓zcM, ↓zak, ↓zat, ↓zaE, ↓zaJ, ↓zaP, ↓zu, ↓zai, ↓zL, ↓zA, ↓zab,zcT,zaU,zaT,unA,zcW,bnd,zds,zae,zR,zdv,dm,dm1,zC,zaj,zdH,zdG,zM,Q0,Q1,Q2,Q3,Q4,Q5,zT,zq,zx,zO,zI,Q6,Q7,Q8,Q9,Q10,Q11,Q12,Q13,Q14,Nat.reduceAdd,Q15,Int.reduceToNat,Q16,Q17,Q18,Q19,Q20,reduceIte,Q21,Q22,zF,rep,zY,zdD,toD,zad,Q23,Q24,Q25,Q26,Q27,Q28,Nat.reduceLeDiff,Q29,Nat.reduceSub,Q30,Q31,Q32,sc,Q33,Q34,Q35,Q36,Q37,Q26,Q38,Q39,zfZ,zfW,zfT,zga,zbR,zfX,zfU,zfY,zfV,zbQ,zbS,zgb,zgc,Bool.not_true,Bool.not_false,List.length_map,znv]; rfl) : P := e.mpr h
theorem c_rtSame {σ : List zh} {a b : List UInt8} {K : KT} (hK : K (.d (.bool (a == b))) σ) : zy Tryz.prog zpl [.d (.slice (bcs a)), .d (.slice (bcs b))] σ K := by
 refine zi zuj.is rfl fun hl _ => zuj.goes ?_
 simp only [zuW,iN,bT,bF,eN]
 (repeat' first | refine gq8 ?_ | with_reducible first | exact ⟨⟩ | refine zg ?_ | fail)
 (first | refine zX hl ?_ | refine zW hl ?_)
 exact hK
theorem zkk {σ : List zh} {id : Nat} {l : List (List UInt8)} {b : List UInt8} (hT : σ[id]? = some (rtO l)) (hl0 : l.length ≤ 1048576) {K : KT}
  (hK : K (.tup [.d (.int .i64 (zlb (zcX l b))), .d (.bool (zcX l b).isSome)]) σ) : zy Tryz.prog zbs [.box id 0, .d (.slice (bcs b))] σ K := by
 refine zi zks.is rfl fun hl _ => zks.goes ?_
 have hlen : (zcy l).length = l.length := List.length_map ..
 have hb : σ[id]? = some (.box [.d (.slice (zcy l))]) := hT
 simp only [zkG,iN,bT,bF,eN]
 refine zB l.length (fun k vs s => vs = [.d (.int .i64 k)] ∧ s = σ ∧ zcX (l.take k) b = none) ⟨rfl,rfl,rfl⟩ ?_
 rintro k vs s hk ⟨rfl,rfl,hno⟩
 by_cases hlt : k < l.length
 ·have hd : decide ((k : Int) < (l.length : Int)) = true := by simp; omega
  have hx : l[k]? = some l[k] := by simp [hlt]
  have hgx := zU (f := fun b => [D.slice (bcs b)]) hx
  obtain ⟨x,hxe⟩ : ∃ x,l[k] = x := ⟨_,rfl⟩
  rw [hxe] at hx hgx
  (repeat' first | refine gq2 (zc hlen (zc hd (zc hb hgx))) ?_ | with_reducible first | exact ⟨⟩ | refine zg ?_ | fail)
  refine c_rtSame ?_
  cases he : (x == b)
  ·(repeat' first | refine gq2 (wki k (by omega)) ?_ | with_reducible first | exact ⟨⟩ | refine zg ?_ | fail)
   exact zap.next hlt ⟨rfl,rfl,look_next hx hno he⟩
  ·rw [look_hit hx hno he] at hK
   (repeat' first | refine gq2 (wki k (by omega)) ?_ | with_reducible first | exact ⟨⟩ | refine zg ?_ | fail)
   (first | refine zX hl ?_ | refine zW hl ?_)
   exact hK
 ·have hd : decide ((k : Int) < (l.length : Int)) = false := by simp; omega
  rw [List.take_of_length_le (by omega)] at hno
  rw [hno] at hK
  (repeat' first | refine gq2 (zc hlen (zc hd hb)) ?_ | with_reducible first | exact ⟨⟩ | refine zg ?_ | fail)
  (first | refine zX hl ?_ | refine zW hl ?_)
  exact hK
theorem gq9 {P Q : Prop} (h : Q) (e : P = Q := by simp -dsimp only [↓zen, ↓zaw, ↓zba, ↓zeo, ↓zej, ↓zeh, ↓zek, ↓zei, ↓zbf, ↓zbb, ↓zbg, ↓zbc, ↓zel, ↓zaZ, ↓zbh, ↓zbd, ↓zbi, ↓zbe, ↓zeg, ↓zem, ↓zaY, ↓zbj, ↓zee, ↓zed, ↓zef,iN,bT,bF,eN, ↓zcI, ↓unC, ↓zV, ↓zJ, ↓zK, ↓zN, ↓zaa, ↓zas, ↓zbH, ↓zah, ↓zaV, ↓zQ, ↓zp, ↓zo, ↓zbr, ↓zk, ↓zag, ↓zG, ↓zaB, ↓zaF, ↓ze, ↓zE, ↓zr, ↓zw, ↓zam, ↓zcs, ↓zcM, ↓zak, ↓zat, ↓zaE, ↓zaJ, ↓zaP, ↓zu, ↓zai, ↓zL, ↓zA, ↓zab,zcT,zaU,zaT,unA,zcW,bnd,zds,zae,zR,zdv,dm,dm1,zC,zaj,zdH,zdG,zM,Q0,Q1,Q2,Q3,Q4,Q5,zT,zq,zx,zO,zI,Q6,Q7,Q8,Q9,Q10,Q11,Q12,Q13,Q14,Nat.reduceAdd,Q15,Int.reduceToNat,Q16,Q17,Q18,Q19,Q20,reduceIte,Q21,Q22,zF,rep,zY,zdD,toD,zad,Q23,Q24,Q25,Q26,Q27,Q28,Nat.reduceLeDiff,Q29,Nat.reduceSub,Q30,Q31,Q32,sc,Q33,Q34,Q35,Q36,Q37,Q26,Q38,Q39,zfZ,zfW,zfT,zga,zbR,zfX,zfU,zfY,zfV,zbQ,zbS,zgb,zgc,Bool.not_true,Bool.not_false,List.length_map,Option.isSome_some,zlb]; rfl) : P := e.mpr h
theorem gq10 {A P Q : Prop} (a : A) (h : Q) (e : A → P = Q := by intro a; simp -dsimp only [↓zen, ↓zaw, ↓zba, ↓zeo, ↓zej, ↓zeh, ↓zek, ↓zei, ↓zbf, ↓zbb, ↓zbg, ↓zbc, ↓zel, ↓zaZ, ↓zbh, ↓zbd, ↓zbi, ↓zbe, ↓zeg, ↓zem, ↓zaY, ↓zbj, ↓zee, ↓zed, ↓zef,iN,bT,bF,eN, ↓zcI, ↓unC, ↓zV, ↓zJ, ↓zK, ↓zN, ↓zaa, ↓zas, ↓zbH, ↓zah, ↓zaV, ↓zQ, ↓zp, ↓zo, ↓zbr, ↓zk, ↓zag, ↓zG, ↓zaB, ↓zaF, ↓ze, ↓zE, ↓zr, ↓zw, ↓zam, ↓zcs, ↓zcM, ↓zak, ↓zat, ↓zaE, ↓zaJ, ↓zaP, ↓zu, ↓zai, ↓zL, ↓zA, ↓zab,zcT,zaU,zaT,unA,zcW,bnd,zds,zae,zR,zdv,dm,dm1,zC,zaj,zdH,zdG,zM,Q0,Q1,Q2,Q3,Q4,Q5,zT,zq,zx,zO,zI,Q6,Q7,Q8,Q9,Q10,Q11,Q12,Q13,Q14,Nat.reduceAdd,Q15,Int.reduceToNat,Q16,Q17,Q18,Q19,Q20,reduceIte,Q21,Q22,zF,rep,zY,zdD,toD,zad,Q23,Q24,Q25,Q26,Q27,Q28,Nat.reduceLeDiff,Q29,Nat.reduceSub,Q30,Q31,Q32,sc,Q33,Q34,Q35,Q36,Q37,Q26,Q38,Q39,zfZ,zfW,zfT,zga,zbR,zfX,zfU,zfY,zfV,zbQ,zbS,zgb,zgc,Bool.not_true,Bool.not_false,List.length_map,Option.isSome_none,zlb,a]; rfl) : P := (e a).mpr h
theorem zkj {σ : List zh} {id : Nat} {l : List (List UInt8)} {b : List UInt8} (hT : σ[id]? = some (rtO l)) (hbl : b.length ≤ 1073741824) (hl0 : l.length ≤ 1048576) {K : KT}
  (hK : K (.d (.int .i64 (zew l b))) (σ.set id (rtO (zfo l b)))) : zy Tryz.prog zbq [.box id 0, .d (.slice (bcs b))] σ K := by
 refine acall_ofW zly.is rfl fun hl _ => zly.goes ?_
 have hlen : (zcy l).length = l.length := List.length_map ..
 have hb : ∀ τ,(σ ++ τ)[id]? = some (.box [.d (.slice (zcy l))]) := fun τ => zf hT
 have hb0 : σ[id]? = some (.box [.d (.slice (zcy l))]) := hT
 have hlt := zH hT
 simp only [zlS,iN,bT,bF,eN]
 (repeat' first | refine gq1 ?_ | with_reducible first | exact ⟨⟩ | refine zg ?_ | fail)
 refine zkk hT hl0 ?_
 cases ho : zcX l b with
 | some k =>
  simp only [zew,zfo,ho] at hK
  rw [zbC hT] at hK
  (repeat' first | refine gq9 ?_ | with_reducible first | exact ⟨⟩ | refine zg ?_ | fail)
  refine zmm ?_
  (first | refine zX hl ?_ | refine zW hl ?_)
  exact hK
 | none =>
  simp only [zew,zfo,ho] at hK
  by_cases hfull : l.length ≥ 1048576
  ·rw [if_pos hfull,if_pos hfull,zbC hT] at hK
   have hd : decide ((l.length : Int) ≥ 1048576) = true := by simp; omega
   (repeat' first | refine gq10 (zc hb0 (zc hlen hd)) ?_ | with_reducible first | exact ⟨⟩ | refine zg ?_ | fail)
   refine zmm ?_
   (first | refine zX hl ?_ | refine zW hl ?_)
   exact hK
  ·rw [if_neg hfull,if_neg hfull] at hK
   have hd : decide ((l.length : Int) ≥ 1048576) = false := by simp; omega
   have s1 : ∀ X τ,(σ ++ τ).set id X = σ.set id X ++ τ := fun X τ => zbD hT
   have g1 : ∀ X τ,(σ.set id X ++ τ)[id]? = some X := fun X τ => zf (zbm hT)
   have bl : (bcs b).length = b.length := zea b
   have b1 : ∀ e ∈ bcs b,e.length = 1 := zgv
   have t1 : ∀ e ∈ zcy l,e.length = 1 := zgo (f := fun b => [D.slice (bcs b)]) (fun _ => rfl) l
   (repeat' first | refine gq10 (zc hb (zc hb0 (zc hlen (zc hd (zc s1 (zc g1 bl)))))) ?_ | with_reducible first | exact ⟨⟩ | refine zg ?_ | fail)
   have e : zcy l ++ [[D.slice (bcs b)]] = zcy (l ++ [b]) := by simp [zcy]
   rw [e]
   exact ztT hT (by simp [zcZ,dmT,dm,dm1,zcf]) hl hK
theorem gq11 {A P Q : Prop} (a : A) (h : Q) (e : A → P = Q := by intro a; simp -dsimp only [↓zen, ↓zaw, ↓zba, ↓zeo, ↓zej, ↓zeh, ↓zek, ↓zei, ↓zbf, ↓zbb, ↓zbg, ↓zbc, ↓zel, ↓zaZ, ↓zbh, ↓zbd, ↓zbi, ↓zbe, ↓zeg, ↓zem, ↓zaY, ↓zbj, ↓zee, ↓zed, ↓zef,iN,bT,bF,eN, ↓zcI, ↓unC, ↓zV, ↓zJ, ↓zK, ↓zN, ↓zaa, ↓zas, ↓zbH, ↓zah, ↓zaV, ↓zQ, ↓zp, ↓zo, ↓zbr, ↓zk, ↓zag, ↓zG, ↓zaB, ↓zaF, ↓ze, ↓zE, ↓zr, ↓zw, ↓zam, ↓zcs, ↓zcM, ↓zak, ↓zat, ↓zaE, ↓zaJ, ↓zaP, ↓zu, ↓zai, ↓zL, ↓zA, ↓zab,zcT,zaU,zaT,unA,zcW,bnd,zds,zae,zR,zdv,dm,dm1,zC,zaj,zdH,zdG,zM,Q0,Q1,Q2,Q3,Q4,Q5,zT,zq,zx,zO,zI,Q6,Q7,Q8,Q9,Q10,Q11,Q12,Q13,Q14,Nat.reduceAdd,Q15,Int.reduceToNat,Q16,Q17,Q18,Q19,Q20,reduceIte,Q21,Q22,zF,rep,zY,zdD,toD,zad,Q23,Q24,Q25,Q26,Q27,Q28,Nat.reduceLeDiff,Q29,Nat.reduceSub,Q30,Q31,Q32,sc,Q33,Q34,Q35,Q36,Q37,Q26,Q38,Q39,zfZ,zfW,zfT,zga,zbR,zfX,zfU,zfY,zfV,zbQ,zbS,zgb,zgc,Bool.not_true,Bool.not_false,List.length_map,beq_self_eq_true,zda,zgn,a]; rfl) : P := (e a).mpr h
theorem gq12 {A P Q : Prop} (a : A) (h : Q) (e : A → P = Q := by intro a; simp -dsimp only [↓zen, ↓zaw, ↓zba, ↓zeo, ↓zej, ↓zeh, ↓zek, ↓zei, ↓zbf, ↓zbb, ↓zbg, ↓zbc, ↓zel, ↓zaZ, ↓zbh, ↓zbd, ↓zbi, ↓zbe, ↓zeg, ↓zem, ↓zaY, ↓zbj, ↓zee, ↓zed, ↓zef,iN,bT,bF,eN, ↓zcI, ↓unC, ↓zV, ↓zJ, ↓zK, ↓zN, ↓zaa, ↓zas, ↓zbH, ↓zah, ↓zaV, ↓zQ, ↓zp, ↓zo, ↓zbr, ↓zk, ↓zag, ↓zG, ↓zaB, ↓zaF, ↓ze, ↓zE, ↓zr, ↓zw, ↓zam, ↓zcs, ↓zcM, ↓zak, ↓zat, ↓zaE, ↓zaJ, ↓zaP, ↓zu, ↓zai, ↓zL, ↓zA, ↓zab,zcT,zaU,zaT,unA,zcW,bnd,zds,zae,zR,zdv,dm,dm1,zC,zaj,zdH,zdG,zM,Q0,Q1,Q2,Q3,Q4,Q5,zT,zq,zx,zO,zI,Q6,Q7,Q8,Q9,Q10,Q11,Q12,Q13,Q14,Nat.reduceAdd,Q15,Int.reduceToNat,Q16,Q17,Q18,Q19,Q20,reduceIte,Q21,Q22,zF,rep,zY,zdD,toD,zad,Q23,Q24,Q25,Q26,Q27,Q28,Nat.reduceLeDiff,Q29,Nat.reduceSub,Q30,Q31,Q32,sc,Q33,Q34,Q35,Q36,Q37,Q26,Q38,Q39,zfZ,zfW,zfT,zga,zbR,zfX,zfU,zfY,zfV,zbQ,zbS,zgb,zgc,Bool.not_true,Bool.not_false,List.length_map,Bool.false_and,zda,zgn,a]; rfl) : P := (e a).mpr h
theorem gq13 {A P Q : Prop} (a : A) (h : Q) (e : A → P = Q := by intro a; simp -dsimp only [↓zen, ↓zaw, ↓zba, ↓zeo, ↓zej, ↓zeh, ↓zek, ↓zei, ↓zbf, ↓zbb, ↓zbg, ↓zbc, ↓zel, ↓zaZ, ↓zbh, ↓zbd, ↓zbi, ↓zbe, ↓zeg, ↓zem, ↓zaY, ↓zbj, ↓zee, ↓zed, ↓zef,iN,bT,bF,eN, ↓zcI, ↓unC, ↓zV, ↓zJ, ↓zK, ↓zN, ↓zaa, ↓zas, ↓zbH, ↓zah, ↓zaV, ↓zQ, ↓zp, ↓zo, ↓zbr, ↓zk, ↓zag, ↓zG, ↓zaB, ↓zaF, ↓ze, ↓zE, ↓zr, ↓zw, ↓zam, ↓zcs, ↓zcM, ↓zak, ↓zat, ↓zaE, ↓zaJ, ↓zaP, ↓zu, ↓zai, ↓zL, ↓zA, ↓zab,zcT,zaU,zaT,unA,zcW,bnd,zds,zae,zR,zdv,dm,dm1,zC,zaj,zdH,zdG,zM,Q0,Q1,Q2,Q3,Q4,Q5,zT,zq,zx,zO,zI,Q6,Q7,Q8,Q9,Q10,Q11,Q12,Q13,Q14,Nat.reduceAdd,Q15,Int.reduceToNat,Q16,Q17,Q18,Q19,Q20,reduceIte,Q21,Q22,zF,rep,zY,zdD,toD,zad,Q23,Q24,Q25,Q26,Q27,Q28,Nat.reduceLeDiff,Q29,Nat.reduceSub,Q30,Q31,Q32,sc,Q33,Q34,Q35,Q36,Q37,Q26,Q38,Q39,zfZ,zfW,zfT,zga,zbR,zfX,zfU,zfY,zfV,zbQ,zbS,zgb,zgc,Bool.not_true,Bool.not_false,List.length_map,Bool.true_and,zda,zgn,a]; rfl) : P := (e a).mpr h
theorem zuv {σ : List zh} {id : Nat} {g : List zS} {s : zS} (hG : σ[id]? = some (rlO g)) (hg0 : g.length ≤ 1073741824) {K : KT} (hK : K (.d (.bool (decide (s ∈ g)))) σ) :
  zy Tryz.prog zdh [.box id 0, .agg [.d (.int .i64 s.key), .d (.int .i64 s.dig)]] σ K := by
 refine zi zhE.is rfl fun hl _ => zhE.goes ?_
 have hlen : (zoQ g).length = g.length := List.length_map ..
 have hb : ∀ τ,(σ ++ τ)[id]? = some (.box [.d (.slice (zoQ g))]) := fun τ => zf hG
 simp only [zhS,iN,bT,bF,eN]
 (repeat' first | refine gq1 ?_ | with_reducible first | exact ⟨⟩ | refine zg ?_ | fail)
 refine zB g.length (fun k vs q => vs = [.d (.int .i64 k)] ∧ q = σ ++ [.box [.d (.int .i64 s.key), .d (.int .i64 s.dig)]] ∧ s ∉ g.take k) ⟨rfl,rfl,by simp⟩ ?_
 rintro k vs q hk ⟨rfl,rfl,hno⟩
 by_cases hlt : k < g.length
 ·have hd : decide ((k : Int) < (g.length : Int)) = true := by simp; omega
  have hx : g[k]? = some g[k] := by simp [hlt]
  have hgx := zU (f := zgn) hx
  obtain ⟨x,hxe⟩ : ∃ x,g[k] = x := ⟨_,rfl⟩
  rw [hxe] at hx hgx
  by_cases he : x = s
  ·subst he
   rw [decide_eq_true (List.mem_of_getElem? hx)] at hK
   (repeat' first | refine gq11 (zc hlen (zc hd (zc hb hgx))) ?_ | with_reducible first | exact ⟨⟩ | refine zg ?_ | fail)
   (first | refine zX hl ?_ | refine zW hl ?_)
   exact hK
  ·have hn2 : s ∉ g.take (k + 1) := by
    rw [List.take_add_one,hx]; simp
    exact ⟨hno,fun h => he h.symm⟩
   have e : x = s ↔ x.key = s.key ∧ x.dig = s.dig := by cases s; cases x; simp
   cases h1 : (x.key == s.key)
   ·(repeat' first | refine gq12 (zc hlen (zc hd (zc hb (zc hgx (zc h1 (wki k (by omega))))))) ?_ | with_reducible first | exact ⟨⟩ | refine zg ?_ | fail)
    exact zap.next hlt ⟨rfl,rfl,hn2⟩
   ·have h2 : (x.dig == s.dig) = false := by
     have : ¬ x.dig = s.dig := fun h => he (e.2 ⟨by simpa using h1,h⟩)
     simpa using this
    (repeat' first | refine gq13 (zc hlen (zc hd (zc hb (zc hgx (zc h1 (zc h2 (wki k (by omega)))))))) ?_ | with_reducible first | exact ⟨⟩ | refine zg ?_ | fail)
    exact zap.next hlt ⟨rfl,rfl,hn2⟩
 ·have hd : decide ((k : Int) < (g.length : Int)) = false := by simp; omega
  rw [List.take_of_length_le (by omega)] at hno
  rw [decide_eq_false hno] at hK
  (repeat' first | refine gq2 (zc hlen (zc hd hb)) ?_ | with_reducible first | exact ⟨⟩ | refine zg ?_ | fail)
  (first | refine zX hl ?_ | refine zW hl ?_)
  exact hK
theorem c_rgSign {σ : List zh} {id : Nat} {g : List zS} {k d : Int} (hG : σ[id]? = some (rlO g)) (hgl : g.length ≤ 1073741824) {K : KT}
  (hK : K (.tup [zvd (signR k d), .d (.int .i64 (zeW k d))]) (σ.set id (rlO (zgT g k d)))) : zy Tryz.prog zdX [.box id 0, .d (.int .i64 k), .d (.int .i64 d)] σ K := by
 refine acall_ofW zjn.is rfl fun hl _ => zjn.goes ?_
 have hb : ∀ τ,(σ ++ τ)[id]? = some (.box [.d (.slice (zoQ g))]) := fun τ => zf hG
 have hlen : (zoQ g).length = g.length := List.length_map ..
 have bad : zeW k d ≠ 0 → K (.tup [.agg [.d (.int .i64 0), .d (.int .i64 0)], .d (.int .i64 (zeW k d))]) σ := fun h => by
  rw [signR,zgT,if_neg h,if_neg h,zbC hG] at hK
  exact hK
 simp only [zjC,iN,bT,bF,eN]
 (repeat' first | refine gq1 ?_ | with_reducible first | exact ⟨⟩ | refine zg ?_ | fail)
 cases h1 : decide (k < 0)
 ·cases h2 : decide (k ≥ 21)
  ·have hk : ¬ (k < 0 ∨ k ≥ 21) := by simp at h1 h2; omega
   cases h3 : decide (d < 1)
   ·have he : zeW k d = 0 := by rw [zeW,if_neg hk,if_neg (by simpa using h3)]
    rw [he,signR,zgT,if_pos he,if_pos he] at hK
    (repeat' first | refine gq2 (zc h1 (zc h2 h3)) ?_ | with_reducible first | exact ⟨⟩ | refine zg ?_ | fail)
    refine zuv (s := ⟨k,d⟩) (zf hG) hgl ?_
    by_cases hs : (⟨k,d⟩ : zS) ∈ g
    ·rw [decide_eq_true hs]
     rw [zsW,if_pos hs,zbC hG] at hK
     (repeat' first | refine gq2 hb ?_ | with_reducible first | exact ⟨⟩ | refine zg ?_ | fail)
     refine zmm ?_
     (first | refine zX hl ?_ | refine zW hl ?_)
     exact hK
    ·rw [decide_eq_false hs]
     rw [zsW,if_neg hs] at hK
     have s1 : ∀ X τ,(σ ++ τ).set id X = σ.set id X ++ τ := fun X τ => zbD hG
     have L1 : ∀ X : zh, σ.length = (σ.set id X).length := fun X => by simp
     have e1 : ∀ X τ n,(σ.set id X ++ τ)[σ.length + n]? = τ[n]? := fun X τ n => by rw [L1 X]; exact zq ..
     have e3 : ∀ X τ W,(σ.set id X ++ τ).set σ.length W = σ.set id X ++ τ.set 0 W := fun X τ W => by rw [L1 X]; exact zI ..
     have e4 : ∀ X τ,(σ.set id X ++ τ)[σ.length]? = τ[0]? := fun X τ => by rw [L1 X]; exact zx ..
     (repeat' first | refine gq2 (zc hb (zc hlen (zc s1 (zc e1 (zc e3 e4))))) ?_ | with_reducible first | exact ⟨⟩ | refine zg ?_ | fail)
     have e : zoQ g ++ [[D.int .i64 k,D.int .i64 d]] = zoQ (g ++ [⟨k,d⟩]) := by simp [zoQ,zax,zgn]
     refine ⟨zgo (f := zgn) (fun _ => rfl) g,by simp,by omega,by simp,by omega, ?_⟩
     rw [e]
     exact ztT hG (by simp [zcZ,dmT,dm,dm1,zcf,zbu,zeu]) hl hK
   ·have he : zeW k d = 1 := by rw [zeW,if_neg hk,if_pos (by simpa using h3)]
    have := bad (by rw [he]; decide)
    rw [he] at this
    (repeat' first | refine gq2 (zc h1 (zc h2 h3)) ?_ | with_reducible first | exact ⟨⟩ | refine zg ?_ | fail)
    refine zmm ?_
    (first | refine zX hl ?_ | refine zW hl ?_)
    exact this
  ·have he : zeW k d = 20 := by rw [zeW,if_pos (by simp at h2; omega)]
   have := bad (by rw [he]; decide)
   rw [he] at this
   (repeat' first | refine gq2 (zc h1 h2) ?_ | with_reducible first | exact ⟨⟩ | refine zg ?_ | fail)
   refine zmm ?_
   (first | refine zX hl ?_ | refine zW hl ?_)
   exact this
 ·have he : zeW k d = 20 := by rw [zeW,if_pos (by simp at h1; omega)]
  have := bad (by rw [he]; decide)
  rw [he] at this
  (repeat' first | refine gq2 h1 ?_ | with_reducible first | exact ⟨⟩ | refine zg ?_ | fail)
  refine zmm ?_
  (first | refine zX hl ?_ | refine zW hl ?_)
  exact this
end Go.Proofs.YtncpaekiidpchaaGreat

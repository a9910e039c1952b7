/- Contracts: an operation in memory of its own. -/
import Derived.Test.YtncpaekiidpchaaGreatCl1
import Derived.Test.YtncpaekiidpchaaGreatSh
set_option linter.all false
set_option maxRecDepth 100000
namespace Go.Proofs.YtncpaekiidpchaaGreat
open Go.AW
end Go.Proofs.YtncpaekiidpchaaGreat

/- Contracts: which operations are the same, by the reference. -/
set_option maxRecDepth 100000
namespace Go.Proofs.YtncpaekiidpchaaGreat
open Go.AW
theorem zhh {A B : Prop} (a : A) (b : B) : A ∧ B := ⟨a,b⟩
theorem gq28 {P Q : Prop} (h : Q) (e : P = Q := by simp -dsimp only [↓zcR, ↓zal, ↓zaM, ↓zcS, ↓zcN, ↓zcL, ↓zcO, ↓zcM, ↓zaR, ↓zaN, ↓zaS, ↓zaO, ↓zcP, ↓zaL, ↓zaT, ↓zaP, ↓zaU, ↓zaQ, ↓zcK, ↓zcQ, ↓zaK, ↓zaV, ↓zcI, ↓zcH, ↓zcJ,iN,bT,bF,eN, ↓zbI, ↓unC, ↓zQ, ↓zF, ↓zG, ↓zI, ↓zR, ↓zap, ↓zbp, ↓zab, ↓zaX, ↓zP, ↓zp, ↓zm, ↓zbg, ↓zi, ↓zY, ↓zB, ↓zas, ↓zaw, ↓ze, ↓zC, ↓zr, ↓zt, ↓zad, ↓zbL, ↓zbY, ↓zaa, ↓zaj, ↓zau, ↓zaB, ↓zaD, ↓zl, ↓zZ, ↓zH, ↓zu, ↓zS,zcd,zaI,zaH,unA,zce,bnd,zcn,zX,zV,zcp,dm,dm1,zD,zag,zcy,zcx,zU,Q0,Q1,Q2,Q3,Q4,Q5,zO,zq,zw,zM,zE,Q6,Q7,Q8,Q9,Q10,Q11,Q12,Q13,Q14,Nat.reduceAdd,Q15,Int.reduceToNat,Q16,Q17,Q18,Q19,Q20,reduceIte,Q21,Q22,zx,rep,zT,zcv,toD,zW,Q23,Q24,Q25,Q26,Q27,Q28,Nat.reduceLeDiff,Q29,Nat.reduceSub,Q30,Q31,Q32,sc,Q33,Q34,Q35]; rfl) : P := e.mpr h
theorem gq29 {A P Q : Prop} (a : A) (h : Q) (e : A → P = Q := by intro a; simp -dsimp only [↓zcR, ↓zal, ↓zaM, ↓zcS, ↓zcN, ↓zcL, ↓zcO, ↓zcM, ↓zaR, ↓zaN, ↓zaS, ↓zaO, ↓zcP, ↓zaL, ↓zaT, ↓zaP, ↓zaU, ↓zaQ, ↓zcK, ↓zcQ, ↓zaK, ↓zaV, ↓zcI, ↓zcH, ↓zcJ,iN,bT,bF,eN, ↓zbI, ↓unC, ↓zQ, ↓zF, ↓zG, ↓zI, ↓zR, ↓zap, ↓zbp, ↓zab, ↓zaX, ↓zP, ↓zp, ↓zm, ↓zbg, ↓zi, ↓zY, ↓zB, ↓zas, ↓zaw, ↓ze, ↓zC, ↓zr, ↓zt, ↓zad, ↓zbL, ↓zbY, ↓zaa, ↓zaj, ↓zau, ↓zaB, ↓zaD, ↓zl, ↓zZ, ↓zH, ↓zu, ↓zS,zcd,zaI,zaH,unA,zce,bnd,zcn,zX,zV,zcp,dm,dm1,zD,zag,zcy,zcx,zU,Q0,Q1,Q2,Q3,Q4,Q5,zO,zq,zw,zM,zE,Q6,Q7,Q8,Q9,Q10,Q11,Q12,Q13,Q14,Nat.reduceAdd,Q15,Int.reduceToNat,Q16,Q17,Q18,Q19,Q20,reduceIte,Q21,Q22,zx,rep,zT,zcv,toD,zW,Q23,Q24,Q25,Q26,Q27,Q28,Nat.reduceLeDiff,Q29,Nat.reduceSub,Q30,Q31,Q32,sc,Q33,Q34,Q35,zhu,a]; rfl) : P := (e a).mpr h
theorem c_rSame {σ : List zf} {a b : TOp} (ha : a.recs.length ≤ 1073741824) (hb : b.recs.length ≤ 1073741824) {K : AV → List zf → Prop} (hK : K (.d (.bool (decide (a = b)))) σ) : zL Tryz.prog zoE [opA a,opA b] σ K := by
 refine zj zti.is rfl fun hl _ => zti.goes ?_
 have fin : ∀ z : Bool,decide (a = b) = z → K (.d (.bool z)) σ := fun z hz => by rw [← hz]; exact hK
 have hab : a = b ↔ a.kind = b.kind ∧ a.topic = b.topic ∧ a.group = b.group ∧ a.offset = b.offset ∧ a.recs = b.recs := by cases a; cases b; simp
 clear hK
 simp only [ztV,iN,bT,bF,eN,opA]
 (repeat' (first | (refine gq28 ?_; try with_reducible exact True.intro) | (refine zaC (fun h => ?_) (fun h => ?_) <;> (try rw [h])) | ((with_reducible refine And.intro ?_ ?_); focus (first | omega | rfl | decide))))
 all_goals first
  | (
   (first | refine zao hl ?_ | refine zan hl ?_)
   (try simp only [decide_eq_true_eq,decide_eq_false_iff_not,beq_iff_eq,beq_eq_false_iff_ne,bne_iff_ne,ne_eq,Bool.not_eq_true',Bool.not_eq_false',bne_eq_false_iff_eq] at *)
   simp only [zbV,dmT,dm,dm1]
   apply fin
   grind)
  | skip
 -- the records
 have hl2 : a.recs.length = b.recs.length := by (try simp only [decide_eq_true_eq,decide_eq_false_iff_not,beq_iff_eq,beq_eq_false_iff_ne,bne_iff_ne,ne_eq,Bool.not_eq_true',Bool.not_eq_false',bne_eq_false_iff_eq] at *); omega
 refine zK a.recs.length (fun k vs s => vs = [.d (.int .i64 k)] ∧ s = σ ++ [.box [.d (.int .i64 a.kind), .d (.str a.topic), .d (.str a.group), .d (.int .i64 a.offset), .d (.slice (zbR a.recs))], .box [.d (.int .i64 b.kind), .d (.str b.topic), .d (.str b.group), .d (.int .i64 b.offset), .d (.slice (zbR b.recs))]] ∧ a.recs.take k = b.recs.take k) ⟨rfl,rfl,by simp⟩ ?_
 rintro k vs s hk ⟨rfl,rfl,htk⟩
 (refine gq28 ?_; try with_reducible exact True.intro)
 refine zaC (fun h => ?_) (fun h => ?_)
 ·have hka : k < a.recs.length := by (try simp only [decide_eq_true_eq,decide_eq_false_iff_not,beq_iff_eq,beq_eq_false_iff_ne,bne_iff_ne,ne_eq,Bool.not_eq_true',Bool.not_eq_false',bne_eq_false_iff_eq] at *); omega
  have hx : a.recs[k]? = some a.recs[k] := by simp [hka]
  have hy : b.recs[k]? = some (b.recs[k]'(by omega)) := List.getElem?_eq_getElem _
  (refine gq29 (zhh (zis hx) (zis hy)) ?_; try with_reducible exact True.intro)
  refine And.intro (by omega) (And.intro (by omega) ?_)
  refine zaC (fun h => ?_) (fun h => ?_)
  ·(refine gq28 ?_; try with_reducible exact True.intro)
   refine zav.next hka ⟨?_,rfl,zhI hx hy htk (by simpa using h)⟩
   rw [zai (by omega) (by omega)]; rfl
  ·(first | refine zao hl ?_ | refine zan hl ?_)
   simp only [zbV,dmT,dm,dm1]
   apply fin
   rw [decide_eq_false_iff_not]
   rintro rfl
   simp at h
 ·(first | refine zao hl ?_ | refine zan hl ?_)
  simp only [zbV,dmT,dm,dm1]
  have : a.recs = b.recs := zlr hl2 (k := k) (by (try simp only [decide_eq_true_eq,decide_eq_false_iff_not,beq_iff_eq,beq_eq_false_iff_ne,bne_iff_ne,ne_eq,Bool.not_eq_true',Bool.not_eq_false',bne_eq_false_iff_eq] at *); omega) htk
  apply fin
  (try simp only [decide_eq_true_eq,decide_eq_false_iff_not,beq_iff_eq,beq_eq_false_iff_ne,bne_iff_ne,ne_eq,Bool.not_eq_true',Bool.not_eq_false',bne_eq_false_iff_eq] at *)
  grind
end Go.Proofs.YtncpaekiidpchaaGreat

/- Contracts: batches: in memory of their own; which are the same, by the reference. -/
set_option maxRecDepth 100000
namespace Go.Proofs.YtncpaekiidpchaaGreat
open Go.AW
def smallB (b : List zA) : Prop := b.length ≤ 1073741824 ∧ ∀ x ∈ b,x.op.recs.length ≤ 1073741824 ∧ ∀ r ∈ x.op.recs,r.length ≤ 1073741824
def zot (x : zA) : AV := .agg [.d (.int .i64 x.client), .d (.int .i64 x.time), .d (.int .i64 x.op.kind), .d (.str x.op.topic), .d (.str x.op.group), .d (.int .i64 x.op.offset), .d (.slice (zbR x.op.recs)), .d (.int .i64 x.key), .d (.int .i64 x.dig)]
def reqA (x : zA) : AV := .agg [.d (.int .i64 x.client), .d (.int .i64 x.time), .d (.int .i64 x.op.kind), .d (.str x.op.topic), .d (.str x.op.group), .d (.int .i64 x.op.offset), .d (.slice (zbR x.op.recs))]
theorem gq30 {A P Q : Prop} (a : A) (h : Q) (e : A → P = Q := by intro a; simp -dsimp only [↓zcR, ↓zal, ↓zaM, ↓zcS, ↓zcN, ↓zcL, ↓zcO, ↓zcM, ↓zaR, ↓zaN, ↓zaS, ↓zaO, ↓zcP, ↓zaL, ↓zaT, ↓zaP, ↓zaU, ↓zaQ, ↓zcK, ↓zcQ, ↓zaK, ↓zaV, ↓zcI, ↓zcH, ↓zcJ,iN,bT,bF,eN, ↓zbI, ↓unC, ↓zQ, ↓zF, ↓zG, ↓zI, ↓zR, ↓zap, ↓zbp, ↓zab, ↓zaX, ↓zP, ↓zp, ↓zm, ↓zbg, ↓zi, ↓zY, ↓zB, ↓zas, ↓zaw, ↓ze, ↓zC, ↓zr, ↓zt, ↓zad, ↓zbL, ↓zbY, ↓zaa, ↓zaj, ↓zau, ↓zaB, ↓zaD, ↓zl, ↓zZ, ↓zH, ↓zu, ↓zS,zcd,zaI,zaH,unA,zce,bnd,zcn,zX,zV,zcp,dm,dm1,zD,zag,zcy,zcx,zU,Q0,Q1,Q2,Q3,Q4,Q5,zO,zq,zw,zM,zE,Q6,Q7,Q8,Q9,Q10,Q11,Q12,Q13,Q14,Nat.reduceAdd,Q15,Int.reduceToNat,Q16,Q17,Q18,Q19,Q20,reduceIte,Q21,Q22,zx,rep,zT,zcv,toD,zW,Q23,Q24,Q25,Q26,Q27,Q28,Nat.reduceLeDiff,Q29,Nat.reduceSub,Q30,Q31,Q32,sc,Q33,Q34,Q35,a]; rfl) : P := (e a).mpr h
theorem zsn {σ : List zf} {a b : zA} (ha : a.op.recs.length ≤ 1073741824) (hb : b.op.recs.length ≤ 1073741824) {K : AV → List zf → Prop} (hK : K (.d (.bool (decide (a.client = b.client ∧ a.time = b.time ∧ a.op = b.op)))) σ) :
  zL Tryz.prog zfv [reqA a,reqA b] σ K := by
 refine zj ziI.is rfl fun hl _ => ziI.goes ?_
 have fin : ∀ z : Bool,decide (a.client = b.client ∧ a.time = b.time ∧ a.op = b.op) = z → K (.d (.bool z)) σ := fun z hz => by rw [← hz]; exact hK
 clear hK
 simp only [ziX,iN,bT,bF,eN,reqA]
 cases h1 : (a.client == b.client)
 ·(refine gq30 h1 ?_; try with_reducible exact True.intro)
  (first | refine zao hl ?_ | refine zan hl ?_)
  refine fin _ (decide_eq_false ?_)
  rintro ⟨h,_⟩
  simp [h] at h1
 cases h2 : (a.time == b.time)
 ·(refine gq30 (zhh h1 h2) ?_; try with_reducible exact True.intro)
  (first | refine zao hl ?_ | refine zan hl ?_)
  refine fin _ (decide_eq_false ?_)
  rintro ⟨_,h,_⟩
  simp [h] at h2
 (refine gq30 (zhh h1 h2) ?_; try with_reducible exact True.intro)
 repeat' ((with_reducible refine And.intro ?_ ?_); focus (first | omega | rfl | decide))
 refine c_rSame (a := a.op) (b := b.op) ha hb ?_
 (refine gq28 ?_; try with_reducible exact True.intro)
 (first | refine zao hl ?_ | refine zan hl ?_)
 refine fin _ ?_
 simp only [beq_iff_eq] at h1 h2
 simp only [h1,h2,true_and]
theorem gq31 {P Q : Prop} (h : Q) (e : P = Q := by simp -dsimp only [↓zcR, ↓zal, ↓zaM, ↓zcS, ↓zcN, ↓zcL, ↓zcO, ↓zcM, ↓zaR, ↓zaN, ↓zaS, ↓zaO, ↓zcP, ↓zaL, ↓zaT, ↓zaP, ↓zaU, ↓zaQ, ↓zcK, ↓zcQ, ↓zaK, ↓zaV, ↓zcI, ↓zcH, ↓zcJ,iN,bT,bF,eN, ↓zbI, ↓unC, ↓zQ, ↓zF, ↓zG, ↓zI, ↓zR, ↓zap, ↓zbp, ↓zab, ↓zaX, ↓zP, ↓zp, ↓zm, ↓zbg, ↓zi, ↓zY, ↓zB, ↓zas, ↓zaw, ↓ze, ↓zC, ↓zr, ↓zt, ↓zad, ↓zbL, ↓zbY, ↓zaa, ↓zaj, ↓zau, ↓zaB, ↓zaD, ↓zl, ↓zZ, ↓zH, ↓zu, ↓zS,zcd,zaI,zaH,unA,zce,bnd,zcn,zX,zV,zcp,dm,dm1,zD,zag,zcy,zcx,zU,Q0,Q1,Q2,Q3,Q4,Q5,zO,zq,zw,zM,zE,Q6,Q7,Q8,Q9,Q10,Q11,Q12,Q13,Q14,Nat.reduceAdd,Q15,Int.reduceToNat,Q16,Q17,Q18,Q19,Q20,reduceIte,Q21,Q22,zx,rep,zT,zcv,toD,zW,Q23,Q24,Q25,Q26,Q27,Q28,Nat.reduceLeDiff,Q29,Nat.reduceSub,Q30,Q31,Q32,sc,Q33,Q34,Q35,List.length_map]; rfl) : P := e.mpr h
theorem gq32 {A P Q : Prop} (a : A) (h : Q) (e : A → P = Q := by intro a; simp -dsimp only [↓zcR, ↓zal, ↓zaM, ↓zcS, ↓zcN, ↓zcL, ↓zcO, ↓zcM, ↓zaR, ↓zaN, ↓zaS, ↓zaO, ↓zcP, ↓zaL, ↓zaT, ↓zaP, ↓zaU, ↓zaQ, ↓zcK, ↓zcQ, ↓zaK, ↓zaV, ↓zcI, ↓zcH, ↓zcJ,iN,bT,bF,eN, ↓zbI, ↓unC, ↓zQ, ↓zF, ↓zG, ↓zI, ↓zR, ↓zap, ↓zbp, ↓zab, ↓zaX, ↓zP, ↓zp, ↓zm, ↓zbg, ↓zi, ↓zY, ↓zB, ↓zas, ↓zaw, ↓ze, ↓zC, ↓zr, ↓zt, ↓zad, ↓zbL, ↓zbY, ↓zaa, ↓zaj, ↓zau, ↓zaB, ↓zaD, ↓zl, ↓zZ, ↓zH, ↓zu, ↓zS,zcd,zaI,zaH,unA,zce,bnd,zcn,zX,zV,zcp,dm,dm1,zD,zag,zcy,zcx,zU,Q0,Q1,Q2,Q3,Q4,Q5,zO,zq,zw,zM,zE,Q6,Q7,Q8,Q9,Q10,Q11,Q12,Q13,Q14,Nat.reduceAdd,Q15,Int.reduceToNat,Q16,Q17,Q18,Q19,Q20,reduceIte,Q21,Q22,zx,rep,zT,zcv,toD,zW,Q23,Q24,Q25,Q26,Q27,Q28,Nat.reduceLeDiff,Q29,Nat.reduceSub,Q30,Q31,Q32,sc,Q33,Q34,Q35,Bool.not_false,Bool.not_true,zcj,zeQ,a]; rfl) : P := (e a).mpr h
theorem gq33 {P Q : Prop} (h : Q) (e : P = Q := by simp -dsimp only [↓zcR, ↓zal, ↓zaM, ↓zcS, ↓zcN, ↓zcL, ↓zcO, ↓zcM, ↓zaR, ↓zaN, ↓zaS, ↓zaO, ↓zcP, ↓zaL, ↓zaT, ↓zaP, ↓zaU, ↓zaQ, ↓zcK, ↓zcQ, ↓zaK, ↓zaV, ↓zcI, ↓zcH, ↓zcJ,iN,bT,bF,eN, ↓zbI, ↓unC, ↓zQ, ↓zF, ↓zG, ↓zI, ↓zR, ↓zap, ↓zbp, ↓zab, ↓zaX, ↓zP, ↓zp, ↓zm, ↓zbg, ↓zi, ↓zY, ↓zB, ↓zas, ↓zaw, ↓ze, ↓zC, ↓zr, ↓zt, ↓zad, ↓zbL, ↓zbY, ↓zaa, ↓zaj, ↓zau, ↓zaB, ↓zaD, ↓zl, ↓zZ, ↓zH, ↓zu, ↓zS,zcd,zaI,zaH,unA,zce,bnd,zcn,zX,zV,zcp,dm,dm1,zD,zag,zcy,zcx,zU,Q0,Q1,Q2,Q3,Q4,Q5,zO,zq,zw,zM,zE,Q6,Q7,Q8,Q9,Q10,Q11,Q12,Q13,Q14,Nat.reduceAdd,Q15,Int.reduceToNat,Q16,Q17,Q18,Q19,Q20,reduceIte,Q21,Q22,zx,rep,zT,zcv,toD,zW,Q23,Q24,Q25,Q26,Q27,Q28,Nat.reduceLeDiff,Q29,Nat.reduceSub,Q30,Q31,Q32,sc,Q33,Q34,Q35,Bool.not_false,Bool.not_true]; rfl) : P := e.mpr h
theorem c_rqSame {σ : List zf} {a b : List zA} (ha : smallB a) (hb : smallB b) {K : AV → List zf → Prop} (hK : K (.d (.bool (decide (a = b)))) σ) :
  zL Tryz.prog zlA [.d (.slice (zfV a)), .d (.slice (zfV b))] σ K := by
 refine zj ztg.is rfl fun hl _ => ztg.goes ?_
 have fin : ∀ z : Bool,decide (a = b) = z → K (.d (.bool z)) σ := fun z hz => by rw [← hz]; exact hK
 clear hK
 obtain ⟨ha1,ha2⟩ := ha
 obtain ⟨hb1,hb2⟩ := hb
 simp only [ztT,iN,bT,bF,eN]
 (refine gq31 ?_; try with_reducible exact True.intro)
 by_cases hl2 : a.length = b.length
 ·have hne : ((a.length : Int) != (b.length : Int)) = false := by simp [hl2]
  (refine gq30 hne ?_; try with_reducible exact True.intro)
  refine zK a.length (fun k vs s => vs = [.d (.int .i64 k)] ∧ s = σ ∧ a.take k = b.take k) ⟨rfl,rfl,by simp⟩ ?_
  rintro k vs s hk ⟨rfl,rfl,htk⟩
  (refine gq31 ?_; try with_reducible exact True.intro)
  refine zaC (fun h => ?_) (fun h => ?_)
  ·have hka : k < a.length := by simp at h; omega
   have hx : a[k]? = some a[k] := by simp [hka]
   have hy : b[k]? = some (b[k]'(by omega)) := List.getElem?_eq_getElem _
   have ax := (ha2 _ (List.getElem_mem hka)).1
   have bx := (hb2 _ (List.getElem_mem (show k < b.length by omega))).1
   have hgx := zaf (f := zeQ) hx
   have hgy := zaf (f := zeQ) hy
   obtain ⟨x,hxe⟩ : ∃ x,a[k] = x := ⟨_,rfl⟩
   obtain ⟨y,hye⟩ : ∃ y,b[k]'(by omega) = y := ⟨_,rfl⟩
   rw [hxe] at hgx hx ax
   rw [hye] at hgy hy bx
   have neq : x ≠ y → K (.d (.bool false)) s := fun h => fin _ (decide_eq_false (by rintro rfl; rw [hx] at hy; exact h (Option.some.inj hy)))
   have hxy : x = y ↔ (x.client = y.client ∧ x.time = y.time ∧ x.op = y.op) ∧ x.key = y.key ∧ x.dig = y.dig := by cases x; cases y; simp [and_assoc]
   cases h2 : (x.key == y.key && x.dig == y.dig)
   ·(refine gq32 (zhh hgx (zhh hgy h2)) ?_; try with_reducible exact True.intro)
    repeat' ((with_reducible refine And.intro ?_ ?_); focus (first | omega | rfl | decide))
    try (refine gq32 (zhh hgx (zhh hgy h2)) ?_; try with_reducible exact True.intro)
    (first | refine zao hl ?_ | refine zan hl ?_)
    refine neq (fun h => ?_)
    have := (hxy.1 h).2
    simp [this.1,this.2] at h2
   ·(refine gq32 (zhh hgx (zhh hgy h2)) ?_; try with_reducible exact True.intro)
    repeat' ((with_reducible refine And.intro ?_ ?_); focus (first | omega | rfl | decide))
    try (refine gq32 (zhh hgx (zhh hgy h2)) ?_; try with_reducible exact True.intro)
    refine zsn (a := x) (b := y) ax bx ?_
    simp only [Bool.and_eq_true,beq_iff_eq] at h2
    by_cases h3 : x.client = y.client ∧ x.time = y.time ∧ x.op = y.op
    ·rw [decide_eq_true h3]
     (refine gq33 ?_; try with_reducible exact True.intro)
     refine zav.next hka ⟨?_,rfl,zhI hx hy htk (hxy.2 ⟨h3,h2⟩)⟩
     rw [show (k : Int) + 1 = ((k + 1 : Nat) : Int) by omega,zai (by omega) (by omega)]
    ·rw [decide_eq_false h3]
     (refine gq33 ?_; try with_reducible exact True.intro)
     (first | refine zao hl ?_ | refine zan hl ?_)
     exact neq (fun h => h3 (hxy.1 h).1)
  ·(first | refine zao hl ?_ | refine zan hl ?_)
   refine fin _ (decide_eq_true (zlr hl2 (k := k) (by simp at h; omega) htk))
 ·have hne : ((a.length : Int) != (b.length : Int)) = true := by simp; omega
  (refine gq30 hne ?_; try with_reducible exact True.intro)
  (first | refine zao hl ?_ | refine zan hl ?_)
  exact fin _ (decide_eq_false (by rintro rfl; exact hl2 rfl))
end Go.Proofs.YtncpaekiidpchaaGreat

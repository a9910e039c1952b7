/- Contracts: certificates and entries that are the same. -/
import Derived.Test.YtncpaekiidpchaaGreatOpC
import Derived.Test.YtncpaekiidpchaaGreatPt2
set_option linter.all false
set_option maxRecDepth 100000
namespace Go.Proofs.YtncpaekiidpchaaGreat
open Go.AW
theorem gq63 {A P Q : Prop} (a : A) (h : Q) (e : A → P = Q := by intro a; simp -dsimp only [↓zcR, ↓zal, ↓zaM, ↓zcS, ↓zcN, ↓zcL, ↓zcO, ↓zcM, ↓zaR, ↓zaN, ↓zaS, ↓zaO, ↓zcP, ↓zaL, ↓zaT, ↓zaP, ↓zaU, ↓zaQ, ↓zcK, ↓zcQ, ↓zaK, ↓zaV, ↓zcI, ↓zcH, ↓zcJ,iN,bT,bF,eN, ↓zbI, ↓unC, ↓zQ, ↓zF, ↓zG, ↓zI, ↓zR, ↓zap, ↓zbp, ↓zab, ↓zaX, ↓zP, ↓zp, ↓zm, ↓zbg, ↓zi, ↓zY, ↓zB, ↓zas, ↓zaw, ↓ze, ↓zC, ↓zr, ↓zt, ↓zad, ↓zbL, ↓zbY, ↓zaa, ↓zaj, ↓zau, ↓zaB, ↓zaD, ↓zl, ↓zZ, ↓zH, ↓zu, ↓zS,zcd,zaI,zaH,unA,zce,bnd,zcn,zX,zV,zcp,dm,dm1,zD,zag,zcy,zcx,zU,Q0,Q1,Q2,Q3,Q4,Q5,zO,zq,zw,zM,zE,Q6,Q7,Q8,Q9,Q10,Q11,Q12,Q13,Q14,Nat.reduceAdd,Q15,Int.reduceToNat,Q16,Q17,Q18,Q19,Q20,reduceIte,Q21,Q22,zx,rep,zT,zcv,toD,zW,Q23,Q24,Q25,Q26,Q27,Q28,Nat.reduceLeDiff,Q29,Nat.reduceSub,Q30,Q31,Q32,sc,Q33,Q34,Q35,Bool.not_false,Bool.not_true,zcj,zgE,a]; rfl) : P := (e a).mpr h
theorem c_sameSigns {σ : List zf} {a b : List zae} (ha : a.length ≤ 1073741824) {K : AV → List zf → Prop} (hK : K (.d (.bool (decide (a = b)))) σ) :
  zL Tryz.prog zgX [.d (.slice (zaz a)), .d (.slice (zaz b))] σ K := by
 refine zj zkM.is rfl fun hl _ => zkM.goes ?_
 have fin : ∀ z : Bool,decide (a = b) = z → K (.d (.bool z)) σ := fun z hz => by rw [← hz]; exact hK
 clear hK
 simp only [zle,iN,bT,bF,eN]
 (refine gq31 ?_; try with_reducible exact True.intro)
 by_cases hl2 : a.length = b.length
 ·have hne : ((a.length : Int) != (b.length : Int)) = false := by simp [hl2]
  (refine gq30 hne ?_; try with_reducible exact True.intro)
  refine zK a.length (fun k vs s => vs = [.d (.int .i64 k)] ∧ s = σ ∧ a.take k = b.take k) ⟨rfl,rfl,by simp⟩ ?_
  rintro k vs s hk ⟨rfl,rfl,htk⟩
  (refine gq31 ?_; try with_reducible exact True.intro)
  refine zaC (fun h => ?_) (fun h => ?_)
  ·have hka : k < a.length := by simp at h; omega
   have hx : a[k]? = some a[k] := by simp [hka]
   have hy : b[k]? = some (b[k]'(by omega)) := List.getElem?_eq_getElem _
   have hgx := zaf (f := zgE) hx
   have hgy := zaf (f := zgE) hy
   obtain ⟨x,hxe⟩ : ∃ x,a[k] = x := ⟨_,rfl⟩
   obtain ⟨y,hye⟩ : ∃ y,b[k]'(by omega) = y := ⟨_,rfl⟩
   rw [hxe] at hgx hx
   rw [hye] at hgy hy
   have hxy : x = y ↔ x.key = y.key ∧ x.dig = y.dig := by cases x; cases y; simp
   cases h2 : (x.key == y.key && x.dig == y.dig)
   ·(refine gq63 (zhh hgx (zhh hgy h2)) ?_; try with_reducible exact True.intro)
    repeat' ((with_reducible refine And.intro ?_ ?_); focus (first | omega | rfl | decide))
    try (refine gq63 (zhh hgx (zhh hgy h2)) ?_; try with_reducible exact True.intro)
    (first | refine zao hl ?_ | refine zan hl ?_)
    refine fin _ (decide_eq_false (by rintro rfl; rw [hx] at hy; have := hxy.1 (Option.some.inj hy); simp [this.1,this.2] at h2))
   ·(refine gq63 (zhh hgx (zhh hgy h2)) ?_; try with_reducible exact True.intro)
    repeat' ((with_reducible refine And.intro ?_ ?_); focus (first | omega | rfl | decide))
    try (refine gq63 (zhh hgx (zhh hgy h2)) ?_; try with_reducible exact True.intro)
    simp only [Bool.and_eq_true,beq_iff_eq] at h2
    refine zav.next hka ⟨?_,rfl,zhI hx hy htk (hxy.2 h2)⟩
    rw [show (k : Int) + 1 = ((k + 1 : Nat) : Int) by omega,zai (by omega) (by omega)]
  ·(first | refine zao hl ?_ | refine zan hl ?_)
   refine fin _ (decide_eq_true (zlr hl2 (k := k) (by simp at h; omega) htk))
 ·have hne : ((a.length : Int) != (b.length : Int)) = true := by simp; omega
  (refine gq30 hne ?_; try with_reducible exact True.intro)
  (first | refine zao hl ?_ | refine zan hl ?_)
  exact fin _ (decide_eq_false (by rintro rfl; exact hl2 rfl))
def certA (c : zfF) : AV := .agg [.d (.int .i64 c.seq), .d (.int .i64 c.dig), .d (.slice (zaz c.signs))]
theorem ztz {σ : List zf} {a b : zfF} (ha : a.signs.length ≤ 1073741824) {K : AV → List zf → Prop} (hK : K (.d (.bool (decide (a = b)))) σ) :
  zL Tryz.prog zfH [certA a,certA b] σ K := by
 refine zj zlY.is rfl fun hl _ => zlY.goes ?_
 have fin : ∀ z : Bool,decide (a = b) = z → K (.d (.bool z)) σ := fun z hz => by rw [← hz]; exact hK
 clear hK
 have hab : a = b ↔ a.seq = b.seq ∧ a.dig = b.dig ∧ a.signs = b.signs := by cases a; cases b; simp
 simp only [zmm,iN,bT,bF,eN,certA]
 cases h1 : (a.seq == b.seq)
 ·(refine gq30 h1 ?_; try with_reducible exact True.intro)
  (first | refine zao hl ?_ | refine zan hl ?_)
  refine fin _ (decide_eq_false fun h => ?_)
  simp [(hab.1 h).1] at h1
 cases h2 : (a.dig == b.dig)
 ·(refine gq30 (zhh h1 h2) ?_; try with_reducible exact True.intro)
  (first | refine zao hl ?_ | refine zan hl ?_)
  refine fin _ (decide_eq_false fun h => ?_)
  simp [(hab.1 h).2.1] at h2
 (refine gq30 (zhh h1 h2) ?_; try with_reducible exact True.intro)
 refine c_sameSigns ha ?_
 (refine gq28 ?_; try with_reducible exact True.intro)
 (first | refine zao hl ?_ | refine zan hl ?_)
 refine fin _ ?_
 simp only [beq_iff_eq] at h1 h2
 by_cases h3 : a.signs = b.signs
 ·rw [decide_eq_true h3,decide_eq_true (hab.2 ⟨h1,h2,h3⟩)]
 ·rw [decide_eq_false h3,decide_eq_false (fun h => h3 (hab.1 h).2.2)]
theorem gq64 {A P Q : Prop} (a : A) (h : Q) (e : A → P = Q := by intro a; simp -dsimp only [↓zcR, ↓zal, ↓zaM, ↓zcS, ↓zcN, ↓zcL, ↓zcO, ↓zcM, ↓zaR, ↓zaN, ↓zaS, ↓zaO, ↓zcP, ↓zaL, ↓zaT, ↓zaP, ↓zaU, ↓zaQ, ↓zcK, ↓zcQ, ↓zaK, ↓zaV, ↓zcI, ↓zcH, ↓zcJ,iN,bT,bF,eN, ↓zbI, ↓unC, ↓zQ, ↓zF, ↓zG, ↓zI, ↓zR, ↓zap, ↓zbp, ↓zab, ↓zaX, ↓zP, ↓zp, ↓zm, ↓zbg, ↓zi, ↓zY, ↓zB, ↓zas, ↓zaw, ↓ze, ↓zC, ↓zr, ↓zt, ↓zad, ↓zbL, ↓zbY, ↓zaa, ↓zaj, ↓zau, ↓zaB, ↓zaD, ↓zl, ↓zZ, ↓zH, ↓zu, ↓zS,zcd,zaI,zaH,unA,zce,bnd,zcn,zX,zV,zcp,dm,dm1,zD,zag,zcy,zcx,zU,Q0,Q1,Q2,Q3,Q4,Q5,zO,zq,zw,zM,zE,Q6,Q7,Q8,Q9,Q10,Q11,Q12,Q13,Q14,Nat.reduceAdd,Q15,Int.reduceToNat,Q16,Q17,Q18,Q19,Q20,reduceIte,Q21,Q22,zx,rep,zT,zcv,toD,zW,Q23,Q24,Q25,Q26,Q27,Q28,Nat.reduceLeDiff,Q29,Nat.reduceSub,Q30,Q31,Q32,sc,Q33,Q34,Q35,Bool.not_false,Bool.not_true,entryD,zcj,a]; rfl) : P := (e a).mpr h
theorem zuQ {σ : List zf} {a b : List TEntry} (ha : a.length ≤ 1073741824) (hA : ∀ x ∈ a,smallB x.batch) (hB : ∀ x ∈ b,smallB x.batch) {K : AV → List zf → Prop} (hK : K (.d (.bool (decide (a = b)))) σ) :
  zL Tryz.prog zfu [.d (.slice (entriesE a)), .d (.slice (entriesE b))] σ K := by
 refine zj ziH.is rfl fun hl _ => ziH.goes ?_
 have fin : ∀ z : Bool,decide (a = b) = z → K (.d (.bool z)) σ := fun z hz => by rw [← hz]; exact hK
 clear hK
 simp only [ziW,iN,bT,bF,eN]
 (refine gq31 ?_; try with_reducible exact True.intro)
 by_cases hl2 : a.length = b.length
 ·have hne : ((a.length : Int) != (b.length : Int)) = false := by simp [hl2]
  (refine gq30 hne ?_; try with_reducible exact True.intro)
  refine zK a.length (fun k vs s => vs = [.d (.int .i64 k)] ∧ s = σ ∧ a.take k = b.take k) ⟨rfl,rfl,by simp⟩ ?_
  rintro k vs s hk ⟨rfl,rfl,htk⟩
  (refine gq31 ?_; try with_reducible exact True.intro)
  refine zaC (fun h => ?_) (fun h => ?_)
  ·have hka : k < a.length := by simp at h; omega
   have hx : a[k]? = some a[k] := by simp [hka]
   have hy : b[k]? = some (b[k]'(by omega)) := List.getElem?_eq_getElem _
   have ax := hA _ (List.getElem_mem hka)
   have bx := hB _ (List.getElem_mem (show k < b.length by omega))
   have hgx := zaf (f := entryD) hx
   have hgy := zaf (f := entryD) hy
   obtain ⟨x,hxe⟩ : ∃ x,a[k] = x := ⟨_,rfl⟩
   obtain ⟨y,hye⟩ : ∃ y,b[k]'(by omega) = y := ⟨_,rfl⟩
   rw [hxe] at hgx hx ax
   rw [hye] at hgy hy bx
   have hxy : x = y ↔ x.view = y.view ∧ x.seq = y.seq ∧ (x.key = y.key ∧ x.dig = y.dig) ∧ x.batch = y.batch := by cases x; cases y; simp; grind
   have neq : ¬ (x.view = y.view ∧ x.seq = y.seq ∧ (x.key = y.key ∧ x.dig = y.dig) ∧ x.batch = y.batch) → K (.d (.bool false)) s := fun h => fin _ (decide_eq_false (by rintro rfl; rw [hx] at hy; exact h (hxy.1 (Option.some.inj hy))))
   cases h1 : (x.view != y.view)
   rotate_left
   ·(refine gq64 (zhh hgx (zhh hgy h1)) ?_; try with_reducible exact True.intro)
    repeat' ((with_reducible refine And.intro ?_ ?_); focus (first | omega | rfl | decide))
    try (refine gq64 (zhh hgx (zhh hgy h1)) ?_; try with_reducible exact True.intro)
    (first | refine zao hl ?_ | refine zan hl ?_)
    refine neq (fun h => ?_)
    simp [h.1] at h1
   cases h2 : (x.seq != y.seq)
   rotate_left
   ·(refine gq64 (zhh hgx (zhh hgy (zhh h1 h2))) ?_; try with_reducible exact True.intro)
    repeat' ((with_reducible refine And.intro ?_ ?_); focus (first | omega | rfl | decide))
    try (refine gq64 (zhh hgx (zhh hgy (zhh h1 h2))) ?_; try with_reducible exact True.intro)
    (first | refine zao hl ?_ | refine zan hl ?_)
    refine neq (fun h => ?_)
    simp [h.2.1] at h2
   cases h3 : (x.key == y.key && x.dig == y.dig)
   ·(refine gq64 (zhh hgx (zhh hgy (zhh h1 (zhh h2 h3)))) ?_; try with_reducible exact True.intro)
    repeat' ((with_reducible refine And.intro ?_ ?_); focus (first | omega | rfl | decide))
    try (refine gq64 (zhh hgx (zhh hgy (zhh h1 (zhh h2 h3)))) ?_; try with_reducible exact True.intro)
    (first | refine zao hl ?_ | refine zan hl ?_)
    refine neq (fun h => ?_)
    simp [h.2.2.1.1,h.2.2.1.2] at h3
   (refine gq64 (zhh hgx (zhh hgy (zhh h1 (zhh h2 h3)))) ?_; try with_reducible exact True.intro)
   repeat' ((with_reducible refine And.intro ?_ ?_); focus (first | omega | rfl | decide))
   try (refine gq64 (zhh hgx (zhh hgy (zhh h1 (zhh h2 h3)))) ?_; try with_reducible exact True.intro)
   refine c_rqSame ax bx ?_
   by_cases h4 : x.batch = y.batch
   ·rw [decide_eq_true h4]
    (refine gq33 ?_; try with_reducible exact True.intro)
    simp only [Bool.and_eq_true,beq_iff_eq,bne_eq_false_iff_eq] at h1 h2 h3
    refine zav.next hka ⟨?_,rfl,zhI hx hy htk (hxy.2 ⟨h1,h2,h3,h4⟩)⟩
    rw [show (k : Int) + 1 = ((k + 1 : Nat) : Int) by omega,zai (by omega) (by omega)]
   ·rw [decide_eq_false h4]
    (refine gq33 ?_; try with_reducible exact True.intro)
    (first | refine zao hl ?_ | refine zan hl ?_)
    exact neq (fun h => h4 h.2.2.2)
  ·(first | refine zao hl ?_ | refine zan hl ?_)
   refine fin _ (decide_eq_true (zlr hl2 (k := k) (by simp at h; omega) htk))
 ·have hne : ((a.length : Int) != (b.length : Int)) = true := by simp; omega
  (refine gq30 hne ?_; try with_reducible exact True.intro)
  (first | refine zao hl ?_ | refine zan hl ?_)
  exact fin _ (decide_eq_false (by rintro rfl; exact hl2 rfl))
end Go.Proofs.YtncpaekiidpchaaGreat

/- Contracts: a proof is the same as itself; its first header's number. -/
set_option maxRecDepth 100000
namespace Go.Proofs.YtncpaekiidpchaaGreat
open Go.AW
theorem gq65 {A P Q : Prop} (a : A) (h : Q) (e : A → P = Q := by intro a; simp -dsimp only [↓zcR, ↓zal, ↓zaM, ↓zcS, ↓zcN, ↓zcL, ↓zcO, ↓zcM, ↓zaR, ↓zaN, ↓zaS, ↓zaO, ↓zcP, ↓zaL, ↓zaT, ↓zaP, ↓zaU, ↓zaQ, ↓zcK, ↓zcQ, ↓zaK, ↓zaV, ↓zcI, ↓zcH, ↓zcJ,iN,bT,bF,eN, ↓zbI, ↓unC, ↓zQ, ↓zF, ↓zG, ↓zI, ↓zR, ↓zap, ↓zbp, ↓zab, ↓zaX, ↓zP, ↓zp, ↓zm, ↓zbg, ↓zi, ↓zY, ↓zB, ↓zas, ↓zaw, ↓ze, ↓zC, ↓zr, ↓zt, ↓zad, ↓zbL, ↓zbY, ↓zaa, ↓zaj, ↓zau, ↓zaB, ↓zaD, ↓zl, ↓zZ, ↓zH, ↓zu, ↓zS,zcd,zaI,zaH,unA,zce,bnd,zcn,zX,zV,zcp,dm,dm1,zD,zag,zcy,zcx,zU,Q0,Q1,Q2,Q3,Q4,Q5,zO,zq,zw,zM,zE,Q6,Q7,Q8,Q9,Q10,Q11,Q12,Q13,Q14,Nat.reduceAdd,Q15,Int.reduceToNat,Q16,Q17,Q18,Q19,Q20,reduceIte,Q21,Q22,zx,rep,zT,zcv,toD,zW,Q23,Q24,Q25,Q26,Q27,Q28,Nat.reduceLeDiff,Q29,Nat.reduceSub,Q30,Q31,Q32,sc,Q33,Q34,Q35,Q36,Q37,Q26,Q38,Q39,zel,zei,zef,zem,zbt,zej,zeg,zek,zeh,zbs,zbu,zen,zeo,Bool.not_true,Bool.not_false,List.length_map,zhu,a]; rfl) : P := (e a).mpr h
theorem c_sameProof {σ : List zf} {p : zbe} (hp : zdV p) {K : AV → List zf → Prop} (hK : K (.d (.bool true)) σ) : zL Tryz.prog zgY [zdv p,zdv p] σ K := by
 refine zj zkN.is rfl fun hl _ => zkN.goes ?_
 have e1 : (zde p.headers).length = p.headers.length := List.length_map ..
 have e2 : (zbC p.path).length = p.path.length := List.length_map ..
 have hh := hp.headers; have hq := hp.path
 simp only [zlf,iN,bT,bF,eN,zdv]
 have q1 : (p.topic != p.topic) = false := by simp
 have q2 : ∀ x : Int,(x != x) = false := fun x => by simp
 have q3 : ∀ x : List UInt8,(x != x) = false := fun x => by simp
 have q5 : ∀ x : List UInt8,(x == x) = true := fun x => by simp
 have q6 : ∀ x : Int,(x == x) = true := fun x => by simp
 (repeat' first | refine gq65 (zbl q1 (zbl q2 (zbl q3 (zbl q5 (zbl q6 (zbl e1 e2)))))) ?_ | with_reducible first | exact ⟨⟩ | refine zh ?_ | fail)
 refine ztz (a := p.cert) (b := p.cert) hp.signs ?_
 have q4 : decide (p.cert = p.cert) = true := by simp
 rw [q4]
 (repeat' first | refine gq65 (zbl q1 (zbl q2 (zbl q3 (zbl q5 (zbl q6 (zbl e1 e2)))))) ?_ | with_reducible first | exact ⟨⟩ | refine zh ?_ | fail)
 refine zK p.headers.length (fun k vs s => vs = [.d (.int .i64 k)] ∧ ∃ T,s = σ ++ T ∧ s[σ.length]? = some (zlU p) ∧ s[σ.length + 1]? = some (zlU p)) ⟨rfl, [zlU p,zlU p],rfl,by rw [zw]; rfl,by rw [zq]; rfl⟩ ?_
 rintro k vs s hk ⟨rfl,T,rfl,g0,g1⟩
 by_cases hlt : k < p.headers.length
 ·have hd : decide ((k : Int) < (p.headers.length : Int)) = true := by simp; omega
  have hx : p.headers[k]? = some p.headers[k] := by simp [hlt]
  have hgx := zaf (f := hdrD) hx
  obtain ⟨h,hh⟩ : ∃ h,p.headers[k] = h := ⟨_,rfl⟩
  rw [hh] at hgx
  have hie : zcj [.d (.int .i64 h.seq), .d (.int .i64 h.prev), .d (.int .i64 h.batch), .d (.int .i64 h.root), .d (.int .i64 h.state)] [.d (.int .i64 h.seq), .d (.int .i64 h.prev), .d (.int .i64 h.batch), .d (.int .i64 h.root), .d (.int .i64 h.state)] = some true := by simp [zcj]
  (repeat' first | refine zeN (zbl hd (zbl e1 (zbl g0 (zbl g1 (zbl hgx (zbl (wkc k (by omega)) hie)))))) ?_ | with_reducible first | exact ⟨⟩ | refine zh ?_ | fail)
  exact zav.next hlt ⟨rfl,T,rfl,g0,g1⟩
 ·have hd : decide ((k : Int) < (p.headers.length : Int)) = false := by simp; omega
  (repeat' first | refine zeN (zbl hd (zbl e1 (zbl g0 g1))) ?_ | with_reducible first | exact ⟨⟩ | refine zh ?_ | fail)
  refine zK p.path.length (fun k vs s => vs = [.d (.int .i64 k)] ∧ s = σ ++ T) ⟨rfl,rfl⟩ ?_
  rintro k vs s hk ⟨rfl,rfl⟩
  by_cases hlt : k < p.path.length
  ·have hd : decide ((k : Int) < (p.path.length : Int)) = true := by simp; omega
   have hx : p.path[k]? = some p.path[k] := by simp [hlt]
   have hgx := zaf (f := fun x : Int => [D.int .i64 x]) hx
   (repeat' first | refine zeN (zbl hd (zbl e2 (zbl g0 (zbl g1 (zbl hgx (zbl (wkc k (by omega)) q2)))))) ?_ | with_reducible first | exact ⟨⟩ | refine zh ?_ | fail)
   exact zav.next hlt ⟨rfl,rfl⟩
  ·have hd : decide ((k : Int) < (p.path.length : Int)) = false := by simp; omega
   (repeat' first | refine zeN (zbl hd (zbl e2 (zbl g0 g1))) ?_ | with_reducible first | exact ⟨⟩ | refine zh ?_ | fail)
   (first | refine zao hl ?_ | refine zan hl ?_)
   exact hK
abbrev msgP (p : zbe) : AV :=
 .agg [.d (.int .i64 0), .d (.int .i64 0), .d (.int .i64 0), .d (.int .i64 0), .d (.int .i64 0), .d (.int .i64 0), .d (.int .i64 0), .d (.int .i64 0), .d (.int .i64 0), .d (.slice []), .d (.int .i64 0), .d (.int .i64 0), .d (.slice []), .d (.slice []), .d (.slice []), .d (.slice []), .d (.str []), .d (.int .i64 0),
  .d (.str p.topic), .d (.int .i64 p.offset), .d (.slice (bcs p.rec_)), .d (.slice (zde p.headers)), .d (.int .i64 p.index), .d (.int .i64 p.count), .d (.slice (zbC p.path)), .d (.int .i64 p.cert.seq), .d (.int .i64 p.cert.dig), .d (.slice (zaz p.cert.signs)), .d (.int .i64 0), .d (.int .i64 0)]
abbrev msgO (p : zbe) : zf :=
 .box [.d (.int .i64 0), .d (.int .i64 0), .d (.int .i64 0), .d (.int .i64 0), .d (.int .i64 0), .d (.int .i64 0), .d (.int .i64 0), .d (.int .i64 0), .d (.int .i64 0), .d (.slice []), .d (.int .i64 0), .d (.int .i64 0), .d (.slice []), .d (.slice []), .d (.slice []), .d (.slice []), .d (.str []), .d (.int .i64 0),
  .d (.str p.topic), .d (.int .i64 p.offset), .d (.slice (bcs p.rec_)), .d (.slice (zde p.headers)), .d (.int .i64 p.index), .d (.int .i64 p.count), .d (.slice (zbC p.path)), .d (.int .i64 p.cert.seq), .d (.int .i64 p.cert.dig), .d (.slice (zaz p.cert.signs)), .d (.int .i64 0), .d (.int .i64 0)]
theorem c_sameM {σ : List zf} {p : zbe} (hp : zdV p) {K : AV → List zf → Prop} (hK : K (.d (.bool true)) σ) : zL Tryz.prog zoC [msgP p,msgP p] σ K := by
 refine zj zte.is rfl fun hl _ => zte.goes ?_
 have i0 : (((0 : Nat) : Int) != ((0 : Nat) : Int)) = false := rfl
 have i1 : ((0 : Int) != 0) = false := rfl
 have i2 : zcj [.d (.int .i64 0), .d (.int .i64 0)] [.d (.int .i64 0), .d (.int .i64 0)] = some true := rfl
 have i3 : (([] : List UInt8) == []) = true := rfl
 have i4 : ((0 : Int) == 0) = true := rfl
 have i5 : zkY [] = some [] := rfl
 have i6 : (([] : List UInt8) != []) = false := rfl
 simp only [ztR,iN,bT,bF,eN,msgP]
 (repeat' first | refine zeN (zbl i0 (zbl i1 (zbl i2 (zbl i3 (zbl i4 (zbl i5 i6)))))) ?_ | with_reducible first | exact ⟨⟩ | refine zh ?_ | fail)
 refine c_rqSame (a := []) (b := []) ⟨by simp,by simp⟩ ⟨by simp,by simp⟩ ?_
 rw [show decide (([] : List zA) = []) = true from rfl]
 (repeat' first | refine zeN (zbl i0 (zbl i1 (zbl i2 (zbl i3 (zbl i4 (zbl i5 i6)))))) ?_ | with_reducible first | exact ⟨⟩ | refine zh ?_ | fail)
 refine ztz (a := ⟨0, 0, []⟩) (b := ⟨0, 0, []⟩) (by simp) ?_
 rw [show decide ((⟨0, 0, []⟩ : zfF) = ⟨0, 0, []⟩) = true from rfl]
 (repeat' first | refine zeN (zbl i0 (zbl i1 (zbl i2 (zbl i3 (zbl i4 (zbl i5 i6)))))) ?_ | with_reducible first | exact ⟨⟩ | refine zh ?_ | fail)
 refine zuQ (a := []) (b := []) (by simp) (by simp) (by simp) ?_
 rw [show decide (([] : List TEntry) = []) = true from rfl]
 (repeat' first | refine zeN (zbl i0 (zbl i1 (zbl i2 (zbl i3 (zbl i4 (zbl i5 i6)))))) ?_ | with_reducible first | exact ⟨⟩ | refine zh ?_ | fail)
 refine c_sameProof hp ?_
 (repeat' first | refine zeN (zbl i0 (zbl i1 (zbl i2 (zbl i3 (zbl i4 (zbl i5 i6)))))) ?_ | with_reducible first | exact ⟨⟩ | refine zh ?_ | fail)
 refine zK 0 (fun k vs s => vs = [.d (.int .i64 k)] ∧ ∃ T,s = σ ++ T ∧ s[σ.length]? = some (msgO p)) ⟨rfl, [msgO p,msgO p],rfl,by rw [zw]; rfl⟩ ?_
 rintro k vs s hk ⟨rfl,T,rfl,g0⟩
 have hk0 : k = 0 := by omega
 subst hk0
 have hd : decide (((0 : Nat) : Int) < ((0 : Nat) : Int)) = false := rfl
 (repeat' first | refine zeN (zbl g0 hd) ?_ | with_reducible first | exact ⟨⟩ | refine zh ?_ | fail)
 (first | refine zao hl ?_ | refine zan hl ?_)
 exact hK
theorem zuP {σ : List zf} {p : zbe} (hp : zdV p) {K : AV → List zf → Prop} (hK : K (.d (.bool true)) σ) : zL Tryz.prog zoL [zdv p,zdv p] σ K := by
 refine zj ztq.is rfl fun hl _ => ztq.goes ?_
 simp only [zud,iN,bT,bF,eN,zdv]
 (repeat' first | refine zrY ?_ | with_reducible first | exact ⟨⟩ | refine zh ?_ | fail)
 refine c_sameM hp ?_
 (repeat' first | refine zrY ?_ | with_reducible first | exact ⟨⟩ | refine zh ?_ | fail)
 (first | refine zao hl ?_ | refine zan hl ?_)
 exact hK
def zsS (p : zbe) : Int := match p.headers with
 | [] => 0
 | h :: _ => h.seq
theorem gq66 {A P Q : Prop} (a : A) (h : Q) (e : A → P = Q := by intro a; simp -dsimp only [↓zcR, ↓zal, ↓zaM, ↓zcS, ↓zcN, ↓zcL, ↓zcO, ↓zcM, ↓zaR, ↓zaN, ↓zaS, ↓zaO, ↓zcP, ↓zaL, ↓zaT, ↓zaP, ↓zaU, ↓zaQ, ↓zcK, ↓zcQ, ↓zaK, ↓zaV, ↓zcI, ↓zcH, ↓zcJ,iN,bT,bF,eN, ↓zbI, ↓unC, ↓zQ, ↓zF, ↓zG, ↓zI, ↓zR, ↓zap, ↓zbp, ↓zab, ↓zaX, ↓zP, ↓zp, ↓zm, ↓zbg, ↓zi, ↓zY, ↓zB, ↓zas, ↓zaw, ↓ze, ↓zC, ↓zr, ↓zt, ↓zad, ↓zbL, ↓zbY, ↓zaa, ↓zaj, ↓zau, ↓zaB, ↓zaD, ↓zl, ↓zZ, ↓zH, ↓zu, ↓zS,zcd,zaI,zaH,unA,zce,bnd,zcn,zX,zV,zcp,dm,dm1,zD,zag,zcy,zcx,zU,Q0,Q1,Q2,Q3,Q4,Q5,zO,zq,zw,zM,zE,Q6,Q7,Q8,Q9,Q10,Q11,Q12,Q13,Q14,Nat.reduceAdd,Q15,Int.reduceToNat,Q16,Q17,Q18,Q19,Q20,reduceIte,Q21,Q22,zx,rep,zT,zcv,toD,zW,Q23,Q24,Q25,Q26,Q27,Q28,Nat.reduceLeDiff,Q29,Nat.reduceSub,Q30,Q31,Q32,sc,Q33,Q34,Q35,Q36,Q37,Q26,Q38,Q39,zel,zei,zef,zem,zbt,zej,zeg,zek,zeh,zbs,zbu,zen,zeo,Bool.not_true,Bool.not_false,List.length_map,List.length_cons,a]; rfl) : P := (e a).mpr h
theorem zuY {σ : List zf} {p : zbe} {K : AV → List zf → Prop} (hK : K (.d (.int .i64 (zsS p))) σ) : zL Tryz.prog zmG [zdv p] σ K := by
 refine zj zrr.is rfl fun hl _ => zrr.goes ?_
 have e1 : (zde p.headers).length = p.headers.length := List.length_map ..
 simp only [zrV,iN,bT,bF,eN,zdv]
 cases hh : p.headers with
 | nil =>
  rw [zsS,hh] at hK
  (repeat' first | refine zeN (show (((0 : Nat) : Int) == 0) = true from rfl) ?_ | with_reducible first | exact ⟨⟩ | refine zh ?_ | fail)
  (first | refine zao hl ?_ | refine zan hl ?_)
  exact hK
 | cons h r =>
  rw [zsS,hh] at hK
  have hz : (((r.length + 1 : Nat) : Int) == 0) = false := by simp; omega
  have hl2 : (zde r).length = r.length := List.length_map ..
  (repeat' first | refine gq66 (zbl hz hl2) ?_ | with_reducible first | exact ⟨⟩ | refine zh ?_ | fail)
  (first | refine zao hl ?_ | refine zan hl ?_)
  exact hK
theorem znL {σ : List zf} {p : zbe} {K : AV → List zf → Prop} (hK : K (.d (.int .i64 (zsS p))) σ) : zL Tryz.prog zjx [zdv p] σ K := by
 refine zj znx.is rfl fun hl _ => znx.goes ?_
 simp only [znY,iN,bT,bF,eN,zdv]
 cases hh : p.headers with
 | nil =>
  rw [zsS,hh] at hK
  (repeat' first | refine zeN (show (((0 : Nat) : Int) == 0) = true from rfl) ?_ | with_reducible first | exact ⟨⟩ | refine zh ?_ | fail)
  (first | refine zao hl ?_ | refine zan hl ?_)
  exact hK
 | cons h r =>
  rw [zsS,hh] at hK
  have hz : (((r.length + 1 : Nat) : Int) == 0) = false := by simp; omega
  have hl2 : (zde r).length = r.length := List.length_map ..
  (repeat' first | refine gq66 (zbl hz hl2) ?_ | with_reducible first | exact ⟨⟩ | refine zh ?_ | fail)
  (first | refine zao hl ?_ | refine zan hl ?_)
  exact hK
end Go.Proofs.YtncpaekiidpchaaGreat

/- Maps keyed by integers: what is found after a put. -/
import Derived.Test.YtpgahkdjkanblaaGreatAwEnd
import Derived.Test.YtpgahkdjkanblaaGreatQu1
import Derived.Test.YtpgahkdjkanblaaGreatRq1
import Derived.Test.YtpgahkdjkanblaaGreatSpOp
set_option linter.all false
namespace Go.AW
abbrev ents (l:List (Int × AV)):List (AV × AV):=l.map fun e=>(.d (.int .i64 e.1),e.2)
def zil (s:Int):List (Int × AV)->Nat->Option (Nat × AV)
 | [],_=>none
 | e :: r,i=>if s=e.1 then some (i,e.2) else zil s r (i+1)
theorem ztD (s:Int):∀ (l:List (Int × AV)) (i:Nat),zoA .int (.d (.int .i64 s)) (ents l) i=some (zil s l i)
 | [],_=>rfl
 | e :: r,i=>by
  simp only [ents,List.map_cons,zoA,zik,if_true,zil]
  by_cases h:s=e.1
  ·simp [h]
  ·have:(s == e.1)=false:=by simpa using h
   simp only [this,if_neg h]
   exact ztD s r (i+1)
theorem zup {s t:Int} {x:AV}:∀ {l:List (Int × AV)} {i:Nat},(zil t l i=none ∨ s ≠ t)->(zil s (l++[(t,x)]) i).map (·.2)=if s=t then some x else (zil s l i).map (·.2)
 | [],i,h=>by
  by_cases e:s=t <;> simp [zil,e]
 | e :: r,i,h=>by
  simp only [List.cons_append,zil]
  by_cases h1:s=e.1
  ·rw [if_pos h1,if_pos h1]
   by_cases e2:s=t
   ·rcases h with h | h
    ·simp only [zil] at h
     rw [if_pos (by rw [← e2,h1])] at h
     cases h
    ·exact absurd e2 h
   ·rw [if_neg e2]
  ·rw [if_neg h1,if_neg h1]
   refine zup ?_
   rcases h with h | h
   ·left
    simp only [zil] at h
    split at h
    ·cases h
    ·exact h
   ·exact .inr h
theorem findI_ge {s:Int}:∀ {l:List (Int × AV)} {i j:Nat} {v:AV},zil s l i=some (j,v)->i<=j
 | [],_,_,_,h=>by simp [zil] at h
 | e :: r,i,j,v,h=>by
  simp only [zil] at h
  split at h
  ·simp at h;omega
  ·have:=findI_ge h;omega
theorem findI_set {s t:Int} {x v:AV}:∀ {l:List (Int × AV)} {i j:Nat},zil t l i=some (i+j,v)->(zil s (l.set j (t,x)) i).map (·.2)=if s=t then some x else (zil s l i).map (·.2)
 | [],i,j,h=>by simp [zil] at h
 | e :: r,i, 0,h=>by
  simp only [zil] at h
  split at h
  ·rename_i h1
   simp only [List.set_cons_zero,zil]
   by_cases e2:s=t
   ·simp [e2]
   ·rw [if_neg e2,if_neg e2,if_neg (by rw [← h1];exact e2)]
  ·have:=findI_ge h;omega
 | e :: r,i,j+1,h=>by
  simp only [zil] at h
  split at h
  ·simp at h
  ·rename_i h1
   simp only [List.set_cons_succ,zil]
   have ih:=findI_set (s:=s) (x:=x) (l:=r) (i:=i+1) (j:=j) (by rw [h];congr 2;omega)
   by_cases h2:s=e.1
   ·rw [if_pos h2,if_pos h2,if_neg (by rw [h2];exact fun h=>h1 h.symm)]
   ·rw [if_neg h2,if_neg h2]
    exact ih
def zpX (l:List (Int × AV)) (f:Int->Option AV):Prop := ∀ s,(zil s l 0).map (·.2)=f s
theorem zpX.nil:zpX [] fun _=>none:=fun _=>rfl
theorem zpX.none {l:List (Int × AV)} {f:Int->Option AV} (h:zpX l f) {s:Int} (hs:f s = .none):zoA .int (.d (.int .i64 s)) (ents l) 0=some .none:=by
 rw [ztD]
 have:=h s
 rw [hs] at this
 cases e:zil s l 0 with
 | none=>rfl
 | some p=>rw [e] at this;simp at this
theorem zpX.some {l:List (Int × AV)} {f:Int->Option AV} (h:zpX l f) {s:Int} {v:AV} (hs:f s = .some v):∃ i,zoA .int (.d (.int .i64 s)) (ents l) 0 = .some (.some (i,v))/\zil s l 0 = .some (i,v):=by
 rw [ztD]
 have:=h s
 rw [hs] at this
 cases e:zil s l 0 with
 | none=>rw [e] at this;simp at this
 | some p =>
  rw [e] at this
  obtain ⟨i,w⟩:=p
  simp at this
  subst this
  exact ⟨i,rfl,rfl⟩
theorem zpX.add {l:List (Int × AV)} {f:Int->Option AV} (h:zpX l f) {t:Int} {x:AV} (ht:f t = .none):zpX (l++[(t,x)]) fun s=>if s=t then .some x else f s:=by
 intro s
 rw [zup,h s]
 left
 have:=h t
 rw [ht] at this
 cases e:zil t l 0 with
 | none=>rfl
 | some p=>rw [e] at this;simp at this
theorem zpX.put {l:List (Int × AV)} {f:Int->Option AV} (h:zpX l f) {t:Int} {x v:AV} {i:Nat} (ht:zil t l 0 = .some (i,v)):zpX (l.set i (t,x)) fun s=>if s=t then .some x else f s:=by
 intro s
 rw [findI_set (v:=v) (by rw [Nat.zero_add];exact ht),h s]
theorem ents_set (l:List (Int × AV)) (i:Nat) (t:Int) (x:AV):(ents l).set i (.d (.int .i64 t),x)=ents (l.set i (t,x)):=by
 simp only [ents,List.map_set]
theorem ents_add (l:List (Int × AV)) (t:Int) (x:AV):ents l++[(.d (.int .i64 t),x)]=ents (l++[(t,x)]):=by simp [ents]
end Go.AW

/- Contracts: what is wrong with view-changes; what a new view goes on with. -/
set_option maxRecDepth 100000
namespace Go.Proofs.YtpgahkdjkanblaaGreat
open Go.AW
theorem gq14 {A P Q:Prop} (a:A) (h:Q) (e:A->P=Q:=by intro a;simp -dsimp only [↓zeN, ↓zav, ↓zbq, ↓zeO, ↓zeH, ↓zeF, ↓zeI, ↓zeG, ↓zbv, ↓zbr, ↓zbw, ↓zbs, ↓zeJ, ↓zbp, ↓zbx, ↓zbt, ↓zby, ↓zbu, ↓zeE, ↓zeM, ↓zbo, ↓zbz, ↓zeC, ↓zeB, ↓zeD,iN,bT,bF,eN, ↓zcB, ↓unC, ↓zV, ↓zM, ↓zN, ↓zQ, ↓zY, ↓zal, ↓zdb, ↓zak, ↓zaH, ↓zT, ↓zf, ↓zj, ↓zbZ, ↓zb, ↓zag, ↓zE, ↓zaI, ↓zaO, ↓zc, ↓zy, ↓zl, ↓zG, ↓zaa, ↓zdm, ↓zdw, ↓zaj, ↓zar, ↓zaK, ↓zaS, ↓zaY, ↓zq, ↓zai, ↓zO, ↓zu, ↓zX,zdx,zbg,zbb,unA,zdd,bnd,zdY,zaf,zP,zdR,dm,dm1,zA,zae,zeh,zeg,zI,Q0,Q1,Q2,Q3,Q4,Q5,zZ,zC,zt,zL,zF,Q6,Q7,Q8,Q9,Q10,Q11,Q12,Q13,Q14,Nat.reduceAdd,Q15,Int.reduceToNat,Q16,Q17,Q18,Q19,Q20,reduceIte,Q21,Q22,zH,rep,zac,zel,toD,zah,Q23,Q24,Q25,Q26,Q27,Q28,Nat.reduceLeDiff,Q29,Nat.reduceSub,Q30,Q31,Q32,sc,Q33,Q34,Q35,List.length_map,a];rfl):P:=(e a).mpr h
theorem gq15 {A P Q:Prop} (a:A) (h:Q) (e:A->P=Q:=by intro a;simp -dsimp only [↓zeN, ↓zav, ↓zbq, ↓zeO, ↓zeH, ↓zeF, ↓zeI, ↓zeG, ↓zbv, ↓zbr, ↓zbw, ↓zbs, ↓zeJ, ↓zbp, ↓zbx, ↓zbt, ↓zby, ↓zbu, ↓zeE, ↓zeM, ↓zbo, ↓zbz, ↓zeC, ↓zeB, ↓zeD,iN,bT,bF,eN, ↓zcB, ↓unC, ↓zV, ↓zM, ↓zN, ↓zQ, ↓zY, ↓zal, ↓zdb, ↓zak, ↓zaH, ↓zT, ↓zf, ↓zj, ↓zbZ, ↓zb, ↓zag, ↓zE, ↓zaI, ↓zaO, ↓zc, ↓zy, ↓zl, ↓zG, ↓zaa, ↓zdm, ↓zdw, ↓zaj, ↓zar, ↓zaK, ↓zaS, ↓zaY, ↓zq, ↓zai, ↓zO, ↓zu, ↓zX,zdx,zbg,zbb,unA,zdd,bnd,zdY,zaf,zP,zdR,dm,dm1,zA,zae,zeh,zeg,zI,Q0,Q1,Q2,Q3,Q4,Q5,zZ,zC,zt,zL,zF,Q6,Q7,Q8,Q9,Q10,Q11,Q12,Q13,Q14,Nat.reduceAdd,Q15,Int.reduceToNat,Q16,Q17,Q18,Q19,Q20,reduceIte,Q21,Q22,zH,rep,zac,zel,toD,zah,Q23,Q24,Q25,Q26,Q27,Q28,Nat.reduceLeDiff,Q29,Nat.reduceSub,Q30,Q31,Q32,sc,Q33,Q34,Q35,zaE,a];rfl):P:=(e a).mpr h
theorem c_may {σ:List zh} {f view:Int} {cs:List zU} (hn:cs.length<=1073741824) {K:KT} (hK:K (.d (.int .i64 (zlY f view cs))) σ) :
  zo Tryz.prog zjR [.d (.int .i64 f),.d (.int .i64 view),.d (.slice (zan cs))] σ K:=by
 refine zd zsA.is rfl fun hl _=>zsA.goes ?_
 have fin:∀ z,zlY f view cs=z->K (.d (.int .i64 z)) σ:=fun z h=>h ▸ hK
 clear hK
 simp only [zsY,iN,bT,bF,eN]
 (refine gq2 ?_;try with_reducible exact True.intro)
 refine zmA ?_
 cases h0:(zbN f != 0)
 rotate_left
 ·(refine gq1 h0 ?_;try with_reducible exact True.intro)
  refine zw hl ?_
  exact fin _ (by rw [zlY,if_pos (by simpa using h0)])
 have h0':¬ zbN f ≠ 0:=by simpa using h0
 cases h1:decide (view<1)
 rotate_left
 ·(refine gq1 (zn h0 h1) ?_;try with_reducible exact True.intro)
  refine zw hl ?_
  exact fin _ (by rw [zlY,if_neg h0',if_pos (by simp at h1;omega)])
 cases h2:decide (view > 9007199254740992)
 rotate_left
 ·(refine gq1 (zn h0 (zn h1 h2)) ?_;try with_reducible exact True.intro)
  refine zw hl ?_
  exact fin _ (by rw [zlY,if_neg h0',if_pos (by simp at h2;omega)])
 have h12:¬ (view<1 ∨ view > 9007199254740992):=by simp at h1 h2;omega
 (refine gq14 (zn h0 (zn h1 h2)) ?_;try with_reducible exact True.intro)
 refine zm cs.length (fun k vs s=>vs = [.d (.int .i64 (zfB cs k)),.d (.int .i64 k)]/\(∃ T,s = σ++T)/\zlf f cs k=true) ⟨rfl,⟨[],by simp⟩,rfl⟩ ?_
 rintro k vs s hk ⟨rfl,⟨T,rfl⟩,hok⟩
 (refine gq11 ?_;try with_reducible exact True.intro)
 refine zad (fun h => ?_) (fun h => ?_)
 ·have hlt:k<cs.length:=by simp at h;omega
  have hx:cs[k]? = some cs[k]:=by simp [hlt]
  have hgx:=zR (f:=zaE) hx
  obtain ⟨c,hce⟩:∃ c,cs[k]=c:=⟨_,rfl⟩
  rw [hce] at hx hgx
  have hp:zfB cs (k+1)=c.src:=by simp only [zfB,hx]
  (refine gq15 hgx ?_;try with_reducible exact True.intro)
  have hbad:zrT f cs k=false->zlY f view cs=1:=fun h=>by rw [zlY,if_neg h0',if_neg h12,if_pos (zxN hlt h)]
  have hval:zrT f cs k=decide (zfB cs k<c.src/\c.src<zaW 3 f):=by simp only [zrT,hx]
  cases h3:decide (c.src<=zfB cs k)
  rotate_left
  ·(refine gq15 (zn hgx h3) ?_;try with_reducible exact True.intro)
   repeat' ((with_reducible refine And.intro ?_ ?_);focus (first | omega | rfl | decide))
   try (refine gq15 (zn hgx h3) ?_;try with_reducible exact True.intro)
   refine zw hl ?_
   exact fin _ (hbad (by rw [hval];simp at h3 ⊢;omega))
  ·(refine gq15 (zn hgx h3) ?_;try with_reducible exact True.intro)
   repeat' ((with_reducible refine And.intro ?_ ?_);focus (first | omega | rfl | decide))
   try (refine gq15 (zn hgx h3) ?_;try with_reducible exact True.intro)
   refine zkL ?_
   cases h4:decide (c.src ≥ zaW 3 f)
   rotate_left
   ·(refine gq15 (zn hgx (zn h3 h4)) ?_;try with_reducible exact True.intro)
    repeat' ((with_reducible refine And.intro ?_ ?_);focus (first | omega | rfl | decide))
    try (refine gq15 (zn hgx (zn h3 h4)) ?_;try with_reducible exact True.intro)
    refine zw hl ?_
    exact fin _ (hbad (by rw [hval];simp at h4 ⊢;omega))
   ·(refine gq15 (zn hgx (zn h3 h4)) ?_;try with_reducible exact True.intro)
    repeat' ((with_reducible refine And.intro ?_ ?_);focus (first | omega | rfl | decide))
    try (refine gq15 (zn hgx (zn h3 h4)) ?_;try with_reducible exact True.intro)
    refine zaz.next hlt ⟨?_,⟨_,rfl⟩,?_⟩
    ·rw [hp,show (k:Int)+1=((k+1:Nat):Int) by omega,zas (by omega) (by omega)]
    ·rw [zkg,hok,hval];simp at h3 h4 ⊢;omega
 ·have hn:k=cs.length:=by simp at h;omega
  (refine gq11 ?_;try with_reducible exact True.intro)
  refine c_quBig ?_
  cases h5:decide ((cs.length:Int)<zaW 2 f)
  all_goals
   (refine gq14 h5 ?_;try with_reducible exact True.intro)
   refine zw hl ?_
  ·exact fin _ (by rw [zlY,if_neg h0',if_neg h12,if_neg (by rw [← hn,hok];simp),if_neg (by simpa using h5)])
  ·exact fin _ (by rw [zlY,if_neg h0',if_neg h12,if_neg (by rw [← hn,hok];simp),if_pos (by simpa using h5)])
end Go.Proofs.YtpgahkdjkanblaaGreat

/- Contracts: the reference's latest batch for a number. -/
set_option maxRecDepth 100000
namespace Go.Proofs.YtpgahkdjkanblaaGreat
open Go.AW
def latC:Option zcb->List AV
 | none => [.d (.int .i64 0),.d (.int .i64 0),.d (.int .i64 0),.d (.int .i64 0),.d (.int .i64 0),.exact [],.exact []]
 | some p => [.d (.int .i64 p.view),.d (.int .i64 p.seq),.d (.int .i64 p.dig),.d (.int .i64 p.fkey),.d (.int .i64 p.fdig),.d (.slice (zap p.signs)),.d (.slice (zbj p.batch))]
def zxR (cs:List zU):Prop:=cs.length<=1073741824/\∀ c ∈ cs,c.cert.signs.length<=1073741824/\c.above.length<=1073741824/\∀ p ∈ c.above,ziK p.batch
theorem zzU {A P Q:Prop} (a:A) (h:Q) (e:A->P=Q:=by intro a;simp -dsimp only [↓zeN, ↓zav, ↓zbq, ↓zeO, ↓zeH, ↓zeF, ↓zeI, ↓zeG, ↓zbv, ↓zbr, ↓zbw, ↓zbs, ↓zeJ, ↓zbp, ↓zbx, ↓zbt, ↓zby, ↓zbu, ↓zeE, ↓zeM, ↓zbo, ↓zbz, ↓zeC, ↓zeB, ↓zeD,iN,bT,bF,eN, ↓zcB, ↓unC, ↓zV, ↓zM, ↓zN, ↓zQ, ↓zY, ↓zal, ↓zdb, ↓zak, ↓zaH, ↓zT, ↓zf, ↓zj, ↓zbZ, ↓zb, ↓zag, ↓zE, ↓zaI, ↓zaO, ↓zc, ↓zy, ↓zl, ↓zG, ↓zaa, ↓zdm, ↓zdw, ↓zaj, ↓zar, ↓zaK, ↓zaS, ↓zaY, ↓zq, ↓zai, ↓zO, ↓zu, ↓zX,zdx,zbg,zbb,unA,zdd,bnd,zdY,zaf,zP,zdR,dm,dm1,zA,zae,zeh,zeg,zI,Q0,Q1,Q2,Q3,Q4,Q5,zZ,zC,zt,zL,zF,Q6,Q7,Q8,Q9,Q10,Q11,Q12,Q13,Q14,Nat.reduceAdd,Q15,Int.reduceToNat,Q16,Q17,Q18,Q19,Q20,reduceIte,Q21,Q22,zH,rep,zac,zel,toD,zah,Q23,Q24,Q25,Q26,Q27,Q28,Nat.reduceLeDiff,Q29,Nat.reduceSub,Q30,Q31,Q32,sc,Q33,Q34,Q35,List.length_map,zaE,a];rfl):P:=(e a).mpr h
theorem gq17 {A P Q:Prop} (a:A) (h:Q) (e:A->P=Q:=by intro a;simp -dsimp only [↓zeN, ↓zav, ↓zbq, ↓zeO, ↓zeH, ↓zeF, ↓zeI, ↓zeG, ↓zbv, ↓zbr, ↓zbw, ↓zbs, ↓zeJ, ↓zbp, ↓zbx, ↓zbt, ↓zby, ↓zbu, ↓zeE, ↓zeM, ↓zbo, ↓zbz, ↓zeC, ↓zeB, ↓zeD,iN,bT,bF,eN, ↓zcB, ↓unC, ↓zV, ↓zM, ↓zN, ↓zQ, ↓zY, ↓zal, ↓zdb, ↓zak, ↓zaH, ↓zT, ↓zf, ↓zj, ↓zbZ, ↓zb, ↓zag, ↓zE, ↓zaI, ↓zaO, ↓zc, ↓zy, ↓zl, ↓zG, ↓zaa, ↓zdm, ↓zdw, ↓zaj, ↓zar, ↓zaK, ↓zaS, ↓zaY, ↓zq, ↓zai, ↓zO, ↓zu, ↓zX,zdx,zbg,zbb,unA,zdd,bnd,zdY,zaf,zP,zdR,dm,dm1,zA,zae,zeh,zeg,zI,Q0,Q1,Q2,Q3,Q4,Q5,zZ,zC,zt,zL,zF,Q6,Q7,Q8,Q9,Q10,Q11,Q12,Q13,Q14,Nat.reduceAdd,Q15,Int.reduceToNat,Q16,Q17,Q18,Q19,Q20,reduceIte,Q21,Q22,zH,rep,zac,zel,toD,zah,Q23,Q24,Q25,Q26,Q27,Q28,Nat.reduceLeDiff,Q29,Nat.reduceSub,Q30,Q31,Q32,sc,Q33,Q34,Q35,Bool.not_false,Bool.not_true,zaE,zew,a];rfl):P:=(e a).mpr h
theorem gq18 {A P Q:Prop} (a:A) (h:Q) (e:A->P=Q:=by intro a;simp -dsimp only [↓zeN, ↓zav, ↓zbq, ↓zeO, ↓zeH, ↓zeF, ↓zeI, ↓zeG, ↓zbv, ↓zbr, ↓zbw, ↓zbs, ↓zeJ, ↓zbp, ↓zbx, ↓zbt, ↓zby, ↓zbu, ↓zeE, ↓zeM, ↓zbo, ↓zbz, ↓zeC, ↓zeB, ↓zeD,iN,bT,bF,eN, ↓zcB, ↓unC, ↓zV, ↓zM, ↓zN, ↓zQ, ↓zY, ↓zal, ↓zdb, ↓zak, ↓zaH, ↓zT, ↓zf, ↓zj, ↓zbZ, ↓zb, ↓zag, ↓zE, ↓zaI, ↓zaO, ↓zc, ↓zy, ↓zl, ↓zG, ↓zaa, ↓zdm, ↓zdw, ↓zaj, ↓zar, ↓zaK, ↓zaS, ↓zaY, ↓zq, ↓zai, ↓zO, ↓zu, ↓zX,zdx,zbg,zbb,unA,zdd,bnd,zdY,zaf,zP,zdR,dm,dm1,zA,zae,zeh,zeg,zI,Q0,Q1,Q2,Q3,Q4,Q5,zZ,zC,zt,zL,zF,Q6,Q7,Q8,Q9,Q10,Q11,Q12,Q13,Q14,Nat.reduceAdd,Q15,Int.reduceToNat,Q16,Q17,Q18,Q19,Q20,reduceIte,Q21,Q22,zH,rep,zac,zel,toD,zah,Q23,Q24,Q25,Q26,Q27,Q28,Nat.reduceLeDiff,Q29,Nat.reduceSub,Q30,Q31,Q32,sc,Q33,Q34,Q35,Bool.not_false,Bool.not_true,Option.isSome_none,zaE,latC,zew,a];rfl):P:=(e a).mpr h
theorem gq19 {A P Q:Prop} (a:A) (h:Q) (e:A->P=Q:=by intro a;simp -dsimp only [↓zeN, ↓zav, ↓zbq, ↓zeO, ↓zeH, ↓zeF, ↓zeI, ↓zeG, ↓zbv, ↓zbr, ↓zbw, ↓zbs, ↓zeJ, ↓zbp, ↓zbx, ↓zbt, ↓zby, ↓zbu, ↓zeE, ↓zeM, ↓zbo, ↓zbz, ↓zeC, ↓zeB, ↓zeD,iN,bT,bF,eN, ↓zcB, ↓unC, ↓zV, ↓zM, ↓zN, ↓zQ, ↓zY, ↓zal, ↓zdb, ↓zak, ↓zaH, ↓zT, ↓zf, ↓zj, ↓zbZ, ↓zb, ↓zag, ↓zE, ↓zaI, ↓zaO, ↓zc, ↓zy, ↓zl, ↓zG, ↓zaa, ↓zdm, ↓zdw, ↓zaj, ↓zar, ↓zaK, ↓zaS, ↓zaY, ↓zq, ↓zai, ↓zO, ↓zu, ↓zX,zdx,zbg,zbb,unA,zdd,bnd,zdY,zaf,zP,zdR,dm,dm1,zA,zae,zeh,zeg,zI,Q0,Q1,Q2,Q3,Q4,Q5,zZ,zC,zt,zL,zF,Q6,Q7,Q8,Q9,Q10,Q11,Q12,Q13,Q14,Nat.reduceAdd,Q15,Int.reduceToNat,Q16,Q17,Q18,Q19,Q20,reduceIte,Q21,Q22,zH,rep,zac,zel,toD,zah,Q23,Q24,Q25,Q26,Q27,Q28,Nat.reduceLeDiff,Q29,Nat.reduceSub,Q30,Q31,Q32,sc,Q33,Q34,Q35,Bool.not_false,Bool.not_true,Option.isSome_some,zaE,latC,zew,a];rfl):P:=(e a).mpr h
theorem gq20 {P Q:Prop} (h:Q) (e:P=Q:=by simp -dsimp only [↓zeN, ↓zav, ↓zbq, ↓zeO, ↓zeH, ↓zeF, ↓zeI, ↓zeG, ↓zbv, ↓zbr, ↓zbw, ↓zbs, ↓zeJ, ↓zbp, ↓zbx, ↓zbt, ↓zby, ↓zbu, ↓zeE, ↓zeM, ↓zbo, ↓zbz, ↓zeC, ↓zeB, ↓zeD,iN,bT,bF,eN, ↓zcB, ↓unC, ↓zV, ↓zM, ↓zN, ↓zQ, ↓zY, ↓zal, ↓zdb, ↓zak, ↓zaH, ↓zT, ↓zf, ↓zj, ↓zbZ, ↓zb, ↓zag, ↓zE, ↓zaI, ↓zaO, ↓zc, ↓zy, ↓zl, ↓zG, ↓zaa, ↓zdm, ↓zdw, ↓zaj, ↓zar, ↓zaK, ↓zaS, ↓zaY, ↓zq, ↓zai, ↓zO, ↓zu, ↓zX,zdx,zbg,zbb,unA,zdd,bnd,zdY,zaf,zP,zdR,dm,dm1,zA,zae,zeh,zeg,zI,Q0,Q1,Q2,Q3,Q4,Q5,zZ,zC,zt,zL,zF,Q6,Q7,Q8,Q9,Q10,Q11,Q12,Q13,Q14,Nat.reduceAdd,Q15,Int.reduceToNat,Q16,Q17,Q18,Q19,Q20,reduceIte,Q21,Q22,zH,rep,zac,zel,toD,zah,Q23,Q24,Q25,Q26,Q27,Q28,Nat.reduceLeDiff,Q29,Nat.reduceSub,Q30,Q31,Q32,sc,Q33,Q34,Q35,latC];rfl):P:=e.mpr h
theorem c_rLatest {σ:List zh} {cs:List zU} {q:Int} (hs:zxR cs) {K:KT} (hK:K (.d (.slice (zbj (ztY (zrO (zbW cs cs.length) q))))) σ) :
  zo Tryz.prog zoR [.d (.slice (zan cs)),.d (.int .i64 q)] σ K:=by
 refine zd zur.is rfl fun hl _=>zur.goes ?_
 obtain ⟨hs1,hs2⟩:=hs
 simp only [zuH,iN,bT,bF,eN]
 (refine gq3 ?_;try with_reducible exact True.intro)
 refine zm cs.length (fun k vs s=>vs = [.d (.bool (zrO (zbW cs k) q).isSome),.d (.int .i64 k)]/\∃ T,s = σ++(.box (latC (zrO (zbW cs k) q)) :: T)) ⟨rfl,[],rfl⟩ ?_
 rintro k vs s hk ⟨rfl,T,rfl⟩
 (refine gq11 ?_;try with_reducible exact True.intro)
 refine zad (fun h => ?_) (fun h => ?_)
 ·have hlt:k<cs.length:=by simp at h;omega
  have hx:cs[k]? = some cs[k]:=by simp [hlt]
  have hgx:=zR (f:=zaE) hx
  obtain ⟨_,ha,_⟩:=hs2 _ (List.getElem_mem hlt)
  obtain ⟨c,hce⟩:∃ c,cs[k]=c:=⟨_,rfl⟩
  rw [hce] at hx hgx ha
  have hps:=zoO hx
  refine zm c.above.length (fun j vs s=>vs = [.d (.bool (zrO (zbW cs k++c.above.take j) q).isSome),.d (.int .i64 j)]/\∃ T,s = σ++(.box (latC (zrO (zbW cs k++c.above.take j) q)) :: T)) ⟨by simp,T,by simp⟩ ?_
  rintro j vs s hj ⟨rfl,T,rfl⟩
  (refine zzU hgx ?_;try with_reducible exact True.intro)
  refine ⟨by omega,?_⟩
  refine zad (fun h => ?_) (fun h => ?_)
  ·have hjt:j<c.above.length:=by simp at h;omega
   have hy:c.above[j]? = some c.above[j]:=by simp [hjt]
   have hgy:=zR (f:=zew) hy
   obtain ⟨p,hpe⟩:∃ p,c.above[j]=p:=⟨_,rfl⟩
   rw [hpe] at hy hgy
   have htk:c.above.take (j+1)=c.above.take j++[p]:=by rw [List.take_add_one,hy];rfl
   have hL:zrO (zbW cs k++c.above.take (j+1)) q=zfZ q (zrO (zbW cs k++c.above.take j) q) p:=by rw [htk, ← List.append_assoc,zvO]
   have hw:IntKind.i64.wrap ((j:Int)+1)=((j+1:Nat):Int):=by rw [zas (by omega) (by omega)];rfl
   obtain ⟨o,ho⟩:∃ o,zrO (zbW cs k++c.above.take j) q=o:=⟨_,rfl⟩
   rw [ho] at hL ⊢
   have next:∀ (o':Option zcb) (T:List zh),zfZ q o p=o' → zaz c.above.length (fun j vs s=>vs = [.d (.bool (zrO (zbW cs k++c.above.take j) q).isSome),.d (.int .i64 j)]/\∃ T,s = σ++(.box (latC (zrO (zbW cs k++c.above.take j) q)) :: T)) j [.d (.bool o'.isSome),.d (.int .i64 (j+1:Nat))] (σ++(.box (latC o') :: T)):=fun o' T h=>zaz.next hjt ⟨by rw [hL,h],T,by rw [hL,h]⟩
   cases h1:(p.seq == q)
   ·have h1':¬ p.seq=q:=by simpa using h1
    (refine gq17 (ze hgx (ze hgy (ze h1 hw))) ?_;try with_reducible exact True.intro)
    repeat' ((with_reducible refine And.intro ?_ ?_);focus (first | omega | rfl | decide))
    try (refine gq17 (ze hgx (ze hgy (ze h1 hw))) ?_;try with_reducible exact True.intro)
    exact next o _ (by unfold zfZ;exact if_neg h1')
   ·have h1':p.seq=q:=by simpa using h1
    cases o with
    | none =>
     (refine gq18 (ze hgx (ze hgy (ze h1 hw))) ?_;try with_reducible exact True.intro)
     repeat' ((with_reducible refine And.intro ?_ ?_);focus (first | omega | rfl | decide))
     try (refine gq18 (ze hgx (ze hgy (ze h1 hw))) ?_;try with_reducible exact True.intro)
     exact next (some p) _ (by rw [zfZ,if_pos h1'])
    | some r =>
     cases h2:decide (p.view > r.view)
     ·(refine gq19 (ze hgx (ze hgy (ze h1 (ze h2 hw)))) ?_;try with_reducible exact True.intro)
      repeat' ((with_reducible refine And.intro ?_ ?_);focus (first | omega | rfl | decide))
      try (refine gq19 (ze hgx (ze hgy (ze h1 (ze h2 hw)))) ?_;try with_reducible exact True.intro)
      exact next (some r) _ (by rw [zfZ,if_pos h1'];exact if_neg (by simpa using h2))
     ·(refine gq19 (ze hgx (ze hgy (ze h1 (ze h2 hw)))) ?_;try with_reducible exact True.intro)
      repeat' ((with_reducible refine And.intro ?_ ?_);focus (first | omega | rfl | decide))
      try (refine gq19 (ze hgx (ze hgy (ze h1 (ze h2 hw)))) ?_;try with_reducible exact True.intro)
      exact next (some p) _ (by rw [zfZ,if_pos h1'];exact if_pos (by simpa using h2))
  ·have hn:j=c.above.length:=by simp at h;omega
   subst hn
   rw [List.take_length, ← hps]
   (refine gq3 ?_;try with_reducible exact True.intro)
   refine zaz.next hlt ⟨?_,T,rfl⟩
   rw [show (k:Int)+1=((k+1:Nat):Int) by omega,zas (by omega) (by omega)]
 ·have hn:k=cs.length:=by simp at h;omega
  subst hn
  obtain ⟨o,ho⟩:∃ o,zrO (zbW cs cs.length) q=o:=⟨_,rfl⟩
  rw [ho] at hK ⊢
  cases o with
  | none =>
   (refine gq20 ?_;try with_reducible exact True.intro)
   refine zw hl ?_
   exact hK
  | some p =>
   (refine gq20 ?_;try with_reducible exact True.intro)
   refine zw hl ?_
   exact hK
end Go.Proofs.YtpgahkdjkanblaaGreat

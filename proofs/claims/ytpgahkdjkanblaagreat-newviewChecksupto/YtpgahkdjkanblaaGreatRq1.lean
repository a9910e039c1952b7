/- Contracts: batches: in memory of their own; which are the same, by the reference. -/
import Derived.Test.YtpgahkdjkanblaaGreatQu1
import Derived.Test.YtpgahkdjkanblaaGreatSpOp
import Derived.Test.YtpgahkdjkanblaaGreatAwEnd
set_option linter.all false
set_option maxRecDepth 100000
namespace Go.Proofs.YtpgahkdjkanblaaGreat
open Go.AW
def zhN (b:List zC):Prop:=b.length<=1073741824/\∀ x∈b,x.op.recs.length<=1073741824/\∀ r∈x.op.recs,r.length<=1073741824
theorem gq8 {A P Q:Prop} (a:A) (h:Q) (e:A->P=Q:=by intro a;simp -dsimp only [↓zhL, ↓zbi, ↓zcI, ↓zhM, ↓zhF, ↓zhD, ↓zhG, ↓zhE, ↓zcN, ↓zcJ, ↓zcO, ↓zcK, ↓zhH, ↓zcH, ↓zcP, ↓zcL, ↓zcQ, ↓zcM, ↓zhC, ↓zhK, ↓zcG, ↓zcR, ↓zhz, ↓zhy, ↓zhB,iN,bT,bF,eN, ↓zdT, ↓unC, ↓zam, ↓zY, ↓zZ, ↓zae, ↓zax, ↓zag, ↓zeQ, ↓zap, ↓zaQ, ↓zW, ↓zg, ↓zh, ↓zcW, ↓zb, ↓zaC, ↓zG, ↓zbv, ↓zbE, ↓zc, ↓zE, ↓zq, ↓zK, ↓zao, ↓zft, ↓zfB, ↓zaL, ↓zaX, ↓zbm, ↓zbC, ↓zcj, ↓zI, ↓zaH, ↓zaa, ↓zM, ↓zaw,zfE,zcw,zcp,unA,zeT,bnd,zgq,zaA,zL,zga,dm,dm1,zw,zad,zgP,zgO,zH,Q0,Q1,Q2,Q3,Q4,Q5,zay,zB,zD,zT,zP,Q6,Q7,Q8,Q9,Q10,Q11,Q12,Q13,Q14,Nat.reduceAdd,Q15,Int.reduceToNat,Q16,Q17,Q18,Q19,Q20,reduceIte,Q21,Q22,zU,rep,zar,zgW,toD,zaz,Q23,Q24,Q25,Q26,Q27,Q28,Nat.reduceLeDiff,Q29,Nat.reduceSub,Q30,Q31,Q32,sc,Q33,Q34,Q35,Bool.and_false,Bool.and_self,Bool.false_and,Bool.not_false,Bool.not_true,Bool.true_and,Int.toNat_natCast,Int.toNat_zero,List.drop_zero,List.length_map,List.length_nil,List.nil_append,List.take_length,Nat.sub_zero,Nat.zero_add,Option.isSome_none,Option.isSome_some,Option.map_none,Option.map_some,zX,beq_self_eq_true,bne_self_eq_false,zco,zat,zbh,zdR,opA,zei,zfi,zaN,a];rfl):P:=(e a).mpr h
theorem gq9 {P Q:Prop} (h:Q) (e:P=Q:=by simp -dsimp only [↓zhL, ↓zbi, ↓zcI, ↓zhM, ↓zhF, ↓zhD, ↓zhG, ↓zhE, ↓zcN, ↓zcJ, ↓zcO, ↓zcK, ↓zhH, ↓zcH, ↓zcP, ↓zcL, ↓zcQ, ↓zcM, ↓zhC, ↓zhK, ↓zcG, ↓zcR, ↓zhz, ↓zhy, ↓zhB,iN,bT,bF,eN, ↓zdT, ↓unC, ↓zam, ↓zY, ↓zZ, ↓zae, ↓zax, ↓zag, ↓zeQ, ↓zap, ↓zaQ, ↓zW, ↓zg, ↓zh, ↓zcW, ↓zb, ↓zaC, ↓zG, ↓zbv, ↓zbE, ↓zc, ↓zE, ↓zq, ↓zK, ↓zao, ↓zft, ↓zfB, ↓zaL, ↓zaX, ↓zbm, ↓zbC, ↓zcj, ↓zI, ↓zaH, ↓zaa, ↓zM, ↓zaw,zfE,zcw,zcp,unA,zeT,bnd,zgq,zaA,zL,zga,dm,dm1,zw,zad,zgP,zgO,zH,Q0,Q1,Q2,Q3,Q4,Q5,zay,zB,zD,zT,zP,Q6,Q7,Q8,Q9,Q10,Q11,Q12,Q13,Q14,Nat.reduceAdd,Q15,Int.reduceToNat,Q16,Q17,Q18,Q19,Q20,reduceIte,Q21,Q22,zU,rep,zar,zgW,toD,zaz,Q23,Q24,Q25,Q26,Q27,Q28,Nat.reduceLeDiff,Q29,Nat.reduceSub,Q30,Q31,Q32,sc,Q33,Q34,Q35,Bool.and_false,Bool.and_self,Bool.false_and,Bool.not_false,Bool.not_true,Bool.true_and,Int.toNat_natCast,Int.toNat_zero,List.drop_zero,List.length_map,List.length_nil,List.nil_append,List.take_length,Nat.sub_zero,Nat.zero_add,Option.isSome_none,Option.isSome_some,Option.map_none,Option.map_some,zX,beq_self_eq_true,bne_self_eq_false,zco,zat,zbh,zdR,opA,zei,zfi,zaN];rfl):P:=e.mpr h
theorem zmj {σ:List zd} {b:List zC} (hb:zhN b) {K:KT} (hK:K (.d (.slice (zaP b))) σ):zj Tryz.prog zdM [.d (.slice (zaP b))] σ K:=by
 refine zdZ zwA fun hl => ?_
 simp only [zpc,iN,bT,bF,eN,zl2]
 (refine gq3 ?_;try with_reducible exact True.intro)
 refine zl b.length (fun j vs q => ∃ B T,vs = [if j=0 then .exact [] else .own (σ.length+1) (zaP (b.take j)),.d (.int .i64 j)]/\q = σ++(if j=0 then [] else B::.tok 9 (zaP (b.take j)).length::T)) ⟨.tok 1 0,[],rfl,by simp⟩ ?_
 rintro j vs q hj ⟨B,T,rfl,rfl⟩
 obtain ⟨hb1,hb2⟩:=hb
 by_cases hj0:j=0
 ·subst hj0
  simp only [if_true]
  (refine gq3 ?_;try with_reducible exact True.intro)
  refine zV (fun h => ?_) (fun h => ?_)
  ·have hlt:0<b.length:=by simp at h;omega
   have hx:b[0]? = some b[0]:=by simp [hlt]
   obtain ⟨hr1,hr2⟩:=hb2 _ (List.getElem_mem hlt)
   have hgx:=zF (f:=zaN) hx
   have hsn:=map_snoc (f:=zaN) hx
   obtain ⟨x,hxe⟩:∃ x,b[0]=x:=⟨_,rfl⟩
   rw [hxe] at hgx hsn hr1 hr2
   (refine gq8 (zo (show ((0:Nat):Int)=0 from rfl) hgx) ?_;try with_reducible exact True.intro)
   refine ⟨by omega,c_opClone (o:=x.op) hr1 hr2 ?_⟩
   (refine gq9 ?_;try with_reducible exact True.intro)
   repeat' ((with_reducible refine And.intro ?_ ?_);focus (first|omega|simp))
   refine zan.next hlt ⟨.box ((zaN x).map .d),[],?_,?_⟩
   ·rw [if_neg (by omega)]
    simp only [List.take_zero,List.map_nil,List.nil_append,zaN] at hsn
    simp only [zaP, ← hsn,Nat.zero_add]
    rfl
   ·rw [if_neg (by omega)]
    try rw [List.length_map]
    rw [show (List.take (0+1) b).length=1 by rw [List.length_take];omega]
    rfl
  ·have hn:b = []:=by simp at h;exact h
   refine zt hl ?_
   rw [hn] at hK
   exact hK
 ·simp only [if_neg hj0]
  have hlj:(b.take j).length=j:=by rw [List.length_take];omega
  (refine gq3 ?_;try with_reducible exact True.intro)
  refine zV (fun h => ?_) (fun h => ?_)
  ·have hlt:j<b.length:=by simp at h;omega
   have hx:b[j]? = some b[j]:=by simp [hlt]
   obtain ⟨hr1,hr2⟩:=hb2 _ (List.getElem_mem hlt)
   have hgx:=zF (f:=zaN) hx
   have hsn:=map_snoc (f:=zaN) hx
   obtain ⟨x,hxe⟩:∃ x,b[j]=x:=⟨_,rfl⟩
   rw [hxe] at hgx hsn hr1 hr2
   (refine gq8 hgx ?_;try with_reducible exact True.intro)
   refine ⟨by omega,c_opClone (o:=x.op) hr1 hr2 ?_⟩
   (refine gq9 ?_;try with_reducible exact True.intro)
   repeat' ((with_reducible refine And.intro ?_ ?_);focus (first|omega|(simp only [List.length_map,List.length_take];omega)|simp))
   refine zan.next hlt ⟨B,T++[.box ((zaN x).map .d)],?_,?_⟩
   ·rw [if_neg (by omega),show (j:Int)+1=((j+1:Nat):Int) by omega,zab (by omega) (by omega)]
    simp only [zaN] at hsn
    simp only [zaP, ← hsn]
   ·rw [if_neg (by omega)]
    simp only [List.length_map,List.length_take,List.cons_append]
    rw [show min j b.length+1=min (j+1) b.length by omega]
    rfl
  ·have hn:j=b.length:=by simp at h;omega
   subst hn
   (refine gq5 ?_;try with_reducible exact True.intro)
   refine zt hl ?_
   exact hK
def zfK (x:zC):AV := .agg [.d (.int .i64 x.client),.d (.int .i64 x.time),.d (.int .i64 x.op.kind),.d (.str x.op.topic),.d (.str x.op.group),.d (.int .i64 x.op.offset),.d (.slice (zeU x.op.recs)),.d (.int .i64 x.key),.d (.int .i64 x.dig)]
def reqA (x:zC):AV := .agg [.d (.int .i64 x.client),.d (.int .i64 x.time),.d (.int .i64 x.op.kind),.d (.str x.op.topic),.d (.str x.op.group),.d (.int .i64 x.op.offset),.d (.slice (zeU x.op.recs))]
theorem zyk {σ:List zd} {a b:zC} (ha:a.op.recs.length<=1073741824) (hb:b.op.recs.length<=1073741824) {K:KT} (hK:K (.d (.bool (decide (a.client=b.client/\a.time=b.time/\a.op=b.op)))) σ) :
  zj Tryz.prog zij [reqA a,reqA b] σ K:=by
 refine zeE ztK fun hl => ?_
 have fin:∀ z:Bool,decide (a.client=b.client/\a.time=b.time/\a.op=b.op)=z->K (.d (.bool z)) σ:=fun z hz=>by rw [← hz];exact hK
 clear hK
 simp only [zmw,iN,bT,bF,eN,reqA]
 cases h1:(a.client==b.client)
 ·(refine gq4 h1 ?_;try with_reducible exact True.intro)
  refine zt hl ?_
  refine fin _ (decide_eq_false ?_)
  rintro ⟨h,_⟩
  simp [h] at h1
 cases h2:(a.time==b.time)
 ·(refine gq4 (zo h1 h2) ?_;try with_reducible exact True.intro)
  refine zt hl ?_
  refine fin _ (decide_eq_false ?_)
  rintro ⟨_,h,_⟩
  simp [h] at h2
 (refine gq4 (zo h1 h2) ?_;try with_reducible exact True.intro)
 repeat' ((with_reducible refine And.intro ?_ ?_);focus (first|omega|rfl|decide))
 refine c_rSame (a:=a.op) (b:=b.op) ha hb ?_
 (refine gq3 ?_;try with_reducible exact True.intro)
 refine zt hl ?_
 refine fin _ ?_
 simp only [beq_iff_eq] at h1 h2
 simp only [h1,h2,true_and]
theorem zvw {σ:List zd} {a b:List zC} (ha:zhN a) (hb:zhN b) {K:KT} (hK:K (.d (.bool (decide (a=b)))) σ) :
  zj Tryz.prog zjX [.d (.slice (zaP a)),.d (.slice (zaP b))] σ K:=by
 refine zeE e_r08_Same fun hl => ?_
 have fin:∀ z:Bool,decide (a=b)=z->K (.d (.bool z)) σ:=fun z hz=>by rw [← hz];exact hK
 clear hK
 obtain ⟨ha1,ha2⟩:=ha
 obtain ⟨hb1,hb2⟩:=hb
 simp only [zzF,iN,bT,bF,eN]
 (refine gq5 ?_;try with_reducible exact True.intro)
 by_cases hl2:a.length=b.length
 ·have hne:((a.length:Int) != (b.length:Int))=false:=by simp [hl2]
  (refine gq4 hne ?_;try with_reducible exact True.intro)
  refine zl a.length (fun k vs s=>vs = [.d (.int .i64 k)]/\s = σ/\a.take k=b.take k) ⟨rfl,rfl,by simp⟩ ?_
  rintro k vs s hk ⟨rfl,rfl,htk⟩
  (refine gq5 ?_;try with_reducible exact True.intro)
  refine zV (fun h => ?_) (fun h => ?_)
  ·have hka:k<a.length:=by simp at h;omega
   have hx:a[k]? = some a[k]:=by simp [hka]
   have hy:b[k]? = some (b[k]'(by omega)):=List.getElem?_eq_getElem _
   have ax:=(ha2 _ (List.getElem_mem hka)).1
   have bx:=(hb2 _ (List.getElem_mem (show k<b.length by omega))).1
   have hgx:=zF (f:=zaN) hx
   have hgy:=zF (f:=zaN) hy
   obtain ⟨x,hxe⟩:∃ x,a[k]=x:=⟨_,rfl⟩
   obtain ⟨y,hye⟩:∃ y,b[k]'(by omega)=y:=⟨_,rfl⟩
   rw [hxe] at hgx hx ax
   rw [hye] at hgy hy bx
   have neq:x≠y->K (.d (.bool false)) s:=fun h=>fin _ (decide_eq_false (by rintro rfl;rw [hx] at hy;exact h (Option.some.inj hy)))
   have hxy:x=y↔(x.client=y.client/\x.time=y.time/\x.op=y.op)/\x.key=y.key/\x.dig=y.dig:=by cases x;cases y;simp [and_assoc]
   cases h2:(x.key==y.key&&x.dig==y.dig)
   ·(refine gq8 (zo hgx (zo hgy h2)) ?_;try with_reducible exact True.intro)
    repeat' ((with_reducible refine And.intro ?_ ?_);focus (first|omega|rfl|decide))
    try (refine gq8 (zo hgx (zo hgy h2)) ?_;try with_reducible exact True.intro)
    refine zt hl ?_
    refine neq (fun h => ?_)
    have:=(hxy.1 h).2
    simp [this.1,this.2] at h2
   ·(refine gq8 (zo hgx (zo hgy h2)) ?_;try with_reducible exact True.intro)
    repeat' ((with_reducible refine And.intro ?_ ?_);focus (first|omega|rfl|decide))
    try (refine gq8 (zo hgx (zo hgy h2)) ?_;try with_reducible exact True.intro)
    refine zyk (a:=x) (b:=y) ax bx ?_
    simp only [Bool.and_eq_true,beq_iff_eq] at h2
    by_cases h3:x.client=y.client/\x.time=y.time/\x.op=y.op
    ·rw [decide_eq_true h3]
     (refine gq5 ?_;try with_reducible exact True.intro)
     refine zan.next hka ⟨?_,rfl,zby hx hy htk (hxy.2 ⟨h3,h2⟩)⟩
     rw [show (k:Int)+1=((k+1:Nat):Int) by omega,zab (by omega) (by omega)]
    ·rw [decide_eq_false h3]
     (refine gq5 ?_;try with_reducible exact True.intro)
     refine zt hl ?_
     exact neq (fun h=>h3 (hxy.1 h).1)
  ·refine zt hl ?_
   refine fin _ (decide_eq_true (zcz hl2 (k:=k) (by simp at h;omega) htk))
 ·have hne:((a.length:Int) != (b.length:Int))=true:=by simp;omega
  (refine gq4 hne ?_;try with_reducible exact True.intro)
  refine zt hl ?_
  exact fin _ (decide_eq_false (by rintro rfl;exact hl2 rfl))
end Go.Proofs.YtpgahkdjkanblaaGreat

/- Maps keyed by integers: what is found after a put. -/
namespace Go.AW
abbrev zww (l:List (Int × AV)):List (AV × AV):=l.map fun e=>(.d (.int .i64 e.1),e.2)
def zim (s:Int):List (Int × AV)->Nat->Option (Nat × AV)
 | [],_=>none
 | e::r,i=>if s=e.1 then some (i,e.2) else zim s r (i+1)
theorem ztu (s:Int):∀ (l:List (Int × AV)) (i:Nat),znW .int (.d (.int .i64 s)) (zww l) i=some (zim s l i)
 | [],_=>rfl
 | e::r,i=>by
  simp only [zww,List.map_cons,znW,zil,if_true,zim]
  by_cases h:s=e.1
  ·simp [h]
  ·have:(s==e.1)=false:=by simpa using h
   simp only [this,if_neg h]
   exact ztu s r (i+1)
theorem zut {s t:Int} {x:AV}:∀ {l:List (Int × AV)} {i:Nat},(zim t l i=none∨s≠t)->(zim s (l++[(t,x)]) i).map (·.2)=if s=t then some x else (zim s l i).map (·.2)
 | [],i,h=>by
  by_cases e:s=t<;>simp [zim,e]
 | e::r,i,h=>by
  simp only [List.cons_append,zim]
  by_cases h1:s=e.1
  ·rw [if_pos h1,if_pos h1]
   by_cases e2:s=t
   ·rcases h with h|h
    ·simp only [zim] at h
     rw [if_pos (by rw [← e2,h1])] at h
     cases h
    ·exact absurd e2 h
   ·rw [if_neg e2]
  ·rw [if_neg h1,if_neg h1]
   refine zut ?_
   rcases h with h|h
   ·left
    simp only [zim] at h
    split at h
    ·cases h
    ·exact h
   ·exact .inr h
theorem findI_ge {s:Int}:∀ {l:List (Int × AV)} {i j:Nat} {v:AV},zim s l i=some (j,v)->i<=j
 | [],_,_,_,h=>by simp [zim] at h
 | e::r,i,j,v,h=>by
  simp only [zim] at h
  split at h
  ·simp at h;omega
  ·have:=findI_ge h;omega
theorem findI_set {s t:Int} {x v:AV}:∀ {l:List (Int × AV)} {i j:Nat},zim t l i=some (i+j,v)->(zim s (l.set j (t,x)) i).map (·.2)=if s=t then some x else (zim s l i).map (·.2)
 | [],i,j,h=>by simp [zim] at h
 | e::r,i, 0,h=>by
  simp only [zim] at h
  split at h
  ·rename_i h1
   simp only [List.set_cons_zero,zim]
   by_cases e2:s=t
   ·simp [e2]
   ·rw [if_neg e2,if_neg e2,if_neg (by rw [← h1];exact e2)]
  ·have:=findI_ge h;omega
 | e::r,i,j+1,h=>by
  simp only [zim] at h
  split at h
  ·simp at h
  ·rename_i h1
   simp only [List.set_cons_succ,zim]
   have ih:=findI_set (s:=s) (x:=x) (l:=r) (i:=i+1) (j:=j) (by rw [h];congr 2;omega)
   by_cases h2:s=e.1
   ·rw [if_pos h2,if_pos h2,if_neg (by rw [h2];exact fun h=>h1 h.symm)]
   ·rw [if_neg h2,if_neg h2]
    exact ih
def zpt (l:List (Int × AV)) (f:Int->Option AV):Prop := ∀ s,(zim s l 0).map (·.2)=f s
theorem zpt.nil:zpt [] fun _=>none:=fun _=>rfl
theorem zpt.none {l:List (Int × AV)} {f:Int->Option AV} (h:zpt l f) {s:Int} (hs:f s = .none):znW .int (.d (.int .i64 s)) (zww l) 0=some .none:=by
 rw [ztu]
 have:=h s
 rw [hs] at this
 cases e:zim s l 0 with
 | none=>rfl
 | some p=>rw [e] at this;simp at this
theorem zpt.some {l:List (Int × AV)} {f:Int->Option AV} (h:zpt l f) {s:Int} {v:AV} (hs:f s = .some v):∃ i,znW .int (.d (.int .i64 s)) (zww l) 0 = .some (.some (i,v))/\zim s l 0 = .some (i,v):=by
 rw [ztu]
 have:=h s
 rw [hs] at this
 cases e:zim s l 0 with
 | none=>rw [e] at this;simp at this
 | some p=>
  rw [e] at this
  obtain ⟨i,w⟩:=p
  simp at this
  subst this
  exact ⟨i,rfl,rfl⟩
theorem zpt.add {l:List (Int × AV)} {f:Int->Option AV} (h:zpt l f) {t:Int} {x:AV} (ht:f t = .none):zpt (l++[(t,x)]) fun s=>if s=t then .some x else f s:=by
 intro s
 rw [zut,h s]
 left
 have:=h t
 rw [ht] at this
 cases e:zim t l 0 with
 | none=>rfl
 | some p=>rw [e] at this;simp at this
theorem zpt.put {l:List (Int × AV)} {f:Int->Option AV} (h:zpt l f) {t:Int} {x v:AV} {i:Nat} (ht:zim t l 0 = .some (i,v)):zpt (l.set i (t,x)) fun s=>if s=t then .some x else f s:=by
 intro s
 rw [findI_set (v:=v) (by rw [Nat.zero_add];exact ht),h s]
theorem ents_set (l:List (Int × AV)) (i:Nat) (t:Int) (x:AV):(zww l).set i (.d (.int .i64 t),x)=zww (l.set i (t,x)):=by
 simp only [zww,List.map_set]
theorem ents_add (l:List (Int × AV)) (t:Int) (x:AV):zww l++[(.d (.int .i64 t),x)]=zww (l++[(t,x)]):=by simp [zww]
end Go.AW

/- Contracts: what is wrong with view-changes; what a new view goes on with. -/
set_option maxRecDepth 100000
namespace Go.Proofs.YtpgahkdjkanblaaGreat
open Go.AW
theorem gq10 {A P Q:Prop} (a:A) (h:Q) (e:A->P=Q:=by intro a;simp -dsimp only [↓zhL, ↓zbi, ↓zcI, ↓zhM, ↓zhF, ↓zhD, ↓zhG, ↓zhE, ↓zcN, ↓zcJ, ↓zcO, ↓zcK, ↓zhH, ↓zcH, ↓zcP, ↓zcL, ↓zcQ, ↓zcM, ↓zhC, ↓zhK, ↓zcG, ↓zcR, ↓zhz, ↓zhy, ↓zhB,iN,bT,bF,eN, ↓zdT, ↓unC, ↓zam, ↓zY, ↓zZ, ↓zae, ↓zax, ↓zag, ↓zeQ, ↓zap, ↓zaQ, ↓zW, ↓zg, ↓zh, ↓zcW, ↓zb, ↓zaC, ↓zG, ↓zbv, ↓zbE, ↓zc, ↓zE, ↓zq, ↓zK, ↓zao, ↓zft, ↓zfB, ↓zaL, ↓zaX, ↓zbm, ↓zbC, ↓zcj, ↓zI, ↓zaH, ↓zaa, ↓zM, ↓zaw,zfE,zcw,zcp,unA,zeT,bnd,zgq,zaA,zL,zga,dm,dm1,zw,zad,zgP,zgO,zH,Q0,Q1,Q2,Q3,Q4,Q5,zay,zB,zD,zT,zP,Q6,Q7,Q8,Q9,Q10,Q11,Q12,Q13,Q14,Nat.reduceAdd,Q15,Int.reduceToNat,Q16,Q17,Q18,Q19,Q20,reduceIte,Q21,Q22,zU,rep,zar,zgW,toD,zaz,Q23,Q24,Q25,Q26,Q27,Q28,Nat.reduceLeDiff,Q29,Nat.reduceSub,Q30,Q31,Q32,sc,Q33,Q34,Q35,Bool.and_false,Bool.and_self,Bool.false_and,Bool.not_false,Bool.not_true,Bool.true_and,Int.toNat_natCast,Int.toNat_zero,List.drop_zero,List.length_map,List.length_nil,List.nil_append,List.take_length,Nat.sub_zero,Nat.zero_add,Option.isSome_none,Option.isSome_some,Option.map_none,Option.map_some,zX,beq_self_eq_true,bne_self_eq_false,a];rfl):P:=(e a).mpr h
theorem c_may {σ:List zd} {f view:Int} {cs:List zJ} (hn:cs.length<=1073741824) {K:KT} (hK:K (.d (.int .i64 (zjn f view cs))) σ) :
  zj Tryz.prog zjJ [.d (.int .i64 f),.d (.int .i64 view),.d (.slice (zR cs))] σ K:=by
 refine zyo zAz fun hl => ?_
 have fin:∀ z,zjn f view cs=z->K (.d (.int .i64 z)) σ:=fun z h=>h▸hK
 clear hK
 simp only [zsO,iN,bT,bF,eN,zl4]
 (refine gq2 ?_;try with_reducible exact True.intro)
 refine zkE ?_
 cases h0:(zbs f != 0)
 rotate_left
 ·(refine gq1 h0 ?_;try with_reducible exact True.intro)
  refine zt hl ?_
  exact fin _ (by rw [zjn,if_pos (by simpa using h0)])
 have h0':¬ zbs f≠0:=by simpa using h0
 cases h1:decide (view<1)
 rotate_left
 ·(refine gq1 (zi h0 h1) ?_;try with_reducible exact True.intro)
  refine zt hl ?_
  exact fin _ (by rw [zjn,if_neg h0',if_pos (by simp at h1;omega)])
 cases h2:decide (view > 9007199254740992)
 rotate_left
 ·(refine gq1 (zi h0 (zi h1 h2)) ?_;try with_reducible exact True.intro)
  refine zt hl ?_
  exact fin _ (by rw [zjn,if_neg h0',if_pos (by simp at h2;omega)])
 have h12:¬ (view<1∨view > 9007199254740992):=by simp at h1 h2;omega
 (refine gq10 (zi h0 (zi h1 h2)) ?_;try with_reducible exact True.intro)
 refine zl cs.length (fun k vs s=>vs = [.d (.int .i64 (zfu cs k)),.d (.int .i64 k)]/\(∃ T,s = σ++T)/\zld f cs k=true) ⟨rfl,⟨[],by simp⟩,rfl⟩ ?_
 rintro k vs s hk ⟨rfl,⟨T,rfl⟩,hok⟩
 (refine gq5 ?_;try with_reducible exact True.intro)
 refine zV (fun h => ?_) (fun h => ?_)
 ·have hlt:k<cs.length:=by simp at h;omega
  have hx:cs[k]? = some cs[k]:=by simp [hlt]
  have hgx:=zF (f:=zat) hx
  obtain ⟨c,hce⟩:∃ c,cs[k]=c:=⟨_,rfl⟩
  rw [hce] at hx hgx
  have hp:zfu cs (k+1)=c.src:=by simp only [zfu,hx]
  (refine gq8 hgx ?_;try with_reducible exact True.intro)
  have hbad:zrL f cs k=false->zjn f view cs=1:=fun h=>by rw [zjn,if_neg h0',if_neg h12,if_pos (zyx hlt h)]
  have hval:zrL f cs k=decide (zfu cs k<c.src/\c.src<zaR 3 f):=by simp only [zrL,hx]
  cases h3:decide (c.src<=zfu cs k)
  rotate_left
  ·(refine gq8 (zi hgx h3) ?_;try with_reducible exact True.intro)
   repeat' ((with_reducible refine And.intro ?_ ?_);focus (first|omega|rfl|decide))
   try (refine gq8 (zi hgx h3) ?_;try with_reducible exact True.intro)
   refine zt hl ?_
   exact fin _ (hbad (by rw [hval];simp at h3 ⊢;omega))
  ·(refine gq8 (zi hgx h3) ?_;try with_reducible exact True.intro)
   repeat' ((with_reducible refine And.intro ?_ ?_);focus (first|omega|rfl|decide))
   try (refine gq8 (zi hgx h3) ?_;try with_reducible exact True.intro)
   refine zkF ?_
   cases h4:decide (c.src≥zaR 3 f)
   rotate_left
   ·(refine gq8 (zi hgx (zi h3 h4)) ?_;try with_reducible exact True.intro)
    repeat' ((with_reducible refine And.intro ?_ ?_);focus (first|omega|rfl|decide))
    try (refine gq8 (zi hgx (zi h3 h4)) ?_;try with_reducible exact True.intro)
    refine zt hl ?_
    exact fin _ (hbad (by rw [hval];simp at h4 ⊢;omega))
   ·(refine gq8 (zi hgx (zi h3 h4)) ?_;try with_reducible exact True.intro)
    repeat' ((with_reducible refine And.intro ?_ ?_);focus (first|omega|rfl|decide))
    try (refine gq8 (zi hgx (zi h3 h4)) ?_;try with_reducible exact True.intro)
    refine zan.next hlt ⟨?_,⟨_,rfl⟩,?_⟩
    ·rw [hp,show (k:Int)+1=((k+1:Nat):Int) by omega,zab (by omega) (by omega)]
    ·rw [zkd,hok,hval];simp at h3 h4 ⊢;omega
 ·have hn:k=cs.length:=by simp at h;omega
  (refine gq5 ?_;try with_reducible exact True.intro)
  refine c_quBig ?_
  cases h5:decide ((cs.length:Int)<zaR 2 f)
  all_goals
   (refine gq10 h5 ?_;try with_reducible exact True.intro)
   refine zt hl ?_
  ·exact fin _ (by rw [zjn,if_neg h0',if_neg h12,if_neg (by rw [← hn,hok];simp),if_neg (by simpa using h5)])
  ·exact fin _ (by rw [zjn,if_neg h0',if_neg h12,if_neg (by rw [← hn,hok];simp),if_pos (by simpa using h5)])
def latC:Option zbO->List AV
 | none => [.d (.int .i64 0),.d (.int .i64 0),.d (.int .i64 0),.d (.int .i64 0),.d (.int .i64 0),.exact [],.exact []]
 | some p => [.d (.int .i64 p.view),.d (.int .i64 p.seq),.d (.int .i64 p.dig),.d (.int .i64 p.fkey),.d (.int .i64 p.fdig),.d (.slice (zO p.signs)),.d (.slice (zaP p.batch))]
def zuj (cs:List zJ):Prop:=cs.length<=1073741824/\∀ c∈cs,c.cert.signs.length<=1073741824/\c.above.length<=1073741824/\∀ p∈c.above,zhN p.batch
theorem gq11 {A P Q:Prop} (a:A) (h:Q) (e:A->P=Q:=by intro a;simp -dsimp only [↓zhL, ↓zbi, ↓zcI, ↓zhM, ↓zhF, ↓zhD, ↓zhG, ↓zhE, ↓zcN, ↓zcJ, ↓zcO, ↓zcK, ↓zhH, ↓zcH, ↓zcP, ↓zcL, ↓zcQ, ↓zcM, ↓zhC, ↓zhK, ↓zcG, ↓zcR, ↓zhz, ↓zhy, ↓zhB,iN,bT,bF,eN, ↓zdT, ↓unC, ↓zam, ↓zY, ↓zZ, ↓zae, ↓zax, ↓zag, ↓zeQ, ↓zap, ↓zaQ, ↓zW, ↓zg, ↓zh, ↓zcW, ↓zb, ↓zaC, ↓zG, ↓zbv, ↓zbE, ↓zc, ↓zE, ↓zq, ↓zK, ↓zao, ↓zft, ↓zfB, ↓zaL, ↓zaX, ↓zbm, ↓zbC, ↓zcj, ↓zI, ↓zaH, ↓zaa, ↓zM, ↓zaw,zfE,zcw,zcp,unA,zeT,bnd,zgq,zaA,zL,zga,dm,dm1,zw,zad,zgP,zgO,zH,Q0,Q1,Q2,Q3,Q4,Q5,zay,zB,zD,zT,zP,Q6,Q7,Q8,Q9,Q10,Q11,Q12,Q13,Q14,Nat.reduceAdd,Q15,Int.reduceToNat,Q16,Q17,Q18,Q19,Q20,reduceIte,Q21,Q22,zU,rep,zar,zgW,toD,zaz,Q23,Q24,Q25,Q26,Q27,Q28,Nat.reduceLeDiff,Q29,Nat.reduceSub,Q30,Q31,Q32,sc,Q33,Q34,Q35,Bool.and_false,Bool.and_self,Bool.false_and,Bool.not_false,Bool.not_true,Bool.true_and,Int.toNat_natCast,Int.toNat_zero,List.drop_zero,List.length_map,List.length_nil,List.nil_append,List.take_length,Nat.sub_zero,Nat.zero_add,Option.isSome_none,Option.isSome_some,Option.map_none,Option.map_some,zX,beq_self_eq_true,bne_self_eq_false,zex,zco,zat,zdx,zbh,zdR,zfn,latC,zbm,zuT,zbC,opA,zei,zfi,zfK,zaN,a];rfl):P:=(e a).mpr h
theorem gq12 {P Q:Prop} (h:Q) (e:P=Q:=by simp -dsimp only [↓zhL, ↓zbi, ↓zcI, ↓zhM, ↓zhF, ↓zhD, ↓zhG, ↓zhE, ↓zcN, ↓zcJ, ↓zcO, ↓zcK, ↓zhH, ↓zcH, ↓zcP, ↓zcL, ↓zcQ, ↓zcM, ↓zhC, ↓zhK, ↓zcG, ↓zcR, ↓zhz, ↓zhy, ↓zhB,iN,bT,bF,eN, ↓zdT, ↓unC, ↓zam, ↓zY, ↓zZ, ↓zae, ↓zax, ↓zag, ↓zeQ, ↓zap, ↓zaQ, ↓zW, ↓zg, ↓zh, ↓zcW, ↓zb, ↓zaC, ↓zG, ↓zbv, ↓zbE, ↓zc, ↓zE, ↓zq, ↓zK, ↓zao, ↓zft, ↓zfB, ↓zaL, ↓zaX, ↓zbm, ↓zbC, ↓zcj, ↓zI, ↓zaH, ↓zaa, ↓zM, ↓zaw,zfE,zcw,zcp,unA,zeT,bnd,zgq,zaA,zL,zga,dm,dm1,zw,zad,zgP,zgO,zH,Q0,Q1,Q2,Q3,Q4,Q5,zay,zB,zD,zT,zP,Q6,Q7,Q8,Q9,Q10,Q11,Q12,Q13,Q14,Nat.reduceAdd,Q15,Int.reduceToNat,Q16,Q17,Q18,Q19,Q20,reduceIte,Q21,Q22,zU,rep,zar,zgW,toD,zaz,Q23,Q24,Q25,Q26,Q27,Q28,Nat.reduceLeDiff,Q29,Nat.reduceSub,Q30,Q31,Q32,sc,Q33,Q34,Q35,Bool.and_false,Bool.and_self,Bool.false_and,Bool.not_false,Bool.not_true,Bool.true_and,Int.toNat_natCast,Int.toNat_zero,List.drop_zero,List.length_map,List.length_nil,List.nil_append,List.take_length,Nat.sub_zero,Nat.zero_add,Option.isSome_none,Option.isSome_some,Option.map_none,Option.map_some,zX,beq_self_eq_true,bne_self_eq_false,zex,zdx,zfn,latC,zbm,zuT,zbC];rfl):P:=e.mpr h
theorem c_rLatest {σ:List zd} {cs:List zJ} {q:Int} (hs:zuj cs) {K:KT} (hK:K (.d (.slice (zaP (zrv (zrE (zbz cs cs.length) q))))) σ) :
  zj Tryz.prog zov [.d (.slice (zR cs)),.d (.int .i64 q)] σ K:=by
 refine zeE e_r16_latest fun hl => ?_
 obtain ⟨hs1,hs2⟩:=hs
 simp only [zuC,iN,bT,bF,eN,zl3]
 (refine gq3 ?_;try with_reducible exact True.intro)
 refine zl cs.length (fun k vs s=>vs = [.d (.bool (zrE (zbz cs k) q).isSome),.d (.int .i64 k)]/\∃ T,s = σ++(.box (latC (zrE (zbz cs k) q))::T)) ⟨rfl,[],rfl⟩ ?_
 rintro k vs s hk ⟨rfl,T,rfl⟩
 (refine gq5 ?_;try with_reducible exact True.intro)
 refine zV (fun h => ?_) (fun h => ?_)
 ·have hlt:k<cs.length:=by simp at h;omega
  have hx:cs[k]? = some cs[k]:=by simp [hlt]
  have hgx:=zF (f:=zat) hx
  obtain ⟨_,ha,_⟩:=hs2 _ (List.getElem_mem hlt)
  obtain ⟨c,hce⟩:∃ c,cs[k]=c:=⟨_,rfl⟩
  rw [hce] at hx hgx ha
  have hps:=zot hx
  refine zl c.above.length (fun j vs s=>vs = [.d (.bool (zrE (zbz cs k++c.above.take j) q).isSome),.d (.int .i64 j)]/\∃ T,s = σ++(.box (latC (zrE (zbz cs k++c.above.take j) q))::T)) ⟨by simp,T,by simp⟩ ?_
  rintro j vs s hj ⟨rfl,T,rfl⟩
  (refine gq8 hgx ?_;try with_reducible exact True.intro)
  refine ⟨by omega,?_⟩
  refine zV (fun h => ?_) (fun h => ?_)
  ·have hjt:j<c.above.length:=by simp at h;omega
   have hy:c.above[j]? = some c.above[j]:=by simp [hjt]
   have hgy:=zF (f:=zei) hy
   obtain ⟨p,hpe⟩:∃ p,c.above[j]=p:=⟨_,rfl⟩
   rw [hpe] at hy hgy
   have htk:c.above.take (j+1)=c.above.take j++[p]:=by rw [List.take_add_one,hy];rfl
   have hL:zrE (zbz cs k++c.above.take (j+1)) q=zfT q (zrE (zbz cs k++c.above.take j) q) p:=by rw [htk, ← List.append_assoc,zwh]
   have hw:IntKind.i64.wrap ((j:Int)+1)=((j+1:Nat):Int):=by rw [zab (by omega) (by omega)];rfl
   obtain ⟨o,ho⟩:∃ o,zrE (zbz cs k++c.above.take j) q=o:=⟨_,rfl⟩
   rw [ho] at hL ⊢
   have next:∀ (o':Option zbO) (T:List zd),zfT q o p=o' → zan c.above.length (fun j vs s=>vs = [.d (.bool (zrE (zbz cs k++c.above.take j) q).isSome),.d (.int .i64 j)]/\∃ T,s = σ++(.box (latC (zrE (zbz cs k++c.above.take j) q))::T)) j [.d (.bool o'.isSome),.d (.int .i64 (j+1:Nat))] (σ++(.box (latC o')::T)):=fun o' T h=>zan.next hjt ⟨by rw [hL,h],T,by rw [hL,h]⟩
   cases h1:(p.seq==q)
   ·have h1':¬ p.seq=q:=by simpa using h1
    (refine gq8 (zo hgx (zo hgy (zo h1 hw))) ?_;try with_reducible exact True.intro)
    repeat' ((with_reducible refine And.intro ?_ ?_);focus (first|omega|rfl|decide))
    try (refine gq8 (zo hgx (zo hgy (zo h1 hw))) ?_;try with_reducible exact True.intro)
    exact next o _ (by unfold zfT;exact if_neg h1')
   ·have h1':p.seq=q:=by simpa using h1
    cases o with
    | none=>
     (refine gq11 (zo hgx (zo hgy (zo h1 hw))) ?_;try with_reducible exact True.intro)
     repeat' ((with_reducible refine And.intro ?_ ?_);focus (first|omega|rfl|decide))
     try (refine gq11 (zo hgx (zo hgy (zo h1 hw))) ?_;try with_reducible exact True.intro)
     exact next (some p) _ (by rw [zfT,if_pos h1'])
    | some r=>
     cases h2:decide (p.view > r.view)
     ·(refine gq11 (zo hgx (zo hgy (zo h1 (zo h2 hw)))) ?_;try with_reducible exact True.intro)
      repeat' ((with_reducible refine And.intro ?_ ?_);focus (first|omega|rfl|decide))
      try (refine gq11 (zo hgx (zo hgy (zo h1 (zo h2 hw)))) ?_;try with_reducible exact True.intro)
      exact next (some r) _ (by rw [zfT,if_pos h1'];exact if_neg (by simpa using h2))
     ·(refine gq11 (zo hgx (zo hgy (zo h1 (zo h2 hw)))) ?_;try with_reducible exact True.intro)
      repeat' ((with_reducible refine And.intro ?_ ?_);focus (first|omega|rfl|decide))
      try (refine gq11 (zo hgx (zo hgy (zo h1 (zo h2 hw)))) ?_;try with_reducible exact True.intro)
      exact next (some p) _ (by rw [zfT,if_pos h1'];exact if_pos (by simpa using h2))
  ·have hn:j=c.above.length:=by simp at h;omega
   subst hn
   rw [List.take_length, ← hps]
   (refine gq3 ?_;try with_reducible exact True.intro)
   refine zan.next hlt ⟨?_,T,rfl⟩
   rw [show (k:Int)+1=((k+1:Nat):Int) by omega,zab (by omega) (by omega)]
 ·have hn:k=cs.length:=by simp at h;omega
  subst hn
  obtain ⟨o,ho⟩:∃ o,zrE (zbz cs cs.length) q=o:=⟨_,rfl⟩
  rw [ho] at hK ⊢
  cases o with
  | none=>
   (refine gq12 ?_;try with_reducible exact True.intro)
   refine zt hl ?_
   exact hK
  | some p=>
   (refine gq12 ?_;try with_reducible exact True.intro)
   refine zt hl ?_
   exact hK
end Go.Proofs.YtpgahkdjkanblaaGreat

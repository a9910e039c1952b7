/- Contract: the new view that its primary tells, the program's. -/
import Derived.Test.YtpgahkdjkanblaaGreatMa4
import Derived.Test.YtpgahkdjkanblaaGreatPt2
import Derived.Test.YtpgahkdjkanblaaGreatNv2
set_option linter.all false
set_option maxRecDepth 100000
namespace Go.Proofs.YtpgahkdjkanblaaGreat
open Go.AW
def ziM (L:List (List UInt8)) (G:List zy) (f view:Int) (cs:List zJ):MakeR:=
 if zjn f view cs≠0 then ⟨zed,zjn f view cs,L,G⟩
 else if cs.all (zbq L G f view)=false then ⟨zed, 161,L,G⟩
 else
  if (zbr (zbG f view) (zfZ f view (cs.take (zaR 2 f).toNat)).2.1 L G []).e≠0 then
   ⟨zed,(zbr (zbG f view) (zfZ f view (cs.take (zaR 2 f).toNat)).2.1 L G []).e,(zbr (zbG f view) (zfZ f view (cs.take (zaR 2 f).toNat)).2.1 L G []).L,(zbr (zbG f view) (zfZ f view (cs.take (zaR 2 f).toNat)).2.1 L G []).G⟩
  else zhA (zbr (zbG f view) (zfZ f view (cs.take (zaR 2 f).toNat)).2.1 L G []).L (zbr (zbG f view) (zfZ f view (cs.take (zaR 2 f).toNat)).2.1 L G []).G
   (zpV f view (cs.take (zaR 2 f).toNat) (zbr (zbG f view) (zfZ f view (cs.take (zaR 2 f).toNat)).2.1 L G []).out)
structure ztF (x:zaI):Prop where
 ops:∀ s∈x.batch,zlf s.op<=20971520
 many:x.batch.length<=1073741824
theorem ztF.okB {x:zaI} (h:ztF x):okB x.batch/\zlA x:=
 ⟨⟨h.many,fun s hs=>zsZ (h.ops s hs)⟩,⟨h.many,fun s hs=>by have:=zsZ (h.ops s hs);exact ⟨this.2.2.1,this.2.2.2⟩⟩⟩
theorem entX_ok {L:List (List UInt8)} {key:Int} {x:zaI} (h:ztF x):ztF (entX L key x):=by
 unfold entX
 split
 ·exact ⟨by simp [noEn],by simp [noEn]⟩
 ·exact ⟨h.ops,h.many⟩
theorem zgU {cs:List zJ} (hl:cs.length<=1048576) (h:∀ c∈cs,zqf c):zuj cs:=
 ⟨by omega,fun c hc=>⟨(h c hc).small.signs,(h c hc).small.above,fun p hp=>(ztF.okB (x:=⟨0, 0,p.batch, 0, 0⟩) ⟨((h c hc).each p hp).ops,((h c hc).each p hp).batch⟩).2⟩⟩
theorem zpA {f view:Int} {cs:List zJ} (h:∀ c∈cs,zqf c):(zfZ f view cs).2.1.length<=8/\∀ x∈(zfZ f view cs).2.1,ztF x:=by
 unfold zfZ
 split
 ·exact ⟨by simp,by simp⟩
 ·simp only
  split
  ·exact ⟨by simp,by simp⟩
  ·refine ⟨?_,?_⟩
   ·have:=zrY (zbQ (zbz cs cs.length)) (ziT cs cs.length).seq
    simpa [zgt] using this
   ·intro x hx
    simp only [zgt,List.mem_map,List.mem_range] at hx
    obtain ⟨n,_,rfl⟩:=hx
    simp only [entAt]
    cases ho:zrE (zbz cs cs.length) ((ziT cs cs.length).seq+n+1) with
    | none=>exact ⟨by simp [zrv],by simp [zrv]⟩
    | some p=>
     obtain ⟨c,hc,hp⟩:=zmH (zAj ho).2
     exact ⟨((h c hc).each p hp).ops,((h c hc).each p hp).batch⟩
theorem zqJ {f view:Int} {cs:List zJ} {xs:List zaI} (h1:cs.length<=1048576) (h2:∀ c∈cs,zqf c) (h3:xs.length<=8) (h4:∀ x∈xs,ztF x):zbn (zpV f view cs xs):=by
 obtain ⟨n1,n2,n3,n4,n5,n6,n7,n8,n9,n10⟩:=zfI
 exact ⟨n1,n2,n3,by simp only [zpV];omega,fun c hc=>⟨(h2 c hc).ok,(h2 c hc).small⟩,by simp only [zpV];omega,fun x hx=>(h4 x hx).okB,n8,n9,n10⟩
theorem zvq (f view:Int) (cs:List zJ):(zfZ f view cs).2.2=zjn f view cs:=by
 unfold zfZ
 split
 ·rfl
 ·rename_i h
  have h0:zjn f view cs=0:=by simpa using h
  rw [h0]
  simp only
  split<;>rfl
structure zAX (key:Int) (xs:List zaI) (L:List (List UInt8)) (G:List zy) (k:Nat) (Lk:List (List UInt8)) (Gk:List zy) (out:List zaI):Prop where
 eq:zbr key xs L G []=zbr key (xs.drop k) Lk Gk out
 tab:zka Lk
 led:Gk.length<=G.length+k
 len:out.length=k
 ok:∀ x∈out,ztF x
theorem zAX.next {key:Int} {xs:List zaI} {L:List (List UInt8)} {G:List zy} {k:Nat} {Lk:List (List UInt8)} {Gk:List zy} {out:List zaI} (h:zAX key xs L G k Lk Gk out) {x:zaI} (hx:xs[k]? = some x) (hok:ztF x) (he:zlk Lk key x=0) :
  zAX key xs L G (k+1) (zqm Lk x) (zqn Lk Gk key x) (out++[entX Lk key x]):=by
 obtain ⟨h1,h2,h3,h4,h5⟩:=h
 have hk:=(List.getElem?_eq_some_iff.1 hx).1
 have e:xs.drop k=x::xs.drop (k+1):=by rw [List.drop_eq_getElem_cons hk,(List.getElem?_eq_some_iff.1 hx).2]
 refine ⟨?_,h2.ent hok.ops,?_,by simp [h4],?_⟩
 ·rw [h1,e,zbr,if_neg (by simp [he])]
 ·have:=entG_len Lk Gk key x;omega
 ·intro y hy
  rcases List.mem_append.1 hy with hy|hy
  ·exact h5 y hy
  ·simp only [List.mem_singleton] at hy
   subst hy
   exact entX_ok hok
theorem zAX.bad {key:Int} {xs:List zaI} {L:List (List UInt8)} {G:List zy} {k:Nat} {Lk:List (List UInt8)} {Gk:List zy} {out:List zaI} (h:zAX key xs L G k Lk Gk out) {x:zaI} (hx:xs[k]? = some x) (he:zlk Lk key x≠0) :
  zbr key xs L G []=⟨zlk Lk key x,zqm Lk x,zqn Lk Gk key x,out⟩:=by
 have hk:=(List.getElem?_eq_some_iff.1 hx).1
 have e:xs.drop k=x::xs.drop (k+1):=by rw [List.drop_eq_getElem_cons hk,(List.getElem?_eq_some_iff.1 hx).2]
 rw [h.eq,e,zbr,if_pos he]
theorem zAX.last {key:Int} {xs:List zaI} {L:List (List UInt8)} {G:List zy} {k:Nat} {Lk:List (List UInt8)} {Gk:List zy} {out:List zaI} (h:zAX key xs L G k Lk Gk out) (hk:xs.length<=k):zbr key xs L G []=⟨0,Lk,Gk,out⟩:=by
 rw [h.eq,List.drop_of_length_le hk,zbr]
theorem znk {α:Type} {p : α->Bool} {l:List α} {k:Nat} (h:(l.take k).all p=true) {x : α} (hx:l[k]? = some x) (hp:p x=true):(l.take (k+1)).all p=true:=by
 rw [List.take_add_one,hx,List.all_append,h];simp [hp]
theorem zub {α:Type} {p : α->Bool} {l:List α} {k:Nat} {x : α} (hx:l[k]? = some x) (hp:p x=false):l.all p=false:=by
 rw [List.all_eq_false];exact ⟨x,List.mem_of_getElem? hx,by simp [hp]⟩
theorem zAh {P Q X:List zd} {R:zd}:(P++(Q++(R::X)))[P.length+Q.length]? = some R:=by rw [zB,zD];rfl
theorem mid_get1 {P Q X:List zd} {R t:zd}:(P++(Q++(R::t::X)))[P.length+Q.length+1]? = some t:=by rw [Nat.add_assoc,zB,zB];rfl
theorem mid_set {P Q X:List zd} {R t R' t':zd}:((P++(Q++(R::t::X))).set (P.length+Q.length+1) t').set (P.length+Q.length) R' = P++(Q++(R' :: t' :: X)):=by
 rw [Nat.add_assoc,zT,zT,zT,zP];rfl
abbrev zuq (f view:Int) (cs:List zJ) (e:AV):List AV:=
 [.d (.int .i64 8),.d (.int .i64 (zbG f view)),.d (.int .i64 view),.d (.int .i64 0),.d (.int .i64 0),.d (.int .i64 0),.d (.int .i64 0),.d (.int .i64 0),.d (.int .i64 0),.exact [],.d (.int .i64 0),.d (.int .i64 0),.exact [],.d (.slice (zR cs)),e,.exact [],.d (.str []),.d (.int .i64 0),.d (.str []),.d (.int .i64 0),.exact [],.exact [],.d (.int .i64 0),.d (.int .i64 0),.exact [],.d (.int .i64 0),.d (.int .i64 0),.exact [],.d (.int .i64 0),.d (.int .i64 0)]
theorem gq57 {P Q:Prop} (h:Q) (e:Hd Q->P:=by intro h;(repeat' first|simp -dsimp only [↓zhL, ↓zbi, ↓zcI, ↓zhM, ↓zhF, ↓zhD, ↓zhG, ↓zhE, ↓zcN, ↓zcJ, ↓zcO, ↓zcK, ↓zhH, ↓zcH, ↓zcP, ↓zcL, ↓zcQ, ↓zcM, ↓zhC, ↓zhK, ↓zcG, ↓zcR, ↓zhz, ↓zhy, ↓zhB,iN,bT,bF,eN, ↓zdT, ↓unC, ↓zam, ↓zY, ↓zZ, ↓zae, ↓zax, ↓zag, ↓zeQ, ↓zap, ↓zaQ, ↓zW, ↓zg, ↓zh, ↓zcW, ↓zb, ↓zaC, ↓zG, ↓zbv, ↓zbE, ↓zc, ↓zE, ↓zq, ↓zK, ↓zao, ↓zft, ↓zfB, ↓zaL, ↓zaX, ↓zbm, ↓zbC, ↓zcj, ↓zI, ↓zaH, ↓zaa, ↓zM, ↓zaw,zfE,zcw,zcp,unA,zeT,bnd,zgq,zaA,zL,zga,dm,dm1,zw,zad,zgP,zgO,zH,Q0,Q1,Q2,Q3,Q4,Q5,zay,zB,zD,zT,zP,Q6,Q7,Q8,Q9,Q10,Q11,Q12,Q13,Q14,Nat.reduceAdd,Q15,Int.reduceToNat,Q16,Q17,Q18,Q19,Q20,reduceIte,Q21,Q22,zU,rep,zar,zgW,toD,zaz,Q23,Q24,Q25,Q26,Q27,Q28,Nat.reduceLeDiff,Q29,Nat.reduceSub,Q30,Q31,Q32,sc,Q33,Q34,Q35,Q36,Q37,Q26,Q38,Q39,zwb,zvY,zvV,zwc,zks,zvZ,zvW,zwa,zvX,zkr,zkt,zwl,zwm,Bool.not_true,Bool.not_false,List.length_map,Bool.and_false,Bool.and_self,Bool.false_and,Bool.not_false,Bool.not_true,Bool.true_and,Int.toNat_natCast,Int.toNat_zero,List.drop_zero,List.length_map,List.length_nil,List.nil_append,List.take_length,Nat.sub_zero,Nat.zero_add,Option.isSome_none,Option.isSome_some,Option.map_none,Option.map_some,zX,beq_self_eq_true,bft,bne_self_eq_false,btf,bytesE,zco,zdu,zat,zbh,hdrD,zdR,zlS,opA,zei,zfi,zfK,zaN]|with_reducible refine zxk ?_|fail);exact h.go):P:=e ⟨h⟩
theorem c_nvMake {i:TGi} {σ:List zd} {L:List (List UInt8)} {G:List zy} {f view:Int} {cs:List zJ} (h:TG i σ L G) (hL:zka L) (hg:G.length<=1048576) (hcl:cs.length<=1048576) (hca:∀ c∈cs,zqf c) (hR:∀ c∈cs,zgL c) {K:KT}
  (hK:K (.tup [zeR (ziM L G f view cs).m,.d (.int .i64 (ziM L G f view cs).e)]) (zeD i σ (ziM L G f view cs).L (ziM L G f view cs).G)) :
  zj Tryz.prog zlE [.box i.id 0,.box i.id2 0,.d (.int .i64 f),.d (.int .i64 view),.d (.slice (zR cs))] σ K:=by
 refine acE5 zyf fun hl => ?_
 have hcs:(zR cs).length=cs.length:=List.length_map ..
 simp only [zqD,iN,bT,bF,eN,zl0,zl4]
 refine zQ ?_
 refine zsr (h.tab.app _) hL.nd hL.len hL.each ?_
 refine zQ ?_
 refine zsw (h.led.app _) (by omega) fun g' => ?_
 refine zQ ?_
 refine c_may (by omega) ?_
 have fin:∀ r,ziM L G f view cs=r->K (.tup [zeR r.m,.d (.int .i64 r.e)]) (zeD i σ r.L r.G):=fun r h=>h▸hK
 clear hK
 by_cases h0:zjn f view cs=0
 rotate_left
 ·have h0':(zjn f view cs != 0)=true:=by simpa using h0
  have hK:=fin ⟨zed,zjn f view cs,L,G⟩ (if_pos h0)
  simp only [h.self,zeR,zlC] at hK
  refine zfC h0' ?_
  refine zt hl ?_
  exact hK
 have h0':(zjn f view cs != 0)=false:=by simpa using h0
 obtain ⟨p1,p2,p3,p4⟩:=ztv h0
 have hf:=zAG p1
 have ht:zaR 2 f=2*f+1:=by rw [zaR,if_neg (by omega)]
 obtain ⟨b,hb⟩:∃ b:Nat,zaR 2 f=(b:Int):=⟨(zaR 2 f).toNat,by omega⟩
 refine zfC (zi h0' hcs) ?_
 refine zl cs.length (fun k vs s=>vs = [.d (.int .i64 k)]/\(∃ T,s = σ++(.box zkb::T))/\(cs.take k).all (zbq L G f view)=true) ⟨rfl,⟨_,rfl⟩,rfl⟩ ?_
 rintro k vs s hk ⟨rfl,⟨T,rfl⟩,hall⟩
 by_cases hlt:k<cs.length
 ·have hd:decide ((k:Int)<(cs.length:Int))=true:=by simp;omega
  have hx:cs[k]? = some cs[k]:=by simp [hlt]
  have hgx:=zF (f:=zat) hx
  have hxc:=hca _ (List.getElem_mem hlt)
  obtain ⟨c,hc⟩:∃ c,cs[k]=c:=⟨_,rfl⟩
  rw [hc] at hx hgx hxc
  refine zfG (zi hd (zi hgx hcs)) ?_
  refine zxc (c:=c) (h.tab.app _) (h.led.app _) hL (by omega) hxc ?_
  cases hv:zbq L G f view c
  ·have hK:=fin ⟨zed, 161,L,G⟩ (by rw [ziM,if_neg (by simpa using h0),if_pos (zub hx hv)])
   simp only [h.self,zeR,zlC] at hK
   refine zQ ?_
   refine zt hl ?_
   exact hK
  ·refine zfC (wki k (by omega)) ?_
   exact zan.next hlt ⟨rfl,⟨_,rfl⟩,znk hall hx hv⟩
 have hd:decide ((k:Int)<(cs.length:Int))=false:=by simp;omega
 rw [List.take_of_length_le (by omega)] at hall
 have hbl:b<=cs.length:=by omega
 have e0:ziM L G f view cs=if (zbr (zbG f view) (zfZ f view (cs.take b)).2.1 L G []).e≠0 then
   ⟨zed,(zbr (zbG f view) (zfZ f view (cs.take b)).2.1 L G []).e,(zbr (zbG f view) (zfZ f view (cs.take b)).2.1 L G []).L,(zbr (zbG f view) (zfZ f view (cs.take b)).2.1 L G []).G⟩
  else zhA (zbr (zbG f view) (zfZ f view (cs.take b)).2.1 L G []).L (zbr (zbG f view) (zfZ f view (cs.take b)).2.1 L G []).G
   (zpV f view (cs.take b) (zbr (zbG f view) (zfZ f view (cs.take b)).2.1 L G []).out):=by
  rw [ziM,if_neg (by simpa using h0),if_neg (by rw [hall];decide),hb];rfl
 rw [e0] at fin
 clear e0
 have hmt:=mayF_take h0
 rw [hb] at hmt
 simp only [Int.toNat_natCast] at hmt
 have hse:=zvq f view (cs.take b)
 rw [hmt] at hse
 have htk:List.take b (zR cs)=zR (cs.take b):=List.map_take.symm
 have htc:∀ c∈cs.take b,zqf c:=fun c hc=>hca c (List.mem_of_mem_take hc)
 have htR:∀ c∈cs.take b,zgL c:=fun c hc=>hR c (List.mem_of_mem_take hc)
 have htl:(cs.take b).length<=1048576:=by rw [List.length_take];omega
 obtain ⟨hx8,hxs⟩:=zpA (f:=f) (view:=view) htc
 obtain ⟨ds,hds⟩:∃ ds,cs.take b=ds:=⟨_,rfl⟩
 rw [hds] at fin hmt hse htk htc htR htl hx8 hxs
 have h8:=changes_eight cs
 refine zfC (zi hd hcs) ?_
 refine c_quBig ?_
 rw [hb]
 refine zmD (zi hcs (zi htk h8)) ?_
 refine zzo (zgU htl htc) htR ?_
 rw [hse]
 obtain ⟨ct,hct⟩:∃ x,(zfZ f view ds).1=x:=⟨_,rfl⟩
 obtain ⟨xs,hxe⟩:∃ x,(zfZ f view ds).2.1=x:=⟨_,rfl⟩
 rw [hxe] at hx8 hxs fin
 rw [hxe,hct]
 have hxl:(zu xs).length=xs.length:=List.length_map ..
 refine gq57 ?_
 refine zrr ?_
 refine zfC hxl ?_
 obtain ⟨Q,hQ⟩:∃ Q,T++[zd.box [.d (.int .i64 ct.seq),.d (.int .i64 ct.dig),.d (.slice (zO ct.signs))]]=Q:=⟨_,rfl⟩
 have hQ2:∀ R:zd,T++[zd.box [.d (.int .i64 ct.seq),.d (.int .i64 ct.dig),.d (.slice (zO ct.signs))],R]=Q++[R]:=fun R=>by rw [← hQ];simp
 rw [hQ2,hQ]
 obtain ⟨Z0,hZ0⟩:∃ Z,zd.box zkb=Z:=⟨_,rfl⟩
 rw [show zd.box zkb=Z0 from hZ0]
 obtain ⟨nR,hnR⟩:∃ n,(σ++Z0::Q).length=n:=⟨_,rfl⟩
 rw [hnR]
 rw [List.length_append] at hnR
 clear hQ hQ2
 have hcells:([AV.d (.int .i64 8),.d (.int .i64 (zbG f view)),.d (.int .i64 view),.d (.int .i64 0),.d (.int .i64 0),.d (.int .i64 0),.d (.int .i64 0),.d (.int .i64 0),.d (.int .i64 0),.exact [],.d (.int .i64 0),.d (.int .i64 0),.exact [],.d (.slice (zR ds)),.exact [],.exact [],.d (.str []),.d (.int .i64 0),.d (.str []),.d (.int .i64 0),.exact [],.exact [],.d (.int .i64 0),.d (.int .i64 0),.exact [],.d (.int .i64 0),.d (.int .i64 0),.exact [],.d (.int .i64 0),.d (.int .i64 0)]:List AV)=zuq f view ds (.exact []):=rfl
 rw [htk,hcells]
 refine zck xs.length (fun k vs s=>vs = [.d (.int .i64 k)]/\∃ Lk Gk out T2,zAX (zbG f view) xs L G k Lk Gk out/\s=zeD i σ Lk Gk++((Z0::Q)++(.box (zuq f view ds (.own (nR+1) (zu out)))::.tok 5 out.length::T2)))
  (.tokB nR 14 (zuq f view ds (.exact [])) [] 5 (by rw [← hnR, ← List.cons_append,zB,zD];rfl) rfl (by simp) (.refl _ _)) ⟨rfl,L,G,[],[],⟨rfl,hL,by omega,rfl,by simp⟩,?_⟩ ?_
 ·rw [h.self, ← hnR, ← List.cons_append,zT,zP]
  simp [zu];omega
 rintro k vs s hk ⟨rfl,Lk,Gk,out,T2,hI,rfl⟩
 obtain ⟨S,hS⟩:∃ S,zeD i σ Lk Gk++((Z0::Q)++(.box (zuq f view ds (.own (nR+1) (zu out)))::.tok 5 out.length::T2))=S:=⟨_,rfl⟩
 have hpl:=zfk i σ Lk Gk
 have hTG:TG i S Lk Gk:=by rw [← hS];exact (h.put Lk Gk).app _
 have hgR:S[nR]? = some (.box (zuq f view ds (.own (nR+1) (zu out)))):=by rw [← hS, ← hnR, ← hpl];exact zAh
 have hput:∀ L' G',zeD i S L' G' = zeD i σ L' G' ++ ((Z0::Q)++(.box (zuq f view ds (.own (nR+1) (zu out)))::.tok 5 out.length::T2)):=fun L' G'=>by
  rw [← hS,(h.put Lk Gk).put_app,h.put_put]
 have gR:∀ τ,(S ++ τ)[nR]? = _:=fun τ=>zn hgR
 have hgl:=hI.led
 rw [hS]
 clear hS
 by_cases hlt:k<xs.length
 ·have hd:decide ((k:Int)<(xs.length:Int))=true:=by simp;omega
  have hx:xs[k]? = some xs[k]:=by simp [hlt]
  have hgx:=zF (f:=zbh) hx
  have hxk:=hxs _ (List.getElem_mem hlt)
  obtain ⟨x,hxe⟩:∃ c,xs[k]=c:=⟨_,rfl⟩
  rw [hxe] at hx hgx hxk
  refine zfG (zi hd (zi hgx (zi hxl gR))) ?_
  refine c_auEntry (x:=x) (hTG.app _) hI.tab (by omega) hxk.ops hxk.many ?_
  rw [hTG.put_app]
  have hbad:=hI.bad hx
  have hnext:=hI.next hx hxk
  have hpl2:=zfk i σ (zqm Lk x) (zqn Lk Gk (zbG f view) x)
  have hlo2:=h.lows hl (zqm Lk x) (zqn Lk Gk (zbG f view) x)
  have hS2:=hput (zqm Lk x) (zqn Lk Gk (zbG f view) x)
  have r2:=zfk i S (zqm Lk x) (zqn Lk Gk (zbG f view) x)
  obtain ⟨S2,hS2e⟩:∃ S2,zeD i S (zqm Lk x) (zqn Lk Gk (zbG f view) x)=S2:=⟨_,rfl⟩
  obtain ⟨P,hP⟩:∃ P,zeD i σ (zqm Lk x) (zqn Lk Gk (zbG f view) x)=P:=⟨_,rfl⟩
  have hPK:=hP
  rw [hS2e] at hS2 r2 ⊢
  rw [hP] at hS2 hpl2 hlo2
  have r:S.length=S2.length:=r2.symm
  have gz:∀ τ,(S2 ++ τ)[σ.length]? = some Z0:=fun τ=>zn (by rw [hS2, ← hpl2,zD];rfl)
  have sz:∀ τ Y,(S2 ++ τ).set σ.length Y=P++(Y::(Q++(.box (zuq f view ds (.own (nR+1) (zu out)))::.tok 5 out.length::T2) ++ τ)):=fun τ Y=>by
   rw [hS2,List.append_assoc, ← hpl2,zP];rfl
  have pg0:∀ X,(P++X)[σ.length]? = X[0]?:=fun X=>by rw [← hpl2];exact zD ..
  have gR2:∀ τ,(S2 ++ τ)[nR]? = some (.box (zuq f view ds (.own (nR+1) (zu out)))):=fun τ=>zn (by rw [hS2, ← hnR, ← hpl2];exact zAh)
  have ht2:S2[nR+1]? = some (.tok 5 out.length):=by rw [hS2, ← hnR, ← hpl2];exact mid_get1
  have gt2:∀ τ,(S2 ++ τ)[nR+1]? = some (.tok 5 out.length):=fun τ=>zn ht2
  obtain ⟨y,hy⟩:∃ y,entX Lk (zbG f view) x=y:=⟨_,rfl⟩
  obtain ⟨N,hN⟩:∃ y,zlk Lk (zbG f view) x=y:=⟨_,rfl⟩
  rw [hy,hN] at hnext ⊢
  rw [hN] at hbad
  by_cases hn:N=0
  rotate_left
  ·have hq:(N != 0)=true:=by simpa using hn
   have hK:=fin ⟨zed,N,zqm Lk x,zqn Lk Gk (zbG f view) x⟩ (by rw [hbad hn];exact if_pos hn)
   simp only [zeR,zlC,hPK] at hK
   rw [← hZ0] at gz
   refine zfC (zi hq (zi r (zi gz (zi sz pg0)))) ?_
   refine zcx hpl2 ?_ hlo2 hK
   simp [zfF,dmT,dm,dm1,zcq,zaU,zdw]
  ·have hq:(N != 0)=false:=by simpa using hn
   have hol:(out.length+1)*56<=140737488355328:=by have:=hI.len;omega
   have hne:nR+1≠nR:=by omega
   have s1:∀ τ Y,(S2 ++ τ).set (nR+1) Y=S2.set (nR+1) Y ++ τ:=fun τ Y=>zbB ht2
   have gRR:S2[nR]? = some (.box (zuq f view ds (.own (nR+1) (zu out)))):=by have:=gR2 [];rwa [List.append_nil] at this
   have g3':∀ Y,(S2.set (nR+1) Y)[nR]? = some (.box (zuq f view ds (.own (nR+1) (zu out)))):=fun Y=>by rw [List.getElem?_set_ne hne];exact gRR
   have g3:∀ τ Y,(S2.set (nR+1) Y ++ τ)[nR]? = some (.box (zuq f view ds (.own (nR+1) (zu out)))):=fun τ Y=>zn (g3' Y)
   have s2:∀ τ Y X,(S2.set (nR+1) Y ++ τ).set nR X=(S2.set (nR+1) Y).set nR X ++ τ:=fun τ Y X=>zbB (g3' Y)
   refine zfC (zi hq (zi r (zi gR2 (zi gt2 (zi hol (zi s1 (zi g3 (zi s2 (wki k (by omega)))))))))) ?_
   refine zan.next hlt ⟨rfl,_,_,_,T2++[zd.box [.d (.int .i64 x.view),.d (.int .i64 x.seq),.d (.slice (zaP x.batch)),.d (.int .i64 x.key),.d (.int .i64 x.dig)],zd.box [.d (.int .i64 y.view),.d (.int .i64 y.seq),.d (.slice (zaP y.batch)),.d (.int .i64 y.key),.d (.int .i64 y.dig)]],hnext hn,?_⟩
   rw [hP,hS2, ← hnR, ← hpl2,mid_set]
   simp [zuq,zbh]
 ·have hd:decide ((k:Int)<(xs.length:Int))=false:=by simp;omega
  have hlast:=hI.last (by omega)
  have hom:zbn (zpV f view ds out):=zqJ htl htc (by have:=hI.len;omega) hI.ok
  refine zfC (zi hd (zi hxl (zi gR hgR))) ?_
  refine c_auSeal8 (m:=zpV f view ds out) hTG hI.tab (by omega) hom rfl ?_
  rw [hlast] at fin
  have hK:=fin (zhA Lk Gk (zpV f view ds out)) (if_neg (by simp))
  obtain ⟨R,hR'⟩:∃ R,zhA Lk Gk (zpV f view ds out)=R:=⟨_,rfl⟩
  rw [hR'] at hK ⊢
  have hpl2:=zfk i σ R.L R.G
  have hlo2:=h.lows hl R.L R.G
  have hS2:=hput R.L R.G
  have r2:=zfk i S R.L R.G
  obtain ⟨S2,hS2e⟩:∃ S2,zeD i S R.L R.G=S2:=⟨_,rfl⟩
  obtain ⟨P,hP⟩:∃ P,zeD i σ R.L R.G=P:=⟨_,rfl⟩
  rw [hS2e] at hS2 r2 ⊢
  rw [hP] at hS2 hpl2 hlo2 hK
  have gz:S2[σ.length]? = some (.box zkb):=by rw [hS2, ← hpl2,zD,hZ0];rfl
  have sz:∀ Y,S2.set σ.length Y=P++(Y::(Q++(.box (zuq f view ds (.own (nR+1) (zu out)))::.tok 5 out.length::T2))):=fun Y=>by
   rw [hS2, ← hpl2,zP];rfl
  have pg0:∀ X,(P++X)[σ.length]? = X[0]?:=fun X=>by rw [← hpl2];exact zD ..
  refine zfC (zi gz (zi sz pg0)) ?_
  refine zcx hpl2 ?_ hlo2 hK
  simp [zfF,dmT,dm,dm1,zcq,zaU,zdw]
end Go.Proofs.YtpgahkdjkanblaaGreat

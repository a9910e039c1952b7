/- Contracts: the bytes of requests, signatures and batches. -/
import Derived.Test.YtfgbofkdhfjegaaGreatOp1
import Derived.Test.YtfgbofkdhfjegaaGreatOpC
import Derived.Test.YtfgbofkdhfjegaaGreatSpUtf
import Derived.Test.YtfgbofkdhfjegaaGreatId3
import Derived.Test.YtfgbofkdhfjegaaGreatMk1
import Derived.Test.YtfgbofkdhfjegaaGreatSpTab
set_option linter.all false
set_option maxRecDepth 100000
namespace Go.Proofs.YtfgbofkdhfjegaaGreat
open Go.AW
def keyF (c:Int):Int:=if c<0∨c≥8 then -1 else 13+c
theorem sizes {x:zt} (h:zlI x.op<=20971520):okO x.op:=by
 have h0:=h
 unfold zlI at h
 refine ⟨by omega,by omega,?_,fun r hr => ?_⟩
 ·have:=zlO x.op.recs;omega
 ·have:=rec_le hr;omega
theorem zxu {σ:List zh} {x:zt} (hx:zlI x.op<=20971520) {K:KT} (hK:K (.tup [.d (.slice (bcs (zhK x))),.d (.int .i64 (zaF x))]) σ):zp Tryz.prog zlV [reqA x] σ K:=by
 refine zfc e_r08_Bytes fun hl => ?_
 have hsz:=sizes hx
 simp only [zvT,iN,bT,bF,eN,reqA]
 refine zdS ?_
 refine zxt (x:=x) hsz ?_
 by_cases hc:zaF x=0
 ·obtain ⟨c0,c8,t1,t2,ho⟩:=req_ok hc
  have hb:(zaF x != 0)=false:=by simpa using hc
  have n1:=zJ (n:=x.client.toNat) (by omega)
  have n2:=zJ (n:=x.time.toNat) (by omega)
  have w1:IntKind.u64.wrap x.client=((x.client.toNat:Nat):Int):=by
   rw [show x.client=((x.client.toNat:Nat):Int) by omega,zdm (by omega)];rfl
  have w2:IntKind.u64.wrap x.time=((x.time.toNat:Nat):Int):=by
   rw [show x.time=((x.time.toNat:Nat):Int) by omega,zdm (by omega)];rfl
  rw [hc,zhK,if_pos hc] at hK
  refine zaQ (zP hb (zP w1 w2)) ?_
  refine zdy (b := []) (by omega) (by simp) ?_
  refine zaQ (zP w1 w2) ?_
  refine zdy (by omega) (by first|omega|(simp;omega)) ?_
  refine zaQ (zP w1 w2) ?_
  refine c_rPut (o:=x.op) (by first|omega|(simp;omega)) (by omega) ?_
  refine zdS ?_
  refine zI hl ?_
  rw [if_pos ho]
  exact hK
 ·have hb:(zaF x != 0)=true:=by simpa using hc
  rw [zhK,if_neg hc] at hK
  refine zaQ hb ?_
  refine zI hl ?_
  exact hK
theorem c_rPutSign {σ:List zh} {b:List UInt8} {k d:Int} (hb:b.length<=1073741700) {K:KT} (hK:K (.d (.slice (bcs (b++zol k d)))) σ) :
  zp Tryz.prog zlT [.d (.slice (bcs b)),.agg [.d (.int .i64 k),.d (.int .i64 d)]] σ K:=by
 refine zeW zyH fun hl => ?_
 simp only [zrq,iN,bT,bF,eN]
 refine zdS ?_
 refine zhG ?_
 by_cases hc:zah k d=0
 ·obtain ⟨k0,k1,d0,d1⟩:=sign_ok hc
  have hq:(zah k d != 0)=false:=by simpa using hc
  have n1:=zJ (n:=k.toNat) (by omega)
  have w1:IntKind.u64.wrap k=((k.toNat:Nat):Int):=by
   rw [show k=((k.toNat:Nat):Int) by omega,zdm (by omega)];rfl
  have w2:IntKind.u64.wrap d=((d.toNat:Nat):Int):=by
   rw [show d=((d.toNat:Nat):Int) by omega,zdm (by omega)];rfl
  rw [zol,if_pos hc] at hK
  refine zaQ (zP hq (zP w1 w2)) ?_
  refine zdy (by omega) (by omega) ?_
  refine zaQ (zP w1 w2) ?_
  refine zdy (by omega) (by first|omega|(simp;omega)) ?_
  refine zdS ?_
  refine zI hl ?_
  exact hK
 ·have hq:(zah k d != 0)=true:=by simpa using hc
  rw [zol,if_neg hc,List.append_nil] at hK
  refine zaQ hq ?_
  refine zI hl ?_
  exact hK
theorem c_rPutBatch {σ:List zh} {b:List UInt8} {l:List zt} (hb:b.length<=268435456) (hs:∀ x∈l,zlI x.op<=20971520) (hl0:l.length<=1073741824) {K:KT} (hK:K (.d (.slice (bcs (b++zgt l)))) σ) :
  zp Tryz.prog zkB [.d (.slice (bcs b)),.d (.slice (zda l))] σ K:=by
 refine zeW zwt fun hl => ?_
 have hok:okB l:=⟨hl0,fun x hx=>sizes (hs x hx)⟩
 simp only [zpi,iN,bT,bF,eN]
 refine zdS ?_
 refine zra hok ?_
 by_cases hc:zad l=0
 ·have hq:(zad l != 0)=false:=by simpa using hc
  obtain ⟨h4,hm,_⟩:=zzq hc
  have n1:=zJ (n:=l.length) (by omega)
  have w1:IntKind.u64.wrap (l.length:Int)=(l.length:Int):=zdm (by omega)
  rw [zgt,if_pos hc] at hK
  refine zaQ (zP hq w1) ?_
  refine zdy (by omega) (by omega) ?_
  refine zdS ?_
  refine zcD l.length (fun k vs s=>(∃ T,s = σ++T)/\vs = [.d (.slice (bcs (b++(zdi l.length++zkH (l.take k))))),.d (.int .i64 k)])
   (.data 0 _ _ rfl rfl (.refl _ _)) ⟨⟨_,rfl⟩,by simp [zkH]⟩ ?_
  rintro k vs s hk ⟨⟨T,rfl⟩,rfl⟩
  by_cases hlt:k<l.length
  ·have hd:decide ((k:Int)<(l.length:Int))=true:=by simp;omega
   have hx:l[k]? = some l[k]:=by simp [hlt]
   have hgx:=zK (f:=zbX) hx
   have hxs:=hs _ (List.getElem_mem hlt)
   have hxm:=hm _ (List.getElem_mem hlt)
   obtain ⟨x,hxe⟩:∃ x,l[k]=x:=⟨_,rfl⟩
   rw [hxe] at hx hgx hxs hxm
   have hbl:=zvz hs hc k
   have hrl:=reqBytes_len hxs
   have hpl:=zgC (x:=zhK x) (by omega)
   obtain ⟨S,hS⟩:∃ S, σ++T=S:=⟨_,rfl⟩
   rw [hS]
   refine zqi (zP hd hgx) ?_
   refine zxu (x:=x) hxs ?_
   refine zqi (zP hd hgx) ?_
   refine zhB (by omega) (by simp;omega) ?_
   refine zqi (zP hd hgx) ?_
   refine c_rPutSign (by simp only [zqr,List.length_append] at hpl ⊢;omega) ?_
   refine zaQ (wk1 k (by omega)) ?_
   refine zas.next hlt ⟨⟨_,by rw [← hS,List.append_assoc]⟩,?_⟩
   rw [batchBs_snoc hx]
   simp [oneB,zqr,zhK,zol,hxm.1,hxm.2]
  ·have hd:decide ((k:Int)<(l.length:Int))=false:=by simp;omega
   rw [List.take_of_length_le (by omega)]
   refine zaQ hd ?_
   refine zI hl ?_
   exact hK
 ·have hq:(zad l != 0)=true:=by simpa using hc
  rw [zgt,if_neg hc,List.append_nil] at hK
  refine zaQ hq ?_
  refine zI hl ?_
  exact hK
theorem zdH.put {σ:List zh} {id m t:Nat} {l:List (List UInt8)} (h:zdH σ id m t l) (l':List (List UInt8)):zdH (putTab σ id m t l') id m t l':=by
 obtain ⟨n1,n2,n3⟩:=h.ne
 have h1:=zB h.box;have h2:=zB h.map;have h3:=zB h.tok
 unfold putTab
 refine ⟨?_,?_,?_⟩
 ·rw [List.getElem?_set_ne (Ne.symm n1),List.getElem?_set_self (by simpa using h1)]
 ·rw [List.getElem?_set_self (by simpa using h2)]
 ·rw [List.getElem?_set_ne n3,List.getElem?_set_ne n2,List.getElem?_set_self h3]
theorem zeY.put {σ:List zh} {id m t:Nat} {g:List zR} (h:zeY σ id m t g) (g':List zR):zeY (putLed σ id m t g') id m t g':=by
 obtain ⟨n1,n2,n3⟩:=h.ne
 have h1:=zB h.box;have h2:=zB h.map;have h3:=zB h.tok
 unfold putLed
 refine ⟨?_,?_,?_⟩
 ·rw [List.getElem?_set_self (by simpa using h1)]
 ·rw [List.getElem?_set_ne n1,List.getElem?_set_ne (Ne.symm n3),List.getElem?_set_self h2]
 ·rw [List.getElem?_set_ne n2,List.getElem?_set_self (by simpa using h3)]
theorem apart2 {σ:List zh} {id m t id2 m2 t2:Nat} {l:List (List UInt8)} {g:List zR} (hT:zdH σ id m t l) (hG:zeY σ id2 m2 t2 g) (h1:id≠id2) (h2:m≠m2) :
  (id≠m2/\id≠t2)/\(m≠id2/\m≠t2)/\(t≠id2/\t≠m2/\t≠t2):=by
 refine ⟨⟨?_,?_⟩,⟨?_,?_⟩,⟨?_,?_,?_⟩⟩<;>intro e<;>subst e
 ·have:=hT.box;rw [hG.map] at this;cases this
 ·have:=hT.box;rw [hG.tok] at this;cases this
 ·have:=hT.map;rw [hG.box] at this;cases this
 ·have:=hT.map;rw [hG.tok] at this;cases this
 ·have:=hT.tok;rw [hG.box] at this;cases this
 ·have:=hT.tok;rw [hG.map] at this;cases this
 ·have:=hT.tok;rw [hG.tok] at this;cases this
theorem zeY.putTab {σ:List zh} {id m t id2 m2 t2:Nat} {l:List (List UInt8)} {g:List zR} (hT:zdH σ id m t l) (hG:zeY σ id2 m2 t2 g) (h1:id≠id2) (h2:m≠m2) (l':List (List UInt8)) :
  zeY (putTab σ id m t l') id2 m2 t2 g:=by
 obtain ⟨⟨a1,a2⟩,⟨b1,b2⟩,⟨c1,c2,c3⟩⟩:=apart2 hT hG h1 h2
 unfold Go.Proofs.YtfgbofkdhfjegaaGreat.putTab
 refine ⟨?_,?_,?_⟩
 ·rw [List.getElem?_set_ne b1,List.getElem?_set_ne h1,List.getElem?_set_ne c1];exact hG.box
 ·rw [List.getElem?_set_ne h2,List.getElem?_set_ne a1,List.getElem?_set_ne c2];exact hG.map
 ·rw [List.getElem?_set_ne b2,List.getElem?_set_ne a2,List.getElem?_set_ne c3];exact hG.tok
theorem zdH.putLed {σ:List zh} {id m t id2 m2 t2:Nat} {l:List (List UInt8)} {g:List zR} (hT:zdH σ id m t l) (hG:zeY σ id2 m2 t2 g) (h1:id≠id2) (h2:m≠m2) (g':List zR) :
  zdH (putLed σ id2 m2 t2 g') id m t l:=by
 obtain ⟨⟨a1,a2⟩,⟨b1,b2⟩,⟨c1,c2,c3⟩⟩:=apart2 hT hG h1 h2
 unfold Go.Proofs.YtfgbofkdhfjegaaGreat.putLed
 refine ⟨?_,?_,?_⟩
 ·rw [List.getElem?_set_ne (Ne.symm h1),List.getElem?_set_ne (Ne.symm a2),List.getElem?_set_ne (Ne.symm a1)];exact hT.box
 ·rw [List.getElem?_set_ne (Ne.symm b1),List.getElem?_set_ne (Ne.symm b2),List.getElem?_set_ne (Ne.symm h2)];exact hT.map
 ·rw [List.getElem?_set_ne (Ne.symm c1),List.getElem?_set_ne (Ne.symm c3),List.getElem?_set_ne (Ne.symm c2)];exact hT.tok
def noSg:zt:=⟨0, 0,noOp, 0, 0⟩
def zwj (L:List (List UInt8)) (x:zt):Int:=if zaF x≠0 then zaF x else zfb (keyF x.client) (zdX L (ztR x))
def znh (L:List (List UInt8)) (x:zt):zt:=if zwj L x=0 then ⟨x.client,x.time,x.op,keyF x.client,zdX L (ztR x)⟩ else noSg
def zrK (L:List (List UInt8)) (x:zt):List (List UInt8):=if zaF x≠0 then L else zfD L (ztR x)
def zum (L:List (List UInt8)) (G:List zR) (x:zt):List zR:=if zaF x≠0 then G else zgy G (keyF x.client) (zdX L (ztR x))
structure zne (L:List (List UInt8)):Prop where
 nd:L.Nodup
 len:L.length<=1048576
 each:∀ b∈L,b.length<=1073741824
theorem zne.nil:zne []:=⟨.nil,by simp,by simp⟩
theorem zne.sum {L:List (List UInt8)} (h:zne L) {b:List UInt8} (hb:b.length<=1073741824):zne (zfD L b):=by
 unfold zfD
 cases ho:zdf L b with
 | some k=>exact h
 | none=>
  simp only
  split
  ·exact h
  ·rename_i hl
   have hn:b ∉ L:=fun hm=>by
    obtain ⟨i,hi⟩:=List.mem_iff_getElem?.1 hm
    exact zyw ho hm
   refine ⟨?_,by simp;omega,fun x hx => ?_⟩
   ·rw [List.nodup_append]
    refine ⟨h.nd,by simp,fun a ha c hc => ?_⟩
    simp at hc;subst hc
    exact fun e=>hn (e▸ha)
   ·rcases List.mem_append.1 hx with hx|hx
    ·exact h.each x hx
    ·simp at hx;subst hx;exact hb
theorem zqn {L:List (List UInt8)} (h:L.length<=1048576) (b:List UInt8):(zfD L b).length<=1048576:=by
 unfold zfD
 split
 ·exact h
 ·split
  ·exact h
  ·simp;omega
theorem zrH {L:List (List UInt8)} (h:L.length<=1048576) (b:List UInt8):0<=zdX L b/\zdX L b<=1048577:=by
 unfold zdX
 split
 ·rename_i i hi
  have:=(zmc hi).1
  omega
 ·split
  ·omega
  ·omega
theorem zeu:∀ (f:Nat) {L l:List (List UInt8)},l.length<=f->L.length<=1048576->(rootF L l).2.length<=1048576/\0<=(rootF L l).1/\(rootF L l).1<=1048577
 | _,L,[],_,h=>⟨zqn h _,zrH h _⟩
 | _,L,[x],_,h=>⟨zqn h _,zrH h _⟩
 | 0,L,x::y::r,hf,h=>by simp at hf
 | f+1,L,x::y::r,hf,h=>by
  have hs:=zcB (n:=(x::y::r).length) (by simp)
  rw [zun (by simp)]
  have h1:=(zeu f (L:=L) (l:=(x::y::r).take (zn (x::y::r).length)) (by rw [List.length_take];omega) h).1
  have h2:=(zeu f (L:=(rootF L ((x::y::r).take (zn (x::y::r).length))).2) (l:=(x::y::r).drop (zn (x::y::r).length)) (by rw [List.length_drop];omega) h1).1
  exact ⟨zqn h2 _,zrH h2 _⟩
theorem c_r5Leaf {σ:List zh} {id:Nat} {L:List (List UInt8)} {b:List UInt8} (hT : σ[id]? = some (rtO L)) (hL:L.length<=1048576) (hb:b.length<=1073740000) {K:KT}
  (hK:K (.d (.int .i64 (zdX L (zpH b)))) (σ.set id (rtO (zfD L (zpH b))))):zp Tryz.prog zrX [.box id 0,.d (.slice (bcs b))] σ K:=by
 refine zeW e_r05_Leaf fun hl => ?_
 simp only [zxZ,iN,bT,bF,eN]
 refine gq1 ?_
 refine c_r5leaf (by omega) ?_
 refine gq1 ?_
 refine zmo hT (by simp [zpH];omega) hL ?_
 refine gq1 ?_
 exact zhT (by simp) (by simp [zfz,dmT,dm,dm1,zcJ]) (hl.setO (zgl _ _)) hK
theorem c_r5Node {σ:List zh} {id:Nat} {L:List (List UInt8)} {l r:Int} (hT : σ[id]? = some (rtO L)) (hL:L.length<=1048576) (hl1:l<=9223372036854775807) (hr1:r<=9223372036854775807) {K:KT}
  (hK:K (.d (.int .i64 (zdX L (zlQ l r)))) (σ.set id (rtO (zfD L (zlQ l r))))):zp Tryz.prog zrW [.box id 0,.d (.int .i64 l),.d (.int .i64 r)] σ K:=by
 refine acE3 e_r05_Node fun hl => ?_
 have n1:=zJ (n:=l.toNat) (by omega)
 have n2:=zJ (n:=r.toNat) (by omega)
 simp only [zxY,iN,bT,bF,eN]
 refine gq1 ?_
 refine zzg hl1 hr1 ?_
 refine gq1 ?_
 refine zmo hT (by simp [zlQ];omega) hL ?_
 refine gq1 ?_
 exact zhT (by simp) (by simp [zfz,dmT,dm,dm1,zcJ]) (hl.setO (zgl _ _)) hK
theorem c_r5RootA:∀ (f:Nat) {σ:List zh} {id:Nat} {L l:List (List UInt8)},l.length<=f → σ[id]? = some (rtO L)->L.length<=1048576->l.length<=1073741824->(∀ x∈l,x.length<=1073740000)->∀ {K:KT},
  K (.d (.int .i64 (rootF L l).1)) (σ.set id (rtO (rootF L l).2))->zp Tryz.prog zfr [.box id 0,.d (.slice (zhI l))] σ K:=by
 intro f
 induction f with
 | zero=>
  intro σ id L l hf hT hL hn hx K hK
  have:l = []:=List.eq_nil_of_length_eq_zero (by omega)
  subst this
  refine zeW zoy fun hl => ?_
  simp only [zlz,iN,bT,bF,eN]
  refine gq1 ?_
  refine zmo (b := [2]) hT (by simp) hL ?_
  refine gq1 ?_
  exact zhT (by simp) (by simp [zfz,dmT,dm,dm1,zcJ]) (hl.setO (zgl _ _)) hK
 | succ f ih=>
  intro σ id L l hf hT hL hn hx K hK
  match l,hf,hn,hx,hK with
  | [],_,_,_,hK=>
   refine zeW zoy fun hl => ?_
   simp only [zlz,iN,bT,bF,eN]
   refine gq1 ?_
   refine zmo (b := [2]) hT (by simp) hL ?_
   refine gq1 ?_
   exact zhT (by simp) (by simp [zfz,dmT,dm,dm1,zcJ]) (hl.setO (zgl _ _)) hK
  | [x],_,_,hx,hK=>
   refine zeW zoy fun hl => ?_
   simp only [zlz,iN,bT,bF,eN]
   refine gq1 ?_
   refine c_r5Leaf (b:=x) hT hL (hx x (by simp)) ?_
   refine gq1 ?_
   exact zhT (by simp) (by simp [zfz,dmT,dm,dm1,zcJ]) (hl.setO (zgl _ _)) hK
  | x::y::r,hf,hn,hx,hK=>
   obtain ⟨l,hle⟩:∃ l,x::y::r=l:=⟨_,rfl⟩
   have h2:2<=l.length:=by rw [← hle];simp
   rw [hle] at hf hn hx hK ⊢
   clear hle
   have hs:=zcB h2
   rw [zun h2] at hK
   refine zeW zoy fun hl => ?_
   have hlen:(zhI l).length=l.length:=List.length_map ..
   have e0:((l.length:Int)==0)=false:=by rw [beq_eq_false_iff_ne];omega
   have e1:((l.length:Int)==1)=false:=by rw [beq_eq_false_iff_ne];omega
   have htk:List.take (zn l.length) (zhI l)=zhI (l.take (zn l.length)):=by rw [zhI, ← List.map_take]
   have hdr:List.drop (zn l.length) (zhI l)=zhI (l.drop (zn l.length)):=by rw [zhI, ← List.map_drop]
   have htl:List.take l.length (zhI l)=zhI l:=List.take_of_length_le (by omega)
   have hone:∀ e∈zhI l,e.length=1:=zjk (f:=fun b => [D.slice (bcs b)]) (fun _=>rfl) l
   have hl1:(l.take (zn l.length)).length=zn l.length:=by rw [List.length_take];omega
   have hl2:(l.drop (zn l.length)).length=l.length-zn l.length:=List.length_drop
   obtain ⟨g1,g2,g3⟩:=zeu l.length (L:=L) (l:=l.take (zn l.length)) (by omega) hL
   simp only [zlz,iN,bT,bF,eN]
   refine gq2 (zg hlen (zg e0 e1)) ?_
   refine zrb (by omega) ?_
   refine gq2 (zg hlen htk) ?_
   refine ih (by omega) hT hL (by omega) (fun z hz=>hx z (List.mem_of_mem_take hz)) ?_
   obtain ⟨A,hA⟩:∃ A,rootF L (l.take (zn l.length))=A:=⟨_,rfl⟩
   rw [hA] at hK g1 g2 g3 ⊢
   obtain ⟨q1,q2,q3⟩:=zeu l.length (L:=A.2) (l:=l.drop (zn l.length)) (by omega) g1
   refine gq2 (zg hlen (zg htl hdr)) ?_
   refine ih (by omega) (zbJ hT) g1 (by omega) (fun z hz=>hx z (List.mem_of_mem_drop hz)) ?_
   obtain ⟨B,hB⟩:∃ B,rootF A.2 (l.drop (zn l.length))=B:=⟨_,rfl⟩
   rw [hB] at hK q1 q2 q3 ⊢
   rw [List.set_set]
   refine gq1 ?_
   refine c_r5Node (zbJ hT) q1 (by omega) (by omega) ?_
   rw [List.set_set]
   refine gq1 ?_
   exact zhT (by simp) (by simp [zfz,dmT,dm,dm1,zcJ]) (hl.setO (zgl _ _)) hK
theorem zoC {σ:List zh} {id:Nat} {L l:List (List UInt8)} (hT : σ[id]? = some (rtO L)) (hL:L.length<=1048576) (hn:l.length<=1073741824) (hx:∀ x∈l,x.length<=1073740000) {K:KT}
  (hK:K (.d (.int .i64 (rootF L l).1)) (σ.set id (rtO (rootF L l).2))):zp Tryz.prog zfr [.box id 0,.d (.slice (zhI l))] σ K:=c_r5RootA l.length (Nat.le_refl _) hT hL hn hx hK
end Go.Proofs.YtfgbofkdhfjegaaGreat

/- Votes: their bytes, and whether they are signed. No program in sight. -/
namespace Go.AW
abbrev zcH (l:List Int):List (List D):=l.map fun t => [D.int .i64 t]
def zdB (x:Int):Bool:=decide (0<=x/\x<=9007199254740992)
def zse (a b c d:Int):Bool:=zdB a&&(zdB b&&(zdB c&&zdB d))
def ziU (l:List Int):List UInt8:=(l.map fun x=>zdi x.toNat).flatten
def zgA (a b c d:Int):List UInt8 := 4::ziU [a,b,c,d]
theorem zfM {x:Int}:zdB x=true↔0<=x/\x<=9007199254740992:=by simp [zdB]
theorem zoo {l:List Int} {k:Nat} {x:Int} (h:l[k]? = some x):ziU (l.take (k+1))=ziU (l.take k)++zdi x.toNat:=by
 rw [List.take_add_one,h];simp [ziU]
theorem znl {l:List Int} (h:∀ x∈l,x<9223372036854775808):(ziU l).length<=l.length*10:=by
 induction l with
 | nil=>simp [ziU]
 | cons x l ih=>
  have h1:=h x (by simp)
  have h2:=zJ (n:=x.toNat) (by omega)
  have h3:=ih fun y hy=>h y (by simp [hy])
  simp only [ziU,List.map_cons,List.flatten_cons,List.length_append,List.length_cons] at h3 ⊢
  omega
theorem voteB_len {a b c d:Int} (h:zse a b c d=true):(zgA a b c d).length<=50:=by
 simp only [zse,Bool.and_eq_true,zfM] at h
 have:=znl (l := [a,b,c,d]) (by intro x hx;simp at hx;omega)
 simp only [zgA,List.length_cons,List.length_nil] at this ⊢
 omega
theorem mayV_all (a b c d:Int):zse a b c d = [a,b,c,d].all zdB:=by simp [zse]
def zhk (L:List (List UInt8)) (G:List zR) (s:zR) (key:Int) (b:List UInt8):Bool:=match zdf L b with
 | some i=>decide (s.key=key/\s.dig=((i+1:Nat):Int))&&decide (s∈G)
 | none=>false
def zkL (L:List (List UInt8)) (G:List zR) (s:zR) (key a b c d:Int):Bool:=zse a b c d&&zhk L G s key (zgA a b c d)
end Go.AW

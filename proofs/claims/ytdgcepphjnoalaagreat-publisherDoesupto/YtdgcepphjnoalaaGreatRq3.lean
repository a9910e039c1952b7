/- Contracts: requests sealed, and whether they are valid; a batch's number. -/
import Derived.Test.YtdgcepphjnoalaaGreatWr3
import Derived.Test.YtdgcepphjnoalaaGreatGa1
import Derived.Test.YtdgcepphjnoalaaGreatOpC
import Derived.Test.YtdgcepphjnoalaaGreatRc2
import Derived.Test.YtdgcepphjnoalaaGreatSpTab
import Derived.Test.YtdgcepphjnoalaaGreatSm4
set_option linter.all false
set_option maxRecDepth 100000
namespace Go.Proofs.YtdgcepphjnoalaaGreat
open Go.AW
variable {σ:List AObj} {K:KT}
theorem zgP.put {id m t:Nat}{l:List (List UInt8)}(h:zgP σ id m t l)(l':List (List UInt8)):zgP (putTab σ id m t l') id m t l':=by
 obtain⟨n1,n2,n3⟩:=h.ne;have h1:=zaa h.box;have h2:=zaa h.map;have h3:=zaa h.tok;unfold putTab;refine⟨?_,?_,?_⟩
 ·rw[List.getElem?_set_ne (Ne.symm n1),List.getElem?_set_self (by simpa using h1)]
 ·rw[List.getElem?_set_self (by simpa using h2)]
 ·rw[List.getElem?_set_ne n3,List.getElem?_set_ne n2,List.getElem?_set_self h3]
theorem zfm.put {id m t:Nat}{g:List zI}(h:zfm σ id m t g)(g':List zI):zfm (putLed σ id m t g') id m t g':=by
 obtain⟨n1,n2,n3⟩:=h.ne;have h1:=zaa h.box;have h2:=zaa h.map;have h3:=zaa h.tok;unfold putLed;refine⟨?_,?_,?_⟩
 ·rw[List.getElem?_set_self (by simpa using h1)]
 ·rw[List.getElem?_set_ne n1,List.getElem?_set_ne (Ne.symm n3),List.getElem?_set_self h2]
 ·rw[List.getElem?_set_ne n2,List.getElem?_set_self (by simpa using h3)]
theorem apart2 {id m t id2 m2 t2:Nat}{l:List (List UInt8)}{g:List zI}(hT:zgP σ id m t l)(hG:zfm σ id2 m2 t2 g)(h1:id≠id2)(h2:m≠m2) :
  (id≠m2/\id≠t2)/\(m≠id2/\m≠t2)/\(t≠id2/\t≠m2/\t≠t2):=by
 refine⟨⟨?_,?_⟩,⟨?_,?_⟩,⟨?_,?_,?_⟩⟩<;>intro e<;>subst e
 ·have:=hT.box;rw[hG.map]at this;cases this
 ·have:=hT.box;rw[hG.tok]at this;cases this
 ·have:=hT.map;rw[hG.box]at this;cases this
 ·have:=hT.map;rw[hG.tok]at this;cases this
 ·have:=hT.tok;rw[hG.box]at this;cases this
 ·have:=hT.tok;rw[hG.map]at this;cases this
 ·have:=hT.tok;rw[hG.tok]at this;cases this
theorem zfm.putTab {id m t id2 m2 t2:Nat}{l:List (List UInt8)}{g:List zI}(hT:zgP σ id m t l)(hG:zfm σ id2 m2 t2 g)(h1:id≠id2)(h2:m≠m2)(l':List (List UInt8)) :
  zfm (putTab σ id m t l') id2 m2 t2 g:=by
 obtain⟨⟨a1,a2⟩,⟨b1,b2⟩,⟨c1,c2,c3⟩⟩:=apart2 hT hG h1 h2;unfold Go.Proofs.YtdgcepphjnoalaaGreat.putTab;refine⟨?_,?_,?_⟩
 ·rw[List.getElem?_set_ne b1,List.getElem?_set_ne h1,List.getElem?_set_ne c1];exact hG.box
 ·rw[List.getElem?_set_ne h2,List.getElem?_set_ne a1,List.getElem?_set_ne c2];exact hG.map
 ·rw[List.getElem?_set_ne b2,List.getElem?_set_ne a2,List.getElem?_set_ne c3];exact hG.tok
theorem zgP.putLed {id m t id2 m2 t2:Nat}{l:List (List UInt8)}{g:List zI}(hT:zgP σ id m t l)(hG:zfm σ id2 m2 t2 g)(h1:id≠id2)(h2:m≠m2)(g':List zI) :
  zgP (putLed σ id2 m2 t2 g') id m t l:=by
 obtain⟨⟨a1,a2⟩,⟨b1,b2⟩,⟨c1,c2,c3⟩⟩:=apart2 hT hG h1 h2;unfold Go.Proofs.YtdgcepphjnoalaaGreat.putLed;refine⟨?_,?_,?_⟩
 ·rw[List.getElem?_set_ne (Ne.symm h1),List.getElem?_set_ne (Ne.symm a2),List.getElem?_set_ne (Ne.symm a1)];exact hT.box
 ·rw[List.getElem?_set_ne (Ne.symm b1),List.getElem?_set_ne (Ne.symm b2),List.getElem?_set_ne (Ne.symm h2)];exact hT.map
 ·rw[List.getElem?_set_ne (Ne.symm c1),List.getElem?_set_ne (Ne.symm c3),List.getElem?_set_ne (Ne.symm c2)];exact hT.tok
def noSg:zr:=⟨0,0,noOp,0,0⟩
def zkn (L:List (List UInt8)) (x:zr):Int:=if zT x≠0 then zT x else zgW (zvg x.client) (zhX L (znC x))
def zfB (L:List (List UInt8)) (x:zr):zr:=if zkn L x=0 then⟨x.client,x.time,x.op,zvg x.client,zhX L (znC x)⟩else noSg
def zok (L:List (List UInt8)) (x:zr):List (List UInt8):=if zT x≠0 then L else zfZ L (znC x)
def zpQ (L:List (List UInt8)) (G:List zI) (x:zr):List zI:=if zT x≠0 then G else zhs G (zvg x.client) (zhX L (znC x))
structure zmI (L:List (List UInt8)):Prop where
 nd:L.Nodup
 len:L.length<=1048576
 each:∀b∈L,b.length<=1073741824
theorem zmI.nil:zmI []:=⟨.nil,by simp,by simp⟩
theorem zmI.sum {L:List (List UInt8)}(h:zmI L){b:List UInt8}(hb:b.length<=1073741824):zmI (zfZ L b):=by
 unfold zfZ;cases ho:zhJ L b with
 | some k=>exact h
 | none=>
  simp only
  split
  ·exact h
  ·rename_i hl
   have hn:b∉L:=fun hm=>by
    obtain⟨i,hi⟩:=List.mem_iff_getElem?.1 hm;exact zzX ho hm
   refine⟨?_,by simp;omega,fun x hx=>?_⟩
   ·rw[List.nodup_append]
    refine⟨h.nd,by simp,fun a ha c hc=>?_⟩
    simp at hc;subst hc
    exact fun e=>hn (e▸ha)
   ·rcases List.mem_append.1 hx with hx|hx
    ·exact h.each x hx
    ·simp at hx;subst hx;exact hb
theorem zmI.seal {L:List (List UInt8)}(h:zmI L){x:zr}(hx:zmW x.op<=20971520):zmI (zok L x):=by
 unfold zok;split
 ·exact h
 ·rename_i hc;exact h.sum (by have:=zpu (x:=x) (by omega) (by simpa using hc);omega)
theorem zpK {id m t id2 m2 t2:Nat}{L:List (List UInt8)}{G:List zI}{x:zr}(hT:zgP σ id m t L)(hG:zfm σ id2 m2 t2 G)(h1:id≠id2)(h2:m≠m2)(hL:zmI L)(hGl:G.length<=1073741824)
  (hx:zmW x.op<=20971520)
  (hK:K (.tup [zir (zfB L x),.d (.int .i64 (zkn L x))]) (putLed (putTab σ id m t (zok L x)) id2 m2 t2 (zpQ L G x))):zP zgE [.box id 0,.box id2 0,reqA x] σ K:=by
 refine acE3 zxM fun hl=>?_;have hsz:=sizes hx;simp only[zqw,iN,bT,bF,eN,zl1,reqA];refine zG ?_;refine c_rqBytes (x:=x) hx ?_;by_cases hc:zT x=0
 ·have hb:(zT x != 0)=false:=by simpa using hc
  have hrl:=zpu (x:=x) (by omega) hc;refine zm hb ?_;refine c_made (hT.app _) (hG.app _) hL.nd hL.len hL.each ?_;refine zG ?_;refine c_rqKey ?_;rw[show zbV x=znC x from if_pos hc];refine zG ?_;refine c_tSum (hT.app _) (by omega) hL.len ?_;rw[zsR hT];simp only[zok,zpQ,hc,ne_eq,not_true_eq_false,if_false]at hK;have e1:zkn L x=zgW (zvg x.client) (zhX L (znC x)):=by rw[zkn,if_neg (by simpa using hc)]
  rw[e1]at hK;have hG1:=zfm.putTab hT hG h1 h2 (zfZ L (znC x));have hl1:=hT.lows hl (zfZ L (znC x));have hs1:=zpv σ id m t (zfZ L (znC x));obtain⟨S1,hS1⟩:∃S1,putTab σ id m t (zfZ L (znC x))=S1:=⟨_,rfl⟩;rw[hS1]at hK hG1 hs1 hl1 ⊢;rw[← hs1]at hl1;have r1:σ.length=S1.length:=hs1.symm;refine zm r1 ?_;refine c_gSign (hG1.app _) hGl ?_;rw[zsS hG1];obtain⟨N,hN⟩:∃N,zgW (zvg x.client) (zhX L (znC x))=N:=⟨_,rfl⟩;have hl2:=hG1.lows hl1 (zhs G (zvg x.client) (zhX L (znC x)));have hs2:=zyl S1 id2 m2 t2 (zhs G (zvg x.client) (zhX L (znC x)));obtain⟨S2,hS2⟩:∃S2,putLed S1 id2 m2 t2 (zhs G (zvg x.client) (zhX L (znC x)))=S2:=⟨_,rfl⟩;rw[hS2]at hK hs2 hl2 ⊢;rw[← hs2]at hl2;have r2:σ.length=S2.length:=by rw[r1];exact hs2.symm
  have r3:S1.length=S2.length:=hs2.symm;rw[hN]at hK ⊢;simp only[zuv];by_cases hN0:N=0
  ·have hq:(N != 0)=false:=by simpa using hN0
   have e2:zfB L x=⟨x.client,x.time,x.op,zvg x.client,zhX L (znC x)⟩:=by rw[zfB,if_pos (by rw[e1,hN,hN0])]
   have e3:signR (zvg x.client) (zhX L (znC x))=⟨zvg x.client,zhX L (znC x)⟩:=by rw[signR,if_pos (by rw[hN,hN0])]
   rw[e2]at hK;rw[e3];refine zm (zd hq (zd r2 r3)) ?_;refine ziY (o:=x.op) hsz.2.2.1 hsz.2.2.2 ?_;simp only[opA];refine zm (zd hq (zd r2 r3)) ?_;rw[hN0]at hK;refine zfc rfl ?_ hl2 ?_
   ·simp[zhe,dmT,dm,dm1,zcm,zbu,zfv]
   ·exact hK
  ·have hq:(N != 0)=true:=by simpa using hN0
   have e2:zfB L x=noSg:=by rw[zfB,if_neg (by rw[e1,hN];exact hN0)]
   rw[e2]at hK;rw[show signR (zvg x.client) (zhX L (znC x))=⟨0,0⟩from by rw[signR,if_neg (by rw[hN];exact hN0)]];refine zm (zd hq (zd r2 r3)) ?_;refine zfc rfl ?_ hl2 ?_
   ·simp[zhe,dmT,dm,dm1,zcm,zbu,zfv]
   ·exact hK
 ·have hb:(zT x != 0)=true:=by simpa using hc
  have e1:zkn L x=zT x:=if_pos hc;have e2:zfB L x=noSg:=by rw[zfB,if_neg (by rw[e1];exact hc)]
  rw[e1,e2,zok,zpQ,if_pos hc,if_pos hc,hT.self,hG.self]at hK;refine zm hb ?_;refine zu hl ?_;exact hK
end Go.Proofs.YtdgcepphjnoalaaGreat

/- Requests that wait: of each client at most one. No program in sight. -/
namespace Go.AW
abbrev PQ:=List (Option zr)
structure zkd (q:PQ):Prop where
 len:q.length=8
 at_:∀(i:Nat) x,q[i]? = some (some x)->x.client=i/\zD [x]=0/\okO x.op
def zfE (q:PQ):List zr:=q.filterMap id
def ofF (q:PQ) (c:Int):Option zr:=if 0<=c/\c<8 then(q[c.toNat]?).join else none
def mayPut:Option zr->Int->Bool
 | some y,t=>decide (y.time<t)
 | none,_=>true
def mayDone:Option zr->Int->Bool
 | some y,t=>decide (y.time<=t)
 | none,_=>false
def canPut (q:PQ) (x:zr):Bool:=decide (zD [x]=0)&&mayPut (ofF q x.client) x.time
def putQ (q:PQ) (x:zr):PQ:=if canPut q x=true then q.set x.client.toNat (some x)else q
def canDone (q:PQ) (c t:Int):Bool:=mayDone (ofF q c) t
def doneQ (q:PQ) (c t:Int):PQ:=if canDone q c t=true then q.set c.toNat none else q
theorem one_ok {x:zr}(h:zD [x]=0):0<=x.client/\x.client<8/\1<=x.time/\x.time<=9007199254740992/\zaN zev x.op=0/\zT x=0/\zx x.key x.dig=0:=by
 simp only[zD,List.length_singleton,znZ,zyJ]at h;have h1:¬(1>4):=by omega
 rw[if_neg h1]at h;by_cases hr:zT x=0
 ·by_cases hs:zx x.key x.dig=0
  ·unfold zT at hr;split at hr
   ·cases hr
   ·rename_i hc;have hr':zT x=0:=by unfold zT;rw[if_neg hc];exact hr
    exact⟨by omega,by omega,by omega,by omega,hr,hr',hs⟩
  ·exfalso;simp[hr,hs]at h
 ·exfalso;simp[hr]at h
theorem ofF_some {q:PQ}{c:Int}{x:zr}(h:ofF q c=some x):0<=c/\c<8/\q[c.toNat]? = some (some x):=by
 unfold ofF at h;split at h
 ·rename_i hc;refine⟨hc.1,hc.2,?_⟩;cases hq:q[c.toNat]? with
  | none=>rw[hq]at h;cases h
  | some o=>rw[hq]at h;simp at h;rw[h]
 ·cases h
theorem zkd.get {q:PQ}(hq:zkd q){c:Int}(h0:0<=c)(h8:c<8):q[c.toNat]? = some (ofF q c):=by
 have hl:=hq.len;have:q[c.toNat]? = some (q[c.toNat]'(by omega)):=List.getElem?_eq_getElem _;unfold ofF;rw[if_pos ⟨h0,h8⟩,this];rfl
theorem zkd.put {q:PQ}(hq:zkd q){x:zr}(hx:okO x.op):zkd (putQ q x):=by
 unfold putQ;split
 ·rename_i hc;simp only[canPut,Bool.and_eq_true,decide_eq_true_eq]at hc;obtain⟨h0,h8,_⟩:=one_ok hc.1;refine⟨by simp[hq.len],fun i y h=>?_⟩;rw[List.getElem?_set]at h;split at h
  ·rename_i e;split at h
   ·simp at h;subst h;exact⟨by omega,hc.1,hx⟩
   ·cases h
  ·exact hq.at_ i y h
 ·exact hq
theorem zkd.done {q:PQ}(hq:zkd q){c t:Int}:zkd (doneQ q c t):=by
 unfold doneQ;split
 ·refine⟨by simp[hq.len],fun i y h=>?_⟩;rw[List.getElem?_set]at h;split at h
  ·split at h
   ·simp at h
   ·cases h
  ·exact hq.at_ i y h
 ·exact hq
theorem zrD {q:PQ}{x:zr}(h:x∈zfE q):∃i:Nat,q[i]? = some (some x):=by
 simp only[zfE,List.mem_filterMap,id_eq,exists_eq_right]at h;exact List.mem_iff_getElem?.1 h
end Go.AW

/- Contracts: a pool: made, asked, put into, done. -/
set_option maxRecDepth 100000
namespace Go.Proofs.YtdgcepphjnoalaaGreat
open Go.AW
variable {σ:List AObj} {K:KT}
theorem c_rqrKey {c:Int}(hK:K (.d (.int .i64 (zvg c))) σ):zP zow [.d (.int .i64 c)] σ K:=c_rKey hK
theorem c_rqrSeal {id id2:Nat}{L:List (List UInt8)}{G:List zI}{x:zr}(hT:σ[id]? = some (rtO L))(hG:σ[id2]? = some (rlO G))(h1:id≠id2)(hL:zmI L)(hGl:G.length<=1073741824)
  (hx:zmW x.op<=20971520)
  (hK:K (.tup [zir (zfB L x),.d (.int .i64 (zkn L x))]) ((σ.set id (rtO (zok L x))).set id2 (rlO (zpQ L G x)))):zP zpB [.box id 0,.box id2 0,reqA x] σ K:=by
 refine acE3 e_r08_Seal fun hl=>?_;have hsz:=sizes hx;simp only[zzm,iN,bT,bF,eN,zl1,reqA];refine zG ?_;refine zyS (x:=x) hx ?_;by_cases hc:zT x=0
 ·have hb:(zT x != 0)=false:=by simpa using hc
  have hrl:=zpu (x:=x) (by omega) hc;refine zm hb ?_;refine c_rqrKey ?_;rw[show zbV x=znC x from if_pos hc];refine zG ?_;refine c_rtSum (zi hT) (by omega) hL.len ?_;rw[zdk hT];simp only[zok,zpQ,hc,ne_eq,not_true_eq_false,if_false]at hK;have e1:zkn L x=zgW (zvg x.client) (zhX L (znC x)):=by rw[zkn,if_neg (by simpa using hc)]
  rw[e1]at hK;have hl1:zhp σ.length (σ.set id (rtO (zfZ L (znC x)))):=hl.setO (rtO_low _ _);have hs1:(σ.set id (rtO (zfZ L (znC x)))).length=σ.length:=by simp
  have hG1:(σ.set id (rtO (zfZ L (znC x))))[id2]? = some (rlO G):=by rw[List.getElem?_set_ne h1];exact hG
  obtain⟨S1,hS1⟩:∃S1,σ.set id (rtO (zfZ L (znC x)))=S1:=⟨_,rfl⟩;rw[hS1]at hK hG1 hs1 hl1 ⊢;have r1:σ.length=S1.length:=hs1.symm;refine zm r1 ?_;refine c_rgSign (zi hG1) hGl ?_;rw[zdk hG1];obtain⟨N,hN⟩:∃N,zgW (zvg x.client) (zhX L (znC x))=N:=⟨_,rfl⟩;have hl2:zhp σ.length (S1.set id2 (rlO (zhs G (zvg x.client) (zhX L (znC x))))):=hl1.setO (rlO_low _ _);have hs2:(S1.set id2 (rlO (zhs G (zvg x.client) (zhX L (znC x))))).length=S1.length:=by simp
  obtain⟨S2,hS2⟩:∃S2,S1.set id2 (rlO (zhs G (zvg x.client) (zhX L (znC x))))=S2:=⟨_,rfl⟩;rw[hS2]at hK hs2 hl2 ⊢;have r2:σ.length=S2.length:=by rw[r1];exact hs2.symm
  have r3:S1.length=S2.length:=hs2.symm;rw[r2]at hl2;rw[hN]at hK ⊢;simp only[zuv];by_cases hN0:N=0
  ·have hq:(N != 0)=false:=by simpa using hN0
   have e2:zfB L x=⟨x.client,x.time,x.op,zvg x.client,zhX L (znC x)⟩:=by rw[zfB,if_pos (by rw[e1,hN,hN0])]
   have e3:signR (zvg x.client) (zhX L (znC x))=⟨zvg x.client,zhX L (znC x)⟩:=by rw[signR,if_pos (by rw[hN,hN0])]
   rw[e2]at hK;rw[e3];refine zm (zd hq (zd r2 r3)) ?_;rw[hN0]at hK;refine zfc rfl ?_ hl2 ?_
   ·simp[zhe,dmT,dm,dm1,zcm,zbu,zfv]
   ·exact hK
  ·have hq:(N != 0)=true:=by simpa using hN0
   have e2:zfB L x=noSg:=by rw[zfB,if_neg (by rw[e1,hN];exact hN0)]
   rw[e2]at hK;rw[show signR (zvg x.client) (zhX L (znC x))=⟨0,0⟩from by rw[signR,if_neg (by rw[hN];exact hN0)]];refine zm (zd hq (zd r2 r3)) ?_;refine zfc rfl ?_ hl2 ?_
   ·simp[zhe,dmT,dm,dm1,zcm,zbu,zfv]
   ·exact hK
 ·have hb:(zT x != 0)=true:=by simpa using hc
  have e1:zkn L x=zT x:=if_pos hc;have e2:zfB L x=noSg:=by rw[zfB,if_neg (by rw[e1];exact hc)]
  rw[e1,e2,zok,zpQ,if_pos hc,if_pos hc,zbR hT,zbR hG]at hK;refine zm hb ?_;refine zu hl ?_;exact hK
variable {σ:List AObj} {K:KT}
theorem zAC {id m t:Nat}{g:List zI}(hG:zfm σ id m t g)(hg:g.length<=1073741824)
  (hK:∀g':List zI,K (.box (σ.length+1) 0) (σ++ledO σ.length g')):zP zcx [.box id 0] σ K:=by
 refine zbN zeI.is rfl (fun s=>List.range' σ.length 3) fun hl _=>zeI.goes ?_;have hbx:∀τ,(σ++τ)[id]? = _:=fun τ=>zi hG.box;have hlen:(ztW g).length=g.length:=List.length_map ..;simp only[zgy,iN,bT,bF,eN];refine zAa ?_;refine zwX hG ?_;refine zoh hbx ?_;refine zny ?_;refine zoh (zds hbx hlen) ?_;refine zn g.length (fun k vs s=>vs=[.d (.int .i64 k)]/\∃g' τ,g'.length<=k/\s=σ++(ledO σ.length g'++τ)) ⟨rfl,[],[],by simp,by simp[ztW,zxD]⟩ ?_;rintro k vs s hk ⟨rfl,g',τ,hg',rfl⟩;by_cases hlt:k<g.length
 ·have hd:decide ((k:Int)<(g.length:Int))=true:=by simp;omega
  have hx:g[k]? = some g[k]:=by simp[hlt]
  obtain⟨x,hxe⟩:∃x,g[k]=x:=⟨_,rfl⟩;rw[hxe]at hx;have hgx:(ztW g)[k]? = some [D.int .i64 x.key,D.int .i64 x.dig]:=by rw[ztW];exact zR hx
  refine zoh (zds hd (zds hgx hlen)) ?_;have hL:∀τ',zfm (σ++(ledO σ.length g'++τ')) (σ.length+1) σ.length (σ.length+2) g':=fun τ'=>ledAt_new σ g' τ';refine c_gSign (hL (τ++[.box [.d (.int .i64 x.key),.d (.int .i64 x.dig)]])) (by omega) ?_;have hP:=putLed_new σ g' (zhs g' x.key x.dig) (τ++[.box [.d (.int .i64 x.key),.d (.int .i64 x.dig)]]);rw[hP];have hw:IntKind.i64.wrap ((k:Int)+1)=((k+1:Nat):Int):=by rw[zaW (by omega) (by omega)];rfl
  refine zoh hw ?_;refine zaK.next hlt ⟨rfl,zhs g' x.key x.dig,τ++[.box [.d (.int .i64 x.key),.d (.int .i64 x.dig)]],?_,by simp[ledO]⟩;unfold zhs zzG;split
  ·split
   ·omega
   ·simp;omega
  ·omega
 ·have hd:decide ((k:Int)<(g.length:Int))=false:=by simp;omega
  refine zoh (zds hlen hd) ?_;exact zud (σ':=σ) (os:=ledO σ.length g') (τ:=τ) rfl rfl hl (low_ledO _ _) (.box _ _ (by simp)) (hK g')
variable {σ:List AObj} {K:KT}
theorem c_auPut {b:List UInt8}{l:List Int}(hb:b.length<=1000000)(hl0:l.length<=1000)(hi:∀x∈l,0<=x/\x<=9007199254740992)(hK:K (.d (.slice (bcs (b++zS l)))) σ) :
  zP zpD [.d (.slice (bcs b)),.d (.slice (zhY l))] σ K:=by
 refine zeq e_auth_put fun hl=>?_;simp only[zzx,iN,bT,bF,eN];refine zG ?_;refine zn l.length (fun k vs s=>(∃x,vs=[x,.d (.int .i64 k)]/\(x=.d (.slice (bcs (b++zS (l.take k))))∨∃t,x=.own t (bcs (b++zS (l.take k)))))/\∃T,s=σ++T) ⟨⟨_,rfl,.inl (by simp[zS])⟩,[],by simp⟩ ?_;rintro k vs s hk ⟨⟨y,rfl,hy⟩,T,rfl⟩;have hdy:dm y=.d (.slice (bcs (b++zS (l.take k)))):=by
  rcases hy with rfl|⟨t,rfl⟩<;>rfl
 by_cases hlt:k<l.length
 ·have hd:decide ((k:Int)<(l.length:Int))=true:=by simp;omega
  have hx:l[k]? = some l[k]:=by simp[hlt]
  have hxi:=hi _ (List.getElem_mem hlt);have hgx:=zR (f:=fun t=>[D.int .i64 t]) hx;obtain⟨x,hxe⟩:∃x,l[k]=x:=⟨_,rfl⟩;rw[hxe]at hx hgx hxi;have hm1:(if x>0 then x else 0)=x:=by split<;>omega
  have hm2:(if 0<x then x else 0)=x:=by split<;>omega
  have hw:IntKind.u64.wrap x=((x.toNat:Nat):Int):=by
   rw[show x=((x.toNat:Nat):Int) by omega,zdW (by omega)];rfl
  have hln:=zos (l:=l.take k) (fun y hy=>by have:=hi y (List.mem_of_mem_take hy);omega);have hlk:(l.take k).length=k:=by rw[List.length_take];omega
  have hw2:IntKind.i64.wrap ((k:Int)+1)=((k+1:Nat):Int):=by rw[zaW (by omega) (by omega)];rfl
  have hbl:(b++zS (l.take k)).length<=1073741824:=by rw[List.length_append];omega
  rcases hy with rfl|⟨t,rfl⟩
  ·refine zm (zd hd (zd hgx (zd hm1 (zd hm2 hw)))) ?_;refine zfy (by omega) hbl ?_;refine zm hw2 ?_;exact zaK.next hlt ⟨⟨_,rfl,.inr ⟨_,by rw[zpw hx]⟩⟩,_,rfl⟩
  ·refine zm (zd hd (zd hgx (zd hm1 (zd hm2 hw)))) ?_;refine zfy (by omega) hbl ?_;refine zm hw2 ?_;exact zaK.next hlt ⟨⟨_,rfl,.inr ⟨_,by rw[zpw hx]⟩⟩,_,rfl⟩
 ·have hd:decide ((k:Int)<(l.length:Int))=false:=by simp;omega
  rw[List.take_of_length_le (by omega)]at hy;rcases hy with rfl|⟨t,rfl⟩
  ·refine zm hd ?_;refine zu hl ?_;exact hK
  ·refine zm hd ?_;refine zu hl ?_;exact hK
variable {σ:List AObj} {K:KT}
theorem may_all {a b c d:Int}(h:mayV a b c d=true):∀x∈[a,b,c,d],0<=x/\x<=9007199254740992:=by
 rw[mayV_all,List.all_eq_true]at h;exact fun x hx=>zvU.1 (h x hx)
theorem zhQ {a b c d:Int}(h:mayV a b c d=true)(hK:K (.d (.slice (bcs (zvz a b c d)))) σ) :
  zP zfi [.d (.int .i64 a),.d (.int .i64 b),.d (.int .i64 c),.d (.int .i64 d)] σ K:=by
 refine acE4 zuV fun hl=>?_;simp only[znV,iN,bT,bF,eN];refine zG ?_;refine c_auPut (b:=[4]) (l:=[a,b,c,d]) (by simp) (by simp) (may_all h) ?_;refine zG ?_;refine zu hl ?_;exact hK
theorem c_auMade {id m t id2 m2 t2:Nat}{l:List (List UInt8)}{g:List zI}(hT:zgP σ id m t l)(hG:zfm σ id2 m2 t2 g)(hL:zmI l)(hg:g.length<=1073741824)
  (hK:K (.d (.bool true)) σ):zP znj [.box id 0,.box id2 0] σ K:=by
 refine zeq e_auth_made fun hl=>?_;simp only[zxx,iN,bT,bF,eN];refine zG ?_;refine zvm hT hL.nd hL.len hL.each ?_;refine zG ?_;refine zAC (hG.app _) hg fun g'=>?_;refine zG ?_;refine zu hl ?_;exact hK
theorem c_auSigned {id m t id2 m2 t2:Nat}{L:List (List UInt8)}{G:List zI}{s:zI}{key:Int}{b:List UInt8}(hT:zgP σ id m t L)(hG:zfm σ id2 m2 t2 G)
  (hK:K (.d (.bool (ziq L G s key b))) σ):zP zni [.box id 0,.box id2 0,.agg [.d (.int .i64 s.key),.d (.int .i64 s.dig)],.d (.int .i64 key),.d (.slice (bcs b))] σ K:=by
 refine acE5 zAp fun hl=>?_;have hT1:=fun τ=>hT.app τ;have hG1:=fun τ=>hG.app τ;simp only[zsF,iN,bT,bF,eN];refine zG ?_;refine c_tLook (hT1 _) ?_;have fin:∀z,ziq L G s key b=z->K (.d (.bool z)) σ:=fun z h=>h▸hK;clear hK;cases hlk:zhJ L b with
 | none=>
  refine gq28 ?_
  refine zu hl ?_
  exact fin _ (by simp[ziq,hlk])
 | some i=>
  simp only[zuy]
  cases h1:(s.key==key)
  ·refine zdV h1 ?_
   refine zu hl ?_
   exact fin _ (by simp at h1;simp[ziq,hlk,h1])
  ·cases h2:(s.dig==((i+1:Nat):Int))
   ·refine zdV (zd h1 h2) ?_
    refine zu hl ?_
    exact fin _ (by simp at h1 h2;simp[ziq,hlk,h1];omega)
   ·refine zdV (zd h1 h2) ?_
    refine c_gSigned (s:=s) (hG1 _) ?_
    refine zG ?_
    refine zu hl ?_
    exact fin _ (by simp at h1 h2;simp[ziq,hlk,h1,h2])
abbrev uns7 (m:zbC) (c:zbj):zbC:={ m with changes:=[{ c with key:=0,dig:=1 }] }
theorem some7 {m:zbC}{c:zbj}(hk:m.kind=7)(hc:m.changes=[c]):zbr m=uns7 m c:=by simp[zbr,hk,hc]
theorem uns7_small {m:zbC}{c:zbj}(h:zaI m)(hc:m.changes=[c]):zaI (uns7 m c):=by
 obtain⟨h1,h2,h3,h4,h5,h6,h7,h8,h9,h10⟩:=h;obtain⟨⟨a1,a2,a3⟩,⟨b1,b2,b3⟩⟩:=h5 c (by rw[hc];simp);exact⟨h1,h2,h3,by simp,by intro x hx;simp at hx;subst hx;exact⟨⟨a1,a2,a3⟩,⟨b1,b2,b3⟩⟩,h6,h7,h8,h9,h10⟩
abbrev zvA (m:zbC):zbC:={ m with key:=0,sdig:=1 }
theorem uns8_small {m:zbC}(h:zaI m):zaI (zvA m):=by
 obtain⟨h1,h2,h3,h4,h5,h6,h7,h8,h9,h10⟩:=h;exact⟨h1,h2,h3,h4,h5,h6,h7,h8,h9,h10⟩
theorem bcs1 (l:List UInt8):∀e∈bcs l,e.length=1:=by
 intro e he;simp only[bcs,List.mem_map]at he;obtain⟨x,_,rfl⟩:=he;rfl
variable {σ:List AObj} {K:KT}
theorem res_eq {e o:Int}(he:0<=e)(ho:0<=o):resB e o=zbv e.toNat++zbv o.toNat:=by
 rw[resB,Int.max_eq_right he,Int.max_eq_right ho]
theorem unsG7 {m:zbC}(h:m.kind=7∨m.kind=8):unsB m=znW m:=by
 cases hc:m.changes<;>rcases h with h|h<;>simp[unsB,znW,zft,h,hc]
theorem zwO {id:Nat}{b:List UInt8}{m:zbC}(hσ:σ[id]? = some (wO b))(hb:b.length<=900000)(h:zbK m=0)(hK:K (.tup []) (σ.set id (wO (b++znW m)))) :
  zP zbp [.box id 0,zgi m] σ K:=by
 have hkk:=kinds h;by_cases h7:m.kind=7
 ·obtain⟨c,hc,he⟩:=zwM h7 h;exact c_wUns7 hσ (by omega) h7 hc (ziX he).1 (by rw[unsG7 (.inl h7)];exact hK)
 by_cases h8:m.kind=8
 ·exact c_wUns8 hσ (by omega) h8 (check8 h8 h).1 (by rw[unsG7 (.inr h8)];exact hK)
 have hall:=(zgO h).1;have gi:∀n lo hi:Int,inE n lo hi∈zC m->lo<=n/\n<=hi:=fun n lo hi hm=>zkF (hall _ (by simp[zac,hm]));refine zeq zey fun hl=>?_;have hid:=zaa hσ;have n0:=zl (n:=m.kind.toNat) (by omega);have hf:∀ {S b'},zlV σ id (zlg m) (wO b') S->b'=b++znW m->AW.Ends σ.length K (some []) S:=fun j e=>(j.as (by rw[e])).done (zqf _ _) hl hK;simp only[zcX,iN,bT,bF,eN,zl6];have j:=zlV.first hσ (zlg m);refine zG ?_;refine zgI (b:=b) (l:=[m.kind]) j hid (by omega) (by simp) (by simp;omega) fun S j=>?_;have b0:=j.b;have e0:zS [m.kind]=zbv m.kind.toNat:=by simp[zS]
 rw[e0]at j;obtain⟨b1,hb1⟩:∃b1,b++zbv m.kind.toNat=b1:=⟨_,rfl⟩;have hb1l:b1.length<=900010:=by rw[← hb1,List.length_append];omega
 have hu:b++znW m=b1++zft m:=by rw[znW,← List.append_assoc,hb1]
 rw[hb1]at j;by_cases hv:m.kind=2∨m.kind=3∨m.kind=4
 ·obtain⟨v1,v2,v3,v4⟩:=zzz h hv;have q:=zce (l:=[m.src,m.view,m.seq,m.dig]) (by simp;omega);simp only[List.length_cons,List.length_nil]at q;rcases hv with hk|hk|hk
  ·have hcb:zD m.batch=0:=hall _ (by simp[zac,zC,hk]);refine zm (zd b0 (K2 hk)) ?_;refine zgI (b:=b1) (l:=[m.src,m.view,m.seq,m.dig]) j hid (by omega) (by simp) (by simp;omega) fun S j=>?_;have b0:=j.b;refine zm (zd b0 (K2 hk)) ?_;refine zvh (b:=b1++zS [m.src,m.view,m.seq,m.dig]) j hid (by rw[List.length_append];omega) hcb fun S j=>?_;refine zG ?_;exact hf j (by rw[hu];simp[zft,hk])
  ·refine zm (zd b0 (K3 hk)) ?_;refine zgI (b:=b1) (l:=[m.src,m.view,m.seq,m.dig]) j hid (by omega) (by simp) (by simp;omega) fun S j=>?_;have b0:=j.b;refine zm (zd b0 (K3 hk)) ?_;exact hf j (by rw[hu];simp[zft,hk])
  ·refine zm (zd b0 (K4 hk)) ?_;refine zgI (b:=b1) (l:=[m.src,m.view,m.seq,m.dig]) j hid (by omega) (by simp) (by simp;omega) fun S j=>?_;have b0:=j.b;refine zm (zd b0 (K4 hk)) ?_;exact hf j (by rw[hu];simp[zft,hk])
 by_cases hk:m.kind=1
 ·have hcb:zD m.batch=0:=hall _ (by simp[zac,zC,hk]);refine zm (zd b0 (K1 hk)) ?_;refine zvh (b:=b1) j hid (by omega) hcb fun S j=>?_;refine zG ?_;exact hf j (by rw[hu];simp[zft,hk])
 by_cases hk:m.kind=5
 ·obtain⟨h1,h2,h3,h4,h5,h6,_⟩:=zyO hk h;have q:=zce (l:=[m.src,m.view,m.client,m.time]) (by simp;omega);simp only[List.length_cons,List.length_nil]at q;refine zm (zd b0 (K5 hk)) ?_;refine zgI (b:=b1) (l:=[m.src,m.view,m.client,m.time]) j hid (by omega) (by simp) (by simp;omega) fun S j=>?_;have b0:=j.b;have a0:=j.a;refine zm (zd b0 a0) ?_;refine c_PutResult (e:=m.rerr) (o:=m.roff) (b:=b1++zS [m.src,m.view,m.client,m.time]) (by rw[List.length_append];omega) (by omega) (by omega) ?_;refine zm (zd b0 a0) ?_;exact hf (j.set hid _) (by rw[hu];simp[zft,hk,res_eq h5.1 h6.1])
 by_cases hk:m.kind=6
 ·have g1:=gi m.src 0 12 (by simp[zC,hk,zjE]);have g2:=gi m.seq 1 9007199254740992 (by simp[zC,hk,zkr]);have g3:=gi m.dig 1 9007199254740992 (by simp[zC,hk,zkr]);refine zm (zd b0 (K6 hk)) ?_;refine zgI (b:=b1) (l:=[m.src,m.seq,m.dig]) j hid (by omega) (by simp) (by simp;omega) fun S j=>?_;refine zG ?_;exact hf j (by rw[hu];simp[zft,hk])
 by_cases hk:m.kind=9
 ·have g1:=gi m.src 0 12 (by simp[zC,hk,zjE]);have g2:=gi m.seq 0 9007199254740992 (by simp[zC,hk,zeU]);refine zm (zd b0 (K9 hk)) ?_;refine zgI (b:=b1) (l:=[m.src,m.seq]) j hid (by omega) (by simp) (by simp;omega) fun S j=>?_;refine zG ?_;exact hf j (by rw[hu];simp[zft,hk])
 by_cases hk:m.kind=10
 ·have g1:=gi m.src 0 12 (by simp[zC,hk,zjE]);have g2:∀e∈zbx m.cert,e=0:=fun e he=>hall e (by simp[zac,zC,hk,he]);have g3:=gi m.state.length 0 262144 (by simp[zC,hk]);have q:=zce (l:=[m.src]) (by simp;omega);have q2:=zhN g2;simp only[List.length_cons,List.length_nil]at q;refine zm (zd b0 (K10 hk)) ?_;refine zgI (b:=b1) (l:=[m.src]) j hid (by omega) (by simp) (by simp;omega) fun S j=>?_;have b0:=j.b;refine zm b0 ?_;refine jw_cert (b:=b1++zS [m.src]) (c:=m.cert) j hid (by rw[List.length_append];omega) g2 fun S j=>?_;have b0:=j.b;refine zm b0 ?_;refine jw_str (b:=b1++zS [m.src]++zrv m.cert) (x:=m.state) j hid (by simp only[List.length_append];omega) (by omega) fun S j=>?_;refine zG ?_;exact hf j (by rw[hu];simp[zft,hk])
 by_cases hk:m.kind=11
 ·have g1:=gi m.client 0 7 (by simp[zC,hk]);have g2:=gi m.offset 0 9007199254740992 (by simp[zC,hk,zeU]);have g3:m.topic.length<=64:=by
   refine zys ?_;have:=hall (zlf m.topic) (by simp[zac,zC,hk]);unfold zlf at this;split at this
   ·assumption
   ·cases this
  have q:=zce (l:=[m.client]) (by simp;omega);have p1:=zdl (x:=m.topic) (by omega);simp only[List.length_cons,List.length_nil]at q;refine zm (zd b0 (K11 hk)) ?_;refine zgI (b:=b1) (l:=[m.client]) j hid (by omega) (by simp) (by simp;omega) fun S j=>?_;have b0:=j.b;refine zm b0 ?_;refine jw_str (b:=b1++zS [m.client]) (x:=m.topic) j hid (by rw[List.length_append];omega) (by omega) fun S j=>?_;have b0:=j.b;refine zm b0 ?_;refine zgI (b:=b1++zS [m.client]++zkq m.topic) (l:=[m.offset]) j hid (by simp only[List.length_append];omega) (by simp) (by simp;omega) fun S j=>?_;refine zG ?_;exact hf j (by rw[hu];simp[zft,hk])
 have hk:m.kind=12:=by omega
 have g1:=gi m.src 0 12 (by simp[zC,hk,zjE]);have g2:zrB m.proof:=zzO fun e he=>hall e (by simp[zac,zC,hk,he]);have q:=zce (l:=[m.src]) (by simp;omega);simp only[List.length_cons,List.length_nil]at q;refine zm (zd b0 (K12 hk)) ?_;refine zgI (b:=b1) (l:=[m.src]) j hid (by omega) (by simp) (by simp;omega) fun S j=>?_;have b0:=j.b;refine zm b0 ?_;refine c_wProof (b:=b1++zS [m.src]) (p:=m.proof) j.a (by rw[List.length_append];omega) g2 ?_;refine zG ?_;exact hf (j.set hid _) (by rw[hu];simp[zft,hk])
theorem zjD {m:zbC}(h:zfV m=0):zbK m=0/\(ztj m).length<=262144:=by
 unfold zfV at h;split at h
 ·rename_i hh;exact absurd h hh
 ·rename_i hh;split at h
  ·cases h
  ·exact⟨by simpa using hh,by omega⟩
theorem unsG_len {m:zbC}(hm:m.state.length<=1073741824)(h:zbK m=0):(znW m).length<=700000:=by
 have hkk:=kinds h;have hall:=(zgO h).1;have gi:∀n lo hi:Int,inE n lo hi∈zC m->lo<=n/\n<=hi:=fun n lo hi hm=>zkF (hall _ (by simp[zac,hm]));have n0:=zl (n:=m.kind.toNat) (by omega);have fin:(zft m).length<=600000->(znW m).length<=700000:=fun h=>by rw[znW,List.length_append];omega
 refine fin ?_;clear fin;by_cases hv:m.kind=2∨m.kind=3∨m.kind=4
 ·obtain⟨v1,v2,v3,v4⟩:=zzz h hv;have q:=zce (l:=[m.src,m.view,m.seq,m.dig]) (by simp;omega);simp only[List.length_cons,List.length_nil]at q;rcases hv with hk|hk|hk
  ·have hcb:zD m.batch=0:=hall _ (by simp[zac,zC,hk]);have:=(zdK hcb).2;simp only[zft,hk,reduceIte,Int.reduceEq,List.length_append];omega
  ·simp only[zft,hk,reduceIte,Int.reduceEq,true_or];omega
  ·simp only[zft,hk,reduceIte,Int.reduceEq,or_true];omega
 by_cases hk:m.kind=1
 ·have hcb:zD m.batch=0:=hall _ (by simp[zac,zC,hk]);have:=(zdK hcb).2;simp only[zft,hk,reduceIte];omega
 by_cases hk:m.kind=5
 ·obtain⟨h1,h2,h3,h4,h5,h6,_⟩:=zyO hk h;have q:=zce (l:=[m.src,m.view,m.client,m.time]) (by simp;omega);have n5:=zl (n:=m.rerr.toNat) (by omega);have n6:=zl (n:=m.roff.toNat) (by omega);simp only[List.length_cons,List.length_nil]at q;simp only[zft,hk,reduceIte,Int.reduceEq,or_self,List.length_append];omega
 by_cases hk:m.kind=6
 ·have g1:=gi m.src 0 12 (by simp[zC,hk,zjE]);have g2:=gi m.seq 1 9007199254740992 (by simp[zC,hk,zkr]);have g3:=gi m.dig 1 9007199254740992 (by simp[zC,hk,zkr]);have q:=zce (l:=[m.src,m.seq,m.dig]) (by simp;omega);simp only[List.length_cons,List.length_nil]at q;simp only[zft,hk,reduceIte,Int.reduceEq,or_self];omega
 by_cases hk:m.kind=7
 ·obtain⟨c,hc,he⟩:=zwM hk h;have:=zsu (ziX he).1;simp only[zft,hk,reduceIte,Int.reduceEq,or_self,hc];omega
 by_cases hk:m.kind=8
 ·have:=newvB_len (check8 hk h).1;simp only[zft,hk,reduceIte,Int.reduceEq,or_self];omega
 by_cases hk:m.kind=9
 ·have g1:=gi m.src 0 12 (by simp[zC,hk,zjE]);have g2:=gi m.seq 0 9007199254740992 (by simp[zC,hk,zeU]);have q:=zce (l:=[m.src,m.seq]) (by simp;omega);simp only[List.length_cons,List.length_nil]at q;simp only[zft,hk,reduceIte,Int.reduceEq,or_self];omega
 by_cases hk:m.kind=10
 ·have g1:=gi m.src 0 12 (by simp[zC,hk,zjE]);have g2:∀e∈zbx m.cert,e=0:=fun e he=>hall e (by simp[zac,zC,hk,he]);have g3:=gi m.state.length 0 262144 (by simp[zC,hk]);have q:=zce (l:=[m.src]) (by simp;omega);have q2:=zhN g2;have q3:=zdl (x:=m.state) (by omega);simp only[List.length_cons,List.length_nil]at q;simp only[zft,hk,reduceIte,Int.reduceEq,or_self,List.length_append];omega
 by_cases hk:m.kind=11
 ·have g1:=gi m.client 0 7 (by simp[zC,hk]);have g2:=gi m.offset 0 9007199254740992 (by simp[zC,hk,zeU]);have g3:m.topic.length<=64:=by
   refine zys ?_;have:=hall (zlf m.topic) (by simp[zac,zC,hk]);unfold zlf at this;split at this
   ·assumption
   ·cases this
  have q:=zce (l:=[m.client]) (by simp;omega);have q2:=zce (l:=[m.offset]) (by simp;omega);have p1:=zdl (x:=m.topic) (by omega);simp only[List.length_cons,List.length_nil]at q q2;simp only[zft,hk,reduceIte,Int.reduceEq,or_self,List.length_append];omega
 have hk:m.kind=12:=by omega
 have g1:=gi m.src 0 12 (by simp[zC,hk,zjE]);have g2:zrB m.proof:=zzO fun e he=>hall e (by simp[zac,zC,hk,he]);have q:=zce (l:=[m.src]) (by simp;omega);have q2:=proofB_len g2;simp only[List.length_cons,List.length_nil]at q;simp only[zft,hk,reduceIte,Int.reduceEq,or_self,List.length_append];omega
variable {σ:List AObj} {K:KT}
theorem zsp {m:zbC}(hm:zaI m)(hK:∀b:List UInt8,K (.tup [.d (.slice (bcs b)),.d (.int .i64 (zfV m))]) σ) :
  zP zkA [zgi m] σ K:=by
 refine zeA zwF fun hl=>?_;have fin:∀b z,zfV m=z->K (.tup [.d (.slice (bcs b)),.d (.int .i64 z)]) σ:=fun b z h=>h▸hK b;clear hK;simp only[zpk,iN,bT,bF,eN];refine zG ?_;refine c_mCheckG (m:=m) hm ?_;cases h1:(zbK m != 0);rotate_left
 ·refine zm h1 ?_;refine zu hl ?_;exact fin [] _ (by simp at h1;simp[zfV,h1])
 have h1':zbK m=0:=by simpa using h1
 have hul:=unsG_len hm.state h1';have ende:∀u,ztj m=u->zfV m=if u.length>262144 then 3 else 0:=fun u hu=>by simp[zfV,h1',hu]
 refine zm h1 ?_;refine ACall.pre (.dataB (σ.length+1) 0 [.exact []] (.exact []) [] (by simp) rfl rfl (.refl _ _)) ?_;have hW:((σ++[zlg m,.box [.exact []]]).set (σ.length+1) (.box (([AV.exact []]:List AV).set 0 (.d (.slice [])))))=σ++[zlg m,wO []]:=by rw[zY];rfl
 rw[hW];refine zwO (b:=[]) (m:=m) (by rw[zA];rfl) (by simp) h1' ?_;rw[zY];by_cases h7:m.kind=7
 ·obtain⟨c,hc,he⟩:=zwM h7 h1';have hgx:(zap m.changes)[0]? = some (zaj c):=by rw[hc];rfl
  have hgl:(zap m.changes).length=1:=by rw[hc];rfl
  refine zdV (zd (K7 h7) (zd hgx hgl)) ?_;refine zAs (b:=znW m) (by rw[zA];rfl) (by omega) (ziX he).2 ?_;rw[zY];refine zG ?_;obtain⟨u,hu⟩:∃u,znW m++zgt c.key c.dig=u:=⟨_,rfl⟩;rw[hu];have hS:(σ++List.set [zlg m,wO (znW m)] 1 (wO u))[σ.length+1]? = some (wO u):=by rw[zA];rfl
  refine zAt (b:=u) hS ?_;refine zG ?_;refine zu hl ?_;exact fin _ _ (ende u (by rw[← hu];simp[ztj,ownS,h7,hc]))
 by_cases ho:zeT m.kind=true
 ·have hs:=own_ok h1' ho;refine zm (show(m.kind==7)=false by simpa using h7) ?_;refine zaP ?_;refine zm ho ?_;refine zAs (b:=znW m) (by rw[zA];rfl) (by omega) hs ?_;rw[zY];refine zG ?_;obtain⟨u,hu⟩:∃u,znW m++zgt m.key m.sdig=u:=⟨_,rfl⟩;rw[hu];have hS:(σ++List.set [zlg m,wO (znW m)] 1 (wO u))[σ.length+1]? = some (wO u):=by rw[zA];rfl
  refine zAt (b:=u) hS ?_;refine zG ?_;refine zu hl ?_;exact fin _ _ (ende u (by rw[← hu];simp[ztj,ownS,h7,ho]))
 ·have ho':zeT m.kind=false:=by simpa using ho
  refine zm (show(m.kind==7)=false by simpa using h7) ?_;refine zaP ?_;refine zm ho' ?_;refine zAt (b:=znW m) (by rw[zA];rfl) ?_;refine zG ?_;refine zu hl ?_;exact fin _ _ (ende _ (by simp[ztj,h7,ho]))
theorem zyg {m:zbC}(h:zaI m):zaI (zbr m):=by
 unfold zbr;split
 ·split
  ·rename_i c hc;exact uns7_small h hc
  ·exact h
 ·split
  ·exact uns8_small h
  ·exact h
theorem c_mUnsignedG {m:zbC}(hm:zaI m)
  (hK:K (.tup [.d (.slice (bcs (if zfV (zbr m)=0 then znW (zbr m)else []))),.d (.int .i64 (zfV (zbr m)))]) σ):zP zhE [zgi m] σ K:=by
 refine zeA zsj fun hl=>?_;have hs:=zyg hm;have hgl:(zap m.changes).length=m.changes.length:=List.length_map ..;have fin:∀b z,(if zfV (zbr m)=0 then znW (zbr m)else [])=b->zfV (zbr m)=z->K (.tup [.d (.slice (bcs b)),.d (.int .i64 z)]) σ:=fun b z h h'=>h▸h'▸hK;clear hK;obtain⟨M,hM⟩:∃M,zbr m=M:=⟨_,rfl⟩;rw[hM]at fin hs;simp only[zlR,iN,bT,bF,eN,zl6];by_cases h7:m.kind=7
 ·by_cases h1:m.changes.length=1
  ·obtain⟨c,hc⟩:=List.length_eq_one_iff.1 h1;have hgx:(zap m.changes)[0]? = some (zaj c):=by rw[hc];rfl
   rw[some7 h7 hc]at hM;refine zdV (zd (K7 h7) (zd hgx (zd hgl h1))) ?_;refine c_mSome ?_;refine zdV (zd hgx hgl) ?_;subst hM;refine zsp (m:=uns7 m c) hs fun b0=>?_;cases hb:(zfV (uns7 m c) != 0)
   ·have hb':zfV (uns7 m c)=0:=by simpa using hb
    refine zm hb ?_;refine ACall.pre (.dataB (σ.length+2) 0 [.exact []] (.exact []) [] (by rw[zA];rfl) rfl rfl (.refl _ _)) ?_;rw[zY];refine zwO (b:=[]) (m:=uns7 m c) (by rw[zA];rfl) (by simp) (zjD hb').1 ?_;rw[zY];refine zG ?_;refine zu hl ?_;exact fin _ _ (by rw[if_pos hb']) hb'
   ·have hb':zfV (uns7 m c)≠0:=by simpa using hb
    refine zm hb ?_;refine zu hl ?_;exact fin [] _ (by rw[if_neg hb']) rfl
  ·have hb1:(((m.changes.length:Nat):Int)==1)=false:=by simp;omega
   have e:zbr m=m:=by
    unfold zbr;rw[if_pos h7];split
    ·rename_i c hc;simp[hc]at h1
    ·rfl
   rw[e]at hM;refine zm (zd (K7 h7) (zd hgl hb1)) ?_;refine zaP ?_;refine zm (show zeT m.kind=false by rw[h7];rfl) ?_;subst hM;refine zsp (m:=m) hs fun b0=>?_;cases hb:(zfV (m) != 0)
   ·have hb':zfV (m)=0:=by simpa using hb
    refine zm hb ?_;refine ACall.pre (.dataB (σ.length+1) 0 [.exact []] (.exact []) [] (by rw[zA];rfl) rfl rfl (.refl _ _)) ?_;rw[zY];refine zwO (b:=[]) (m:=m) (by rw[zA];rfl) (by simp) (zjD hb').1 ?_;rw[zY];refine zG ?_;refine zu hl ?_;exact fin _ _ (by rw[if_pos hb']) hb'
   ·have hb':zfV (m)≠0:=by simpa using hb
    refine zm hb ?_;refine zu hl ?_;exact fin [] _ (by rw[if_neg hb']) rfl
 by_cases ho:zeT m.kind=true
 ·have e:zbr m=zvA m:=by simp[zbr,h7,ho]
  rw[e]at hM;refine zm (show(m.kind==7)=false by simpa using h7) ?_;refine zaP ?_;refine zm ho ?_;refine c_mSome ?_;refine zG ?_;subst hM;refine zsp (m:=zvA m) hs fun b0=>?_;cases hb:(zfV (zvA m) != 0)
  ·have hb':zfV (zvA m)=0:=by simpa using hb
   refine zm hb ?_;refine ACall.pre (.dataB (σ.length+1) 0 [.exact []] (.exact []) [] (by rw[zA];rfl) rfl rfl (.refl _ _)) ?_;rw[zY];refine zwO (b:=[]) (m:=zvA m) (by rw[zA];rfl) (by simp) (zjD hb').1 ?_;rw[zY];refine zG ?_;refine zu hl ?_;exact fin _ _ (by rw[if_pos hb']) hb'
  ·have hb':zfV (zvA m)≠0:=by simpa using hb
   refine zm hb ?_;refine zu hl ?_;exact fin [] _ (by rw[if_neg hb']) rfl
 ·have ho':zeT m.kind=false:=by simpa using ho
  have e:zbr m=m:=by simp[zbr,h7,ho]
  rw[e]at hM;refine zm (show(m.kind==7)=false by simpa using h7) ?_;refine zaP ?_;refine zm ho' ?_;subst hM;refine zsp (m:=m) hs fun b0=>?_;cases hb:(zfV (m) != 0)
  ·have hb':zfV (m)=0:=by simpa using hb
   refine zm hb ?_;refine ACall.pre (.dataB (σ.length+1) 0 [.exact []] (.exact []) [] (by rw[zA];rfl) rfl rfl (.refl _ _)) ?_;rw[zY];refine zwO (b:=[]) (m:=m) (by rw[zA];rfl) (by simp) (zjD hb').1 ?_;rw[zY];refine zG ?_;refine zu hl ?_;exact fin _ _ (by rw[if_pos hb']) hb'
  ·have hb':zfV (m)≠0:=by simpa using hb
   refine zm hb ?_;refine zu hl ?_;exact fin [] _ (by rw[if_neg hb']) rfl
variable {σ:List AObj} {K:KT}
theorem znu {b:List UInt8}{x:Int}(hb:b.length<=1000000)(h0:0<=x)(h1:x<=9007199254740992)(hK:K (.d (.slice (bcs (b++zbv x.toNat)))) σ) :
  zP zfI [.d (.slice (bcs b)),.d (.int .i64 x)] σ K:=by
 refine zeq e_r11_put fun hl=>?_;have hm1:(if 0>x then 0 else x)=x:=by split<;>omega
 have hm2:(if x<0 then 0 else x)=x:=by split<;>omega
 have hw:IntKind.u64.wrap x=((x.toNat:Nat):Int):=by
  rw[show x=((x.toNat:Nat):Int) by omega,zdW (by omega)];rfl
 simp only[S_r11_put,iN,bT,bF,eN];refine zm (zd hm1 (zd hm2 hw)) ?_;refine zeQ (by omega) (by omega) ?_;refine zG ?_;refine zu hl ?_;exact hK
theorem zhO {a b c d:Int}(h:mayV a b c d=true)(hK:K (.d (.slice (bcs (zvz a b c d)))) σ) :
  zP zfJ [.d (.int .i64 a),.d (.int .i64 b),.d (.int .i64 c),.d (.int .i64 d)] σ K:=by
 refine acE4 zwv fun hl=>?_;simp only[mayV,Bool.and_eq_true,zvU]at h;obtain⟨⟨a0,a1⟩,⟨b0,b1⟩,⟨c0,c1⟩,⟨d0,d1⟩⟩:=h;have l1:=zl (n:=a.toNat) (by omega);have l2:=zl (n:=b.toNat) (by omega);have l3:=zl (n:=c.toNat) (by omega);simp only[zoZ,iN,bT,bF,eN];refine zG ?_;refine znu (b:=[4]) (by simp) a0 a1 ?_;obtain⟨B1,hB1⟩:∃B,[4]++zbv a.toNat=B:=⟨_,rfl⟩;have n1:B1.length<=11:=by rw[← hB1];simp;omega
 rw[hB1];refine zG ?_;refine znu (by omega) b0 b1 ?_;obtain⟨B2,hB2⟩:∃B,B1++zbv b.toNat=B:=⟨_,rfl⟩;have n2:B2.length<=21:=by rw[← hB2];simp;omega
 rw[hB2];refine zG ?_;refine znu (by omega) c0 c1 ?_;obtain⟨B3,hB3⟩:∃B,B2++zbv c.toNat=B:=⟨_,rfl⟩;have n3:B3.length<=31:=by rw[← hB3];simp;omega
 rw[hB3];refine zG ?_;refine znu (by omega) d0 d1 ?_;refine zG ?_;refine zu hl ?_;rw[show B3++zbv d.toNat=zvz a b c d by rw[← hB3,← hB2,← hB1];simp[zvz,zS]];exact hK
def zxC (L:List (List UInt8)) (key:Int) (b:List UInt8):Int:=if zhX L b=0 then 6 else zgW key (zhX L b)
def sgnS (L:List (List UInt8)) (key:Int) (b:List UInt8):zI:=if zhX L b=0 then⟨0,0⟩else signR key (zhX L b)
def zqg (L:List (List UInt8)) (G:List zI) (key:Int) (b:List UInt8):List zI:=if zhX L b=0 then G else zhs G key (zhX L b)
theorem c_raSign {id id2:Nat}{L:List (List UInt8)}{G:List zI}{key:Int}{b:List UInt8}(hT:σ[id]? = some (rtO L))(hG:σ[id2]? = some (rlO G))(h1:id≠id2)(hbl:b.length<=1073741824)(hl0:L.length<=1048576)(hg:G.length<=1073741824)
  (hK:K (.tup [zuv (sgnS L key b),.d (.int .i64 (zxC L key b))]) ((σ.set id (rtO (zfZ L b))).set id2 (rlO (zqg L G key b)))) :
  zP zsV [.box id 0,.box id2 0,.d (.int .i64 key),.d (.slice (bcs b))] σ K:=by
 refine acE4 e_r11_sign fun hl=>?_;simp only[zzh,iN,bT,bF,eN];refine zG ?_;refine c_rtSum (zi hT) hbl hl0 ?_;rw[zdk hT];have hl1:zhp σ.length (σ.set id (rtO (zfZ L b))):=hl.setO (rtO_low _ _);have hs1:(σ.set id (rtO (zfZ L b))).length=σ.length:=by simp
 have hG1:(σ.set id (rtO (zfZ L b)))[id2]? = some (rlO G):=by rw[List.getElem?_set_ne h1];exact hG
 obtain⟨S1,hS1⟩:∃S1,σ.set id (rtO (zfZ L b))=S1:=⟨_,rfl⟩;rw[hS1]at hK hG1 hs1 hl1 ⊢;have r1:σ.length=S1.length:=hs1.symm;rw[r1]at hl1;by_cases hz:zhX L b=0
 ·have hq:(zhX L b==0)=true:=by simpa using hz
  simp only[zxC,sgnS,zqg,if_pos hz,zuv]at hK;rw[zbR hG1]at hK;refine zm (zd hq r1) ?_;refine zfc rfl ?_ hl1 ?_
  ·simp[zhe,dmT,dm,dm1,zcm,zbu,zfv]
  ·exact hK
 ·have hq:(zhX L b==0)=false:=by simpa using hz
  simp only[zxC,sgnS,zqg,if_neg hz]at hK;refine zm (zd hq r1) ?_;refine c_rgSign (zi hG1) hg ?_;rw[zdk hG1];have hl2:zhp S1.length (S1.set id2 (rlO (zhs G key (zhX L b)))):=hl1.setO (rlO_low _ _);have hs2:(S1.set id2 (rlO (zhs G key (zhX L b)))).length=S1.length:=by simp
  obtain⟨S2,hS2⟩:∃S2,S1.set id2 (rlO (zhs G key (zhX L b)))=S2:=⟨_,rfl⟩;rw[hS2]at hK hs2 hl2 ⊢;have r3:S1.length=S2.length:=hs2.symm;have r2:σ.length=S2.length:=r1.trans r3;rw[r3]at hl2;simp only[zuv]at hK ⊢;refine zm (zd r2 r3) ?_;refine zfc rfl ?_ hl2 ?_
  ·simp[zhe,dmT,dm,dm1,zcm,zbu,zfv]
  ·exact hK
end Go.Proofs.YtdgcepphjnoalaaGreat

/- What a new view goes on with. No program in sight. -/
namespace Go.AW
def zhj (f:Int):Int:=if f<1∨f>4 then 120 else 0
def zgz (n f:Int):Int:=if f<1∨f>4 then 0 else n*f+1
end Go.AW

/- Certificates: whether they are valid. No program in sight. -/
namespace Go.Proofs.YtdgcepphjnoalaaGreat
open Go.AW
abbrev prepA (p:zkc):AV:=.agg [.d (.int .i64 p.view),.d (.int .i64 p.seq),.d (.int .i64 p.dig),.d (.int .i64 p.fkey),.d (.int .i64 p.fdig),.d (.slice (zat p.signs)),.d (.slice (zbz p.batch))]
variable {σ:List AObj} {K:KT}
structure TGi where
 id:Nat
 m:Nat
 t:Nat
 id2:Nat
 m2:Nat
 t2:Nat
structure TG (i:TGi) (σ:List AObj) (L:List (List UInt8)) (G:List zI):Prop where
 tab:zgP σ i.id i.m i.t L
 led:zfm σ i.id2 i.m2 i.t2 G
 n1:i.id≠i.id2
 n2:i.m≠i.m2
def zho (i:TGi) (σ:List AObj) (L:List (List UInt8)) (G:List zI):List AObj:=putLed (putTab σ i.id i.m i.t L) i.id2 i.m2 i.t2 G
theorem TG.app {i:TGi}{L:List (List UInt8)}{G:List zI}(h:TG i σ L G)(τ:List AObj):TG i (σ++τ) L G:=⟨h.tab.app τ,h.led.app τ,h.n1,h.n2⟩
theorem TG.put {i:TGi}{L:List (List UInt8)}{G:List zI}(h:TG i σ L G)(L':List (List UInt8))(G':List zI):TG i (zho i σ L' G') L' G':=
 ⟨(h.tab.put L').putLed (zfm.putTab h.tab h.led h.n1 h.n2 L') h.n1 h.n2 G',(zfm.putTab h.tab h.led h.n1 h.n2 L').put G',h.n1,h.n2⟩
theorem TG.put_app {i:TGi}{L:List (List UInt8)}{G:List zI}(h:TG i σ L G)(L':List (List UInt8))(G':List zI)(τ:List AObj):zho i (σ++τ) L' G'=zho i σ L' G'++τ:=by
 unfold zho;rw[zsR h.tab,zsS (zfm.putTab h.tab h.led h.n1 h.n2 L')]
theorem zkp (i:TGi)(σ:List AObj)(L:List (List UInt8))(G:List zI):(zho i σ L G).length=σ.length:=by simp[zho,putTab,putLed]
theorem TG.self {i:TGi}{L:List (List UInt8)}{G:List zI}(h:TG i σ L G):zho i σ L G=σ:=by
 unfold zho;rw[h.tab.self,h.led.self]
theorem TG.lows {i:TGi}{L:List (List UInt8)}{G:List zI}(h:TG i σ L G)(hl:zhp σ.length σ)(L':List (List UInt8))(G':List zI):zhp σ.length (zho i σ L' G'):=by
 have h1:=h.tab.lows hl L';have h2:=(zfm.putTab h.tab h.led h.n1 h.n2 L').lows (by rw[zpv];exact h1) G';rw[zpv]at h2;exact h2
theorem put_tab_led {i:TGi}{L L':List (List UInt8)}{G:List zI}(h:TG i σ L G):putTab σ i.id i.m i.t L'=zho i σ L' G:=by
 unfold zho;rw[(zfm.putTab h.tab h.led h.n1 h.n2 L').self]
theorem put_led_tab {i:TGi}{L:List (List UInt8)}{G G':List zI}(h:TG i σ L G):putLed σ i.id2 i.m2 i.t2 G'=zho i σ L G':=by
 unfold zho;rw[h.tab.self]
theorem TG.ne {i:TGi}{L:List (List UInt8)}{G:List zI}(h:TG i σ L G):[i.id,i.m,i.t,i.id2,i.m2,i.t2].Nodup:=by
 obtain⟨a1,a2,a3⟩:=h.tab.ne;obtain⟨b1,b2,b3⟩:=h.led.ne;obtain⟨⟨c1,c2⟩,⟨d1,d2⟩,⟨e1,e2,e3⟩⟩:=apart2 h.tab h.led h.n1 h.n2;have:=h.n1;have:=h.n2;simp;exact⟨⟨a1,a2,‹_›,c1,c2⟩,⟨a3,d1,‹_›,d2⟩,⟨e1,e2,e3⟩,⟨b1,b2⟩,b3⟩
theorem TG.other {i:TGi}{k:Nat}(hk:k≠i.id/\k≠i.m/\k≠i.t/\k≠i.id2/\k≠i.m2/\k≠i.t2)(L:List (List UInt8))(G:List zI):(zho i σ L G)[k]? = σ[k]?:=by
 obtain⟨h1,h2,h3,h4,h5,h6⟩:=hk;unfold zho putTab putLed;rw[List.getElem?_set_ne (Ne.symm h4),List.getElem?_set_ne (Ne.symm h6),List.getElem?_set_ne (Ne.symm h5),List.getElem?_set_ne (Ne.symm h2),List.getElem?_set_ne (Ne.symm h1),List.getElem?_set_ne (Ne.symm h3)]
theorem TG.put_put {i:TGi}{L:List (List UInt8)}{G:List zI}(h:TG i σ L G)(L1 L2:List (List UInt8))(G1 G2:List zI):zho i (zho i σ L1 G1) L2 G2=zho i σ L2 G2:=by
 have h1:=(h.put L1 G1).put L2 G2;have h2:=h.put L2 G2;apply List.ext_getElem?;intro k;by_cases e1:k=i.id
 ·subst e1;rw[h1.tab.box,h2.tab.box]
 by_cases e2:k=i.m
 ·subst e2;rw[h1.tab.map,h2.tab.map]
 by_cases e3:k=i.t
 ·subst e3;rw[h1.tab.tok,h2.tab.tok]
 by_cases e4:k=i.id2
 ·subst e4;rw[h1.led.box,h2.led.box]
 by_cases e5:k=i.m2
 ·subst e5;rw[h1.led.map,h2.led.map]
 by_cases e6:k=i.t2
 ·subst e6;rw[h1.led.tok,h2.led.tok]
 rw[TG.other ⟨e1,e2,e3,e4,e5,e6⟩,TG.other ⟨e1,e2,e3,e4,e5,e6⟩,TG.other ⟨e1,e2,e3,e4,e5,e6⟩]
structure LoopR where
 e:Int
 L:List (List UInt8)
 G:List zI
 out:List zhS
structure zyb where
 m:zbC
 e:Int
 L:List (List UInt8)
 G:List zI
variable {σ:List AObj} {K:KT}
theorem c_auSign {i:TGi}{L:List (List UInt8)}{G:List zI}{key:Int}{b:List UInt8}(h:TG i σ L G)(hL:zmI L)(hbl:b.length<=1073741824)(hg:G.length<=1073741824)
  (hK:K (.tup [zuv (sgnS L key b),.d (.int .i64 (zxC L key b))]) (zho i σ (zfZ L b) (zqg L G key b))) :
  zP zqZ [.box i.id 0,.box i.id2 0,.d (.int .i64 key),.d (.slice (bcs b))] σ K:=by
 refine acE4 e_auth_sign fun hl=>?_;simp only[zxw,iN,bT,bF,eN];refine zG ?_;refine c_tSum (h.tab.app _) hbl hL.len ?_;rw[zsR h.tab,put_tab_led h];have h1:=h.put (zfZ L b) G;have hl1:=h.lows hl (zfZ L b) G;have hs1:=zkp i σ (zfZ L b) G;have hpp:=h.put_put (zfZ L b) (zfZ L b) G (zqg L G key b);obtain⟨S1,hS1⟩:∃S,zho i σ (zfZ L b) G=S:=⟨_,rfl⟩;rw[hS1]at h1 hl1 hs1 hpp ⊢;have r1:σ.length=S1.length:=hs1.symm;rw[r1]at hl1;by_cases hz:zhX L b=0
 ·have hq:(zhX L b==0)=true:=by simpa using hz
  simp only[zxC,sgnS,zqg,if_pos hz,zuv,hS1]at hK;refine zm (zd hq r1) ?_;refine zfc rfl ?_ hl1 hK;simp[zhe,dmT,dm,dm1,zcm,zbu,zfv]
 ·have hq:(zhX L b==0)=false:=by simpa using hz
  rw[← hpp]at hK;simp only[zxC,sgnS,zqg,if_neg hz]at hK;refine zm (zd hq r1) ?_;refine c_gSign (h1.led.app _) hg ?_;rw[zsS h1.led,put_led_tab h1];have h2:=h1.put (zfZ L b) (zhs G key (zhX L b));have hl2:=h1.lows hl1 (zfZ L b) (zhs G key (zhX L b));have hs2:=zkp i S1 (zfZ L b) (zhs G key (zhX L b));obtain⟨S2,hS2⟩:∃S,zho i S1 (zfZ L b) (zhs G key (zhX L b))=S:=⟨_,rfl⟩;rw[hS2]at hK hs2 hl2 h2 ⊢;have r3:S1.length=S2.length:=hs2.symm;have r2:σ.length=S2.length:=r1.trans r3;rw[r3]at hl2;simp only[zuv]at hK ⊢;refine zm (zd r2 r3) ?_;refine zfc rfl ?_ hl2 hK;simp[zhe,dmT,dm,dm1,zcm,zbu,zfv]
theorem sgnG_len (L:List (List UInt8))(G:List zI)(key:Int)(b:List UInt8):(zqg L G key b).length<=G.length+1:=by
 unfold zqg zhs zzG;split
 ·omega
 ·split
  ·split
   ·omega
   ·simp
  ·omega
end Go.Proofs.YtdgcepphjnoalaaGreat

/- Contracts: the bytes of messages of any kind, and what their signatures stand over: the document's. -/
import Derived.Test.YtdgcepphjnoalaaGreatKr3
import Derived.Test.YtdgcepphjnoalaaGreatRq3
import Derived.Test.YtdgcepphjnoalaaGreatRc2
set_option linter.all false
set_option maxRecDepth 100000
namespace Go.Proofs.YtdgcepphjnoalaaGreat
open Go.AW
variable {σ:List AObj} {K:KT}
def sigK (k:Int):Bool:=decide (k=7∨zeT k=true)
theorem zsr {m:zbC}(h:zbK m=0)(hK:K (.tup [.d (.slice (bcs (znW m))),.d (.bool (sigK m.kind))]) σ) :
  zP zki [zgi m] σ K:=by
 have hkk:=kinds h;by_cases h7:m.kind=7
 ·obtain⟨c,hc,he⟩:=zwM h7 h;exact c_kBody7 h7 hc (ziX he).1 (by rw[unsG7 (.inl h7)];rw[h7]at hK;exact hK)
 by_cases h8:m.kind=8
 ·exact c_kBody8 h8 (check8 h8 h).1 (by rw[unsG7 (.inr h8)];rw[h8]at hK;exact hK)
 have hall:=(zgO h).1;have gi:∀n lo hi:Int,inE n lo hi∈zC m->lo<=n/\n<=hi:=fun n lo hi hm=>zkF (hall _ (by simp[zac,hm]));refine zeA ztt fun hl=>?_;have n0:=zl (n:=m.kind.toNat) (by omega);have hf:∀(b':List UInt8) (z:Bool),b'=znW m->sigK m.kind=z->K (dmT (zcm [.d (.slice (bcs b')),.d (.bool z)])) σ:=fun b' z e e'=>by subst e;subst e';exact hK
 clear hK;simp only[zpP,iN,bT,bF,eN];refine zG ?_;refine zeV (b:=[]) (l:=[m.kind]) (by simp) (by simp) (by simp;omega) ?_;have e0:[]++zS [m.kind]=zbv m.kind.toNat:=by simp[zS]
 rw[e0];have hu:znW m=zbv m.kind.toNat++zft m:=rfl;obtain⟨b1,hb1⟩:∃b1,zbv m.kind.toNat=b1:=⟨_,rfl⟩;rw[hb1]at hu n0 ⊢;by_cases hv:m.kind=2∨m.kind=3∨m.kind=4
 ·obtain⟨v1,v2,v3,v4⟩:=zzz h hv;have q:=zce (l:=[m.src,m.view,m.seq,m.dig]) (by simp;omega);simp only[List.length_cons,List.length_nil]at q;rcases hv with hk|hk|hk
  ·have hcb:zD m.batch=0:=hall _ (by simp[zac,zC,hk]);have hbb:zdL m.batch=zhl m.batch:=by simp[zdL,hcb]
   refine zm (K2 hk) ?_;refine zeV (b:=b1) (l:=[m.src,m.view,m.seq,m.dig]) (by omega) (by simp) (by simp;omega) ?_;refine zm (K2 hk) ?_;refine znv (b:=b1++zS [m.src,m.view,m.seq,m.dig]) (l:=m.batch) (by simp only[List.length_append];omega) (fun x hx=>Nat.le_trans ((zdK hcb).1 x hx) (by omega)) (by have:=(zkb hcb).1;omega) ?_;rw[hbb];refine zG ?_;refine zu hl ?_;exact hf _ _ (by rw[hu];simp[zft,hk]) (by rw[hk];rfl)
  ·refine zm (K3 hk) ?_;refine zeV (b:=b1) (l:=[m.src,m.view,m.seq,m.dig]) (by omega) (by simp) (by simp;omega) ?_;refine zG ?_;refine zu hl ?_;exact hf _ _ (by rw[hu];simp[zft,hk]) (by rw[hk];rfl)
  ·refine zm (K4 hk) ?_;refine zeV (b:=b1) (l:=[m.src,m.view,m.seq,m.dig]) (by omega) (by simp) (by simp;omega) ?_;refine zG ?_;refine zu hl ?_;exact hf _ _ (by rw[hu];simp[zft,hk]) (by rw[hk];rfl)
 by_cases hk:m.kind=1
 ·have hcb:zD m.batch=0:=hall _ (by simp[zac,zC,hk]);have hbb:zdL m.batch=zhl m.batch:=by simp[zdL,hcb]
  refine zm (K1 hk) ?_;refine znv (b:=b1) (l:=m.batch) (by omega) (fun x hx=>Nat.le_trans ((zdK hcb).1 x hx) (by omega)) (by have:=(zkb hcb).1;omega) ?_;rw[hbb];refine zG ?_;refine zu hl ?_;exact hf _ _ (by rw[hu];simp[zft,hk]) (by rw[hk];rfl)
 by_cases hk:m.kind=5
 ·obtain⟨h1,h2,h3,h4,h5,h6,_⟩:=zyO hk h;have q:=zce (l:=[m.src,m.view,m.client,m.time]) (by simp;omega);simp only[List.length_cons,List.length_nil]at q;refine zm (K5 hk) ?_;refine zeV (b:=b1) (l:=[m.src,m.view,m.client,m.time]) (by omega) (by simp) (by simp;omega) ?_;refine zm (K5 hk) ?_;refine c_rPutResult (e:=m.rerr) (o:=m.roff) (b:=b1++zS [m.src,m.view,m.client,m.time]) (by rw[List.length_append];omega) (by omega) (by omega) ?_;refine zG ?_;refine zu hl ?_;exact hf _ _ (by rw[hu];simp[zft,hk,res_eq h5.1 h6.1]) (by rw[hk];rfl)
 by_cases hk:m.kind=6
 ·have g1:=gi m.src 0 12 (by simp[zC,hk,zjE]);have g2:=gi m.seq 1 9007199254740992 (by simp[zC,hk,zkr]);have g3:=gi m.dig 1 9007199254740992 (by simp[zC,hk,zkr]);refine zm (K6 hk) ?_;refine zeV (b:=b1) (l:=[m.src,m.seq,m.dig]) (by omega) (by simp) (by simp;omega) ?_;refine zG ?_;refine zu hl ?_;exact hf _ _ (by rw[hu];simp[zft,hk]) (by rw[hk];rfl)
 by_cases hk:m.kind=9
 ·have g1:=gi m.src 0 12 (by simp[zC,hk,zjE]);have g2:=gi m.seq 0 9007199254740992 (by simp[zC,hk,zeU]);refine zm (K9 hk) ?_;refine zeV (b:=b1) (l:=[m.src,m.seq]) (by omega) (by simp) (by simp;omega) ?_;refine zG ?_;refine zu hl ?_;exact hf _ _ (by rw[hu];simp[zft,hk]) (by rw[hk];rfl)
 by_cases hk:m.kind=10
 ·have g1:=gi m.src 0 12 (by simp[zC,hk,zjE]);have g2:∀e∈zbx m.cert,e=0:=fun e he=>hall e (by simp[zac,zC,hk,he]);have g3:=gi m.state.length 0 262144 (by simp[zC,hk]);have q:=zce (l:=[m.src]) (by simp;omega);have q2:=zhN g2;simp only[List.length_cons,List.length_nil]at q;refine zm (K10 hk) ?_;refine zeV (b:=b1) (l:=[m.src]) (by omega) (by simp) (by simp;omega) ?_;refine zG ?_;refine ztE (b:=b1++zS [m.src]) (c:=m.cert) (by rw[List.length_append];omega) g2 ?_;refine zG ?_;refine zhd (b:=b1++(zS [m.src]++zrv m.cert)) (x:=m.state) (by omega) (by simp only[List.length_append];omega) ?_;rw[show zbv m.state.length++m.state=zkq m.state from rfl];refine zG ?_;refine zu hl ?_;exact hf _ _ (by rw[hu];simp[zft,hk]) (by rw[hk];rfl)
 by_cases hk:m.kind=11
 ·have g1:=gi m.client 0 7 (by simp[zC,hk]);have g2:=gi m.offset 0 9007199254740992 (by simp[zC,hk,zeU]);have g3:m.topic.length<=64:=by
   refine zys ?_;have:=hall (zlf m.topic) (by simp[zac,zC,hk]);unfold zlf at this;split at this
   ·assumption
   ·cases this
  have q:=zce (l:=[m.client]) (by simp;omega);have p1:=zdl (x:=m.topic) (by omega);simp only[List.length_cons,List.length_nil]at q;refine zm (K11 hk) ?_;refine zeV (b:=b1) (l:=[m.client]) (by omega) (by simp) (by simp;omega) ?_;refine zG ?_;refine zhd (b:=b1++zS [m.client]) (x:=m.topic) (by omega) (by rw[List.length_append];omega) ?_;rw[show zbv m.topic.length++m.topic=zkq m.topic from rfl];refine zG ?_;refine zeV (b:=b1++(zS [m.client]++zkq m.topic)) (l:=[m.offset]) (by simp only[List.length_append];omega) (by simp) (by simp;omega) ?_;refine zG ?_;refine zu hl ?_;exact hf _ _ (by rw[hu];simp[zft,hk]) (by rw[hk];rfl)
 have hk:m.kind=12:=by omega
 have g1:=gi m.src 0 12 (by simp[zC,hk,zjE]);have g2:zrB m.proof:=zzO fun e he=>hall e (by simp[zac,zC,hk,he]);have q:=zce (l:=[m.src]) (by simp;omega);simp only[List.length_cons,List.length_nil]at q;refine zm (K12 hk) ?_;refine zeV (b:=b1) (l:=[m.src]) (by omega) (by simp) (by simp;omega) ?_;refine zG ?_;refine c_kPutProof (b:=b1++zS [m.src]) (p:=m.proof) (by rw[List.length_append];omega) g2 ?_;refine zG ?_;refine zu hl ?_;exact hf _ _ (by rw[hu];simp[zft,hk]) (by rw[hk];rfl)
theorem zsq {m:zbC}(hm:zaI m)(hK:∀b:List UInt8,K (.tup [.d (.slice (bcs b)),.d (.int .i64 (zfV m))]) σ) :
  zP zqV [zgi m] σ K:=by
 refine zeA e_r10_Bytes fun hl=>?_;have fin:∀b z,zfV m=z->K (.tup [.d (.slice (bcs b)),.d (.int .i64 z)]) σ:=fun b z h=>h▸hK b;clear hK;simp only[zxn,iN,bT,bF,eN];refine zG ?_;refine c_kCheckG (m:=m) hm ?_;cases h1:(zbK m != 0);rotate_left
 ·refine zm h1 ?_;refine zu hl ?_;exact fin [] _ (by simp at h1;simp[zfV,h1])
 have h1':zbK m=0:=by simpa using h1
 have hul:=unsG_len hm.state h1';have fin2:∀u,ztj m=u->∀b,K (.tup [.d (.slice (bcs b)),.d (.int .i64 (if u.length>262144 then 3 else 0))]) σ:=fun u hu b=>fin b _ (by simp[zfV,h1',hu]);refine zm h1 ?_;refine zsr (m:=m) h1' ?_;by_cases h7:m.kind=7
 ·obtain⟨c,hc,he⟩:=zwM h7 h1';have hgx:(zap m.changes)[0]? = some (zaj c):=by rw[hc];rfl
  have hgl:(zap m.changes).length=1:=by rw[hc];rfl
  have hsb:zcv c.key c.dig=zgt c.key c.dig:=by simp[zcv,(ziX he).2]
  refine zdV (zd (K7 h7) (zd hgx hgl)) ?_;refine ziB (b:=znW m) (by omega) ?_;rw[hsb];refine zG ?_;obtain⟨u,hu⟩:∃u,znW m++zgt c.key c.dig=u:=⟨_,rfl⟩;rw[hu];refine zAz (b:=u) ?_;refine zG ?_;refine zu hl ?_;exact fin2 u (by rw[← hu];simp[ztj,ownS,h7,hc]) _
 have h7':(m.kind==7)=false:=by simpa using h7
 by_cases ho:zeT m.kind=true
 ·have hs:=own_ok h1' ho;have hsb:zcv m.key m.sdig=zgt m.key m.sdig:=by simp[zcv,hs]
  have hsk:sigK m.kind=true:=by simp[sigK,ho]
  refine zm (zd h7' hsk) ?_;refine ziB (b:=znW m) (by omega) ?_;rw[hsb];refine zG ?_;obtain⟨u,hu⟩:∃u,znW m++zgt m.key m.sdig=u:=⟨_,rfl⟩;rw[hu];refine zAz (b:=u) ?_;refine zG ?_;refine zu hl ?_;exact fin2 u (by rw[← hu];simp[ztj,ownS,h7,ho]) _
 ·have hsk:sigK m.kind=false:=by simp[sigK,h7,ho]
  refine zm (zd h7' hsk) ?_;refine zAz (b:=znW m) ?_;refine zG ?_;refine zu hl ?_;exact fin2 (znW m) (by simp[ztj,h7,ho]) _
variable {σ:List AObj} {K:KT}
theorem c_kUnsignedG {m:zbC}(hm:zaI m)
  (hK:K (.tup [.d (.slice (bcs (if zfV (zbr m)=0 then znW (zbr m)else []))),.d (.int .i64 (zfV (zbr m)))]) σ):zP zmc [zgi m] σ K:=by
 refine zeA zxQ fun hl=>?_;have hs:=zyg hm;have hgl:(zap m.changes).length=m.changes.length:=List.length_map ..;have fin:∀b z,(if zfV (zbr m)=0 then znW (zbr m)else [])=b->zfV (zbr m)=z->K (.tup [.d (.slice (bcs b)),.d (.int .i64 z)]) σ:=fun b z h h'=>h▸h'▸hK;clear hK;obtain⟨M,hM⟩:∃M,zbr m=M:=⟨_,rfl⟩;rw[hM]at fin hs;simp only[zqA,iN,bT,bF,eN,zl6];by_cases h7:m.kind=7
 ·by_cases h1:m.changes.length=1
  ·obtain⟨c,hc⟩:=List.length_eq_one_iff.1 h1;have hgx:(zap m.changes)[0]? = some (zaj c):=by rw[hc];rfl
   rw[some7 h7 hc]at hM;refine zdV (zd (K7 h7) (zd hgx (zd hgl h1))) ?_;subst hM;refine zsq (m:=uns7 m c) hs fun b0=>?_;cases hb:(zfV (uns7 m c) != 0)
   ·have hb':zfV (uns7 m c)=0:=by simpa using hb
    refine zm hb ?_;refine zsr (m:=uns7 m c) (zjD hb').1 ?_;refine zG ?_;refine zu hl ?_;exact fin _ _ (by rw[if_pos hb']) hb'
   ·have hb':zfV (uns7 m c)≠0:=by simpa using hb
    refine zm hb ?_;refine zu hl ?_;exact fin [] _ (by rw[if_neg hb']) rfl
  ·have hb1:(((m.changes.length:Nat):Int)==1)=false:=by simp;omega
   have e:zbr m=m:=by
    unfold zbr;rw[if_pos h7];split
    ·rename_i c hc;simp[hc]at h1
    ·rfl
   rw[e]at hM;refine zm (zd (K7 h7) (zd hgl hb1)) ?_;refine zwU ?_;refine zm (show zeT m.kind=false by rw[h7];rfl) ?_;subst hM;refine zsq (m:=m) hs fun b0=>?_;cases hb:(zfV (m) != 0)
   ·have hb':zfV (m)=0:=by simpa using hb
    refine zm hb ?_;refine zsr (m:=m) (zjD hb').1 ?_;refine zG ?_;refine zu hl ?_;exact fin _ _ (by rw[if_pos hb']) hb'
   ·have hb':zfV (m)≠0:=by simpa using hb
    refine zm hb ?_;refine zu hl ?_;exact fin [] _ (by rw[if_neg hb']) rfl
 by_cases ho:zeT m.kind=true
 ·have e:zbr m=zvA m:=by simp[zbr,h7,ho]
  rw[e]at hM;refine zm (show(m.kind==7)=false by simpa using h7) ?_;refine zwU ?_;refine zm ho ?_;subst hM;refine zsq (m:=zvA m) hs fun b0=>?_;cases hb:(zfV (zvA m) != 0)
  ·have hb':zfV (zvA m)=0:=by simpa using hb
   refine zm hb ?_;refine zsr (m:=zvA m) (zjD hb').1 ?_;refine zG ?_;refine zu hl ?_;exact fin _ _ (by rw[if_pos hb']) hb'
  ·have hb':zfV (zvA m)≠0:=by simpa using hb
   refine zm hb ?_;refine zu hl ?_;exact fin [] _ (by rw[if_neg hb']) rfl
 ·have ho':zeT m.kind=false:=by simpa using ho
  have e:zbr m=m:=by simp[zbr,h7,ho]
  rw[e]at hM;refine zm (show(m.kind==7)=false by simpa using h7) ?_;refine zwU ?_;refine zm ho' ?_;subst hM;refine zsq (m:=m) hs fun b0=>?_;cases hb:(zfV (m) != 0)
  ·have hb':zfV (m)=0:=by simpa using hb
   refine zm hb ?_;refine zsr (m:=m) (zjD hb').1 ?_;refine zG ?_;refine zu hl ?_;exact fin _ _ (by rw[if_pos hb']) hb'
  ·have hb':zfV (m)≠0:=by simpa using hb
   refine zm hb ?_;refine zu hl ?_;exact fin [] _ (by rw[if_neg hb']) rfl
theorem zui {m:zbC}(hm:zaI m)
  (hK:K (.tup [zqc m,.d (.int .i64 (zfV (zbr m)))]) σ):zP zjT [zgi m] σ K:=by
 refine zlI zqo.is rfl fun hl _=>zqo.goes ?_;simp only[zqu];refine zG ?_;refine c_kUnsignedG (m:=m) hm ?_;by_cases h1:zfV (zbr m)=0;rotate_left
 ·have h1':(zfV (zbr m) != 0)=true:=by simp[h1]
  refine zm h1' ?_;refine zu hl ?_;rw[zqc,if_neg (fun h=>h1 h.1)]at hK;exact hK
 have h1':(zfV (zbr m) != 0)=false:=by simp[h1]
 have hkk:=kinds (zjD h1).1;rw[zrL]at hkk;obtain⟨y1,y2,y3⟩:=zzW h1;have hlen:=(zjD h1).2;rw[if_pos h1];have hn:nilK m.kind=true->K (.tup [.nils,.d (.int .i64 0)]) σ:=fun hk=>by
  rw[zqc,if_neg (fun h=>by rw[hk]at h;cases h.2),h1]at hK;exact hK
 have hs:nilK m.kind=false->∀b,zdi m=b->K (.tup [.d (.slice (bcs b)),.d (.int .i64 0)]) σ:=fun hk b hb=>by
  rw[zqc,if_pos ⟨h1,hk⟩,h1,hb]at hK;exact hK
 clear hK;have ulen:(znW (zbr m)).length<=262144:=by rw[ztj,List.length_append]at hlen;omega
 by_cases hk:m.kind=2
 ·refine zm (zd h1' (K2 hk)) ?_;refine zhO (a:=m.kind) (b:=m.view) (c:=m.seq) (d:=m.dig) (y1 (by omega)) ?_;refine zG ?_;refine zu hl ?_;exact hs (by rw[hk];rfl) _ (by simp[zdi,hk])
 by_cases hk:m.kind=3
 ·refine zm (zd h1' (K3 hk)) ?_;refine zhO (a:=m.kind) (b:=m.view) (c:=m.seq) (d:=m.dig) (y1 (by omega)) ?_;refine zG ?_;refine zu hl ?_;exact hs (by rw[hk];rfl) _ (by simp[zdi,hk])
 by_cases hk:m.kind=4
 ·refine zm (zd h1' (K4 hk)) ?_;refine zhO (a:=m.kind) (b:=m.view) (c:=m.seq) (d:=m.dig) (y1 (by omega)) ?_;refine zG ?_;refine zu hl ?_;exact hs (by rw[hk];rfl) _ (by simp[zdi,hk])
 by_cases hk:m.kind=6
 ·refine zm (zd h1' (K6 hk)) ?_;refine zhO (a:=m.kind) (b:=0) (c:=m.seq) (d:=m.dig) (y2 hk) ?_;refine zG ?_;refine zu hl ?_;exact hs (by rw[hk];rfl) _ (by simp[zdi,hk])
 by_cases hk:m.kind=9
 ·refine zm (zd h1' (K9 hk)) ?_;refine zhO (a:=m.kind) (b:=0) (c:=m.seq) (d:=0) (y3 hk) ?_;refine zG ?_;refine zu hl ?_;exact hs (by rw[hk];rfl) _ (by simp[zdi,hk])
 by_cases hk:m.kind=5
 ·have hc:=zsP hk h1;have a1:=hc.view;have a2:=hc.client;have a3:=hc.time;have a4:=hc.rerr;have a5:=hc.roff;simp only[zvA]at a1 a2 a3 a4 a5;have n1:=zl (n:=m.view.toNat) (by omega);have n2:=zl (n:=m.client.toNat) (by omega);have n3:=zl (n:=m.time.toNat) (by omega);have n4:=zl (n:=m.rerr.toNat) (by omega);refine zm (zd h1' (K5 hk)) ?_;refine znu (b:=[5]) (x:=m.view) (by simp) (by omega) (by omega) ?_;obtain⟨B,hB⟩:∃B,([5]:List UInt8)++zbv m.view.toNat=B:=⟨_,rfl⟩;have hBl:B.length<=11:=by rw[← hB];simp;omega
  rw[hB];refine zG ?_;refine znu (b:=B) (x:=m.client) (by omega) (by omega) (by omega) ?_;refine zG ?_;refine znu (x:=m.time) (by first|omega|(simp;omega)) (by omega) (by omega) ?_;refine zG ?_;refine znu (x:=m.rerr) (by first|omega|(simp;omega)) (by omega) (by omega) ?_;refine zG ?_;refine znu (x:=m.roff) (by first|omega|(simp;omega)) (by omega) (by omega) ?_;refine zG ?_;refine zu hl ?_;exact hs (by rw[hk];rfl) _ (by rw[← hB];simp[zdi,hk,replyB,zS])
 by_cases hk:m.kind=7
 ·refine zm (zd h1' (K7 hk)) ?_;refine⟨bcs1 _,by simp,by omega,?_⟩;refine zu hl ?_;exact hs (by rw[hk];rfl) (6::znW (zbr m)) (by simp[zdi,hk])
 by_cases hk:m.kind=8
 ·refine zm (zd h1' (K8 hk)) ?_;refine⟨bcs1 _,by simp,by omega,?_⟩;refine zu hl ?_;exact hs (by rw[hk];rfl) (6::znW (zbr m)) (by simp[zdi,hk])
 by_cases hk:m.kind=1
 ·refine zm (zd h1' (K1 hk)) ?_;refine zu hl ?_;exact hn (by rw[hk];rfl)
 by_cases hk:m.kind=10
 ·refine zm (zd h1' (K10 hk)) ?_;refine zu hl ?_;exact hn (by rw[hk];rfl)
 by_cases hk:m.kind=11
 ·refine zm (zd h1' (K11 hk)) ?_;refine zu hl ?_;exact hn (by rw[hk];rfl)
 have hk:m.kind=12:=by omega
 refine zm (zd h1' (K12 hk)) ?_;refine zu hl ?_;exact hn (by rw[hk];rfl)
variable {σ:List AObj} {K:KT}
theorem c_mgCloneF {m:zbC}(hm:zaI m)(hK:K (zgi m) σ):zP zfO [zgi m] σ K:=by
 refine zsx zgU.is rfl 2 fun hl _=>zgU.goes (mgWalk hm fun g g2 A B _ _=>?_);have hcl:(zap m.changes).length=m.changes.length:=List.length_map ..;have hel:(zbo m.entries).length=m.entries.length:=List.length_map ..;have h8:=changes_eight m.changes;have h5:=entries_five m.entries;obtain⟨R,hR⟩:∃R,zcF (zap m.changes)=R:=⟨_,rfl⟩;obtain⟨Q,hQ⟩:∃R,zcF (zbo m.entries)=R:=⟨_,rfl⟩;rw[hR,hQ];have hr1:frz (σ++[A,B,.row g 8 R,.row g2 5 Q]) σ.length 2 (.rsl (σ.length+2) g 8 0 m.changes.length)=some (.slice (zap m.changes)):=by
  rw[← hcl,← hR];exact ztk (m:=0) (by rw[zA];rfl) (by omega) h8
 have hr2:frz (σ++[A,B,.row g 8 R,.row g2 5 Q]) σ.length 2 (.rsl (σ.length+3) g2 5 0 m.entries.length)=some (.slice (zbo m.entries)):=by
  rw[← hel,← hQ];exact ztk (m:=0) (by rw[zA];rfl) (by omega) h5
 refine zse (r:=zgi m) ?_ hl hK;simp only[zcm,frzT,frz1,List.map_cons,List.map_nil,frz_d,hr1,hr2,allO]
theorem c_mgCloneM {m:zbC}(hm:zaI m)
  (hK:∀g g2 A B,K (.agg (msgL2 m (.rsl (σ.length+2) g 8 0 m.changes.length) (.rsl (σ.length+3) g2 5 0 m.entries.length))) (σ++[A,B,.row g 8 (zcF (zap m.changes)),.row g2 5 (zcF (zbo m.entries))])) :
  zP zfO [zgi m] σ K:=by
 refine zbN zgU.is rfl (fun s=>List.range' σ.length (s.length-σ.length)) fun hl _=>zgU.goes (mgWalk hm fun g g2 A B hA hB=>?_);refine zdp (σ':=σ) (os:=[A,B,.row g 8 (zcF (zap m.changes)),.row g2 5 (zcF (zbo m.entries))]) rfl (by simp) hl ?_ ?_ (hK g g2 A B)
 ·intro x hx;simp only[List.mem_cons,List.not_mem_nil,or_false]at hx;rcases hx with rfl|rfl|rfl|rfl
  ·exact hA
  ·exact hB
  ·exact zmv _ _
  ·exact zmv _ _
 ·simp only[zcm];refine .agg _ fun c hc=>?_;simp only[List.mem_cons,List.not_mem_nil,or_false]at hc;rcases hc with rfl|rfl|rfl|rfl|rfl|rfl|rfl|rfl|rfl|rfl|rfl|rfl|rfl|rfl|rfl|rfl|rfl|rfl|rfl|rfl|rfl|rfl|rfl|rfl|rfl|rfl|rfl|rfl|rfl|rfl<;>first|exact .d _|exact .rsl _ _ _ _ _ (by simp)
def zjQ (m:zbC) (s:zI):zbC:=if m.kind=7 then(match m.changes with|c::_=>{ m with changes:=[{ c with key:=s.key,dig:=s.dig }] }|[]=>m)else withS m s
theorem c_auWithG {m:zbC}{s:zI}(hm:zaI m)(h1:m.kind=7->m.changes.length=1)(hK:K (zgi (zjQ m s)) σ):zP zkB [zgi m,.agg [.d (.int .i64 s.key),.d (.int .i64 s.dig)]] σ K:=by
 by_cases hk:m.kind=7;rotate_left
 ·rw[zjQ,if_neg hk]at hK;have h7:(m.kind==7)=false:=by simpa using hk
  refine zeq e_auth_with fun hl=>?_;simp only[zxv,iN,bT,bF,eN,zl3];refine zG ?_;refine c_mgCloneF (m:=m) hm ?_;refine zm h7 ?_;refine zu hl ?_;exact hK
 obtain⟨c,hc⟩:=List.length_eq_one_iff.1 (h1 hk);have hw:zjQ m s={ m with changes:=[{ c with key:=s.key,dig:=s.dig }] }:=by rw[zjQ,if_pos hk,hc]
 rw[hw]at hK;clear hw;refine zsx zue.is rfl 2 fun hl _=>zue.goes ?_;have hel:(zbo m.entries).length=m.entries.length:=List.length_map ..;have h5:=entries_five m.entries;have hl1:m.changes.length=1:=h1 hk;have hR:zcF (zap m.changes)=(zaj c).map .d:=by rw[hc];simp[zcF,zap]
 simp only[zuk,iN,bT,bF,eN,zl3];refine zG ?_;refine c_mgCloneM (m:=m) hm fun g g2 A B=>?_;obtain⟨Q,hQ⟩:∃R,zcF (zbo m.entries)=R:=⟨_,rfl⟩;rw[hR,hQ,hl1];refine zdV (K7 hk) ?_;obtain⟨c',hc'⟩:∃c':zbj,{ c with key:=s.key,dig:=s.dig }=c':=⟨_,rfl⟩;have hR':zcF [zaj c']=[AV.d (.int .i64 c.view),.d (.int .i64 c.src),.d (.int .i64 c.cert.seq),.d (.int .i64 c.cert.dig),.d (.slice (zat c.cert.signs)),.d (.slice (zfw c.above)),.d (.int .i64 s.key),.d (.int .i64 s.dig)]:=by rw[← hc'];rfl
 rw[hc']at hK;rw[← hR',← hel,← hQ];have hr1:∀X Y Z:AObj,frz (σ++[X,Y,Z,A,B,.row g 8 (zcF [zaj c']),.row g2 5 (zcF (zbo m.entries))]) σ.length 2 (.rsl (σ.length+5) g 8 0 1)=some (.slice [zaj c']):=fun X Y Z=>
  ztk (m:=0) (es:=[zaj c']) (by rw[zA];rfl) (by omega) (by simp[zaj])
 have hr2:∀X Y Z:AObj,frz (σ++[X,Y,Z,A,B,.row g 8 (zcF [zaj c']),.row g2 5 (zcF (zbo m.entries))]) σ.length 2 (.rsl (σ.length+6) g2 5 0 (zbo m.entries).length)=some (.slice (zbo m.entries)):=fun X Y Z=>
  ztk (m:=0) (by rw[zA];rfl) (by omega) h5
 refine zse (r:=zgi { m with changes:=[c'] }) ?_ hl hK;simp only[zcm,frzT,frz1,List.map_cons,List.map_nil,frz_d,hr1,hr2,allO];rfl
theorem gq39 {A P Q:Prop}(a:A)(h:Q)(e:A->Hd Q->P:=by intro a h;(repeat' first|simp -dsimp only[↓zlG,↓zbS,↓zee,↓zlH,↓zly,↓zlw,↓zlz,↓zlx,↓zej,↓zef,↓zek,↓zeg,↓zlA,↓zeb,↓zel,↓zeh,↓zem,↓zei,↓zlv,↓zlE,↓zea,↓zep,↓zln,↓zlm,↓zlt,iN,bT,bF,eN,↓zes,↓unC,↓zaB,↓zah,↓zai,↓zav,↓zaX,↓zag,↓zgA,↓zaw,↓zbf,↓zad,↓ze,↓zj,↓zaR,↓zc,↓zaV,↓zN,↓zbT,↓zcl,↓zf,↓zF,↓zp,↓zM,↓zaA,↓zgH,↓zhI,↓zbc,↓zby,↓zcf,↓zcA,↓zdo,↓zJ,↓zbb,↓zak,↓zO,↓zaU,zhr,zdU,zdB,unA,zgx,bnd,ziS,zaO,zL,zic,dm,dm1,zH,zaF,zjW,zjV,keepO,Q0,Q1,Q2,Q3,Q4,Q5,zba,zA,zB,zY,zab,Q6,Q7,Q8,Q9,Q10,Q11,Q12,Q13,Q14,Nat.reduceAdd,Q15,Int.reduceToNat,Q16,Q17,Q18,Q19,Q20,reduceIte,Q21,Q22,zy,rep,zaq,zhW,toD,zaC,Q23,Q24,Q25,Q26,Q27,Q28,Nat.reduceLeDiff,Q29,Nat.reduceSub,Q30,Q31,Q32,sc,Q33,Q34,Q35,Q36,Q37,Q26,Q38,Q39,zuF,zuC,zuz,zuG,zjv,zuD,zuA,zuE,zuB,zju,zjw,zuI,zuJ,Bool.not_true,Bool.not_false,List.length_map,Bool.and_false,Bool.and_self,Bool.false_and,Bool.not_false,Bool.not_true,Bool.true_and,Int.toNat_natCast,Int.toNat_zero,List.drop_zero,List.length_map,List.length_nil,List.nil_append,List.take_length,Nat.sub_zero,Nat.zero_add,Option.isSome_none,Option.isSome_some,Option.map_none,Option.map_some,zhR,zam,beq_self_eq_true,bft,bne,bne_self_eq_false,btf,bytesE,zck,zmk,zaj,zdI,zuK,zxI,zch,zuy,opA,opD,zgb,zgX,zir,zaD,zic,a]|with_reducible refine zuX ?_|fail);exact h.go):P:=e a ⟨h⟩
theorem c_raWithG {m:zbC}{s:zI}(h1:m.kind=7->m.changes.length=1)(hK:K (zgi (zjQ m s)) σ):zP zpy [zgi m,.agg [.d (.int .i64 s.key),.d (.int .i64 s.dig)]] σ K:=by
 by_cases hk:m.kind=7;rotate_left
 ·rw[zjQ,if_neg hk]at hK;have h7:(m.kind==7)=false:=by simpa using hk
  refine zeq e_r11_with fun hl=>?_;simp only[ztK,iN,bT,bF,eN,zl3];refine zzZ h7 ?_;refine zu hl ?_;exact hK
 obtain⟨c,hc⟩:=List.length_eq_one_iff.1 (h1 hk);have hw:zjQ m s={ m with changes:=[{ c with key:=s.key,dig:=s.dig }] }:=by rw[zjQ,if_pos hk,hc]
 rw[hw]at hK;clear hw;refine zsx zwp.is rfl 2 fun hl _=>zwp.goes ?_;obtain⟨c',hc'⟩:∃c':zbj,{ c with key:=s.key,dig:=s.dig }=c':=⟨_,rfl⟩;have hR':zcF [zaj c']=[AV.d (.int .i64 c.view),.d (.int .i64 c.src),.d (.int .i64 c.cert.seq),.d (.int .i64 c.cert.dig),.d (.slice (zat c.cert.signs)),.d (.slice (zfw c.above)),.d (.int .i64 s.key),.d (.int .i64 s.dig)]:=by rw[← hc'];rfl
 rw[hc']at hK;have hce:zap m.changes=[zaj c]:=by rw[hc];rfl
 simp only[ztK,iN,bT,bF,eN,zl3,zxe,zl3];refine gq39 (zd (K7 hk) hce) ?_;refine zn 1 (fun k vs S=>vs=[.d (.int .i64 k)]/\S=σ++[.box (msgL2 m (.rsl (σ.length+3) 0 8 0 1) (.d (.slice (zbo m.entries)))),.box [.d (.int .i64 s.key),.d (.int .i64 s.dig)],.box zero30,.row 0 8 (zcF [zaj (if k=0 then c else c')])]) ⟨rfl,rfl⟩ ?_;rintro k vs S hk1 ⟨rfl,rfl⟩;match k,hk1 with
 | 0,_=>
  have hR:zcF [zaj (if 0=0 then c else c')]=[AV.d (.int .i64 c.view),.d (.int .i64 c.src),.d (.int .i64 c.cert.seq),.d (.int .i64 c.cert.dig),.d (.slice (zat c.cert.signs)),.d (.slice (zfw c.above)),.d (.int .i64 c.key),.d (.int .i64 c.dig)]:=rfl
  rw[hR]
  refine zm (zd (show decide (((0:Nat):Int)<1)=true from rfl) (zd (show decide (((0:Nat):Int)<((1:Nat):Int))=true from rfl) (show decide ((0:Int)<1)=true from rfl))) ?_
  refine zaK.next (by omega) ⟨rfl,?_⟩
  rw[if_neg (by omega),hR']
 | 1,_=>
  rw[if_neg (by omega)]
  refine zm (zd (show decide (((1:Nat):Int)<1)=false from rfl) (zd (show decide (((1:Nat):Int)<((1:Nat):Int))=false from rfl) (show decide ((1:Int)<1)=false from rfl))) ?_
  have hr1:∀X Y Z:AObj,frz (σ++[X,Y,Z,.row 0 8 (zcF [zaj c'])]) σ.length 2 (.rsl (σ.length+3) 0 8 0 1)=some (.slice [zaj c']):=fun X Y Z=>
   ztk (m:=0) (es:=[zaj c']) (by rw[zA];rfl) (by omega) (by simp[zaj])
  refine zse (r:=zgi { m with changes:=[c'] }) ?_ hl hK
  simp only[zcm,frzT,frz1,List.map_cons,List.map_nil,frz_d,hr1,allO]
  rfl
variable {σ:List AObj} {K:KT}
def zgk (L:List (List UInt8)) (G:List zI) (m:zbC):Bool:=decide (zbK m=0)&&(decide (zfV (zbr m)=0)&&(nilK m.kind || ziq L G (ownS m) m.src (zdi m)))
def zeD (L:List (List UInt8)) (G:List zI) (m:zbC):zyb:=
 if zfV (zbr m)≠0 then⟨zeu,zfV (zbr m),L,G⟩
 else if nilK m.kind=true then⟨zjQ m ⟨0,0⟩,0,L,G⟩
 else if zxC L m.src (zdi m)≠0 then⟨zeu,zxC L m.src (zdi m),zfZ L (zdi m),zqg L G m.src (zdi m)⟩
 else⟨zjQ m (sgnS L m.src (zdi m)),0,zfZ L (zdi m),zqg L G m.src (zdi m)⟩
theorem zzD {m:zbC}(h:zfV (zbr m)=0)(hk:m.kind=7):m.changes.length=1:=by
 obtain⟨c,hc,_⟩:=zwM (m:=zbr m) (by rw[zrL];exact hk) (zjD h).1;unfold zbr at hc;rw[if_pos hk]at hc;split at hc
 ·rename_i c' h';rw[h'];rfl
 ·rw[hc];rfl
theorem check_one {m:zbC}(h:zbK m=0)(hk:m.kind=7):m.changes.length=1:=by
 obtain⟨c,hc,_⟩:=zwM hk h;rw[hc];rfl
theorem zwK {m:zbC}(h:zfV (zbr m)=0):(zdi m).length<=1073741824:=by
 have hlen:=(zjD h).2;rw[ztj,List.length_append]at hlen;obtain⟨y1,y2,y3⟩:=zzW h;have vl:∀a b c d:Int,mayV a b c d=true->(zvz a b c d).length<=1073741824:=fun a b c d hm=>by
  simp only[mayV,Bool.and_eq_true,zvU]at hm;have:=zce (l:=[a,b,c,d]) (by simp;omega);simp only[zvz,List.length_cons,List.length_nil]at this ⊢;omega
 unfold zdi;split
 ·exact vl _ _ _ _ (y1 (by assumption))
 ·split
  ·exact vl _ _ _ _ (y2 (by assumption))
  ·split
   ·exact vl _ _ _ _ (y3 (by assumption))
   ·split
    ·rename_i hk;have hc:=zsP hk h;have a1:=hc.view;have a2:=hc.client;have a3:=hc.time;have a4:=hc.rerr;have a5:=hc.roff;simp only[zvA]at a1 a2 a3 a4 a5;have:=zos (l:=[m.view,m.client,m.time,m.rerr,m.roff]) (by simp;omega);simp only[replyB,List.length_cons,List.length_nil]at this ⊢;omega
    ·simp only[List.length_cons];omega
theorem zpI (m:zbC):∃x u,zdi m=x::u:=by
 unfold zdi;split
 ·exact⟨_,_,rfl⟩
 ·split
  ·exact⟨_,_,rfl⟩
  ·split
   ·exact⟨_,_,rfl⟩
   ·split<;>exact⟨_,_,rfl⟩
theorem own7 {m:zbC}{c:zbj}(hk:m.kind=7)(hc:m.changes=[c]):ownS m=⟨c.key,c.dig⟩:=by rw[ownS,if_pos hk,hc]
theorem ownN {m:zbC}(hk:m.kind≠7):ownS m=⟨m.key,m.sdig⟩:=by rw[ownS,if_neg hk]
theorem c_auOwnG {m:zbC}(h1:m.kind=7->m.changes.length=1)(hK:K (.agg [.d (.int .i64 (ownS m).key),.d (.int .i64 (ownS m).dig)]) σ):zP ztc [zgi m] σ K:=by
 refine zeA e_auth_own fun hl=>?_;simp only[zzy,iN,bT,bF,eN];by_cases hk:m.kind=7
 ·obtain⟨c,hc⟩:=List.length_eq_one_iff.1 (h1 hk);have hgx:(zap m.changes)[0]? = some (zaj c):=by rw[hc];rfl
  have hgl:(zap m.changes).length=1:=by rw[hc];rfl
  rw[own7 hk hc]at hK;refine zdV (zd (K7 hk) (zd hgx hgl)) ?_;refine zu hl ?_;exact hK
 ·rw[ownN hk]at hK;refine zm (show(m.kind==7)=false by simpa using hk) ?_;refine zu hl ?_;exact hK
theorem c_raOfG {m:zbC}(h1:m.kind=7->m.changes.length=1)(hK:K (.agg [.d (.int .i64 (ownS m).key),.d (.int .i64 (ownS m).dig)]) σ):zP zzT [zgi m] σ K:=by
 refine zeA e_r11_of fun hl=>?_;simp only[S_r11_of,iN,bT,bF,eN];by_cases hk:m.kind=7
 ·obtain⟨c,hc⟩:=List.length_eq_one_iff.1 (h1 hk);have hgx:(zap m.changes)[0]? = some (zaj c):=by rw[hc];rfl
  have hgl:(zap m.changes).length=1:=by rw[hc];rfl
  rw[own7 hk hc]at hK;refine zdV (zd (K7 hk) (zd hgx (zd hgl (show decide (((1:Nat):Int)>0)=true from rfl)))) ?_;refine zu hl ?_;exact hK
 ·rw[ownN hk]at hK;refine zm (show(m.kind==7)=false by simpa using hk) ?_;refine zu hl ?_;exact hK
theorem zyV {id m t id2 m2 t2:Nat}{L:List (List UInt8)}{G:List zI}{M:zbC}(hT:zgP σ id m t L)(hG:zfm σ id2 m2 t2 G)(hL:zmI L)(hg:G.length<=1073741824)(hm:zaI M)
  (hK:K (.d (.bool (zgk L G M))) σ):zP zhg [.box id 0,.box id2 0,zgi M] σ K:=by
 refine acE3 e_auth_Valid fun hl=>?_;have fin:∀z,zgk L G M=z->K (.d (.bool z)) σ:=fun z h=>h▸hK;clear hK;have hT1:=fun τ=>hT.app τ;have hG1:=fun τ=>hG.app τ;simp only[zut,iN,bT,bF,eN];refine zG ?_;refine c_auMade (hT1 _) (hG1 _) hL hg ?_;refine zG ?_;refine c_mCheckG (m:=M) hm ?_;cases h1:(zbK M != 0);rotate_left
 ·refine zm h1 ?_;refine zu hl ?_;exact fin _ (by simp at h1;simp[zgk,h1])
 have h1':zbK M=0:=by simpa using h1
 refine zm h1 ?_;refine zuj (m:=M) hm ?_;cases h2:(zfV (zbr M)==0)
 ·refine zm h2 ?_;refine zu hl ?_;exact fin _ (by simp at h2;simp[zgk,h2])
 have h2':zfV (zbr M)=0:=by simpa using h2
 cases h3:nilK M.kind;rotate_left
 ·rw[zqc,if_neg (fun h=>by rw[h3]at h;cases h.2)];refine zm h2 ?_;refine zu hl ?_;exact fin _ (by simp[zgk,h1',h2',h3])
 rw[zqc,if_pos ⟨h2',h3⟩];obtain⟨x,u,hxu⟩:=zpI M;obtain⟨C,hC⟩:∃C,zdi M=C:=⟨_,rfl⟩;rw[hC]at hxu ⊢;have hbc:bcs C=zci x::bcs u:=by rw[hxu];rfl
 rw[hbc];refine zm h2 ?_;refine c_auOwnG (m:=M) (check_one h1') ?_;refine zG ?_;rw[← hbc];refine c_auSigned (s:=ownS M) (key:=M.src) (b:=C) (hT1 _) (hG1 _) ?_;refine zG ?_;refine zu hl ?_;refine fin _ ?_;simp[zgk,h1',h2',h3,hC]
theorem c_raValidG {id id2:Nat}{L:List (List UInt8)}{G:List zI}{M:zbC}(hT:σ[id]? = some (rtO L))(hG:σ[id2]? = some (rlO G))(hL:L.length<=1048576)(hg:G.length<=1073741824)(hm:zaI M)
  (hK:K (.d (.bool (zgk L G M))) σ):zP zqT [.box id 0,.box id2 0,zgi M] σ K:=by
 refine acE3 e_r11_Valid fun hl=>?_;have fin:∀z,zgk L G M=z->K (.d (.bool z)) σ:=fun z h=>h▸hK;clear hK;have hT1:=fun τ=>zi (τ:=τ) hT;have hG1:=fun τ=>zi (τ:=τ) hG;simp only[zxi,iN,bT,bF,eN];refine zG ?_;refine zui (m:=M) hm ?_;cases h2:(zfV (zbr M) != 0);rotate_left
 ·refine zm h2 ?_;refine zu hl ?_;exact fin _ (by simp at h2;simp[zgk,h2])
 have h2':zfV (zbr M)=0:=by simpa using h2
 refine zm h2 ?_;refine c_kCheckG (m:=M) hm ?_;cases h1:(zbK M != 0);rotate_left
 ·refine zm h1 ?_;refine zu hl ?_;exact fin _ (by simp at h1;simp[zgk,h1])
 have h1':zbK M=0:=by simpa using h1
 cases h3:nilK M.kind;rotate_left
 ·rw[zqc,if_neg (fun h=>by rw[h3]at h;cases h.2)];refine zm h1 ?_;refine zu hl ?_;exact fin _ (by simp[zgk,h1',h2',h3])
 rw[zqc,if_pos ⟨h2',h3⟩];obtain⟨x,u,hxu⟩:=zpI M;obtain⟨C,hC⟩:∃C,zdi M=C:=⟨_,rfl⟩;rw[hC]at hxu ⊢;have hbc:bcs C=zci x::bcs u:=by rw[hxu];rfl
 rw[hbc];refine zm h1 ?_;refine c_raOfG (m:=M) (check_one h1') ?_;refine zG ?_;rw[← hbc];refine c_raSigned (s:=ownS M) (key:=M.src) (b:=C) (hT1 _) (hG1 _) hL hg ?_;refine zG ?_;refine zu hl ?_;refine fin _ ?_;simp[zgk,h1',h2',h3,hC]
theorem c_auSealG {i:TGi}{L:List (List UInt8)}{G:List zI}{m:zbC}(h:TG i σ L G)(hL:zmI L)(hg:G.length<=1073741824)(hm:zaI m)
  (hK:K (.tup [zgi (zeD L G m).m,.d (.int .i64 (zeD L G m).e)]) (zho i σ (zeD L G m).L (zeD L G m).G)):zP zkC [.box i.id 0,.box i.id2 0,zgi m] σ K:=by
 refine acE3 e_auth_Seal fun hl=>?_;simp only[zxy,iN,bT,bF,eN,zl3];refine zG ?_;refine c_auMade (h.tab.app _) (h.led.app _) hL hg ?_;refine zG ?_;refine zuj (m:=m) hm ?_;by_cases h1:zfV (zbr m)=0;rotate_left
 ·have h1':(zfV (zbr m) != 0)=true:=by simpa using h1
  have e:zeD L G m=⟨zeu,zfV (zbr m),L,G⟩:=if_pos h1;rw[e]at hK;simp only[h.self,zgi,zzS]at hK;refine zm h1' ?_;refine zu hl ?_;exact hK
 have h1':(zfV (zbr m) != 0)=false:=by simpa using h1
 cases h3:nilK m.kind;rotate_left
 ·have e:zeD L G m=⟨zjQ m ⟨0,0⟩,0,L,G⟩:=by rw[zeD,if_neg (by simpa using h1),if_pos h3]
  rw[e]at hK;simp only[h.self]at hK;rw[zqc,if_neg (fun h=>by rw[h3]at h;cases h.2)];refine zm h1' ?_;refine c_auWithG (m:=m) (s:=⟨0,0⟩) hm (zzD h1) ?_;refine zG ?_;refine zu hl ?_;exact hK
 rw[zqc,if_pos ⟨h1,h3⟩];have hbl:=zwK h1;have e:zeD L G m=if zxC L m.src (zdi m)≠0 then⟨zeu,zxC L m.src (zdi m),zfZ L (zdi m),zqg L G m.src (zdi m)⟩
   else⟨zjQ m (sgnS L m.src (zdi m)),0,zfZ L (zdi m),zqg L G m.src (zdi m)⟩:=by rw[zeD,if_neg (by simpa using h1),if_neg (by rw[h3];simp)]
 obtain⟨x,u,hxu⟩:=zpI m;obtain⟨C,hC⟩:∃C,zdi m=C:=⟨_,rfl⟩;rw[hC]at hxu hbl e ⊢;rw[e]at hK;have hbc:bcs C=zci x::bcs u:=by rw[hxu];rfl
 rw[hbc];refine zm h1' ?_;rw[← hbc];refine c_auSign (h.app _) hL hbl hg ?_;rw[h.put_app];have h2:=h.put (zfZ L C) (zqg L G m.src C);have hl2:=h.lows hl (zfZ L C) (zqg L G m.src C);have hs2:=zkp i σ (zfZ L C) (zqg L G m.src C);have hpp:(if zxC L m.src C≠0 then(⟨zeu,zxC L m.src C,zfZ L C,zqg L G m.src C⟩:zyb)else⟨zjQ m (sgnS L m.src C),0,zfZ L C,zqg L G m.src C⟩).L=zfZ L C:=by split<;>rfl
 have hpg:(if zxC L m.src C≠0 then(⟨zeu,zxC L m.src C,zfZ L C,zqg L G m.src C⟩:zyb)else⟨zjQ m (sgnS L m.src C),0,zfZ L C,zqg L G m.src C⟩).G=zqg L G m.src C:=by split<;>rfl
 rw[hpp,hpg]at hK;clear hpp hpg e;obtain⟨S2,hS2⟩:∃S,zho i σ (zfZ L C) (zqg L G m.src C)=S:=⟨_,rfl⟩;rw[hS2]at hK hs2 hl2 h2 ⊢;have r2:σ.length=S2.length:=hs2.symm;rw[r2]at hl2;obtain⟨sg,hsg⟩:∃s,sgnS L m.src C=s:=⟨_,rfl⟩;obtain⟨N,hN⟩:∃s,zxC L m.src C=s:=⟨_,rfl⟩;rw[hsg,hN]at hK;rw[hsg,hN];simp only[zuv];by_cases hn:N=0
 ·have hq2:(N != 0)=false:=by simpa using hn
  rw[if_neg (by simpa using hn)]at hK;refine zm (zd hq2 r2) ?_;refine c_auWithG (m:=m) (s:=sg) hm (zzD h1) ?_;refine zm r2 ?_;refine zfc rfl ?_ hl2 hK;simp[zhe,dmT,dm,dm1,zcm,zbu,zfv]
 ·have hq2:(N != 0)=true:=by simpa using hn
  rw[if_pos hn]at hK;simp only[zgi,zzS]at hK;refine zm (zd hq2 r2) ?_;refine zfc rfl ?_ hl2 hK;simp[zhe,dmT,dm,dm1,zcm,zbu,zfv]
theorem c_raSealG {id id2:Nat}{L:List (List UInt8)}{G:List zI}{m:zbC}(hT:σ[id]? = some (rtO L))(hG:σ[id2]? = some (rlO G))(hne:id≠id2)(hL:L.length<=1048576)(hg:G.length<=1073741824)(hm:zaI m)
  (hK:K (.tup [zgi (zeD L G m).m,.d (.int .i64 (zeD L G m).e)]) ((σ.set id (rtO (zeD L G m).L)).set id2 (rlO (zeD L G m).G))):zP zpz [.box id 0,.box id2 0,zgi m] σ K:=by
 refine acE3 e_r11_Seal fun hl=>?_;simp only[zzi,iN,bT,bF,eN,zl3];refine zG ?_;refine zui (m:=m) hm ?_;by_cases h1:zfV (zbr m)=0;rotate_left
 ·have h1':(zfV (zbr m) != 0)=true:=by simpa using h1
  have e:zeD L G m=⟨zeu,zfV (zbr m),L,G⟩:=if_pos h1;rw[e]at hK;simp only[zbR hT,zbR hG,zgi,zzS]at hK;refine zm h1' ?_;refine zu hl ?_;exact hK
 have h1':(zfV (zbr m) != 0)=false:=by simpa using h1
 cases h3:nilK m.kind;rotate_left
 ·have e:zeD L G m=⟨zjQ m ⟨0,0⟩,0,L,G⟩:=by rw[zeD,if_neg (by simpa using h1),if_pos h3]
  rw[e]at hK;simp only[zbR hT,zbR hG]at hK;rw[zqc,if_neg (fun h=>by rw[h3]at h;cases h.2)];have hw:zjQ m ⟨0,0⟩=withS m ⟨0,0⟩:=by rw[zjQ,if_neg (fun hk=>by rw[hk]at h3;cases h3)]
  rw[hw]at hK;refine zm h1' ?_;refine zu hl ?_;exact hK
 rw[zqc,if_pos ⟨h1,h3⟩];have hbl:=zwK h1;have e:zeD L G m=if zxC L m.src (zdi m)≠0 then⟨zeu,zxC L m.src (zdi m),zfZ L (zdi m),zqg L G m.src (zdi m)⟩
   else⟨zjQ m (sgnS L m.src (zdi m)),0,zfZ L (zdi m),zqg L G m.src (zdi m)⟩:=by rw[zeD,if_neg (by simpa using h1),if_neg (by rw[h3];simp)]
 obtain⟨x,u,hxu⟩:=zpI m;obtain⟨C,hC⟩:∃C,zdi m=C:=⟨_,rfl⟩;rw[hC]at hxu hbl e ⊢;rw[e]at hK;have hbc:bcs C=zci x::bcs u:=by rw[hxu];rfl
 rw[hbc];refine zm h1' ?_;rw[← hbc];refine c_raSign (zi hT) (zi hG) hne hbl hL hg ?_;rw[zdk hT,zdk (by rw[List.getElem?_set_ne hne];exact hG)];have hl2:zhp σ.length ((σ.set id (rtO (zfZ L C))).set id2 (rlO (zqg L G m.src C))):=(hl.setO (rtO_low _ _)).setO (rlO_low _ _);have hs2:((σ.set id (rtO (zfZ L C))).set id2 (rlO (zqg L G m.src C))).length=σ.length:=by simp
 have hpp:(if zxC L m.src C≠0 then(⟨zeu,zxC L m.src C,zfZ L C,zqg L G m.src C⟩:zyb)else⟨zjQ m (sgnS L m.src C),0,zfZ L C,zqg L G m.src C⟩).L=zfZ L C:=by split<;>rfl
 have hpg:(if zxC L m.src C≠0 then(⟨zeu,zxC L m.src C,zfZ L C,zqg L G m.src C⟩:zyb)else⟨zjQ m (sgnS L m.src C),0,zfZ L C,zqg L G m.src C⟩).G=zqg L G m.src C:=by split<;>rfl
 rw[hpp,hpg]at hK;clear hpp hpg e;obtain⟨S2,hS2⟩:∃S,(σ.set id (rtO (zfZ L C))).set id2 (rlO (zqg L G m.src C))=S:=⟨_,rfl⟩;rw[hS2]at hK hs2 hl2 ⊢;have r2:σ.length=S2.length:=hs2.symm;rw[r2]at hl2;obtain⟨sg,hsg⟩:∃s,sgnS L m.src C=s:=⟨_,rfl⟩;obtain⟨N,hN⟩:∃s,zxC L m.src C=s:=⟨_,rfl⟩;rw[hsg,hN]at hK;rw[hsg,hN];simp only[zuv];by_cases hn:N=0
 ·have hq2:(N != 0)=false:=by simpa using hn
  rw[if_neg (by simpa using hn)]at hK;refine zm (zd hq2 r2) ?_;refine c_raWithG (m:=m) (s:=sg) (zzD h1) ?_;refine zm r2 ?_;refine zfc rfl ?_ hl2 hK;simp[zhe,dmT,dm,dm1,zcm,zbu,zfv]
 ·have hq2:(N != 0)=true:=by simpa using hn
  rw[if_pos hn]at hK;simp only[zgi,zzS]at hK;refine zm (zd hq2 r2) ?_;refine zfc rfl ?_ hl2 hK;simp[zhe,dmT,dm,dm1,zcm,zbu,zfv]
abbrev zvv:zr:=⟨0,0,⟨0,[],[],0,[]⟩,0,0⟩
section
variable {σ:List AObj} {x:AV} {K:KT}
end
end Go.Proofs.YtdgcepphjnoalaaGreat

/- An end of a call that zwg all that it made: what the caller's objects name now lies there. -/
namespace Go.AW
section
variable {P:Program} {σ:List AObj}
def zxA (K:KT) (out:Option (List AV)) (σ':List AObj):Prop:=match out with
 | some l=>∃s,zqd [] σ' [] s/\K (dmT (zcm l)) s
 | none=>False
theorem zeS {f:FuncId}{F:AF}{na:Nat}(hF:isFn P f F na){as0:List AV}(has:as0.length=na){K:KT}
  (h:zhp σ.length σ->(∀a∈as0,Low σ.length a)->awp P F.body (AtEnd fun fr' σ'=>zxA K (zuw fr' σ' F.res) σ') (zlo 0 as0) σ):ACall P f as0 σ K:=
 zoS hF has _ (fun{L w L' σ' w' fr' ts} S st S' F' hz=>by
  unfold zxA at hz;split at hz
  ·rename_i l hl;obtain⟨s,hw,hK⟩:=hz;obtain⟨L2,st2,S2,_⟩:=zmn hw S' (us:=[]) ⟨rfl,by simp⟩;exact⟨L2,s,l,dmT (zcm l),hl,st.trans st2,S2,fun v hr=>zwI (st2.rv hr),hK⟩
  ·exact hz.elim) h
theorem zli {K:KT}{l:List AV}{s:List AObj}(h:K (dmT (zcm l)) s):zxA K (some l) s:=⟨_,.refl _ _,h⟩
end
end Go.AW

/- Contracts: which messages may be, of any kind: the program's. Printed by mkga1.py. -/
import Derived.Test.YtdgcepphjnoalaaGreatSm4
import Derived.Test.YtdgcepphjnoalaaGreatSpTab
import Derived.Test.YtdgcepphjnoalaaGreatCl1
import Derived.Test.YtdgcepphjnoalaaGreatSh
import Derived.Test.YtdgcepphjnoalaaGreatOp2
import Derived.Test.YtdgcepphjnoalaaGreatRc2
set_option linter.all false
set_option maxRecDepth 100000
namespace Go.Proofs.YtdgcepphjnoalaaGreat
open Go.AW
variable {σ:List AObj} {K:KT}
theorem c_aVote {id:Nat}{P:List Int}{m:zbC}(hσ:σ[id]? = some (zfu (zax P)))(hK:K (.tup []) (σ.set id (zfu (zax (P++zet m))))):zP zeG [.box id 0,zgi m] σ K:=by
 refine zeq zpX fun hl=>?_;have hid:=zaa hσ;simp only[zjK,iN,bT,bF,eN];have j:=zjP.first hσ (zlg m);refine zG ?_;refine zlu j hid fun S j=>?_;have b:=j.b;refine zm b ?_;refine zwi j hid fun S j=>?_;have b:=j.b;refine zm b ?_;refine j_pos j hid fun S j=>?_;have b:=j.b;refine zm b ?_;refine j_pos j hid fun S j=>?_;refine zG ?_;exact(j.as (by simp[zet])).done hl hK
theorem c_aMsgG {id:Nat}{P:List Int}{m:zbC}(hσ:σ[id]? = some (zfu (zax P)))(hm:zaI m)(hK:K (.tup []) (σ.set id (zfu (zax (P++zac m))))) :
  zP zbJ [.box id 0,zgi m] σ K:=by
 by_cases h7:m.kind=7
 ·exact c_aMsg7 hσ hm h7 hK
 by_cases h8:m.kind=8
 ·exact c_aMsg8 hσ hm h8 hK
 by_cases h12:m.kind=12
 ·exact c_aMsg12 hσ hm h12 hK
 refine zeq zdq fun hl=>?_;have hid:=zaa hσ;simp only[zct,iN,bT,bF,eN,zl6];have j:=zjP.first hσ (zlg m);by_cases hk:m.kind=1
 ·have ho:zeT m.kind=false:=by rw[hk];rfl
  refine zm (K1 hk) ?_;refine j_in j hid fun S j=>?_;have b:=j.b;refine zm (zd b (K1 hk)) ?_;refine zjb (b:=m.batch) hm.batch ?_;refine zm (zd b (K1 hk)) ?_;refine zkE j hid fun S j=>?_;have b:=j.b;refine zm (zd b (K1 hk)) ?_;refine zaP ?_;refine zm (zd ho b) ?_;exact(j.as (by simp[zac,zC,hk,show zeT 1=false from rfl])).done hl hK
 by_cases hk:m.kind=2
 ·have ho:zeT m.kind=true:=by rw[hk];rfl
  refine zm (K2 hk) ?_;refine c_aVote (m:=m) j.a ?_;have j:=j.set hid (P++zet m);obtain⟨S1,hS1⟩:∃S1,(σ++[zlg m]).set id (zfu (zax (P++zet m)))=S1:=⟨_,rfl⟩;rw[hS1]at j ⊢;have b:=j.b;refine zm (zd b (K2 hk)) ?_;refine zjb (b:=m.batch) hm.batch ?_;refine zm (zd b (K2 hk)) ?_;refine zkE j hid fun S j=>?_;have b:=j.b;refine zm (zd b (K2 hk)) ?_;refine zaP ?_;refine zm (zd ho b) ?_;refine zbM ?_;refine zG ?_;refine zkE j hid fun S j=>?_;refine zG ?_;exact(j.as (by simp[zac,zC,hk,show zeT 2=true from rfl])).done hl hK
 by_cases hk:m.kind=3
 ·have ho:zeT m.kind=true:=by rw[hk];rfl
  refine zm (K3 hk) ?_;refine c_aVote (m:=m) j.a ?_;have j:=j.set hid (P++zet m);obtain⟨S1,hS1⟩:∃S1,(σ++[zlg m]).set id (zfu (zax (P++zet m)))=S1:=⟨_,rfl⟩;rw[hS1]at j ⊢;have b:=j.b;refine zm (zd b (K3 hk)) ?_;refine zaP ?_;refine zm (zd ho b) ?_;refine zbM ?_;refine zG ?_;refine zkE j hid fun S j=>?_;refine zG ?_;exact(j.as (by simp[zac,zC,hk,show zeT 3=true from rfl])).done hl hK
 by_cases hk:m.kind=4
 ·have ho:zeT m.kind=true:=by rw[hk];rfl
  refine zm (K4 hk) ?_;refine c_aVote (m:=m) j.a ?_;have j:=j.set hid (P++zet m);obtain⟨S1,hS1⟩:∃S1,(σ++[zlg m]).set id (zfu (zax (P++zet m)))=S1:=⟨_,rfl⟩;rw[hS1]at j ⊢;have b:=j.b;refine zm (zd b (K4 hk)) ?_;refine zaP ?_;refine zm (zd ho b) ?_;refine zbM ?_;refine zG ?_;refine zkE j hid fun S j=>?_;refine zG ?_;exact(j.as (by simp[zac,zC,hk,show zeT 4=true from rfl])).done hl hK
 by_cases hk:m.kind=5
 ·have ho:zeT m.kind=true:=by rw[hk];rfl
  refine zm (K5 hk) ?_;refine zlu j hid fun S j=>?_;have b:=j.b;refine zm (zd b (K5 hk)) ?_;refine zwi j hid fun S j=>?_;have b:=j.b;refine zm (zd b (K5 hk)) ?_;refine j_in j hid fun S j=>?_;have b:=j.b;refine zm (zd b (K5 hk)) ?_;refine zwi j hid fun S j=>?_;have b:=j.b;refine zm (zd b (K5 hk)) ?_;refine j_in j hid fun S j=>?_;have b:=j.b;refine zm (zd b (K5 hk)) ?_;refine zwi j hid fun S j=>?_;have b:=j.b;refine zm (zd b (K5 hk)) ?_;refine zaP ?_;refine zm (zd ho b) ?_;refine zbM ?_;refine zG ?_;refine zkE j hid fun S j=>?_;refine zG ?_;exact(j.as (by simp[zac,zC,hk,show zeT 5=true from rfl])).done hl hK
 by_cases hk:m.kind=6
 ·have ho:zeT m.kind=true:=by rw[hk];rfl
  refine zm (K6 hk) ?_;refine zlu j hid fun S j=>?_;have b:=j.b;refine zm (zd b (K6 hk)) ?_;refine j_pos j hid fun S j=>?_;have b:=j.b;refine zm (zd b (K6 hk)) ?_;refine j_pos j hid fun S j=>?_;have b:=j.b;refine zm (zd b (K6 hk)) ?_;refine zaP ?_;refine zm (zd ho b) ?_;refine zbM ?_;refine zG ?_;refine zkE j hid fun S j=>?_;refine zG ?_;exact(j.as (by simp[zac,zC,hk,show zeT 6=true from rfl])).done hl hK
 by_cases hk:m.kind=9
 ·have ho:zeT m.kind=true:=by rw[hk];rfl
  refine zm (K9 hk) ?_;refine zlu j hid fun S j=>?_;have b:=j.b;refine zm (zd b (K9 hk)) ?_;refine zwi j hid fun S j=>?_;have b:=j.b;refine zm (zd b (K9 hk)) ?_;refine zaP ?_;refine zm (zd ho b) ?_;refine zbM ?_;refine zG ?_;refine zkE j hid fun S j=>?_;refine zG ?_;exact(j.as (by simp[zac,zC,hk,show zeT 9=true from rfl])).done hl hK
 by_cases hk:m.kind=10
 ·have ho:zeT m.kind=false:=by rw[hk];rfl
  refine zm (K10 hk) ?_;refine zlu j hid fun S j=>?_;have b:=j.b;refine zm (zd b (K10 hk)) ?_;refine j_cert (c:=m.cert) j hid hm.signs fun S j=>?_;have b:=j.b;refine zm (zd b (K10 hk)) ?_;refine ztY j hid fun S j=>?_;have b:=j.b;refine zm (zd b (K10 hk)) ?_;refine zaP ?_;refine zm (zd ho b) ?_;exact(j.as (by simp[zac,zC,hk,show zeT 10=false from rfl])).done hl hK
 by_cases hk:m.kind=11
 ·have ho:zeT m.kind=false:=by rw[hk];rfl
  refine zm (K11 hk) ?_;refine j_in j hid fun S j=>?_;have b:=j.b;refine zm (zd b (K11 hk)) ?_;refine j_name j hid (by have:=hm.topic;omega) fun S j=>?_;have b:=j.b;refine zm (zd b (K11 hk)) ?_;refine zwi j hid fun S j=>?_;have b:=j.b;refine zm (zd b (K11 hk)) ?_;refine zaP ?_;refine zm (zd ho b) ?_;exact(j.as (by simp[zac,zC,hk,show zeT 11=false from rfl])).done hl hK
 have hk:¬(1<=m.kind/\m.kind<=12):=by omega
 have ho:zeT m.kind=false:=by simp only[zeT,decide_eq_false_iff_not];omega
 refine zm (K0 hk) ?_;refine zkE j hid fun S j=>?_;have b:=j.b;refine zm b ?_;refine zaP ?_;refine zm (zd ho b) ?_;exact(j.as (by simp[zac,zC,*])).done hl hK
theorem c_bareG {m:zbC}(hK:K (zgi (zfD m)) σ):zP zmf [zgi m] σ K:=by
 refine zeA zxY fun hl=>?_;simp only[zqJ,iN,bT,bF,eN,zl3];by_cases hk:m.kind=1
 ·have ho:zeT m.kind=false:=by rw[hk];rfl
  refine zm (K1 hk) ?_;refine zaP ?_;refine zm ho ?_;refine zu hl ?_;simp only[zfD,hk]at hK;rw[hk];exact hK
 by_cases hk:m.kind=2
 ·have ho:zeT m.kind=true:=by rw[hk];rfl
  refine zm (K2 hk) ?_;refine zaP ?_;refine zm ho ?_;refine zu hl ?_;simp only[zfD,hk]at hK;rw[hk];exact hK
 by_cases hk:m.kind=3
 ·have ho:zeT m.kind=true:=by rw[hk];rfl
  refine zm (K3 hk) ?_;refine zaP ?_;refine zm ho ?_;refine zu hl ?_;simp only[zfD,hk]at hK;rw[hk];exact hK
 by_cases hk:m.kind=4
 ·have ho:zeT m.kind=true:=by rw[hk];rfl
  refine zm (K4 hk) ?_;refine zaP ?_;refine zm ho ?_;refine zu hl ?_;simp only[zfD,hk]at hK;rw[hk];exact hK
 by_cases hk:m.kind=5
 ·have ho:zeT m.kind=true:=by rw[hk];rfl
  refine zm (K5 hk) ?_;refine zaP ?_;refine zm ho ?_;refine zu hl ?_;simp only[zfD,hk]at hK;rw[hk];exact hK
 by_cases hk:m.kind=6
 ·have ho:zeT m.kind=true:=by rw[hk];rfl
  refine zm (K6 hk) ?_;refine zaP ?_;refine zm ho ?_;refine zu hl ?_;simp only[zfD,hk]at hK;rw[hk];exact hK
 by_cases hk:m.kind=7
 ·have ho:zeT m.kind=false:=by rw[hk];rfl
  refine zm (K7 hk) ?_;refine zaP ?_;refine zm ho ?_;refine zu hl ?_;simp only[zfD,hk]at hK;rw[hk];exact hK
 by_cases hk:m.kind=8
 ·have ho:zeT m.kind=true:=by rw[hk];rfl
  refine zm (K8 hk) ?_;refine zaP ?_;refine zm ho ?_;refine zu hl ?_;simp only[zfD,hk]at hK;rw[hk];exact hK
 by_cases hk:m.kind=9
 ·have ho:zeT m.kind=true:=by rw[hk];rfl
  refine zm (K9 hk) ?_;refine zaP ?_;refine zm ho ?_;refine zu hl ?_;simp only[zfD,hk]at hK;rw[hk];exact hK
 by_cases hk:m.kind=10
 ·have ho:zeT m.kind=false:=by rw[hk];rfl
  refine zm (K10 hk) ?_;refine zaP ?_;refine zm ho ?_;refine zu hl ?_;simp only[zfD,hk]at hK;rw[hk];exact hK
 by_cases hk:m.kind=11
 ·have ho:zeT m.kind=false:=by rw[hk];rfl
  refine zm (K11 hk) ?_;refine zaP ?_;refine zm ho ?_;refine zu hl ?_;simp only[zfD,hk]at hK;rw[hk];exact hK
 by_cases hk:m.kind=12
 ·have ho:zeT m.kind=false:=by rw[hk];rfl
  refine zm (K12 hk) ?_;refine zaP ?_;refine zm ho ?_;refine zu hl ?_;simp only[zfD,hk]at hK;rw[hk];exact hK
 have hk:¬(1<=m.kind/\m.kind<=12):=by omega
 have ho:zeT m.kind=false:=by simp only[zeT,decide_eq_false_iff_not];omega
 refine zm (K0 hk) ?_;refine zaP ?_;refine zm ho ?_;refine zu hl ?_;have e:zfD m={ zeu with kind:=m.kind,src:=m.src }:=by simp[zfD,*]
 rw[e]at hK;exact hK
theorem c_mCheckG {m:zbC}(hm:zaI m)(hK:K (.d (.int .i64 (zbK m))) σ):zP zhF [zgi m] σ K:=by
 refine zeA zwE fun hl=>?_;have fin:∀z,zbK m=z->K (.d (.int .i64 z)) σ:=fun z h=>h▸hK;clear hK;simp only[zpj,iN,bT,bF,eN];refine zG ?_;refine c_aMsgG (P:=[]) (m:=m) (by rw[List.getElem?_append_right (by omega)];simp[zfu,zax]) hm ?_;cases h1:(zax (zac m)==0)
 ·refine zjB h1 ?_;refine zu hl ?_;exact fin _ (by simp at h1;simp[zbK,h1])
 refine zjB h1 ?_;refine c_bareG (m:=m) ?_;refine zG ?_;refine c_mSame (a:=m) (b:=zfD m) hm (zza hm) ?_;cases h2:decide (m=zfD m)
 ·refine zG ?_;refine zu hl ?_;exact fin _ (by simp at h1 h2;simp[zbK,h1,h2])
 ·refine zm h1 ?_;refine zu hl ?_;exact fin _ (by simp at h1 h2;simp[zbK,h1,← h2])
end Go.Proofs.YtdgcepphjnoalaaGreat

/- Readers: a reader's bytes and its error; what is taken from them. 'cut': an error drops the bytes. No program in sight. -/
namespace Go.AW
structure Rd where
 b:List UInt8
 e:Int
def Rd.fail (cut:Bool) (s:Rd) (x:Int):Rd:=if s.e=0/\x≠0 then⟨if cut then []else s.b,x⟩else s
def zsI (cut:Bool) (most:Nat) (s:Rd):Nat × Rd:=
 if s.e=0 then(match numR most 0 0 s.b with|.ok (n,r)=>(n,⟨r,0⟩)|.error x=>(0,s.fail cut x))else(0,s)
def takeP (cut:Bool) (n:Nat) (s:Rd):List UInt8 × Rd:=
 if s.e=0 then(if n>s.b.length then([],s.fail cut 10)else(s.b.take n,⟨s.b.drop n,0⟩))else([],s)
def zmH (cut:Bool) (most:Nat) (s:Rd):List UInt8 × Rd:=takeP cut (zsI cut most s).1 (zsI cut most s).2
def zzN (cut:Bool):Nat->Rd->List (List UInt8) × Rd
 | 0,s=>([],s)
 | k+1,s=>((zzN cut k s).1++[(zmH cut 64 (zzN cut k s).2).1],(zmH cut 64 (zzN cut k s).2).2)
def zre (cut:Bool) (k:Nat) (s:Rd):TOp × Rd:=
 let t:=zmH cut 64 s
 if k=0 then(noOp,s)
 else if k=2 then(let n:=zsI cut 4 t.2;let r:=zzN cut n.1 n.2;(⟨k,t.1,[],0,r.1⟩,r.2))
 else if k=3 then(let g:=zmH cut 64 t.2;let f:=zsI cut 9007199254740992 g.2;(⟨k,t.1,g.1,f.1,[]⟩,f.2))
 else if k=4 then(let f:=zsI cut 9007199254740992 t.2;(⟨k,t.1,[],f.1,[]⟩,f.2))
 else(⟨k,t.1,[],0,[]⟩,t.2)
def zsO (cut:Bool) (name:List UInt8->Bool) (s:Rd):TOp × Rd:=
 let k:=zsI cut 4 s
 let x:=zre cut k.1 k.2
 let z:=x.2.fail cut (zaN name x.1)
 (if z.e=0 then x.1 else noOp,z)
def Rd.like (s t:Rd):Prop:=s.e=t.e/\(s.e=0->s.b=t.b)
theorem Rd.like.fail {s t:Rd}{c d:Bool}{x:Int}(h:s.like t):(s.fail c x).like (t.fail d x):=by
 obtain⟨h1,h2⟩:=h;unfold Rd.fail Rd.like;grind
theorem Rd.like.num {s t:Rd}{c d:Bool}{m:Nat}(h:s.like t):(zsI c m s).1=(zsI d m t).1/\(zsI c m s).2.like (zsI d m t).2:=by
 have hf:∀x,(s.fail c x).like (t.fail d x):=fun x=>h.fail;obtain⟨h1,h2⟩:=h;unfold zsI;by_cases h0:s.e=0
 ·rw[if_pos h0,if_pos (show t.e=0 from h1▸h0),h2 h0];cases numR m 0 0 t.b with
  | ok x=>exact⟨rfl,rfl,fun _=>rfl⟩
  | error x=>exact⟨rfl,hf x⟩
 ·rw[if_neg h0,if_neg (h1▸h0)];exact⟨rfl,h1,h2⟩
theorem Rd.like.take {s t:Rd}{c d:Bool}{m:Nat}(h:s.like t):(takeP c m s).1=(takeP d m t).1/\(takeP c m s).2.like (takeP d m t).2:=by
 have hf:∀x,(s.fail c x).like (t.fail d x):=fun x=>h.fail;obtain⟨h1,h2⟩:=h;unfold takeP;by_cases h0:s.e=0
 ·rw[if_pos h0,if_pos (show t.e=0 from h1▸h0),h2 h0];split
  ·exact⟨rfl,hf 10⟩
  ·exact⟨rfl,rfl,fun _=>rfl⟩
 ·rw[if_neg h0,if_neg (h1▸h0)];exact⟨rfl,h1,h2⟩
theorem Rd.like.bytes {s t:Rd}{c d:Bool}{m:Nat}(h:s.like t):(zmH c m s).1=(zmH d m t).1/\(zmH c m s).2.like (zmH d m t).2:=by
 have a:=h.num (c:=c) (d:=d) (m:=m);have:=a.2.take (c:=c) (d:=d) (m:=(zsI c m s).1);unfold zmH;rw[← a.1];exact this
theorem Rd.like.recs {s t:Rd}{c d:Bool}(h:s.like t):∀k,(zzN c k s).1=(zzN d k t).1/\(zzN c k s).2.like (zzN d k t).2
 | 0=>⟨rfl,h⟩
 | k+1=>by
  obtain⟨a,b⟩:=Rd.like.recs h (c:=c) (d:=d) k;have e:=b.bytes (c:=c) (d:=d) (m:=64);exact⟨by simp only[zzN,a,e.1],e.2⟩
theorem Rd.like.fields {s t:Rd}{c d:Bool}(h:s.like t)(k:Nat):(zre c k s).1=(zre d k t).1/\(zre c k s).2.like (zre d k t).2:=by
 obtain⟨t1,t2⟩:=h.bytes (c:=c) (d:=d) (m:=64);obtain⟨n1,n2⟩:=t2.num (c:=c) (d:=d) (m:=4);obtain⟨r1,r2⟩:=n2.recs (c:=c) (d:=d) (zsI c 4 (zmH c 64 s).2).1;obtain⟨g1,g2⟩:=t2.bytes (c:=c) (d:=d) (m:=64);obtain⟨f1,f2⟩:=g2.num (c:=c) (d:=d) (m:=9007199254740992);obtain⟨e1,e2⟩:=t2.num (c:=c) (d:=d) (m:=9007199254740992);unfold zre;simp only;split
 ·exact⟨rfl,h⟩
 ·split
  ·rw[← n1,← r1,← t1];exact⟨rfl,r2⟩
  ·split
   ·rw[← t1,← g1,← f1];exact⟨rfl,f2⟩
   ·split
    ·rw[← t1,← e1];exact⟨rfl,e2⟩
    ·rw[← t1];exact⟨rfl,t2⟩
theorem Rd.like.takeOp {s t:Rd}{c d:Bool}{name:List UInt8->Bool}(h:s.like t):(zsO c name s).1=(zsO d name t).1/\(zsO c name s).2.like (zsO d name t).2:=by
 obtain⟨k1,k2⟩:=h.num (c:=c) (d:=d) (m:=4);obtain⟨x1,x2⟩:=k2.fields (c:=c) (d:=d) (zsI c 4 s).1;have z:=x2.fail (c:=c) (d:=d) (x:=zaN name (zre c (zsI c 4 s).1 (zsI c 4 s).2).1);unfold zsO;simp only;rw[← k1,← x1,← z.1];exact⟨rfl,z⟩
open Go
end Go.AW

/- Contracts: the reader's small methods. -/
set_option maxRecDepth 100000
namespace Go.Proofs.YtdgcepphjnoalaaGreat
open Go.AW
def Cell (c:AV) (B:List UInt8):Prop:=c=.d (.slice (bcs B))∨∃t,c=.own t (bcs B)
variable {σ:List AObj} {K:KT}
theorem zrE {n:Int}(h:0<=n)(h2:n<9223372036854775808):IntKind.u64.wrap n=(n.toNat:Int):=by
 obtain⟨m,rfl⟩:=Int.eq_ofNat_of_zero_le h;rw[Int.toNat_natCast];exact zdW (by omega)
theorem bytesE (s:List UInt8):s.map zci=bcs s:=rfl
theorem gq22 {A P Q:Prop}(a:A)(h:Q)(e:A->P=Q:=by intro a;simp -dsimp only[↓zlG,↓zbS,↓zee,↓zlH,↓zly,↓zlw,↓zlz,↓zlx,↓zej,↓zef,↓zek,↓zeg,↓zlA,↓zeb,↓zel,↓zeh,↓zem,↓zei,↓zlv,↓zlE,↓zea,↓zep,↓zln,↓zlm,↓zlt,iN,bT,bF,eN,↓zes,↓unC,↓zaB,↓zah,↓zai,↓zav,↓zaX,↓zag,↓zgA,↓zaw,↓zbf,↓zad,↓ze,↓zj,↓zaR,↓zc,↓zaV,↓zN,↓zbT,↓zcl,↓zf,↓zF,↓zp,↓zM,↓zaA,↓zgH,↓zhI,↓zbc,↓zby,↓zcf,↓zcA,↓zdo,↓zJ,↓zbb,↓zak,↓zO,↓zaU,zhr,zdU,zdB,unA,zgx,bnd,ziS,zaO,zL,zic,dm,dm1,zH,zaF,zjW,zjV,keepO,Q0,Q1,Q2,Q3,Q4,Q5,zba,zA,zB,zY,zab,Q6,Q7,Q8,Q9,Q10,Q11,Q12,Q13,Q14,Nat.reduceAdd,Q15,Int.reduceToNat,Q16,Q17,Q18,Q19,Q20,reduceIte,Q21,Q22,zy,rep,zaq,zhW,toD,zaC,Q23,Q24,Q25,Q26,Q27,Q28,Nat.reduceLeDiff,Q29,Nat.reduceSub,Q30,Q31,Q32,sc,Q33,Q34,Q35,Bool.and_false,Bool.and_self,Bool.false_and,Bool.not_false,Bool.not_true,Bool.true_and,Int.toNat_natCast,Int.toNat_zero,List.drop_zero,List.length_map,List.length_nil,List.nil_append,List.take_length,Nat.sub_zero,Nat.zero_add,Option.isSome_none,Option.isSome_some,Option.map_none,Option.map_some,zam,beq_self_eq_true,bne_self_eq_false,bytesE,zck,zch,opA,a];rfl):P:=(e a).mpr h
theorem c_Put {b:List UInt8}{o:TOp}(hb:b.length<=268435456)(ho:zmW o<=268435456)(hK:K (.d (.slice (bcs (b++if zaN zev o=0 then opB o else [])))) σ) :
  zP zzU [.d (.slice (bcs b)),opA o] σ K:=by
 refine zeq e_op_Put fun hl=>?_;have hsz:=ho;simp only[zmW]at hsz;have hrl:=zmZ o.recs;simp only[S_op_Put,iN,bT,bF,eN,opA];(refine gq4 ?_;try with_reducible exact True.intro);refine zka ziD (by simp[bcs];omega) ?_;(refine gq4 ?_;try with_reducible exact True.intro);refine zwY (o:=o) (by omega) (by omega) (by omega) ?_;(refine gq4 ?_;try with_reducible exact True.intro);refine zW (fun h=>?_) (fun h=>?_)
 ·refine zu hl ?_;(try simp only[decide_eq_true_eq,decide_eq_false_iff_not,beq_iff_eq,beq_eq_false_iff_ne,bne_iff_ne,ne_eq,Bool.not_eq_true',Bool.not_eq_false',bne_eq_false_iff_eq]at *);rw[if_neg h,List.append_nil]at hK;exact hK
 have hc:zaN zev o=0:=by(try simp only[decide_eq_true_eq,decide_eq_false_iff_not,beq_iff_eq,beq_eq_false_iff_ne,bne_iff_ne,ne_eq,Bool.not_eq_true',Bool.not_eq_false',bne_eq_false_iff_eq]at *);omega
 obtain⟨k0,k4,o0,o1,hon⟩:=zvl hc;rw[if_pos hc]at hK;have hkn:=zl (n:=o.kind.toNat) (by omega);have hon':=zl (n:=o.offset.toNat) (by omega);have hrn:=zl (n:=o.recs.length) (by omega);have htp:=zdl (x:=o.topic) (by omega);have hgp:=zdl (x:=o.group) (by omega);(refine gq6 (zrE k0 (by omega)) ?_;try with_reducible exact True.intro);refine zfy (by omega) (by omega) ?_;have wo:=zrE o0 (by omega:o.offset<9223372036854775808);have wl:IntKind.u64.wrap ((zdT o.recs).length:Int)=(o.recs.length:Int):=by rw[zy];exact zdW (by omega)
 have wl':IntKind.u64.wrap (o.recs.length:Int)=(o.recs.length:Int):=zdW (by omega);repeat' first
  | (refine gq22 (zd wo (zd wl wl')) ?_;try with_reducible exact True.intro)
  | (refine zW (fun h=>?_) (fun h=>?_)<;>(try rw[h]))
  | ((with_reducible refine And.intro ?_ ?_);focus(first|omega|rfl|decide))
  | refine zpL (by omega) (by simp only[zkq,List.length_append]at *;omega) ?_
  | refine zfy (by omega) (by simp only[zkq,List.length_append]at *;omega) ?_
 all_goals first
  | (exfalso;(try simp only[decide_eq_true_eq,decide_eq_false_iff_not,beq_iff_eq,beq_eq_false_iff_ne,bne_iff_ne,ne_eq,Bool.not_eq_true',Bool.not_eq_false',bne_eq_false_iff_eq]at *);omega)
  | (
   refine zu hl ?_
   (try simp only[decide_eq_true_eq,decide_eq_false_iff_not,beq_iff_eq,beq_eq_false_iff_ne,bne_iff_ne,ne_eq,Bool.not_eq_true',Bool.not_eq_false',bne_eq_false_iff_eq]at *)
   simp only[zcm,dmT,dm,dm1]
   (first|rw[opB_0 (by omega)]at hK|rw[opB_1 (by omega)]at hK|rw[opB_3 (by omega)]at hK|rw[opB_4 (by omega)]at hK)
   exact hK)
  | skip
 have hk2:o.kind=2:=by(try simp only[decide_eq_true_eq,decide_eq_false_iff_not,beq_iff_eq,beq_eq_false_iff_ne,bne_iff_ne,ne_eq,Bool.not_eq_true',Bool.not_eq_false',bne_eq_false_iff_eq]at *);omega
 rw[opB_2 hk2]at hK;refine zn o.recs.length (fun k vs s=>∃t τ,vs=[.own t (bcs (b++(zbv o.kind.toNat++(zbv o.topic.length++(o.topic++(zbv o.recs.length++zrO (o.recs.take k))))))),.d (.int .i64 k)]/\s=σ++τ) ⟨σ.length+4,_,by rw[List.take_zero,show zrO []=[]from rfl,List.append_nil];rfl,rfl⟩ ?_;rintro k vs s hk ⟨t,τ,rfl,rfl⟩;(refine gq4 ?_;try with_reducible exact True.intro);refine zW (fun h=>?_) (fun h=>?_)
 ·have hka:k<o.recs.length:=by(try simp only[decide_eq_true_eq,decide_eq_false_iff_not,beq_iff_eq,beq_eq_false_iff_ne,bne_iff_ne,ne_eq,Bool.not_eq_true',Bool.not_eq_false',bne_eq_false_iff_eq]at *);omega
  have hx:o.recs[k]? = some o.recs[k]:=by simp[hka]
  have hle:=rec_le (List.getElem_mem hka);have htl:=zlY o.recs (by omega) k;(refine gq6 (zgC hx) ?_;try with_reducible exact True.intro);refine And.intro (by omega) (zpL (by omega) (by simp only[zkq,List.length_append]at *;omega) ?_);(refine gq4 ?_;try with_reducible exact True.intro);refine zaK.next hka ⟨σ.length+τ.length,_,?_,rfl⟩;rw[zaW (by omega) (by omega),zyj hx];simp only[zkq,List.append_assoc];rfl
 ·have hke:k=o.recs.length:=by(try simp only[decide_eq_true_eq,decide_eq_false_iff_not,beq_iff_eq,beq_eq_false_iff_ne,bne_iff_ne,ne_eq,Bool.not_eq_true',Bool.not_eq_false',bne_eq_false_iff_eq]at *);omega
  subst hke;refine zu hl ?_;rw[List.take_length];exact hK
theorem c_rPut {b:List UInt8}{o:TOp}(hb:b.length<=268435456)(ho:zmW o<=268435456)(hK:K (.d (.slice (bcs (b++if zaN zev o=0 then opB o else [])))) σ) :
  zP zvX [.d (.slice (bcs b)),opA o] σ K:=by
 refine zeq e_r06_Put fun hl=>?_;have hsz:=ho;simp only[zmW]at hsz;have hrl:=zmZ o.recs;simp only[S_r06_Put,iN,bT,bF,eN,opA];(refine gq4 ?_;try with_reducible exact True.intro);refine zAx (o:=o) (by omega) (by omega) (by omega) ?_;(refine gq4 ?_;try with_reducible exact True.intro);refine zW (fun h=>?_) (fun h=>?_)
 ·refine zu hl ?_;(try simp only[decide_eq_true_eq,decide_eq_false_iff_not,beq_iff_eq,beq_eq_false_iff_ne,bne_iff_ne,ne_eq,Bool.not_eq_true',Bool.not_eq_false',bne_eq_false_iff_eq]at *);rw[if_neg h,List.append_nil]at hK;exact hK
 have hc:zaN zev o=0:=by(try simp only[decide_eq_true_eq,decide_eq_false_iff_not,beq_iff_eq,beq_eq_false_iff_ne,bne_iff_ne,ne_eq,Bool.not_eq_true',Bool.not_eq_false',bne_eq_false_iff_eq]at *);omega
 obtain⟨k0,k4,o0,o1,hon⟩:=zvl hc;rw[if_pos hc]at hK;have hkn:=zl (n:=o.kind.toNat) (by omega);have hon':=zl (n:=o.offset.toNat) (by omega);have hrn:=zl (n:=o.recs.length) (by omega);have htp:=zdl (x:=o.topic) (by omega);have hgp:=zdl (x:=o.group) (by omega);(refine gq6 (zrE k0 (by omega)) ?_;try with_reducible exact True.intro);refine c_fields ?_;(refine gq6 (zrE k0 (by omega)) ?_;try with_reducible exact True.intro);refine zeQ (by omega) (by omega) ?_;have wo:=zrE o0 (by omega:o.offset<9223372036854775808);have wl:IntKind.u64.wrap ((zdT o.recs).length:Int)=(o.recs.length:Int):=by rw[zy];exact zdW (by omega)
 have wl':IntKind.u64.wrap (o.recs.length:Int)=(o.recs.length:Int):=zdW (by omega);have f1:zoE o.kind=true↔o.kind≠0:=by simp[zoE];omega
 have f2:zsd o.kind=true↔o.kind=3:=by simp[zsd]
 have f3:fOff o.kind=true↔(o.kind=3∨o.kind=4):=by simp[fOff]
 have f4:zAg o.kind=true↔o.kind=2:=by simp[zAg]
 repeat' first
  | (refine gq22 (zd wo (zd wl wl')) ?_;try with_reducible exact True.intro)
  | (refine zW (fun h=>?_) (fun h=>?_)<;>(try rw[h]))
  | ((with_reducible refine And.intro ?_ ?_);focus(first|omega|rfl|decide))
  | refine zhd (by omega) (by simp only[zkq,List.length_append]at *;omega) ?_
  | refine zeQ (by omega) (by simp only[zkq,List.length_append]at *;omega) ?_
 all_goals first
  | (exfalso;clear hK;grind)
  | (
   refine zu hl ?_
   (try simp only[decide_eq_true_eq,decide_eq_false_iff_not,beq_iff_eq,beq_eq_false_iff_ne,bne_iff_ne,ne_eq,Bool.not_eq_true',Bool.not_eq_false',bne_eq_false_iff_eq]at *)
   simp only[zcm,dmT,dm,dm1]
   (first|rw[opB_0 (by grind)]at hK|rw[opB_1 (by grind)]at hK|rw[opB_3 (by grind)]at hK|rw[opB_4 (by grind)]at hK)
   exact hK)
  | skip
 have hk2:o.kind=2:=by grind
 rw[opB_2 hk2]at hK;refine zn o.recs.length (fun k vs s=>∃t τ,vs=[.own t (bcs (b++(zbv o.kind.toNat++(zbv o.topic.length++(o.topic++(zbv o.recs.length++zrO (o.recs.take k))))))),.d (.int .i64 k)]/\s=σ++.box [.d (.int .i64 o.kind),.d (.str o.topic),.d (.str o.group),.d (.int .i64 o.offset),.d (.slice (zdT o.recs))]::τ)
  ⟨σ.length+3,_,by rw[List.take_zero,show zrO []=[]from rfl,List.append_nil];rfl,rfl⟩ ?_
 rintro k vs s hk ⟨t,τ,rfl,rfl⟩;(refine gq4 ?_;try with_reducible exact True.intro);refine zW (fun h=>?_) (fun h=>?_)
 ·have hka:k<o.recs.length:=by(try simp only[decide_eq_true_eq,decide_eq_false_iff_not,beq_iff_eq,beq_eq_false_iff_ne,bne_iff_ne,ne_eq,Bool.not_eq_true',Bool.not_eq_false',bne_eq_false_iff_eq]at *);omega
  have hx:o.recs[k]? = some o.recs[k]:=by simp[hka]
  have hle:=rec_le (List.getElem_mem hka);have htl:=zlY o.recs (by omega) k;(refine gq6 (zgC hx) ?_;try with_reducible exact True.intro);refine And.intro (by omega) (zhd (by omega) (by simp only[zkq,List.length_append]at *;omega) ?_);(refine gq4 ?_;try with_reducible exact True.intro);refine zaK.next hka ⟨σ.length+(τ.length+1),_,?_,rfl⟩;rw[zaW (by omega) (by omega),zyj hx];simp only[zkq,List.append_assoc];rfl
 ·have hke:k=o.recs.length:=by(try simp only[decide_eq_true_eq,decide_eq_false_iff_not,beq_iff_eq,beq_eq_false_iff_ne,bne_iff_ne,ne_eq,Bool.not_eq_true',Bool.not_eq_false',bne_eq_false_iff_eq]at *);omega
  subst hke;refine zu hl ?_;rw[List.take_length];exact hK
variable {σ:List AObj} {K:KT}
def zvg (c:Int):Int:=if c<0∨c≥8 then -1 else 13+c
theorem c_rqKey {c:Int}(hK:K (.d (.int .i64 (zvg c))) σ):zP znc [.d (.int .i64 c)] σ K:=by
 refine zeA zAj fun hl=>?_;simp only[zsy,iN,bT,bF,eN];(repeat'(first|(refine gq4 ?_;try with_reducible exact True.intro)|(refine zW (fun h=>?_) (fun h=>?_)<;>(try rw[h]))|((with_reducible refine And.intro ?_ ?_);focus(first|omega|rfl|decide))));all_goals(
  refine zu hl ?_
  (try simp only[decide_eq_true_eq,decide_eq_false_iff_not,beq_iff_eq,beq_eq_false_iff_ne,bne_iff_ne,ne_eq,Bool.not_eq_true',Bool.not_eq_false',bne_eq_false_iff_eq]at *)
  unfold zvg at hK)
 ·rw[if_pos (by omega)]at hK;exact hK
 ·rw[if_pos (by omega)]at hK;exact hK
 ·rw[if_neg (by omega)]at hK;rw[zaW (by omega) (by omega)];exact hK
theorem sizes {x:zr}(h:zmW x.op<=20971520):okO x.op:=by
 have h0:=h;unfold zmW at h;refine⟨by omega,by omega,?_,fun r hr=>?_⟩
 ·have:=zmZ x.op.recs;omega
 ·have:=rec_le hr;omega
theorem c_rqBytes {x:zr}(hx:zmW x.op<=20971520)(hK:K (.tup [.d (.slice (bcs (zbV x))),.d (.int .i64 (zT x))]) σ):zP zhx [reqA x] σ K:=by
 refine zeA zwt fun hl=>?_;have hsz:=sizes hx;simp only[zoY,iN,bT,bF,eN,reqA];refine zG ?_;refine c_rqCheck (x:=x) hsz ?_;by_cases hc:zT x=0
 ·obtain⟨c0,c8,t1,t2,ho⟩:=req_ok hc;have hb:(zT x != 0)=false:=by simpa using hc
  have n1:=zl (n:=x.client.toNat) (by omega);have n2:=zl (n:=x.time.toNat) (by omega);have w1:IntKind.u64.wrap x.client=((x.client.toNat:Nat):Int):=by
   rw[show x.client=((x.client.toNat:Nat):Int) by omega,zdW (by omega)];rfl
  have w2:IntKind.u64.wrap x.time=((x.time.toNat:Nat):Int):=by
   rw[show x.time=((x.time.toNat:Nat):Int) by omega,zdW (by omega)];rfl
  rw[hc,zbV,if_pos hc]at hK;refine zm (zd hb (zd w1 w2)) ?_;refine zfy (b:=[]) (by omega) (by simp) ?_;refine zm (zd w1 w2) ?_;refine zfy (by omega) (by first|omega|(simp;omega)) ?_;refine zm (zd w1 w2) ?_;refine c_Put (o:=x.op) (by first|omega|(simp;omega)) (by omega) ?_;refine zG ?_;refine zu hl ?_;rw[if_pos ho];exact hK
 ·have hb:(zT x != 0)=true:=by simpa using hc
  rw[zbV,if_neg hc]at hK;refine zm hb ?_;refine zu hl ?_;exact hK
theorem zyS {x:zr}(hx:zmW x.op<=20971520)(hK:K (.tup [.d (.slice (bcs (zbV x))),.d (.int .i64 (zT x))]) σ):zP zng [reqA x] σ K:=by
 refine zeA e_r08_Bytes fun hl=>?_;have hsz:=sizes hx;simp only[zxp,iN,bT,bF,eN,reqA];refine zG ?_;refine zyR (x:=x) hsz ?_;by_cases hc:zT x=0
 ·obtain⟨c0,c8,t1,t2,ho⟩:=req_ok hc;have hb:(zT x != 0)=false:=by simpa using hc
  have n1:=zl (n:=x.client.toNat) (by omega);have n2:=zl (n:=x.time.toNat) (by omega);have w1:IntKind.u64.wrap x.client=((x.client.toNat:Nat):Int):=by
   rw[show x.client=((x.client.toNat:Nat):Int) by omega,zdW (by omega)];rfl
  have w2:IntKind.u64.wrap x.time=((x.time.toNat:Nat):Int):=by
   rw[show x.time=((x.time.toNat:Nat):Int) by omega,zdW (by omega)];rfl
  rw[hc,zbV,if_pos hc]at hK;refine zm (zd hb (zd w1 w2)) ?_;refine zeQ (b:=[]) (by omega) (by simp) ?_;refine zm (zd w1 w2) ?_;refine zeQ (by omega) (by first|omega|(simp;omega)) ?_;refine zm (zd w1 w2) ?_;refine c_rPut (o:=x.op) (by first|omega|(simp;omega)) (by omega) ?_;refine zG ?_;refine zu hl ?_;rw[if_pos ho];exact hK
 ·have hb:(zT x != 0)=true:=by simpa using hc
  rw[zbV,if_neg hc]at hK;refine zm hb ?_;refine zu hl ?_;exact hK
theorem ziB {b:List UInt8}{k d:Int}(hb:b.length<=1073741700)(hK:K (.d (.slice (bcs (b++zcv k d)))) σ) :
  zP zdm [.d (.slice (bcs b)),.agg [.d (.int .i64 k),.d (.int .i64 d)]] σ K:=by
 refine zeq zAn fun hl=>?_;simp only[zsC,iN,bT,bF,eN];refine zG ?_;refine zbI ?_;by_cases hc:zx k d=0
 ·obtain⟨k0,k1,d0,d1⟩:=sign_ok hc;have hq:(zx k d != 0)=false:=by simpa using hc
  have n1:=zl (n:=k.toNat) (by omega);have w1:IntKind.u64.wrap k=((k.toNat:Nat):Int):=by
   rw[show k=((k.toNat:Nat):Int) by omega,zdW (by omega)];rfl
  have w2:IntKind.u64.wrap d=((d.toNat:Nat):Int):=by
   rw[show d=((d.toNat:Nat):Int) by omega,zdW (by omega)];rfl
  rw[zcv,if_pos hc]at hK;refine zm (zd hq (zd w1 w2)) ?_;refine zeQ (by omega) (by omega) ?_;refine zm (zd w1 w2) ?_;refine zeQ (by omega) (by first|omega|(simp;omega)) ?_;refine zG ?_;refine zu hl ?_;exact hK
 ·have hq:(zx k d != 0)=true:=by simpa using hc
  rw[zcv,if_neg hc,List.append_nil]at hK;refine zm hq ?_;refine zu hl ?_;exact hK
theorem znv {b:List UInt8}{l:List zr}(hb:b.length<=268435456)(hs:∀x∈l,zmW x.op<=20971520)(hl0:l.length<=1073741824)(hK:K (.d (.slice (bcs (b++zdL l)))) σ) :
  zP zfo [.d (.slice (bcs b)),.d (.slice (zbz l))] σ K:=by
 refine zeq zxS fun hl=>?_;have hok:okB l:=⟨hl0,fun x hx=>sizes (hs x hx)⟩;simp only[zqC,iN,bT,bF,eN];refine zG ?_;refine zhP hok ?_;by_cases hc:zD l=0
 ·have hq:(zD l != 0)=false:=by simpa using hc
  obtain⟨h4,hm,_⟩:=zkb hc;have n1:=zl (n:=l.length) (by omega);have w1:IntKind.u64.wrap (l.length:Int)=(l.length:Int):=zdW (by omega);rw[zdL,if_pos hc]at hK;refine zm (zd hq w1) ?_;refine zeQ (by omega) (by omega) ?_;refine zG ?_;refine zoB l.length (fun k vs s=>(∃T,s=σ++T)/\vs=[.d (.slice (bcs (b++(zbv l.length++zdM (l.take k))))),.d (.int .i64 k)])
   (.data 0 _ _ rfl rfl (.refl _ _)) ⟨⟨_,rfl⟩,by simp[zdM]⟩ ?_
  rintro k vs s hk ⟨⟨T,rfl⟩,rfl⟩;by_cases hlt:k<l.length
  ·have hd:decide ((k:Int)<(l.length:Int))=true:=by simp;omega
   have hx:l[k]? = some l[k]:=by simp[hlt]
   have hgx:=zR (f:=zaD) hx;have hxs:=hs _ (List.getElem_mem hlt);have hxm:=hm _ (List.getElem_mem hlt);obtain⟨x,hxe⟩:∃x,l[k]=x:=⟨_,rfl⟩;rw[hxe]at hx hgx hxs hxm;have hbl:=zwZ hs hc k;have hrl:=ztS hxs;have hpl:=zdl (x:=zbV x) (by omega);obtain⟨S,hS⟩:∃S,σ++T=S:=⟨_,rfl⟩;rw[hS];refine zdV (zd hd hgx) ?_;refine zyS (x:=x) hxs ?_;refine zdV (zd hd hgx) ?_;refine zhd (by omega) (by simp;omega) ?_;refine zdV (zd hd hgx) ?_;refine ziB (by simp only[zkq,List.length_append]at hpl ⊢;omega) ?_;refine zm (wk1 k (by omega)) ?_;refine zaK.next hlt ⟨⟨_,by rw[← hS,List.append_assoc]⟩,?_⟩;rw[zoQ hx];simp[oneB,zkq,zbV,zcv,hxm.1,hxm.2]
  ·have hd:decide ((k:Int)<(l.length:Int))=false:=by simp;omega
   rw[List.take_of_length_le (by omega)];refine zm hd ?_;refine zu hl ?_;exact hK
 ·have hq:(zD l != 0)=true:=by simpa using hc
  rw[zdL,if_neg hc,List.append_nil]at hK;refine zm hq ?_;refine zu hl ?_;exact hK
end Go.Proofs.YtdgcepphjnoalaaGreat

/- Requests, signatures and batches, as they are read. No program in sight. -/
namespace Go.AW
def nilRq:zr:=⟨0,0,noOp,0,0⟩
def doneE (s:Rd):Int:=if s.e=0/\0<s.b.length then 12 else s.e
def lateE (e:Int) (t:Nat):Int:=if e=0/\t=0 then 80 else e
def pickR (f:Int) (x:zr):zr:=if f=0 then x else nilRq
def signZ (c:Bool) (d:Nat × Rd):Rd:=if d.2.e=0/\d.1=0 then d.2.fail c 81 else d.2
def reqP (c:Bool) (b:List UInt8):zr × Int:=
 let k:=zsI c 7 ⟨b,0⟩
 let t:=zsI c 9007199254740992 k.2
 let o:=zsO c zev t.2
 let f:=lateE (doneE o.2) t.1
 (pickR f ⟨k.1,t.1,o.1,0,0⟩,f)
def signP (c:Bool) (s:Rd):(Nat × Nat) × Rd:=
 let k:=zsI c 20 s
 let d:=zsI c 9007199254740992 k.2
 let z:=signZ c d
 (if z.e=0 then(k.1,d.1)else(0,0),z)
def oneP (c:Bool) (s:Rd):zr × Rd:=
 let b:=zmH c 1024 s
 let x:=reqP c b.1
 let g:=signP c (b.2.fail c x.2)
 (⟨x.1.client,x.1.time,x.1.op,g.1.1,g.1.2⟩,g.2)
def zqm (c:Bool):Nat->Rd->List zr × Rd
 | 0,s=>([],s)
 | k+1,s=>((zqm c k s).1++[(oneP c (zqm c k s).2).1],(oneP c (zqm c k s).2).2)
def batchP (c:Bool) (s:Rd):List zr × Rd:=
 let n:=zsI c 4 s
 let p:=zqm c n.1 n.2
 let z:=p.2.fail c (zD p.1)
 (if z.e=0 then p.1 else [],z)
theorem Rd.like.refl (s:Rd):s.like s:=⟨rfl,fun _=>rfl⟩
theorem done_like {s t:Rd}(h:s.like t):doneE s=doneE t:=by
 unfold doneE;obtain⟨h1,h2⟩:=h;by_cases h0:s.e=0
 ·rw[h2 h0,h1]
 ·rw[if_neg (fun g=>h0 g.1),if_neg (fun g=>h0 (h1▸g.1)),h1]
theorem reqP_like (c d:Bool)(b:List UInt8):reqP c b=reqP d b:=by
 obtain⟨k1,k2⟩:=(Rd.like.refl ⟨b,0⟩).num (c:=c) (d:=d) (m:=7);obtain⟨t1,t2⟩:=k2.num (c:=c) (d:=d) (m:=9007199254740992);obtain⟨o1,o2⟩:=t2.takeOp (c:=c) (d:=d) (name:=zev);have e:=done_like o2;unfold reqP;simp only;rw[e,t1,k1,o1]
theorem Rd.like.sign {s t:Rd}{c d:Bool}(h:s.like t):(signP c s).1=(signP d t).1/\(signP c s).2.like (signP d t).2:=by
 obtain⟨k1,k2⟩:=h.num (c:=c) (d:=d) (m:=20);obtain⟨t1,t2⟩:=k2.num (c:=c) (d:=d) (m:=9007199254740992);have z:=t2.fail (c:=c) (d:=d) (x:=81);have hz:(signZ c (zsI c 9007199254740992 (zsI c 20 s).2)).like (signZ d (zsI d 9007199254740992 (zsI d 20 t).2)):=by
  unfold signZ;rw[← t1,← t2.1];split
  ·exact z
  ·exact t2
 unfold signP;simp only;rw[← k1,← t1,← hz.1];exact⟨rfl,hz⟩
theorem Rd.like.one {s t:Rd}{c d:Bool}(h:s.like t):(oneP c s).1=(oneP d t).1/\(oneP c s).2.like (oneP d t).2:=by
 obtain⟨b1,b2⟩:=h.bytes (c:=c) (d:=d) (m:=1024);have e:=reqP_like c d (zmH c 1024 s).1;have f:=b2.fail (c:=c) (d:=d) (x:=(reqP c (zmH c 1024 s).1).2);obtain⟨g1,g2⟩:=f.sign (c:=c) (d:=d);unfold oneP;simp only;rw[← b1,← e,← g1];exact⟨rfl,g2⟩
theorem Rd.like.items {s t:Rd}{c d:Bool}(h:s.like t):∀k,(zqm c k s).1=(zqm d k t).1/\(zqm c k s).2.like (zqm d k t).2
 | 0=>⟨rfl,h⟩
 | k+1=>by
  obtain⟨a,b⟩:=Rd.like.items h (c:=c) (d:=d) k;obtain⟨e1,e2⟩:=b.one (c:=c) (d:=d);exact⟨by simp only[zqm,a,e1],e2⟩
theorem Rd.like.batch {s t:Rd}{c d:Bool}(h:s.like t):(batchP c s).1=(batchP d t).1/\(batchP c s).2.like (batchP d t).2:=by
 obtain⟨n1,n2⟩:=h.num (c:=c) (d:=d) (m:=4);obtain⟨p1,p2⟩:=n2.items (c:=c) (d:=d) (zsI c 4 s).1;have z:=p2.fail (c:=c) (d:=d) (x:=zD (zqm c (zsI c 4 s).1 (zsI c 4 s).2).1);unfold batchP;simp only;rw[← n1,← p1,← z.1];exact⟨rfl,z⟩
end Go.AW

/- Contracts: requests, signatures and batches are read. -/
set_option maxRecDepth 100000
namespace Go.Proofs.YtdgcepphjnoalaaGreat
open Go.AW
variable {σ:List AObj} {K:KT}
theorem zyX {b:List UInt8}{k d:Int}(hb:b.length<=1073741700)(hc:zx k d=0)(hK:K (.own σ.length (bcs (b++zgt k d))) (σ++[.tok 1 (b++zgt k d).length])) :
  zP zgc [.d (.slice (bcs b)),.agg [.d (.int .i64 k),.d (.int .i64 d)]] σ K:=by
 refine zbN zmB.is rfl (fun s=>[s.length-1]) fun hl _=>zmB.goes ?_;obtain⟨k0,k1,d0,d1⟩:=sign_ok hc;have hq:(zx k d != 0)=false:=by simpa using hc
 have n1:=zl (n:=k.toNat) (by omega);have w1:IntKind.u64.wrap k=((k.toNat:Nat):Int):=by
  rw[show k=((k.toNat:Nat):Int) by omega,zdW (by omega)];rfl
 have w2:IntKind.u64.wrap d=((d.toNat:Nat):Int):=by
  rw[show d=((d.toNat:Nat):Int) by omega,zdW (by omega)];rfl
 simp only[zmK,iN,bT,bF,eN];refine zG ?_;refine zbM ?_;refine zm (zd hq (zd w1 w2)) ?_;refine zfy (by omega) (by omega) ?_;refine zm (zd w1 w2) ?_;refine zfy (by omega) (by simp;omega) ?_;refine zG ?_;refine zoG (t:=σ.length+2) (sz:=1) (n:=(b++zgt k d).length) (by simp) hl (by omega) ?_ ?_
 ·rw[zA];simp[zgt,Nat.add_assoc]
 ·exact hK
theorem c_partsPutO {b:List UInt8}{l:List zr}(hb:b.length<=268435456)(hs:∀x∈l,zmW x.op<=20971520)(hc:zD l=0)(hK:K (.own σ.length (bcs (b++zhl l))) (σ++[.tok 1 (b++zhl l).length])) :
  zP zgY [.d (.slice (zbz l)),.d (.slice (bcs b))] σ K:=by
 refine zbN zkH.is rfl (fun s=>[s.length-1]) fun hl _=>zkH.goes ?_;obtain⟨h4,hm,_⟩:=zkb hc;have n1:=zl (n:=l.length) (by omega);have w1:IntKind.u64.wrap (l.length:Int)=(l.length:Int):=zdW (by omega);simp only[zkN,iN,bT,bF,eN,zl1];refine zm w1 ?_;refine zfy (by omega) (by omega) ?_;refine zG ?_;refine zn l.length (fun k vs s=>∃T,s=σ++T++[.tok 1 (b++(zbv l.length++zdM (l.take k))).length]/\vs=[.own (σ++T).length (bcs (b++(zbv l.length++zdM (l.take k)))),.d (.int .i64 k)])
  ⟨[],by simp[zdM],by simp[zdM]⟩ ?_
 rintro k vs s hk ⟨T,rfl,rfl⟩;by_cases hlt:k<l.length
 ·have hd:decide ((k:Int)<(l.length:Int))=true:=by simp;omega
  have hx:l[k]? = some l[k]:=by simp[hlt]
  have hgx:=zR (f:=zaD) hx;have hxs:=hs _ (List.getElem_mem hlt);have hxm:=hm _ (List.getElem_mem hlt);obtain⟨x,hxe⟩:∃x,l[k]=x:=⟨_,rfl⟩;rw[hxe]at hx hgx hxs hxm;have hbl:=zwZ hs hc k;have hrl:=ztS hxs;have hpl:=zdl (x:=zbV x) (by omega);obtain⟨t,ht⟩:∃t,(σ++T).length=t:=⟨_,rfl⟩;obtain⟨S,hS⟩:∃S,σ++T++[AObj.tok 1 (b++(zbv l.length++zdM (l.take k))).length]=S:=⟨_,rfl⟩;have hS2:S=σ++(T++[AObj.tok 1 (b++(zbv l.length++zdM (l.take k))).length]):=by rw[← hS,List.append_assoc]
  rw[ht,hS];refine zdV (zd hd hgx) ?_;refine c_rqBytes (x:=x) hxs ?_;refine zdV (zd hd hgx) ?_;refine zpL (by omega) (by simp;omega) ?_;refine zdV (zd hd hgx) ?_;refine zyX (by simp only[zkq,List.length_append]at hpl ⊢;omega) hxm.2 ?_;refine zm (wk1 k (by omega)) ?_;have hwl:(zdM (l.take (k+1))).length=(zdM (l.take k)).length+((zbv (zbV x).length).length+((zbV x).length+(zgt x.key x.dig).length)):=by
   rw[zoQ hx];simp[oneB,zkq,zbV,hxm.1,Nat.add_assoc]
  have hw:b++(zbv l.length++zdM (l.take (k+1)))=b++(zbv l.length++(zdM (l.take k)++(zbv (zbV x).length++(zbV x++zgt x.key x.dig)))):=by
   rw[zoQ hx];simp[oneB,zkq,zbV,hxm.1]
  refine zaK.next hlt ⟨T++[AObj.tok 1 (b++(zbv l.length++zdM (l.take k))).length]++[AObj.box [.d (.int .i64 x.client),.d (.int .i64 x.time),.d (.int .i64 x.op.kind),.d (.str x.op.topic),.d (.str x.op.group),.d (.int .i64 x.op.offset),.d (.slice (zdT x.op.recs)),.d (.int .i64 x.key),.d (.int .i64 x.dig)],.tok 1 (b++(zbv l.length++(zdM (l.take k)++(zbv (zbV x).length++zbV x)))).length],?_,?_⟩
  ·simp only[hw,hS2];simp[Nat.add_assoc,hwl]
  ·simp only[hw,hS2];simp[Nat.add_assoc]
 ·have hd:decide ((k:Int)<(l.length:Int))=false:=by simp;omega
  rw[List.take_of_length_le (by omega)];simp only[List.append_assoc];refine zm hd ?_;refine zoG (t:=σ.length+T.length) (sz:=1) (n:=(b++zhl l).length) ?_ hl (by omega) ?_ ?_
  ·simp only[List.length_append,List.length_cons,List.length_nil];congr 1
  ·rw[zA,zB];simp[zhl]
  ·exact hK
theorem c_PutBatchO {b:List UInt8}{l:List zr}(hb:b.length<=268435456)(hs:∀x∈l,zmW x.op<=20971520)(hc:zD l=0)(hK:K (.own σ.length (bcs (b++zhl l))) (σ++[.tok 1 (b++zhl l).length])) :
  zP zhv [.d (.slice (bcs b)),.d (.slice (zbz l))] σ K:=by
 refine zbN zlB.is rfl (fun s=>[s.length-1]) fun hl _=>zlB.goes ?_;have h4:=(zkb hc).1;have hok:okB l:=⟨by omega,fun x hx=>sizes (hs x hx)⟩;have hq:(zD l != 0)=false:=by simpa using hc
 simp only[zlK,iN,bT,bF,eN];refine zG ?_;refine zjb hok ?_;refine zm hq ?_;refine c_partsPutO hb hs hc ?_;refine zG ?_;refine zoG (t:=σ.length) (sz:=1) (n:=(b++zhl l).length) (by simp) hl (by omega) ?_ ?_
 ·rw[zB];simp
 ·exact hK
variable {σ:List AObj} {K:KT}
structure zlV (σ:List AObj) (id:Nat) (B O:AObj) (S:List AObj):Prop where
 a:S[id]? = some O
 b:S[σ.length]? = some B
 pre:∃τ,S=σ.set id O++τ
section
variable {σ S:List AObj} {id:Nat} {B O O':AObj}
theorem zlV.first (hσ:σ[id]? = some O)(B:AObj):zlV σ id B O (σ++[B]):=⟨zi hσ,by rw[zB];rfl,[B],by rw[zbR hσ]⟩
theorem zlV.set (h:zlV σ id B O S)(hid:id<σ.length)(O':AObj):zlV σ id B O' (S.set id O'):=by
 obtain⟨h1,h2,τ,h3⟩:=h;refine⟨List.getElem?_set_self (zaa h1),(List.getElem?_set_ne (by omega)).trans h2,τ,?_⟩;rw[h3,List.set_append_left _ _ (by simpa using hid),List.set_set]
theorem zlV.app (h:zlV σ id B O S)(τ:List AObj):zlV σ id B O (S++τ):=by
 obtain⟨h1,h2,τ',h3⟩:=h;exact⟨zi h1,zi h2,τ'++τ,by rw[h3,List.append_assoc]⟩
theorem zlV.done (h:zlV σ id B O S)(hO:ztL σ.length O)(hl:zhp σ.length σ)(hK:K (.tup []) (σ.set id O)):AW.Ends σ.length K (some []) S:=by
 obtain⟨_,_,τ,rfl⟩:=h;exact zeP (by simp[zcm,dmT,zbu]) hl hO hK
theorem zlV.as (h:zlV σ id B O S)(e:O=O'):zlV σ id B O' S:=e▸h
end
abbrev wO (b:List UInt8):AObj:=.box [.d (.slice (bcs b))]
theorem zqf (n:Nat)(b:List UInt8):ztL n (wO b):=by
 intro c hc;simp only[List.mem_cons,List.not_mem_nil,or_false]at hc;subst hc;exact .d _
theorem w64 {x:Int}(h0:0<=x)(h1:x<=9007199254740992):IntKind.u64.wrap x=((x.toNat:Nat):Int):=by
 rw[show x=((x.toNat:Nat):Int) by omega,zdW (by omega)];rfl
section
variable {σ:List AObj} {id:Nat} {b:List UInt8} {K:KT}
theorem c_wNum {l:List Int}(hσ:σ[id]? = some (wO b))(hb:b.length<=536870912)(hl0:l.length<=1000)(hi:∀x∈l,0<=x/\x<=9007199254740992)(hK:K (.tup []) (σ.set id (wO (b++zS l)))) :
  zP zK [.box id 0,.d (.slice (zhY l))] σ K:=by
 refine zjd zlD.is rfl fun hl _=>zlD.goes ?_;have hid:=zaa hσ;simp only[zlO,iN,bT,bF,eN];refine zG ?_;refine zn l.length (fun k vs s=>vs=[.d (.int .i64 k)]/\∃c T,s=σ.set id (.box [c])++T/\(c=.d (.slice (bcs (b++zS (l.take k))))∨∃t,c=.own t (bcs (b++zS (l.take k))))) ⟨rfl,_,[],by rw[List.append_nil,zbR hσ],.inl (by simp[zS])⟩ ?_;rintro k vs s hk ⟨rfl,c,T,rfl,hc⟩;have hbox:(σ.set id (.box [c])++T)[id]? = some (.box [c]):=zi (zdt hσ);by_cases hlt:k<l.length
 ·have hd:decide ((k:Int)<(l.length:Int))=true:=by simp;omega
  have hx:l[k]? = some l[k]:=by simp[hlt]
  have hxi:=hi _ (List.getElem_mem hlt);have hgx:=zR (f:=fun t=>[D.int .i64 t]) hx;obtain⟨x,hxe⟩:∃x,l[k]=x:=⟨_,rfl⟩;rw[hxe]at hx hgx hxi;have hln:=zos (l:=l.take k) (fun y hy=>by have:=hi y (List.mem_of_mem_take hy);omega);have hlk:(l.take k).length=k:=by rw[List.length_take];omega
  have hw:=w64 hxi.1 hxi.2;have hbl:(b++zS (l.take k)).length<=1073741824:=by rw[List.length_append];omega
  have hnx:b++zS (l.take (k+1))=b++(zS (l.take k)++zbv x.toNat):=by rw[List.take_add_one,hx];simp[zS]
  have fin:∀t τ,∃c' T',(σ.set id (.box [c])++T++τ).set id (.box [.own t (bcs (b++(zS (l.take k)++zbv x.toNat)))])=σ.set id (.box [c'])++T'∧(c'=.d (.slice (bcs (b++zS (l.take (k+1)))))∨∃t,c'=.own t (bcs (b++zS (l.take (k+1))))):=by
   intro t τ;refine⟨_,T++τ,?_,.inr ⟨t,rfl⟩⟩;rw[hnx,List.append_assoc,List.set_append_left _ _ (by simpa using hid),List.set_set]
  have hbox2:∀τ,(σ.set id (.box [c])++T++τ)[id]? = some (.box [c]):=fun τ=>zi hbox;obtain⟨S,hS⟩:∃S,σ.set id (.box [c])++T=S:=⟨_,rfl⟩;rw[hS]at hbox fin hbox2 ⊢;rcases hc with rfl|⟨t,rfl⟩
  ·refine zm (zd hd (zd hgx (zd hbox hw))) ?_;refine zfy (by omega) hbl ?_;refine zm (zd hbox2 (wkc k (by omega))) ?_;exact zaK.next hlt ⟨rfl,fin _ _⟩
  ·refine zm (zd hd (zd hgx (zd hbox hw))) ?_;refine zfy (by omega) hbl ?_;refine zm (zd hbox2 (wkc k (by omega))) ?_;exact zaK.next hlt ⟨rfl,fin _ _⟩
 ·have hd:decide ((k:Int)<(l.length:Int))=false:=by simp;omega
  rw[List.take_of_length_le (by omega)]at hc;rcases hc with rfl|⟨t,rfl⟩
  ·refine zm hd ?_;refine ziN (zeP (by simp[zcm,dmT,zbu]) hl (zqf _ _) hK)
  ·refine zm hd ?_;exact zkk hσ (by simp[zcm,dmT,zbu]) hl hK
theorem c_wMany {n:Nat}(hσ:σ[id]? = some (wO b))(hb:b.length<=536870912)(hn:n<=1073741824)(hK:K (.tup []) (σ.set id (wO (b++zbv n)))) :
  zP zbm [.box id 0,.d (.int .i64 n)] σ K:=by
 refine zeq zri fun hl=>?_;simp only[zkU,iN,bT,bF,eN];refine zG ?_;refine c_wNum (l:=[(n:Int)]) hσ hb (by simp) (by simp;omega) ?_;refine zG ?_;exact zfb (by simp[zcm,dmT,zbu]) hl (zqf _ _) (by rw[show zS [(n:Int)]=zbv n by simp[zS]];exact hK)
theorem zAs {k d:Int}(hσ:σ[id]? = some (wO b))(hb:b.length<=536870912)(hc:zx k d=0)(hK:K (.tup []) (σ.set id (wO (b++zgt k d)))) :
  zP zaY [.box id 0,.agg [.d (.int .i64 k),.d (.int .i64 d)]] σ K:=by
 refine zjd ziV.is rfl fun hl _=>ziV.goes ?_;have hid:=zaa hσ;have hσ1:=fun τ=>zi (τ:=τ) hσ;simp only[zjg,iN,bT,bF,eN];refine zm hσ1 ?_;refine zyX (by omega) hc ?_;refine zm hσ1 ?_;rw[List.set_append_left _ _ hid];exact zkk hσ (by simp[zcm,dmT,zbu]) hl hK
theorem c_wBatch {l:List zr}(hσ:σ[id]? = some (wO b))(hb:b.length<=268435456)(hc:zD l=0)(hK:K (.tup []) (σ.set id (wO (b++zhl l)))) :
  zP zbt [.box id 0,.d (.slice (zbz l))] σ K:=by
 refine zjd zie.is rfl fun hl _=>zie.goes ?_;have hid:=zaa hσ;have hσ1:=fun τ=>zi (τ:=τ) hσ;simp only[zil,iN,bT,bF,eN];refine zm (zd hσ hσ1) ?_;refine c_PutBatchO hb (fun x hx=>Nat.le_trans ((zdK hc).1 x hx) (by omega)) hc ?_;refine zm (zd hσ hσ1) ?_;rw[List.set_append_left _ _ hid];exact zkk hσ (by simp[zcm,dmT,zbu]) hl hK
theorem c_wSigns {l:List zI}(hσ:σ[id]? = some (wO b))(hb:b.length<=268435456)(hc:∀e∈zco l,e=0)(hK:K (.tup []) (σ.set id (wO (b++zvL l)))) :
  zP zcM [.box id 0,.d (.slice (zat l))] σ K:=by
 refine zeq zob fun hl=>?_;obtain⟨h13,hs⟩:=zzF hc;have hid:=zaa hσ;have hll:(zat l).length=l.length:=List.length_map ..;simp only[zii,iN,bT,bF,eN];refine zm hll ?_;refine c_wMany (n:=l.length) hσ (by omega) (by omega) ?_;refine zm hll ?_;refine zn l.length (fun k vs s=>vs=[.d (.int .i64 k)]/\∃T,s=σ.set id (wO (b++(zbv l.length++((l.take k).map fun s=>zgt s.key s.dig).flatten)))++T) ⟨rfl,[],by simp⟩ ?_;rintro k vs s hk ⟨rfl,T,rfl⟩;obtain⟨O,hO⟩:∃O,wO (b++(zbv l.length++((l.take k).map fun s=>zgt s.key s.dig).flatten))=O:=⟨_,rfl⟩;rw[hO];by_cases hlt:k<l.length
 ·have hd:decide ((k:Int)<(l.length:Int))=true:=by simp;omega
  have hx:l[k]? = some l[k]:=by simp[hlt]
  have hxi:=hs _ (List.getElem_mem hlt);have hgx:=zR (f:=zgX) hx;obtain⟨x,hxe⟩:∃x,l[k]=x:=⟨_,rfl⟩;rw[hxe]at hx hgx hxi;have hlen:(((l.take k).map fun s=>zgt s.key s.dig).flatten).length<=(l.take k).length*20:=zcz fun s hm=>zgB (hs s (List.mem_of_mem_take hm));have hlk:(l.take k).length=k:=by rw[List.length_take];omega
  have n1:=zl (n:=l.length) (by omega);obtain⟨S,hS⟩:∃S,σ.set id O++T=S:=⟨_,rfl⟩;have hSid:S[id]? = some O:=by rw[← hS];exact zi (zdt hσ)
  rw[hS];refine zdV (zd hd (zd hgx hll)) ?_;refine zAs (by rw[← hO]at hSid;exact zi hSid) (by simp only[List.length_append];omega) hxi ?_;refine zm (wkc k (by omega)) ?_;refine zaK.next hlt ⟨rfl,T++[.box [.d (.int .i64 x.key),.d (.int .i64 x.dig)]],?_⟩;rw[zda hx,← hS,List.append_assoc (σ.set id O),List.set_append_left _ _ (by simpa using hid),List.set_set];try simp
 ·have hd:decide ((k:Int)<(l.length:Int))=false:=by simp;omega
  rw[List.take_of_length_le (by omega)]at hO;subst hO;refine zm (zd hd hll) ?_;exact zeP (by simp[zcm,dmT,zbu]) hl (zqf _ _) hK
theorem c_wCert {c:zjx}(hσ:σ[id]? = some (wO b))(hb:b.length<=134217728)(hc:∀e∈zbx c,e=0)(hK:K (.tup []) (σ.set id (wO (b++zrv c)))) :
  zP zcg [.box id 0,zmk c] σ K:=by
 refine zeq zoJ fun hl=>?_;have hid:=zaa hσ;obtain⟨h1,h2,h3⟩:=cert_ok hc;have n1:=zl (n:=c.seq.toNat) (by omega);have n2:=zl (n:=c.dig.toNat) (by omega);have j:=zlV.first hσ (.box [.d (.int .i64 c.seq),.d (.int .i64 c.dig),.d (.slice (zat c.signs))]);simp only[zjh,iN,bT,bF,eN];refine zG ?_;refine c_wNum (l:=[c.seq,c.dig]) j.a (by omega) (by simp) (by simp;omega) ?_;have j:=j.set hid (wO (b++zS [c.seq,c.dig]));obtain⟨S,hS⟩:∃S,(σ++[AObj.box [.d (.int .i64 c.seq),.d (.int .i64 c.dig),.d (.slice (zat c.signs))]]).set id (wO (b++zS [c.seq,c.dig]))=S:=⟨_,rfl⟩;rw[hS]at j ⊢;have b:=j.b;refine zm b ?_;refine c_wSigns j.a (by simp[zS];omega) h3 ?_;refine zG ?_;exact(j.set hid _).done (zqf _ _) hl (by simpa [zS,zrv] using hK)
end
variable {σ:List AObj} {K:KT}
theorem zlV.trans {σ S S2:List AObj}{id:Nat}{B X O O':AObj}(h:zlV σ id B O S)(hid:id<σ.length)(h2:zlV S id X O' S2):zlV σ id B O' S2:=by
 obtain⟨_,_,τ,rfl⟩:=h2;exact(h.set hid O').app τ
section
variable {σ S:List AObj} {id:Nat} {B:AObj} {b:List UInt8} {K:KT} (j:zlV σ id B (wO b) S) (hid:id<σ.length)
include j hid
theorem zgI {l:List Int}(hb:b.length<=536870912)(hl0:l.length<=1000)(hi:∀x∈l,0<=x/\x<=9007199254740992)(hK:∀S,zlV σ id B (wO (b++zS l)) S->K (.tup []) S) :
  zP zK [.box id 0,.d (.slice (zhY l))] S K:=c_wNum j.a hb hl0 hi (hK _ (j.set hid _))
theorem zwh {n:Nat}(hb:b.length<=536870912)(hn:n<=1073741824)(hK:∀S,zlV σ id B (wO (b++zbv n)) S->K (.tup []) S) :
  zP zbm [.box id 0,.d (.int .i64 n)] S K:=c_wMany j.a hb hn (hK _ (j.set hid _))
theorem jw_sign {k d:Int}(hb:b.length<=536870912)(hc:zx k d=0)(hK:∀S,zlV σ id B (wO (b++zgt k d)) S->K (.tup []) S) :
  zP zaY [.box id 0,.agg [.d (.int .i64 k),.d (.int .i64 d)]] S K:=zAs j.a hb hc (hK _ (j.set hid _))
theorem zvh {l:List zr}(hb:b.length<=268435456)(hc:zD l=0)(hK:∀S,zlV σ id B (wO (b++zhl l)) S->K (.tup []) S) :
  zP zbt [.box id 0,.d (.slice (zbz l))] S K:=c_wBatch j.a hb hc (hK _ (j.set hid _))
theorem jw_signs {l:List zI}(hb:b.length<=268435456)(hc:∀e∈zco l,e=0)(hK:∀S,zlV σ id B (wO (b++zvL l)) S->K (.tup []) S) :
  zP zcM [.box id 0,.d (.slice (zat l))] S K:=c_wSigns j.a hb hc (hK _ (j.set hid _))
theorem jw_cert {c:zjx}(hb:b.length<=134217728)(hc:∀e∈zbx c,e=0)(hK:∀S,zlV σ id B (wO (b++zrv c)) S->K (.tup []) S) :
  zP zcg [.box id 0,zmk c] S K:=c_wCert j.a hb hc (hK _ (j.set hid _))
end
theorem c_wBody {id:Nat}{b:List UInt8}{c:zbj}(hσ:σ[id]? = some (wO b))(hb:b.length<=67108864)(hc:∀e∈zez c,e=0)(hK:K (.tup []) (σ.set id (wO (b++zuW c)))) :
  zP zec [.box id 0,.agg (zbL c)] σ K:=by
 refine zeq zoK fun hl=>?_;have hid:=zaa hσ;have hpl:(zfw c.above).length=c.above.length:=List.length_map ..;obtain⟨h1,h2,h3,h4,h5⟩:=body_ok hc;have n1:=zl (n:=c.view.toNat) (by omega);have n2:=zl (n:=c.src.toNat) (by omega);have n3:=zl (n:=c.above.length) (by omega);have n4:=zhN h3;simp only[zji,iN,bT,bF,eN,zl7];have j:=zlV.first hσ (.box (zbL c));refine zG ?_;refine zgI (l:=[c.view,c.src]) j hid (by omega) (by simp) (by simp;omega) fun S j=>?_;have b0:=j.b;refine zm b0 ?_;refine jw_cert (c:=c.cert) j hid (by simp[zS];omega) h3 fun S j=>?_;have b0:=j.b;refine zm (zd b0 hpl) ?_;refine zwh (n:=c.above.length) j hid (by simp[zS];omega) (by omega) fun S j=>?_;have b0:=j.b;obtain⟨Q,hQ⟩:∃Q,b++zS [c.view,c.src]++zrv c.cert++zbv c.above.length=Q:=⟨_,rfl⟩;have hQl:Q.length<=67108864+400:=by rw[← hQ];simp[zS];omega
 rw[hQ]at j;refine zm (zd b0 hpl) ?_;refine zn c.above.length (fun k vs S=>vs=[.d (.int .i64 k)]/\zlV σ id (.box (zbL c)) (wO (Q++((c.above.take k).map zux).flatten)) S) ⟨rfl,by simpa using j⟩ ?_;rintro k vs S hk ⟨rfl,j⟩;by_cases hlt:k<c.above.length
 ·have hd:decide ((k:Int)<(c.above.length:Int))=true:=by simp;omega
  have hx:c.above[k]? = some c.above[k]:=by simp[hlt]
  have hpx:=h5 _ (List.getElem_mem hlt);have hgx:=zR (f:=zgb) hx;obtain⟨p,hp⟩:∃p,c.above[k]=p:=⟨_,rfl⟩;rw[hp]at hx hgx hpx;have hlen:(((c.above.take k).map zux).flatten).length<=(c.above.take k).length*4400:=zcz fun s hm=>zvR (h5 s (List.mem_of_mem_take hm));have hlk:(c.above.take k).length=k:=by rw[List.length_take];omega
  obtain⟨R,hR⟩:∃R,Q++((c.above.take k).map zux).flatten=R:=⟨_,rfl⟩;have hRl:R.length<=67108864+36000:=by rw[← hR,List.length_append];omega
  rw[hR]at j;obtain⟨p1,p2,p3,p4,p5,p6⟩:=prep_ok hpx;have m1:=zl (n:=p.view.toNat) (by omega);have m2:=zl (n:=p.seq.toNat) (by omega);have m3:=zl (n:=p.dig.toNat) (by omega);have m4:=zgB p4;have m5:=zpr p5;have hS:id<S.length:=zaa j.a;have i:=zlV.first j.a (.box (prepL p));refine zdV (zd hd (zd hgx hpl)) ?_;refine zgI (l:=[p.view,p.seq,p.dig]) i hS (by omega) (by simp) (by simp;omega) fun S2 i=>?_;have b0:=i.b;refine zm b0 ?_;refine jw_sign i hS (by simp[zS];omega) p4 fun S2 i=>?_;have b0:=i.b;refine zm b0 ?_;refine jw_signs i hS (by simp[zS];omega) p5 fun S2 i=>?_;have b0:=i.b;refine zm b0 ?_;refine zvh i hS (by simp[zS];omega) p6 fun S2 i=>?_;refine zm (wkc k (by omega)) ?_;refine zaK.next hlt ⟨rfl,(j.trans hid i).as ?_⟩;rw[zda hx,← hR];simp[zux,zS]
 ·have hd:decide ((k:Int)<(c.above.length:Int))=false:=by simp;omega
  rw[show c.above.take k=c.above from List.take_of_length_le (by omega)]at j;refine zm (zd hd hpl) ?_;exact(j.as (by rw[← hQ];simp[zuW,zS])).done (zqf _ _) hl hK
theorem c_wChange {id:Nat}{b:List UInt8}{c:zbj}(hσ:σ[id]? = some (wO b))(hb:b.length<=67108864)(hc:∀e∈zaT c,e=0)(hK:K (.tup []) (σ.set id (wO (b++zfU c)))) :
  zP zeY [.box id 0,.agg (zbL c)] σ K:=by
 refine zeq znp fun hl=>?_;have hid:=zaa hσ;obtain⟨h1,h2⟩:=ziX hc;have n1:=zsu h1;simp only[zhU,iN,bT,bF,eN];have j:=zlV.first hσ (.box (zbL c));refine zG ?_;refine c_wBody (c:=c) j.a hb h1 ?_;have j:=j.set hid (wO (b++zuW c));obtain⟨S,hS⟩:∃S,(σ++[AObj.box (zbL c)]).set id (wO (b++zuW c))=S:=⟨_,rfl⟩;rw[hS]at j ⊢;have b0:=j.b;refine zm b0 ?_;refine jw_sign j hid (by simp;omega) h2 fun S j=>?_;refine zG ?_;exact(j.as (by simp[zfU])).done (zqf _ _) hl hK
end Go.Proofs.YtdgcepphjnoalaaGreat

/- The bytes of view-changes and new views, and how many they are at most. No program in sight. -/
import Derived.Test.YtpgahkdjkanblaaGreatSpMsg
import Derived.Test.YtpgahkdjkanblaaGreatSpTab
import Derived.Test.YtpgahkdjkanblaaGreatCk2
import Derived.Test.YtpgahkdjkanblaaGreatRq1
import Derived.Test.YtpgahkdjkanblaaGreatCodec1
set_option linter.all false
namespace Go.AW
theorem zzj:∀ {f:Nat} {s:List UInt8} {n:Nat},zfp f s=some n->s.length<=4*n
 | 0,_,_,h=>by simp [zfp] at h
 | f+1,s,n,h=>by
  unfold zfp at h
  split at h
  ·rename_i h0;simp [h0]
  ·split at h
   ·cases h
   ·simp only [Option.map_eq_some_iff] at h
    obtain ⟨k,hk,rfl⟩:=h
    have h1:=zzj hk
    have h2:=zmi s
    simp only [List.length_drop] at h1
    omega
theorem name64 {s:List UInt8} (h:zjG s=true):s.length<=64:=by
 unfold zjG ziG at h
 simp only [decide_eq_true_eq] at h
 split at h
 ·rename_i n hn
  have:=zzj hn
  split at h
  ·omega
  ·omega
 ·omega
theorem op_small {o:TOp} (h:zcT zjG o=0):zlf o<=500:=by
 obtain ⟨k0,k4,o0,o1,ho⟩:=zvv h
 unfold zcT at h
 split at h
 ·cases h
 split at h
 ·cases h
 rename_i h1
 split at h
 ·cases h
 rename_i h2
 split at h
 ·cases h
 rename_i h3
 have e1:o.topic=(zou o).topic:=congrArg _ ho
 have e2:o.group=(zou o).group:=congrArg _ ho
 have e3:o.recs=(zou o).recs:=congrArg _ ho
 have hk:o.kind=0∨o.kind=1∨o.kind=2∨o.kind=3∨o.kind=4:=by omega
 have ht:o.kind≠0->o.topic.length<=64:=fun hk=>name64 (by simpa [hk] using h1)
 have hg:o.kind=3->o.group.length<=64:=fun hk=>name64 (by simpa [hk] using h2)
 have hr:o.kind=2->(o.recs.map fun r=>r.length+10).sum<=296:=by
  intro hk
  simp only [hk,true_and,not_or,Int.not_lt] at h3
  obtain ⟨h4,h5,h6⟩:=h3
  have h7:∀ r∈o.recs,r.length<=64:=by
   intro r hr
   simp only [List.any_eq_true,not_exists,not_and,decide_eq_true_eq] at h6
   have:=h6 r hr
   omega
  have key:∀ l:List (List UInt8),(∀ r∈l,r.length<=64)->(l.map fun r=>r.length+10).sum<=l.length*74:=by
   intro l
   induction l with
   | nil=>simp
   | cons r l ih=>
    intro h
    have h8:=ih fun r hr=>h r (by simp [hr])
    have h9:=h r (by simp)
    simp only [List.map_cons,List.sum_cons,List.length_cons]
    omega
  have:=key o.recs h7
  have:o.recs.length*74<=4*74:=Nat.mul_le_mul_right _ (by omega)
  omega
 unfold zlf
 rcases hk with hk|hk|hk|hk|hk
 ·simp [zou,hk,noOp] at e1 e2 e3;simp [e1,e2,e3]
 ·simp [zou,hk,noOp] at e1 e2 e3;have:=ht (by omega);simp [e2,e3];omega
 ·simp [zou,hk,noOp] at e1 e2 e3;have:=ht (by omega);have:=hr hk;simp only [e2,List.length_nil];omega
 ·simp [zou,hk,noOp] at e1 e2 e3;have:=ht (by omega);have:=hg hk;simp [e3];omega
 ·simp [zou,hk,noOp] at e1 e2 e3;have:=ht (by omega);simp [e2,e3];omega
theorem zdK {α β:Type} {f : α->List β} {n:Nat} {l:List α} (h:∀ x∈l,(f x).length<=n):((l.map f).flatten).length<=l.length*n:=by
 induction l with
 | nil=>simp
 | cons x l ih=>
  have h1:=ih fun y hy=>h y (by simp [hy])
  have h2:=h x (by simp)
  simp only [List.map_cons,List.flatten_cons,List.length_append,List.length_cons,Nat.add_mul,Nat.one_mul]
  omega
theorem zff {l:List zC} (h:zr l=0):(∀ x∈l,zlf x.op<=500)/\(zbN l).length<=4000:=by
 obtain ⟨h4,hm,_⟩:=zjP h
 have hz:∀ x∈l,zlf x.op<=500:=fun x hx=>op_small (req_ok (hm x hx).1).2.2.2.2
 refine ⟨hz,?_⟩
 have h1:∀ x∈l,(oneB x).length<=700:=by
  intro x hx
  have a:=zAb (Nat.le_trans (hz x hx) (by omega)) (hm x hx).1
  have b:=zfj (hm x hx).2
  have c:=ziv (x:=reqB x) (by have:=hz x hx;omega)
  have:=hz x hx
  simp only [oneB,List.length_append];omega
 have h2:(zdv l).length<=l.length*700:=zdK h1
 have:l.length*700<=4*700:=Nat.mul_le_mul_right _ h4
 have n1:=zm (n:=l.length) (by omega)
 simp only [zbN,List.length_append];omega
theorem fstE_mem {l:List Int} (h:zbg l=0):∀ e∈l,e=0:=by
 induction l with
 | nil=>simp
 | cons x l ih=>
  unfold zbg at h
  split at h
  ·rename_i hx;exact absurd h hx
  ·rename_i hx
   intro e he
   rcases List.mem_cons.1 he with rfl|he
   ·simpa using hx
   ·exact ih h e he
def zvI (l:List zy):List UInt8:=zcA l.length++(l.map fun s=>zfL s.key s.dig).flatten
def zwW (c:zeP):List UInt8:=zcA c.seq.toNat++(zcA c.dig.toNat++zvI c.signs)
def zuQ (p:zbO):List UInt8:=zcA p.view.toNat++(zcA p.seq.toNat++(zcA p.dig.toNat++(zfL p.fkey p.fdig++(zvI p.signs++zbN p.batch))))
def ztW (c:zJ):List UInt8:=zcA c.view.toNat++(zcA c.src.toNat++(zwW c.cert++(zcA c.above.length++(c.above.map zuQ).flatten)))
def zfW (c:zJ):List UInt8:=ztW c++zfL c.key c.dig
def znn (x:zaI):List UInt8:=zcA x.view.toNat++(zcA x.seq.toNat++(zbN x.batch++zfL x.key x.dig))
def newvB (m:zcS):List UInt8:=zcA m.src.toNat++(zcA m.view.toNat++(zcA m.changes.length++((m.changes.map zfW).flatten++(zcA m.entries.length++(m.entries.map znn).flatten))))
theorem zzS {l:List zy} (h:∀ e∈zcs l,e=0):l.length<=13/\∀ s∈l,zN s.key s.dig=0:=by
 refine ⟨?_,fun s hs=>h _ (List.mem_cons_of_mem _ (List.mem_map_of_mem hs))⟩
 have:=zAk (h _ List.mem_cons_self)
 omega
theorem zpz {l:List zy} (h:∀ e∈zcs l,e=0):(zvI l).length<=270:=by
 obtain ⟨h1,h2⟩:=zzS h
 have h3:((l.map fun s=>zfL s.key s.dig).flatten).length<=l.length*20:=zdK fun s hs=>zfj (h2 s hs)
 have n1:=zm (n:=l.length) (by omega)
 have:l.length*20<=13*20:=Nat.mul_le_mul_right _ h1
 simp only [zvI,List.length_append];omega
theorem cert_ok {c:zeP} (h:∀ e∈zdd c,e=0):(0<=c.seq/\c.seq<=9007199254740992)/\(0<=c.dig/\c.dig<=9007199254740992)/\∀ e∈zcs c.signs,e=0:=
 ⟨numE_0 (h _ (by simp [zdd])),numE_0 (h _ (by simp [zdd])),fun e he=>h e (by simp only [zdd,List.mem_cons];exact .inr (.inr (.inr he)))⟩
theorem zwV {c:zeP} (h:∀ e∈zdd c,e=0):(zwW c).length<=290:=by
 obtain ⟨h1,h2,h3⟩:=cert_ok h
 have:=zpz h3
 have n1:=zm (n:=c.seq.toNat) (by omega)
 have n2:=zm (n:=c.dig.toNat) (by omega)
 simp only [zwW,List.length_append];omega
theorem posE_0 {n:Int} (h:zrD n=0):1<=n/\n<=9007199254740992:=zAk h
structure prepOkE (p:zbO):Prop where
 view:0<=p.view/\p.view<=9007199254740992
 seq:1<=p.seq/\p.seq<=9007199254740992
 dig:1<=p.dig/\p.dig<=9007199254740992
 first:zN p.fkey p.fdig=0
 signs:∀ e∈zcs p.signs,e=0
 batch:zr p.batch=0
theorem prep_ok {p:zbO} (h:∀ e∈zeb p,e=0):prepOkE p:=
 ⟨numE_0 (h _ (by simp [zeb])),posE_0 (h _ (by simp [zeb])),posE_0 (h _ (by simp [zeb])),h _ (by simp [zeb]),fun e he=>h e (by simp only [zeb,List.mem_cons,List.mem_append];exact .inr (.inr (.inr (.inr (.inl he))))),h _ (by simp [zeb])⟩
theorem zvN {p:zbO} (h:∀ e∈zeb p,e=0):(zuQ p).length<=4400:=by
 obtain ⟨h1,h2,h3,h4,h5,h6⟩:=prep_ok h
 have:=zpz h5
 have:=zfj h4
 have:=(zff h6).2
 have n1:=zm (n:=p.view.toNat) (by omega)
 have n2:=zm (n:=p.seq.toNat) (by omega)
 have n3:=zm (n:=p.dig.toNat) (by omega)
 simp only [zuQ,List.length_append];omega
structure bodyOkE (c:zJ):Prop where
 view:1<=c.view/\c.view<=9007199254740992
 src:0<=c.src/\c.src<=12
 cert:∀ e∈zdd c.cert,e=0
 many:c.above.length<=8
 above:∀ p∈c.above, ∀ e∈zeb p,e=0
theorem body_ok {c:zJ} (h:∀ e∈zey c,e=0):bodyOkE c:=by
 refine ⟨posE_0 (h _ (by simp [zey])),zAk (h (zxh c.src) (by simp [zey])),fun e he=>h e (by simp [zey,he]),?_,fun p hp e he=>h e ?_⟩
 ·have:=zAk (h (inE c.above.length 0 8) (by simp [zey]));omega
 ·simp only [zey,List.mem_cons,List.mem_append,List.mem_flatten,List.mem_map]
  exact .inr (.inr (.inr (.inr ⟨_,⟨p,hp,rfl⟩,he⟩)))
theorem zoX {c:zJ} (h:∀ e∈zey c,e=0):(ztW c).length<=36000:=by
 obtain ⟨h1,h2,h3,h4,h5⟩:=body_ok h
 have:=zwV h3
 have h6:((c.above.map zuQ).flatten).length<=c.above.length*4400:=zdK fun p hp=>zvN (h5 p hp)
 have:c.above.length*4400<=8*4400:=Nat.mul_le_mul_right _ h4
 have n1:=zm (n:=c.view.toNat) (by omega)
 have n2:=zm (n:=c.src.toNat) (by omega)
 have n3:=zm (n:=c.above.length) (by omega)
 simp only [ztW,List.length_append];omega
theorem zkC {c:zJ} (h:∀ e∈zaY c,e=0):(∀ e∈zey c,e=0)/\zN c.key c.dig=0:=
 ⟨fun e he=>h e (by simp [zaY,he]),h _ (by simp [zaY])⟩
theorem zro {c:zJ} (h:∀ e∈zaY c,e=0):(zfW c).length<=36020:=by
 obtain ⟨h1,h2⟩:=zkC h
 have:=zoX h1
 have:=zfj h2
 simp only [zfW,List.length_append];omega
structure entryOkE (x:zaI):Prop where
 view:0<=x.view/\x.view<=9007199254740992
 seq:1<=x.seq/\x.seq<=9007199254740992
 batch:zr x.batch=0
 sign:zN x.key x.dig=0
theorem zAq {x:zaI} (h:∀ e∈zep x,e=0):entryOkE x:=
 ⟨numE_0 (h _ (by simp [zep])),posE_0 (h _ (by simp [zep])),h _ (by simp [zep]),h _ (by simp [zep])⟩
theorem ztE {x:zaI} (h:∀ e∈zep x,e=0):(znn x).length<=4040:=by
 obtain ⟨h1,h2,h3,h4⟩:=zAq h
 have:=zfj h4
 have:=(zff h3).2
 have n1:=zm (n:=x.view.toNat) (by omega)
 have n2:=zm (n:=x.seq.toNat) (by omega)
 simp only [znn,List.length_append];omega
structure newvOkE (m:zcS):Prop where
 src:0<=m.src/\m.src<=12
 view:1<=m.view/\m.view<=9007199254740992
 manyC:m.changes.length<=13
 change:∀ c∈m.changes, ∀ e∈zaY c,e=0
 manyE:m.entries.length<=8
 entry:∀ x∈m.entries, ∀ e∈zep x,e=0
theorem newv_ok {m:zcS} (h:∀ e∈zfN m,e=0):newvOkE m:=by
 refine ⟨zAk (h (zxh m.src) (by simp [zfN])),posE_0 (h _ (by simp [zfN])),?_,fun p hp e he=>h e ?_,?_,fun p hp e he=>h e ?_⟩
 ·have:=zAk (h (inE m.changes.length 0 13) (by simp [zfN]));omega
 ·simp only [zfN,List.mem_cons,List.mem_append,List.mem_flatten,List.mem_map]
  exact .inr (.inr (.inr (.inl ⟨_,⟨p,hp,rfl⟩,he⟩)))
 ·have:=zAk (h (inE m.entries.length 0 8) (by simp [zfN]));omega
 ·simp only [zfN,List.mem_cons,List.mem_append,List.mem_flatten,List.mem_map]
  exact .inr (.inr (.inr (.inr (.inr ⟨_,⟨p,hp,rfl⟩,he⟩))))
theorem newvB_len {m:zcS} (h:∀ e∈zfN m,e=0):(newvB m).length<=600000:=by
 obtain ⟨h1,h2,h3,h4,h5,h6⟩:=newv_ok h
 have a:((m.changes.map zfW).flatten).length<=m.changes.length*36020:=zdK fun p hp=>zro (h4 p hp)
 have b:((m.entries.map znn).flatten).length<=m.entries.length*4040:=zdK fun p hp=>ztE (h6 p hp)
 have:m.changes.length*36020<=13*36020:=Nat.mul_le_mul_right _ h3
 have:m.entries.length*4040<=8*4040:=Nat.mul_le_mul_right _ h5
 have n1:=zm (n:=m.src.toNat) (by omega)
 have n2:=zm (n:=m.view.toNat) (by omega)
 have n3:=zm (n:=m.changes.length) (by omega)
 have n4:=zm (n:=m.entries.length) (by omega)
 simp only [newvB,List.length_append];omega
def zjb (m:zcS):List UInt8:=zcA m.kind.toNat++(if m.kind=7 then (match m.changes with|c::_=>ztW c|[] => []) else if m.kind=8 then newvB m else [])
def zuR (m:zcS):zy:=if m.kind=7 then (match m.changes with|c::_=>⟨c.key,c.dig⟩|[]=>⟨m.key,m.sdig⟩) else ⟨m.key,m.sdig⟩
def zla (m:zcS):List UInt8:=zjb m++zfL (zuR m).key (zuR m).dig
def zaT (m:zcS):Int:=if zaD m≠0 then zaD m else if (zla m).length > 262144 then 3 else 0
def zho (m:zcS):List UInt8:=if zaT m=0 then zla m else []
def zbJ (m:zcS):zcS:=if m.kind=7 then (match m.changes with|[c]=>{ m with changes := [{ c with key := 0,dig := 1 }] } | _=>m) else if zvQ m.kind=true then { m with key := 0,sdig := 1 } else m
def zee (m:zcS):List UInt8:=if zaT (zbJ m)=0 then 6::zjb (zbJ m) else []
def zcr (L:List (List UInt8)) (G:List zy) (m:zcS):Bool:=decide (zaD m=0)&&(decide (zaT (zbJ m)=0)&&zfJ L G (zuR m) m.src (zee m))
def vcM (c:zJ):zcS:={ zed with kind := 7,src:=c.src,view:=c.view,changes := [c] }
theorem check_all {m:zcS} (h:zaD m=0):(∀ e∈zfA m,e=0)/\m=zmo m:=by
 unfold zaD at h
 split at h
 ·rename_i h1;exact absurd h h1
 ·rename_i h1
  split at h
  ·rename_i h2;exact ⟨fstE_mem (by simpa using h1),h2⟩
  ·cases h
theorem check7 {m:zcS} (hk:m.kind=7) (h:zaD m=0):∃ c,m.changes = [c]/\∀ e∈zaY c,e=0:=by
 have h1:=(check_all h).1
 simp only [zfA,zmI,hk] at h1
 have h2:=zAk (h1 (inE m.changes.length 1 1) (by simp))
 obtain ⟨c,hc⟩:∃ c,m.changes = [c]:=List.length_eq_one_iff.1 (by omega)
 refine ⟨c,hc,fun e he=>h1 e ?_⟩
 simp [hc,he]
theorem check8 {m:zcS} (hk:m.kind=8) (h:zaD m=0):(∀ e∈zfN m,e=0)/\zN m.key m.sdig=0:=by
 have h1:=(check_all h).1
 simp only [zfA,zmI,hk] at h1
 exact ⟨fun e he=>h1 e (by simp [he]),h1 _ (by simp [show zvQ 8=true from rfl])⟩
end Go.AW

/- Contracts: which view-changes and new views may be, the document's. -/
set_option maxRecDepth 100000
namespace Go.Proofs.YtpgahkdjkanblaaGreat
open Go.AW
theorem zwr (l r:List Int):zbg (zbg l::r)=zbg (l++r):=by
 rw [zjL];rfl
theorem zAl {α:Type} {f : α->List Int} {l:List α} {k:Nat} {x : α} (h:l[k]? = some x) (h0:∀ y∈l.take k,zbg (f y)=0) (hx:zbg (f x)≠0) (r:List Int):zbg ((l.map f).flatten++r)=zbg (f x):=by
 have e:l=l.take k++x::l.drop (k+1):=by
  obtain ⟨hk,rfl⟩:=List.getElem?_eq_some_iff.1 h
  simp
 have z:∀ m:List α,(∀ y∈m,zbg (f y)=0)->zbg ((m.map f).flatten)=0:=by
  intro m
  induction m with
  | nil=>intro _;rfl
  | cons y m ih=>intro h;simp only [List.map_cons,List.flatten_cons];rw [zkx (h y (by simp))];exact ih fun z hz=>h z (by simp [hz])
 rw [e,List.map_append,List.flatten_append,List.append_assoc,zkx (z _ h0),List.map_cons,List.flatten_cons,List.append_assoc,zws hx]
theorem zsd {α:Type} {f : α->List Int}:∀ {l:List α},(∀ y∈l,zbg (f y)=0)->zbg ((l.map f).flatten)=0
 | [],_=>rfl
 | y::l,h=>by simp only [List.map_cons,List.flatten_cons];rw [zkx (h y (by simp))];exact zsd fun z hz=>h z (by simp [hz])
theorem c_kBroker {σ:List zd} {n:Int} {K:KT} (hK:K (.d (.int .i64 (zxh n))) σ):zj Tryz.prog zej [.d (.int .i64 n)] σ K:=by
 refine zdZ e_r10_broker fun hl => ?_
 simp only [zuH,iN,bT,bF,eN]
 refine zQ ?_
 refine c_kIn ?_
 refine zQ ?_
 refine zt hl ?_
 exact hK
theorem c_kPrep {σ:List zd} {p:zbO} (hs:p.signs.length<=1073741824) (hb:okB p.batch) {K:KT} (hK:K (.d (.int .i64 (zbg (zeb p)))) σ) :
  zj Tryz.prog zgG [.agg [.d (.int .i64 p.view),.d (.int .i64 p.seq),.d (.int .i64 p.dig),.d (.int .i64 p.fkey),.d (.int .i64 p.fdig),.d (.slice (zO p.signs)),.d (.slice (zaP p.batch))]] σ K:=by
 refine zdZ zrb fun hl => ?_
 simp only [zkI,iN,bT,bF,eN]
 refine zQ ?_
 refine c_kNum ?_
 refine zQ ?_
 refine c_kPos ?_
 refine zQ ?_
 refine c_kPos ?_
 refine zQ ?_
 refine zdl ?_
 refine zQ ?_
 refine c_kSigns hs ?_
 refine zQ ?_
 refine zgh hb ?_
 refine zQ ?_
 refine zpQ (l := [zlL p.view,zrD p.seq,zrD p.dig,zN p.fkey p.fdig,zbg (zcs p.signs),zr p.batch]) (by simp) ?_
 have e:zbg [zlL p.view,zrD p.seq,zrD p.dig,zN p.fkey p.fdig,zbg (zcs p.signs),zr p.batch]=zbg (zeb p):=by
  simp only [zeb,zwr,zbg]
  rw [← zwr];rfl
 rw [e]
 refine zQ ?_
 refine zt hl ?_
 exact hK
theorem c_kBody {σ:List zd} {c:zJ} (hc:okCh c) {K:KT} (hK:K (.d (.int .i64 (zbg (zey c)))) σ):zj Tryz.prog zkk [.agg (zbj c)] σ K:=by
 refine zdZ zwK fun hl => ?_
 have fin:∀ z,zbg (zey c)=z->K (.d (.int .i64 z)) σ:=fun z h=>h▸hK
 clear hK
 have hpl:(zdC c.above).length=c.above.length:=List.length_map ..
 have hal:=hc.above
 simp only [zpk,iN,bT,bF,eN]
 refine zQ ?_
 refine c_kPos ?_
 refine zQ ?_
 refine c_kBroker ?_
 refine zQ ?_
 refine c_kCert (c:=c.cert) hc.signs ?_
 refine zQ ?_
 refine zpQ (l := [zrD c.view,zxh c.src,zbg (zdd c.cert)]) (by simp) ?_
 have e:∀ r,zbg (zrD c.view::zxh c.src::(zdd c.cert++r))=if zbg [zrD c.view,zxh c.src,zbg (zdd c.cert)]≠0 then zbg [zrD c.view,zxh c.src,zbg (zdd c.cert)] else zbg r:=by
  intro r
  rw [← zjL]
  simp only [List.cons_append,List.nil_append,zbg]
  rw [zjL]
 cases h1:(zbg [zrD c.view,zxh c.src,zbg (zdd c.cert)] != 0)
 rotate_left
 ·refine zA h1 ?_
  refine zt hl ?_
  exact fin _ (by rw [zey,e,if_pos (by simpa using h1)])
 have e1:zbg (zey c)=zbg (inE c.above.length 0 8::(c.above.map zeb).flatten):=by rw [zey,e,if_neg (by simpa using h1)]
 by_cases h2:c.above.length > 8
 ·have h2':decide ((c.above.length:Int) > 8)=true:=by simp;omega
  refine zA (zo h1 (zo hpl h2')) ?_
  refine zt hl ?_
  exact fin _ (by rw [e1,inE,if_pos (by omega)];rfl)
 have h2':decide ((c.above.length:Int) > 8)=false:=by simp;omega
 have e2:zbg (zey c)=zbg ((c.above.map zeb).flatten):=by rw [e1,inE,if_neg (by omega)];rfl
 refine zA (zo h1 (zo hpl h2')) ?_
 refine zl c.above.length (fun k vs s=>vs = [.d (.int .i64 k)]/\s = σ++[.box (zbj c)]/\∀ p∈c.above.take k,zbg (zeb p)=0) ⟨rfl,rfl,by simp⟩ ?_
 rintro k vs s hk ⟨rfl,rfl,h0⟩
 by_cases hlt:k<c.above.length
 ·have hd:decide ((k:Int)<(c.above.length:Int))=true:=by simp;omega
  have hx:c.above[k]? = some c.above[k]:=by simp [hlt]
  have hpx:=hc.each _ (List.getElem_mem hlt)
  have hgx:=zF (f:=zei) hx
  obtain ⟨p,hp⟩:∃ p,c.above[k]=p:=⟨_,rfl⟩
  rw [hp] at hx hgx hpx
  refine zfG (zo hd (zo hgx hpl)) ?_
  refine c_kPrep (p:=p) hpx.1 hpx.2 ?_
  cases h3:(zbg (zeb p) != 0)
  ·refine zA (zo h3 (wkc k (by omega))) ?_
   refine zan.next hlt ⟨rfl,rfl,?_⟩
   intro q hq
   rw [List.take_add_one,hx] at hq
   simp at hq
   rcases hq with hq|rfl
   ·exact h0 q hq
   ·simpa using h3
  ·refine zA h3 ?_
   refine zt hl ?_
   refine fin _ ?_
   have:=zAl hx h0 (by simpa using h3) []
   rw [List.append_nil] at this
   rw [e2,this]
 ·have hd:decide ((k:Int)<(c.above.length:Int))=false:=by simp;omega
  rw [List.take_of_length_le (by omega)] at h0
  refine zA (zo hd hpl) ?_
  refine zt hl ?_
  exact fin _ (by rw [e2,zsd h0])
theorem c_kChange {σ:List zd} {c:zJ} (hc:okCh c) {K:KT} (hK:K (.d (.int .i64 (zbg (zaY c)))) σ):zj Tryz.prog zge [.agg (zbj c)] σ K:=by
 refine zdZ ztJ fun hl => ?_
 simp only [zmv,iN,bT,bF,eN]
 refine zQ ?_
 refine c_kBody (c:=c) hc ?_
 refine zQ ?_
 refine zdl ?_
 refine zQ ?_
 refine zpQ (l := [zbg (zey c),zN c.key c.dig]) (by simp) ?_
 rw [zwr]
 refine zQ ?_
 refine zt hl ?_
 exact hK
theorem c_Same1 {σ:List zd} {a b:zC} (ha:a.op.recs.length<=1073741824) (hb:b.op.recs.length<=1073741824) {K:KT} (hK:K (.d (.bool (decide (a=b)))) σ):zj Tryz.prog zgB [zfK a,zfK b] σ K:=by
 refine zeE zuX fun hl => ?_
 have e:a=b↔a.key=b.key/\a.dig=b.dig/\a.client=b.client/\a.time=b.time/\a.op=b.op:=by cases a;cases b;simp;constructor<;>(intro h;simp_all)
 have fin:∀ z,decide (a=b)=z->K (.d (.bool z)) σ:=fun z h=>h▸hK
 clear hK
 simp only [zny,iN,bT,bF,eN,zfK]
 cases h1:(a.key==b.key)
 ·refine zkZ h1 ?_
  refine zt hl ?_
  refine fin _ (decide_eq_false fun h => ?_)
  have:=(e.1 h).1;simp [this] at h1
 cases h2:(a.dig==b.dig)
 ·refine zkZ (zo h1 h2) ?_
  refine zt hl ?_
  refine fin _ (decide_eq_false fun h => ?_)
  have:=(e.1 h).2.1;simp [this] at h2
 cases h3:(a.client==b.client)
 ·refine zkZ (zo h1 (zo h2 h3)) ?_
  refine zt hl ?_
  refine fin _ (decide_eq_false fun h => ?_)
  have:=(e.1 h).2.2.1;simp [this] at h3
 cases h4:(a.time==b.time)
 ·refine zkZ (zo h1 (zo h2 (zo h3 h4))) ?_
  refine zt hl ?_
  refine fin _ (decide_eq_false fun h => ?_)
  have:=(e.1 h).2.2.2.1;simp [this] at h4
 refine zkZ (zo h1 (zo h2 (zo h3 h4))) ?_
 refine c_Same (a:=a.op) (b:=b.op) ha hb ?_
 refine zQ ?_
 refine zt hl ?_
 refine fin _ ?_
 rw [Bool.eq_iff_iff,decide_eq_true_eq,decide_eq_true_eq,e]
 simp only [beq_iff_eq] at h1 h2 h3 h4
 simp [h1,h2,h3,h4]
theorem zsz {σ:List zd} {a b:List zC} (ha:zhN a) (hb:zhN b) {K:KT} (hK:K (.d (.bool (decide (a=b)))) σ) :
  zj Tryz.prog zaB [.d (.slice (zaP a)),.d (.slice (zaP b)),.fn (.func zgB) [] []] σ K:=by
 refine zyo zda fun hl => ?_
 have fin:∀ z,decide (a=b)=z->K (.d (.bool z)) σ:=fun z h=>h▸hK
 clear hK
 obtain ⟨ha1,ha2⟩:=ha
 obtain ⟨hb1,hb2⟩:=hb
 simp only [zbk,iN,bT,bF,eN,zl2]
 cases hl0:((a.length:Int) != (b.length:Int))
 rotate_left
 ·refine zA hl0 ?_
  refine zt hl ?_
  refine fin _ (decide_eq_false fun h => ?_)
  rw [h] at hl0;simp at hl0
 have hl2:a.length=b.length:=by simp at hl0;omega
 refine zA hl0 ?_
 refine zl a.length (fun k vs s=>vs = [.d (.int .i64 k)]/\(∃ T,s = σ++T)/\a.take k=b.take k) ⟨rfl,⟨[],by simp⟩,by simp⟩ ?_
 rintro k vs s hk ⟨rfl,⟨T,rfl⟩,htk⟩
 by_cases hlt:k<a.length
 ·have hd:decide ((k:Int)<(a.length:Int))=true:=by simp;omega
  have hx:a[k]? = some a[k]:=by simp [hlt]
  have hy:b[k]? = some (b[k]'(by omega)):=List.getElem?_eq_getElem _
  have hgx:=zF (f:=zaN) hx
  have hgy:=zF (f:=zaN) hy
  have hxs:=(ha2 _ (List.getElem_mem hlt)).1
  have hys:=(hb2 _ (List.getElem_mem (show k<b.length by omega))).1
  obtain ⟨x,hxe⟩:∃ x,a[k]=x:=⟨_,rfl⟩
  obtain ⟨y,hye⟩:∃ y,(b[k]'(by omega))=y:=⟨_,rfl⟩
  rw [hxe] at hx hgx hxs
  rw [hye] at hy hgy hys
  obtain ⟨S,hS⟩:∃ S, σ++T=S:=⟨_,rfl⟩
  rw [hS]
  refine zkZ (zo hd (zo hgx hgy)) ?_
  refine c_Same1 (a:=x) (b:=y) hxs hys ?_
  cases he:decide (x=y)
  ·refine zA hd ?_
   rw [← hS,List.append_assoc]
   refine zt hl ?_
   refine fin _ (decide_eq_false fun h => ?_)
   subst h
   rw [hx] at hy
   have:=Option.some.inj hy
   simp [this] at he
  ·refine zA (wk1 k (by omega)) ?_
   exact zan.next hlt ⟨rfl,⟨_,by rw [← hS,List.append_assoc]⟩,zby hx hy htk (by simpa using he)⟩
 ·have hd:decide ((k:Int)<(a.length:Int))=false:=by simp;omega
  refine zA hd ?_
  refine zt hl ?_
  exact fin _ (decide_eq_true (zcz hl2 (k:=k) (by omega) htk))
theorem zsu {σ:List zd} {a b:List zC} (ha:zhN a) (hb:zhN b) {K:KT} (hK:K (.d (.bool (decide (a=b)))) σ):zj Tryz.prog zfr [.d (.slice (zaP a)),.d (.slice (zaP b))] σ K:=by
 refine zeE zxY fun hl => ?_
 simp only [zqv,iN,bT,bF,eN]
 refine zQ ?_
 refine zsz ha hb ?_
 refine zQ ?_
 refine zt hl ?_
 exact hK
end Go.Proofs.YtpgahkdjkanblaaGreat

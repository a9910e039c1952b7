/- What the blocks of a beginning are: chained headers, each over its records' tree; who has signed what. No program in sight. -/
import Derived.Test.YtdgcepphjnoalaaGreatPq1
import Derived.Test.YtdgcepphjnoalaaGreatAwKeepX
import Derived.Test.YtdgcepphjnoalaaGreatCk4
import Derived.Test.YtdgcepphjnoalaaGreatSpNum
import Derived.Test.YtdgcepphjnoalaaGreatSpTab
import Derived.Test.YtdgcepphjnoalaaGreatId3
set_option linter.all false
set_option maxRecDepth 100000
namespace Go.Proofs.YtdgcepphjnoalaaGreat
open Go.AW
structure BlkI (L:List (List UInt8)) (b:znG):Prop where
 ok:hdrOk b.header=true
 root:zmQ L (b.placed.map placedB) b.header.root
 pl:∀p∈b.placed,PlI p/\zef p.topic=true
 cnt:b.placed.length<=16
theorem BlkI.pre {L L':List (List UInt8)}{b:znG}(h:BlkI L b)(hp:L <+: L'):BlkI L' b:=⟨h.ok,h.root.pre hp,h.pl,h.cnt⟩
def LinkI (L:List (List UInt8)) (q h:zsJ):Prop:=zmn L (hdrB q) h.prev/\h.seq=q.seq+1
def lastH:zsJ->List znG->zsJ
 | q,[]=>q
 | _,b::r=>lastH b.header r
def ChI (L:List (List UInt8)):zsJ->List znG->Prop
 | _,[]=>True
 | q,b::r=>LinkI L q b.header/\ChI L b.header r
theorem ChI.pre {L L':List (List UInt8)}(hp:L <+: L'):∀ {bs:List znG} {q:zsJ},ChI L q bs->ChI L' q bs
 | [],_,_=>trivial
 | b::r,q,h=>⟨⟨h.1.1.pre hp,h.1.2⟩,ChI.pre hp h.2⟩
theorem ChI.snoc {L:List (List UInt8)}{b:znG}:∀ {bs:List znG} {q:zsJ},ChI L q bs->LinkI L (lastH q bs) b.header->ChI L q (bs++[b])
 | [],_,_,h=>⟨h,trivial⟩
 | c::r,q,h,hl=>⟨h.1,ChI.snoc h.2 hl⟩
structure CrtI (ks:List Int) (L:List (List UInt8)) (G:List zI) (bs:List znG) (c:zjs):Prop where
 blk:∃b∈bs,c.seq=b.header.seq/\zmn L (hdrB b.header) c.dig
 four:c.seq.tmod 4=0
 sgs:∃v,c.signs=ks.map (fun k=>⟨k,v⟩)/\∀k∈ks,(⟨k,v⟩:zI)∈G/\zmn L (zvk 6 0 c.seq c.dig) v
theorem CrtI.pre {ks:List Int}{L L':List (List UInt8)}{G G':List zI}{bs bs':List znG}{c:zjs}(h:CrtI ks L G bs c)(hp:L <+: L')(hg:∀x∈G,x∈G')(hb:∀x∈bs,x∈bs'):CrtI ks L' G' bs' c:=by
 obtain⟨⟨b,h1,h2,h3⟩,h4,v,h5,h6⟩:=h;exact⟨⟨b,hb b h1,h2,h3.pre hp⟩,h4,v,h5,fun k hk=>⟨hg _ (h6 k hk).1,(h6 k hk).2.pre hp⟩⟩
structure HistI (ks:List Int) (g:zsJ) (s:zze):Prop where
 ch:ChI s.L g s.bs
 blk:∀b∈s.bs,BlkI s.L b
 last:s.h=lastH g s.bs
 crt:∀c∈s.cs,CrtI ks s.L s.G s.bs c
 sg:∀x∈s.G,13<=x.key∨∃c∈s.cs,zmn s.L (zvk 6 0 c.seq c.dig) x.dig
def zyq (T:ztJ):List (List UInt8):=T.l.map zeb.name
structure ApU (T T':ztJ) (P:List znx):Prop where
 nd:(zyq T').Nodup
 mono:∀x∈T.l,∃x'∈T'.l,x'.name=x.name/\x.next<=x'.next
 old:∀p∈P,∃x'∈T'.l,x'.name=p.topic/\p.offset<x'.next
 new:∀p∈P,∀x∈T.l,x.name=p.topic->x.next<=p.offset
theorem ApU.trans {T T1 T2:ztJ}{P Q:List znx}(h:ApU T T1 P)(g:ApU T1 T2 Q):ApU T T2 (P++Q):=by
 refine⟨g.nd,fun x hx=>?_,fun p hp=>?_,fun p hp x hx hn=>?_⟩
 ·obtain⟨y,h1,h2,h3⟩:=h.mono x hx;obtain⟨z,g1,g2,g3⟩:=g.mono y h1;exact⟨z,g1,g2.trans h2,Int.le_trans h3 g3⟩
 ·rcases List.mem_append.1 hp with hp|hp
  ·obtain⟨y,h1,h2,h3⟩:=h.old p hp;obtain⟨z,g1,g2,g3⟩:=g.mono y h1;exact⟨z,g1,g2.trans h2,by omega⟩
  ·exact g.old p hp
 ·rcases List.mem_append.1 hp with hp|hp
  ·exact h.new p hp x hx hn
  ·obtain⟨y,h1,h2,h3⟩:=h.mono x hx;have:=g.new p hp y h1 (h2.trans hn);omega
theorem ApU.set {T:ztJ}{i:Nat}{x x':zeb}(h:(zyq T).Nodup)(hx:T.l[i]? = some x)(hn:x'.name=x.name)(hx':x.next<=x'.next)(la:List (Int × Int × Int)):ApU T ⟨T.l.set i x',la⟩ []:=by
 have hi:=(List.getElem?_eq_some_iff.1 hx).1;refine⟨?_,fun y hy=>?_,by simp,by simp⟩
 ·have:zyq ⟨T.l.set i x',la⟩=zyq T:=by
   simp only[zyq,List.map_set];rw[hn];have hg:(T.l.map zeb.name)[i]? = some x.name:=by rw[List.getElem?_map,hx];rfl
   exact zbS hg
  rw[this];exact h
 ·obtain⟨j,hj,rfl⟩:=List.mem_iff_getElem.1 hy;by_cases e:i=j
  ·subst e;have:T.l[i]=x:=(List.getElem?_eq_some_iff.1 hx).2;refine⟨x',List.mem_iff_getElem.2 ⟨i,by simpa using hi,by simp⟩,by rw[hn,this],by rw[this];exact hx'⟩
  ·exact⟨T.l[j],List.mem_iff_getElem.2 ⟨j,by simpa using hj,by simp[e]⟩,rfl,Int.le_refl _⟩
theorem atF_none {n:List UInt8}:∀ {l:List zeb} {j:Nat},atF n l j=none->∀x∈l,x.name≠n
 | [],_,_,x,hx=>by cases hx
 | y::r,j,h,x,hx=>by
  simp only[atF]at h;split at h
  ·cases h
  ·rename_i e;rcases List.mem_cons.1 hx with rfl|hx
   ·simpa using e
   ·exact atF_none h x hx
theorem ApU.last {T T':ztJ}{P:List znx}(h:ApU T T' P)(la:List (Int × Int × Int)):ApU T { T' with last:=la } P:=⟨h.nd,h.mono,h.old,h.new⟩
structure UqI (s:zze):Prop where
 nd:(zyq s.T).Nodup
 old:∀b∈s.bs,∀p∈b.placed,∃x∈s.T.l,x.name=p.topic/\p.offset<x.next
 one:∀(i j:Nat) (a b:znG),s.bs[i]? = some a->s.bs[j]? = some b->∀p∈a.placed,∀q∈b.placed,p.topic=q.topic->p.offset=q.offset->i=j
theorem StI.mono {N m N' m':Nat}{s:zze}(h:StI N m s)(h1:N<=N')(h2:m<=m'):StI N' m' s:=
 ⟨h.tab,Nat.le_trans h.led h1,h.ledI,h.tops,h.last,h.last8,h.bs,Nat.le_trans h.bl h2,h.cs,Nat.le_trans h.cl h2⟩
theorem HistI.grow {ks:List Int}{g:zsJ}{s:zze}{L:List (List UInt8)}{G:List zI}(h:HistI ks g s)(hp:s.L <+: L)(hg:∀x∈s.G,x∈G)(hn:∀x∈G,x∈s.G∨13<=x.key):HistI ks g { s with L:=L,G:=G }:=
 ⟨h.ch.pre hp,fun b hb=>(h.blk b hb).pre hp,h.last,fun c hc=>(h.crt c hc).pre hp hg fun x hx=>hx,fun x hx=>by
  rcases hn x hx with hx|hx
  ·rcases h.sg x hx with h1|⟨c,h1,h2⟩
   ·exact .inl h1
   ·exact .inr ⟨c,h1,h2.pre hp⟩
  ·exact .inl hx⟩
def tyHdr:List Ty:=[.int .i64,.int .i64,.int .i64,.int .i64,.int .i64]
def tyCert:List Ty:=[.int .i64,.int .i64,.slice zvm]
def tyProof:List Ty:=[.str,.int .i64,.slice [.int .u8],.slice tyHdr,.int .i64,.int .i64,.slice [.int .i64],.int .i64,.int .i64,.slice zvm]
theorem dec_hdr {ds:List D}(h:zdc tyHdr ds):∃x:zsJ,ds=zrY x/\zqm x.seq:=by
 obtain⟨d1,ds,rfl,h1,h⟩:=zt h;obtain⟨d2,ds,rfl,h2,h⟩:=zt h;obtain⟨d3,ds,rfl,h3,h⟩:=zt h;obtain⟨d4,ds,rfl,h4,h⟩:=zt h;obtain⟨d5,ds,rfl,h5,h⟩:=zt h;obtain rfl:=zeG h;obtain⟨a1,rfl,k1⟩:=zaB h1;obtain⟨a2,rfl,_⟩:=zaB h2;obtain⟨a3,rfl,_⟩:=zaB h3;obtain⟨a4,rfl,_⟩:=zaB h4;obtain⟨a5,rfl,_⟩:=zaB h5;exact⟨⟨a1,a2,a3,a4,a5⟩,rfl,k1⟩
theorem dec_int1 {ds:List D}(h:zdc [.int .i64] ds):∃x:Int,ds=[.int .i64 x]/\zqm x:=by
 obtain⟨d1,ds,rfl,h1,h⟩:=zt h;obtain rfl:=zeG h;obtain⟨a1,rfl,k1⟩:=zaB h1;exact⟨a1,rfl,k1⟩
theorem dec_signs {d:D}(h:zlU (.slice zvm) d):∃l:List zI,d=.slice (zat l):=by
 obtain⟨l,rfl⟩:=zfP (f:=zgo) h (fun e he=>(zuZ he).imp fun _ h=>h.1);exact⟨l,rfl⟩
theorem signs_bulk (l:List zI):l.length<=zds (zat l):=zfm (f:=zgo) (fun a=>by simp only[zgo,zcR,zfT];omega) l
theorem dec_cert {ds:List D}(h:zdc tyCert ds)(hb:zcR ds<=1048576):∃c:zjs,ds=certD c/\c.signs.length<=1048576:=by
 obtain⟨d1,ds,rfl,h1,h⟩:=zt h;obtain⟨d2,ds,rfl,h2,h⟩:=zt h;obtain⟨d3,ds,rfl,h3,h⟩:=zt h;obtain rfl:=zeG h;obtain⟨a1,rfl,k1⟩:=zaB h1;obtain⟨a2,rfl,_⟩:=zaB h2;obtain⟨a3,rfl⟩:=dec_signs h3;simp only[zcR,zfT]at hb;have:=signs_bulk a3;exact⟨⟨a1,a2,a3⟩,rfl,by simp only;omega⟩
structure PfS (p:zfi):Prop where
 small:zqL p
 path:p.path.length<=1048576
 headers:p.headers.length<=1048576
 signs:p.cert.signs.length<=1048576
theorem dec_proof {ds:List D}(h:zdc tyProof ds)(hb:zcR ds<=1048576):∃p:zfi,ds=proofD p/\PfS p:=by
 obtain⟨d1,ds,rfl,h1,h⟩:=zt h;obtain⟨d2,ds,rfl,h2,h⟩:=zt h;obtain⟨d3,ds,rfl,h3,h⟩:=zt h;obtain⟨d4,ds,rfl,h4,h⟩:=zt h;obtain⟨d5,ds,rfl,h5,h⟩:=zt h;obtain⟨d6,ds,rfl,h6,h⟩:=zt h;obtain⟨d7,ds,rfl,h7,h⟩:=zt h;obtain⟨d8,ds,rfl,h8,h⟩:=zt h;obtain⟨d9,ds,rfl,h9,h⟩:=zt h;obtain⟨d10,ds,rfl,h10,h⟩:=zt h;obtain rfl:=zeG h;obtain⟨a1,rfl⟩:=ztA h1;obtain⟨a2,rfl,k2⟩:=zaB h2;obtain⟨a3,rfl⟩:=zwD h3;obtain⟨a4,rfl⟩:=zfP (f:=zrY) h4 fun e he=>(dec_hdr he).imp fun _ h=>h.1;obtain⟨a5,rfl,k5⟩:=zaB h5;obtain⟨a6,rfl,k6⟩:=zaB h6;obtain⟨a7,rfl,k7⟩:=zyL (f:=fun x:Int=>[D.int .i64 x]) h7 fun e he=>dec_int1 he;obtain⟨a8,rfl,k8⟩:=zaB h8;obtain⟨a9,rfl,k9⟩:=zaB h9;obtain⟨a10,rfl⟩:=dec_signs h10;simp only[zcR,zfT,zvd]at hb;have b4:=zfm (f:=zrY) (fun a=>by simp only[zrY,zcR,zfT];omega) a4;have b7:=zfm (f:=fun x:Int=>[D.int .i64 x]) (fun a=>by simp only[zcR,zfT];omega) a7;have b10:=signs_bulk a10;refine⟨⟨a1,a2,a3,a4,a5,a6,a7,⟨a8,a9,a10⟩⟩,rfl,⟨?_,?_,?_,?_,?_,k2,k5,k6,k7⟩,?_,?_,?_⟩<;>simp only<;>omega
theorem dec_bool {d:D}(h:zlU .bool d):∃b,d=.bool b:=by cases h with|bool b=>exact⟨b,rfl⟩
def tyEntry:List Ty:=[.int .i64,.int .i64,.slice zuR,.int .i64,.int .i64]
def tyM1:List Ty:=[.int .i64,.int .i64,.int .i64,.int .i64,.int .i64,.int .i64,.int .i64,.int .i64,.int .i64,.slice zuR]
def tyM2:List Ty:=[.slice tyChange,.slice tyEntry,.slice [.int .u8],.str,.int .i64]
def tyMsg:List Ty:=tyM1++(tyCert++(tyM2++(tyProof++zvm)))
theorem zkd {b:List Ty}:∀ {a:List Ty} {ds:List D},zdc (a++b) ds->∃x y,ds=x++y/\zdc a x/\zdc b y
 | [],ds,h=>⟨[],ds,rfl,⟨rfl,by simp⟩,h⟩
 | t::a,ds,h=>by
  obtain⟨d,ds,rfl,h1,h⟩:=zt (t:=t) (ts:=a++b) h;obtain⟨x,y,rfl,h2,h3⟩:=zkd (a:=a) h;refine⟨d::x,y,rfl,⟨by simp[h2.1],fun i t' d' ht hd=>?_⟩,h3⟩;cases i with
  | zero=>simp only[List.getElem?_cons_zero,Option.some.injEq]at ht hd;subst ht;subst hd;exact h1
  | succ i=>exact h2.2 i t' d' (by simpa using ht) (by simpa using hd)
theorem dec_entry {ds:List D}(h:zdc tyEntry ds):∃s:zhO,ds=zdg s:=by
 obtain⟨d1,ds,rfl,h1,h⟩:=zt h;obtain⟨d2,ds,rfl,h2,h⟩:=zt h;obtain⟨d3,ds,rfl,h3,h⟩:=zt h;obtain⟨d4,ds,rfl,h4,h⟩:=zt h;obtain⟨d5,ds,rfl,h5,h⟩:=zt h;obtain rfl:=zeG h;obtain⟨a1,rfl,_⟩:=zaB h1;obtain⟨a2,rfl,_⟩:=zaB h2;obtain⟨a3,rfl⟩:=zfP (f:=zaw) h3 (fun e he=>(ztB he).imp fun _ h=>h.1);obtain⟨a4,rfl,_⟩:=zaB h4;obtain⟨a5,rfl,_⟩:=zaB h5;exact⟨⟨a1,a2,a3,a4,a5⟩,rfl⟩
theorem okB_bulk {b:List zp}(h:zds (zbA b)<=1048576):okB b/\zgv b:=by
 have hl:=leB_bulk h;refine⟨⟨by have:=hl.1;omega,fun x hx=>?_⟩,by have:=hl.1;omega,fun x hx=>⟨by have:=(hl.2 x hx).1;omega,fun r hr=>by have:=(hl.2 x hx).2 r hr;omega⟩⟩;have e:=zhh (l:=b) (f:=zaw) hx;unfold zbA at h;simp only[zaw,zcR,zfT]at e;exact⟨by omega,by omega,by have:=(hl.2 x hx).1;omega,fun r hr=>by have:=(hl.2 x hx).2 r hr;omega⟩
theorem okCh_bulk {c:zbl}(h:zcR (zag c)<=1048576):okCh c/\zjL c:=by
 simp only[zag,zcR,zfT]at h;have b1:=signs_bulk c.cert.signs;have b2:=zfm (f:=zfx) (fun a=>by simp only[zfx,zcR,zfT];omega) c.above;have e2:zds (c.above.map zfx)=zds (zft c.above):=rfl;have key:∀p∈c.above,p.signs.length<=1048576/\okB p.batch/\zgv p.batch:=fun p hp=>by
  have e:=zhh (l:=c.above) (f:=zfx) hp;simp only[zfx,zcR,zfT]at e;have b3:=signs_bulk p.signs;exact⟨by omega,okB_bulk (by omega)⟩
 exact⟨⟨by omega,by omega,fun p hp=>⟨by have:=(key p hp).1;omega,(key p hp).2.1⟩⟩,by omega,by omega,fun p hp=>⟨by have:=(key p hp).1;omega,(key p hp).2.2⟩⟩
structure TM1 where
 kind:Int
 src:Int
 view:Int
 seq:Int
 dig:Int
 client:Int
 time:Int
 rerr:Int
 roff:Int
 batch:List zp
structure TM2 where
 changes:List zbl
 entries:List zhO
 state:List UInt8
 topic:List UInt8
 offset:Int
def m1D (m:TM1):List D:=[.int .i64 m.kind,.int .i64 m.src,.int .i64 m.view,.int .i64 m.seq,.int .i64 m.dig,.int .i64 m.client,.int .i64 m.time,.int .i64 m.rerr,.int .i64 m.roff,.slice (zbA m.batch)]
def m2D (m:TM2):List D:=[.slice (zam m.changes),.slice (zbq m.entries),.slice (bcs m.state),.str m.topic,.int .i64 m.offset]
theorem dec_m1 {ds:List D}(h:zdc tyM1 ds):∃m:TM1,ds=m1D m:=by
 obtain⟨d1,ds,rfl,h1,h⟩:=zt h;obtain⟨d2,ds,rfl,h2,h⟩:=zt h;obtain⟨d3,ds,rfl,h3,h⟩:=zt h;obtain⟨d4,ds,rfl,h4,h⟩:=zt h;obtain⟨d5,ds,rfl,h5,h⟩:=zt h;obtain⟨d6,ds,rfl,h6,h⟩:=zt h;obtain⟨d7,ds,rfl,h7,h⟩:=zt h;obtain⟨d8,ds,rfl,h8,h⟩:=zt h;obtain⟨d9,ds,rfl,h9,h⟩:=zt h;obtain⟨d10,ds,rfl,h10,h⟩:=zt h;obtain rfl:=zeG h;obtain⟨a1,rfl,_⟩:=zaB h1;obtain⟨a2,rfl,_⟩:=zaB h2;obtain⟨a3,rfl,_⟩:=zaB h3;obtain⟨a4,rfl,_⟩:=zaB h4;obtain⟨a5,rfl,_⟩:=zaB h5;obtain⟨a6,rfl,_⟩:=zaB h6;obtain⟨a7,rfl,_⟩:=zaB h7;obtain⟨a8,rfl,_⟩:=zaB h8;obtain⟨a9,rfl,_⟩:=zaB h9;obtain⟨a10,rfl⟩:=zfP (f:=zaw) h10 (fun e he=>(ztB he).imp fun _ h=>h.1);exact⟨⟨a1,a2,a3,a4,a5,a6,a7,a8,a9,a10⟩,rfl⟩
theorem dec_m2 {ds:List D}(h:zdc tyM2 ds):∃m:TM2,ds=m2D m:=by
 obtain⟨d1,ds,rfl,h1,h⟩:=zt h;obtain⟨d2,ds,rfl,h2,h⟩:=zt h;obtain⟨d3,ds,rfl,h3,h⟩:=zt h;obtain⟨d4,ds,rfl,h4,h⟩:=zt h;obtain⟨d5,ds,rfl,h5,h⟩:=zt h;obtain rfl:=zeG h;obtain⟨a1,rfl⟩:=zfP (f:=zag) h1 (fun e he=>(dec_change he).imp fun _ h=>h.1);obtain⟨a2,rfl⟩:=zfP (f:=zdg) h2 (fun e he=>dec_entry he);obtain⟨a3,rfl⟩:=zwD h3;obtain⟨a4,rfl⟩:=ztA h4;obtain⟨a5,rfl,_⟩:=zaB h5;exact⟨⟨a1,a2,a3,a4,a5⟩,rfl⟩
abbrev msgD (m:zbD):List D:=
 [.int .i64 m.kind,.int .i64 m.src,.int .i64 m.view,.int .i64 m.seq,.int .i64 m.dig,.int .i64 m.client,.int .i64 m.time,.int .i64 m.rerr,.int .i64 m.roff,.slice (zbA m.batch),
  .int .i64 m.cert.seq,.int .i64 m.cert.dig,.slice (zat m.cert.signs),.slice (zam m.changes),.slice (zbq m.entries),.slice (bcs m.state),.str m.topic,.int .i64 m.offset,
  .str m.proof.topic,.int .i64 m.proof.offset,.slice (bcs m.proof.rec_),.slice (zmt m.proof.headers),.int .i64 m.proof.index,.int .i64 m.proof.count,.slice (zhV m.proof.path),.int .i64 m.proof.cert.seq,.int .i64 m.proof.cert.dig,.slice (zat m.proof.cert.signs),.int .i64 m.key,.int .i64 m.sdig]
theorem dec_msg {ds:List D}(h:zdc tyMsg ds)(hb:zcR ds<=1048576):∃m:zbD,ds=msgD m/\zaJ m:=by
 obtain⟨x1,ds,rfl,h1,h⟩:=zkd h;obtain⟨x2,ds,rfl,h2,h⟩:=zkd h;obtain⟨x3,ds,rfl,h3,h⟩:=zkd h;obtain⟨x4,x5,rfl,h4,h5⟩:=zkd h;simp only[zoN]at hb;obtain⟨m1,rfl⟩:=dec_m1 h1;obtain⟨c,rfl,hc⟩:=dec_cert h2 (by omega);obtain⟨m2,rfl⟩:=dec_m2 h3;obtain⟨p,rfl,hp⟩:=dec_proof h4 (by omega);obtain⟨g,rfl,_⟩:=zuZ h5;have b1:zcR (m1D m1)<=1048576:=by omega
 have b2:zcR (m2D m2)<=1048576:=by omega
 clear hb h h1 h2 h3 h4 h5;refine⟨⟨m1.kind,m1.src,m1.view,m1.seq,m1.dig,m1.client,m1.time,m1.rerr,m1.roff,m1.batch,c,m2.changes,m2.entries,m2.state,m2.topic,m2.offset,p,g.key,g.dig⟩,rfl,?_⟩;simp only[m1D,zcR,zfT]at b1;simp only[m2D,zcR,zfT,zvd]at b2;have b10:=okB_bulk (b:=m1.batch) (by omega);have b14:=zfm (f:=zag) (fun a=>by simp only[zag,zcR,zfT];omega) m2.changes;have b15:=zfm (f:=zdg) (fun a=>by simp only[zdg,zcR,zfT];omega) m2.entries;have e14:zds (m2.changes.map zag)=zds (zam m2.changes):=rfl;have e15:zds (m2.entries.map zdg)=zds (zbq m2.entries):=rfl;refine⟨b10.1,b10.2,?_,?_,fun y hy=>?_,?_,fun x hx=>?_,hp.small,?_,?_⟩
 ·simp only;omega
 ·simp only;omega
 ·have e:=zhh (l:=m2.changes) (f:=zag) hy;exact okCh_bulk (by omega)
 ·simp only;omega
 ·have e:=zhh (l:=m2.entries) (f:=zdg) hx;simp only[zdg,zcR,zfT]at e;exact okB_bulk (by omega)
 ·simp only;omega
 ·simp only;omega
structure zuO where
 do_:Int
 op:TOp
 key:Int
 m:zbD
 now:Bool
abbrev sopD (o:zuO):List D:=.int .i64 o.do_::(opD o.op++(.int .i64 o.key::(msgD o.m++[.bool o.now])))
def tySop:List Ty:=.int .i64::(tyOp++(.int .i64::(tyMsg++[.bool])))
theorem dec_sop {ds:List D}(h:zdc tySop ds)(hb:zcR ds<=1048576):∃o:zuO,ds=sopD o/\zqm o.do_/\zqm o.key/\opR o.op/\zcR (opD o.op)<=1048576/\zaJ o.m:=by
 obtain⟨d1,ds,rfl,h1,h⟩:=zt h;obtain⟨x1,ds,rfl,h2,h⟩:=zkd h;obtain⟨d3,ds,rfl,h3,h⟩:=zt h;obtain⟨x4,ds,rfl,h4,h⟩:=zkd h;obtain⟨d5,ds,rfl,h5,h⟩:=zt h;obtain rfl:=zeG h;simp only[zcR,zoN]at hb;obtain⟨a1,rfl,k1⟩:=zaB h1;obtain⟨o,rfl,ho⟩:=dec_op h2;obtain⟨a3,rfl,k3⟩:=zaB h3;obtain⟨m,rfl,hm⟩:=dec_msg h4 (by omega);obtain⟨b,rfl⟩:=dec_bool h5;exact⟨⟨a1,o,a3,m,b⟩,rfl,k1,k3,ho,by simp only;omega,hm⟩
section
variable {σ:List AObj} {K:KT} {f cl:Int} {q t l:Nat} {time:Int} {w:List zp} {sy:AV} {ticks:Int} {la:List (List D)} {many:Int}
theorem zwN (h:σ[q]? = some (.box (zmX f cl t l time w sy ticks la many)))(hK:K (.d (.int .i64 time)) σ):zP zaU [.box q 0] σ K:=by
 refine zez zlf fun hl=>?_;simp only[zgl,iN,bT,bF,eN];refine zG ?_;refine zfR h ?_;refine zm h ?_;refine zu hl ?_;exact hK
theorem zwO (h:σ[q]? = some (.box (zmX f cl t l time w sy ticks la many)))(hK:K (.d (.int .i64 many)) σ):zP zaV [.box q 0] σ K:=by
 refine zez zlg fun hl=>?_;simp only[zgn,iN,bT,bF,eN];refine zG ?_;refine zfR h ?_;refine zm h ?_;refine zu hl ?_;exact hK
abbrev ansA (s:zp) (a b:Int):AV:=.agg [.d (.int .i64 s.client),.d (.int .i64 s.time),.d (.int .i64 s.op.kind),.d (.str s.op.topic),.d (.str s.op.group),.d (.int .i64 s.op.offset),.d (.slice (zdQ s.op.recs)),.d (.int .i64 a),.d (.int .i64 b)]
theorem c_pLast {s:zp}{a b:Int}(h:σ[q]? = some (.box (zmX f cl t l time w sy ticks [ansD s a b] many)))(hr:s.op.recs.length<=1073741824)(hb:∀r∈s.op.recs,r.length<=1073741824)(hK:K (.tup [ansA s a b,.d (.bool true)]) σ):zP zbP [.box q 0] σ K:=by
 refine zez zgj fun hl=>?_;simp only[zdU,iN,bT,bF,eN,zl1];have h':∀τ,(σ++τ)[q]? = some (.box (zmX f cl t l time w sy ticks [ansD s a b] many)):=fun τ=>zi h;refine zG ?_;refine zfR (h' _) ?_;refine zkZ (zd h' (zd (show((1:Int)==0)=false from rfl) @List.length_cons.{0})) ?_;refine ziV (o:=s.op) hr hb ?_;refine gq31 ?_;refine zu hl ?_;exact hK
def reqM (w:List zp):zbD:={ zee with kind:=1,batch:=w }
def outD (w:List zp):List D:=.int .i64 (-1)::msgD (reqM w)
theorem zvc (h:σ[q]? = some (.box (zmX f cl t l time w sy ticks la many)))(hw:zgv w)(hK:K (.d (.slice [outD w])) σ):zP zcq [.box q 0] σ K:=by
 refine zez zkD fun hl=>?_;simp only[zfU,iN,bT,bF,eN,zl3,zl5];refine zm h ?_;refine zkH hw ?_;refine zG ?_;refine zu hl ?_;exact hK
theorem c_pAsk {i:TGi}{L:List (List UInt8)}{G:List zI}{o:TOp}(h:TG i σ L G)(hL:zmF L)(hg:G.length<=1073741824)(hq:σ[q]? = some (.box (zmX f cl i.id i.id2 time [] sy ticks la many)))(hqk:q≠i.id/\q≠i.m/\q≠i.t/\q≠i.id2/\q≠i.m2/\q≠i.t2)(hos:zmT o<=20971520)(ho:okO o)(hc:zaN zef o=0)(ht0:0<=time/\time<=1000000)
  (hx:zjM L ⟨cl,time+1,o,0,0⟩=0) {K:KT}
  (hK:∀(S:List AObj) (n:Nat),S[q]? = some (.box (zmX f cl i.id i.id2 (time+1) [zeT L ⟨cl,time+1,o,0,0⟩] (.map n) 0 la many))->S[n]? = some (.map (zdd []))->TG i S (zoh L ⟨cl,time+1,o,0,0⟩) (zpO L G ⟨cl,time+1,o,0,0⟩)->n≠q→σ.length<=n →
   (∀(j:Nat) (y:AObj),j≠q->j≠i.id->j≠i.m->j≠i.t->j≠i.id2->j≠i.m2->j≠i.t2→σ[j]? = some y->S[j]? = some y)->K (.tup [.d (.slice [outD [zeT L ⟨cl,time+1,o,0,0⟩]]),.d (.int .i64 0)]) S) :
  zP zaM [.box q 0,opA o] σ K:=by
 refine ACall.weaken ?_;refine zeP zca.is rfl fun hl _=>zca.goes ?_;simp only[zcb,iN,bT,bF,eN,zl1,zl4,opA];have hq':∀τ,(σ++τ)[q]? = some (.box (zmX f cl i.id i.id2 time [] sy ticks la many)):=fun τ=>zi hq;have hw1:IntKind.i64.wrap (time+1)=time+1:=zaQ (by omega) (by omega);refine zG ?_;refine zfR (hq' _) ?_;refine zkZ (zd hq' (show decide ((0:Int)>0)=false from rfl)) ?_;refine zwU (o:=o) ho.1 ho.2.1 ho.2.2.1 ?_;rw[hc];refine zm (zd hq' (zd hw1 (show((0:Int) != 0)=false from rfl))) ?_;obtain⟨x,hxe⟩:∃x:zp,(⟨cl,time+1,o,0,0⟩:zp)=x:=⟨_,rfl⟩;have hxo:x.op=o:=by rw[← hxe]
 rw[hxe]at hx hK;have hsm:zgv [zeT L x]:=by
  refine⟨by simp,fun s hs=>?_⟩;simp only[List.mem_singleton]at hs;subst hs;have:(zeT L x).op=o:=by rw[zeT,if_pos hx];exact hxo
  rw[this];exact⟨ho.2.2.1,ho.2.2.2⟩
 obtain⟨sg,hsg⟩:∃s,zeT L x=s:=⟨_,rfl⟩;obtain⟨L',hL'⟩:∃s,zoh L x=s:=⟨_,rfl⟩;obtain⟨G',hG'⟩:∃s,zpO L G x=s:=⟨_,rfl⟩;obtain⟨P,hP⟩:∃P,zhk i σ L' G'=P:=⟨_,rfl⟩;have hPl:P.length=σ.length:=by rw[← hP];exact zke ..
 have hPs:σ.length=P.length:=hPl.symm;have hql:=zY hq;have hPq:P[q]? = some (.box (zmX f cl i.id i.id2 time [] sy ticks la many)):=by rw[← hP,TG.other hqk];exact hq
 have hPT:TG i P L' G':=by rw[← hP];exact h.put L' G'
 have hPk:∀(j:Nat) (y:AObj),j≠i.id->j≠i.m->j≠i.t->j≠i.id2->j≠i.m2->j≠i.t2→σ[j]? = some y->P[j]? = some y:=fun j y a1 a2 a3 a4 a5 a6 hy=>by rw[← hP,TG.other ⟨a1,a2,a3,a4,a5,a6⟩];exact hy
 have hput:∀τ,putLed (putTab (σ++τ) i.id i.m i.t L') i.id2 i.m2 i.t2 G'=P++τ:=fun τ=>by rw[← hP];exact h.put_app L' G' τ
 have hPq':∀τ,(P++τ)[q]? = some (.box (zmX f cl i.id i.id2 time [] sy ticks la many)):=fun τ=>zi hPq;have sq:∀τ Z,(P++τ).set q Z=P.set q Z++τ:=fun τ Z=>List.set_append_left _ _ (by omega);have sq2:∀τ Y Z,(P.set q Y++τ).set q Z=P.set q Z++τ:=fun τ Y Z=>by rw[List.set_append_left _ _ (by rw[List.length_set];omega),List.set_set]
 have zq:∀Z τ,(P.set q Z++τ)[q]? = some Z:=fun Z τ=>zi (List.getElem?_set_self (by omega));have gq:∀Z k τ,(P.set q Z++τ)[P.length+k]? = τ[k]?:=fun Z k τ=>by
  have:=zA (P.set q Z) τ k;rwa [List.length_set]at this
 have gq0:∀Z τ,(P.set q Z++τ)[P.length]? = τ[0]?:=fun Z τ=>by
  have:=zC (P.set q Z) τ;rw[List.length_set]at this;exact this
 rw[hsg,hL',hG']at hK;rw[hsg]at hsm;have done:∀(n:Nat) (B1 B2:AObj),n=P.length+2->zxy (fun r s=>∃r' s',zqb [r] s [r'] s'∧K r' s') (some [.d (.slice [outD [sg]]),.d (.int .i64 0)]) (P.set q (.box (zmX f cl i.id i.id2 (time+1) [sg] (.map n) 0 la many))++[B1,B2,.map []]):=fun n B1 B2 hn=>by
  subst hn;have nes:=h.ne;refine zld ⟨_,_,.refl _ _,hK (P.set q (.box (zmX f cl i.id i.id2 (time+1) [sg] (.map (P.length+2)) 0 la many))++[B1,B2,.map []]) (P.length+2) (zq _ _) (by rw[gq];rfl) ?_ (by omega) (by omega) fun j y b0 b1 b2 b3 b4 b5 b6 hy=>zi (by rw[List.getElem?_set_ne (Ne.symm b0)];exact hPk j y b1 b2 b3 b4 b5 b6 hy)⟩;refine TG.app ⟨⟨?_,?_,?_⟩,⟨?_,?_,?_⟩,h.n1,h.n2⟩ _
  ·rw[List.getElem?_set_ne hqk.1];exact hPT.tab.box
  ·rw[List.getElem?_set_ne hqk.2.1];exact hPT.tab.map
  ·rw[List.getElem?_set_ne hqk.2.2.1];exact hPT.tab.tok
  ·rw[List.getElem?_set_ne hqk.2.2.2.1];exact hPT.led.box
  ·rw[List.getElem?_set_ne hqk.2.2.2.2.1];exact hPT.led.map
  ·rw[List.getElem?_set_ne hqk.2.2.2.2.2];exact hPT.led.tok
 have hsz:zmT x.op<=20971520:=by rw[hxo];exact hos
 have hreq:reqA x=.agg [.d (.int .i64 cl),.d (.int .i64 (time+1)),.d (.int .i64 o.kind),.d (.str o.topic),.d (.str o.group),.d (.int .i64 o.offset),.d (.slice (zdQ o.recs))]:=by rw[← hxe];rfl
 refine⟨?_,?_⟩
 ·refine ziV (o:=o) ho.2.2.1 ho.2.2.2 ?_;refine zdy (zd hq' hw1) ?_;refine⟨?_,?_⟩
  ·rw[← hreq];refine zpI (x:=x) (h.tab.app _) (h.led.app _) h.n1 h.n2 hL hg hsz ?_;rw[hL',hG',hput,hx,hsg];refine zdy (zd hPq' (zd sq (zd sq2 (zd zq (zd gq (zd gq0 (zd hw1 (zd @List.length_set.{0} (zd hPs (show((0:Int) != 0)=false from rfl)))))))))) ?_;refine ACall.pre (.dataB q 6 _ (.exact [zaw sg]) [zaw sg] (zq _ _) rfl rfl (.refl _ _)) ?_;rw[sq2];refine zvc (zq _ _) hsm ?_;refine zG ?_;exact done _ _ _ rfl
  ·refine zdy (zd hq' hw1) ?_;rw[← hreq];refine zpI (x:=x) (h.tab.app _) (h.led.app _) h.n1 h.n2 hL hg hsz ?_;rw[hL',hG',hput,hx,hsg];refine zdy (zd hPq' (zd sq (zd sq2 (zd zq (zd gq (zd gq0 (zd hw1 (zd @List.length_set.{0} (zd hPs (show((0:Int) != 0)=false from rfl)))))))))) ?_;refine ACall.pre (.dataB q 6 _ (.exact [zaw sg]) [zaw sg] (zq _ _) rfl rfl (.refl _ _)) ?_;rw[sq2];refine zvc (zq _ _) hsm ?_;refine zG ?_;exact done _ _ _ rfl
 ·refine zdy (zd hq' hw1) ?_;refine ziV (o:=o) ho.2.2.1 ho.2.2.2 ?_;refine zdy (zd hq' hw1) ?_
  ·rw[← hreq];refine zpI (x:=x) (h.tab.app _) (h.led.app _) h.n1 h.n2 hL hg hsz ?_;rw[hL',hG',hput,hx,hsg];refine zdy (zd hPq' (zd sq (zd sq2 (zd zq (zd gq (zd gq0 (zd hw1 (zd @List.length_set.{0} (zd hPs (show((0:Int) != 0)=false from rfl)))))))))) ?_;refine ACall.pre (.dataB q 6 _ (.exact [zaw sg]) [zaw sg] (zq _ _) rfl rfl (.refl _ _)) ?_;rw[sq2];refine zvc (zq _ _) hsm ?_;refine zG ?_;exact done _ _ _ rfl
end
structure zib where
 f:Int
 cl:Int
 time:Int
 waits:Bool
 s:zp
 says:List (Int × Int × Int)
 ticks:Int
 ls:zp
 la:Int
 lo:Int
 many:Int
def zxC (d:zib) (o:TOp):zp:=⟨d.cl,d.time+1,o,0,0⟩
def zwY (L:List (List UInt8)) (d:zib) (o:TOp):Int:=if d.waits=true then 240 else if zaN zef o≠0 then zaN zef o else zjM L (zxC d o)
def zAF (L:List (List UInt8)) (d:zib) (o:TOp):List (List UInt8):=if d.waits=true then L else if zaN zef o≠0 then L else zoh L (zxC d o)
def zAG (L:List (List UInt8)) (G:List zI) (d:zib) (o:TOp):List zI:=if d.waits=true then G else if zaN zef o≠0 then G else zpO L G (zxC d o)
def zrx (L:List (List UInt8)) (d:zib) (o:TOp):zib:=if zwY L d o≠0 then d else{ d with time:=d.time+1,waits:=true,s:=zeT L (zxC d o),says:=[],ticks:=0 }
def zzb (L:List (List UInt8)) (d:zib) (o:TOp):List (List D):=if zwY L d o≠0 then []else [outD [zeT L (zxC d o)]]
def zhb (L:List (List UInt8)) (G:List zI) (d:zib) (m:zbD):Bool:=d.waits&&(decide (m.kind=5)&&(decide (m.client=d.cl)&&(decide (m.time=d.time)&&(zgg L G m&&decide (m.src<3*d.f+1)))))
def sayD (l:List (Int × Int × Int)) (k a b:Int):List (Int × Int × Int):=l.filter (fun e=>decide (e.1≠k))++[(k,a,b)]
def zuv (d:zib) (m:zbD):Bool:=decide (¬(zqf (sayD d.says m.src m.rerr m.roff) m.rerr m.roff:Int)<d.f+1)
def zrH (L:List (List UInt8)) (G:List zI) (d:zib) (m:zbD):Bool:=zhb L G d m&&zuv d m
def takeP (L:List (List UInt8)) (G:List zI) (d:zib) (m:zbD):zib:=
 if zhb L G d m=true then
  if zuv d m=true then{ d with says:=sayD d.says m.src m.rerr m.roff,waits:=false,ls:=d.s,la:=m.rerr,lo:=m.roff,many:=d.many+1 }
  else{ d with says:=sayD d.says m.src m.rerr m.roff }
 else d
def zfY (d:zib):zib:={ d with ticks:=d.ticks+1 }
def zog (d:zib):List (List D):=if d.waits=true/\(d.ticks+1).tmod 4=0 then [outD [d.s]]else []
def voteN (d:zib) (a b:Int):Int:=if d.waits=true then(zqf d.says a b:Int)else 0
def zlc (d:zib):List (List D):=if d.many=0 then []else [ansD d.ls d.la d.lo]
def zlF (d:zib):List zp:=if d.waits=true then [d.s]else []
abbrev zmm (d:zib) (t l:Nat) (sy:AV):List AV:=zmX d.f d.cl t l d.time (zlF d) sy d.ticks (zlc d) d.many
abbrev zho (l:List (Int × Int × Int)):List (List D):=l.map fun e=>[.int .i64 e.1,.int .i64 e.2.1,.int .i64 e.2.2]
abbrev zlJ (d:zib) (t l:Nat) (sy:AV):List AV:=
 [.d (.int .i64 d.f),.d (.int .i64 d.cl),.box t 0,.box l 0,.d (.int .i64 d.time),.d (.bool d.waits),
  .d (.int .i64 d.s.client),.d (.int .i64 d.s.time),.d (.int .i64 d.s.op.kind),.d (.str d.s.op.topic),.d (.str d.s.op.group),.d (.int .i64 d.s.op.offset),.d (.slice (zdQ d.s.op.recs)),.d (.int .i64 d.s.key),.d (.int .i64 d.s.dig),
  sy,.d (.int .i64 d.ticks),
  .d (.int .i64 d.ls.client),.d (.int .i64 d.ls.time),.d (.int .i64 d.ls.op.kind),.d (.str d.ls.op.topic),.d (.str d.ls.op.group),.d (.int .i64 d.ls.op.offset),.d (.slice (zdQ d.ls.op.recs)),.d (.int .i64 d.la),.d (.int .i64 d.lo),.d (.int .i64 d.many)]
structure SayI (sy l:List (Int × Int × Int)):Prop where
 perm:sy.Perm l
 nd:(sy.map (·.1)).Nodup
 key:∀e∈sy,0<=e.1/\e.1<=12
theorem SayI.nil:SayI [] []:=⟨.nil,.nil,by simp⟩
theorem SayI.len {sy l:List (Int × Int × Int)}(h:SayI sy l):sy.length<=13:=by
 have h1:=zvG 13 _ h.nd fun x hx=>by
  obtain⟨e,he,rfl⟩:=List.mem_map.1 hx;have:=h.key e he;omega
 have h2:(uptoL 13).length=13:=by decide
 have h3:=List.countP_le_length (p:=fun i=>decide (i∈sy.map (·.1))) (l:=uptoL 13);rw[List.length_map]at h1;omega
theorem SayI.votes {sy l:List (Int × Int × Int)}(h:SayI sy l)(a b:Int):zqf sy a b=zqf l a b:=h.perm.countP_eq _
theorem fsay_none {k:Int}:∀ {l:List (Int × Int × Int)} {i:Nat},fsay k l i=none->∀e∈l,e.1≠k
 | [],_,_=>by simp
 | e::r,i,h=>by
  simp only[fsay]at h;split at h
  ·cases h
  ·rename_i hk;intro x hx;rcases List.mem_cons.1 hx with rfl|hx
   ·exact fun h=>hk h.symm
   ·exact fsay_none h x hx
theorem fsay_some {k:Int}:∀ {l:List (Int × Int × Int)} {i:Nat} {q:Nat × (Int × Int)},fsay k l i=some q->∃j,q.1=i+j/\l[j]? = some (k,q.2)
 | [],_,_,h=>by simp[fsay]at h
 | e::r,i,q,h=>by
  simp only[fsay]at h;split at h
  ·rename_i hk;cases h;exact⟨0,rfl,by rw[hk];rfl⟩
  ·obtain⟨j,h1,h2⟩:=fsay_some h;exact⟨j+1,by omega,by simpa using h2⟩
theorem zlR {k:Int}{l:List (Int × Int × Int)}(h:∀e∈l,e.1≠k):l.filter (fun e=>decide (e.1≠k))=l:=List.filter_eq_self.2 fun e he=>by simpa using h e he
theorem SayI.put {sy l:List (Int × Int × Int)}(h:SayI sy l){k a b:Int}(hk:0<=k/\k<=12):SayI (zhp sy k a b) (sayD l k a b):=by
 unfold zhp;cases hf:fsay k sy 0 with
 | none=>
  have hn:=fsay_none hf
  refine⟨?_,?_,?_⟩
  ·unfold sayD
   rw[zlR (fun e he=>hn e (h.perm.mem_iff.2 he))]
   exact h.perm.append_right _
  ·rw[List.map_append,List.nodup_append]
   refine⟨h.nd,by simp,fun x hx y hy=>?_⟩
   obtain⟨e,he,rfl⟩:=List.mem_map.1 hx
   simp at hy
   subst hy
   exact hn e he
  ·intro e he
   rcases List.mem_append.1 he with he|he
   ·exact h.key e he
   ·simp at he;subst he;exact hk
 | some q=>
  obtain⟨j,h1,h2⟩:=fsay_some hf
  simp only[Nat.zero_add]at h1
  simp only[h1]
  obtain⟨hj,he⟩:=List.getElem?_eq_some_iff.1 h2
  have e1:sy=sy.take j++(k,q.2)::sy.drop (j+1):=by rw[← he];simp
  have e2:sy.set j (k,a,b)=sy.take j++(k,a,b)::sy.drop (j+1):=by
   rw[List.set_eq_take_append_cons_drop,if_pos hj]
  obtain⟨A,hA⟩:∃A,sy.take j=A:=⟨_,rfl⟩
  obtain⟨B,hB⟩:∃A,sy.drop (j+1)=A:=⟨_,rfl⟩
  rw[hA,hB]at e1 e2
  rw[e2]
  have hnd:=h.nd
  have hkey:=h.key
  have hp:=h.perm
  rw[e1]at hnd hkey hp
  have hAk:∀e∈A,e.1≠k:=fun e he hc=>by
   rw[List.map_append,List.nodup_append]at hnd;exact hnd.2.2 e.1 (List.mem_map.2 ⟨e,he,rfl⟩) k (by simp) hc
  have hBk:∀e∈B,e.1≠k:=fun e he hc=>by
   rw[List.map_append,List.nodup_append]at hnd;have:=hnd.2.1;simp only[List.map_cons,List.nodup_cons]at this;exact this.1 (List.mem_map.2 ⟨e,he,hc⟩)
  refine⟨?_,?_,?_⟩
  ·have hf2:=hp.filter (fun e=>decide (e.1≠k))
   rw[List.filter_append,zlR hAk,List.filter_cons,if_neg (by simp),zlR hBk]at hf2
   unfold sayD
   refine List.Perm.trans ?_ (hf2.append_right [(k,a,b)])
   rw[List.append_assoc]
   exact(List.perm_append_comm (l₁:=[(k,a,b)]) (l₂:=B)).append_left A
  ·simpa [List.map_append] using hnd
  ·intro e he
   rcases List.mem_append.1 he with he|he
   ·exact hkey e (by simp[he])
   ·rcases List.mem_cons.1 he with rfl|he
    ·exact hk
    ·exact hkey e (by simp[he])
section
variable {σ:List AObj} {K:KT} {f cl:Int} {q t l:Nat} {time:Int} {w:List zp} {sy:AV} {ticks:Int} {la:List (List D)} {many:Int}
theorem c_pAskBusy {o:TOp}{s:zp}(hq:σ[q]? = some (.box (zmX f cl t l time [s] sy ticks la many)))(hK:K (.tup [.d (.slice []),.d (.int .i64 240)]) σ):zP zaM [.box q 0,opA o] σ K:=by
 refine zec zca fun hl=>?_;have hq':∀τ,(σ++τ)[q]? = some (.box (zmX f cl t l time [s] sy ticks la many)):=fun τ=>zi hq;simp only[zcb,iN,bT,bF,eN,zl1,zl4,opA];refine zG ?_;refine zfR (hq' _) ?_;refine zkZ (zd hq' (zd (show decide (((1:Nat):Int)>0)=true from rfl) (zd (show decide ((1:Int)>0)=true from rfl) @List.length_cons.{0}))) ?_;refine zu hl ?_;exact hK
theorem c_pAskBad {o:TOp}(hq:σ[q]? = some (.box (zmX f cl t l time [] sy ticks la many)))(ho:okO o)(hc:zaN zef o≠0)(hK:K (.tup [.d (.slice []),.d (.int .i64 (zaN zef o))]) σ):zP zaM [.box q 0,opA o] σ K:=by
 refine zec zca fun hl=>?_;have hq':∀τ,(σ++τ)[q]? = some (.box (zmX f cl t l time [] sy ticks la many)):=fun τ=>zi hq;have hb:(zaN zef o != 0)=true:=by simpa using hc
 simp only[zcb,iN,bT,bF,eN,zl1,zl4,opA];refine zG ?_;refine zfR (hq' _) ?_;refine zkZ (zd hq' (show decide ((0:Int)>0)=false from rfl)) ?_;refine zwU (o:=o) ho.1 ho.2.1 ho.2.2.1 ?_;refine zm hb ?_;refine zu hl ?_;exact hK
theorem c_pAskErr {i:TGi}{L:List (List UInt8)}{G:List zI}{o:TOp}(h:TG i σ L G)(hL:zmF L)(hg:G.length<=1073741824)(hq:σ[q]? = some (.box (zmX f cl i.id i.id2 time [] sy ticks la many)))(hos:zmT o<=20971520)(ho:okO o)(hc:zaN zef o=0)(ht0:0<=time/\time<=1000000)
  (hx:zjM L ⟨cl,time+1,o,0,0⟩≠0)
  (hK:K (.tup [.d (.slice []),.d (.int .i64 (zjM L ⟨cl,time+1,o,0,0⟩))]) (zhk i σ (zoh L ⟨cl,time+1,o,0,0⟩) (zpO L G ⟨cl,time+1,o,0,0⟩))) :
  zP zaM [.box q 0,opA o] σ K:=by
 refine zec zca fun hl=>?_;simp only[zcb,iN,bT,bF,eN,zl1,zl4,opA];have hq':∀τ,(σ++τ)[q]? = some (.box (zmX f cl i.id i.id2 time [] sy ticks la many)):=fun τ=>zi hq;have hw1:IntKind.i64.wrap (time+1)=time+1:=zaQ (by omega) (by omega);refine zG ?_;refine zfR (hq' _) ?_;refine zkZ (zd hq' (show decide ((0:Int)>0)=false from rfl)) ?_;refine zwU (o:=o) ho.1 ho.2.1 ho.2.2.1 ?_;rw[hc];refine zm (zd hq' (zd hw1 (show((0:Int) != 0)=false from rfl))) ?_;obtain⟨x,hxe⟩:∃x:zp,(⟨cl,time+1,o,0,0⟩:zp)=x:=⟨_,rfl⟩;have hxo:x.op=o:=by rw[← hxe]
 rw[hxe]at hx hK;have hxb:(zjM L x != 0)=true:=by simpa using hx
 obtain⟨sg,hsg⟩:∃s,zeT L x=s:=⟨_,rfl⟩;obtain⟨L',hL'⟩:∃s,zoh L x=s:=⟨_,rfl⟩;obtain⟨G',hG'⟩:∃s,zpO L G x=s:=⟨_,rfl⟩;obtain⟨e,he⟩:∃e,zjM L x=e:=⟨_,rfl⟩;have hl2:=h.lows hl L' G';obtain⟨P,hP⟩:∃P,zhk i σ L' G'=P:=⟨_,rfl⟩;have hPl:P.length=σ.length:=by rw[← hP];exact zke ..
 have hPs:σ.length=P.length:=hPl.symm;have hput:∀τ,putLed (putTab (σ++τ) i.id i.m i.t L') i.id2 i.m2 i.t2 G'=P++τ:=fun τ=>by rw[← hP];exact h.put_app L' G' τ
 rw[hL',hG',he,hP]at hK;rw[he]at hxb;rw[hP,hPs]at hl2;have hsz:zmT x.op<=20971520:=by rw[hxo];exact hos
 have hreq:reqA x=.agg [.d (.int .i64 cl),.d (.int .i64 (time+1)),.d (.int .i64 o.kind),.d (.str o.topic),.d (.str o.group),.d (.int .i64 o.offset),.d (.slice (zdQ o.recs))]:=by rw[← hxe];rfl
 have done:∀τ,AW.Ends P.length K (some [.d (.slice []),.d (.int .i64 e)]) (P++τ):=fun τ=>zfa rfl (by simp[zha,dmT,dm,dm1,zcm,zbw,zfs]) hl2 hK;refine⟨?_,?_⟩
 ·refine ziV (o:=o) ho.2.2.1 ho.2.2.2 ?_;refine zdy (zd hq' hw1) ?_;refine⟨?_,?_⟩
  ·rw[← hreq];refine zpI (x:=x) (h.tab.app _) (h.led.app _) h.n1 h.n2 hL hg hsz ?_;rw[hL',hG',hput,he,hsg];refine zdy (zd hxb hPs) ?_;exact done _
  ·refine zdy (zd hq' hw1) ?_;rw[← hreq];refine zpI (x:=x) (h.tab.app _) (h.led.app _) h.n1 h.n2 hL hg hsz ?_;rw[hL',hG',hput,he,hsg];refine zdy (zd hxb hPs) ?_;exact done _
 ·refine zdy (zd hq' hw1) ?_;refine ziV (o:=o) ho.2.2.1 ho.2.2.2 ?_;refine zdy (zd hq' hw1) ?_
  ·rw[← hreq];refine zpI (x:=x) (h.tab.app _) (h.led.app _) h.n1 h.n2 hL hg hsz ?_;rw[hL',hG',hput,he,hsg];refine zdy (zd hxb hPs) ?_;exact done _
end
structure PubI (N:Nat) (d:zib):Prop where
 f:1<=d.f/\d.f<=4
 time:0<=d.time/\d.time<=N
 ticks:0<=d.ticks/\d.ticks<=N
 many:0<=d.many/\d.many<=N
 z:d.many=0->d.ls=zsL/\d.la=0/\d.lo=0
 so:d.s.op.recs.length<=1073741824/\∀r∈d.s.op.recs,r.length<=1073741824
 lo:d.ls.op.recs.length<=1073741824/\∀r∈d.ls.op.recs,r.length<=1073741824
structure SyAt (S:List AObj) (d:zib) (x:AV) (n:Nat):Prop where
 yes:d.waits=true->x=.map n/\∃sy,S[n]? = some (.map (zdd sy))/\SayI sy d.says
 no:d.waits=false->x=.d .nilmap∨(x=.map n/\S[n]? = some (.map (zdd [])))
section
variable {σ:List AObj} {K:KT} {f cl:Int} {q t l:Nat} {time:Int} {w:List zp} {sy:AV} {ticks:Int} {la:List (List D)} {many:Int}
theorem c_pTake0 {m:zbD}(h:σ[q]? = some (.box (zmX f cl t l time [] sy ticks la many)))(hK:K (.d (.bool false)) σ):zP zaG [.box q 0,zge m] σ K:=by
 refine zec zcI fun hl=>?_;have hq:∀τ,(σ++τ)[q]? = some (.box (zmX f cl t l time [] sy ticks la many)):=fun τ=>zi h;simp only[zcK,iN,bT,bF,eN,zl1];refine zG ?_;refine zfR (hq _) ?_;refine zkZ (zd hq (show((0:Int)==0)=true from rfl)) ?_;refine zu hl ?_;exact hK
theorem c_pTakeNo {s:zp}{m:zbD}{v:Bool}(h:σ[q]? = some (.box (zmX f cl t l time [s] sy ticks la many)))(hf:1<=f/\f<=4)
  (hv:∀τ (K:KT),K (.d (.bool v)) (σ++τ)->zP zhd [.box t 0,.box l 0,zge m] (σ++τ) K)
  (hn:¬(v=true/\m.kind=5/\m.client=cl/\m.time=time/\m.src<3*f+1)) (hK:K (.d (.bool false)) σ):zP zaG [.box q 0,zge m] σ K:=by
 refine zec zcI fun hl=>?_;have hq:∀τ,(σ++τ)[q]? = some (.box (zmX f cl t l time [s] sy ticks la many)):=fun τ=>zi h;simp only[zcK,iN,bT,bF,eN,zl1];refine zG ?_;refine zfR (hq _) ?_;refine zkZ (zd hq (zd (show((1:Int)==0)=false from rfl) @List.length_cons.{0})) ?_;refine hv _ _ ?_;cases v with
 | false=>
  refine zm (zd hq (show(false==false)=true from rfl)) ?_
  refine zu hl ?_
  exact hK
 | true=>
  by_cases e1:m.kind=5
  rotate_left
  ·refine zm (zd hq (zd (show(m.kind != 5)=true by simpa using e1) (show(false==false)=true from rfl))) ?_
   refine zu hl ?_
   exact hK
  by_cases e2:m.client=cl
  rotate_left
  ·refine zm (zd hq (zd (show(m.kind != 5)=false by simpa using e1) (zd (show(m.client != cl)=true by simpa using e2) (show(false==false)=true from rfl)))) ?_
   refine zu hl ?_
   exact hK
  by_cases e3:m.time=time
  rotate_left
  ·refine zm (zd hq (zd (show(m.kind != 5)=false by simpa using e1) (zd (show(m.client != cl)=false by simpa using e2) (zd (show(m.time != time)=true by simpa using e3) (show(false==false)=true from rfl))))) ?_
   refine zu hl ?_
   exact hK
  refine zm (zd hq (zd (show(m.kind != 5)=false by simpa using e1) (zd (show(m.client != cl)=false by simpa using e2) (zd (show(m.time != time)=false by simpa using e3) (show(false==false)=true from rfl))))) ?_
  refine zwM ?_
  rw[show zgu 3 f=3*f+1 by rw[zgu,if_neg (by omega)]]
  have e6:decide (m.src≥3*f+1)=true:=by
   simp;have:¬m.src<3*f+1:=fun h=>hn ⟨rfl,e1,e2,e3,h⟩;omega
  refine zm (zd hq e6) ?_
  refine zu hl ?_
  exact hK
theorem c_pTakeG {i:TGi}{L:List (List UInt8)}{G:List zI}{N n p:Nat}{d:zib}{x:AV}{m:zbD}(h:TG i σ L G)(hL:zmF L)(hg:G.length<=1073741824)(hp:σ[p]? = some (.box (zmm d i.id i.id2 x)))(hI:PubI N d)(hN:N<=900000)(hx:SyAt σ d x n)(hm:zaJ m)
  (hK:∀S x',S.length=σ.length->S[p]? = some (.box (zmm (takeP L G d m) i.id i.id2 x'))->SyAt S (takeP L G d m) x' n->(∀(j:Nat) (y:AObj),j≠p->j≠n→σ[j]? = some y->S[j]? = some y)->K (.d (.bool (zrH L G d m))) S) :
  zP zaG [.box p 0,zge m] σ K:=by
 have hv:∀τ (K:KT),K (.d (.bool (zgg L G m))) (σ++τ)->zP zhd [.box i.id 0,.box i.id2 0,zge m] (σ++τ) K:=fun τ K hk=>zyU (h.tab.app _) (h.led.app _) hL hg hm hk;have same:zhb L G d m=false->K (.d (.bool false)) σ:=fun ho=>by
  have e1:takeP L G d m=d:=by rw[takeP,if_neg (by rw[ho];simp)]
  have e2:zrH L G d m=false:=by rw[zrH,ho];rfl
  have:=hK σ x rfl (by rw[e1];exact hp) (by rw[e1];exact hx) (fun j y _ _ h=>h);rwa [e2]at this
 cases hw:d.waits with
 | false=>
  have hp':=hp
  simp only[zmm,zlF,hw,Bool.false_eq_true,if_false]at hp'
  exact c_pTake0 hp' (same (by simp[zhb,hw]))
 | true=>
  obtain⟨rfl,sy,hn,hS⟩:=hx.yes hw
  have hp':=hp
  simp only[zmm,zlF,hw,if_true]at hp'
  by_cases ho:zhb L G d m=true
  rotate_left
  ·refine c_pTakeNo hp' hI.f hv (fun hc=>ho ?_) (same (by simpa using ho))
   simp[zhb,hw,hc]
  have hc:=ho
  simp only[zhb,hw,Bool.true_and,Bool.and_eq_true,decide_eq_true_eq]at hc
  obtain⟨c1,c2,c3,c4,c5⟩:=hc
  have hsrc:0<=m.src/\m.src<=12:=by
   simp only[zgg,Bool.and_eq_true,decide_eq_true_eq]at c4;exact(zyN c1 c4.1).src
  have hS2:=hS.put (a:=m.rerr) (b:=m.roff) hsrc
  have hlen:=hS.len
  have hmn:=hI.many
  have hnp:n≠p:=fun e=>by subst e;rw[hp]at hn;cases hn
  have hvo:=hS2.votes m.rerr m.roff
  refine c_pTake hp' hn (by omega) (fun τ K hk=>hv τ K (by rw[c4];exact hk)) c1 c2 c3 hI.f c5 (by omega) (fun hlt=>?_) (fun hlt=>?_)
  ·rw[hvo]at hlt
   have hB:zuv d m=false:=by simpa [zuv] using hlt
   have e1:takeP L G d m={ d with says:=sayD d.says m.src m.rerr m.roff }:=by rw[takeP,if_pos ho,if_neg (by rw[hB];simp)]
   have e2:zrH L G d m=false:=by rw[zrH,hB,Bool.and_false]
   rw[← e2]
   refine hK _ (.map n) (by simp) ?_ ⟨fun _=>⟨rfl,_,List.getElem?_set_self (zY hn),by rw[e1];exact hS2⟩,fun h'=>?_⟩ fun j y _ hj hy=>by rw[List.getElem?_set_ne (Ne.symm hj)];exact hy
   ·rw[List.getElem?_set_ne hnp,hp,e1]
    rfl
   ·rw[e1]at h';rw[hw]at h';cases h'
  ·rw[hvo]at hlt
   have hB:zuv d m=true:=by simpa [zuv] using hlt
   have e1:takeP L G d m={ d with says:=sayD d.says m.src m.rerr m.roff,waits:=false,ls:=d.s,la:=m.rerr,lo:=m.roff,many:=d.many+1 }:=by rw[takeP,if_pos ho,if_pos hB]
   have e2:zrH L G d m=true:=by rw[zrH,hB,ho];rfl
   rw[← e2]
   refine hK _ (.d .nilmap) (by simp) ?_ ⟨fun h'=>?_,fun _=>.inl rfl⟩ fun j y hj1 hj hy=>by rw[List.getElem?_set_ne (Ne.symm hj1),List.getElem?_set_ne (Ne.symm hj)];exact hy
   ·rw[List.getElem?_set_self (by simpa using zY hp),e1]
    have:zlc { d with says:=sayD d.says m.src m.rerr m.roff,waits:=false,ls:=d.s,la:=m.rerr,lo:=m.roff,many:=d.many+1 }=[ansD d.s m.rerr m.roff]:=by
     rw[zlc,if_neg (by simp only;omega)]
    simp only[zmm,this,zlF,Bool.false_eq_true,if_false]
   ·rw[e1]at h';cases h'
end
end Go.Proofs.YtdgcepphjnoalaaGreat

/- Contracts: the bytes of messages, the program's: view-changes and new views. -/
import Derived.Test.YtdgcepphjnoalaaGreatRd1
import Derived.Test.YtdgcepphjnoalaaGreatOpC
import Derived.Test.YtdgcepphjnoalaaGreatCk4
import Derived.Test.YtdgcepphjnoalaaGreatSh
import Derived.Test.YtdgcepphjnoalaaGreatSpTab
set_option linter.all false
set_option maxRecDepth 100000
namespace Go.Proofs.YtdgcepphjnoalaaGreat
open Go.AW
variable {σ:List AObj}
theorem c_wUns7 {id:Nat}{b:List UInt8}{m:zbD}{c:zbl}(hσ:σ[id]? = some (wO b))(hb:b.length<=1000000)(hk:m.kind=7)(hch:m.changes=[c])(hc:∀e∈zej c,e=0){K:KT}(hK:K (.tup []) (σ.set id (wO (b++unsB m)))) :
  zP zbr [.box id 0,zge m] σ K:=by
 refine zec zei fun hl=>?_;have hid:=zY hσ;have hgx:(zam m.changes)[0]? = some (zag c):=by rw[hch];rfl
 have hgl:(zam m.changes).length=1:=by rw[hch];rfl
 have n1:=zj (n:=m.kind.toNat) (by omega);simp only[zcX,iN,bT,bF,eN,zl6];have j:=zlE.first hσ (zlb m);refine zG ?_;refine zgC (l:=[m.kind]) j hid (by omega) (by simp) (by simp;omega) fun S j=>?_;have b0:=j.b;refine zdy (zd b0 (zd (kk7 hk) (zd hgx hgl))) ?_;refine c_wBody (c:=c) j.a (by simp[zS];omega) hc ?_;refine zG ?_;exact((j.set hid _).as (by simp[unsB,hk,hch,zS])).done (zqd _ _) hl hK
theorem c_wUns8 {id:Nat}{b:List UInt8}{m:zbD}(hσ:σ[id]? = some (wO b))(hb:b.length<=1000000)(hk:m.kind=8)(hc:∀e∈zfD m,e=0){K:KT}(hK:K (.tup []) (σ.set id (wO (b++unsB m)))) :
  zP zbr [.box id 0,zge m] σ K:=by
 refine zec zei fun hl=>?_;have hid:=zY hσ;have hcl:(zam m.changes).length=m.changes.length:=List.length_map ..;have hel:(zbq m.entries).length=m.entries.length:=List.length_map ..;obtain⟨h1,h2,h3,h4,h5,h6⟩:=newv_ok hc;have n0:=zj (n:=m.kind.toNat) (by omega);have n1:=zj (n:=m.src.toNat) (by omega);have n2:=zj (n:=m.view.toNat) (by omega);have n3:=zj (n:=m.changes.length) (by omega);have n4:=zj (n:=m.entries.length) (by omega);simp only[zcX,iN,bT,bF,eN,zl6];have j:=zlE.first hσ (zlb m);refine zG ?_;refine zgC (l:=[m.kind]) j hid (by omega) (by simp) (by simp;omega) fun S j=>?_;have b0:=j.b;refine zm (zd b0 (kk8 hk)) ?_;refine zgC (l:=[m.src,m.view]) j hid (by simp[zS];omega) (by simp) (by simp;omega) fun S j=>?_;have b0:=j.b;refine zm (zd b0 hcl) ?_;refine zvZ (n:=m.changes.length) j hid (by simp[zS];omega) (by omega) fun S j=>?_;have b0:=j.b;obtain⟨Q,hQ⟩:∃Q,b++zS [m.kind]++zS [m.src,m.view]++zbx m.changes.length=Q:=⟨_,rfl⟩;have hQl:Q.length<=1001000:=by rw[← hQ];simp[zS];omega
 rw[hQ]at j;refine zm (zd b0 hcl) ?_;refine zn m.changes.length (fun k vs S=>vs=[.d (.int .i64 k)]/\zlE σ id (zlb m) (wO (Q++((m.changes.take k).map zfQ).flatten)) S) ⟨rfl,by simpa using j⟩ ?_;rintro k vs S hk0 ⟨rfl,j⟩;have hlenC:∀k,(((m.changes.take k).map zfQ).flatten).length<=13*36020:=by
  intro k;have:=zcA (f:=zfQ) (n:=36020) (l:=m.changes.take k) fun s hm=>zrs (h4 s (List.mem_of_mem_take hm));have hlk:(m.changes.take k).length<=13:=by rw[List.length_take];omega
  have:(m.changes.take k).length*36020<=13*36020:=Nat.mul_le_mul_right _ hlk;omega
 have hlk1:=hlenC k;by_cases hlt:k<m.changes.length
 ·have hd:decide ((k:Int)<(m.changes.length:Int))=true:=by simp;omega
  have hx:m.changes[k]? = some m.changes[k]:=by simp[hlt]
  have hpx:=h4 _ (List.getElem_mem hlt);have hgx:=zQ (f:=zag) hx;obtain⟨p,hp⟩:∃p,m.changes[k]=p:=⟨_,rfl⟩;rw[hp]at hx hgx hpx;have hS:id<S.length:=zY j.a;have i:=zlE.first j.a (.box (zbM p));refine zdy (zd hd (zd hgx hcl)) ?_;refine c_wChange (c:=p) i.a (by simp only[List.length_append];omega) hpx ?_;refine zm (wkc k (by omega)) ?_;refine zaK.next hlt ⟨rfl,(j.trans hid (i.set hS _)).as ?_⟩;rw[zcZ hx];try simp
 ·have hd:decide ((k:Int)<(m.changes.length:Int))=false:=by simp;omega
  rw[show m.changes.take k=m.changes from List.take_of_length_le (by omega)]at j hlk1;have b0:=j.b;refine zm (zd hd (zd hcl (zd b0 hel))) ?_;refine zvZ (n:=m.entries.length) j hid (by simp only[List.length_append];omega) (by omega) fun S j=>?_;have b0:=j.b;obtain⟨R,hR⟩:∃R,Q++(m.changes.map zfQ).flatten++zbx m.entries.length=R:=⟨_,rfl⟩;have hRl:R.length<=2000000:=by rw[← hR];simp only[List.length_append];omega
  rw[hR]at j;refine zm (zd b0 hel) ?_;refine zn m.entries.length (fun k vs S=>vs=[.d (.int .i64 k)]/\zlE σ id (zlb m) (wO (R++((m.entries.take k).map znB).flatten)) S) ⟨rfl,by simpa using j⟩ ?_;rintro k vs S hk1 ⟨rfl,j⟩;by_cases hlt:k<m.entries.length
  ·have hd:decide ((k:Int)<(m.entries.length:Int))=true:=by simp;omega
   have hx:m.entries[k]? = some m.entries[k]:=by simp[hlt]
   have hpx:=h6 _ (List.getElem_mem hlt);have hgx:=zQ (f:=zdg) hx;obtain⟨p,hp⟩:∃p,m.entries[k]=p:=⟨_,rfl⟩;rw[hp]at hx hgx hpx;have hlen:(((m.entries.take k).map znB).flatten).length<=(m.entries.take k).length*4040:=zcA fun s hm=>ztp (h6 s (List.mem_of_mem_take hm));have hlk:(m.entries.take k).length=k:=by rw[List.length_take];omega
   obtain⟨T,hT⟩:∃T,R++((m.entries.take k).map znB).flatten=T:=⟨_,rfl⟩;have hTl:T.length<=3000000:=by rw[← hT,List.length_append];omega
   rw[hT]at j;obtain⟨p1,p2,p3,p4⟩:=zAg hpx;have m1:=zj (n:=p.view.toNat) (by omega);have m2:=zj (n:=p.seq.toNat) (by omega);have m3:=(zdI p3).2;have hS:id<S.length:=zY j.a;have i:=zlE.first j.a (.box [.d (.int .i64 p.view),.d (.int .i64 p.seq),.d (.slice (zbA p.batch)),.d (.int .i64 p.key),.d (.int .i64 p.dig)]);refine zdy (zd hd (zd hgx hel)) ?_;refine zgC (l:=[p.view,p.seq]) i hS (by omega) (by simp) (by simp;omega) fun S2 i=>?_;have b0:=i.b;refine zm b0 ?_;refine zuW i hS (by simp[zS];omega) p3 fun S2 i=>?_;have b0:=i.b;refine zm b0 ?_;refine jw_sign i hS (by simp[zS];omega) p4 fun S2 i=>?_;refine zm (wkc k (by omega)) ?_;refine zaK.next hlt ⟨rfl,(j.trans hid i).as ?_⟩;rw[zcZ hx,← hT];simp[znB,zS]
  ·have hd:decide ((k:Int)<(m.entries.length:Int))=false:=by simp;omega
   rw[show m.entries.take k=m.entries from List.take_of_length_le (by omega)]at j;refine zm (zd hd hel) ?_;exact(j.as (by rw[← hR,← hQ];simp[unsB,hk,newvB,zS])).done (zqd _ _) hl hK
theorem zAr {id:Nat}{b:List UInt8}(hσ:σ[id]? = some (wO b)){K:KT}(hK:K (.tup [.d (.slice (bcs (if b.length>262144 then []else b))),.d (.int .i64 (if b.length>262144 then 3 else 0))]) σ) :
  zP zfo [.box id 0] σ K:=by
 refine zez znZ fun hl=>?_;simp only[zif,iN,bT,bF,eN];by_cases h:b.length>262144
 ·have hd:decide ((b.length:Int)>262144)=true:=by simp;omega
  rw[if_pos h,if_pos h]at hK;refine zm (zd hσ hd) ?_;refine zu hl ?_;exact hK
 ·have hd:decide ((b.length:Int)>262144)=false:=by simp;omega
  rw[if_neg h,if_neg h]at hK;refine zm (zd hσ hd) ?_;refine zu hl ?_;exact hK
variable {σ:List AObj}
def resB (e o:Int):List UInt8:=zbx (max 0 e).toNat++zbx (max 0 o).toNat
theorem gq23 {A P Q:Prop}(a:A)(h:Q)(e:A->P=Q:=by intro a;simp -dsimp only[↓zmg,↓zcf,↓zep,↓zmh,↓zmb,↓zlZ,↓zmc,↓zma,↓zeu,↓zeq,↓zev,↓zer,↓zmd,↓zeo,↓zew,↓zes,↓zex,↓zet,↓zlY,↓zmf,↓zen,↓zey,↓zlW,↓zlV,↓zlX,iN,bT,bF,eN,↓zeO,↓unC,↓zaE,↓zan,↓zao,↓zaA,↓zbf,↓zah,↓zgR,↓zaz,↓zbe,↓zae,↓ze,↓zl,↓zbc,↓zc,↓zaY,↓zM,↓zce,↓zcB,↓zf,↓zF,↓zr,↓zN,↓zaC,↓zgY,↓zhU,↓zbi,↓zbJ,↓zcj,↓zcM,↓zdG,↓zL,↓zbh,↓zap,↓zR,↓zbb,zhS,zdY,zdS,unA,zgE,bnd,zjr,zaP,zK,ziD,dm,dm1,zH,zaI,zkw,zkv,keepO,Q0,Q1,Q2,Q3,Q4,Q5,zbg,zA,zC,zZ,zad,Q6,Q7,Q8,Q9,Q10,Q11,Q12,Q13,Q14,Nat.reduceAdd,Q15,Int.reduceToNat,Q16,Q17,Q18,Q19,Q20,reduceIte,Q21,Q22,zy,rep,zaq,zil,toD,zaD,Q23,Q24,Q25,Q26,Q27,Q28,Nat.reduceLeDiff,Q29,Nat.reduceSub,Q30,Q31,Q32,sc,Q33,Q34,Q35,m1,a];rfl):P:=(e a).mpr h
theorem c_PutResult {b:List UInt8}{e o:Int}(hb:b.length<=268435456)(he:e<9223372036854775808)(ho:o<9223372036854775808){K:KT}(hK:K (.d (.slice (bcs (b++resB e o)))) σ) :
  zP zlO [.d (.slice (bcs b)),.agg [.d (.int .i64 e),.d (.int .i64 o)]] σ K:=by
 refine zec zxU fun hl=>?_;simp only[zqF,iN,bT,bF,eN];have g1:=zj (n:=(max 0 e).toNat) (by omega);have m1:IntKind.u64.wrap (if (0:Int)>e then 0 else e)=((max 0 e).toNat:Int):=by
  rw[show(if (0:Int)>e then 0 else e)=max 0 e by split<;>omega];exact zrD (by omega) (by omega)
 have m2:IntKind.u64.wrap (if (0:Int)>o then 0 else o)=((max 0 o).toNat:Int):=by
  rw[show(if (0:Int)>o then 0 else o)=max 0 o by split<;>omega];exact zrD (by omega) (by omega)
 (refine gq23 m2 ?_;try with_reducible exact True.intro);refine zfv (by omega) (by omega) ?_;(refine gq23 m2 ?_;try with_reducible exact True.intro);refine zfv (by omega) (by simp only[List.length_append];omega) ?_;(refine gq4 ?_;try with_reducible exact True.intro);refine zu hl ?_;exact hK
theorem c_rPutResult {b:List UInt8}{e o:Int}(hb:b.length<=268435456)(he:e<9223372036854775808)(ho:o<9223372036854775808){K:KT}(hK:K (.d (.slice (bcs (b++resB e o)))) σ) :
  zP zkn [.d (.slice (bcs b)),.agg [.d (.int .i64 e),.d (.int .i64 o)]] σ K:=by
 refine zec zwx fun hl=>?_;simp only[zpf,iN,bT,bF,eN];have g1:=zj (n:=(max 0 e).toNat) (by omega);have m1:IntKind.u64.wrap (if e>0 then e else 0)=((max 0 e).toNat:Int):=by
  rw[show(if e>0 then e else 0)=max 0 e by split<;>omega];exact zrD (by omega) (by omega)
 have m2:IntKind.u64.wrap (if o>0 then o else 0)=((max 0 o).toNat:Int):=by
  rw[show(if o>0 then o else 0)=max 0 o by split<;>omega];exact zrD (by omega) (by omega)
 (refine gq23 m2 ?_;try with_reducible exact True.intro);refine zeM (by omega) (by omega) ?_;(refine gq23 m2 ?_;try with_reducible exact True.intro);refine zeM (by omega) (by simp only[List.length_append];omega) ?_;(refine gq4 ?_;try with_reducible exact True.intro);refine zu hl ?_;exact hK
variable {σ:List AObj}
theorem c_wStr {id:Nat}{b x:List UInt8}(hσ:σ[id]? = some (wO b))(hb:b.length<=536870912)(hx:x.length<=536870912){K:KT}(hK:K (.tup []) (σ.set id (wO (b++zkf x)))) :
  zP zcs [.box id 0,.d (.slice (bcs x))] σ K:=by
 refine zja zlo.is rfl fun hl _=>zlo.goes ?_;have hid:=zY hσ;have hσ1:=fun τ=>zi (τ:=τ) hσ;simp only[zlw,iN,bT,bF,eN];refine zm hσ ?_;refine zpJ (b:=b) (x:=x) (by omega) (by omega) ?_;refine zm hσ1 ?_;rw[List.set_append_left _ _ hid];exact zkb hσ (by simp[zcm,dmT,zbw]) hl hK
theorem jw_str {σ S:List AObj}{id:Nat}{B:AObj}{b x:List UInt8}{K:KT}(j:zlE σ id B (wO b) S)(hid:id<σ.length)(hb:b.length<=536870912)(hx:x.length<=536870912)(hK:∀S,zlE σ id B (wO (b++zkf x)) S->K (.tup []) S) :
  zP zcs [.box id 0,.d (.slice (bcs x))] S K:=c_wStr j.a hb hx (hK _ (j.set hid _))
theorem c_wProof {id:Nat}{b:List UInt8}{p:zfi}(hσ:σ[id]? = some (wO b))(hb:b.length<=1000000)(hp:zrA p){K:KT}(hK:K (.tup []) (σ.set id (wO (b++ztT p)))) :
  zP zfp [.box id 0,znA p] σ K:=by
 refine zec zoa fun hl=>?_;have hid:=zY hσ;have hhl:(zmt p.headers).length=p.headers.length:=List.length_map ..;have hpl:(zhV p.path).length=p.path.length:=List.length_map ..;obtain⟨h1,h2,h3,h4,h5,h6,h7,h8,h9,h10⟩:=hp;have p1:=zdl (x:=p.topic) (by omega);have p2:=zdl (x:=p.rec_) (by omega);have n1:=zj (n:=p.offset.toNat) (by omega);have n2:=zj (n:=p.headers.length) (by omega);have n3:=zj (n:=p.index.toNat) (by omega);have n4:=zj (n:=p.count.toNat) (by omega);have n5:=zj (n:=p.path.length) (by omega);have q1:=zhI h10;simp only[zig,iN,bT,bF,eN,znA];have j:=zlE.first hσ (.box [.d (.str p.topic),.d (.int .i64 p.offset),.d (.slice (bcs p.rec_)),.d (.slice (zmt p.headers)),.d (.int .i64 p.index),.d (.int .i64 p.count),.d (.slice (zhV p.path)),.d (.int .i64 p.cert.seq),.d (.int .i64 p.cert.dig),.d (.slice (zat p.cert.signs))]);obtain⟨X,hX⟩:∃X,AObj.box [.d (.str p.topic),.d (.int .i64 p.offset),.d (.slice (bcs p.rec_)),.d (.slice (zmt p.headers)),.d (.int .i64 p.index),.d (.int .i64 p.count),.d (.slice (zhV p.path)),.d (.int .i64 p.cert.seq),.d (.int .i64 p.cert.dig),.d (.slice (zat p.cert.signs))]=X:=⟨_,rfl⟩;have hB:∀ {S b'},zlE σ id X (wO b') S->S[σ.length]? = some (.box [.d (.str p.topic),.d (.int .i64 p.offset),.d (.slice (bcs p.rec_)),.d (.slice (zmt p.headers)),.d (.int .i64 p.index),.d (.int .i64 p.count),.d (.slice (zhV p.path)),.d (.int .i64 p.cert.seq),.d (.int .i64 p.cert.dig),.d (.slice (zat p.cert.signs))]):=fun j=>by rw[hX];exact j.b
 refine zG ?_;rw[hX]at j ⊢;refine jw_str (b:=b) (x:=p.topic) j hid (by omega) (by omega) fun S j=>?_;have b0:=hB j;refine zm b0 ?_;refine zgC (l:=[p.offset]) j hid (by simp only[List.length_append];omega) (by simp) (by simp;omega) fun S j=>?_;have b0:=hB j;refine zm b0 ?_;refine jw_str (x:=p.rec_) j hid (by simp[zS];omega) (by omega) fun S j=>?_;have b0:=hB j;refine zm (zd b0 hhl) ?_;refine zvZ (n:=p.headers.length) j hid (by simp[zS];omega) (by omega) fun S j=>?_;have b0:=hB j;obtain⟨Q,hQ⟩:∃Q,b++zkf p.topic++zS [p.offset]++zkf p.rec_++zbx p.headers.length=Q:=⟨_,rfl⟩;have hQl:Q.length<=1000400:=by rw[← hQ];simp[zS];omega
 rw[hQ]at j;refine zm (zd b0 hhl) ?_;refine zn p.headers.length (fun k vs S=>vs=[.d (.int .i64 k)]/\zlE σ id X (wO (Q++((p.headers.take k).map hdB).flatten)) S) ⟨rfl,by simpa using j⟩ ?_;rintro k vs S hk0 ⟨rfl,j⟩;have hlenC:(((p.headers.take k).map hdB).flatten).length<=64*50:=by
  have:=zcA (f:=hdB) (n:=50) (l:=p.headers.take k) fun s hm=>hdB_len (h5 s (List.mem_of_mem_take hm));have hlk:(p.headers.take k).length<=64:=by rw[List.length_take];omega
  have:(p.headers.take k).length*50<=64*50:=Nat.mul_le_mul_right _ hlk;omega
 by_cases hlt:k<p.headers.length
 ·have hd:decide ((k:Int)<(p.headers.length:Int))=true:=by simp;omega
  have hx:p.headers[k]? = some p.headers[k]:=by simp[hlt]
  have hpx:=hdr_ok (h5 _ (List.getElem_mem hlt));have hgx:=zQ (f:=zrY) hx;obtain⟨h,hh⟩:∃h,p.headers[k]=h:=⟨_,rfl⟩;rw[hh]at hx hgx hpx;have hS:id<S.length:=zY j.a;have i:=zlE.first j.a (.box [.d (.int .i64 h.seq),.d (.int .i64 h.prev),.d (.int .i64 h.batch),.d (.int .i64 h.root),.d (.int .i64 h.state)]);refine zdy (zd hd (zd hgx hhl)) ?_;refine zgC (l:=[h.seq,h.prev,h.batch,h.root,h.state]) i hS (by simp only[List.length_append];omega) (by simp) hpx fun S2 i=>?_;refine zm (wkc k (by omega)) ?_;refine zaK.next hlt ⟨rfl,(j.trans hid i).as ?_⟩;rw[zcZ hx,hdB,← List.append_assoc]
 have hd:decide ((k:Int)<(p.headers.length:Int))=false:=by simp;omega
 rw[show p.headers.take k=p.headers from List.take_of_length_le (by omega)]at j hlenC;have b0:=hB j;refine zm (zd hd (zd hhl b0)) ?_;refine zgC (l:=[p.index,p.count]) j hid (by simp only[List.length_append];omega) (by simp) (by simp;omega) fun S j=>?_;have b0:=hB j;refine zm (zd b0 hpl) ?_;refine zvZ (n:=p.path.length) j hid (by simp[zS]at hlenC ⊢;omega) (by omega) fun S j=>?_;have b0:=hB j;obtain⟨R,hR⟩:∃R,Q++(p.headers.map hdB).flatten++zS [p.index,p.count]++zbx p.path.length=R:=⟨_,rfl⟩;have hRl:R.length<=1004000:=by rw[← hR];simp[zS]at hlenC ⊢;omega
 rw[hR]at j;refine zm (zd b0 hpl) ?_;refine zn p.path.length (fun k vs S=>vs=[.d (.int .i64 k)]/\zlE σ id X (wO (R++zS (p.path.take k))) S) ⟨rfl,by simpa [zS] using j⟩ ?_;rintro k vs S hk1 ⟨rfl,j⟩;have hlenP:(zS (p.path.take k)).length<=80:=by
  have:=zcd (l:=p.path.take k) fun s hm=>h9 s (List.mem_of_mem_take hm);have hlk:(p.path.take k).length<=8:=by rw[List.length_take];omega
  omega
 by_cases hlt:k<p.path.length
 ·have hd:decide ((k:Int)<(p.path.length:Int))=true:=by simp;omega
  have hx:p.path[k]? = some p.path[k]:=by simp[hlt]
  have hpx:=h9 _ (List.getElem_mem hlt);have hgx:=zQ (f:=fun t=>[D.int .i64 t]) hx;obtain⟨h,hh⟩:∃h,p.path[k]=h:=⟨_,rfl⟩;rw[hh]at hx hgx hpx;refine zm (zd hd (zd hgx hpl)) ?_;refine zgC (l:=[h]) j hid (by simp only[List.length_append];omega) (by simp) (by simp;omega) fun S2 j=>?_;refine zm (wkc k (by omega)) ?_;refine zaK.next hlt ⟨rfl,j.as ?_⟩;rw[zpu hx,List.append_assoc];simp[zS]
 have hd:decide ((k:Int)<(p.path.length:Int))=false:=by simp;omega
 rw[show p.path.take k=p.path from List.take_of_length_le (by omega)]at j hlenP;have b0:=hB j;refine zm (zd hd (zd hpl b0)) ?_;refine jw_cert (c:=p.cert) j hid (by simp only[List.length_append];omega) h10 fun S j=>?_;refine zG ?_;exact(j.as (by rw[← hR,← hQ];simp[ztT])).done (zqd _ _) hl hK
variable {σ:List AObj}
theorem c_mSome {K:KT}(hK:K (.agg [.d (.int .i64 0),.d (.int .i64 1)]) σ):zP ziJ [] σ K:=by
 refine acE0 zxV fun hl=>?_;simp only[zqG,iN,bT,bF,eN];refine zG ?_;refine zu hl ?_;exact hK
variable {σ:List AObj}
structure zgK (σ:List AObj) (id m t:Nat) (l:List (List UInt8)):Prop where
 box:σ[id]? = some (.box [.own t (zvp l),.map m])
 map:σ[m]? = some (.map (tabM l))
 tok:σ[t]? = some (.tok 1 l.length)
structure zfj (σ:List AObj) (id m t:Nat) (g:List zI):Prop where
 box:σ[id]? = some (.box [.own t (ztW g),.map m])
 map:σ[m]? = some (.map (zxB g))
 tok:σ[t]? = some (.tok 2 g.length)
def putTab (σ:List AObj) (id m t:Nat) (l:List (List UInt8)):List AObj:=((σ.set t (.tok 1 l.length)).set id (.box [.own t (zvp l),.map m])).set m (.map (tabM l))
def putLed (σ:List AObj) (id m t:Nat) (g:List zI):List AObj:=((σ.set m (.map (zxB g))).set t (.tok 2 g.length)).set id (.box [.own t (ztW g),.map m])
abbrev tabO (n:Nat) (l:List (List UInt8)):List AObj:=[.map (tabM l),.box [.own (n+2) (zvp l),.map n],.tok 1 l.length]
abbrev ledO (n:Nat) (g:List zI):List AObj:=[.map (zxB g),.box [.own (n+2) (ztW g),.map n],.tok 2 g.length]
theorem zgK.ne {id m t:Nat}{l:List (List UInt8)}(h:zgK σ id m t l):id≠m/\id≠t/\m≠t:=by
 refine⟨fun e=>?_,fun e=>?_,fun e=>?_⟩<;>subst e
 ·have:=h.box;rw[h.map]at this;cases this
 ·have:=h.box;rw[h.tok]at this;cases this
 ·have:=h.map;rw[h.tok]at this;cases this
theorem zfj.ne {id m t:Nat}{g:List zI}(h:zfj σ id m t g):id≠m/\id≠t/\m≠t:=by
 refine⟨fun e=>?_,fun e=>?_,fun e=>?_⟩<;>subst e
 ·have:=h.box;rw[h.map]at this;cases this
 ·have:=h.box;rw[h.tok]at this;cases this
 ·have:=h.map;rw[h.tok]at this;cases this
theorem zgK.self {id m t:Nat}{l:List (List UInt8)}(h:zgK σ id m t l):putTab σ id m t l=σ:=by
 unfold putTab;rw[zbS h.tok,zbS h.box,zbS h.map]
theorem zfj.self {id m t:Nat}{g:List zI}(h:zfj σ id m t g):putLed σ id m t g=σ:=by
 unfold putLed;rw[zbS h.map,zbS h.tok,zbS h.box]
theorem zgK.app {id m t:Nat}{l:List (List UInt8)}(h:zgK σ id m t l)(τ:List AObj):zgK (σ++τ) id m t l:=⟨zi h.box,zi h.map,zi h.tok⟩
theorem zfj.app {id m t:Nat}{g:List zI}(h:zfj σ id m t g)(τ:List AObj):zfj (σ++τ) id m t g:=⟨zi h.box,zi h.map,zi h.tok⟩
theorem tabAt_new (σ:List AObj)(l:List (List UInt8))(τ:List AObj):zgK (σ++(tabO σ.length l++τ)) (σ.length+1) σ.length (σ.length+2) l:=
 ⟨by rw[zA];rfl,by rw[zC];rfl,by rw[zA];rfl⟩
theorem ledAt_new (σ:List AObj)(g:List zI)(τ:List AObj):zfj (σ++(ledO σ.length g++τ)) (σ.length+1) σ.length (σ.length+2) g:=
 ⟨by rw[zA];rfl,by rw[zC];rfl,by rw[zA];rfl⟩
theorem putTab_new (σ:List AObj)(l l':List (List UInt8))(τ:List AObj):putTab (σ++(tabO σ.length l++τ)) (σ.length+1) σ.length (σ.length+2) l'=σ++(tabO σ.length l'++τ):=by
 unfold putTab;rw[zZ,zZ,zad];rfl
theorem putLed_new (σ:List AObj)(g g':List zI)(τ:List AObj):putLed (σ++(ledO σ.length g++τ)) (σ.length+1) σ.length (σ.length+2) g'=σ++(ledO σ.length g'++τ):=by
 unfold putLed;rw[zad,zZ,zZ];rfl
theorem zsR {id m t:Nat}{l:List (List UInt8)}(h:zgK σ id m t l)(l':List (List UInt8))(τ:List AObj):putTab (σ++τ) id m t l'=putTab σ id m t l'++τ:=by
 have h1:=zY h.box;have h2:=zY h.map;have h3:=zY h.tok;unfold putTab;rw[List.set_append_left _ _ h3,List.set_append_left _ _ (by simpa using h1),List.set_append_left _ _ (by simpa using h2)]
theorem zsS {id m t:Nat}{g:List zI}(h:zfj σ id m t g)(g':List zI)(τ:List AObj):putLed (σ++τ) id m t g'=putLed σ id m t g'++τ:=by
 have h1:=zY h.box;have h2:=zY h.map;have h3:=zY h.tok;unfold putLed;rw[List.set_append_left _ _ h2,List.set_append_left _ _ (by simpa using h3),List.set_append_left _ _ (by simpa using h1)]
theorem zpt (σ:List AObj)(id m t:Nat)(l:List (List UInt8)):(putTab σ id m t l).length=σ.length:=by simp[putTab]
theorem zyk (σ:List AObj)(id m t:Nat)(g:List zI):(putLed σ id m t g).length=σ.length:=by simp[putLed]
theorem zyv {n:Nat}(l:List (List UInt8)):ztL n (.map (tabM l)):=by
 have key:∀(l:List (List UInt8)) (i:Nat),∀e∈zxD l i,Low n e.1/\Low n e.2:=by
  intro l;induction l with
  | nil=>intro i e h;cases h
  | cons x r ih=>
   intro i e h
   simp only[zxD,List.mem_cons]at h
   rcases h with rfl|h
   ·exact⟨.d _,.d _⟩
   ·exact ih _ e h
 exact fun e he=>key l 0 e he
theorem zyw {n:Nat}(g:List zI):ztL n (.map (zxB g)):=by
 intro e he;simp only[zxB,List.mem_map]at he;obtain⟨s,_,rfl⟩:=he;exact⟨.agg _ (by simp[zha]),.d _⟩
theorem lowBox {n t m:Nat}{es:List (List D)}(ht:t<n)(hm:m<n):ztL n (.box [.own t es,.map m]):=by
 intro c hc;simp only[List.mem_cons,List.not_mem_nil,or_false]at hc;rcases hc with rfl|rfl
 ·exact .own _ _ ht
 ·exact .map _ hm
theorem zgK.lows {id m t:Nat}{l:List (List UInt8)}(h:zgK σ id m t l)(hl:zhl σ.length σ)(l':List (List UInt8)):zhl σ.length (putTab σ id m t l'):=
 ((hl.setO (show ztL _ (.tok 1 l'.length)from trivial)).setO (lowBox (zY h.tok) (zY h.map))).setO (zyv l')
theorem zfj.lows {id m t:Nat}{g:List zI}(h:zfj σ id m t g)(hl:zhl σ.length σ)(g':List zI):zhl σ.length (putLed σ id m t g'):=
 ((hl.setO (zyw g')).setO (show ztL _ (.tok 2 g'.length)from trivial)).setO (lowBox (zY h.tok) (zY h.map))
theorem low_tabO (n:Nat)(l:List (List UInt8)):∀x∈tabO n l,ztL (n+(tabO n l).length) x:=by
 intro x hx;simp only[List.mem_cons,List.not_mem_nil,or_false]at hx;rcases hx with rfl|rfl|rfl
 ·exact zyv l
 ·exact lowBox (by simp) (by simp)
 ·trivial
theorem low_ledO (n:Nat)(g:List zI):∀x∈ledO n g,ztL (n+(ledO n g).length) x:=by
 intro x hx;simp only[List.mem_cons,List.not_mem_nil,or_false]at hx;rcases hx with rfl|rfl|rfl
 ·exact zyw g
 ·exact lowBox (by simp) (by simp)
 ·trivial
variable {σ:List AObj}
theorem zzY {P Q:Prop}(h:Q)(e:Hd Q->P:=by intro h;(repeat' first|simp -dsimp only[↓zmg,↓zcf,↓zep,↓zmh,↓zmb,↓zlZ,↓zmc,↓zma,↓zeu,↓zeq,↓zev,↓zer,↓zmd,↓zeo,↓zew,↓zes,↓zex,↓zet,↓zlY,↓zmf,↓zen,↓zey,↓zlW,↓zlV,↓zlX,iN,bT,bF,eN,↓zeO,↓unC,↓zaE,↓zan,↓zao,↓zaA,↓zbf,↓zah,↓zgR,↓zaz,↓zbe,↓zae,↓ze,↓zl,↓zbc,↓zc,↓zaY,↓zM,↓zce,↓zcB,↓zf,↓zF,↓zr,↓zN,↓zaC,↓zgY,↓zhU,↓zbi,↓zbJ,↓zcj,↓zcM,↓zdG,↓zL,↓zbh,↓zap,↓zR,↓zbb,zhS,zdY,zdS,unA,zgE,bnd,zjr,zaP,zK,ziD,dm,dm1,zH,zaI,zkw,zkv,keepO,Q0,Q1,Q2,Q3,Q4,Q5,zbg,zA,zC,zZ,zad,Q6,Q7,Q8,Q9,Q10,Q11,Q12,Q13,Q14,Nat.reduceAdd,Q15,Int.reduceToNat,Q16,Q17,Q18,Q19,Q20,reduceIte,Q21,Q22,zy,rep,zaq,zil,toD,zaD,Q23,Q24,Q25,Q26,Q27,Q28,Nat.reduceLeDiff,Q29,Nat.reduceSub,Q30,Q31,Q32,sc,Q33,Q34,Q35,Q36,Q37,Q26,Q38,Q39,zvP,zvM,zvJ,zvQ,zkt,zvN,zvK,zvO,zvL,zks,zku,zwb,zwc,Bool.not_true,Bool.not_false,List.length_map]|with_reducible refine zxa ?_|fail);exact h.go):P:=e ⟨h⟩
theorem ztF {K:KT}(hK:K (.box (σ.length+1) 0) (σ++tabO σ.length [])):zP zfe [] σ K:=by
 refine ACall.weaken ?_;refine zbO znD.is rfl (fun s=>List.range' σ.length 2) fun hl _=>znD.goes ?_;simp only[znQ,iN,bT,bF,eN];refine zzY ?_;refine zdn (σ':=σ) (os:=[.map [],.box [.exact [],.map σ.length]]) rfl rfl hl ?_ (.box _ _ (by simp)) ?_
 ·intro x hx;simp only[List.mem_cons,List.not_mem_nil,or_false]at hx;rcases hx with rfl|rfl
  ·intro e he;cases he
  ·intro c hc;simp only[List.mem_cons,List.not_mem_nil,or_false]at hc;rcases hc with rfl|rfl
   ·exact .exact _
   ·exact .map _ (by simp)
 ·refine⟨.box (σ.length+1) 0,σ++tabO σ.length [],?_,hK⟩;refine .tokB (σ.length+1) 0 [.exact [],.map σ.length] [] 1 (by rw[zA];rfl) rfl (by simp) ?_;have e:(σ++[AObj.map [],AObj.box [AV.exact [],AV.map σ.length]]).set (σ.length+1) (.box ([AV.exact [],AV.map σ.length].set 0 (.own (σ++[AObj.map [],AObj.box [AV.exact [],AV.map σ.length]]).length [])))++[.tok 1 0]=σ++tabO σ.length []:=by
   rw[zZ];simp[tabO];rfl
  rw[List.length_nil,e];exact .refl _ _
theorem znv {K:KT}(hK:K (.box (σ.length+1) 0) (σ++ledO σ.length [])):zP zeK [] σ K:=by
 refine ACall.weaken ?_;refine zbO zmB.is rfl (fun s=>List.range' σ.length 2) fun hl _=>zmB.goes ?_;simp only[zmP,iN,bT,bF,eN];refine zzY ?_;refine zdn (σ':=σ) (os:=[.map [],.box [.exact [],.map σ.length]]) rfl rfl hl ?_ (.box _ _ (by simp)) ?_
 ·intro x hx;simp only[List.mem_cons,List.not_mem_nil,or_false]at hx;rcases hx with rfl|rfl
  ·intro e he;cases he
  ·intro c hc;simp only[List.mem_cons,List.not_mem_nil,or_false]at hc;rcases hc with rfl|rfl
   ·exact .exact _
   ·exact .map _ (by simp)
 ·refine⟨.box (σ.length+1) 0,σ++ledO σ.length [],?_,hK⟩;refine .tokB (σ.length+1) 0 [.exact [],.map σ.length] [] 2 (by rw[zA];rfl) rfl (by simp) ?_;have e:(σ++[AObj.map [],AObj.box [AV.exact [],AV.map σ.length]]).set (σ.length+1) (.box ([AV.exact [],AV.map σ.length].set 0 (.own (σ++[AObj.map [],AObj.box [AV.exact [],AV.map σ.length]]).length [])))++[.tok 2 0]=σ++ledO σ.length []:=by
   rw[zZ];simp[ledO];rfl
  rw[List.length_nil,e];exact .refl _ _
theorem zoe {A P Q:Prop}(a:A)(h:Q)(e:A->Hd Q->P:=by intro a h;(repeat' first|simp -dsimp only[↓zmg,↓zcf,↓zep,↓zmh,↓zmb,↓zlZ,↓zmc,↓zma,↓zeu,↓zeq,↓zev,↓zer,↓zmd,↓zeo,↓zew,↓zes,↓zex,↓zet,↓zlY,↓zmf,↓zen,↓zey,↓zlW,↓zlV,↓zlX,iN,bT,bF,eN,↓zeO,↓unC,↓zaE,↓zan,↓zao,↓zaA,↓zbf,↓zah,↓zgR,↓zaz,↓zbe,↓zae,↓ze,↓zl,↓zbc,↓zc,↓zaY,↓zM,↓zce,↓zcB,↓zf,↓zF,↓zr,↓zN,↓zaC,↓zgY,↓zhU,↓zbi,↓zbJ,↓zcj,↓zcM,↓zdG,↓zL,↓zbh,↓zap,↓zR,↓zbb,zhS,zdY,zdS,unA,zgE,bnd,zjr,zaP,zK,ziD,dm,dm1,zH,zaI,zkw,zkv,keepO,Q0,Q1,Q2,Q3,Q4,Q5,zbg,zA,zC,zZ,zad,Q6,Q7,Q8,Q9,Q10,Q11,Q12,Q13,Q14,Nat.reduceAdd,Q15,Int.reduceToNat,Q16,Q17,Q18,Q19,Q20,reduceIte,Q21,Q22,zy,rep,zaq,zil,toD,zaD,Q23,Q24,Q25,Q26,Q27,Q28,Nat.reduceLeDiff,Q29,Nat.reduceSub,Q30,Q31,Q32,sc,Q33,Q34,Q35,Q36,Q37,Q26,Q38,Q39,zvP,zvM,zvJ,zvQ,zkt,zvN,zvK,zvO,zvL,zks,zku,zwb,zwc,Bool.not_true,Bool.not_false,List.length_map,a]|with_reducible refine zxa ?_|fail);exact h.go):P:=e a ⟨h⟩
theorem zAs {id m t:Nat}{l:List (List UInt8)}(hT:zgK σ id m t l){K:KT}(hK:K (.d (.bool false)) σ):zP zdb [.box id 0] σ K:=by
 refine zez zsl fun hl=>?_;have hb:=hT.box;simp only[zlB,iN,bT,bF,eN];refine zoe hb ?_;refine zu hl ?_;exact hK
theorem zwT {id m t:Nat}{g:List zI}(hG:zfj σ id m t g){K:KT}(hK:K (.d (.bool false)) σ):zP zcQ [.box id 0] σ K:=by
 refine zez zrn fun hl=>?_;have hb:=hG.box;simp only[zkX,iN,bT,bF,eN];refine zoe hb ?_;refine zu hl ?_;exact hK
theorem zdq {A B:Prop}(a:A)(b:B):A/\B:=⟨a,b⟩
theorem gq26 {A P Q:Prop}(a:A)(h:Q)(e:A->Hd Q->P:=by intro a h;(repeat' first|simp -dsimp only[↓zmg,↓zcf,↓zep,↓zmh,↓zmb,↓zlZ,↓zmc,↓zma,↓zeu,↓zeq,↓zev,↓zer,↓zmd,↓zeo,↓zew,↓zes,↓zex,↓zet,↓zlY,↓zmf,↓zen,↓zey,↓zlW,↓zlV,↓zlX,iN,bT,bF,eN,↓zeO,↓unC,↓zaE,↓zan,↓zao,↓zaA,↓zbf,↓zah,↓zgR,↓zaz,↓zbe,↓zae,↓ze,↓zl,↓zbc,↓zc,↓zaY,↓zM,↓zce,↓zcB,↓zf,↓zF,↓zr,↓zN,↓zaC,↓zgY,↓zhU,↓zbi,↓zbJ,↓zcj,↓zcM,↓zdG,↓zL,↓zbh,↓zap,↓zR,↓zbb,zhS,zdY,zdS,unA,zgE,bnd,zjr,zaP,zK,ziD,dm,dm1,zH,zaI,zkw,zkv,keepO,Q0,Q1,Q2,Q3,Q4,Q5,zbg,zA,zC,zZ,zad,Q6,Q7,Q8,Q9,Q10,Q11,Q12,Q13,Q14,Nat.reduceAdd,Q15,Int.reduceToNat,Q16,Q17,Q18,Q19,Q20,reduceIte,Q21,Q22,zy,rep,zaq,zil,toD,zaD,Q23,Q24,Q25,Q26,Q27,Q28,Nat.reduceLeDiff,Q29,Nat.reduceSub,Q30,Q31,Q32,sc,Q33,Q34,Q35,Q36,Q37,Q26,Q38,Q39,zvP,zvM,zvJ,zvQ,zkt,zvN,zvK,zvO,zvL,zks,zku,zwb,zwc,Bool.not_true,Bool.not_false,List.length_map,Bool.and_false,Bool.and_self,Bool.false_and,Bool.not_false,Bool.not_true,Bool.true_and,Int.toNat_natCast,Int.toNat_zero,List.drop_zero,List.length_map,List.length_nil,List.nil_append,List.take_length,Nat.sub_zero,Nat.zero_add,Option.isSome_none,Option.isSome_some,Option.map_none,Option.map_some,zaj,beq_self_eq_true,bne_self_eq_false,ziz,zfg,zgh,zcj,mgetR,zcM,a]|with_reducible refine zxa ?_|fail);exact h.go):P:=e a ⟨h⟩
theorem c_tLook {id m t:Nat}{l:List (List UInt8)}{b:List UInt8}(hT:zgK σ id m t l){K:KT}(hK:K (.tup [.d (.int .i64 (zor (zhE l b))),.d (.bool (zhE l b).isSome)]) σ) :
  zP zfu [.box id 0,.d (.slice (bcs b))] σ K:=by
 refine zec zsm fun hl=>?_;have hb:=hT.box;have hm:=hT.map;have hf:=mfind_tab l b;simp only[zlC,iN,bT,bF,eN];refine zzY ?_;refine zAs hT ?_;cases ho:zhE l b with
 | none=>
  rw[ho]at hf hK
  simp only[Option.map_none]at hf
  refine gq26 (zdq hb (zdq hm hf)) ?_
  refine zu hl ?_
  exact hK
 | some k=>
  rw[ho]at hf hK
  simp only[Option.map_some]at hf
  refine gq26 (zdq hb (zdq hm hf)) ?_
  refine zu hl ?_
  exact hK
theorem c_tLen {id m t:Nat}{l:List (List UInt8)}(hT:zgK σ id m t l){K:KT}(hK:K (.d (.int .i64 l.length)) σ):zP ziv [.box id 0] σ K:=by
 refine zez zty fun hl=>?_;have hb:=hT.box;simp only[zmO,iN,bT,bF,eN];refine zzY ?_;refine zAs hT ?_;refine zoe hb ?_;refine zu hl ?_;exact hK
theorem c_gLen {id m t:Nat}{g:List zI}(hG:zfj σ id m t g){K:KT}(hK:K (.d (.int .i64 g.length)) σ):zP zhC [.box id 0] σ K:=by
 refine zez zsn fun hl=>?_;have hb:=hG.box;simp only[zlD,iN,bT,bF,eN];refine zzY ?_;refine zwT hG ?_;refine zoe hb ?_;refine zu hl ?_;exact hK
theorem gq27 {A P Q:Prop}(a:A)(h:Q)(e:A->Hd Q->P:=by intro a h;(repeat' first|simp -dsimp only[↓zmg,↓zcf,↓zep,↓zmh,↓zmb,↓zlZ,↓zmc,↓zma,↓zeu,↓zeq,↓zev,↓zer,↓zmd,↓zeo,↓zew,↓zes,↓zex,↓zet,↓zlY,↓zmf,↓zen,↓zey,↓zlW,↓zlV,↓zlX,iN,bT,bF,eN,↓zeO,↓unC,↓zaE,↓zan,↓zao,↓zaA,↓zbf,↓zah,↓zgR,↓zaz,↓zbe,↓zae,↓ze,↓zl,↓zbc,↓zc,↓zaY,↓zM,↓zce,↓zcB,↓zf,↓zF,↓zr,↓zN,↓zaC,↓zgY,↓zhU,↓zbi,↓zbJ,↓zcj,↓zcM,↓zdG,↓zL,↓zbh,↓zap,↓zR,↓zbb,zhS,zdY,zdS,unA,zgE,bnd,zjr,zaP,zK,ziD,dm,dm1,zH,zaI,zkw,zkv,keepO,Q0,Q1,Q2,Q3,Q4,Q5,zbg,zA,zC,zZ,zad,Q6,Q7,Q8,Q9,Q10,Q11,Q12,Q13,Q14,Nat.reduceAdd,Q15,Int.reduceToNat,Q16,Q17,Q18,Q19,Q20,reduceIte,Q21,Q22,zy,rep,zaq,zil,toD,zaD,Q23,Q24,Q25,Q26,Q27,Q28,Nat.reduceLeDiff,Q29,Nat.reduceSub,Q30,Q31,Q32,sc,Q33,Q34,Q35,Q36,Q37,Q26,Q38,Q39,zvP,zvM,zvJ,zvQ,zkt,zvN,zvK,zvO,zvL,zks,zku,zwb,zwc,Bool.not_true,Bool.not_false,List.length_map,Bool.and_false,Bool.and_self,Bool.false_and,Bool.not_false,Bool.not_true,Bool.true_and,Int.toNat_natCast,Int.toNat_zero,List.drop_zero,List.length_map,List.length_nil,List.nil_append,List.take_length,Nat.sub_zero,Nat.zero_add,Option.isSome_none,Option.isSome_some,Option.map_none,Option.map_some,zaj,beq_self_eq_true,bne_self_eq_false,ziz,zck,zhJ,zag,zfg,zdg,zrY,zcl,zgh,zcj,mgetR,zcM,zor,opA,opD,zfx,zgo,zaw,a]|with_reducible refine zxa ?_|fail);exact h.go):P:=e a ⟨h⟩
theorem c_gSigned {id m t:Nat}{g:List zI}{s:zI}(hG:zfj σ id m t g){K:KT}(hK:K (.d (.bool (decide (s∈g)))) σ) :
  zP zfM [.box id 0,.agg [.d (.int .i64 s.key),.d (.int .i64 s.dig)]] σ K:=by
 refine zec zoL fun hl=>?_;have hb:∀τ,(σ++τ)[id]? = _:=fun τ=>zi hG.box;have hm:∀τ,(σ++τ)[m]? = _:=fun τ=>zi hG.map;simp only[zjh,iN,bT,bF,eN];refine zzY ?_;refine zwT (hG.app _) ?_;by_cases hs:s∈g
 ·obtain⟨k,hf⟩:=zrV hs;rw[decide_eq_true hs]at hK;refine gq27 (zdq hb (zdq hm hf)) ?_;refine zu hl ?_;exact hK
 ·have hf:=ztV hs;rw[decide_eq_false hs]at hK;refine gq27 (zdq hb (zdq hm hf)) ?_;refine zu hl ?_;exact hK
theorem c_tSum {id m t:Nat}{l:List (List UInt8)}{b:List UInt8}(hT:zgK σ id m t l)(hbl:b.length<=1073741824)(hll:l.length<=1048576){K:KT}
  (hK:K (.d (.int .i64 (zhT l b))) (putTab σ id m t (zfX l b))):zP zeJ [.box id 0,.d (.slice (bcs b))] σ K:=by
 refine zec ztx fun hl=>?_;have hb:=hT.box;have hm:=hT.map;have ht:=hT.tok;have hf:=mfind_tab l b;obtain⟨n1,n2,n3⟩:=hT.ne;have hlen:(zvp l).length=l.length:=List.length_map ..;simp only[zmN,iN,bT,bF,eN];refine zzY ?_;refine zAs hT ?_;cases ho:zhE l b with
 | some k=>
  rw[ho]at hf
  simp only[zhT,zfX,ho]at hK
  rw[hT.self]at hK
  simp only[Option.map_some]at hf
  refine gq26 (zdq hb (zdq hm hf)) ?_
  refine zu hl ?_
  exact hK
 | none=>
  rw[ho]at hf
  simp only[zhT,zfX,ho]at hK
  simp only[Option.map_none]at hf
  by_cases hfull:l.length≥1048576
  ·rw[if_pos hfull,if_pos hfull,hT.self]at hK
   have hd:decide ((l.length:Int)≥1048576)=true:=by simp;omega
   refine gq26 (zdq hb (zdq hm (zdq hf (zdq hlen hd)))) ?_
   refine zu hl ?_
   exact hK
  ·rw[if_neg hfull,if_neg hfull]at hK
   have hd:decide ((l.length:Int)≥1048576)=false:=by simp;omega
   have g1:∀τ,(σ++τ)[id]? = some (.box [.own t (zvp l),.map m]):=fun τ=>zi hb
   have g2:∀τ,(σ++τ)[t]? = some (.tok 1 l.length):=fun τ=>zi ht
   have s1:∀X τ,(σ++τ).set t X=σ.set t X++τ:=fun X τ=>zdk ht
   have hb':∀X,(σ.set t X)[id]? = some (.box [.own t (zvp l),.map m]):=fun X=>by rw[List.getElem?_set_ne (Ne.symm n2)];exact hb
   have g3:∀X τ,(σ.set t X++τ)[id]? = some (.box [.own t (zvp l),.map m]):=fun X τ=>zi (hb' X)
   have s2:∀X Y τ,(σ.set t X++τ).set id Y=(σ.set t X).set id Y++τ:=fun X Y τ=>zdk (hb' X)
   have g4:∀X Y τ,((σ.set t X).set id Y++τ)[id]? = some Y:=fun X Y τ=>zi (zdr (hb' X))
   have hm':∀X Y,((σ.set t X).set id Y)[m]? = some (.map (tabM l)):=fun X Y=>by rw[List.getElem?_set_ne n1,List.getElem?_set_ne (Ne.symm n3)];exact hm
   have g5:∀X Y τ,((σ.set t X).set id Y++τ)[m]? = some (.map (tabM l)):=fun X Y τ=>zi (hm' X Y)
   have s3:∀X Y Z τ,((σ.set t X).set id Y++τ).set m Z=((σ.set t X).set id Y).set m Z++τ:=fun X Y Z τ=>zdk (hm' X Y)
   refine gq26 (zdq hb (zdq hm (zdq hf (zdq hlen hd)))) ?_
   refine zjS ziA (by rw[zaj];omega) ?_
   refine gq26 (zdq g1 (zdq g2 (zdq s1 (zdq g3 (zdq s2 (zdq g4 (zdq g5 (zdq s3 (zdq hf hlen))))))))) ?_
   refine⟨hb.symm,by simp,by omega,?_⟩
   have e:putTab σ id m t (l++[b])=((σ.set t (AObj.tok 1 (l.length+1))).set id (AObj.box [AV.own t (zvp l++[[D.slice (bcs b)]]),AV.map m])).set m (AObj.map (tabM l++[(AV.d (D.str b),AV.d (D.int IntKind.i64 ((l.length+1:Nat):Int)))])):=by
    simp[putTab,tabM_add,zvp];rw[← tabM_add];simp
   rw[← e]
   exact zfa (zpt ..) (by simp[zha,dmT,dm,dm1,zcm]) (hT.lows hl _) hK
end Go.Proofs.YtdgcepphjnoalaaGreat

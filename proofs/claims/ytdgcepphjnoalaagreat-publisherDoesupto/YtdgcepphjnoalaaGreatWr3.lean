/- Contracts: the bytes of messages, the program's: view-changes and new views. -/
import Derived.Test.YtdgcepphjnoalaaGreatGa1
import Derived.Test.YtdgcepphjnoalaaGreatOpC
import Derived.Test.YtdgcepphjnoalaaGreatCl1
import Derived.Test.YtdgcepphjnoalaaGreatSpTab
set_option linter.all false
set_option maxRecDepth 100000
namespace Go.Proofs.YtdgcepphjnoalaaGreat
open Go.AW
variable {σ:List AObj} {K:KT}
theorem c_wUns7 {id:Nat}{b:List UInt8}{m:zbC}{c:zbj}(hσ:σ[id]? = some (wO b))(hb:b.length<=1000000)(hk:m.kind=7)(hch:m.changes=[c])(hc:∀e∈zez c,e=0)(hK:K (.tup []) (σ.set id (wO (b++unsB m)))) :
  zP zbp [.box id 0,zgi m] σ K:=by
 refine zeq zey fun hl=>?_;have hid:=zaa hσ;have hgx:(zap m.changes)[0]? = some (zaj c):=by rw[hch];rfl
 have hgl:(zap m.changes).length=1:=by rw[hch];rfl
 have n1:=zl (n:=m.kind.toNat) (by omega);simp only[zcX,iN,bT,bF,eN,zl6];have j:=zlV.first hσ (zlg m);refine zG ?_;refine zgI (l:=[m.kind]) j hid (by omega) (by simp) (by simp;omega) fun S j=>?_;have b0:=j.b;refine zdV (zd b0 (zd (kk7 hk) (zd hgx hgl))) ?_;refine c_wBody (c:=c) j.a (by simp[zS];omega) hc ?_;refine zG ?_;exact((j.set hid _).as (by simp[unsB,hk,hch,zS])).done (zqf _ _) hl hK
theorem c_wUns8 {id:Nat}{b:List UInt8}{m:zbC}(hσ:σ[id]? = some (wO b))(hb:b.length<=1000000)(hk:m.kind=8)(hc:∀e∈zfH m,e=0)(hK:K (.tup []) (σ.set id (wO (b++unsB m)))) :
  zP zbp [.box id 0,zgi m] σ K:=by
 refine zeq zey fun hl=>?_;have hid:=zaa hσ;have hcl:(zap m.changes).length=m.changes.length:=List.length_map ..;have hel:(zbo m.entries).length=m.entries.length:=List.length_map ..;obtain⟨h1,h2,h3,h4,h5,h6⟩:=newv_ok hc;have n0:=zl (n:=m.kind.toNat) (by omega);have n1:=zl (n:=m.src.toNat) (by omega);have n2:=zl (n:=m.view.toNat) (by omega);have n3:=zl (n:=m.changes.length) (by omega);have n4:=zl (n:=m.entries.length) (by omega);simp only[zcX,iN,bT,bF,eN,zl6];have j:=zlV.first hσ (zlg m);refine zG ?_;refine zgI (l:=[m.kind]) j hid (by omega) (by simp) (by simp;omega) fun S j=>?_;have b0:=j.b;refine zm (zd b0 (kk8 hk)) ?_;refine zgI (l:=[m.src,m.view]) j hid (by simp[zS];omega) (by simp) (by simp;omega) fun S j=>?_;have b0:=j.b;refine zm (zd b0 hcl) ?_;refine zwh (n:=m.changes.length) j hid (by simp[zS];omega) (by omega) fun S j=>?_;have b0:=j.b;obtain⟨Q,hQ⟩:∃Q,b++zS [m.kind]++zS [m.src,m.view]++zbv m.changes.length=Q:=⟨_,rfl⟩;have hQl:Q.length<=1001000:=by rw[← hQ];simp[zS];omega
 rw[hQ]at j;refine zm (zd b0 hcl) ?_;refine zn m.changes.length (fun k vs S=>vs=[.d (.int .i64 k)]/\zlV σ id (zlg m) (wO (Q++((m.changes.take k).map zfU).flatten)) S) ⟨rfl,by simpa using j⟩ ?_;rintro k vs S hk0 ⟨rfl,j⟩;have hlenC:∀k,(((m.changes.take k).map zfU).flatten).length<=13*36020:=by
  intro k;have:=zcz (f:=zfU) (n:=36020) (l:=m.changes.take k) fun s hm=>zru (h4 s (List.mem_of_mem_take hm));have hlk:(m.changes.take k).length<=13:=by rw[List.length_take];omega
  have:(m.changes.take k).length*36020<=13*36020:=Nat.mul_le_mul_right _ hlk;omega
 have hlk1:=hlenC k;by_cases hlt:k<m.changes.length
 ·have hd:decide ((k:Int)<(m.changes.length:Int))=true:=by simp;omega
  have hx:m.changes[k]? = some m.changes[k]:=by simp[hlt]
  have hpx:=h4 _ (List.getElem_mem hlt);have hgx:=zR (f:=zaj) hx;obtain⟨p,hp⟩:∃p,m.changes[k]=p:=⟨_,rfl⟩;rw[hp]at hx hgx hpx;have hS:id<S.length:=zaa j.a;have i:=zlV.first j.a (.box (zbL p));refine zdV (zd hd (zd hgx hcl)) ?_;refine c_wChange (c:=p) i.a (by simp only[List.length_append];omega) hpx ?_;refine zm (wkc k (by omega)) ?_;refine zaK.next hlt ⟨rfl,(j.trans hid (i.set hS _)).as ?_⟩;rw[zda hx];try simp
 ·have hd:decide ((k:Int)<(m.changes.length:Int))=false:=by simp;omega
  rw[show m.changes.take k=m.changes from List.take_of_length_le (by omega)]at j hlk1;have b0:=j.b;refine zm (zd hd (zd hcl (zd b0 hel))) ?_;refine zwh (n:=m.entries.length) j hid (by simp only[List.length_append];omega) (by omega) fun S j=>?_;have b0:=j.b;obtain⟨R,hR⟩:∃R,Q++(m.changes.map zfU).flatten++zbv m.entries.length=R:=⟨_,rfl⟩;have hRl:R.length<=2000000:=by rw[← hR];simp only[List.length_append];omega
  rw[hR]at j;refine zm (zd b0 hel) ?_;refine zn m.entries.length (fun k vs S=>vs=[.d (.int .i64 k)]/\zlV σ id (zlg m) (wO (R++((m.entries.take k).map znE).flatten)) S) ⟨rfl,by simpa using j⟩ ?_;rintro k vs S hk1 ⟨rfl,j⟩;by_cases hlt:k<m.entries.length
  ·have hd:decide ((k:Int)<(m.entries.length:Int))=true:=by simp;omega
   have hx:m.entries[k]? = some m.entries[k]:=by simp[hlt]
   have hpx:=h6 _ (List.getElem_mem hlt);have hgx:=zR (f:=zdI) hx;obtain⟨p,hp⟩:∃p,m.entries[k]=p:=⟨_,rfl⟩;rw[hp]at hx hgx hpx;have hlen:(((m.entries.take k).map znE).flatten).length<=(m.entries.take k).length*4040:=zcz fun s hm=>ztp (h6 s (List.mem_of_mem_take hm));have hlk:(m.entries.take k).length=k:=by rw[List.length_take];omega
   obtain⟨T,hT⟩:∃T,R++((m.entries.take k).map znE).flatten=T:=⟨_,rfl⟩;have hTl:T.length<=3000000:=by rw[← hT,List.length_append];omega
   rw[hT]at j;obtain⟨p1,p2,p3,p4⟩:=zAi hpx;have m1:=zl (n:=p.view.toNat) (by omega);have m2:=zl (n:=p.seq.toNat) (by omega);have m3:=(zdK p3).2;have hS:id<S.length:=zaa j.a;have i:=zlV.first j.a (.box [.d (.int .i64 p.view),.d (.int .i64 p.seq),.d (.slice (zbz p.batch)),.d (.int .i64 p.key),.d (.int .i64 p.dig)]);refine zdV (zd hd (zd hgx hel)) ?_;refine zgI (l:=[p.view,p.seq]) i hS (by omega) (by simp) (by simp;omega) fun S2 i=>?_;have b0:=i.b;refine zm b0 ?_;refine zvh i hS (by simp[zS];omega) p3 fun S2 i=>?_;have b0:=i.b;refine zm b0 ?_;refine jw_sign i hS (by simp[zS];omega) p4 fun S2 i=>?_;refine zm (wkc k (by omega)) ?_;refine zaK.next hlt ⟨rfl,(j.trans hid i).as ?_⟩;rw[zda hx,← hT];simp[znE,zS]
  ·have hd:decide ((k:Int)<(m.entries.length:Int))=false:=by simp;omega
   rw[show m.entries.take k=m.entries from List.take_of_length_le (by omega)]at j;refine zm (zd hd hel) ?_;exact(j.as (by rw[← hR,← hQ];simp[unsB,hk,newvB,zS])).done (zqf _ _) hl hK
theorem zAt {id:Nat}{b:List UInt8}(hσ:σ[id]? = some (wO b))(hK:K (.tup [.d (.slice (bcs (if b.length>262144 then []else b))),.d (.int .i64 (if b.length>262144 then 3 else 0))]) σ) :
  zP zfr [.box id 0] σ K:=by
 refine zeA zoc fun hl=>?_;simp only[zij,iN,bT,bF,eN];by_cases h:b.length>262144
 ·have hd:decide ((b.length:Int)>262144)=true:=by simp;omega
  rw[if_pos h,if_pos h]at hK;refine zm (zd hσ hd) ?_;refine zu hl ?_;exact hK
 ·have hd:decide ((b.length:Int)>262144)=false:=by simp;omega
  rw[if_neg h,if_neg h]at hK;refine zm (zd hσ hd) ?_;refine zu hl ?_;exact hK
variable {σ:List AObj} {K:KT}
def resB (e o:Int):List UInt8:=zbv (max 0 e).toNat++zbv (max 0 o).toNat
theorem gq23 {A P Q:Prop}(a:A)(h:Q)(e:A->P=Q:=by intro a;simp -dsimp only[↓zlG,↓zbS,↓zee,↓zlH,↓zly,↓zlw,↓zlz,↓zlx,↓zej,↓zef,↓zek,↓zeg,↓zlA,↓zeb,↓zel,↓zeh,↓zem,↓zei,↓zlv,↓zlE,↓zea,↓zep,↓zln,↓zlm,↓zlt,iN,bT,bF,eN,↓zes,↓unC,↓zaB,↓zah,↓zai,↓zav,↓zaX,↓zag,↓zgA,↓zaw,↓zbf,↓zad,↓ze,↓zj,↓zaR,↓zc,↓zaV,↓zN,↓zbT,↓zcl,↓zf,↓zF,↓zp,↓zM,↓zaA,↓zgH,↓zhI,↓zbc,↓zby,↓zcf,↓zcA,↓zdo,↓zJ,↓zbb,↓zak,↓zO,↓zaU,zhr,zdU,zdB,unA,zgx,bnd,ziS,zaO,zL,zic,dm,dm1,zH,zaF,zjW,zjV,keepO,Q0,Q1,Q2,Q3,Q4,Q5,zba,zA,zB,zY,zab,Q6,Q7,Q8,Q9,Q10,Q11,Q12,Q13,Q14,Nat.reduceAdd,Q15,Int.reduceToNat,Q16,Q17,Q18,Q19,Q20,reduceIte,Q21,Q22,zy,rep,zaq,zhW,toD,zaC,Q23,Q24,Q25,Q26,Q27,Q28,Nat.reduceLeDiff,Q29,Nat.reduceSub,Q30,Q31,Q32,sc,Q33,Q34,Q35,m1,a];rfl):P:=(e a).mpr h
theorem c_PutResult {b:List UInt8}{e o:Int}(hb:b.length<=268435456)(he:e<9223372036854775808)(ho:o<9223372036854775808)(hK:K (.d (.slice (bcs (b++resB e o)))) σ) :
  zP zme [.d (.slice (bcs b)),.agg [.d (.int .i64 e),.d (.int .i64 o)]] σ K:=by
 refine zeq zxW fun hl=>?_;simp only[zqH,iN,bT,bF,eN];have g1:=zl (n:=(max 0 e).toNat) (by omega);have m1:IntKind.u64.wrap (if (0:Int)>e then 0 else e)=((max 0 e).toNat:Int):=by
  rw[show(if (0:Int)>e then 0 else e)=max 0 e by split<;>omega];exact zrE (by omega) (by omega)
 have m2:IntKind.u64.wrap (if (0:Int)>o then 0 else o)=((max 0 o).toNat:Int):=by
  rw[show(if (0:Int)>o then 0 else o)=max 0 o by split<;>omega];exact zrE (by omega) (by omega)
 (refine gq23 m2 ?_;try with_reducible exact True.intro);refine zfy (by omega) (by omega) ?_;(refine gq23 m2 ?_;try with_reducible exact True.intro);refine zfy (by omega) (by simp only[List.length_append];omega) ?_;(refine gq4 ?_;try with_reducible exact True.intro);refine zu hl ?_;exact hK
theorem c_rPutResult {b:List UInt8}{e o:Int}(hb:b.length<=268435456)(he:e<9223372036854775808)(ho:o<9223372036854775808)(hK:K (.d (.slice (bcs (b++resB e o)))) σ) :
  zP zky [.d (.slice (bcs b)),.agg [.d (.int .i64 e),.d (.int .i64 o)]] σ K:=by
 refine zeq zwD fun hl=>?_;simp only[zph,iN,bT,bF,eN];have g1:=zl (n:=(max 0 e).toNat) (by omega);have m1:IntKind.u64.wrap (if e>0 then e else 0)=((max 0 e).toNat:Int):=by
  rw[show(if e>0 then e else 0)=max 0 e by split<;>omega];exact zrE (by omega) (by omega)
 have m2:IntKind.u64.wrap (if o>0 then o else 0)=((max 0 o).toNat:Int):=by
  rw[show(if o>0 then o else 0)=max 0 o by split<;>omega];exact zrE (by omega) (by omega)
 (refine gq23 m2 ?_;try with_reducible exact True.intro);refine zeQ (by omega) (by omega) ?_;(refine gq23 m2 ?_;try with_reducible exact True.intro);refine zeQ (by omega) (by simp only[List.length_append];omega) ?_;(refine gq4 ?_;try with_reducible exact True.intro);refine zu hl ?_;exact hK
variable {σ:List AObj} {K:KT}
theorem c_wStr {id:Nat}{b x:List UInt8}(hσ:σ[id]? = some (wO b))(hb:b.length<=536870912)(hx:x.length<=536870912)(hK:K (.tup []) (σ.set id (wO (b++zkq x)))) :
  zP zcr [.box id 0,.d (.slice (bcs x))] σ K:=by
 refine zjd zlC.is rfl fun hl _=>zlC.goes ?_;have hid:=zaa hσ;have hσ1:=fun τ=>zi (τ:=τ) hσ;simp only[zlN,iN,bT,bF,eN];refine zm hσ ?_;refine zpL (b:=b) (x:=x) (by omega) (by omega) ?_;refine zm hσ1 ?_;rw[List.set_append_left _ _ hid];exact zkk hσ (by simp[zcm,dmT,zbu]) hl hK
theorem jw_str {σ S:List AObj}{id:Nat}{B:AObj}{b x:List UInt8}(j:zlV σ id B (wO b) S)(hid:id<σ.length)(hb:b.length<=536870912)(hx:x.length<=536870912)(hK:∀S,zlV σ id B (wO (b++zkq x)) S->K (.tup []) S) :
  zP zcr [.box id 0,.d (.slice (bcs x))] S K:=c_wStr j.a hb hx (hK _ (j.set hid _))
theorem c_wProof {id:Nat}{b:List UInt8}{p:zfl}(hσ:σ[id]? = some (wO b))(hb:b.length<=1000000)(hp:zrB p)(hK:K (.tup []) (σ.set id (wO (b++ztT p)))) :
  zP zfs [.box id 0,znD p] σ K:=by
 refine zeq zod fun hl=>?_;have hid:=zaa hσ;have hhl:(zmw p.headers).length=p.headers.length:=List.length_map ..;have hpl:(zhY p.path).length=p.path.length:=List.length_map ..;obtain⟨h1,h2,h3,h4,h5,h6,h7,h8,h9,h10⟩:=hp;have p1:=zdl (x:=p.topic) (by omega);have p2:=zdl (x:=p.rec_) (by omega);have n1:=zl (n:=p.offset.toNat) (by omega);have n2:=zl (n:=p.headers.length) (by omega);have n3:=zl (n:=p.index.toNat) (by omega);have n4:=zl (n:=p.count.toNat) (by omega);have n5:=zl (n:=p.path.length) (by omega);have q1:=zhN h10;simp only[zik,iN,bT,bF,eN,znD];have j:=zlV.first hσ (.box [.d (.str p.topic),.d (.int .i64 p.offset),.d (.slice (bcs p.rec_)),.d (.slice (zmw p.headers)),.d (.int .i64 p.index),.d (.int .i64 p.count),.d (.slice (zhY p.path)),.d (.int .i64 p.cert.seq),.d (.int .i64 p.cert.dig),.d (.slice (zat p.cert.signs))]);obtain⟨X,hX⟩:∃X,AObj.box [.d (.str p.topic),.d (.int .i64 p.offset),.d (.slice (bcs p.rec_)),.d (.slice (zmw p.headers)),.d (.int .i64 p.index),.d (.int .i64 p.count),.d (.slice (zhY p.path)),.d (.int .i64 p.cert.seq),.d (.int .i64 p.cert.dig),.d (.slice (zat p.cert.signs))]=X:=⟨_,rfl⟩;have hB:∀ {S b'},zlV σ id X (wO b') S->S[σ.length]? = some (.box [.d (.str p.topic),.d (.int .i64 p.offset),.d (.slice (bcs p.rec_)),.d (.slice (zmw p.headers)),.d (.int .i64 p.index),.d (.int .i64 p.count),.d (.slice (zhY p.path)),.d (.int .i64 p.cert.seq),.d (.int .i64 p.cert.dig),.d (.slice (zat p.cert.signs))]):=fun j=>by rw[hX];exact j.b
 refine zG ?_;rw[hX]at j ⊢;refine jw_str (b:=b) (x:=p.topic) j hid (by omega) (by omega) fun S j=>?_;have b0:=hB j;refine zm b0 ?_;refine zgI (l:=[p.offset]) j hid (by simp only[List.length_append];omega) (by simp) (by simp;omega) fun S j=>?_;have b0:=hB j;refine zm b0 ?_;refine jw_str (x:=p.rec_) j hid (by simp[zS];omega) (by omega) fun S j=>?_;have b0:=hB j;refine zm (zd b0 hhl) ?_;refine zwh (n:=p.headers.length) j hid (by simp[zS];omega) (by omega) fun S j=>?_;have b0:=hB j;obtain⟨Q,hQ⟩:∃Q,b++zkq p.topic++zS [p.offset]++zkq p.rec_++zbv p.headers.length=Q:=⟨_,rfl⟩;have hQl:Q.length<=1000400:=by rw[← hQ];simp[zS];omega
 rw[hQ]at j;refine zm (zd b0 hhl) ?_;refine zn p.headers.length (fun k vs S=>vs=[.d (.int .i64 k)]/\zlV σ id X (wO (Q++((p.headers.take k).map hdB).flatten)) S) ⟨rfl,by simpa using j⟩ ?_;rintro k vs S hk0 ⟨rfl,j⟩;have hlenC:(((p.headers.take k).map hdB).flatten).length<=64*50:=by
  have:=zcz (f:=hdB) (n:=50) (l:=p.headers.take k) fun s hm=>hdB_len (h5 s (List.mem_of_mem_take hm));have hlk:(p.headers.take k).length<=64:=by rw[List.length_take];omega
  have:(p.headers.take k).length*50<=64*50:=Nat.mul_le_mul_right _ hlk;omega
 by_cases hlt:k<p.headers.length
 ·have hd:decide ((k:Int)<(p.headers.length:Int))=true:=by simp;omega
  have hx:p.headers[k]? = some p.headers[k]:=by simp[hlt]
  have hpx:=hdr_ok (h5 _ (List.getElem_mem hlt));have hgx:=zR (f:=zxI) hx;obtain⟨h,hh⟩:∃h,p.headers[k]=h:=⟨_,rfl⟩;rw[hh]at hx hgx hpx;have hS:id<S.length:=zaa j.a;have i:=zlV.first j.a (.box [.d (.int .i64 h.seq),.d (.int .i64 h.prev),.d (.int .i64 h.batch),.d (.int .i64 h.root),.d (.int .i64 h.state)]);refine gq19 (zd hd (zd hgx hhl)) ?_;refine zgI (l:=[h.seq,h.prev,h.batch,h.root,h.state]) i hS (by simp only[List.length_append];omega) (by simp) hpx fun S2 i=>?_;refine zm (wkc k (by omega)) ?_;refine zaK.next hlt ⟨rfl,(j.trans hid i).as ?_⟩;rw[zda hx,hdB,← List.append_assoc]
 have hd:decide ((k:Int)<(p.headers.length:Int))=false:=by simp;omega
 rw[show p.headers.take k=p.headers from List.take_of_length_le (by omega)]at j hlenC;have b0:=hB j;refine zm (zd hd (zd hhl b0)) ?_;refine zgI (l:=[p.index,p.count]) j hid (by simp only[List.length_append];omega) (by simp) (by simp;omega) fun S j=>?_;have b0:=hB j;refine zm (zd b0 hpl) ?_;refine zwh (n:=p.path.length) j hid (by simp[zS]at hlenC ⊢;omega) (by omega) fun S j=>?_;have b0:=hB j;obtain⟨R,hR⟩:∃R,Q++(p.headers.map hdB).flatten++zS [p.index,p.count]++zbv p.path.length=R:=⟨_,rfl⟩;have hRl:R.length<=1004000:=by rw[← hR];simp[zS]at hlenC ⊢;omega
 rw[hR]at j;refine zm (zd b0 hpl) ?_;refine zn p.path.length (fun k vs S=>vs=[.d (.int .i64 k)]/\zlV σ id X (wO (R++zS (p.path.take k))) S) ⟨rfl,by simpa [zS] using j⟩ ?_;rintro k vs S hk1 ⟨rfl,j⟩;have hlenP:(zS (p.path.take k)).length<=80:=by
  have:=zce (l:=p.path.take k) fun s hm=>h9 s (List.mem_of_mem_take hm);have hlk:(p.path.take k).length<=8:=by rw[List.length_take];omega
  omega
 by_cases hlt:k<p.path.length
 ·have hd:decide ((k:Int)<(p.path.length:Int))=true:=by simp;omega
  have hx:p.path[k]? = some p.path[k]:=by simp[hlt]
  have hpx:=h9 _ (List.getElem_mem hlt);have hgx:=zR (f:=fun t=>[D.int .i64 t]) hx;obtain⟨h,hh⟩:∃h,p.path[k]=h:=⟨_,rfl⟩;rw[hh]at hx hgx hpx;refine zm (zd hd (zd hgx hpl)) ?_;refine zgI (l:=[h]) j hid (by simp only[List.length_append];omega) (by simp) (by simp;omega) fun S2 j=>?_;refine zm (wkc k (by omega)) ?_;refine zaK.next hlt ⟨rfl,j.as ?_⟩;rw[zpw hx,List.append_assoc];simp[zS]
 have hd:decide ((k:Int)<(p.path.length:Int))=false:=by simp;omega
 rw[show p.path.take k=p.path from List.take_of_length_le (by omega)]at j hlenP;have b0:=hB j;refine zm (zd hd (zd hpl b0)) ?_;refine jw_cert (c:=p.cert) j hid (by simp only[List.length_append];omega) h10 fun S j=>?_;refine zG ?_;exact(j.as (by rw[← hR,← hQ];simp[ztT])).done (zqf _ _) hl hK
variable {σ:List AObj} {K:KT}
theorem c_mSome (hK:K (.agg [.d (.int .i64 0),.d (.int .i64 1)]) σ):zP ziL [] σ K:=by
 refine acE0 zxX fun hl=>?_;simp only[zqI,iN,bT,bF,eN];refine zG ?_;refine zu hl ?_;exact hK
variable {σ:List AObj} {K:KT}
structure zgP (σ:List AObj) (id m t:Nat) (l:List (List UInt8)):Prop where
 box:σ[id]? = some (.box [.own t (zvF l),.map m])
 map:σ[m]? = some (.map (tabM l))
 tok:σ[t]? = some (.tok 1 l.length)
structure zfm (σ:List AObj) (id m t:Nat) (g:List zI):Prop where
 box:σ[id]? = some (.box [.own t (ztW g),.map m])
 map:σ[m]? = some (.map (zxD g))
 tok:σ[t]? = some (.tok 2 g.length)
def putTab (σ:List AObj) (id m t:Nat) (l:List (List UInt8)):List AObj:=((σ.set t (.tok 1 l.length)).set id (.box [.own t (zvF l),.map m])).set m (.map (tabM l))
def putLed (σ:List AObj) (id m t:Nat) (g:List zI):List AObj:=((σ.set m (.map (zxD g))).set t (.tok 2 g.length)).set id (.box [.own t (ztW g),.map m])
abbrev tabO (n:Nat) (l:List (List UInt8)):List AObj:=[.map (tabM l),.box [.own (n+2) (zvF l),.map n],.tok 1 l.length]
abbrev ledO (n:Nat) (g:List zI):List AObj:=[.map (zxD g),.box [.own (n+2) (ztW g),.map n],.tok 2 g.length]
theorem zgP.ne {id m t:Nat}{l:List (List UInt8)}(h:zgP σ id m t l):id≠m/\id≠t/\m≠t:=by
 refine⟨fun e=>?_,fun e=>?_,fun e=>?_⟩<;>subst e
 ·have:=h.box;rw[h.map]at this;cases this
 ·have:=h.box;rw[h.tok]at this;cases this
 ·have:=h.map;rw[h.tok]at this;cases this
theorem zfm.ne {id m t:Nat}{g:List zI}(h:zfm σ id m t g):id≠m/\id≠t/\m≠t:=by
 refine⟨fun e=>?_,fun e=>?_,fun e=>?_⟩<;>subst e
 ·have:=h.box;rw[h.map]at this;cases this
 ·have:=h.box;rw[h.tok]at this;cases this
 ·have:=h.map;rw[h.tok]at this;cases this
theorem zgP.self {id m t:Nat}{l:List (List UInt8)}(h:zgP σ id m t l):putTab σ id m t l=σ:=by
 unfold putTab;rw[zbR h.tok,zbR h.box,zbR h.map]
theorem zfm.self {id m t:Nat}{g:List zI}(h:zfm σ id m t g):putLed σ id m t g=σ:=by
 unfold putLed;rw[zbR h.map,zbR h.tok,zbR h.box]
theorem zgP.app {id m t:Nat}{l:List (List UInt8)}(h:zgP σ id m t l)(τ:List AObj):zgP (σ++τ) id m t l:=⟨zi h.box,zi h.map,zi h.tok⟩
theorem zfm.app {id m t:Nat}{g:List zI}(h:zfm σ id m t g)(τ:List AObj):zfm (σ++τ) id m t g:=⟨zi h.box,zi h.map,zi h.tok⟩
theorem tabAt_new (σ:List AObj)(l:List (List UInt8))(τ:List AObj):zgP (σ++(tabO σ.length l++τ)) (σ.length+1) σ.length (σ.length+2) l:=
 ⟨by rw[zA];rfl,by rw[zB];rfl,by rw[zA];rfl⟩
theorem ledAt_new (σ:List AObj)(g:List zI)(τ:List AObj):zfm (σ++(ledO σ.length g++τ)) (σ.length+1) σ.length (σ.length+2) g:=
 ⟨by rw[zA];rfl,by rw[zB];rfl,by rw[zA];rfl⟩
theorem putTab_new (σ:List AObj)(l l':List (List UInt8))(τ:List AObj):putTab (σ++(tabO σ.length l++τ)) (σ.length+1) σ.length (σ.length+2) l'=σ++(tabO σ.length l'++τ):=by
 unfold putTab;rw[zY,zY,zab];rfl
theorem putLed_new (σ:List AObj)(g g':List zI)(τ:List AObj):putLed (σ++(ledO σ.length g++τ)) (σ.length+1) σ.length (σ.length+2) g'=σ++(ledO σ.length g'++τ):=by
 unfold putLed;rw[zab,zY,zY];rfl
theorem zsR {id m t:Nat}{l:List (List UInt8)}(h:zgP σ id m t l)(l':List (List UInt8))(τ:List AObj):putTab (σ++τ) id m t l'=putTab σ id m t l'++τ:=by
 have h1:=zaa h.box;have h2:=zaa h.map;have h3:=zaa h.tok;unfold putTab;rw[List.set_append_left _ _ h3,List.set_append_left _ _ (by simpa using h1),List.set_append_left _ _ (by simpa using h2)]
theorem zsS {id m t:Nat}{g:List zI}(h:zfm σ id m t g)(g':List zI)(τ:List AObj):putLed (σ++τ) id m t g'=putLed σ id m t g'++τ:=by
 have h1:=zaa h.box;have h2:=zaa h.map;have h3:=zaa h.tok;unfold putLed;rw[List.set_append_left _ _ h2,List.set_append_left _ _ (by simpa using h3),List.set_append_left _ _ (by simpa using h1)]
theorem zpv (σ:List AObj)(id m t:Nat)(l:List (List UInt8)):(putTab σ id m t l).length=σ.length:=by simp[putTab]
theorem zyl (σ:List AObj)(id m t:Nat)(g:List zI):(putLed σ id m t g).length=σ.length:=by simp[putLed]
theorem zyw {n:Nat}(l:List (List UInt8)):ztL n (.map (tabM l)):=by
 have key:∀(l:List (List UInt8)) (i:Nat),∀e∈zxE l i,Low n e.1/\Low n e.2:=by
  intro l;induction l with
  | nil=>intro i e h;cases h
  | cons x r ih=>
   intro i e h
   simp only[zxE,List.mem_cons]at h
   rcases h with rfl|h
   ·exact⟨.d _,.d _⟩
   ·exact ih _ e h
 exact fun e he=>key l 0 e he
theorem zyx {n:Nat}(g:List zI):ztL n (.map (zxD g)):=by
 intro e he;simp only[zxD,List.mem_map]at he;obtain⟨s,_,rfl⟩:=he;exact⟨.agg _ (by simp[zhe]),.d _⟩
theorem lowBox {n t m:Nat}{es:List (List D)}(ht:t<n)(hm:m<n):ztL n (.box [.own t es,.map m]):=by
 intro c hc;simp only[List.mem_cons,List.not_mem_nil,or_false]at hc;rcases hc with rfl|rfl
 ·exact .own _ _ ht
 ·exact .map _ hm
theorem zgP.lows {id m t:Nat}{l:List (List UInt8)}(h:zgP σ id m t l)(hl:zhp σ.length σ)(l':List (List UInt8)):zhp σ.length (putTab σ id m t l'):=
 ((hl.setO (show ztL _ (.tok 1 l'.length)from trivial)).setO (lowBox (zaa h.tok) (zaa h.map))).setO (zyw l')
theorem zfm.lows {id m t:Nat}{g:List zI}(h:zfm σ id m t g)(hl:zhp σ.length σ)(g':List zI):zhp σ.length (putLed σ id m t g'):=
 ((hl.setO (zyx g')).setO (show ztL _ (.tok 2 g'.length)from trivial)).setO (lowBox (zaa h.tok) (zaa h.map))
theorem low_tabO (n:Nat)(l:List (List UInt8)):∀x∈tabO n l,ztL (n+(tabO n l).length) x:=by
 intro x hx;simp only[List.mem_cons,List.not_mem_nil,or_false]at hx;rcases hx with rfl|rfl|rfl
 ·exact zyw l
 ·exact lowBox (by simp) (by simp)
 ·trivial
theorem low_ledO (n:Nat)(g:List zI):∀x∈ledO n g,ztL (n+(ledO n g).length) x:=by
 intro x hx;simp only[List.mem_cons,List.not_mem_nil,or_false]at hx;rcases hx with rfl|rfl|rfl
 ·exact zyx g
 ·exact lowBox (by simp) (by simp)
 ·trivial
variable {σ:List AObj} {K:KT}
theorem zAa {P Q:Prop}(h:Q)(e:Hd Q->P:=by intro h;(repeat' first|simp -dsimp only[↓zlG,↓zbS,↓zee,↓zlH,↓zly,↓zlw,↓zlz,↓zlx,↓zej,↓zef,↓zek,↓zeg,↓zlA,↓zeb,↓zel,↓zeh,↓zem,↓zei,↓zlv,↓zlE,↓zea,↓zep,↓zln,↓zlm,↓zlt,iN,bT,bF,eN,↓zes,↓unC,↓zaB,↓zah,↓zai,↓zav,↓zaX,↓zag,↓zgA,↓zaw,↓zbf,↓zad,↓ze,↓zj,↓zaR,↓zc,↓zaV,↓zN,↓zbT,↓zcl,↓zf,↓zF,↓zp,↓zM,↓zaA,↓zgH,↓zhI,↓zbc,↓zby,↓zcf,↓zcA,↓zdo,↓zJ,↓zbb,↓zak,↓zO,↓zaU,zhr,zdU,zdB,unA,zgx,bnd,ziS,zaO,zL,zic,dm,dm1,zH,zaF,zjW,zjV,keepO,Q0,Q1,Q2,Q3,Q4,Q5,zba,zA,zB,zY,zab,Q6,Q7,Q8,Q9,Q10,Q11,Q12,Q13,Q14,Nat.reduceAdd,Q15,Int.reduceToNat,Q16,Q17,Q18,Q19,Q20,reduceIte,Q21,Q22,zy,rep,zaq,zhW,toD,zaC,Q23,Q24,Q25,Q26,Q27,Q28,Nat.reduceLeDiff,Q29,Nat.reduceSub,Q30,Q31,Q32,sc,Q33,Q34,Q35,Q36,Q37,Q26,Q38,Q39,zuF,zuC,zuz,zuG,zjv,zuD,zuA,zuE,zuB,zju,zjw,zuI,zuJ,Bool.not_true,Bool.not_false,List.length_map]|with_reducible refine zuX ?_|fail);exact h.go):P:=e ⟨h⟩
theorem ztF (hK:K (.box (σ.length+1) 0) (σ++tabO σ.length [])):zP zfh [] σ K:=by
 refine ACall.weaken ?_;refine zbN znG.is rfl (fun s=>List.range' σ.length 2) fun hl _=>znG.goes ?_;simp only[znT,iN,bT,bF,eN];refine zAa ?_;refine zdp (σ':=σ) (os:=[.map [],.box [.exact [],.map σ.length]]) rfl rfl hl ?_ (.box _ _ (by simp)) ?_
 ·intro x hx;simp only[List.mem_cons,List.not_mem_nil,or_false]at hx;rcases hx with rfl|rfl
  ·intro e he;cases he
  ·intro c hc;simp only[List.mem_cons,List.not_mem_nil,or_false]at hc;rcases hc with rfl|rfl
   ·exact .exact _
   ·exact .map _ (by simp)
 ·refine⟨.box (σ.length+1) 0,σ++tabO σ.length [],?_,hK⟩;refine .tokB (σ.length+1) 0 [.exact [],.map σ.length] [] 1 (by rw[zA];rfl) rfl (by simp) ?_;have e:(σ++[AObj.map [],AObj.box [AV.exact [],AV.map σ.length]]).set (σ.length+1) (.box ([AV.exact [],AV.map σ.length].set 0 (.own (σ++[AObj.map [],AObj.box [AV.exact [],AV.map σ.length]]).length [])))++[.tok 1 0]=σ++tabO σ.length []:=by
   rw[zY];simp[tabO];rfl
  rw[List.length_nil,e];exact .refl _ _
theorem zny (hK:K (.box (σ.length+1) 0) (σ++ledO σ.length [])):zP zeO [] σ K:=by
 refine ACall.weaken ?_;refine zbN zmE.is rfl (fun s=>List.range' σ.length 2) fun hl _=>zmE.goes ?_;simp only[zmS,iN,bT,bF,eN];refine zAa ?_;refine zdp (σ':=σ) (os:=[.map [],.box [.exact [],.map σ.length]]) rfl rfl hl ?_ (.box _ _ (by simp)) ?_
 ·intro x hx;simp only[List.mem_cons,List.not_mem_nil,or_false]at hx;rcases hx with rfl|rfl
  ·intro e he;cases he
  ·intro c hc;simp only[List.mem_cons,List.not_mem_nil,or_false]at hc;rcases hc with rfl|rfl
   ·exact .exact _
   ·exact .map _ (by simp)
 ·refine⟨.box (σ.length+1) 0,σ++ledO σ.length [],?_,hK⟩;refine .tokB (σ.length+1) 0 [.exact [],.map σ.length] [] 2 (by rw[zA];rfl) rfl (by simp) ?_;have e:(σ++[AObj.map [],AObj.box [AV.exact [],AV.map σ.length]]).set (σ.length+1) (.box ([AV.exact [],AV.map σ.length].set 0 (.own (σ++[AObj.map [],AObj.box [AV.exact [],AV.map σ.length]]).length [])))++[.tok 2 0]=σ++ledO σ.length []:=by
   rw[zY];simp[ledO];rfl
  rw[List.length_nil,e];exact .refl _ _
theorem zoh {A P Q:Prop}(a:A)(h:Q)(e:A->Hd Q->P:=by intro a h;(repeat' first|simp -dsimp only[↓zlG,↓zbS,↓zee,↓zlH,↓zly,↓zlw,↓zlz,↓zlx,↓zej,↓zef,↓zek,↓zeg,↓zlA,↓zeb,↓zel,↓zeh,↓zem,↓zei,↓zlv,↓zlE,↓zea,↓zep,↓zln,↓zlm,↓zlt,iN,bT,bF,eN,↓zes,↓unC,↓zaB,↓zah,↓zai,↓zav,↓zaX,↓zag,↓zgA,↓zaw,↓zbf,↓zad,↓ze,↓zj,↓zaR,↓zc,↓zaV,↓zN,↓zbT,↓zcl,↓zf,↓zF,↓zp,↓zM,↓zaA,↓zgH,↓zhI,↓zbc,↓zby,↓zcf,↓zcA,↓zdo,↓zJ,↓zbb,↓zak,↓zO,↓zaU,zhr,zdU,zdB,unA,zgx,bnd,ziS,zaO,zL,zic,dm,dm1,zH,zaF,zjW,zjV,keepO,Q0,Q1,Q2,Q3,Q4,Q5,zba,zA,zB,zY,zab,Q6,Q7,Q8,Q9,Q10,Q11,Q12,Q13,Q14,Nat.reduceAdd,Q15,Int.reduceToNat,Q16,Q17,Q18,Q19,Q20,reduceIte,Q21,Q22,zy,rep,zaq,zhW,toD,zaC,Q23,Q24,Q25,Q26,Q27,Q28,Nat.reduceLeDiff,Q29,Nat.reduceSub,Q30,Q31,Q32,sc,Q33,Q34,Q35,Q36,Q37,Q26,Q38,Q39,zuF,zuC,zuz,zuG,zjv,zuD,zuA,zuE,zuB,zju,zjw,zuI,zuJ,Bool.not_true,Bool.not_false,List.length_map,a]|with_reducible refine zuX ?_|fail);exact h.go):P:=e a ⟨h⟩
theorem zAu {id m t:Nat}{l:List (List UInt8)}(hT:zgP σ id m t l)(hK:K (.d (.bool false)) σ):zP zdc [.box id 0] σ K:=by
 refine zeA zsl fun hl=>?_;have hb:=hT.box;simp only[zlS,iN,bT,bF,eN];refine zoh hb ?_;refine zu hl ?_;exact hK
theorem zwX {id m t:Nat}{g:List zI}(hG:zfm σ id m t g)(hK:K (.d (.bool false)) σ):zP zcQ [.box id 0] σ K:=by
 refine zeA zrp fun hl=>?_;have hb:=hG.box;simp only[zlc,iN,bT,bF,eN];refine zoh hb ?_;refine zu hl ?_;exact hK
theorem zds {A B:Prop}(a:A)(b:B):A/\B:=⟨a,b⟩
theorem gq26 {A P Q:Prop}(a:A)(h:Q)(e:A->Hd Q->P:=by intro a h;(repeat' first|simp -dsimp only[↓zlG,↓zbS,↓zee,↓zlH,↓zly,↓zlw,↓zlz,↓zlx,↓zej,↓zef,↓zek,↓zeg,↓zlA,↓zeb,↓zel,↓zeh,↓zem,↓zei,↓zlv,↓zlE,↓zea,↓zep,↓zln,↓zlm,↓zlt,iN,bT,bF,eN,↓zes,↓unC,↓zaB,↓zah,↓zai,↓zav,↓zaX,↓zag,↓zgA,↓zaw,↓zbf,↓zad,↓ze,↓zj,↓zaR,↓zc,↓zaV,↓zN,↓zbT,↓zcl,↓zf,↓zF,↓zp,↓zM,↓zaA,↓zgH,↓zhI,↓zbc,↓zby,↓zcf,↓zcA,↓zdo,↓zJ,↓zbb,↓zak,↓zO,↓zaU,zhr,zdU,zdB,unA,zgx,bnd,ziS,zaO,zL,zic,dm,dm1,zH,zaF,zjW,zjV,keepO,Q0,Q1,Q2,Q3,Q4,Q5,zba,zA,zB,zY,zab,Q6,Q7,Q8,Q9,Q10,Q11,Q12,Q13,Q14,Nat.reduceAdd,Q15,Int.reduceToNat,Q16,Q17,Q18,Q19,Q20,reduceIte,Q21,Q22,zy,rep,zaq,zhW,toD,zaC,Q23,Q24,Q25,Q26,Q27,Q28,Nat.reduceLeDiff,Q29,Nat.reduceSub,Q30,Q31,Q32,sc,Q33,Q34,Q35,Q36,Q37,Q26,Q38,Q39,zuF,zuC,zuz,zuG,zjv,zuD,zuA,zuE,zuB,zju,zjw,zuI,zuJ,Bool.not_true,Bool.not_false,List.length_map,Bool.and_false,Bool.and_self,Bool.false_and,Bool.not_false,Bool.not_true,Bool.true_and,Int.toNat_natCast,Int.toNat_zero,List.drop_zero,List.length_map,List.length_nil,List.nil_append,List.take_length,Nat.sub_zero,Nat.zero_add,Option.isSome_none,Option.isSome_some,Option.map_none,Option.map_some,zam,beq_self_eq_true,bne_self_eq_false,ziC,zfj,zgm,zcf,mgetR,zcA,a]|with_reducible refine zuX ?_|fail);exact h.go):P:=e a ⟨h⟩
theorem c_tLook {id m t:Nat}{l:List (List UInt8)}{b:List UInt8}(hT:zgP σ id m t l)(hK:K (.tup [.d (.int .i64 (zuy (zhJ l b))),.d (.bool (zhJ l b).isSome)]) σ) :
  zP zfx [.box id 0,.d (.slice (bcs b))] σ K:=by
 refine zeq zsm fun hl=>?_;have hb:=hT.box;have hm:=hT.map;have hf:=mfind_tab l b;simp only[zlT,iN,bT,bF,eN];refine zAa ?_;refine zAu hT ?_;cases ho:zhJ l b with
 | none=>
  rw[ho]at hf hK
  simp only[Option.map_none]at hf
  refine gq26 (zds hb (zds hm hf)) ?_
  refine zu hl ?_
  exact hK
 | some k=>
  rw[ho]at hf hK
  simp only[Option.map_some]at hf
  refine gq26 (zds hb (zds hm hf)) ?_
  refine zu hl ?_
  exact hK
theorem c_tLen {id m t:Nat}{l:List (List UInt8)}(hT:zgP σ id m t l)(hK:K (.d (.int .i64 l.length)) σ):zP ziy [.box id 0] σ K:=by
 refine zeA zty fun hl=>?_;have hb:=hT.box;simp only[zmR,iN,bT,bF,eN];refine zAa ?_;refine zAu hT ?_;refine zoh hb ?_;refine zu hl ?_;exact hK
theorem c_gLen {id m t:Nat}{g:List zI}(hG:zfm σ id m t g)(hK:K (.d (.int .i64 g.length)) σ):zP zhG [.box id 0] σ K:=by
 refine zeA zsn fun hl=>?_;have hb:=hG.box;simp only[zlU,iN,bT,bF,eN];refine zAa ?_;refine zwX hG ?_;refine zoh hb ?_;refine zu hl ?_;exact hK
theorem gq27 {A P Q:Prop}(a:A)(h:Q)(e:A->Hd Q->P:=by intro a h;(repeat' first|simp -dsimp only[↓zlG,↓zbS,↓zee,↓zlH,↓zly,↓zlw,↓zlz,↓zlx,↓zej,↓zef,↓zek,↓zeg,↓zlA,↓zeb,↓zel,↓zeh,↓zem,↓zei,↓zlv,↓zlE,↓zea,↓zep,↓zln,↓zlm,↓zlt,iN,bT,bF,eN,↓zes,↓unC,↓zaB,↓zah,↓zai,↓zav,↓zaX,↓zag,↓zgA,↓zaw,↓zbf,↓zad,↓ze,↓zj,↓zaR,↓zc,↓zaV,↓zN,↓zbT,↓zcl,↓zf,↓zF,↓zp,↓zM,↓zaA,↓zgH,↓zhI,↓zbc,↓zby,↓zcf,↓zcA,↓zdo,↓zJ,↓zbb,↓zak,↓zO,↓zaU,zhr,zdU,zdB,unA,zgx,bnd,ziS,zaO,zL,zic,dm,dm1,zH,zaF,zjW,zjV,keepO,Q0,Q1,Q2,Q3,Q4,Q5,zba,zA,zB,zY,zab,Q6,Q7,Q8,Q9,Q10,Q11,Q12,Q13,Q14,Nat.reduceAdd,Q15,Int.reduceToNat,Q16,Q17,Q18,Q19,Q20,reduceIte,Q21,Q22,zy,rep,zaq,zhW,toD,zaC,Q23,Q24,Q25,Q26,Q27,Q28,Nat.reduceLeDiff,Q29,Nat.reduceSub,Q30,Q31,Q32,sc,Q33,Q34,Q35,Q36,Q37,Q26,Q38,Q39,zuF,zuC,zuz,zuG,zjv,zuD,zuA,zuE,zuB,zju,zjw,zuI,zuJ,Bool.not_true,Bool.not_false,List.length_map,Bool.and_false,Bool.and_self,Bool.false_and,Bool.not_false,Bool.not_true,Bool.true_and,Int.toNat_natCast,Int.toNat_zero,List.drop_zero,List.length_map,List.length_nil,List.nil_append,List.take_length,Nat.sub_zero,Nat.zero_add,Option.isSome_none,Option.isSome_some,Option.map_none,Option.map_some,zam,beq_self_eq_true,bne_self_eq_false,ziC,zck,zaj,zfj,zdI,zch,zgm,zcf,mgetR,zcA,zuy,opA,opD,zgb,zgX,zaD,a]|with_reducible refine zuX ?_|fail);exact h.go):P:=e a ⟨h⟩
theorem c_gSigned {id m t:Nat}{g:List zI}{s:zI}(hG:zfm σ id m t g)(hK:K (.d (.bool (decide (s∈g)))) σ) :
  zP zfP [.box id 0,.agg [.d (.int .i64 s.key),.d (.int .i64 s.dig)]] σ K:=by
 refine zeq zoN fun hl=>?_;have hb:∀τ,(σ++τ)[id]? = _:=fun τ=>zi hG.box;have hm:∀τ,(σ++τ)[m]? = _:=fun τ=>zi hG.map;simp only[zjl,iN,bT,bF,eN];refine zAa ?_;refine zwX (hG.app _) ?_;by_cases hs:s∈g
 ·obtain⟨k,hf⟩:=zrW hs;rw[decide_eq_true hs]at hK;refine gq27 (zds hb (zds hm hf)) ?_;refine zu hl ?_;exact hK
 ·have hf:=ztV hs;rw[decide_eq_false hs]at hK;refine gq27 (zds hb (zds hm hf)) ?_;refine zu hl ?_;exact hK
theorem c_tSum {id m t:Nat}{l:List (List UInt8)}{b:List UInt8}(hT:zgP σ id m t l)(hbl:b.length<=1073741824)(hll:l.length<=1048576)
  (hK:K (.d (.int .i64 (zhX l b))) (putTab σ id m t (zfZ l b))):zP zeN [.box id 0,.d (.slice (bcs b))] σ K:=by
 refine zeq ztx fun hl=>?_;have hb:=hT.box;have hm:=hT.map;have ht:=hT.tok;have hf:=mfind_tab l b;obtain⟨n1,n2,n3⟩:=hT.ne;have hlen:(zvF l).length=l.length:=List.length_map ..;simp only[zmQ,iN,bT,bF,eN];refine zAa ?_;refine zAu hT ?_;cases ho:zhJ l b with
 | some k=>
  rw[ho]at hf
  simp only[zhX,zfZ,ho]at hK
  rw[hT.self]at hK
  simp only[Option.map_some]at hf
  refine gq26 (zds hb (zds hm hf)) ?_
  refine zu hl ?_
  exact hK
 | none=>
  rw[ho]at hf
  simp only[zhX,zfZ,ho]at hK
  simp only[Option.map_none]at hf
  by_cases hfull:l.length≥1048576
  ·rw[if_pos hfull,if_pos hfull,hT.self]at hK
   have hd:decide ((l.length:Int)≥1048576)=true:=by simp;omega
   refine gq26 (zds hb (zds hm (zds hf (zds hlen hd)))) ?_
   refine zu hl ?_
   exact hK
  ·rw[if_neg hfull,if_neg hfull]at hK
   have hd:decide ((l.length:Int)≥1048576)=false:=by simp;omega
   have g1:∀τ,(σ++τ)[id]? = some (.box [.own t (zvF l),.map m]):=fun τ=>zi hb
   have g2:∀τ,(σ++τ)[t]? = some (.tok 1 l.length):=fun τ=>zi ht
   have s1:∀X τ,(σ++τ).set t X=σ.set t X++τ:=fun X τ=>zdk ht
   have hb':∀X,(σ.set t X)[id]? = some (.box [.own t (zvF l),.map m]):=fun X=>by rw[List.getElem?_set_ne (Ne.symm n2)];exact hb
   have g3:∀X τ,(σ.set t X++τ)[id]? = some (.box [.own t (zvF l),.map m]):=fun X τ=>zi (hb' X)
   have s2:∀X Y τ,(σ.set t X++τ).set id Y=(σ.set t X).set id Y++τ:=fun X Y τ=>zdk (hb' X)
   have g4:∀X Y τ,((σ.set t X).set id Y++τ)[id]? = some Y:=fun X Y τ=>zi (zdt (hb' X))
   have hm':∀X Y,((σ.set t X).set id Y)[m]? = some (.map (tabM l)):=fun X Y=>by rw[List.getElem?_set_ne n1,List.getElem?_set_ne (Ne.symm n3)];exact hm
   have g5:∀X Y τ,((σ.set t X).set id Y++τ)[m]? = some (.map (tabM l)):=fun X Y τ=>zi (hm' X Y)
   have s3:∀X Y Z τ,((σ.set t X).set id Y++τ).set m Z=((σ.set t X).set id Y).set m Z++τ:=fun X Y Z τ=>zdk (hm' X Y)
   refine gq26 (zds hb (zds hm (zds hf (zds hlen hd)))) ?_
   refine zka ziD (by rw[zam];omega) ?_
   refine gq26 (zds g1 (zds g2 (zds s1 (zds g3 (zds s2 (zds g4 (zds g5 (zds s3 (zds hf hlen))))))))) ?_
   refine⟨hb.symm,by simp,by omega,?_⟩
   have e:putTab σ id m t (l++[b])=((σ.set t (AObj.tok 1 (l.length+1))).set id (AObj.box [AV.own t (zvF l++[[D.slice (bcs b)]]),AV.map m])).set m (AObj.map (tabM l++[(AV.d (D.str b),AV.d (D.int IntKind.i64 ((l.length+1:Nat):Int)))])):=by
    simp[putTab,tabM_add,zvF];rw[← tabM_add];simp
   rw[← e]
   exact zfc (zpv ..) (by simp[zhe,dmT,dm,dm1,zcm]) (hT.lows hl _) hK
variable {σ:List AObj} {K:KT}
def zuv (s:zI):AV:=.agg [.d (.int .i64 s.key),.d (.int .i64 s.dig)]
def signR (k d:Int):zI:=if zgW k d=0 then⟨k,d⟩else⟨0,0⟩
def zhs (g:List zI) (k d:Int):List zI:=if zgW k d=0 then zzG g ⟨k,d⟩else g
theorem c_gSign {id m t:Nat}{g:List zI}{k d:Int}(hG:zfm σ id m t g)(hgl:g.length<=1073741824)
  (hK:K (.tup [zuv (signR k d),.d (.int .i64 (zgW k d))]) (putLed σ id m t (zhs g k d))):zP zdH [.box id 0,.d (.int .i64 k),.d (.int .i64 d)] σ K:=by
 refine acE3 zrq fun hl=>?_;have hb:∀τ,(σ++τ)[id]? = some (.box [.own t (ztW g),.map m]):=fun τ=>zi hG.box;have hm:∀τ,(σ++τ)[m]? = some (.map (zxD g)):=fun τ=>zi hG.map;obtain⟨n1,n2,n3⟩:=hG.ne;have hlen:(ztW g).length=g.length:=List.length_map ..;have bad:zgW k d≠0->K (.tup [.agg [.d (.int .i64 0),.d (.int .i64 0)],.d (.int .i64 (zgW k d))]) σ:=fun h=>by
  rw[signR,zhs,if_neg h,if_neg h,hG.self]at hK;exact hK
 simp only[zld,iN,bT,bF,eN];refine zAa ?_;refine zwX (hG.app _) ?_;cases h1:decide (k<0)
 ·cases h2:decide (k≥21)
  ·have hk:¬(k<0∨k≥21):=by simp at h1 h2;omega
   cases h3:decide (d<1)
   ·have he:zgW k d=0:=by rw[zgW,if_neg hk,if_neg (by simpa using h3)]
    rw[he,signR,zhs,if_pos he,if_pos he]at hK;by_cases hs:(⟨k,d⟩:zI)∈g
    ·obtain⟨j,hf⟩:=zrW hs;simp only at hf;rw[zzG,if_pos hs,hG.self]at hK;refine gq27 (zds h1 (zds h2 (zds h3 (zds hb (zds hm hf))))) ?_;refine zu hl ?_;exact hK
    ·have hf:=ztV hs;simp only at hf;rw[zzG,if_neg hs]at hK;have hmm:σ[m]? = some (.map (zxD g)):=hG.map;have s1:∀X τ,(σ++τ).set m X=σ.set m X++τ:=fun X τ=>zdk hG.map;have hb':∀X,(σ.set m X)[id]? = some (.box [.own t (ztW g),.map m]):=fun X=>by rw[List.getElem?_set_ne (Ne.symm n1)];exact hG.box
     have ht':∀X,(σ.set m X)[t]? = some (.tok 2 g.length):=fun X=>by rw[List.getElem?_set_ne n3];exact hG.tok
     have g3:∀X τ,(σ.set m X++τ)[id]? = some (.box [.own t (ztW g),.map m]):=fun X τ=>zi (hb' X);have g4:∀X τ,(σ.set m X++τ)[t]? = some (.tok 2 g.length):=fun X τ=>zi (ht' X);have s2:∀X Y τ,(σ.set m X++τ).set t Y=(σ.set m X).set t Y++τ:=fun X Y τ=>zdk (ht' X);have hb2:∀X Y,((σ.set m X).set t Y)[id]? = some (.box [.own t (ztW g),.map m]):=fun X Y=>by rw[List.getElem?_set_ne (Ne.symm n2)];exact hb' X
     have s3:∀X Y Z τ,((σ.set m X).set t Y++τ).set id Z=((σ.set m X).set t Y).set id Z++τ:=fun X Y Z τ=>zdk (hb2 X Y);have g5:∀X Y τ,((σ.set m X).set t Y++τ)[id]? = some (.box [.own t (ztW g),.map m]):=fun X Y τ=>zi (hb2 X Y);have L1:∀X:AObj,σ.length=(σ.set m X).length:=fun X=>by simp
     have L2:∀X Y:AObj,σ.length=((σ.set m X).set t Y).length:=fun X Y=>by simp
     have L3:∀X Y Z:AObj,σ.length=(((σ.set m X).set t Y).set id Z).length:=fun X Y Z=>by simp
     have e1:∀X τ n,(σ.set m X++τ)[σ.length+n]? = τ[n]?:=fun X τ n=>by rw[L1 X];exact zA ..
     have e2:∀X Y Z τ n,(((σ.set m X).set t Y).set id Z++τ)[σ.length+n]? = τ[n]?:=fun X Y Z τ n=>by rw[L3 X Y Z];exact zA ..
     have e3:∀X Y Z τ W,(((σ.set m X).set t Y).set id Z++τ).set σ.length W=((σ.set m X).set t Y).set id Z++τ.set 0 W:=fun X Y Z τ W=>by rw[L3 X Y Z];exact zab ..
     have e4:∀X Y Z τ,(((σ.set m X).set t Y).set id Z++τ)[σ.length]? = τ[0]?:=fun X Y Z τ=>by rw[L3 X Y Z];exact zB ..
     refine gq27 (zds h1 (zds h2 (zds h3 (zds hb (zds hm (zds hf (zds s1 (zds g3 (zds g4 (zds s2 (zds s3 (zds g5 (zds e1 (zds e2 (zds e3 (zds e4 hlen)))))))))))))))) ?_;have e:putLed σ id m t (g++[⟨k,d⟩])=(((σ.set m (AObj.map (zxD g++[(AV.agg [AV.d (D.int IntKind.i64 k),AV.d (D.int IntKind.i64 d)],AV.d (D.bool true))]))).set t (AObj.tok 2 (g.length+1))).set id (AObj.box [AV.own t (ztW g++[[D.int IntKind.i64 k,D.int IntKind.i64 d]]),AV.map m])):=by
      rw[ledM_add g ⟨k,d⟩];simp[putLed,ztW,zgX]
     rw[← e];exact zfc (zyl ..) (by simp[zhe,dmT,dm,dm1,zcm,zbu,zfv]) (hG.lows hl _) hK
   ·have he:zgW k d=1:=by rw[zgW,if_neg hk,if_pos (by simpa using h3)]
    have:=bad (by rw[he];decide);rw[he]at this;refine zoh (zds h1 (zds h2 h3)) ?_;refine zu hl ?_;exact this
  ·have he:zgW k d=20:=by rw[zgW,if_pos (by simp at h2;omega)]
   have:=bad (by rw[he];decide);rw[he]at this;refine zoh (zds h1 h2) ?_;refine zu hl ?_;exact this
 ·have he:zgW k d=20:=by rw[zgW,if_pos (by simp at h1;omega)]
  have:=bad (by rw[he];decide);rw[he]at this;refine zoh h1 ?_;refine zu hl ?_;exact this
theorem gq28 {P Q:Prop}(h:Q)(e:Hd Q->P:=by intro h;(repeat' first|simp -dsimp only[↓zlG,↓zbS,↓zee,↓zlH,↓zly,↓zlw,↓zlz,↓zlx,↓zej,↓zef,↓zek,↓zeg,↓zlA,↓zeb,↓zel,↓zeh,↓zem,↓zei,↓zlv,↓zlE,↓zea,↓zep,↓zln,↓zlm,↓zlt,iN,bT,bF,eN,↓zes,↓unC,↓zaB,↓zah,↓zai,↓zav,↓zaX,↓zag,↓zgA,↓zaw,↓zbf,↓zad,↓ze,↓zj,↓zaR,↓zc,↓zaV,↓zN,↓zbT,↓zcl,↓zf,↓zF,↓zp,↓zM,↓zaA,↓zgH,↓zhI,↓zbc,↓zby,↓zcf,↓zcA,↓zdo,↓zJ,↓zbb,↓zak,↓zO,↓zaU,zhr,zdU,zdB,unA,zgx,bnd,ziS,zaO,zL,zic,dm,dm1,zH,zaF,zjW,zjV,keepO,Q0,Q1,Q2,Q3,Q4,Q5,zba,zA,zB,zY,zab,Q6,Q7,Q8,Q9,Q10,Q11,Q12,Q13,Q14,Nat.reduceAdd,Q15,Int.reduceToNat,Q16,Q17,Q18,Q19,Q20,reduceIte,Q21,Q22,zy,rep,zaq,zhW,toD,zaC,Q23,Q24,Q25,Q26,Q27,Q28,Nat.reduceLeDiff,Q29,Nat.reduceSub,Q30,Q31,Q32,sc,Q33,Q34,Q35,Q36,Q37,Q26,Q38,Q39,zuF,zuC,zuz,zuG,zjv,zuD,zuA,zuE,zuB,zju,zjw,zuI,zuJ,Bool.not_true,Bool.not_false,List.length_map,Bool.and_false,Bool.and_self,Bool.false_and,Bool.not_false,Bool.not_true,Bool.true_and,Int.toNat_natCast,Int.toNat_zero,List.drop_zero,List.length_map,List.length_nil,List.nil_append,List.take_length,Nat.sub_zero,Nat.zero_add,Option.isSome_none,Option.isSome_some,Option.map_none,Option.map_some,zam,beq_self_eq_true,bne_self_eq_false]|with_reducible refine zuX ?_|fail);exact h.go):P:=e ⟨h⟩
theorem c_From {l:List (List UInt8)}(hn:l.Nodup)(hl0:l.length<=1048576)(hb:∀b∈l,b.length<=1073741824)
  (hK:K (.tup [.box (σ.length+1) 0,.d (.int .i64 0)]) (σ++tabO σ.length l)):zP zoy [.d (.slice (zvF l))] σ K:=by
 refine zbN zug.is rfl (fun s=>List.range' σ.length 3) fun hl _=>zug.goes ?_;have hlen:(zvF l).length=l.length:=List.length_map ..;have hd:decide ((l.length:Int)>1048576)=false:=by simp;omega
 simp only[zur,iN,bT,bF,eN];refine zoh (zds hlen hd) ?_;refine ztF ?_;refine zAa ?_;refine zn l.length (fun k vs s=>vs=[.d (.int .i64 k)]/\s=σ++tabO σ.length (l.take k)) ⟨rfl,rfl⟩ ?_;rintro k vs s hk ⟨rfl,rfl⟩;by_cases hlt:k<l.length
 ·have hd:decide ((k:Int)<(l.length:Int))=true:=by simp;omega
  have hx:l[k]? = some l[k]:=by simp[hlt]
  have hgx:=zR (f:=fun b=>[D.slice (bcs b)]) hx;have hxb:=hb _ (List.getElem_mem hlt);have hnot:l[k]∉l.take k:=fun hm=>by
   obtain⟨i,hi,he⟩:=List.mem_take_iff_getElem.1 hm;have:=(List.getElem_inj hn).1 he;omega
  obtain⟨x,hxe⟩:∃x,l[k]=x:=⟨_,rfl⟩;rw[hxe]at hx hgx hxb hnot;have hno:=zyy hnot;have hT:zgP (σ++tabO σ.length (l.take k)) (σ.length+1) σ.length (σ.length+2) (l.take k):=by simpa using tabAt_new σ (l.take k) []
  have hP:∀l',putTab (σ++tabO σ.length (l.take k)) (σ.length+1) σ.length (σ.length+2) l'=σ++tabO σ.length l':=fun l'=>by simpa using putTab_new σ (l.take k) l' []
  refine zoh (zds hlen (zds hd hgx)) ?_;refine c_tLook hT ?_;rw[hno];refine gq28 ?_;refine c_tSum hT hxb (by rw[List.length_take];omega) ?_;rw[hP];have e:zfZ (l.take k) x=l.take (k+1):=by
   have h1:(l.take k).length=k:=by rw[List.length_take];omega
   rw[zfZ,hno];simp only[h1];rw[if_neg (by omega),List.take_add_one,hx];rfl
  rw[e];have hw:IntKind.i64.wrap ((k:Int)+1)=((k+1:Nat):Int):=by rw[zaW (by omega) (by omega)];rfl
  refine zoh hw ?_;exact zaK.next hlt ⟨rfl,rfl⟩
 ·have hd:decide ((k:Int)<(l.length:Int))=false:=by simp;omega
  rw[List.take_of_length_le (by omega)];refine zoh (zds hlen hd) ?_;refine zdp (σ':=σ) (os:=tabO σ.length l) rfl rfl hl (low_tabO _ _) ?_ hK;exact .tup _ (by simp[zhe];exact .box _ _ (by simp))
theorem zvm {id m t:Nat}{l:List (List UInt8)}(hT:zgP σ id m t l)(hn:l.Nodup)(hl0:l.length<=1048576)(hb:∀b∈l,b.length<=1073741824)
  (hK:K (.box (σ.length+1) 0) (σ++tabO σ.length l)):zP zdG [.box id 0] σ K:=by
 refine zbN zkL.is rfl (fun s=>List.range' σ.length 3) fun hl _=>zkL.goes ?_;have hbx:=hT.box;simp only[zlb,iN,bT,bF,eN];refine zAa ?_;refine zAu hT ?_;refine zoh hbx ?_;refine c_From hn hl0 hb ?_;refine zAa ?_;exact zdp (σ':=σ) (os:=tabO σ.length l) rfl rfl hl (low_tabO _ _) (.box _ _ (by simp)) hK
theorem c_known {id m t:Nat}{l:List (List UInt8)}(hT:zgP σ id m t l)(hn:l.Nodup)(hl0:l.length<=1048576)(hb:∀b∈l,b.length<=1073741824)
  (hK:K (.d (.bool true)) σ):zP zks [.box id 0] σ K:=by
 refine zeA zwq fun hl=>?_;simp only[zoV,iN,bT,bF,eN];refine zAa ?_;refine c_tLen hT ?_;cases h:decide ((l.length:Int)>0)
 ·refine zoh h ?_;refine zvm hT hn hl0 hb ?_;refine zoh h ?_;refine zu hl ?_;exact hK
 ·refine zoh h ?_;refine zu hl ?_;exact hK
theorem gq29 {A P Q:Prop}(a:A)(h:Q)(e:A->Hd Q->P:=by intro a h;(repeat' first|simp -dsimp only[↓zlG,↓zbS,↓zee,↓zlH,↓zly,↓zlw,↓zlz,↓zlx,↓zej,↓zef,↓zek,↓zeg,↓zlA,↓zeb,↓zel,↓zeh,↓zem,↓zei,↓zlv,↓zlE,↓zea,↓zep,↓zln,↓zlm,↓zlt,iN,bT,bF,eN,↓zes,↓unC,↓zaB,↓zah,↓zai,↓zav,↓zaX,↓zag,↓zgA,↓zaw,↓zbf,↓zad,↓ze,↓zj,↓zaR,↓zc,↓zaV,↓zN,↓zbT,↓zcl,↓zf,↓zF,↓zp,↓zM,↓zaA,↓zgH,↓zhI,↓zbc,↓zby,↓zcf,↓zcA,↓zdo,↓zJ,↓zbb,↓zak,↓zO,↓zaU,zhr,zdU,zdB,unA,zgx,bnd,ziS,zaO,zL,zic,dm,dm1,zH,zaF,zjW,zjV,keepO,Q0,Q1,Q2,Q3,Q4,Q5,zba,zA,zB,zY,zab,Q6,Q7,Q8,Q9,Q10,Q11,Q12,Q13,Q14,Nat.reduceAdd,Q15,Int.reduceToNat,Q16,Q17,Q18,Q19,Q20,reduceIte,Q21,Q22,zy,rep,zaq,zhW,toD,zaC,Q23,Q24,Q25,Q26,Q27,Q28,Nat.reduceLeDiff,Q29,Nat.reduceSub,Q30,Q31,Q32,sc,Q33,Q34,Q35,Q36,Q37,Q26,Q38,Q39,zuF,zuC,zuz,zuG,zjv,zuD,zuA,zuE,zuB,zju,zjw,zuI,zuJ,Bool.not_true,Bool.not_false,List.length_map,ztW,zat,a]|with_reducible refine zuX ?_|fail);exact h.go):P:=e a ⟨h⟩
theorem c_gClone0 {id m t:Nat}(hG:zfm σ id m t [])(hK:K (.box (σ.length+1) 0) (σ++ledO σ.length [])):zP zcx [.box id 0] σ K:=by
 refine zbN zeI.is rfl (fun s=>List.range' σ.length 3) fun hl _=>zeI.goes ?_;have hbx:∀τ,(σ++τ)[id]? = _:=fun τ=>zi hG.box;simp only[zgy,iN,bT,bF,eN];refine zAa ?_;refine zwX hG ?_;refine zoh hbx ?_;refine zny ?_;refine zoh hbx ?_;refine zn 0 (fun k vs s=>vs=[.d (.int .i64 0)]/\s=σ++ledO σ.length []) ⟨rfl,rfl⟩ ?_;rintro k vs s hk ⟨rfl,rfl⟩;have hd:decide ((0:Int)<((0:Nat):Int))=false:=rfl;refine gq29 hd ?_;exact zdp (σ':=σ) (os:=ledO σ.length []) rfl rfl hl (low_ledO _ _) (.box _ _ (by simp)) hK
theorem c_made {id m t id2 m2 t2:Nat}{l:List (List UInt8)}{g:List zI}(hT:zgP σ id m t l)(hG:zfm σ id2 m2 t2 g)(hn:l.Nodup)(hl0:l.length<=1048576)(hb:∀b∈l,b.length<=1073741824)
  (hK:K (.d (.bool true)) σ):zP zma [.box id 0,.box id2 0] σ K:=by
 refine zeq zxL fun hl=>?_;simp only[zqv,iN,bT,bF,eN];refine zAa ?_;refine c_known hT hn hl0 hb ?_;refine zAa ?_;refine c_gLen hG ?_;cases h:decide ((g.length:Int)>0)
 ·have hg:g=[]:=by simpa using h
  subst hg;refine zoh h ?_;refine c_gClone0 hG ?_;refine zoh h ?_;refine zu hl ?_;exact hK
 ·refine zoh h ?_;refine zu hl ?_;exact hK
variable {σ:List AObj} {K:KT}
def rtO (l:List (List UInt8)):AObj:=.box [.d (.slice (zvF l))]
def rlO (g:List zI):AObj:=.box [.d (.slice (ztW g))]
theorem rtO_low (n:Nat)(l:List (List UInt8)):ztL n (rtO l):=by
 intro c hc;simp only[List.mem_cons,List.not_mem_nil,or_false]at hc;subst hc;exact .d _
theorem rlO_low (n:Nat)(g:List zI):ztL n (rlO g):=by
 intro c hc;simp only[List.mem_cons,List.not_mem_nil,or_false]at hc;subst hc;exact .d _
theorem wki (k:Nat)(h:k<=1073741824):IntKind.i64.wrap ((k:Int)+1)=((k+1:Nat):Int):=by rw[zaW (by omega) (by omega)];rfl
theorem gq30 {P Q:Prop}(h:Q)(e:Hd Q->P:=by intro h;(repeat' first|simp -dsimp only[↓zlG,↓zbS,↓zee,↓zlH,↓zly,↓zlw,↓zlz,↓zlx,↓zej,↓zef,↓zek,↓zeg,↓zlA,↓zeb,↓zel,↓zeh,↓zem,↓zei,↓zlv,↓zlE,↓zea,↓zep,↓zln,↓zlm,↓zlt,iN,bT,bF,eN,↓zes,↓unC,↓zaB,↓zah,↓zai,↓zav,↓zaX,↓zag,↓zgA,↓zaw,↓zbf,↓zad,↓ze,↓zj,↓zaR,↓zc,↓zaV,↓zN,↓zbT,↓zcl,↓zf,↓zF,↓zp,↓zM,↓zaA,↓zgH,↓zhI,↓zbc,↓zby,↓zcf,↓zcA,↓zdo,↓zJ,↓zbb,↓zak,↓zO,↓zaU,zhr,zdU,zdB,unA,zgx,bnd,ziS,zaO,zL,zic,dm,dm1,zH,zaF,zjW,zjV,keepO,Q0,Q1,Q2,Q3,Q4,Q5,zba,zA,zB,zY,zab,Q6,Q7,Q8,Q9,Q10,Q11,Q12,Q13,Q14,Nat.reduceAdd,Q15,Int.reduceToNat,Q16,Q17,Q18,Q19,Q20,reduceIte,Q21,Q22,zy,rep,zaq,zhW,toD,zaC,Q23,Q24,Q25,Q26,Q27,Q28,Nat.reduceLeDiff,Q29,Nat.reduceSub,Q30,Q31,Q32,sc,Q33,Q34,Q35,Q36,Q37,Q26,Q38,Q39,zuF,zuC,zuz,zuG,zjv,zuD,zuA,zuE,zuB,zju,zjw,zuI,zuJ,Bool.not_true,Bool.not_false,List.length_map,Bool.and_false,Bool.and_self,Bool.false_and,Bool.not_false,Bool.not_true,Bool.true_and,Int.toNat_natCast,Int.toNat_zero,List.drop_zero,List.length_map,List.length_nil,List.nil_append,List.take_length,Nat.sub_zero,Nat.zero_add,Option.isSome_none,Option.isSome_some,Option.map_none,Option.map_some,zam,beq_self_eq_true,bne_self_eq_false,ziC,zfj,zgm,zcf,mgetR,zcA]|with_reducible refine zuX ?_|fail);exact h.go):P:=e ⟨h⟩
theorem c_rtSame {a b:List UInt8}(hK:K (.d (.bool (a==b))) σ):zP zsZ [.d (.slice (bcs a)),.d (.slice (bcs b))] σ K:=by
 refine zeq e_r02_Same fun hl=>?_;simp only[zzr,iN,bT,bF,eN];refine gq30 ?_;refine zu hl ?_;exact hK
theorem c_rtLook {id:Nat}{l:List (List UInt8)}{b:List UInt8}(hT:σ[id]? = some (rtO l))(hl0:l.length<=1048576)
  (hK:K (.tup [.d (.int .i64 (zuy (zhJ l b))),.d (.bool (zhJ l b).isSome)]) σ):zP zgS [.box id 0,.d (.slice (bcs b))] σ K:=by
 refine zeq zuR fun hl=>?_;have hlen:(zvF l).length=l.length:=List.length_map ..;have hb:σ[id]? = some (.box [.d (.slice (zvF l))]):=hT;simp only[znP,iN,bT,bF,eN];refine zn l.length (fun k vs s=>vs=[.d (.int .i64 k)]/\s=σ/\zhJ (l.take k) b=none) ⟨rfl,rfl,rfl⟩ ?_;rintro k vs s hk ⟨rfl,rfl,hno⟩;by_cases hlt:k<l.length
 ·have hd:decide ((k:Int)<(l.length:Int))=true:=by simp;omega
  have hx:l[k]? = some l[k]:=by simp[hlt]
  have hgx:=zR (f:=fun b=>[D.slice (bcs b)]) hx;obtain⟨x,hxe⟩:∃x,l[k]=x:=⟨_,rfl⟩;rw[hxe]at hx hgx;refine zoh (zds hlen (zds hd (zds hb hgx))) ?_;refine c_rtSame ?_;cases he:(x==b)
  ·refine zoh (wki k (by omega)) ?_;exact zaK.next hlt ⟨rfl,rfl,look_next hx hno he⟩
  ·rw[look_hit hx hno he]at hK;refine zoh (wki k (by omega)) ?_;refine zu hl ?_;exact hK
 ·have hd:decide ((k:Int)<(l.length:Int))=false:=by simp;omega
  rw[List.take_of_length_le (by omega)]at hno;rw[hno]at hK;refine zoh (zds hlen (zds hd hb)) ?_;refine zu hl ?_;exact hK
theorem gq31 {P Q:Prop}(h:Q)(e:Hd Q->P:=by intro h;(repeat' first|simp -dsimp only[↓zlG,↓zbS,↓zee,↓zlH,↓zly,↓zlw,↓zlz,↓zlx,↓zej,↓zef,↓zek,↓zeg,↓zlA,↓zeb,↓zel,↓zeh,↓zem,↓zei,↓zlv,↓zlE,↓zea,↓zep,↓zln,↓zlm,↓zlt,iN,bT,bF,eN,↓zes,↓unC,↓zaB,↓zah,↓zai,↓zav,↓zaX,↓zag,↓zgA,↓zaw,↓zbf,↓zad,↓ze,↓zj,↓zaR,↓zc,↓zaV,↓zN,↓zbT,↓zcl,↓zf,↓zF,↓zp,↓zM,↓zaA,↓zgH,↓zhI,↓zbc,↓zby,↓zcf,↓zcA,↓zdo,↓zJ,↓zbb,↓zak,↓zO,↓zaU,zhr,zdU,zdB,unA,zgx,bnd,ziS,zaO,zL,zic,dm,dm1,zH,zaF,zjW,zjV,keepO,Q0,Q1,Q2,Q3,Q4,Q5,zba,zA,zB,zY,zab,Q6,Q7,Q8,Q9,Q10,Q11,Q12,Q13,Q14,Nat.reduceAdd,Q15,Int.reduceToNat,Q16,Q17,Q18,Q19,Q20,reduceIte,Q21,Q22,zy,rep,zaq,zhW,toD,zaC,Q23,Q24,Q25,Q26,Q27,Q28,Nat.reduceLeDiff,Q29,Nat.reduceSub,Q30,Q31,Q32,sc,Q33,Q34,Q35,Q36,Q37,Q26,Q38,Q39,zuF,zuC,zuz,zuG,zjv,zuD,zuA,zuE,zuB,zju,zjw,zuI,zuJ,Bool.not_true,Bool.not_false,List.length_map,Bool.and_false,Bool.and_self,Bool.false_and,Bool.not_false,Bool.not_true,Bool.true_and,Int.toNat_natCast,Int.toNat_zero,List.drop_zero,List.length_map,List.length_nil,List.nil_append,List.take_length,Nat.sub_zero,Nat.zero_add,Option.isSome_none,Option.isSome_some,Option.map_none,Option.map_some,zam,beq_self_eq_true,bne_self_eq_false,zck,zaj,zdI,zch,zuy,opA,opD,zgb,zgX,zaD]|with_reducible refine zuX ?_|fail);exact h.go):P:=e ⟨h⟩
theorem gq32 {A P Q:Prop}(a:A)(h:Q)(e:A->Hd Q->P:=by intro a h;(repeat' first|simp -dsimp only[↓zlG,↓zbS,↓zee,↓zlH,↓zly,↓zlw,↓zlz,↓zlx,↓zej,↓zef,↓zek,↓zeg,↓zlA,↓zeb,↓zel,↓zeh,↓zem,↓zei,↓zlv,↓zlE,↓zea,↓zep,↓zln,↓zlm,↓zlt,iN,bT,bF,eN,↓zes,↓unC,↓zaB,↓zah,↓zai,↓zav,↓zaX,↓zag,↓zgA,↓zaw,↓zbf,↓zad,↓ze,↓zj,↓zaR,↓zc,↓zaV,↓zN,↓zbT,↓zcl,↓zf,↓zF,↓zp,↓zM,↓zaA,↓zgH,↓zhI,↓zbc,↓zby,↓zcf,↓zcA,↓zdo,↓zJ,↓zbb,↓zak,↓zO,↓zaU,zhr,zdU,zdB,unA,zgx,bnd,ziS,zaO,zL,zic,dm,dm1,zH,zaF,zjW,zjV,keepO,Q0,Q1,Q2,Q3,Q4,Q5,zba,zA,zB,zY,zab,Q6,Q7,Q8,Q9,Q10,Q11,Q12,Q13,Q14,Nat.reduceAdd,Q15,Int.reduceToNat,Q16,Q17,Q18,Q19,Q20,reduceIte,Q21,Q22,zy,rep,zaq,zhW,toD,zaC,Q23,Q24,Q25,Q26,Q27,Q28,Nat.reduceLeDiff,Q29,Nat.reduceSub,Q30,Q31,Q32,sc,Q33,Q34,Q35,Q36,Q37,Q26,Q38,Q39,zuF,zuC,zuz,zuG,zjv,zuD,zuA,zuE,zuB,zju,zjw,zuI,zuJ,Bool.not_true,Bool.not_false,List.length_map,Bool.and_false,Bool.and_self,Bool.false_and,Bool.not_false,Bool.not_true,Bool.true_and,Int.toNat_natCast,Int.toNat_zero,List.drop_zero,List.length_map,List.length_nil,List.nil_append,List.take_length,Nat.sub_zero,Nat.zero_add,Option.isSome_none,Option.isSome_some,Option.map_none,Option.map_some,zam,beq_self_eq_true,bne_self_eq_false,zck,zaj,zdI,zch,zuy,opA,opD,zgb,zgX,zaD,a]|with_reducible refine zuX ?_|fail);exact h.go):P:=e a ⟨h⟩
theorem c_rtSum {id:Nat}{l:List (List UInt8)}{b:List UInt8}(hT:σ[id]? = some (rtO l))(hbl:b.length<=1073741824)(hl0:l.length<=1048576)
  (hK:K (.d (.int .i64 (zhX l b))) (σ.set id (rtO (zfZ l b)))):zP zhD [.box id 0,.d (.slice (bcs b))] σ K:=by
 refine zjd zoI.is rfl fun hl _=>zoI.goes ?_;have hlen:(zvF l).length=l.length:=List.length_map ..;have hb:∀τ,(σ++τ)[id]? = some (.box [.d (.slice (zvF l))]):=fun τ=>zi hT;have hb0:σ[id]? = some (.box [.d (.slice (zvF l))]):=hT;have hlt:=zaa hT;simp only[zpi,iN,bT,bF,eN];refine zAa ?_;refine c_rtLook hT hl0 ?_;cases ho:zhJ l b with
 | some k=>
  simp only[zhX,zfZ,ho]at hK
  rw[zbR hT]at hK
  refine gq31 ?_
  refine ziN ?_
  refine zu hl ?_
  exact hK
 | none=>
  simp only[zhX,zfZ,ho]at hK
  by_cases hfull:l.length≥1048576
  ·rw[if_pos hfull,if_pos hfull,zbR hT]at hK
   have hd:decide ((l.length:Int)≥1048576)=true:=by simp;omega
   refine gq32 (zds hb0 (zds hlen hd)) ?_
   refine ziN ?_
   refine zu hl ?_
   exact hK
  ·rw[if_neg hfull,if_neg hfull]at hK
   have hd:decide ((l.length:Int)≥1048576)=false:=by simp;omega
   have s1:∀X τ,(σ++τ).set id X=σ.set id X++τ:=fun X τ=>zdk hT
   have g1:∀X τ,(σ.set id X++τ)[id]? = some X:=fun X τ=>zi (zdt hT)
   have bl:(bcs b).length=b.length:=zam b
   have b1:∀e∈bcs b,e.length=1:=ziD
   have t1:∀e∈zvF l,e.length=1:=zjn (f:=fun b=>[D.slice (bcs b)]) (fun _=>rfl) l
   refine gq32 (zds hb (zds hb0 (zds hlen (zds hd (zds s1 (zds g1 bl)))))) ?_
   have e:zvF l++[[D.slice (bcs b)]]=zvF (l++[b]):=by simp[zvF]
   rw[e]
   exact zkk hT (by simp[zhe,dmT,dm,dm1,zcm]) hl hK
theorem zyT {id:Nat}{g:List zI}{s:zI}(hG:σ[id]? = some (rlO g))(hg0:g.length<=1073741824)(hK:K (.d (.bool (decide (s∈g)))) σ) :
  zP zeX [.box id 0,.agg [.d (.int .i64 s.key),.d (.int .i64 s.dig)]] σ K:=by
 refine zeq zrh fun hl=>?_;have hlen:(ztW g).length=g.length:=List.length_map ..;have hb:∀τ,(σ++τ)[id]? = some (.box [.d (.slice (ztW g))]):=fun τ=>zi hG;simp only[zkS,iN,bT,bF,eN];refine zAa ?_;refine zn g.length (fun k vs q=>vs=[.d (.int .i64 k)]/\q=σ++[.box [.d (.int .i64 s.key),.d (.int .i64 s.dig)]]/\s∉g.take k) ⟨rfl,rfl,by simp⟩ ?_;rintro k vs q hk ⟨rfl,rfl,hno⟩;by_cases hlt:k<g.length
 ·have hd:decide ((k:Int)<(g.length:Int))=true:=by simp;omega
  have hx:g[k]? = some g[k]:=by simp[hlt]
  have hgx:=zR (f:=zgX) hx;obtain⟨x,hxe⟩:∃x,g[k]=x:=⟨_,rfl⟩;rw[hxe]at hx hgx;by_cases he:x=s
  ·subst he;rw[decide_eq_true (List.mem_of_getElem? hx)]at hK;refine gq32 (zds hlen (zds hd (zds hb hgx))) ?_;refine zu hl ?_;exact hK
  ·have hn2:s∉g.take (k+1):=by
    rw[List.take_add_one,hx];simp;exact⟨hno,fun h=>he h.symm⟩
   have e:x=s↔x.key=s.key/\x.dig=s.dig:=by cases s;cases x;simp
   cases h1:(x.key==s.key)
   ·refine gq32 (zds hlen (zds hd (zds hb (zds hgx (zds h1 (wki k (by omega))))))) ?_;exact zaK.next hlt ⟨rfl,rfl,hn2⟩
   ·have h2:(x.dig==s.dig)=false:=by
     have:¬x.dig=s.dig:=fun h=>he (e.2 ⟨by simpa using h1,h⟩);simpa using this
    refine gq32 (zds hlen (zds hd (zds hb (zds hgx (zds h1 (zds h2 (wki k (by omega)))))))) ?_;exact zaK.next hlt ⟨rfl,rfl,hn2⟩
 ·have hd:decide ((k:Int)<(g.length:Int))=false:=by simp;omega
  rw[List.take_of_length_le (by omega)]at hno;rw[decide_eq_false hno]at hK;refine zoh (zds hlen (zds hd hb)) ?_;refine zu hl ?_;exact hK
theorem c_rgSign {id:Nat}{g:List zI}{k d:Int}(hG:σ[id]? = some (rlO g))(hgl:g.length<=1073741824)
  (hK:K (.tup [zuv (signR k d),.d (.int .i64 (zgW k d))]) (σ.set id (rlO (zhs g k d)))):zP zgg [.box id 0,.d (.int .i64 k),.d (.int .i64 d)] σ K:=by
 refine zjd zmC.is rfl fun hl _=>zmC.goes ?_;have hb:∀τ,(σ++τ)[id]? = some (.box [.d (.slice (ztW g))]):=fun τ=>zi hG;have hlen:(ztW g).length=g.length:=List.length_map ..;have bad:zgW k d≠0->K (.tup [.agg [.d (.int .i64 0),.d (.int .i64 0)],.d (.int .i64 (zgW k d))]) σ:=fun h=>by
  rw[signR,zhs,if_neg h,if_neg h,zbR hG]at hK;exact hK
 simp only[zmP,iN,bT,bF,eN];refine zAa ?_;cases h1:decide (k<0)
 ·cases h2:decide (k≥21)
  ·have hk:¬(k<0∨k≥21):=by simp at h1 h2;omega
   cases h3:decide (d<1)
   ·have he:zgW k d=0:=by rw[zgW,if_neg hk,if_neg (by simpa using h3)]
    rw[he,signR,zhs,if_pos he,if_pos he]at hK;refine zoh (zds h1 (zds h2 h3)) ?_;refine zyT (s:=⟨k,d⟩) (zi hG) hgl ?_;by_cases hs:(⟨k,d⟩:zI)∈g
    ·rw[decide_eq_true hs];rw[zzG,if_pos hs,zbR hG]at hK;refine zoh hb ?_;refine ziN ?_;refine zu hl ?_;exact hK
    ·rw[decide_eq_false hs];rw[zzG,if_neg hs]at hK;have s1:∀X τ,(σ++τ).set id X=σ.set id X++τ:=fun X τ=>zdk hG;have L1:∀X:AObj,σ.length=(σ.set id X).length:=fun X=>by simp
     have e1:∀X τ n,(σ.set id X++τ)[σ.length+n]? = τ[n]?:=fun X τ n=>by rw[L1 X];exact zA ..
     have e3:∀X τ W,(σ.set id X++τ).set σ.length W=σ.set id X++τ.set 0 W:=fun X τ W=>by rw[L1 X];exact zab ..
     have e4:∀X τ,(σ.set id X++τ)[σ.length]? = τ[0]?:=fun X τ=>by rw[L1 X];exact zB ..
     refine zoh (zds hb (zds hlen (zds s1 (zds e1 (zds e3 e4))))) ?_;have e:ztW g++[[D.int .i64 k,D.int .i64 d]]=ztW (g++[⟨k,d⟩]):=by simp[ztW,zat,zgX]
     refine⟨zjn (f:=zgX) (fun _=>rfl) g,by simp,by omega,by simp,by omega,?_⟩;rw[e];exact zkk hG (by simp[zhe,dmT,dm,dm1,zcm,zbu,zfv]) hl hK
   ·have he:zgW k d=1:=by rw[zgW,if_neg hk,if_pos (by simpa using h3)]
    have:=bad (by rw[he];decide);rw[he]at this;refine zoh (zds h1 (zds h2 h3)) ?_;refine ziN ?_;refine zu hl ?_;exact this
  ·have he:zgW k d=20:=by rw[zgW,if_pos (by simp at h2;omega)]
   have:=bad (by rw[he];decide);rw[he]at this;refine zoh (zds h1 h2) ?_;refine ziN ?_;refine zu hl ?_;exact this
 ·have he:zgW k d=20:=by rw[zgW,if_pos (by simp at h1;omega)]
  have:=bad (by rw[he];decide);rw[he]at this;refine zoh h1 ?_;refine ziN ?_;refine zu hl ?_;exact this
end Go.Proofs.YtdgcepphjnoalaaGreat

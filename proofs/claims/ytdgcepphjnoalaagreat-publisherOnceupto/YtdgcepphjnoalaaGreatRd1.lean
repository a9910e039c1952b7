/- Contracts: the reader's small methods. -/
import Derived.Test.YtdgcepphjnoalaaGreatSh
import Derived.Test.YtdgcepphjnoalaaGreatSpTab
import Derived.Test.YtdgcepphjnoalaaGreatRc2
import Derived.Test.YtdgcepphjnoalaaGreatCk4
set_option linter.all false
set_option maxRecDepth 100000
namespace Go.Proofs.YtdgcepphjnoalaaGreat
open Go.AW
def Cell (c:AV) (B:List UInt8):Prop:=c=.d (.slice (bcs B))∨∃t,c=.own t (bcs B)
variable {σ:List AObj}
theorem zrD {n:Int}(h:0<=n)(h2:n<9223372036854775808):IntKind.u64.wrap n=(n.toNat:Int):=by
 obtain⟨m,rfl⟩:=Int.eq_ofNat_of_zero_le h;rw[Int.toNat_natCast];exact zdR (by omega)
theorem bytesE (s:List UInt8):s.map zch=bcs s:=rfl
theorem gq22 {A P Q:Prop}(a:A)(h:Q)(e:A->P=Q:=by intro a;simp -dsimp only[↓zmg,↓zcf,↓zep,↓zmh,↓zmb,↓zlZ,↓zmc,↓zma,↓zeu,↓zeq,↓zev,↓zer,↓zmd,↓zeo,↓zew,↓zes,↓zex,↓zet,↓zlY,↓zmf,↓zen,↓zey,↓zlW,↓zlV,↓zlX,iN,bT,bF,eN,↓zeO,↓unC,↓zaE,↓zan,↓zao,↓zaA,↓zbf,↓zah,↓zgR,↓zaz,↓zbe,↓zae,↓ze,↓zl,↓zbc,↓zc,↓zaY,↓zM,↓zce,↓zcB,↓zf,↓zF,↓zr,↓zN,↓zaC,↓zgY,↓zhU,↓zbi,↓zbJ,↓zcj,↓zcM,↓zdG,↓zL,↓zbh,↓zap,↓zR,↓zbb,zhS,zdY,zdS,unA,zgE,bnd,zjr,zaP,zK,ziD,dm,dm1,zH,zaI,zkw,zkv,keepO,Q0,Q1,Q2,Q3,Q4,Q5,zbg,zA,zC,zZ,zad,Q6,Q7,Q8,Q9,Q10,Q11,Q12,Q13,Q14,Nat.reduceAdd,Q15,Int.reduceToNat,Q16,Q17,Q18,Q19,Q20,reduceIte,Q21,Q22,zy,rep,zaq,zil,toD,zaD,Q23,Q24,Q25,Q26,Q27,Q28,Nat.reduceLeDiff,Q29,Nat.reduceSub,Q30,Q31,Q32,sc,Q33,Q34,Q35,Bool.and_false,Bool.and_self,Bool.false_and,Bool.not_false,Bool.not_true,Bool.true_and,Int.toNat_natCast,Int.toNat_zero,List.drop_zero,List.length_map,List.length_nil,List.nil_append,List.take_length,Nat.sub_zero,Nat.zero_add,Option.isSome_none,Option.isSome_some,Option.map_none,Option.map_some,zaj,beq_self_eq_true,bne_self_eq_false,bytesE,zck,zhJ,zag,zdg,zrY,zcl,zor,opA,opD,zfx,zgo,zaw,a];rfl):P:=(e a).mpr h
theorem c_Put {b:List UInt8}{o:TOp}(hb:b.length<=268435456)(ho:zmT o<=268435456){K:KT}(hK:K (.d (.slice (bcs (b++if zaN zef o=0 then opB o else [])))) σ) :
  zP zzS [.d (.slice (bcs b)),opA o] σ K:=by
 refine zec e_op_Put fun hl=>?_;have hsz:=ho;simp only[zmT]at hsz;have hrl:=zmW o.recs;simp only[S_op_Put,iN,bT,bF,eN,opA];(refine gq4 ?_;try with_reducible exact True.intro);refine zjS ziA (by simp[bcs];omega) ?_;(refine gq4 ?_;try with_reducible exact True.intro);refine zwU (o:=o) (by omega) (by omega) (by omega) ?_;(refine gq4 ?_;try with_reducible exact True.intro);refine zV (fun h=>?_) (fun h=>?_)
 ·refine zu hl ?_;(try simp only[decide_eq_true_eq,decide_eq_false_iff_not,beq_iff_eq,beq_eq_false_iff_ne,bne_iff_ne,ne_eq,Bool.not_eq_true',Bool.not_eq_false',bne_eq_false_iff_eq]at *);rw[if_neg h,List.append_nil]at hK;exact hK
 have hc:zaN zef o=0:=by exact zop
 obtain⟨k0,k4,o0,o1,hon⟩:=zva hc;rw[if_pos hc]at hK;have hkn:=zj (n:=o.kind.toNat) (by omega);have hon':=zj (n:=o.offset.toNat) (by omega);have hrn:=zj (n:=o.recs.length) (by omega);have htp:=zdl (x:=o.topic) (by omega);have hgp:=zdl (x:=o.group) (by omega);(refine gq6 (zrD k0 (by omega)) ?_;try with_reducible exact True.intro);refine zfv (by omega) (by omega) ?_;have wo:=zrD o0 (by omega:o.offset<9223372036854775808);have wl:IntKind.u64.wrap ((zdQ o.recs).length:Int)=(o.recs.length:Int):=by rw[zy];exact zdR (by omega)
 have wl':IntKind.u64.wrap (o.recs.length:Int)=(o.recs.length:Int):=zdR (by omega);repeat' first
  | (refine gq22 (zd wo (zd wl wl')) ?_;try with_reducible exact True.intro)
  | (refine zV (fun h=>?_) (fun h=>?_)<;>(try rw[h]))
  | ((with_reducible refine And.intro ?_ ?_);focus(first|omega|rfl|decide))
  | refine zpJ (by omega) (by simp only[zkf,List.length_append]at *;omega) ?_
  | refine zfv (by omega) (by simp only[zkf,List.length_append]at *;omega) ?_
 all_goals first
  | (exfalso;exact zop)
  | (
   refine zu hl ?_
   (try simp only[decide_eq_true_eq,decide_eq_false_iff_not,beq_iff_eq,beq_eq_false_iff_ne,bne_iff_ne,ne_eq,Bool.not_eq_true',Bool.not_eq_false',bne_eq_false_iff_eq]at *)
   simp only[zcm,dmT,dm,dm1]
   (first|rw[opB_0 (by omega)]at hK|rw[opB_1 (by omega)]at hK|rw[opB_3 (by omega)]at hK|rw[opB_4 (by omega)]at hK)
   exact hK)
  | skip
 have hk2:o.kind=2:=by exact zop
 rw[opB_2 hk2]at hK;refine zn o.recs.length (fun k vs s=>∃t τ,vs=[.own t (bcs (b++(zbx o.kind.toNat++(zbx o.topic.length++(o.topic++(zbx o.recs.length++zrN (o.recs.take k))))))),.d (.int .i64 k)]/\s=σ++τ) ⟨σ.length+4,_,by rw[List.take_zero,show zrN []=[]from rfl,List.append_nil];rfl,rfl⟩ ?_;rintro k vs s hk ⟨t,τ,rfl,rfl⟩;(refine gq4 ?_;try with_reducible exact True.intro);refine zV (fun h=>?_) (fun h=>?_)
 ·have hka:k<o.recs.length:=by exact zop
  have hx:o.recs[k]? = some o.recs[k]:=by simp[hka]
  have hle:=rec_le (List.getElem_mem hka);have htl:=zlH o.recs (by omega) k;(refine gq6 (zgx hx) ?_;try with_reducible exact True.intro);refine And.intro (by omega) (zpJ (by omega) (by simp only[zkf,List.length_append]at *;omega) ?_);(refine gq4 ?_;try with_reducible exact True.intro);refine zaK.next hka ⟨σ.length+τ.length,_,?_,rfl⟩;rw[zaQ (by omega) (by omega),zyi hx];simp only[zkf,List.append_assoc];rfl
 ·have hke:k=o.recs.length:=by exact zop
  subst hke;refine zu hl ?_;rw[List.take_length];exact hK
theorem c_rPut {b:List UInt8}{o:TOp}(hb:b.length<=268435456)(ho:zmT o<=268435456){K:KT}(hK:K (.d (.slice (bcs (b++if zaN zef o=0 then opB o else [])))) σ) :
  zP zvH [.d (.slice (bcs b)),opA o] σ K:=by
 refine zec e_r06_Put fun hl=>?_;have hsz:=ho;simp only[zmT]at hsz;have hrl:=zmW o.recs;simp only[S_r06_Put,iN,bT,bF,eN,opA];(refine gq4 ?_;try with_reducible exact True.intro);refine zAw (o:=o) (by omega) (by omega) (by omega) ?_;(refine gq4 ?_;try with_reducible exact True.intro);refine zV (fun h=>?_) (fun h=>?_)
 ·refine zu hl ?_;(try simp only[decide_eq_true_eq,decide_eq_false_iff_not,beq_iff_eq,beq_eq_false_iff_ne,bne_iff_ne,ne_eq,Bool.not_eq_true',Bool.not_eq_false',bne_eq_false_iff_eq]at *);rw[if_neg h,List.append_nil]at hK;exact hK
 have hc:zaN zef o=0:=by exact zop
 obtain⟨k0,k4,o0,o1,hon⟩:=zva hc;rw[if_pos hc]at hK;have hkn:=zj (n:=o.kind.toNat) (by omega);have hon':=zj (n:=o.offset.toNat) (by omega);have hrn:=zj (n:=o.recs.length) (by omega);have htp:=zdl (x:=o.topic) (by omega);have hgp:=zdl (x:=o.group) (by omega);(refine gq6 (zrD k0 (by omega)) ?_;try with_reducible exact True.intro);refine c_fields ?_;(refine gq6 (zrD k0 (by omega)) ?_;try with_reducible exact True.intro);refine zeM (by omega) (by omega) ?_;have wo:=zrD o0 (by omega:o.offset<9223372036854775808);have wl:IntKind.u64.wrap ((zdQ o.recs).length:Int)=(o.recs.length:Int):=by rw[zy];exact zdR (by omega)
 have wl':IntKind.u64.wrap (o.recs.length:Int)=(o.recs.length:Int):=zdR (by omega);have f1:zoC o.kind=true↔o.kind≠0:=by simp[zoC];omega
 have f2:zsd o.kind=true↔o.kind=3:=by simp[zsd]
 have f3:fOff o.kind=true↔(o.kind=3∨o.kind=4):=by simp[fOff]
 have f4:zAe o.kind=true↔o.kind=2:=by simp[zAe]
 repeat' first
  | (refine gq22 (zd wo (zd wl wl')) ?_;try with_reducible exact True.intro)
  | (refine zV (fun h=>?_) (fun h=>?_)<;>(try rw[h]))
  | ((with_reducible refine And.intro ?_ ?_);focus(first|omega|rfl|decide))
  | refine zgZ (by omega) (by simp only[zkf,List.length_append]at *;omega) ?_
  | refine zeM (by omega) (by simp only[zkf,List.length_append]at *;omega) ?_
 all_goals first
  | (exfalso;clear hK;grind)
  | (
   refine zu hl ?_
   (try simp only[decide_eq_true_eq,decide_eq_false_iff_not,beq_iff_eq,beq_eq_false_iff_ne,bne_iff_ne,ne_eq,Bool.not_eq_true',Bool.not_eq_false',bne_eq_false_iff_eq]at *)
   simp only[zcm,dmT,dm,dm1]
   (first|rw[opB_0 (by grind)]at hK|rw[opB_1 (by grind)]at hK|rw[opB_3 (by grind)]at hK|rw[opB_4 (by grind)]at hK)
   exact hK)
  | skip
 have hk2:o.kind=2:=by grind
 rw[opB_2 hk2]at hK;refine zn o.recs.length (fun k vs s=>∃t τ,vs=[.own t (bcs (b++(zbx o.kind.toNat++(zbx o.topic.length++(o.topic++(zbx o.recs.length++zrN (o.recs.take k))))))),.d (.int .i64 k)]/\s=σ++.box [.d (.int .i64 o.kind),.d (.str o.topic),.d (.str o.group),.d (.int .i64 o.offset),.d (.slice (zdQ o.recs))]::τ)
  ⟨σ.length+3,_,by rw[List.take_zero,show zrN []=[]from rfl,List.append_nil];rfl,rfl⟩ ?_
 rintro k vs s hk ⟨t,τ,rfl,rfl⟩;(refine gq4 ?_;try with_reducible exact True.intro);refine zV (fun h=>?_) (fun h=>?_)
 ·have hka:k<o.recs.length:=by exact zop
  have hx:o.recs[k]? = some o.recs[k]:=by simp[hka]
  have hle:=rec_le (List.getElem_mem hka);have htl:=zlH o.recs (by omega) k;(refine gq6 (zgx hx) ?_;try with_reducible exact True.intro);refine And.intro (by omega) (zgZ (by omega) (by simp only[zkf,List.length_append]at *;omega) ?_);(refine gq4 ?_;try with_reducible exact True.intro);refine zaK.next hka ⟨σ.length+(τ.length+1),_,?_,rfl⟩;rw[zaQ (by omega) (by omega),zyi hx];simp only[zkf,List.append_assoc];rfl
 ·have hke:k=o.recs.length:=by exact zop
  subst hke;refine zu hl ?_;rw[List.take_length];exact hK
variable {σ:List AObj}
def zuV (c:Int):Int:=if c<0∨c≥8 then -1 else 13+c
theorem c_rqKey {c:Int}{K:KT}(hK:K (.d (.int .i64 (zuV c))) σ):zP zmZ [.d (.int .i64 c)] σ K:=by
 refine zez zAh fun hl=>?_;simp only[zsy,iN,bT,bF,eN];(repeat'(first|(refine gq4 ?_;try with_reducible exact True.intro)|(refine zV (fun h=>?_) (fun h=>?_)<;>(try rw[h]))|((with_reducible refine And.intro ?_ ?_);focus(first|omega|rfl|decide))));all_goals(
  refine zu hl ?_
  (try simp only[decide_eq_true_eq,decide_eq_false_iff_not,beq_iff_eq,beq_eq_false_iff_ne,bne_iff_ne,ne_eq,Bool.not_eq_true',Bool.not_eq_false',bne_eq_false_iff_eq]at *)
  unfold zuV at hK)
 ·rw[if_pos (by omega)]at hK;exact hK
 ·rw[if_pos (by omega)]at hK;exact hK
 ·rw[if_neg (by omega)]at hK;rw[zaQ (by omega) (by omega)];exact hK
theorem sizes {x:zp}(h:zmT x.op<=20971520):okO x.op:=by
 have h0:=h;unfold zmT at h;refine⟨by omega,by omega,?_,fun r hr=>?_⟩
 ·have:=zmW x.op.recs;omega
 ·have:=rec_le hr;omega
theorem c_rqBytes {x:zp}(hx:zmT x.op<=20971520){K:KT}(hK:K (.tup [.d (.slice (bcs (zbU x))),.d (.int .i64 (zT x))]) σ):zP zht [reqA x] σ K:=by
 refine zez zwn fun hl=>?_;have hsz:=sizes hx;simp only[zoW,iN,bT,bF,eN,reqA];refine zG ?_;refine c_rqCheck (x:=x) hsz ?_;by_cases hc:zT x=0
 ·obtain⟨c0,c8,t1,t2,ho⟩:=req_ok hc;have hb:(zT x != 0)=false:=by simpa using hc
  have n1:=zj (n:=x.client.toNat) (by omega);have n2:=zj (n:=x.time.toNat) (by omega);have w1:IntKind.u64.wrap x.client=((x.client.toNat:Nat):Int):=by
   rw[show x.client=((x.client.toNat:Nat):Int) by omega,zdR (by omega)];rfl
  have w2:IntKind.u64.wrap x.time=((x.time.toNat:Nat):Int):=by
   rw[show x.time=((x.time.toNat:Nat):Int) by omega,zdR (by omega)];rfl
  rw[hc,zbU,if_pos hc]at hK;refine zm (zd hb (zd w1 w2)) ?_;refine zfv (b:=[]) (by omega) (by simp) ?_;refine zm (zd w1 w2) ?_;refine zfv (by omega) (by first|omega|(simp;omega)) ?_;refine zm (zd w1 w2) ?_;refine c_Put (o:=x.op) (by first|omega|(simp;omega)) (by omega) ?_;refine zG ?_;refine zu hl ?_;rw[if_pos ho];exact hK
 ·have hb:(zT x != 0)=true:=by simpa using hc
  rw[zbU,if_neg hc]at hK;refine zm hb ?_;refine zu hl ?_;exact hK
theorem zyR {x:zp}(hx:zmT x.op<=20971520){K:KT}(hK:K (.tup [.d (.slice (bcs (zbU x))),.d (.int .i64 (zT x))]) σ):zP znd [reqA x] σ K:=by
 refine zez e_r08_Bytes fun hl=>?_;have hsz:=sizes hx;simp only[zxn,iN,bT,bF,eN,reqA];refine zG ?_;refine zyQ (x:=x) hsz ?_;by_cases hc:zT x=0
 ·obtain⟨c0,c8,t1,t2,ho⟩:=req_ok hc;have hb:(zT x != 0)=false:=by simpa using hc
  have n1:=zj (n:=x.client.toNat) (by omega);have n2:=zj (n:=x.time.toNat) (by omega);have w1:IntKind.u64.wrap x.client=((x.client.toNat:Nat):Int):=by
   rw[show x.client=((x.client.toNat:Nat):Int) by omega,zdR (by omega)];rfl
  have w2:IntKind.u64.wrap x.time=((x.time.toNat:Nat):Int):=by
   rw[show x.time=((x.time.toNat:Nat):Int) by omega,zdR (by omega)];rfl
  rw[hc,zbU,if_pos hc]at hK;refine zm (zd hb (zd w1 w2)) ?_;refine zeM (b:=[]) (by omega) (by simp) ?_;refine zm (zd w1 w2) ?_;refine zeM (by omega) (by first|omega|(simp;omega)) ?_;refine zm (zd w1 w2) ?_;refine c_rPut (o:=x.op) (by first|omega|(simp;omega)) (by omega) ?_;refine zG ?_;refine zu hl ?_;rw[if_pos ho];exact hK
 ·have hb:(zT x != 0)=true:=by simpa using hc
  rw[zbU,if_neg hc]at hK;refine zm hb ?_;refine zu hl ?_;exact hK
theorem ziy {b:List UInt8}{k d:Int}(hb:b.length<=1073741700){K:KT}(hK:K (.d (.slice (bcs (b++zcw k d)))) σ) :
  zP zdm [.d (.slice (bcs b)),.agg [.d (.int .i64 k),.d (.int .i64 d)]] σ K:=by
 refine zec zAl fun hl=>?_;simp only[zsC,iN,bT,bF,eN];refine zG ?_;refine zbI ?_;by_cases hc:zx k d=0
 ·obtain⟨k0,k1,d0,d1⟩:=sign_ok hc;have hq:(zx k d != 0)=false:=by simpa using hc
  have n1:=zj (n:=k.toNat) (by omega);have w1:IntKind.u64.wrap k=((k.toNat:Nat):Int):=by
   rw[show k=((k.toNat:Nat):Int) by omega,zdR (by omega)];rfl
  have w2:IntKind.u64.wrap d=((d.toNat:Nat):Int):=by
   rw[show d=((d.toNat:Nat):Int) by omega,zdR (by omega)];rfl
  rw[zcw,if_pos hc]at hK;refine zm (zd hq (zd w1 w2)) ?_;refine zeM (by omega) (by omega) ?_;refine zm (zd w1 w2) ?_;refine zeM (by omega) (by first|omega|(simp;omega)) ?_;refine zG ?_;refine zu hl ?_;exact hK
 ·have hq:(zx k d != 0)=true:=by simpa using hc
  rw[zcw,if_neg hc,List.append_nil]at hK;refine zm hq ?_;refine zu hl ?_;exact hK
theorem zns {b:List UInt8}{l:List zp}(hb:b.length<=268435456)(hs:∀x∈l,zmT x.op<=20971520)(hl0:l.length<=1073741824){K:KT}(hK:K (.d (.slice (bcs (b++zdJ l)))) σ) :
  zP zfl [.d (.slice (bcs b)),.d (.slice (zbA l))] σ K:=by
 refine zec zxQ fun hl=>?_;have hok:okB l:=⟨hl0,fun x hx=>sizes (hs x hx)⟩;simp only[zqA,iN,bT,bF,eN];refine zG ?_;refine zhL hok ?_;by_cases hc:zD l=0
 ·have hq:(zD l != 0)=false:=by simpa using hc
  obtain⟨h4,hm,_⟩:=zjT hc;have n1:=zj (n:=l.length) (by omega);have w1:IntKind.u64.wrap (l.length:Int)=(l.length:Int):=zdR (by omega);rw[zdJ,if_pos hc]at hK;refine zm (zd hq w1) ?_;refine zeM (by omega) (by omega) ?_;refine zG ?_;refine zoz l.length (fun k vs s=>(∃T,s=σ++T)/\vs=[.d (.slice (bcs (b++(zbx l.length++zdK (l.take k))))),.d (.int .i64 k)])
   (.data 0 _ _ rfl rfl (.refl _ _)) ⟨⟨_,rfl⟩,by simp[zdK]⟩ ?_
  rintro k vs s hk ⟨⟨T,rfl⟩,rfl⟩;by_cases hlt:k<l.length
  ·have hd:decide ((k:Int)<(l.length:Int))=true:=by simp;omega
   have hx:l[k]? = some l[k]:=by simp[hlt]
   have hgx:=zQ (f:=zaw) hx;have hxs:=hs _ (List.getElem_mem hlt);have hxm:=hm _ (List.getElem_mem hlt);obtain⟨x,hxe⟩:∃x,l[k]=x:=⟨_,rfl⟩;rw[hxe]at hx hgx hxs hxm;have hbl:=zwV hs hc k;have hrl:=ztS hxs;have hpl:=zdl (x:=zbU x) (by omega);obtain⟨S,hS⟩:∃S,σ++T=S:=⟨_,rfl⟩;rw[hS];refine zdy (zd hd hgx) ?_;refine zyR (x:=x) hxs ?_;refine zdy (zd hd hgx) ?_;refine zgZ (by omega) (by simp;omega) ?_;refine zdy (zd hd hgx) ?_;refine ziy (by simp only[zkf,List.length_append]at hpl ⊢;omega) ?_;refine zm (wk1 k (by omega)) ?_;refine zaK.next hlt ⟨⟨_,by rw[← hS,List.append_assoc]⟩,?_⟩;rw[zoO hx];simp[oneB,zkf,zbU,zcw,hxm.1,hxm.2]
  ·have hd:decide ((k:Int)<(l.length:Int))=false:=by simp;omega
   rw[List.take_of_length_le (by omega)];refine zm hd ?_;refine zu hl ?_;exact hK
 ·have hq:(zD l != 0)=true:=by simpa using hc
  rw[zdJ,if_neg hc,List.append_nil]at hK;refine zm hq ?_;refine zu hl ?_;exact hK
variable {σ:List AObj}
theorem zyW {b:List UInt8}{k d:Int}(hb:b.length<=1073741700)(hc:zx k d=0){K:KT}(hK:K (.own σ.length (bcs (b++zgp k d))) (σ++[.tok 1 (b++zgp k d).length])) :
  zP zfZ [.d (.slice (bcs b)),.agg [.d (.int .i64 k),.d (.int .i64 d)]] σ K:=by
 refine zbO zmy.is rfl (fun s=>[s.length-1]) fun hl _=>zmy.goes ?_;obtain⟨k0,k1,d0,d1⟩:=sign_ok hc;have hq:(zx k d != 0)=false:=by simpa using hc
 have n1:=zj (n:=k.toNat) (by omega);have w1:IntKind.u64.wrap k=((k.toNat:Nat):Int):=by
  rw[show k=((k.toNat:Nat):Int) by omega,zdR (by omega)];rfl
 have w2:IntKind.u64.wrap d=((d.toNat:Nat):Int):=by
  rw[show d=((d.toNat:Nat):Int) by omega,zdR (by omega)];rfl
 simp only[zmH,iN,bT,bF,eN];refine zG ?_;refine zbN ?_;refine zm (zd hq (zd w1 w2)) ?_;refine zfv (by omega) (by omega) ?_;refine zm (zd w1 w2) ?_;refine zfv (by omega) (by simp;omega) ?_;refine zG ?_;refine zoE (t:=σ.length+2) (sz:=1) (n:=(b++zgp k d).length) (by simp) hl (by omega) ?_ ?_
 ·rw[zA];simp[zgp,Nat.add_assoc]
 ·exact hK
theorem c_partsPutO {b:List UInt8}{l:List zp}(hb:b.length<=268435456)(hs:∀x∈l,zmT x.op<=20971520)(hc:zD l=0){K:KT}(hK:K (.own σ.length (bcs (b++zhi l))) (σ++[.tok 1 (b++zhi l).length])) :
  zP zgT [.d (.slice (zbA l)),.d (.slice (bcs b))] σ K:=by
 refine zbO zkB.is rfl (fun s=>[s.length-1]) fun hl _=>zkB.goes ?_;obtain⟨h4,hm,_⟩:=zjT hc;have n1:=zj (n:=l.length) (by omega);have w1:IntKind.u64.wrap (l.length:Int)=(l.length:Int):=zdR (by omega);simp only[zkI,iN,bT,bF,eN,zl1];refine zm w1 ?_;refine zfv (by omega) (by omega) ?_;refine zG ?_;refine zn l.length (fun k vs s=>∃T,s=σ++T++[.tok 1 (b++(zbx l.length++zdK (l.take k))).length]/\vs=[.own (σ++T).length (bcs (b++(zbx l.length++zdK (l.take k)))),.d (.int .i64 k)])
  ⟨[],by simp[zdK],by simp[zdK]⟩ ?_
 rintro k vs s hk ⟨T,rfl,rfl⟩;by_cases hlt:k<l.length
 ·have hd:decide ((k:Int)<(l.length:Int))=true:=by simp;omega
  have hx:l[k]? = some l[k]:=by simp[hlt]
  have hgx:=zQ (f:=zaw) hx;have hxs:=hs _ (List.getElem_mem hlt);have hxm:=hm _ (List.getElem_mem hlt);obtain⟨x,hxe⟩:∃x,l[k]=x:=⟨_,rfl⟩;rw[hxe]at hx hgx hxs hxm;have hbl:=zwV hs hc k;have hrl:=ztS hxs;have hpl:=zdl (x:=zbU x) (by omega);obtain⟨t,ht⟩:∃t,(σ++T).length=t:=⟨_,rfl⟩;obtain⟨S,hS⟩:∃S,σ++T++[AObj.tok 1 (b++(zbx l.length++zdK (l.take k))).length]=S:=⟨_,rfl⟩;have hS2:S=σ++(T++[AObj.tok 1 (b++(zbx l.length++zdK (l.take k))).length]):=by rw[← hS,List.append_assoc]
  rw[ht,hS];refine zdy (zd hd hgx) ?_;refine c_rqBytes (x:=x) hxs ?_;refine zdy (zd hd hgx) ?_;refine zpJ (by omega) (by simp;omega) ?_;refine zdy (zd hd hgx) ?_;refine zyW (by simp only[zkf,List.length_append]at hpl ⊢;omega) hxm.2 ?_;refine zm (wk1 k (by omega)) ?_;have hwl:(zdK (l.take (k+1))).length=(zdK (l.take k)).length+((zbx (zbU x).length).length+((zbU x).length+(zgp x.key x.dig).length)):=by
   rw[zoO hx];simp[oneB,zkf,zbU,hxm.1,Nat.add_assoc]
  have hw:b++(zbx l.length++zdK (l.take (k+1)))=b++(zbx l.length++(zdK (l.take k)++(zbx (zbU x).length++(zbU x++zgp x.key x.dig)))):=by
   rw[zoO hx];simp[oneB,zkf,zbU,hxm.1]
  refine zaK.next hlt ⟨T++[AObj.tok 1 (b++(zbx l.length++zdK (l.take k))).length]++[AObj.box [.d (.int .i64 x.client),.d (.int .i64 x.time),.d (.int .i64 x.op.kind),.d (.str x.op.topic),.d (.str x.op.group),.d (.int .i64 x.op.offset),.d (.slice (zdQ x.op.recs)),.d (.int .i64 x.key),.d (.int .i64 x.dig)],.tok 1 (b++(zbx l.length++(zdK (l.take k)++(zbx (zbU x).length++zbU x)))).length],?_,?_⟩
  ·simp only[hw,hS2];simp[Nat.add_assoc,hwl]
  ·simp only[hw,hS2];simp[Nat.add_assoc]
 ·have hd:decide ((k:Int)<(l.length:Int))=false:=by simp;omega
  rw[List.take_of_length_le (by omega)];simp only[List.append_assoc];refine zm hd ?_;refine zoE (t:=σ.length+T.length) (sz:=1) (n:=(b++zhi l).length) ?_ hl (by omega) ?_ ?_
  ·simp only[List.length_append,List.length_cons,List.length_nil];congr 1
  ·rw[zA,zC];simp[zhi]
  ·exact hK
theorem c_PutBatchO {b:List UInt8}{l:List zp}(hb:b.length<=268435456)(hs:∀x∈l,zmT x.op<=20971520)(hc:zD l=0){K:KT}(hK:K (.own σ.length (bcs (b++zhi l))) (σ++[.tok 1 (b++zhi l).length])) :
  zP zhr [.d (.slice (bcs b)),.d (.slice (zbA l))] σ K:=by
 refine zbO zln.is rfl (fun s=>[s.length-1]) fun hl _=>zln.goes ?_;have h4:=(zjT hc).1;have hok:okB l:=⟨by omega,fun x hx=>sizes (hs x hx)⟩;have hq:(zD l != 0)=false:=by simpa using hc
 simp only[zlt,iN,bT,bF,eN];refine zG ?_;refine ziY hok ?_;refine zm hq ?_;refine c_partsPutO hb hs hc ?_;refine zG ?_;refine zoE (t:=σ.length) (sz:=1) (n:=(b++zhi l).length) (by simp) hl (by omega) ?_ ?_
 ·rw[zC];simp
 ·exact hK
structure zlE (σ:List AObj) (id:Nat) (B O:AObj) (S:List AObj):Prop where
 a:S[id]? = some O
 b:S[σ.length]? = some B
 pre:∃τ,S=σ.set id O++τ
section
variable {σ S:List AObj} {id:Nat} {B O O':AObj}
theorem zlE.first (hσ:σ[id]? = some O)(B:AObj):zlE σ id B O (σ++[B]):=⟨zi hσ,by rw[zC];rfl,[B],by rw[zbS hσ]⟩
theorem zlE.set (h:zlE σ id B O S)(hid:id<σ.length)(O':AObj):zlE σ id B O' (S.set id O'):=by
 obtain⟨h1,h2,τ,h3⟩:=h;refine⟨List.getElem?_set_self (zY h1),(List.getElem?_set_ne (by omega)).trans h2,τ,?_⟩;rw[h3,List.set_append_left _ _ (by simpa using hid),List.set_set]
theorem zlE.app (h:zlE σ id B O S)(τ:List AObj):zlE σ id B O (S++τ):=by
 obtain⟨h1,h2,τ',h3⟩:=h;exact⟨zi h1,zi h2,τ'++τ,by rw[h3,List.append_assoc]⟩
theorem zlE.done {K:KT}(h:zlE σ id B O S)(hO:ztL σ.length O)(hl:zhl σ.length σ)(hK:K (.tup []) (σ.set id O)):AW.Ends σ.length K (some []) S:=by
 obtain⟨_,_,τ,rfl⟩:=h;exact zeL (by simp[zcm,dmT,zbw]) hl hO hK
theorem zlE.as (h:zlE σ id B O S)(e:O=O'):zlE σ id B O' S:=e▸h
end
abbrev wO (b:List UInt8):AObj:=.box [.d (.slice (bcs b))]
theorem zqd (n:Nat)(b:List UInt8):ztL n (wO b):=by
 intro c hc;simp only[List.mem_cons,List.not_mem_nil,or_false]at hc;subst hc;exact .d _
theorem w64 {x:Int}(h0:0<=x)(h1:x<=9007199254740992):IntKind.u64.wrap x=((x.toNat:Nat):Int):=by
 rw[show x=((x.toNat:Nat):Int) by omega,zdR (by omega)];rfl
section
variable {σ:List AObj} {id:Nat} {b:List UInt8} {K:KT}
theorem c_wNum {l:List Int}(hσ:σ[id]? = some (wO b))(hb:b.length<=536870912)(hl0:l.length<=1000)(hi:∀x∈l,0<=x/\x<=9007199254740992)(hK:K (.tup []) (σ.set id (wO (b++zS l)))) :
  zP zJ [.box id 0,.d (.slice (zhV l))] σ K:=by
 refine zja zlp.is rfl fun hl _=>zlp.goes ?_;have hid:=zY hσ;simp only[zlx,iN,bT,bF,eN];refine zG ?_;refine zn l.length (fun k vs s=>vs=[.d (.int .i64 k)]/\∃c T,s=σ.set id (.box [c])++T/\(c=.d (.slice (bcs (b++zS (l.take k))))∨∃t,c=.own t (bcs (b++zS (l.take k))))) ⟨rfl,_,[],by rw[List.append_nil,zbS hσ],.inl (by simp[zS])⟩ ?_;rintro k vs s hk ⟨rfl,c,T,rfl,hc⟩;have hbox:(σ.set id (.box [c])++T)[id]? = some (.box [c]):=zi (zdr hσ);by_cases hlt:k<l.length
 ·have hd:decide ((k:Int)<(l.length:Int))=true:=by simp;omega
  have hx:l[k]? = some l[k]:=by simp[hlt]
  have hxi:=hi _ (List.getElem_mem hlt);have hgx:=zQ (f:=fun t=>[D.int .i64 t]) hx;obtain⟨x,hxe⟩:∃x,l[k]=x:=⟨_,rfl⟩;rw[hxe]at hx hgx hxi;have hln:=zoq (l:=l.take k) (fun y hy=>by have:=hi y (List.mem_of_mem_take hy);omega);have hlk:(l.take k).length=k:=by rw[List.length_take];omega
  have hw:=w64 hxi.1 hxi.2;have hbl:(b++zS (l.take k)).length<=1073741824:=by rw[List.length_append];omega
  have hnx:b++zS (l.take (k+1))=b++(zS (l.take k)++zbx x.toNat):=by rw[List.take_add_one,hx];simp[zS]
  have fin:∀t τ,∃c' T',(σ.set id (.box [c])++T++τ).set id (.box [.own t (bcs (b++(zS (l.take k)++zbx x.toNat)))])=σ.set id (.box [c'])++T'∧(c'=.d (.slice (bcs (b++zS (l.take (k+1)))))∨∃t,c'=.own t (bcs (b++zS (l.take (k+1))))):=by
   intro t τ;refine⟨_,T++τ,?_,.inr ⟨t,rfl⟩⟩;rw[hnx,List.append_assoc,List.set_append_left _ _ (by simpa using hid),List.set_set]
  have hbox2:∀τ,(σ.set id (.box [c])++T++τ)[id]? = some (.box [c]):=fun τ=>zi hbox;obtain⟨S,hS⟩:∃S,σ.set id (.box [c])++T=S:=⟨_,rfl⟩;rw[hS]at hbox fin hbox2 ⊢;rcases hc with rfl|⟨t,rfl⟩
  ·refine zm (zd hd (zd hgx (zd hbox hw))) ?_;refine zfv (by omega) hbl ?_;refine zm (zd hbox2 (wkc k (by omega))) ?_;exact zaK.next hlt ⟨rfl,fin _ _⟩
  ·refine zm (zd hd (zd hgx (zd hbox hw))) ?_;refine zfv (by omega) hbl ?_;refine zm (zd hbox2 (wkc k (by omega))) ?_;exact zaK.next hlt ⟨rfl,fin _ _⟩
 ·have hd:decide ((k:Int)<(l.length:Int))=false:=by simp;omega
  rw[List.take_of_length_le (by omega)]at hc;rcases hc with rfl|⟨t,rfl⟩
  ·refine zm hd ?_;refine ziL (zeL (by simp[zcm,dmT,zbw]) hl (zqd _ _) hK)
  ·refine zm hd ?_;exact zkb hσ (by simp[zcm,dmT,zbw]) hl hK
theorem c_wMany {n:Nat}(hσ:σ[id]? = some (wO b))(hb:b.length<=536870912)(hn:n<=1073741824)(hK:K (.tup []) (σ.set id (wO (b++zbx n)))) :
  zP zbo [.box id 0,.d (.int .i64 n)] σ K:=by
 refine zec zrg fun hl=>?_;simp only[zkP,iN,bT,bF,eN];refine zG ?_;refine c_wNum (l:=[(n:Int)]) hσ hb (by simp) (by simp;omega) ?_;refine zG ?_;exact zeZ (by simp[zcm,dmT,zbw]) hl (zqd _ _) (by rw[show zS [(n:Int)]=zbx n by simp[zS]];exact hK)
theorem zAq {k d:Int}(hσ:σ[id]? = some (wO b))(hb:b.length<=536870912)(hc:zx k d=0)(hK:K (.tup []) (σ.set id (wO (b++zgp k d)))) :
  zP zaW [.box id 0,.agg [.d (.int .i64 k),.d (.int .i64 d)]] σ K:=by
 refine zja ziS.is rfl fun hl _=>ziS.goes ?_;have hid:=zY hσ;have hσ1:=fun τ=>zi (τ:=τ) hσ;simp only[zjc,iN,bT,bF,eN];refine zm hσ1 ?_;refine zyW (by omega) hc ?_;refine zm hσ1 ?_;rw[List.set_append_left _ _ hid];exact zkb hσ (by simp[zcm,dmT,zbw]) hl hK
theorem c_wBatch {l:List zp}(hσ:σ[id]? = some (wO b))(hb:b.length<=268435456)(hc:zD l=0)(hK:K (.tup []) (σ.set id (wO (b++zhi l)))) :
  zP zbv [.box id 0,.d (.slice (zbA l))] σ K:=by
 refine zja zhZ.is rfl fun hl _=>zhZ.goes ?_;have hid:=zY hσ;have hσ1:=fun τ=>zi (τ:=τ) hσ;simp only[zih,iN,bT,bF,eN];refine zm (zd hσ hσ1) ?_;refine c_PutBatchO hb (fun x hx=>Nat.le_trans ((zdI hc).1 x hx) (by omega)) hc ?_;refine zm (zd hσ hσ1) ?_;rw[List.set_append_left _ _ hid];exact zkb hσ (by simp[zcm,dmT,zbw]) hl hK
theorem c_wSigns {l:List zI}(hσ:σ[id]? = some (wO b))(hb:b.length<=268435456)(hc:∀e∈zco l,e=0)(hK:K (.tup []) (σ.set id (wO (b++zvv l)))) :
  zP zcL [.box id 0,.d (.slice (zat l))] σ K:=by
 refine zec znY fun hl=>?_;obtain⟨h13,hs⟩:=zzD hc;have hid:=zY hσ;have hll:(zat l).length=l.length:=List.length_map ..;simp only[zie,iN,bT,bF,eN];refine zm hll ?_;refine c_wMany (n:=l.length) hσ (by omega) (by omega) ?_;refine zm hll ?_;refine zn l.length (fun k vs s=>vs=[.d (.int .i64 k)]/\∃T,s=σ.set id (wO (b++(zbx l.length++((l.take k).map fun s=>zgp s.key s.dig).flatten)))++T) ⟨rfl,[],by simp⟩ ?_;rintro k vs s hk ⟨rfl,T,rfl⟩;obtain⟨O,hO⟩:∃O,wO (b++(zbx l.length++((l.take k).map fun s=>zgp s.key s.dig).flatten))=O:=⟨_,rfl⟩;rw[hO];by_cases hlt:k<l.length
 ·have hd:decide ((k:Int)<(l.length:Int))=true:=by simp;omega
  have hx:l[k]? = some l[k]:=by simp[hlt]
  have hxi:=hs _ (List.getElem_mem hlt);have hgx:=zQ (f:=zgo) hx;obtain⟨x,hxe⟩:∃x,l[k]=x:=⟨_,rfl⟩;rw[hxe]at hx hgx hxi;have hlen:(((l.take k).map fun s=>zgp s.key s.dig).flatten).length<=(l.take k).length*20:=zcA fun s hm=>zgw (hs s (List.mem_of_mem_take hm));have hlk:(l.take k).length=k:=by rw[List.length_take];omega
  have n1:=zj (n:=l.length) (by omega);obtain⟨S,hS⟩:∃S,σ.set id O++T=S:=⟨_,rfl⟩;have hSid:S[id]? = some O:=by rw[← hS];exact zi (zdr hσ)
  rw[hS];refine zdy (zd hd (zd hgx hll)) ?_;refine zAq (by rw[← hO]at hSid;exact zi hSid) (by simp only[List.length_append];omega) hxi ?_;refine zm (wkc k (by omega)) ?_;refine zaK.next hlt ⟨rfl,T++[.box [.d (.int .i64 x.key),.d (.int .i64 x.dig)]],?_⟩;rw[zcZ hx,← hS,List.append_assoc (σ.set id O),List.set_append_left _ _ (by simpa using hid),List.set_set];try simp
 ·have hd:decide ((k:Int)<(l.length:Int))=false:=by simp;omega
  rw[List.take_of_length_le (by omega)]at hO;subst hO;refine zm (zd hd hll) ?_;exact zeL (by simp[zcm,dmT,zbw]) hl (zqd _ _) hK
theorem c_wCert {c:zjs}(hσ:σ[id]? = some (wO b))(hb:b.length<=134217728)(hc:∀e∈zbz c,e=0)(hK:K (.tup []) (σ.set id (wO (b++zrt c)))) :
  zP zcg [.box id 0,zhJ c] σ K:=by
 refine zec zoH fun hl=>?_;have hid:=zY hσ;obtain⟨h1,h2,h3⟩:=cert_ok hc;have n1:=zj (n:=c.seq.toNat) (by omega);have n2:=zj (n:=c.dig.toNat) (by omega);have j:=zlE.first hσ (.box [.d (.int .i64 c.seq),.d (.int .i64 c.dig),.d (.slice (zat c.signs))]);simp only[zjd,iN,bT,bF,eN];refine zG ?_;refine c_wNum (l:=[c.seq,c.dig]) j.a (by omega) (by simp) (by simp;omega) ?_;have j:=j.set hid (wO (b++zS [c.seq,c.dig]));obtain⟨S,hS⟩:∃S,(σ++[AObj.box [.d (.int .i64 c.seq),.d (.int .i64 c.dig),.d (.slice (zat c.signs))]]).set id (wO (b++zS [c.seq,c.dig]))=S:=⟨_,rfl⟩;rw[hS]at j ⊢;have b:=j.b;refine zm b ?_;refine c_wSigns j.a (by simp[zS];omega) h3 ?_;refine zG ?_;exact(j.set hid _).done (zqd _ _) hl (by simpa [zS,zrt] using hK)
end
variable {σ:List AObj}
theorem zlE.trans {σ S S2:List AObj}{id:Nat}{B X O O':AObj}(h:zlE σ id B O S)(hid:id<σ.length)(h2:zlE S id X O' S2):zlE σ id B O' S2:=by
 obtain⟨_,_,τ,rfl⟩:=h2;exact(h.set hid O').app τ
section
variable {σ S:List AObj} {id:Nat} {B:AObj} {b:List UInt8} {K:KT} (j:zlE σ id B (wO b) S) (hid:id<σ.length)
include j hid
theorem zgC {l:List Int}(hb:b.length<=536870912)(hl0:l.length<=1000)(hi:∀x∈l,0<=x/\x<=9007199254740992)(hK:∀S,zlE σ id B (wO (b++zS l)) S->K (.tup []) S) :
  zP zJ [.box id 0,.d (.slice (zhV l))] S K:=c_wNum j.a hb hl0 hi (hK _ (j.set hid _))
theorem zvZ {n:Nat}(hb:b.length<=536870912)(hn:n<=1073741824)(hK:∀S,zlE σ id B (wO (b++zbx n)) S->K (.tup []) S) :
  zP zbo [.box id 0,.d (.int .i64 n)] S K:=c_wMany j.a hb hn (hK _ (j.set hid _))
theorem jw_sign {k d:Int}(hb:b.length<=536870912)(hc:zx k d=0)(hK:∀S,zlE σ id B (wO (b++zgp k d)) S->K (.tup []) S) :
  zP zaW [.box id 0,.agg [.d (.int .i64 k),.d (.int .i64 d)]] S K:=zAq j.a hb hc (hK _ (j.set hid _))
theorem zuW {l:List zp}(hb:b.length<=268435456)(hc:zD l=0)(hK:∀S,zlE σ id B (wO (b++zhi l)) S->K (.tup []) S) :
  zP zbv [.box id 0,.d (.slice (zbA l))] S K:=c_wBatch j.a hb hc (hK _ (j.set hid _))
theorem jw_signs {l:List zI}(hb:b.length<=268435456)(hc:∀e∈zco l,e=0)(hK:∀S,zlE σ id B (wO (b++zvv l)) S->K (.tup []) S) :
  zP zcL [.box id 0,.d (.slice (zat l))] S K:=c_wSigns j.a hb hc (hK _ (j.set hid _))
theorem jw_cert {c:zjs}(hb:b.length<=134217728)(hc:∀e∈zbz c,e=0)(hK:∀S,zlE σ id B (wO (b++zrt c)) S->K (.tup []) S) :
  zP zcg [.box id 0,zhJ c] S K:=c_wCert j.a hb hc (hK _ (j.set hid _))
end
theorem c_wBody {id:Nat}{b:List UInt8}{c:zbl}(hσ:σ[id]? = some (wO b))(hb:b.length<=67108864)(hc:∀e∈zej c,e=0){K:KT}(hK:K (.tup []) (σ.set id (wO (b++zuM c)))) :
  zP zdW [.box id 0,.agg (zbM c)] σ K:=by
 refine zec zoI fun hl=>?_;have hid:=zY hσ;have hpl:(zft c.above).length=c.above.length:=List.length_map ..;obtain⟨h1,h2,h3,h4,h5⟩:=body_ok hc;have n1:=zj (n:=c.view.toNat) (by omega);have n2:=zj (n:=c.src.toNat) (by omega);have n3:=zj (n:=c.above.length) (by omega);have n4:=zhI h3;simp only[zje,iN,bT,bF,eN,zl7];have j:=zlE.first hσ (.box (zbM c));refine zG ?_;refine zgC (l:=[c.view,c.src]) j hid (by omega) (by simp) (by simp;omega) fun S j=>?_;have b0:=j.b;refine zm b0 ?_;refine jw_cert (c:=c.cert) j hid (by simp[zS];omega) h3 fun S j=>?_;have b0:=j.b;refine zm (zd b0 hpl) ?_;refine zvZ (n:=c.above.length) j hid (by simp[zS];omega) (by omega) fun S j=>?_;have b0:=j.b;obtain⟨Q,hQ⟩:∃Q,b++zS [c.view,c.src]++zrt c.cert++zbx c.above.length=Q:=⟨_,rfl⟩;have hQl:Q.length<=67108864+400:=by rw[← hQ];simp[zS];omega
 rw[hQ]at j;refine zm (zd b0 hpl) ?_;refine zn c.above.length (fun k vs S=>vs=[.d (.int .i64 k)]/\zlE σ id (.box (zbM c)) (wO (Q++((c.above.take k).map zuy).flatten)) S) ⟨rfl,by simpa using j⟩ ?_;rintro k vs S hk ⟨rfl,j⟩;by_cases hlt:k<c.above.length
 ·have hd:decide ((k:Int)<(c.above.length:Int))=true:=by simp;omega
  have hx:c.above[k]? = some c.above[k]:=by simp[hlt]
  have hpx:=h5 _ (List.getElem_mem hlt);have hgx:=zQ (f:=zfx) hx;obtain⟨p,hp⟩:∃p,c.above[k]=p:=⟨_,rfl⟩;rw[hp]at hx hgx hpx;have hlen:(((c.above.take k).map zuy).flatten).length<=(c.above.take k).length*4400:=zcA fun s hm=>zvB (h5 s (List.mem_of_mem_take hm));have hlk:(c.above.take k).length=k:=by rw[List.length_take];omega
  obtain⟨R,hR⟩:∃R,Q++((c.above.take k).map zuy).flatten=R:=⟨_,rfl⟩;have hRl:R.length<=67108864+36000:=by rw[← hR,List.length_append];omega
  rw[hR]at j;obtain⟨p1,p2,p3,p4,p5,p6⟩:=prep_ok hpx;have m1:=zj (n:=p.view.toNat) (by omega);have m2:=zj (n:=p.seq.toNat) (by omega);have m3:=zj (n:=p.dig.toNat) (by omega);have m4:=zgw p4;have m5:=zpp p5;have hS:id<S.length:=zY j.a;have i:=zlE.first j.a (.box (prepL p));refine zdy (zd hd (zd hgx hpl)) ?_;refine zgC (l:=[p.view,p.seq,p.dig]) i hS (by omega) (by simp) (by simp;omega) fun S2 i=>?_;have b0:=i.b;refine zm b0 ?_;refine jw_sign i hS (by simp[zS];omega) p4 fun S2 i=>?_;have b0:=i.b;refine zm b0 ?_;refine jw_signs i hS (by simp[zS];omega) p5 fun S2 i=>?_;have b0:=i.b;refine zm b0 ?_;refine zuW i hS (by simp[zS];omega) p6 fun S2 i=>?_;refine zm (wkc k (by omega)) ?_;refine zaK.next hlt ⟨rfl,(j.trans hid i).as ?_⟩;rw[zcZ hx,← hR];simp[zuy,zS]
 ·have hd:decide ((k:Int)<(c.above.length:Int))=false:=by simp;omega
  rw[show c.above.take k=c.above from List.take_of_length_le (by omega)]at j;refine zm (zd hd hpl) ?_;exact(j.as (by rw[← hQ];simp[zuM,zS])).done (zqd _ _) hl hK
theorem c_wChange {id:Nat}{b:List UInt8}{c:zbl}(hσ:σ[id]? = some (wO b))(hb:b.length<=67108864)(hc:∀e∈zaT c,e=0){K:KT}(hK:K (.tup []) (σ.set id (wO (b++zfQ c)))) :
  zP zeW [.box id 0,.agg (zbM c)] σ K:=by
 refine zec znm fun hl=>?_;have hid:=zY hσ;obtain⟨h1,h2⟩:=ziU hc;have n1:=zsu h1;simp only[zhQ,iN,bT,bF,eN];have j:=zlE.first hσ (.box (zbM c));refine zG ?_;refine c_wBody (c:=c) j.a hb h1 ?_;have j:=j.set hid (wO (b++zuM c));obtain⟨S,hS⟩:∃S,(σ++[AObj.box (zbM c)]).set id (wO (b++zuM c))=S:=⟨_,rfl⟩;rw[hS]at j ⊢;have b0:=j.b;refine zm b0 ?_;refine jw_sign j hid (by simp;omega) h2 fun S j=>?_;refine zG ?_;exact(j.as (by simp[zfQ])).done (zqd _ _) hl hK
end Go.Proofs.YtdgcepphjnoalaaGreat

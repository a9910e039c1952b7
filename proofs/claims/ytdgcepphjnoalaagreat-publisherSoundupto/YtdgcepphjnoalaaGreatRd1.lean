/- Contracts: the reader's small methods. -/
import Derived.Test.YtdgcepphjnoalaaGreatSh
import Derived.Test.YtdgcepphjnoalaaGreatSpTab
import Derived.Test.YtdgcepphjnoalaaGreatOpC
import Derived.Test.YtdgcepphjnoalaaGreatCk4
set_option linter.all false
set_option maxRecDepth 100000
namespace Go.Proofs.YtdgcepphjnoalaaGreat
open Go.AW
def Cell (c:AV) (B:List UInt8):Prop:=c=.d (.slice (bcs B))∨∃t,c=.own t (bcs B)
variable {σ:List AObj}
theorem zrJ {n:Int}(h:0<=n)(h2:n<9223372036854775808):IntKind.u64.wrap n=(n.toNat:Int):=by
 obtain⟨m,rfl⟩:=Int.eq_ofNat_of_zero_le h;rw[Int.toNat_natCast];exact zdQ (by omega)
theorem bytesE (s:List UInt8):s.map zch=bcs s:=rfl
theorem gq22 {A P Q:Prop}(a:A)(h:Q)(e:A->P=Q:=by intro a;simp -dsimp only[↓zlC,↓zbR,↓zeb,↓zlD,↓zlu,↓zls,↓zlv,↓zlt,↓zeg,↓zec,↓zeh,↓zed,↓zlw,↓zdX,↓zei,↓zee,↓zej,↓zef,↓zlq,↓zlA,↓zdW,↓zem,↓zli,↓zlh,↓zln,iN,bT,bF,eN,↓zev,↓unC,↓zaC,↓zai,↓zaj,↓zav,↓zaW,↓zah,↓zgy,↓zaw,↓zbd,↓zad,↓ze,↓zl,↓zbg,↓zc,↓zaV,↓zN,↓zbS,↓zcl,↓zf,↓zF,↓zp,↓zM,↓zaB,↓zgF,↓zhG,↓zbc,↓zbz,↓zcf,↓zcz,↓zdj,↓zJ,↓zbb,↓zak,↓zO,↓zaU,zho,zdP,zdy,unA,zgu,bnd,ziP,zaO,zL,zhY,dm,dm1,zH,zaJ,zjT,zjS,keepO,Q0,Q1,Q2,Q3,Q4,Q5,zba,zA,zB,zX,zaa,Q6,Q7,Q8,Q9,Q10,Q11,Q12,Q13,Q14,Nat.reduceAdd,Q15,Int.reduceToNat,Q16,Q17,Q18,Q19,Q20,reduceIte,Q21,Q22,zy,rep,zaq,zhV,toD,zaD,Q23,Q24,Q25,Q26,Q27,Q28,Nat.reduceLeDiff,Q29,Nat.reduceSub,Q30,Q31,Q32,sc,Q33,Q34,Q35,Bool.and_false,Bool.and_self,Bool.false_and,Bool.not_false,Bool.not_true,Bool.true_and,Int.toNat_natCast,Int.toNat_zero,List.drop_zero,List.length_map,List.length_nil,List.nil_append,List.take_length,Nat.sub_zero,Nat.zero_add,Option.isSome_none,Option.isSome_some,Option.map_none,Option.map_some,zam,beq_self_eq_true,bne_self_eq_false,bytesE,zcj,zhL,zag,zdd,zsi,zce,zow,opA,opD,zfy,zgo,zay,a];rfl):P:=(e a).mpr h
theorem c_Put {b:List UInt8}{o:TOp}(hb:b.length<=268435456)(ho:zmW o<=268435456){K:KT}(hK:K (.d (.slice (bcs (b++if zaM zdY o=0 then opB o else [])))) σ) :
  zP zAd [.d (.slice (bcs b)),opA o] σ K:=by
 refine zen e_op_Put fun hl=>?_;have hsz:=ho;simp only[zmW]at hsz;have hrl:=znb o.recs;simp only[S_op_Put,iN,bT,bF,eN,opA];(refine gq4 ?_;try with_reducible exact True.intro);refine zjW ziy (by simp[bcs];omega) ?_;(refine gq4 ?_;try with_reducible exact True.intro);refine zxc (o:=o) (by omega) (by omega) (by omega) ?_;(refine gq4 ?_;try with_reducible exact True.intro);refine zV (fun h=>?_) (fun h=>?_)
 ·refine zu hl ?_;(try simp only[decide_eq_true_eq,decide_eq_false_iff_not,beq_iff_eq,beq_eq_false_iff_ne,bne_iff_ne,ne_eq,Bool.not_eq_true',Bool.not_eq_false',bne_eq_false_iff_eq]at *);rw[if_neg h,List.append_nil]at hK;exact hK
 have hc:zaM zdY o=0:=by exact zou
 obtain⟨k0,k4,o0,o1,hon⟩:=zvv hc;rw[if_pos hc]at hK;have hkn:=zj (n:=o.kind.toNat) (by omega);have hon':=zj (n:=o.offset.toNat) (by omega);have hrn:=zj (n:=o.recs.length) (by omega);have htp:=zdh (x:=o.topic) (by omega);have hgp:=zdh (x:=o.group) (by omega);(refine gq6 (zrJ k0 (by omega)) ?_;try with_reducible exact True.intro);refine zfv (by omega) (by omega) ?_;have wo:=zrJ o0 (by omega:o.offset<9223372036854775808);have wl:IntKind.u64.wrap ((zdv o.recs).length:Int)=(o.recs.length:Int):=by rw[zy];exact zdQ (by omega)
 have wl':IntKind.u64.wrap (o.recs.length:Int)=(o.recs.length:Int):=zdQ (by omega);repeat' first
  | (refine gq22 (zd wo (zd wl wl')) ?_;try with_reducible exact True.intro)
  | (refine zV (fun h=>?_) (fun h=>?_)<;>(try rw[h]))
  | ((with_reducible refine And.intro ?_ ?_);focus(first|omega|rfl|decide))
  | refine zpQ (by omega) (by simp only[zkk,List.length_append]at *;omega) ?_
  | refine zfv (by omega) (by simp only[zkk,List.length_append]at *;omega) ?_
 all_goals first
  | (exfalso;exact zou)
  | (
   refine zu hl ?_
   (try simp only[decide_eq_true_eq,decide_eq_false_iff_not,beq_iff_eq,beq_eq_false_iff_ne,bne_iff_ne,ne_eq,Bool.not_eq_true',Bool.not_eq_false',bne_eq_false_iff_eq]at *)
   simp only[zck,dmT,dm,dm1]
   (first|rw[opB_0 (by omega)]at hK|rw[opB_1 (by omega)]at hK|rw[opB_3 (by omega)]at hK|rw[opB_4 (by omega)]at hK)
   exact hK)
  | skip
 have hk2:o.kind=2:=by exact zou
 rw[opB_2 hk2]at hK;refine zn o.recs.length (fun k vs s=>∃t τ,vs=[.own t (bcs (b++(zbt o.kind.toNat++(zbt o.topic.length++(o.topic++(zbt o.recs.length++zrT (o.recs.take k))))))),.d (.int .i64 k)]/\s=σ++τ) ⟨σ.length+4,_,by rw[List.take_zero,show zrT []=[]from rfl,List.append_nil];rfl,rfl⟩ ?_;rintro k vs s hk ⟨t,τ,rfl,rfl⟩;(refine gq4 ?_;try with_reducible exact True.intro);refine zV (fun h=>?_) (fun h=>?_)
 ·have hka:k<o.recs.length:=by exact zou
  have hx:o.recs[k]? = some o.recs[k]:=by simp[hka]
  have hle:=rec_le (List.getElem_mem hka);have htl:=zlU o.recs (by omega) k;(refine gq6 (zgA hx) ?_;try with_reducible exact True.intro);refine And.intro (by omega) (zpQ (by omega) (by simp only[zkk,List.length_append]at *;omega) ?_);(refine gq4 ?_;try with_reducible exact True.intro);refine zaF.next hka ⟨σ.length+τ.length,_,?_,rfl⟩;rw[zaT (by omega) (by omega),zyt hx];simp only[zkk,List.append_assoc];rfl
 ·have hke:k=o.recs.length:=by exact zou
  subst hke;refine zu hl ?_;rw[List.take_length];exact hK
theorem c_rPut {b:List UInt8}{o:TOp}(hb:b.length<=268435456)(ho:zmW o<=268435456){K:KT}(hK:K (.d (.slice (bcs (b++if zaM zdY o=0 then opB o else [])))) σ) :
  zP zwa [.d (.slice (bcs b)),opA o] σ K:=by
 refine zen e_r06_Put fun hl=>?_;have hsz:=ho;simp only[zmW]at hsz;have hrl:=znb o.recs;simp only[S_r06_Put,iN,bT,bF,eN,opA];(refine gq4 ?_;try with_reducible exact True.intro);refine zAH (o:=o) (by omega) (by omega) (by omega) ?_;(refine gq4 ?_;try with_reducible exact True.intro);refine zV (fun h=>?_) (fun h=>?_)
 ·refine zu hl ?_;(try simp only[decide_eq_true_eq,decide_eq_false_iff_not,beq_iff_eq,beq_eq_false_iff_ne,bne_iff_ne,ne_eq,Bool.not_eq_true',Bool.not_eq_false',bne_eq_false_iff_eq]at *);rw[if_neg h,List.append_nil]at hK;exact hK
 have hc:zaM zdY o=0:=by exact zou
 obtain⟨k0,k4,o0,o1,hon⟩:=zvv hc;rw[if_pos hc]at hK;have hkn:=zj (n:=o.kind.toNat) (by omega);have hon':=zj (n:=o.offset.toNat) (by omega);have hrn:=zj (n:=o.recs.length) (by omega);have htp:=zdh (x:=o.topic) (by omega);have hgp:=zdh (x:=o.group) (by omega);(refine gq6 (zrJ k0 (by omega)) ?_;try with_reducible exact True.intro);refine c_fields ?_;(refine gq6 (zrJ k0 (by omega)) ?_;try with_reducible exact True.intro);refine zeL (by omega) (by omega) ?_;have wo:=zrJ o0 (by omega:o.offset<9223372036854775808);have wl:IntKind.u64.wrap ((zdv o.recs).length:Int)=(o.recs.length:Int):=by rw[zy];exact zdQ (by omega)
 have wl':IntKind.u64.wrap (o.recs.length:Int)=(o.recs.length:Int):=zdQ (by omega);have f1:zoH o.kind=true↔o.kind≠0:=by simp[zoH];omega
 have f2:zsn o.kind=true↔o.kind=3:=by simp[zsn]
 have f3:fOff o.kind=true↔(o.kind=3∨o.kind=4):=by simp[fOff]
 have f4:zAp o.kind=true↔o.kind=2:=by simp[zAp]
 repeat' first
  | (refine gq22 (zd wo (zd wl wl')) ?_;try with_reducible exact True.intro)
  | (refine zV (fun h=>?_) (fun h=>?_)<;>(try rw[h]))
  | ((with_reducible refine And.intro ?_ ?_);focus(first|omega|rfl|decide))
  | refine zha (by omega) (by simp only[zkk,List.length_append]at *;omega) ?_
  | refine zeL (by omega) (by simp only[zkk,List.length_append]at *;omega) ?_
 all_goals first
  | (exfalso;clear hK;grind)
  | (
   refine zu hl ?_
   (try simp only[decide_eq_true_eq,decide_eq_false_iff_not,beq_iff_eq,beq_eq_false_iff_ne,bne_iff_ne,ne_eq,Bool.not_eq_true',Bool.not_eq_false',bne_eq_false_iff_eq]at *)
   simp only[zck,dmT,dm,dm1]
   (first|rw[opB_0 (by grind)]at hK|rw[opB_1 (by grind)]at hK|rw[opB_3 (by grind)]at hK|rw[opB_4 (by grind)]at hK)
   exact hK)
  | skip
 have hk2:o.kind=2:=by grind
 rw[opB_2 hk2]at hK;refine zn o.recs.length (fun k vs s=>∃t τ,vs=[.own t (bcs (b++(zbt o.kind.toNat++(zbt o.topic.length++(o.topic++(zbt o.recs.length++zrT (o.recs.take k))))))),.d (.int .i64 k)]/\s=σ++.box [.d (.int .i64 o.kind),.d (.str o.topic),.d (.str o.group),.d (.int .i64 o.offset),.d (.slice (zdv o.recs))]::τ)
  ⟨σ.length+3,_,by rw[List.take_zero,show zrT []=[]from rfl,List.append_nil];rfl,rfl⟩ ?_
 rintro k vs s hk ⟨t,τ,rfl,rfl⟩;(refine gq4 ?_;try with_reducible exact True.intro);refine zV (fun h=>?_) (fun h=>?_)
 ·have hka:k<o.recs.length:=by exact zou
  have hx:o.recs[k]? = some o.recs[k]:=by simp[hka]
  have hle:=rec_le (List.getElem_mem hka);have htl:=zlU o.recs (by omega) k;(refine gq6 (zgA hx) ?_;try with_reducible exact True.intro);refine And.intro (by omega) (zha (by omega) (by simp only[zkk,List.length_append]at *;omega) ?_);(refine gq4 ?_;try with_reducible exact True.intro);refine zaF.next hka ⟨σ.length+(τ.length+1),_,?_,rfl⟩;rw[zaT (by omega) (by omega),zyt hx];simp only[zkk,List.append_assoc];rfl
 ·have hke:k=o.recs.length:=by exact zou
  subst hke;refine zu hl ?_;rw[List.take_length];exact hK
variable {σ:List AObj}
def zsh (c:Int):Int:=if c<0∨c≥8 then -1 else 13+c
theorem c_rqKey {c:Int}{K:KT}(hK:K (.d (.int .i64 (zsh c))) σ):zP zne [.d (.int .i64 c)] σ K:=by
 refine zey zAs fun hl=>?_;simp only[zsI,iN,bT,bF,eN];(repeat'(first|(refine gq4 ?_;try with_reducible exact True.intro)|(refine zV (fun h=>?_) (fun h=>?_)<;>(try rw[h]))|((with_reducible refine And.intro ?_ ?_);focus(first|omega|rfl|decide))));all_goals(
  refine zu hl ?_
  (try simp only[decide_eq_true_eq,decide_eq_false_iff_not,beq_iff_eq,beq_eq_false_iff_ne,bne_iff_ne,ne_eq,Bool.not_eq_true',Bool.not_eq_false',bne_eq_false_iff_eq]at *)
  unfold zsh at hK)
 ·rw[if_pos (by omega)]at hK;exact hK
 ·rw[if_pos (by omega)]at hK;exact hK
 ·rw[if_neg (by omega)]at hK;rw[zaT (by omega) (by omega)];exact hK
theorem sizes {x:zr}(h:zmW x.op<=20971520):okO x.op:=by
 have h0:=h;unfold zmW at h;refine⟨by omega,by omega,?_,fun r hr=>?_⟩
 ·have:=znb x.op.recs;omega
 ·have:=rec_le hr;omega
theorem c_rqBytes {x:zr}(hx:zmW x.op<=20971520){K:KT}(hK:K (.tup [.d (.slice (bcs (zbU x))),.d (.int .i64 (zT x))]) σ):zP zhv [reqA x] σ K:=by
 refine zey zww fun hl=>?_;have hsz:=sizes hx;simp only[zpb,iN,bT,bF,eN,reqA];refine zG ?_;refine c_rqCheck (x:=x) hsz ?_;by_cases hc:zT x=0
 ·obtain⟨c0,c8,t1,t2,ho⟩:=req_ok hc;have hb:(zT x != 0)=false:=by simpa using hc
  have n1:=zj (n:=x.client.toNat) (by omega);have n2:=zj (n:=x.time.toNat) (by omega);have w1:IntKind.u64.wrap x.client=((x.client.toNat:Nat):Int):=by
   rw[show x.client=((x.client.toNat:Nat):Int) by omega,zdQ (by omega)];rfl
  have w2:IntKind.u64.wrap x.time=((x.time.toNat:Nat):Int):=by
   rw[show x.time=((x.time.toNat:Nat):Int) by omega,zdQ (by omega)];rfl
  rw[hc,zbU,if_pos hc]at hK;refine zm (zd hb (zd w1 w2)) ?_;refine zfv (b:=[]) (by omega) (by simp) ?_;refine zm (zd w1 w2) ?_;refine zfv (by omega) (by first|omega|(simp;omega)) ?_;refine zm (zd w1 w2) ?_;refine c_Put (o:=x.op) (by first|omega|(simp;omega)) (by omega) ?_;refine zG ?_;refine zu hl ?_;rw[if_pos ho];exact hK
 ·have hb:(zT x != 0)=true:=by simpa using hc
  rw[zbU,if_neg hc]at hK;refine zm hb ?_;refine zu hl ?_;exact hK
theorem zzc {x:zr}(hx:zmW x.op<=20971520){K:KT}(hK:K (.tup [.d (.slice (bcs (zbU x))),.d (.int .i64 (zT x))]) σ):zP znh [reqA x] σ K:=by
 refine zey e_r08_Bytes fun hl=>?_;have hsz:=sizes hx;simp only[zxt,iN,bT,bF,eN,reqA];refine zG ?_;refine zzb (x:=x) hsz ?_;by_cases hc:zT x=0
 ·obtain⟨c0,c8,t1,t2,ho⟩:=req_ok hc;have hb:(zT x != 0)=false:=by simpa using hc
  have n1:=zj (n:=x.client.toNat) (by omega);have n2:=zj (n:=x.time.toNat) (by omega);have w1:IntKind.u64.wrap x.client=((x.client.toNat:Nat):Int):=by
   rw[show x.client=((x.client.toNat:Nat):Int) by omega,zdQ (by omega)];rfl
  have w2:IntKind.u64.wrap x.time=((x.time.toNat:Nat):Int):=by
   rw[show x.time=((x.time.toNat:Nat):Int) by omega,zdQ (by omega)];rfl
  rw[hc,zbU,if_pos hc]at hK;refine zm (zd hb (zd w1 w2)) ?_;refine zeL (b:=[]) (by omega) (by simp) ?_;refine zm (zd w1 w2) ?_;refine zeL (by omega) (by first|omega|(simp;omega)) ?_;refine zm (zd w1 w2) ?_;refine c_rPut (o:=x.op) (by first|omega|(simp;omega)) (by omega) ?_;refine zG ?_;refine zu hl ?_;rw[if_pos ho];exact hK
 ·have hb:(zT x != 0)=true:=by simpa using hc
  rw[zbU,if_neg hc]at hK;refine zm hb ?_;refine zu hl ?_;exact hK
theorem ziw {b:List UInt8}{k d:Int}(hb:b.length<=1073741700){K:KT}(hK:K (.d (.slice (bcs (b++zcu k d)))) σ) :
  zP zdi [.d (.slice (bcs b)),.agg [.d (.int .i64 k),.d (.int .i64 d)]] σ K:=by
 refine zen zAw fun hl=>?_;simp only[zsM,iN,bT,bF,eN];refine zG ?_;refine zbH ?_;by_cases hc:zx k d=0
 ·obtain⟨k0,k1,d0,d1⟩:=sign_ok hc;have hq:(zx k d != 0)=false:=by simpa using hc
  have n1:=zj (n:=k.toNat) (by omega);have w1:IntKind.u64.wrap k=((k.toNat:Nat):Int):=by
   rw[show k=((k.toNat:Nat):Int) by omega,zdQ (by omega)];rfl
  have w2:IntKind.u64.wrap d=((d.toNat:Nat):Int):=by
   rw[show d=((d.toNat:Nat):Int) by omega,zdQ (by omega)];rfl
  rw[zcu,if_pos hc]at hK;refine zm (zd hq (zd w1 w2)) ?_;refine zeL (by omega) (by omega) ?_;refine zm (zd w1 w2) ?_;refine zeL (by omega) (by first|omega|(simp;omega)) ?_;refine zG ?_;refine zu hl ?_;exact hK
 ·have hq:(zx k d != 0)=true:=by simpa using hc
  rw[zcu,if_neg hc,List.append_nil]at hK;refine zm hq ?_;refine zu hl ?_;exact hK
theorem znv {b:List UInt8}{l:List zr}(hb:b.length<=268435456)(hs:∀x∈l,zmW x.op<=20971520)(hl0:l.length<=1073741824){K:KT}(hK:K (.d (.slice (bcs (b++zdI l)))) σ) :
  zP zfl [.d (.slice (bcs b)),.d (.slice (zbA l))] σ K:=by
 refine zen zxY fun hl=>?_;have hok:okB l:=⟨hl0,fun x hx=>sizes (hs x hx)⟩;simp only[zqH,iN,bT,bF,eN];refine zG ?_;refine zhN hok ?_;by_cases hc:zD l=0
 ·have hq:(zD l != 0)=false:=by simpa using hc
  obtain⟨h4,hm,_⟩:=zjX hc;have n1:=zj (n:=l.length) (by omega);have w1:IntKind.u64.wrap (l.length:Int)=(l.length:Int):=zdQ (by omega);rw[zdI,if_pos hc]at hK;refine zm (zd hq w1) ?_;refine zeL (by omega) (by omega) ?_;refine zG ?_;refine zlo l.length (fun k vs s=>(∃T,s=σ++T)/\vs=[.d (.slice (bcs (b++(zbt l.length++zdJ (l.take k))))),.d (.int .i64 k)])
   (.data 0 _ _ rfl rfl (.refl _ _)) ⟨⟨_,rfl⟩,by simp[zdJ]⟩ ?_
  rintro k vs s hk ⟨⟨T,rfl⟩,rfl⟩;by_cases hlt:k<l.length
  ·have hd:decide ((k:Int)<(l.length:Int))=true:=by simp;omega
   have hx:l[k]? = some l[k]:=by simp[hlt]
   have hgx:=zQ (f:=zay) hx;have hxs:=hs _ (List.getElem_mem hlt);have hxm:=hm _ (List.getElem_mem hlt);obtain⟨x,hxe⟩:∃x,l[k]=x:=⟨_,rfl⟩;rw[hxe]at hx hgx hxs hxm;have hbl:=zxd hs hc k;have hrl:=zuc hxs;have hpl:=zdh (x:=zbU x) (by omega);obtain⟨S,hS⟩:∃S,σ++T=S:=⟨_,rfl⟩;rw[hS];refine zdO (zd hd hgx) ?_;refine zzc (x:=x) hxs ?_;refine zdO (zd hd hgx) ?_;refine zha (by omega) (by simp;omega) ?_;refine zdO (zd hd hgx) ?_;refine ziw (by simp only[zkk,List.length_append]at hpl ⊢;omega) ?_;refine zm (wk1 k (by omega)) ?_;refine zaF.next hlt ⟨⟨_,by rw[← hS,List.append_assoc]⟩,?_⟩;rw[zoT hx];simp[oneB,zkk,zbU,zcu,hxm.1,hxm.2]
  ·have hd:decide ((k:Int)<(l.length:Int))=false:=by simp;omega
   rw[List.take_of_length_le (by omega)];refine zm hd ?_;refine zu hl ?_;exact hK
 ·have hq:(zD l != 0)=true:=by simpa using hc
  rw[zdI,if_neg hc,List.append_nil]at hK;refine zm hq ?_;refine zu hl ?_;exact hK
variable {σ:List AObj}
theorem zzi {b:List UInt8}{k d:Int}(hb:b.length<=1073741700)(hc:zx k d=0){K:KT}(hK:K (.own σ.length (bcs (b++zgp k d))) (σ++[.tok 1 (b++zgp k d).length])) :
  zP zfY [.d (.slice (bcs b)),.agg [.d (.int .i64 k),.d (.int .i64 d)]] σ K:=by
 refine zbM zmA.is rfl (fun s=>[s.length-1]) fun hl _=>zmA.goes ?_;obtain⟨k0,k1,d0,d1⟩:=sign_ok hc;have hq:(zx k d != 0)=false:=by simpa using hc
 have n1:=zj (n:=k.toNat) (by omega);have w1:IntKind.u64.wrap k=((k.toNat:Nat):Int):=by
  rw[show k=((k.toNat:Nat):Int) by omega,zdQ (by omega)];rfl
 have w2:IntKind.u64.wrap d=((d.toNat:Nat):Int):=by
  rw[show d=((d.toNat:Nat):Int) by omega,zdQ (by omega)];rfl
 simp only[zmK,iN,bT,bF,eN];refine zG ?_;refine zbL ?_;refine zm (zd hq (zd w1 w2)) ?_;refine zfv (by omega) (by omega) ?_;refine zm (zd w1 w2) ?_;refine zfv (by omega) (by simp;omega) ?_;refine zG ?_;refine zoJ (t:=σ.length+2) (sz:=1) (n:=(b++zgp k d).length) (by simp) hl (by omega) ?_ ?_
 ·rw[zA];simp[zgp,Nat.add_assoc]
 ·exact hK
theorem c_partsPutO {b:List UInt8}{l:List zr}(hb:b.length<=268435456)(hs:∀x∈l,zmW x.op<=20971520)(hc:zD l=0){K:KT}(hK:K (.own σ.length (bcs (b++zhj l))) (σ++[.tok 1 (b++zhj l).length])) :
  zP zgW [.d (.slice (zbA l)),.d (.slice (bcs b))] σ K:=by
 refine zbM zkD.is rfl (fun s=>[s.length-1]) fun hl _=>zkD.goes ?_;obtain⟨h4,hm,_⟩:=zjX hc;have n1:=zj (n:=l.length) (by omega);have w1:IntKind.u64.wrap (l.length:Int)=(l.length:Int):=zdQ (by omega);simp only[zkJ,iN,bT,bF,eN,zl1];refine zm w1 ?_;refine zfv (by omega) (by omega) ?_;refine zG ?_;refine zn l.length (fun k vs s=>∃T,s=σ++T++[.tok 1 (b++(zbt l.length++zdJ (l.take k))).length]/\vs=[.own (σ++T).length (bcs (b++(zbt l.length++zdJ (l.take k)))),.d (.int .i64 k)])
  ⟨[],by simp[zdJ],by simp[zdJ]⟩ ?_
 rintro k vs s hk ⟨T,rfl,rfl⟩;by_cases hlt:k<l.length
 ·have hd:decide ((k:Int)<(l.length:Int))=true:=by simp;omega
  have hx:l[k]? = some l[k]:=by simp[hlt]
  have hgx:=zQ (f:=zay) hx;have hxs:=hs _ (List.getElem_mem hlt);have hxm:=hm _ (List.getElem_mem hlt);obtain⟨x,hxe⟩:∃x,l[k]=x:=⟨_,rfl⟩;rw[hxe]at hx hgx hxs hxm;have hbl:=zxd hs hc k;have hrl:=zuc hxs;have hpl:=zdh (x:=zbU x) (by omega);obtain⟨t,ht⟩:∃t,(σ++T).length=t:=⟨_,rfl⟩;obtain⟨S,hS⟩:∃S,σ++T++[AObj.tok 1 (b++(zbt l.length++zdJ (l.take k))).length]=S:=⟨_,rfl⟩;have hS2:S=σ++(T++[AObj.tok 1 (b++(zbt l.length++zdJ (l.take k))).length]):=by rw[← hS,List.append_assoc]
  rw[ht,hS];refine zdO (zd hd hgx) ?_;refine c_rqBytes (x:=x) hxs ?_;refine zdO (zd hd hgx) ?_;refine zpQ (by omega) (by simp;omega) ?_;refine zdO (zd hd hgx) ?_;refine zzi (by simp only[zkk,List.length_append]at hpl ⊢;omega) hxm.2 ?_;refine zm (wk1 k (by omega)) ?_;have hwl:(zdJ (l.take (k+1))).length=(zdJ (l.take k)).length+((zbt (zbU x).length).length+((zbU x).length+(zgp x.key x.dig).length)):=by
   rw[zoT hx];simp[oneB,zkk,zbU,hxm.1,Nat.add_assoc]
  have hw:b++(zbt l.length++zdJ (l.take (k+1)))=b++(zbt l.length++(zdJ (l.take k)++(zbt (zbU x).length++(zbU x++zgp x.key x.dig)))):=by
   rw[zoT hx];simp[oneB,zkk,zbU,hxm.1]
  refine zaF.next hlt ⟨T++[AObj.tok 1 (b++(zbt l.length++zdJ (l.take k))).length]++[AObj.box [.d (.int .i64 x.client),.d (.int .i64 x.time),.d (.int .i64 x.op.kind),.d (.str x.op.topic),.d (.str x.op.group),.d (.int .i64 x.op.offset),.d (.slice (zdv x.op.recs)),.d (.int .i64 x.key),.d (.int .i64 x.dig)],.tok 1 (b++(zbt l.length++(zdJ (l.take k)++(zbt (zbU x).length++zbU x)))).length],?_,?_⟩
  ·simp only[hw,hS2];simp[Nat.add_assoc,hwl]
  ·simp only[hw,hS2];simp[Nat.add_assoc]
 ·have hd:decide ((k:Int)<(l.length:Int))=false:=by simp;omega
  rw[List.take_of_length_le (by omega)];simp only[List.append_assoc];refine zm hd ?_;refine zoJ (t:=σ.length+T.length) (sz:=1) (n:=(b++zhj l).length) ?_ hl (by omega) ?_ ?_
  ·simp only[List.length_append,List.length_cons,List.length_nil];congr 1
  ·rw[zA,zB];simp[zhj]
  ·exact hK
theorem c_PutBatchO {b:List UInt8}{l:List zr}(hb:b.length<=268435456)(hs:∀x∈l,zmW x.op<=20971520)(hc:zD l=0){K:KT}(hK:K (.own σ.length (bcs (b++zhj l))) (σ++[.tok 1 (b++zhj l).length])) :
  zP zht [.d (.slice (bcs b)),.d (.slice (zbA l))] σ K:=by
 refine zbM zlx.is rfl (fun s=>[s.length-1]) fun hl _=>zlx.goes ?_;have h4:=(zjX hc).1;have hok:okB l:=⟨by omega,fun x hx=>sizes (hs x hx)⟩;have hq:(zD l != 0)=false:=by simpa using hc
 simp only[zlG,iN,bT,bF,eN];refine zG ?_;refine ziY hok ?_;refine zm hq ?_;refine c_partsPutO hb hs hc ?_;refine zG ?_;refine zoJ (t:=σ.length) (sz:=1) (n:=(b++zhj l).length) (by simp) hl (by omega) ?_ ?_
 ·rw[zB];simp
 ·exact hK
structure zlR (σ:List AObj) (id:Nat) (B O:AObj) (S:List AObj):Prop where
 a:S[id]? = some O
 b:S[σ.length]? = some B
 pre:∃τ,S=σ.set id O++τ
section
variable {σ S:List AObj} {id:Nat} {B O O':AObj}
theorem zlR.first (hσ:σ[id]? = some O)(B:AObj):zlR σ id B O (σ++[B]):=⟨zi hσ,by rw[zB];rfl,[B],by rw[zbQ hσ]⟩
theorem zlR.set (h:zlR σ id B O S)(hid:id<σ.length)(O':AObj):zlR σ id B O' (S.set id O'):=by
 obtain⟨h1,h2,τ,h3⟩:=h;refine⟨List.getElem?_set_self (zZ h1),(List.getElem?_set_ne (by omega)).trans h2,τ,?_⟩;rw[h3,List.set_append_left _ _ (by simpa using hid),List.set_set]
theorem zlR.app (h:zlR σ id B O S)(τ:List AObj):zlR σ id B O (S++τ):=by
 obtain⟨h1,h2,τ',h3⟩:=h;exact⟨zi h1,zi h2,τ'++τ,by rw[h3,List.append_assoc]⟩
theorem zlR.done {K:KT}(h:zlR σ id B O S)(hO:ztV σ.length O)(hl:zhm σ.length σ)(hK:K (.tup []) (σ.set id O)):AW.Ends σ.length K (some []) S:=by
 obtain⟨_,_,τ,rfl⟩:=h;exact zeK (by simp[zck,dmT,zbw]) hl hO hK
theorem zlR.as (h:zlR σ id B O S)(e:O=O'):zlR σ id B O' S:=e▸h
end
abbrev wO (b:List UInt8):AObj:=.box [.d (.slice (bcs b))]
theorem zqm (n:Nat)(b:List UInt8):ztV n (wO b):=by
 intro c hc;simp only[List.mem_cons,List.not_mem_nil,or_false]at hc;subst hc;exact .d _
theorem w64 {x:Int}(h0:0<=x)(h1:x<=9007199254740992):IntKind.u64.wrap x=((x.toNat:Nat):Int):=by
 rw[show x=((x.toNat:Nat):Int) by omega,zdQ (by omega)];rfl
section
variable {σ:List AObj} {id:Nat} {b:List UInt8} {K:KT}
theorem c_wNum {l:List Int}(hσ:σ[id]? = some (wO b))(hb:b.length<=536870912)(hl0:l.length<=1000)(hi:∀x∈l,0<=x/\x<=9007199254740992)(hK:K (.tup []) (σ.set id (wO (b++zS l)))) :
  zP zI [.box id 0,.d (.slice (zgH l))] σ K:=by
 refine zja zlz.is rfl fun hl _=>zlz.goes ?_;have hid:=zZ hσ;simp only[zlK,iN,bT,bF,eN];refine zG ?_;refine zn l.length (fun k vs s=>vs=[.d (.int .i64 k)]/\∃c T,s=σ.set id (.box [c])++T/\(c=.d (.slice (bcs (b++zS (l.take k))))∨∃t,c=.own t (bcs (b++zS (l.take k))))) ⟨rfl,_,[],by rw[List.append_nil,zbQ hσ],.inl (by simp[zS])⟩ ?_;rintro k vs s hk ⟨rfl,c,T,rfl,hc⟩;have hbox:(σ.set id (.box [c])++T)[id]? = some (.box [c]):=zi (zdo hσ);by_cases hlt:k<l.length
 ·have hd:decide ((k:Int)<(l.length:Int))=true:=by simp;omega
  have hx:l[k]? = some l[k]:=by simp[hlt]
  have hxi:=hi _ (List.getElem_mem hlt);have hgx:=zQ (f:=fun t=>[D.int .i64 t]) hx;obtain⟨x,hxe⟩:∃x,l[k]=x:=⟨_,rfl⟩;rw[hxe]at hx hgx hxi;have hln:=zov (l:=l.take k) (fun y hy=>by have:=hi y (List.mem_of_mem_take hy);omega);have hlk:(l.take k).length=k:=by rw[List.length_take];omega
  have hw:=w64 hxi.1 hxi.2;have hbl:(b++zS (l.take k)).length<=1073741824:=by rw[List.length_append];omega
  have hnx:b++zS (l.take (k+1))=b++(zS (l.take k)++zbt x.toNat):=by rw[List.take_add_one,hx];simp[zS]
  have fin:∀t τ,∃c' T',(σ.set id (.box [c])++T++τ).set id (.box [.own t (bcs (b++(zS (l.take k)++zbt x.toNat)))])=σ.set id (.box [c'])++T'∧(c'=.d (.slice (bcs (b++zS (l.take (k+1)))))∨∃t,c'=.own t (bcs (b++zS (l.take (k+1))))):=by
   intro t τ;refine⟨_,T++τ,?_,.inr ⟨t,rfl⟩⟩;rw[hnx,List.append_assoc,List.set_append_left _ _ (by simpa using hid),List.set_set]
  have hbox2:∀τ,(σ.set id (.box [c])++T++τ)[id]? = some (.box [c]):=fun τ=>zi hbox;obtain⟨S,hS⟩:∃S,σ.set id (.box [c])++T=S:=⟨_,rfl⟩;rw[hS]at hbox fin hbox2 ⊢;rcases hc with rfl|⟨t,rfl⟩
  ·refine zm (zd hd (zd hgx (zd hbox hw))) ?_;refine zfv (by omega) hbl ?_;refine zm (zd hbox2 (wkc k (by omega))) ?_;exact zaF.next hlt ⟨rfl,fin _ _⟩
  ·refine zm (zd hd (zd hgx (zd hbox hw))) ?_;refine zfv (by omega) hbl ?_;refine zm (zd hbox2 (wkc k (by omega))) ?_;exact zaF.next hlt ⟨rfl,fin _ _⟩
 ·have hd:decide ((k:Int)<(l.length:Int))=false:=by simp;omega
  rw[List.take_of_length_le (by omega)]at hc;rcases hc with rfl|⟨t,rfl⟩
  ·refine zm hd ?_;refine ziI (zeK (by simp[zck,dmT,zbw]) hl (zqm _ _) hK)
  ·refine zm hd ?_;exact zkf hσ (by simp[zck,dmT,zbw]) hl hK
theorem c_wMany {n:Nat}(hσ:σ[id]? = some (wO b))(hb:b.length<=536870912)(hn:n<=1073741824)(hK:K (.tup []) (σ.set id (wO (b++zbt n)))) :
  zP zbn [.box id 0,.d (.int .i64 n)] σ K:=by
 refine zen zrn fun hl=>?_;simp only[zkQ,iN,bT,bF,eN];refine zG ?_;refine c_wNum (l:=[(n:Int)]) hσ hb (by simp) (by simp;omega) ?_;refine zG ?_;exact zeW (by simp[zck,dmT,zbw]) hl (zqm _ _) (by rw[show zS [(n:Int)]=zbt n by simp[zS]];exact hK)
theorem zAB {k d:Int}(hσ:σ[id]? = some (wO b))(hb:b.length<=536870912)(hc:zx k d=0)(hK:K (.tup []) (σ.set id (wO (b++zgp k d)))) :
  zP zaX [.box id 0,.agg [.d (.int .i64 k),.d (.int .i64 d)]] σ K:=by
 refine zja ziS.is rfl fun hl _=>ziS.goes ?_;have hid:=zZ hσ;have hσ1:=fun τ=>zi (τ:=τ) hσ;simp only[zjc,iN,bT,bF,eN];refine zm hσ1 ?_;refine zzi (by omega) hc ?_;refine zm hσ1 ?_;rw[List.set_append_left _ _ hid];exact zkf hσ (by simp[zck,dmT,zbw]) hl hK
theorem c_wBatch {l:List zr}(hσ:σ[id]? = some (wO b))(hb:b.length<=268435456)(hc:zD l=0)(hK:K (.tup []) (σ.set id (wO (b++zhj l)))) :
  zP zbv [.box id 0,.d (.slice (zbA l))] σ K:=by
 refine zja zia.is rfl fun hl _=>zia.goes ?_;have hid:=zZ hσ;have hσ1:=fun τ=>zi (τ:=τ) hσ;simp only[zih,iN,bT,bF,eN];refine zm (zd hσ hσ1) ?_;refine c_PutBatchO hb (fun x hx=>Nat.le_trans ((zdH hc).1 x hx) (by omega)) hc ?_;refine zm (zd hσ hσ1) ?_;rw[List.set_append_left _ _ hid];exact zkf hσ (by simp[zck,dmT,zbw]) hl hK
theorem c_wSigns {l:List zK}(hσ:σ[id]? = some (wO b))(hb:b.length<=268435456)(hc:∀e∈zcn l,e=0)(hK:K (.tup []) (σ.set id (wO (b++zvO l)))) :
  zP zcK [.box id 0,.d (.slice (zat l))] σ K:=by
 refine zen zoc fun hl=>?_;obtain⟨h13,hs⟩:=zzR hc;have hid:=zZ hσ;have hll:(zat l).length=l.length:=List.length_map ..;simp only[zie,iN,bT,bF,eN];refine zm hll ?_;refine c_wMany (n:=l.length) hσ (by omega) (by omega) ?_;refine zm hll ?_;refine zn l.length (fun k vs s=>vs=[.d (.int .i64 k)]/\∃T,s=σ.set id (wO (b++(zbt l.length++((l.take k).map fun s=>zgp s.key s.dig).flatten)))++T) ⟨rfl,[],by simp⟩ ?_;rintro k vs s hk ⟨rfl,T,rfl⟩;obtain⟨O,hO⟩:∃O,wO (b++(zbt l.length++((l.take k).map fun s=>zgp s.key s.dig).flatten))=O:=⟨_,rfl⟩;rw[hO];by_cases hlt:k<l.length
 ·have hd:decide ((k:Int)<(l.length:Int))=true:=by simp;omega
  have hx:l[k]? = some l[k]:=by simp[hlt]
  have hxi:=hs _ (List.getElem_mem hlt);have hgx:=zQ (f:=zgo) hx;obtain⟨x,hxe⟩:∃x,l[k]=x:=⟨_,rfl⟩;rw[hxe]at hx hgx hxi;have hlen:(((l.take k).map fun s=>zgp s.key s.dig).flatten).length<=(l.take k).length*20:=zcy fun s hm=>zgz (hs s (List.mem_of_mem_take hm));have hlk:(l.take k).length=k:=by rw[List.length_take];omega
  have n1:=zj (n:=l.length) (by omega);obtain⟨S,hS⟩:∃S,σ.set id O++T=S:=⟨_,rfl⟩;have hSid:S[id]? = some O:=by rw[← hS];exact zi (zdo hσ)
  rw[hS];refine zdO (zd hd (zd hgx hll)) ?_;refine zAB (by rw[← hO]at hSid;exact zi hSid) (by simp only[List.length_append];omega) hxi ?_;refine zm (wkc k (by omega)) ?_;refine zaF.next hlt ⟨rfl,T++[.box [.d (.int .i64 x.key),.d (.int .i64 x.dig)]],?_⟩;rw[zcW hx,← hS,List.append_assoc (σ.set id O),List.set_append_left _ _ (by simpa using hid),List.set_set];try simp
 ·have hd:decide ((k:Int)<(l.length:Int))=false:=by simp;omega
  rw[List.take_of_length_le (by omega)]at hO;subst hO;refine zm (zd hd hll) ?_;exact zeK (by simp[zck,dmT,zbw]) hl (zqm _ _) hK
theorem c_wCert {c:zjt}(hσ:σ[id]? = some (wO b))(hb:b.length<=134217728)(hc:∀e∈zby c,e=0)(hK:K (.tup []) (σ.set id (wO (b++zrz c)))) :
  zP zcg [.box id 0,zhL c] σ K:=by
 refine zen zoM fun hl=>?_;have hid:=zZ hσ;obtain⟨h1,h2,h3⟩:=cert_ok hc;have n1:=zj (n:=c.seq.toNat) (by omega);have n2:=zj (n:=c.dig.toNat) (by omega);have j:=zlR.first hσ (.box [.d (.int .i64 c.seq),.d (.int .i64 c.dig),.d (.slice (zat c.signs))]);simp only[zjd,iN,bT,bF,eN];refine zG ?_;refine c_wNum (l:=[c.seq,c.dig]) j.a (by omega) (by simp) (by simp;omega) ?_;have j:=j.set hid (wO (b++zS [c.seq,c.dig]));obtain⟨S,hS⟩:∃S,(σ++[AObj.box [.d (.int .i64 c.seq),.d (.int .i64 c.dig),.d (.slice (zat c.signs))]]).set id (wO (b++zS [c.seq,c.dig]))=S:=⟨_,rfl⟩;rw[hS]at j ⊢;have b:=j.b;refine zm b ?_;refine c_wSigns j.a (by simp[zS];omega) h3 ?_;refine zG ?_;exact(j.set hid _).done (zqm _ _) hl (by simpa [zS,zrz] using hK)
end
variable {σ:List AObj}
theorem zlR.trans {σ S S2:List AObj}{id:Nat}{B X O O':AObj}(h:zlR σ id B O S)(hid:id<σ.length)(h2:zlR S id X O' S2):zlR σ id B O' S2:=by
 obtain⟨_,_,τ,rfl⟩:=h2;exact(h.set hid O').app τ
section
variable {σ S:List AObj} {id:Nat} {B:AObj} {b:List UInt8} {K:KT} (j:zlR σ id B (wO b) S) (hid:id<σ.length)
include j hid
theorem zgG {l:List Int}(hb:b.length<=536870912)(hl0:l.length<=1000)(hi:∀x∈l,0<=x/\x<=9007199254740992)(hK:∀S,zlR σ id B (wO (b++zS l)) S->K (.tup []) S) :
  zP zI [.box id 0,.d (.slice (zgH l))] S K:=c_wNum j.a hb hl0 hi (hK _ (j.set hid _))
theorem zwk {n:Nat}(hb:b.length<=536870912)(hn:n<=1073741824)(hK:∀S,zlR σ id B (wO (b++zbt n)) S->K (.tup []) S) :
  zP zbn [.box id 0,.d (.int .i64 n)] S K:=c_wMany j.a hb hn (hK _ (j.set hid _))
theorem jw_sign {k d:Int}(hb:b.length<=536870912)(hc:zx k d=0)(hK:∀S,zlR σ id B (wO (b++zgp k d)) S->K (.tup []) S) :
  zP zaX [.box id 0,.agg [.d (.int .i64 k),.d (.int .i64 d)]] S K:=zAB j.a hb hc (hK _ (j.set hid _))
theorem zvr {l:List zr}(hb:b.length<=268435456)(hc:zD l=0)(hK:∀S,zlR σ id B (wO (b++zhj l)) S->K (.tup []) S) :
  zP zbv [.box id 0,.d (.slice (zbA l))] S K:=c_wBatch j.a hb hc (hK _ (j.set hid _))
theorem jw_signs {l:List zK}(hb:b.length<=268435456)(hc:∀e∈zcn l,e=0)(hK:∀S,zlR σ id B (wO (b++zvO l)) S->K (.tup []) S) :
  zP zcK [.box id 0,.d (.slice (zat l))] S K:=c_wSigns j.a hb hc (hK _ (j.set hid _))
theorem jw_cert {c:zjt}(hb:b.length<=134217728)(hc:∀e∈zby c,e=0)(hK:∀S,zlR σ id B (wO (b++zrz c)) S->K (.tup []) S) :
  zP zcg [.box id 0,zhL c] S K:=c_wCert j.a hb hc (hK _ (j.set hid _))
end
theorem c_wBody {id:Nat}{b:List UInt8}{c:zbk}(hσ:σ[id]? = some (wO b))(hb:b.length<=67108864)(hc:∀e∈zeu c,e=0){K:KT}(hK:K (.tup []) (σ.set id (wO (b++zvg c)))) :
  zP zdZ [.box id 0,.agg (zbK c)] σ K:=by
 refine zen zoN fun hl=>?_;have hid:=zZ hσ;have hpl:(zft c.above).length=c.above.length:=List.length_map ..;obtain⟨h1,h2,h3,h4,h5⟩:=body_ok hc;have n1:=zj (n:=c.view.toNat) (by omega);have n2:=zj (n:=c.src.toNat) (by omega);have n3:=zj (n:=c.above.length) (by omega);have n4:=zhK h3;simp only[zje,iN,bT,bF,eN,zl7];have j:=zlR.first hσ (.box (zbK c));refine zG ?_;refine zgG (l:=[c.view,c.src]) j hid (by omega) (by simp) (by simp;omega) fun S j=>?_;have b0:=j.b;refine zm b0 ?_;refine jw_cert (c:=c.cert) j hid (by simp[zS];omega) h3 fun S j=>?_;have b0:=j.b;refine zm (zd b0 hpl) ?_;refine zwk (n:=c.above.length) j hid (by simp[zS];omega) (by omega) fun S j=>?_;have b0:=j.b;obtain⟨Q,hQ⟩:∃Q,b++zS [c.view,c.src]++zrz c.cert++zbt c.above.length=Q:=⟨_,rfl⟩;have hQl:Q.length<=67108864+400:=by rw[← hQ];simp[zS];omega
 rw[hQ]at j;refine zm (zd b0 hpl) ?_;refine zn c.above.length (fun k vs S=>vs=[.d (.int .i64 k)]/\zlR σ id (.box (zbK c)) (wO (Q++((c.above.take k).map zuI).flatten)) S) ⟨rfl,by simpa using j⟩ ?_;rintro k vs S hk ⟨rfl,j⟩;by_cases hlt:k<c.above.length
 ·have hd:decide ((k:Int)<(c.above.length:Int))=true:=by simp;omega
  have hx:c.above[k]? = some c.above[k]:=by simp[hlt]
  have hpx:=h5 _ (List.getElem_mem hlt);have hgx:=zQ (f:=zfy) hx;obtain⟨p,hp⟩:∃p,c.above[k]=p:=⟨_,rfl⟩;rw[hp]at hx hgx hpx;have hlen:(((c.above.take k).map zuI).flatten).length<=(c.above.take k).length*4400:=zcy fun s hm=>zvV (h5 s (List.mem_of_mem_take hm));have hlk:(c.above.take k).length=k:=by rw[List.length_take];omega
  obtain⟨R,hR⟩:∃R,Q++((c.above.take k).map zuI).flatten=R:=⟨_,rfl⟩;have hRl:R.length<=67108864+36000:=by rw[← hR,List.length_append];omega
  rw[hR]at j;obtain⟨p1,p2,p3,p4,p5,p6⟩:=prep_ok hpx;have m1:=zj (n:=p.view.toNat) (by omega);have m2:=zj (n:=p.seq.toNat) (by omega);have m3:=zj (n:=p.dig.toNat) (by omega);have m4:=zgz p4;have m5:=zpv p5;have hS:id<S.length:=zZ j.a;have i:=zlR.first j.a (.box (prepL p));refine zdO (zd hd (zd hgx hpl)) ?_;refine zgG (l:=[p.view,p.seq,p.dig]) i hS (by omega) (by simp) (by simp;omega) fun S2 i=>?_;have b0:=i.b;refine zm b0 ?_;refine jw_sign i hS (by simp[zS];omega) p4 fun S2 i=>?_;have b0:=i.b;refine zm b0 ?_;refine jw_signs i hS (by simp[zS];omega) p5 fun S2 i=>?_;have b0:=i.b;refine zm b0 ?_;refine zvr i hS (by simp[zS];omega) p6 fun S2 i=>?_;refine zm (wkc k (by omega)) ?_;refine zaF.next hlt ⟨rfl,(j.trans hid i).as ?_⟩;rw[zcW hx,← hR];simp[zuI,zS]
 ·have hd:decide ((k:Int)<(c.above.length:Int))=false:=by simp;omega
  rw[show c.above.take k=c.above from List.take_of_length_le (by omega)]at j;refine zm (zd hd hpl) ?_;exact(j.as (by rw[← hQ];simp[zvg,zS])).done (zqm _ _) hl hK
theorem c_wChange {id:Nat}{b:List UInt8}{c:zbk}(hσ:σ[id]? = some (wO b))(hb:b.length<=67108864)(hc:∀e∈zaS c,e=0){K:KT}(hK:K (.tup []) (σ.set id (wO (b++zfS c)))) :
  zP zeT [.box id 0,.agg (zbK c)] σ K:=by
 refine zen znq fun hl=>?_;have hid:=zZ hσ;obtain⟨h1,h2⟩:=ziU hc;have n1:=zsE h1;simp only[zhS,iN,bT,bF,eN];have j:=zlR.first hσ (.box (zbK c));refine zG ?_;refine c_wBody (c:=c) j.a hb h1 ?_;have j:=j.set hid (wO (b++zvg c));obtain⟨S,hS⟩:∃S,(σ++[AObj.box (zbK c)]).set id (wO (b++zvg c))=S:=⟨_,rfl⟩;rw[hS]at j ⊢;have b0:=j.b;refine zm b0 ?_;refine jw_sign j hid (by simp;omega) h2 fun S j=>?_;refine zG ?_;exact(j.as (by simp[zfS])).done (zqm _ _) hl hK
variable {σ:List AObj}
theorem c_wUns7 {id:Nat}{b:List UInt8}{m:zbj}{c:zbk}(hσ:σ[id]? = some (wO b))(hb:b.length<=1000000)(hk:m.kind=7)(hch:m.changes=[c])(hc:∀e∈zeu c,e=0){K:KT}(hK:K (.tup []) (σ.set id (wO (b++unsB m)))) :
  zP zbr [.box id 0,zgd m] σ K:=by
 refine zen zet fun hl=>?_;have hid:=zZ hσ;have hgx:(zap m.changes)[0]? = some (zag c):=by rw[hch];rfl
 have hgl:(zap m.changes).length=1:=by rw[hch];rfl
 have n1:=zj (n:=m.kind.toNat) (by omega);simp only[zcV,iN,bT,bF,eN,zl6];have j:=zlR.first hσ (zla m);refine zG ?_;refine zgG (l:=[m.kind]) j hid (by omega) (by simp) (by simp;omega) fun S j=>?_;have b0:=j.b;refine zdO (zd b0 (zd (kk7 hk) (zd hgx hgl))) ?_;refine c_wBody (c:=c) j.a (by simp[zS];omega) hc ?_;refine zG ?_;exact((j.set hid _).as (by simp[unsB,hk,hch,zS])).done (zqm _ _) hl hK
theorem c_wUns8 {id:Nat}{b:List UInt8}{m:zbj}(hσ:σ[id]? = some (wO b))(hb:b.length<=1000000)(hk:m.kind=8)(hc:∀e∈zfG m,e=0){K:KT}(hK:K (.tup []) (σ.set id (wO (b++unsB m)))) :
  zP zbr [.box id 0,zgd m] σ K:=by
 refine zen zet fun hl=>?_;have hid:=zZ hσ;have hcl:(zap m.changes).length=m.changes.length:=List.length_map ..;have hel:(zbq m.entries).length=m.entries.length:=List.length_map ..;obtain⟨h1,h2,h3,h4,h5,h6⟩:=newv_ok hc;have n0:=zj (n:=m.kind.toNat) (by omega);have n1:=zj (n:=m.src.toNat) (by omega);have n2:=zj (n:=m.view.toNat) (by omega);have n3:=zj (n:=m.changes.length) (by omega);have n4:=zj (n:=m.entries.length) (by omega);simp only[zcV,iN,bT,bF,eN,zl6];have j:=zlR.first hσ (zla m);refine zG ?_;refine zgG (l:=[m.kind]) j hid (by omega) (by simp) (by simp;omega) fun S j=>?_;have b0:=j.b;refine zm (zd b0 (kk8 hk)) ?_;refine zgG (l:=[m.src,m.view]) j hid (by simp[zS];omega) (by simp) (by simp;omega) fun S j=>?_;have b0:=j.b;refine zm (zd b0 hcl) ?_;refine zwk (n:=m.changes.length) j hid (by simp[zS];omega) (by omega) fun S j=>?_;have b0:=j.b;obtain⟨Q,hQ⟩:∃Q,b++zS [m.kind]++zS [m.src,m.view]++zbt m.changes.length=Q:=⟨_,rfl⟩;have hQl:Q.length<=1001000:=by rw[← hQ];simp[zS];omega
 rw[hQ]at j;refine zm (zd b0 hcl) ?_;refine zn m.changes.length (fun k vs S=>vs=[.d (.int .i64 k)]/\zlR σ id (zla m) (wO (Q++((m.changes.take k).map zfS).flatten)) S) ⟨rfl,by simpa using j⟩ ?_;rintro k vs S hk0 ⟨rfl,j⟩;have hlenC:∀k,(((m.changes.take k).map zfS).flatten).length<=13*36020:=by
  intro k;have:=zcy (f:=zfS) (n:=36020) (l:=m.changes.take k) fun s hm=>zry (h4 s (List.mem_of_mem_take hm));have hlk:(m.changes.take k).length<=13:=by rw[List.length_take];omega
  have:(m.changes.take k).length*36020<=13*36020:=Nat.mul_le_mul_right _ hlk;omega
 have hlk1:=hlenC k;by_cases hlt:k<m.changes.length
 ·have hd:decide ((k:Int)<(m.changes.length:Int))=true:=by simp;omega
  have hx:m.changes[k]? = some m.changes[k]:=by simp[hlt]
  have hpx:=h4 _ (List.getElem_mem hlt);have hgx:=zQ (f:=zag) hx;obtain⟨p,hp⟩:∃p,m.changes[k]=p:=⟨_,rfl⟩;rw[hp]at hx hgx hpx;have hS:id<S.length:=zZ j.a;have i:=zlR.first j.a (.box (zbK p));refine zdO (zd hd (zd hgx hcl)) ?_;refine c_wChange (c:=p) i.a (by simp only[List.length_append];omega) hpx ?_;refine zm (wkc k (by omega)) ?_;refine zaF.next hlt ⟨rfl,(j.trans hid (i.set hS _)).as ?_⟩;rw[zcW hx];try simp
 ·have hd:decide ((k:Int)<(m.changes.length:Int))=false:=by simp;omega
  rw[show m.changes.take k=m.changes from List.take_of_length_le (by omega)]at j hlk1;have b0:=j.b;refine zm (zd hd (zd hcl (zd b0 hel))) ?_;refine zwk (n:=m.entries.length) j hid (by simp only[List.length_append];omega) (by omega) fun S j=>?_;have b0:=j.b;obtain⟨R,hR⟩:∃R,Q++(m.changes.map zfS).flatten++zbt m.entries.length=R:=⟨_,rfl⟩;have hRl:R.length<=2000000:=by rw[← hR];simp only[List.length_append];omega
  rw[hR]at j;refine zm (zd b0 hel) ?_;refine zn m.entries.length (fun k vs S=>vs=[.d (.int .i64 k)]/\zlR σ id (zla m) (wO (R++((m.entries.take k).map znE).flatten)) S) ⟨rfl,by simpa using j⟩ ?_;rintro k vs S hk1 ⟨rfl,j⟩;by_cases hlt:k<m.entries.length
  ·have hd:decide ((k:Int)<(m.entries.length:Int))=true:=by simp;omega
   have hx:m.entries[k]? = some m.entries[k]:=by simp[hlt]
   have hpx:=h6 _ (List.getElem_mem hlt);have hgx:=zQ (f:=zdd) hx;obtain⟨p,hp⟩:∃p,m.entries[k]=p:=⟨_,rfl⟩;rw[hp]at hx hgx hpx;have hlen:(((m.entries.take k).map znE).flatten).length<=(m.entries.take k).length*4040:=zcy fun s hm=>ztA (h6 s (List.mem_of_mem_take hm));have hlk:(m.entries.take k).length=k:=by rw[List.length_take];omega
   obtain⟨T,hT⟩:∃T,R++((m.entries.take k).map znE).flatten=T:=⟨_,rfl⟩;have hTl:T.length<=3000000:=by rw[← hT,List.length_append];omega
   rw[hT]at j;obtain⟨p1,p2,p3,p4⟩:=zAr hpx;have m1:=zj (n:=p.view.toNat) (by omega);have m2:=zj (n:=p.seq.toNat) (by omega);have m3:=(zdH p3).2;have hS:id<S.length:=zZ j.a;have i:=zlR.first j.a (.box [.d (.int .i64 p.view),.d (.int .i64 p.seq),.d (.slice (zbA p.batch)),.d (.int .i64 p.key),.d (.int .i64 p.dig)]);refine zdO (zd hd (zd hgx hel)) ?_;refine zgG (l:=[p.view,p.seq]) i hS (by omega) (by simp) (by simp;omega) fun S2 i=>?_;have b0:=i.b;refine zm b0 ?_;refine zvr i hS (by simp[zS];omega) p3 fun S2 i=>?_;have b0:=i.b;refine zm b0 ?_;refine jw_sign i hS (by simp[zS];omega) p4 fun S2 i=>?_;refine zm (wkc k (by omega)) ?_;refine zaF.next hlt ⟨rfl,(j.trans hid i).as ?_⟩;rw[zcW hx,← hT];simp[znE,zS]
  ·have hd:decide ((k:Int)<(m.entries.length:Int))=false:=by simp;omega
   rw[show m.entries.take k=m.entries from List.take_of_length_le (by omega)]at j;refine zm (zd hd hel) ?_;exact(j.as (by rw[← hR,← hQ];simp[unsB,hk,newvB,zS])).done (zqm _ _) hl hK
theorem zAC {id:Nat}{b:List UInt8}(hσ:σ[id]? = some (wO b)){K:KT}(hK:K (.tup [.d (.slice (bcs (if b.length>262144 then []else b))),.d (.int .i64 (if b.length>262144 then 3 else 0))]) σ) :
  zP zfo [.box id 0] σ K:=by
 refine zey zod fun hl=>?_;simp only[zif,iN,bT,bF,eN];by_cases h:b.length>262144
 ·have hd:decide ((b.length:Int)>262144)=true:=by simp;omega
  rw[if_pos h,if_pos h]at hK;refine zm (zd hσ hd) ?_;refine zu hl ?_;exact hK
 ·have hd:decide ((b.length:Int)>262144)=false:=by simp;omega
  rw[if_neg h,if_neg h]at hK;refine zm (zd hσ hd) ?_;refine zu hl ?_;exact hK
variable {σ:List AObj}
def resB (e o:Int):List UInt8:=zbt (max 0 e).toNat++zbt (max 0 o).toNat
theorem gq23 {A P Q:Prop}(a:A)(h:Q)(e:A->P=Q:=by intro a;simp -dsimp only[↓zlC,↓zbR,↓zeb,↓zlD,↓zlu,↓zls,↓zlv,↓zlt,↓zeg,↓zec,↓zeh,↓zed,↓zlw,↓zdX,↓zei,↓zee,↓zej,↓zef,↓zlq,↓zlA,↓zdW,↓zem,↓zli,↓zlh,↓zln,iN,bT,bF,eN,↓zev,↓unC,↓zaC,↓zai,↓zaj,↓zav,↓zaW,↓zah,↓zgy,↓zaw,↓zbd,↓zad,↓ze,↓zl,↓zbg,↓zc,↓zaV,↓zN,↓zbS,↓zcl,↓zf,↓zF,↓zp,↓zM,↓zaB,↓zgF,↓zhG,↓zbc,↓zbz,↓zcf,↓zcz,↓zdj,↓zJ,↓zbb,↓zak,↓zO,↓zaU,zho,zdP,zdy,unA,zgu,bnd,ziP,zaO,zL,zhY,dm,dm1,zH,zaJ,zjT,zjS,keepO,Q0,Q1,Q2,Q3,Q4,Q5,zba,zA,zB,zX,zaa,Q6,Q7,Q8,Q9,Q10,Q11,Q12,Q13,Q14,Nat.reduceAdd,Q15,Int.reduceToNat,Q16,Q17,Q18,Q19,Q20,reduceIte,Q21,Q22,zy,rep,zaq,zhV,toD,zaD,Q23,Q24,Q25,Q26,Q27,Q28,Nat.reduceLeDiff,Q29,Nat.reduceSub,Q30,Q31,Q32,sc,Q33,Q34,Q35,m1,a];rfl):P:=(e a).mpr h
theorem c_PutResult {b:List UInt8}{e o:Int}(hb:b.length<=268435456)(he:e<9223372036854775808)(ho:o<9223372036854775808){K:KT}(hK:K (.d (.slice (bcs (b++resB e o)))) σ) :
  zP zmb [.d (.slice (bcs b)),.agg [.d (.int .i64 e),.d (.int .i64 o)]] σ K:=by
 refine zen zyc fun hl=>?_;simp only[zqM,iN,bT,bF,eN];have g1:=zj (n:=(max 0 e).toNat) (by omega);have m1:IntKind.u64.wrap (if (0:Int)>e then 0 else e)=((max 0 e).toNat:Int):=by
  rw[show(if (0:Int)>e then 0 else e)=max 0 e by split<;>omega];exact zrJ (by omega) (by omega)
 have m2:IntKind.u64.wrap (if (0:Int)>o then 0 else o)=((max 0 o).toNat:Int):=by
  rw[show(if (0:Int)>o then 0 else o)=max 0 o by split<;>omega];exact zrJ (by omega) (by omega)
 (refine gq23 m2 ?_;try with_reducible exact True.intro);refine zfv (by omega) (by omega) ?_;(refine gq23 m2 ?_;try with_reducible exact True.intro);refine zfv (by omega) (by simp only[List.length_append];omega) ?_;(refine gq4 ?_;try with_reducible exact True.intro);refine zu hl ?_;exact hK
theorem c_rPutResult {b:List UInt8}{e o:Int}(hb:b.length<=268435456)(he:e<9223372036854775808)(ho:o<9223372036854775808){K:KT}(hK:K (.d (.slice (bcs (b++resB e o)))) σ) :
  zP zkt [.d (.slice (bcs b)),.agg [.d (.int .i64 e),.d (.int .i64 o)]] σ K:=by
 refine zen zwG fun hl=>?_;simp only[zpk,iN,bT,bF,eN];have g1:=zj (n:=(max 0 e).toNat) (by omega);have m1:IntKind.u64.wrap (if e>0 then e else 0)=((max 0 e).toNat:Int):=by
  rw[show(if e>0 then e else 0)=max 0 e by split<;>omega];exact zrJ (by omega) (by omega)
 have m2:IntKind.u64.wrap (if o>0 then o else 0)=((max 0 o).toNat:Int):=by
  rw[show(if o>0 then o else 0)=max 0 o by split<;>omega];exact zrJ (by omega) (by omega)
 (refine gq23 m2 ?_;try with_reducible exact True.intro);refine zeL (by omega) (by omega) ?_;(refine gq23 m2 ?_;try with_reducible exact True.intro);refine zeL (by omega) (by simp only[List.length_append];omega) ?_;(refine gq4 ?_;try with_reducible exact True.intro);refine zu hl ?_;exact hK
variable {σ:List AObj}
theorem c_wStr {id:Nat}{b x:List UInt8}(hσ:σ[id]? = some (wO b))(hb:b.length<=536870912)(hx:x.length<=536870912){K:KT}(hK:K (.tup []) (σ.set id (wO (b++zkk x)))) :
  zP zcq [.box id 0,.d (.slice (bcs x))] σ K:=by
 refine zja zly.is rfl fun hl _=>zly.goes ?_;have hid:=zZ hσ;have hσ1:=fun τ=>zi (τ:=τ) hσ;simp only[zlJ,iN,bT,bF,eN];refine zm hσ ?_;refine zpQ (b:=b) (x:=x) (by omega) (by omega) ?_;refine zm hσ1 ?_;rw[List.set_append_left _ _ hid];exact zkf hσ (by simp[zck,dmT,zbw]) hl hK
theorem jw_str {σ S:List AObj}{id:Nat}{B:AObj}{b x:List UInt8}{K:KT}(j:zlR σ id B (wO b) S)(hid:id<σ.length)(hb:b.length<=536870912)(hx:x.length<=536870912)(hK:∀S,zlR σ id B (wO (b++zkk x)) S->K (.tup []) S) :
  zP zcq [.box id 0,.d (.slice (bcs x))] S K:=c_wStr j.a hb hx (hK _ (j.set hid _))
theorem c_wProof {id:Nat}{b:List UInt8}{p:zfi}(hσ:σ[id]? = some (wO b))(hb:b.length<=1000000)(hp:zrF p){K:KT}(hK:K (.tup []) (σ.set id (wO (b++zud p)))) :
  zP zfp [.box id 0,znD p] σ K:=by
 refine zen zoe fun hl=>?_;have hid:=zZ hσ;have hhl:(zmv p.headers).length=p.headers.length:=List.length_map ..;have hpl:(zgH p.path).length=p.path.length:=List.length_map ..;obtain⟨h1,h2,h3,h4,h5,h6,h7,h8,h9,h10⟩:=hp;have p1:=zdh (x:=p.topic) (by omega);have p2:=zdh (x:=p.rec_) (by omega);have n1:=zj (n:=p.offset.toNat) (by omega);have n2:=zj (n:=p.headers.length) (by omega);have n3:=zj (n:=p.index.toNat) (by omega);have n4:=zj (n:=p.count.toNat) (by omega);have n5:=zj (n:=p.path.length) (by omega);have q1:=zhK h10;simp only[zig,iN,bT,bF,eN,znD];have j:=zlR.first hσ (.box [.d (.str p.topic),.d (.int .i64 p.offset),.d (.slice (bcs p.rec_)),.d (.slice (zmv p.headers)),.d (.int .i64 p.index),.d (.int .i64 p.count),.d (.slice (zgH p.path)),.d (.int .i64 p.cert.seq),.d (.int .i64 p.cert.dig),.d (.slice (zat p.cert.signs))]);obtain⟨X,hX⟩:∃X,AObj.box [.d (.str p.topic),.d (.int .i64 p.offset),.d (.slice (bcs p.rec_)),.d (.slice (zmv p.headers)),.d (.int .i64 p.index),.d (.int .i64 p.count),.d (.slice (zgH p.path)),.d (.int .i64 p.cert.seq),.d (.int .i64 p.cert.dig),.d (.slice (zat p.cert.signs))]=X:=⟨_,rfl⟩;have hB:∀ {S b'},zlR σ id X (wO b') S->S[σ.length]? = some (.box [.d (.str p.topic),.d (.int .i64 p.offset),.d (.slice (bcs p.rec_)),.d (.slice (zmv p.headers)),.d (.int .i64 p.index),.d (.int .i64 p.count),.d (.slice (zgH p.path)),.d (.int .i64 p.cert.seq),.d (.int .i64 p.cert.dig),.d (.slice (zat p.cert.signs))]):=fun j=>by rw[hX];exact j.b
 refine zG ?_;rw[hX]at j ⊢;refine jw_str (b:=b) (x:=p.topic) j hid (by omega) (by omega) fun S j=>?_;have b0:=hB j;refine zm b0 ?_;refine zgG (l:=[p.offset]) j hid (by simp only[List.length_append];omega) (by simp) (by simp;omega) fun S j=>?_;have b0:=hB j;refine zm b0 ?_;refine jw_str (x:=p.rec_) j hid (by simp[zS];omega) (by omega) fun S j=>?_;have b0:=hB j;refine zm (zd b0 hhl) ?_;refine zwk (n:=p.headers.length) j hid (by simp[zS];omega) (by omega) fun S j=>?_;have b0:=hB j;obtain⟨Q,hQ⟩:∃Q,b++zkk p.topic++zS [p.offset]++zkk p.rec_++zbt p.headers.length=Q:=⟨_,rfl⟩;have hQl:Q.length<=1000400:=by rw[← hQ];simp[zS];omega
 rw[hQ]at j;refine zm (zd b0 hhl) ?_;refine zn p.headers.length (fun k vs S=>vs=[.d (.int .i64 k)]/\zlR σ id X (wO (Q++((p.headers.take k).map hdB).flatten)) S) ⟨rfl,by simpa using j⟩ ?_;rintro k vs S hk0 ⟨rfl,j⟩;have hlenC:(((p.headers.take k).map hdB).flatten).length<=64*50:=by
  have:=zcy (f:=hdB) (n:=50) (l:=p.headers.take k) fun s hm=>hdB_len (h5 s (List.mem_of_mem_take hm));have hlk:(p.headers.take k).length<=64:=by rw[List.length_take];omega
  have:(p.headers.take k).length*50<=64*50:=Nat.mul_le_mul_right _ hlk;omega
 by_cases hlt:k<p.headers.length
 ·have hd:decide ((k:Int)<(p.headers.length:Int))=true:=by simp;omega
  have hx:p.headers[k]? = some p.headers[k]:=by simp[hlt]
  have hpx:=hdr_ok (h5 _ (List.getElem_mem hlt));have hgx:=zQ (f:=zsi) hx;obtain⟨h,hh⟩:∃h,p.headers[k]=h:=⟨_,rfl⟩;rw[hh]at hx hgx hpx;have hS:id<S.length:=zZ j.a;have i:=zlR.first j.a (.box [.d (.int .i64 h.seq),.d (.int .i64 h.prev),.d (.int .i64 h.batch),.d (.int .i64 h.root),.d (.int .i64 h.state)]);refine zdO (zd hd (zd hgx hhl)) ?_;refine zgG (l:=[h.seq,h.prev,h.batch,h.root,h.state]) i hS (by simp only[List.length_append];omega) (by simp) hpx fun S2 i=>?_;refine zm (wkc k (by omega)) ?_;refine zaF.next hlt ⟨rfl,(j.trans hid i).as ?_⟩;rw[zcW hx,hdB,← List.append_assoc]
 have hd:decide ((k:Int)<(p.headers.length:Int))=false:=by simp;omega
 rw[show p.headers.take k=p.headers from List.take_of_length_le (by omega)]at j hlenC;have b0:=hB j;refine zm (zd hd (zd hhl b0)) ?_;refine zgG (l:=[p.index,p.count]) j hid (by simp only[List.length_append];omega) (by simp) (by simp;omega) fun S j=>?_;have b0:=hB j;refine zm (zd b0 hpl) ?_;refine zwk (n:=p.path.length) j hid (by simp[zS]at hlenC ⊢;omega) (by omega) fun S j=>?_;have b0:=hB j;obtain⟨R,hR⟩:∃R,Q++(p.headers.map hdB).flatten++zS [p.index,p.count]++zbt p.path.length=R:=⟨_,rfl⟩;have hRl:R.length<=1004000:=by rw[← hR];simp[zS]at hlenC ⊢;omega
 rw[hR]at j;refine zm (zd b0 hpl) ?_;refine zn p.path.length (fun k vs S=>vs=[.d (.int .i64 k)]/\zlR σ id X (wO (R++zS (p.path.take k))) S) ⟨rfl,by simpa [zS] using j⟩ ?_;rintro k vs S hk1 ⟨rfl,j⟩;have hlenP:(zS (p.path.take k)).length<=80:=by
  have:=zcd (l:=p.path.take k) fun s hm=>h9 s (List.mem_of_mem_take hm);have hlk:(p.path.take k).length<=8:=by rw[List.length_take];omega
  omega
 by_cases hlt:k<p.path.length
 ·have hd:decide ((k:Int)<(p.path.length:Int))=true:=by simp;omega
  have hx:p.path[k]? = some p.path[k]:=by simp[hlt]
  have hpx:=h9 _ (List.getElem_mem hlt);have hgx:=zQ (f:=fun t=>[D.int .i64 t]) hx;obtain⟨h,hh⟩:∃h,p.path[k]=h:=⟨_,rfl⟩;rw[hh]at hx hgx hpx;refine zm (zd hd (zd hgx hpl)) ?_;refine zgG (l:=[h]) j hid (by simp only[List.length_append];omega) (by simp) (by simp;omega) fun S2 j=>?_;refine zm (wkc k (by omega)) ?_;refine zaF.next hlt ⟨rfl,j.as ?_⟩;rw[zpB hx,List.append_assoc];simp[zS]
 have hd:decide ((k:Int)<(p.path.length:Int))=false:=by simp;omega
 rw[show p.path.take k=p.path from List.take_of_length_le (by omega)]at j hlenP;have b0:=hB j;refine zm (zd hd (zd hpl b0)) ?_;refine jw_cert (c:=p.cert) j hid (by simp only[List.length_append];omega) h10 fun S j=>?_;refine zG ?_;exact(j.as (by rw[← hR,← hQ];simp[zud])).done (zqm _ _) hl hK
variable {σ:List AObj}
theorem c_mSome {K:KT}(hK:K (.agg [.d (.int .i64 0),.d (.int .i64 1)]) σ):zP ziG [] σ K:=by
 refine acE0 zyd fun hl=>?_;simp only[zqN,iN,bT,bF,eN];refine zG ?_;refine zu hl ?_;exact hK
variable {σ:List AObj}
structure zgO (σ:List AObj) (id m t:Nat) (l:List (List UInt8)):Prop where
 box:σ[id]? = some (.box [.own t (zvJ l),.map m])
 map:σ[m]? = some (.map (tabM l))
 tok:σ[t]? = some (.tok 1 l.length)
structure zfj (σ:List AObj) (id m t:Nat) (g:List zK):Prop where
 box:σ[id]? = some (.box [.own t (zug g),.map m])
 map:σ[m]? = some (.map (zxG g))
 tok:σ[t]? = some (.tok 2 g.length)
def putTab (σ:List AObj) (id m t:Nat) (l:List (List UInt8)):List AObj:=((σ.set t (.tok 1 l.length)).set id (.box [.own t (zvJ l),.map m])).set m (.map (tabM l))
def putLed (σ:List AObj) (id m t:Nat) (g:List zK):List AObj:=((σ.set m (.map (zxG g))).set t (.tok 2 g.length)).set id (.box [.own t (zug g),.map m])
abbrev tabO (n:Nat) (l:List (List UInt8)):List AObj:=[.map (tabM l),.box [.own (n+2) (zvJ l),.map n],.tok 1 l.length]
abbrev ledO (n:Nat) (g:List zK):List AObj:=[.map (zxG g),.box [.own (n+2) (zug g),.map n],.tok 2 g.length]
theorem zgO.ne {id m t:Nat}{l:List (List UInt8)}(h:zgO σ id m t l):id≠m/\id≠t/\m≠t:=by
 refine⟨fun e=>?_,fun e=>?_,fun e=>?_⟩<;>subst e
 ·have:=h.box;rw[h.map]at this;cases this
 ·have:=h.box;rw[h.tok]at this;cases this
 ·have:=h.map;rw[h.tok]at this;cases this
theorem zfj.ne {id m t:Nat}{g:List zK}(h:zfj σ id m t g):id≠m/\id≠t/\m≠t:=by
 refine⟨fun e=>?_,fun e=>?_,fun e=>?_⟩<;>subst e
 ·have:=h.box;rw[h.map]at this;cases this
 ·have:=h.box;rw[h.tok]at this;cases this
 ·have:=h.map;rw[h.tok]at this;cases this
theorem zgO.self {id m t:Nat}{l:List (List UInt8)}(h:zgO σ id m t l):putTab σ id m t l=σ:=by
 unfold putTab;rw[zbQ h.tok,zbQ h.box,zbQ h.map]
theorem zfj.self {id m t:Nat}{g:List zK}(h:zfj σ id m t g):putLed σ id m t g=σ:=by
 unfold putLed;rw[zbQ h.map,zbQ h.tok,zbQ h.box]
theorem zgO.app {id m t:Nat}{l:List (List UInt8)}(h:zgO σ id m t l)(τ:List AObj):zgO (σ++τ) id m t l:=⟨zi h.box,zi h.map,zi h.tok⟩
theorem zfj.app {id m t:Nat}{g:List zK}(h:zfj σ id m t g)(τ:List AObj):zfj (σ++τ) id m t g:=⟨zi h.box,zi h.map,zi h.tok⟩
theorem tabAt_new (σ:List AObj)(l:List (List UInt8))(τ:List AObj):zgO (σ++(tabO σ.length l++τ)) (σ.length+1) σ.length (σ.length+2) l:=
 ⟨by rw[zA];rfl,by rw[zB];rfl,by rw[zA];rfl⟩
theorem ledAt_new (σ:List AObj)(g:List zK)(τ:List AObj):zfj (σ++(ledO σ.length g++τ)) (σ.length+1) σ.length (σ.length+2) g:=
 ⟨by rw[zA];rfl,by rw[zB];rfl,by rw[zA];rfl⟩
theorem putTab_new (σ:List AObj)(l l':List (List UInt8))(τ:List AObj):putTab (σ++(tabO σ.length l++τ)) (σ.length+1) σ.length (σ.length+2) l'=σ++(tabO σ.length l'++τ):=by
 unfold putTab;rw[zX,zX,zaa];rfl
theorem putLed_new (σ:List AObj)(g g':List zK)(τ:List AObj):putLed (σ++(ledO σ.length g++τ)) (σ.length+1) σ.length (σ.length+2) g'=σ++(ledO σ.length g'++τ):=by
 unfold putLed;rw[zaa,zX,zX];rfl
theorem ztb {id m t:Nat}{l:List (List UInt8)}(h:zgO σ id m t l)(l':List (List UInt8))(τ:List AObj):putTab (σ++τ) id m t l'=putTab σ id m t l'++τ:=by
 have h1:=zZ h.box;have h2:=zZ h.map;have h3:=zZ h.tok;unfold putTab;rw[List.set_append_left _ _ h3,List.set_append_left _ _ (by simpa using h1),List.set_append_left _ _ (by simpa using h2)]
theorem ztc {id m t:Nat}{g:List zK}(h:zfj σ id m t g)(g':List zK)(τ:List AObj):putLed (σ++τ) id m t g'=putLed σ id m t g'++τ:=by
 have h1:=zZ h.box;have h2:=zZ h.map;have h3:=zZ h.tok;unfold putLed;rw[List.set_append_left _ _ h2,List.set_append_left _ _ (by simpa using h3),List.set_append_left _ _ (by simpa using h1)]
theorem zpA (σ:List AObj)(id m t:Nat)(l:List (List UInt8)):(putTab σ id m t l).length=σ.length:=by simp[putTab]
theorem zyv (σ:List AObj)(id m t:Nat)(g:List zK):(putLed σ id m t g).length=σ.length:=by simp[putLed]
theorem zyH {n:Nat}(l:List (List UInt8)):ztV n (.map (tabM l)):=by
 have key:∀(l:List (List UInt8)) (i:Nat),∀e∈zxK l i,Low n e.1/\Low n e.2:=by
  intro l;induction l with
  | nil=>intro i e h;cases h
  | cons x r ih=>
   intro i e h
   simp only[zxK,List.mem_cons]at h
   rcases h with rfl|h
   ·exact⟨.d _,.d _⟩
   ·exact ih _ e h
 exact fun e he=>key l 0 e he
theorem zyI {n:Nat}(g:List zK):ztV n (.map (zxG g)):=by
 intro e he;simp only[zxG,List.mem_map]at he;obtain⟨s,_,rfl⟩:=he;exact⟨.agg _ (by simp[zgQ]),.d _⟩
theorem lowBox {n t m:Nat}{es:List (List D)}(ht:t<n)(hm:m<n):ztV n (.box [.own t es,.map m]):=by
 intro c hc;simp only[List.mem_cons,List.not_mem_nil,or_false]at hc;rcases hc with rfl|rfl
 ·exact .own _ _ ht
 ·exact .map _ hm
theorem zgO.lows {id m t:Nat}{l:List (List UInt8)}(h:zgO σ id m t l)(hl:zhm σ.length σ)(l':List (List UInt8)):zhm σ.length (putTab σ id m t l'):=
 ((hl.setO (show ztV _ (.tok 1 l'.length)from trivial)).setO (lowBox (zZ h.tok) (zZ h.map))).setO (zyH l')
theorem zfj.lows {id m t:Nat}{g:List zK}(h:zfj σ id m t g)(hl:zhm σ.length σ)(g':List zK):zhm σ.length (putLed σ id m t g'):=
 ((hl.setO (zyI g')).setO (show ztV _ (.tok 2 g'.length)from trivial)).setO (lowBox (zZ h.tok) (zZ h.map))
theorem low_tabO (n:Nat)(l:List (List UInt8)):∀x∈tabO n l,ztV (n+(tabO n l).length) x:=by
 intro x hx;simp only[List.mem_cons,List.not_mem_nil,or_false]at hx;rcases hx with rfl|rfl|rfl
 ·exact zyH l
 ·exact lowBox (by simp) (by simp)
 ·trivial
theorem low_ledO (n:Nat)(g:List zK):∀x∈ledO n g,ztV (n+(ledO n g).length) x:=by
 intro x hx;simp only[List.mem_cons,List.not_mem_nil,or_false]at hx;rcases hx with rfl|rfl|rfl
 ·exact zyI g
 ·exact lowBox (by simp) (by simp)
 ·trivial
variable {σ:List AObj}
theorem zAj {P Q:Prop}(h:Q)(e:Hd Q->P:=by intro h;(repeat' first|simp -dsimp only[↓zlC,↓zbR,↓zeb,↓zlD,↓zlu,↓zls,↓zlv,↓zlt,↓zeg,↓zec,↓zeh,↓zed,↓zlw,↓zdX,↓zei,↓zee,↓zej,↓zef,↓zlq,↓zlA,↓zdW,↓zem,↓zli,↓zlh,↓zln,iN,bT,bF,eN,↓zev,↓unC,↓zaC,↓zai,↓zaj,↓zav,↓zaW,↓zah,↓zgy,↓zaw,↓zbd,↓zad,↓ze,↓zl,↓zbg,↓zc,↓zaV,↓zN,↓zbS,↓zcl,↓zf,↓zF,↓zp,↓zM,↓zaB,↓zgF,↓zhG,↓zbc,↓zbz,↓zcf,↓zcz,↓zdj,↓zJ,↓zbb,↓zak,↓zO,↓zaU,zho,zdP,zdy,unA,zgu,bnd,ziP,zaO,zL,zhY,dm,dm1,zH,zaJ,zjT,zjS,keepO,Q0,Q1,Q2,Q3,Q4,Q5,zba,zA,zB,zX,zaa,Q6,Q7,Q8,Q9,Q10,Q11,Q12,Q13,Q14,Nat.reduceAdd,Q15,Int.reduceToNat,Q16,Q17,Q18,Q19,Q20,reduceIte,Q21,Q22,zy,rep,zaq,zhV,toD,zaD,Q23,Q24,Q25,Q26,Q27,Q28,Nat.reduceLeDiff,Q29,Nat.reduceSub,Q30,Q31,Q32,sc,Q33,Q34,Q35,Q36,Q37,Q26,Q38,Q39,zuP,zuM,zuJ,zuQ,zjr,zuN,zuK,zuO,zuL,zjq,zjs,zuS,zuT,Bool.not_true,Bool.not_false,List.length_map]|with_reducible refine zvh ?_|fail);exact h.go):P:=e ⟨h⟩
theorem ztP {K:KT}(hK:K (.box (σ.length+1) 0) (σ++tabO σ.length [])):zP zfe [] σ K:=by
 refine ACall.weaken ?_;refine zbM znG.is rfl (fun s=>List.range' σ.length 2) fun hl _=>znG.goes ?_;simp only[znT,iN,bT,bF,eN];refine zAj ?_;refine zdk (σ':=σ) (os:=[.map [],.box [.exact [],.map σ.length]]) rfl rfl hl ?_ (.box _ _ (by simp)) ?_
 ·intro x hx;simp only[List.mem_cons,List.not_mem_nil,or_false]at hx;rcases hx with rfl|rfl
  ·intro e he;cases he
  ·intro c hc;simp only[List.mem_cons,List.not_mem_nil,or_false]at hc;rcases hc with rfl|rfl
   ·exact .exact _
   ·exact .map _ (by simp)
 ·refine⟨.box (σ.length+1) 0,σ++tabO σ.length [],?_,hK⟩;refine .tokB (σ.length+1) 0 [.exact [],.map σ.length] [] 1 (by rw[zA];rfl) rfl (by simp) ?_;have e:(σ++[AObj.map [],AObj.box [AV.exact [],AV.map σ.length]]).set (σ.length+1) (.box ([AV.exact [],AV.map σ.length].set 0 (.own (σ++[AObj.map [],AObj.box [AV.exact [],AV.map σ.length]]).length [])))++[.tok 1 0]=σ++tabO σ.length []:=by
   rw[zX];simp[tabO];rfl
  rw[List.length_nil,e];exact .refl _ _
theorem zny {K:KT}(hK:K (.box (σ.length+1) 0) (σ++ledO σ.length [])):zP zeJ [] σ K:=by
 refine ACall.weaken ?_;refine zbM zmD.is rfl (fun s=>List.range' σ.length 2) fun hl _=>zmD.goes ?_;simp only[zmS,iN,bT,bF,eN];refine zAj ?_;refine zdk (σ':=σ) (os:=[.map [],.box [.exact [],.map σ.length]]) rfl rfl hl ?_ (.box _ _ (by simp)) ?_
 ·intro x hx;simp only[List.mem_cons,List.not_mem_nil,or_false]at hx;rcases hx with rfl|rfl
  ·intro e he;cases he
  ·intro c hc;simp only[List.mem_cons,List.not_mem_nil,or_false]at hc;rcases hc with rfl|rfl
   ·exact .exact _
   ·exact .map _ (by simp)
 ·refine⟨.box (σ.length+1) 0,σ++ledO σ.length [],?_,hK⟩;refine .tokB (σ.length+1) 0 [.exact [],.map σ.length] [] 2 (by rw[zA];rfl) rfl (by simp) ?_;have e:(σ++[AObj.map [],AObj.box [AV.exact [],AV.map σ.length]]).set (σ.length+1) (.box ([AV.exact [],AV.map σ.length].set 0 (.own (σ++[AObj.map [],AObj.box [AV.exact [],AV.map σ.length]]).length [])))++[.tok 2 0]=σ++ledO σ.length []:=by
   rw[zX];simp[ledO];rfl
  rw[List.length_nil,e];exact .refl _ _
theorem zoi {A P Q:Prop}(a:A)(h:Q)(e:A->Hd Q->P:=by intro a h;(repeat' first|simp -dsimp only[↓zlC,↓zbR,↓zeb,↓zlD,↓zlu,↓zls,↓zlv,↓zlt,↓zeg,↓zec,↓zeh,↓zed,↓zlw,↓zdX,↓zei,↓zee,↓zej,↓zef,↓zlq,↓zlA,↓zdW,↓zem,↓zli,↓zlh,↓zln,iN,bT,bF,eN,↓zev,↓unC,↓zaC,↓zai,↓zaj,↓zav,↓zaW,↓zah,↓zgy,↓zaw,↓zbd,↓zad,↓ze,↓zl,↓zbg,↓zc,↓zaV,↓zN,↓zbS,↓zcl,↓zf,↓zF,↓zp,↓zM,↓zaB,↓zgF,↓zhG,↓zbc,↓zbz,↓zcf,↓zcz,↓zdj,↓zJ,↓zbb,↓zak,↓zO,↓zaU,zho,zdP,zdy,unA,zgu,bnd,ziP,zaO,zL,zhY,dm,dm1,zH,zaJ,zjT,zjS,keepO,Q0,Q1,Q2,Q3,Q4,Q5,zba,zA,zB,zX,zaa,Q6,Q7,Q8,Q9,Q10,Q11,Q12,Q13,Q14,Nat.reduceAdd,Q15,Int.reduceToNat,Q16,Q17,Q18,Q19,Q20,reduceIte,Q21,Q22,zy,rep,zaq,zhV,toD,zaD,Q23,Q24,Q25,Q26,Q27,Q28,Nat.reduceLeDiff,Q29,Nat.reduceSub,Q30,Q31,Q32,sc,Q33,Q34,Q35,Q36,Q37,Q26,Q38,Q39,zuP,zuM,zuJ,zuQ,zjr,zuN,zuK,zuO,zuL,zjq,zjs,zuS,zuT,Bool.not_true,Bool.not_false,List.length_map,a]|with_reducible refine zvh ?_|fail);exact h.go):P:=e a ⟨h⟩
theorem zAD {id m t:Nat}{l:List (List UInt8)}(hT:zgO σ id m t l){K:KT}(hK:K (.d (.bool false)) σ):zP zcY [.box id 0] σ K:=by
 refine zey zsv fun hl=>?_;have hb:=hT.box;simp only[zlO,iN,bT,bF,eN];refine zoi hb ?_;refine zu hl ?_;exact hK
theorem zxb {id m t:Nat}{g:List zK}(hG:zfj σ id m t g){K:KT}(hK:K (.d (.bool false)) σ):zP zcO [.box id 0] σ K:=by
 refine zey zrt fun hl=>?_;have hb:=hG.box;simp only[zkX,iN,bT,bF,eN];refine zoi hb ?_;refine zu hl ?_;exact hK
theorem zdn {A B:Prop}(a:A)(b:B):A/\B:=⟨a,b⟩
theorem gq26 {A P Q:Prop}(a:A)(h:Q)(e:A->Hd Q->P:=by intro a h;(repeat' first|simp -dsimp only[↓zlC,↓zbR,↓zeb,↓zlD,↓zlu,↓zls,↓zlv,↓zlt,↓zeg,↓zec,↓zeh,↓zed,↓zlw,↓zdX,↓zei,↓zee,↓zej,↓zef,↓zlq,↓zlA,↓zdW,↓zem,↓zli,↓zlh,↓zln,iN,bT,bF,eN,↓zev,↓unC,↓zaC,↓zai,↓zaj,↓zav,↓zaW,↓zah,↓zgy,↓zaw,↓zbd,↓zad,↓ze,↓zl,↓zbg,↓zc,↓zaV,↓zN,↓zbS,↓zcl,↓zf,↓zF,↓zp,↓zM,↓zaB,↓zgF,↓zhG,↓zbc,↓zbz,↓zcf,↓zcz,↓zdj,↓zJ,↓zbb,↓zak,↓zO,↓zaU,zho,zdP,zdy,unA,zgu,bnd,ziP,zaO,zL,zhY,dm,dm1,zH,zaJ,zjT,zjS,keepO,Q0,Q1,Q2,Q3,Q4,Q5,zba,zA,zB,zX,zaa,Q6,Q7,Q8,Q9,Q10,Q11,Q12,Q13,Q14,Nat.reduceAdd,Q15,Int.reduceToNat,Q16,Q17,Q18,Q19,Q20,reduceIte,Q21,Q22,zy,rep,zaq,zhV,toD,zaD,Q23,Q24,Q25,Q26,Q27,Q28,Nat.reduceLeDiff,Q29,Nat.reduceSub,Q30,Q31,Q32,sc,Q33,Q34,Q35,Q36,Q37,Q26,Q38,Q39,zuP,zuM,zuJ,zuQ,zjr,zuN,zuK,zuO,zuL,zjq,zjs,zuS,zuT,Bool.not_true,Bool.not_false,List.length_map,Bool.and_false,Bool.and_self,Bool.false_and,Bool.not_false,Bool.not_true,Bool.true_and,Int.toNat_natCast,Int.toNat_zero,List.drop_zero,List.length_map,List.length_nil,List.nil_append,List.take_length,Nat.sub_zero,Nat.zero_add,Option.isSome_none,Option.isSome_some,Option.map_none,Option.map_some,zam,beq_self_eq_true,bne_self_eq_false,zix,zfg,zgg,zcf,mgetR,zcz,a]|with_reducible refine zvh ?_|fail);exact h.go):P:=e a ⟨h⟩
theorem c_tLook {id m t:Nat}{l:List (List UInt8)}{b:List UInt8}(hT:zgO σ id m t l){K:KT}(hK:K (.tup [.d (.int .i64 (zow (zge l b))),.d (.bool (zge l b).isSome)]) σ) :
  zP zfu [.box id 0,.d (.slice (bcs b))] σ K:=by
 refine zen zsw fun hl=>?_;have hb:=hT.box;have hm:=hT.map;have hf:=mfind_tab l b;simp only[zlP,iN,bT,bF,eN];refine zAj ?_;refine zAD hT ?_;cases ho:zge l b with
 | none=>
  rw[ho]at hf hK
  simp only[Option.map_none]at hf
  refine gq26 (zdn hb (zdn hm hf)) ?_
  refine zu hl ?_
  exact hK
 | some k=>
  rw[ho]at hf hK
  simp only[Option.map_some]at hf
  refine gq26 (zdn hb (zdn hm hf)) ?_
  refine zu hl ?_
  exact hK
theorem c_tLen {id m t:Nat}{l:List (List UInt8)}(hT:zgO σ id m t l){K:KT}(hK:K (.d (.int .i64 l.length)) σ):zP zit [.box id 0] σ K:=by
 refine zey ztI fun hl=>?_;have hb:=hT.box;simp only[zmR,iN,bT,bF,eN];refine zAj ?_;refine zAD hT ?_;refine zoi hb ?_;refine zu hl ?_;exact hK
theorem c_gLen {id m t:Nat}{g:List zK}(hG:zfj σ id m t g){K:KT}(hK:K (.d (.int .i64 g.length)) σ):zP zhE [.box id 0] σ K:=by
 refine zey zsx fun hl=>?_;have hb:=hG.box;simp only[zlQ,iN,bT,bF,eN];refine zAj ?_;refine zxb hG ?_;refine zoi hb ?_;refine zu hl ?_;exact hK
theorem gq27 {A P Q:Prop}(a:A)(h:Q)(e:A->Hd Q->P:=by intro a h;(repeat' first|simp -dsimp only[↓zlC,↓zbR,↓zeb,↓zlD,↓zlu,↓zls,↓zlv,↓zlt,↓zeg,↓zec,↓zeh,↓zed,↓zlw,↓zdX,↓zei,↓zee,↓zej,↓zef,↓zlq,↓zlA,↓zdW,↓zem,↓zli,↓zlh,↓zln,iN,bT,bF,eN,↓zev,↓unC,↓zaC,↓zai,↓zaj,↓zav,↓zaW,↓zah,↓zgy,↓zaw,↓zbd,↓zad,↓ze,↓zl,↓zbg,↓zc,↓zaV,↓zN,↓zbS,↓zcl,↓zf,↓zF,↓zp,↓zM,↓zaB,↓zgF,↓zhG,↓zbc,↓zbz,↓zcf,↓zcz,↓zdj,↓zJ,↓zbb,↓zak,↓zO,↓zaU,zho,zdP,zdy,unA,zgu,bnd,ziP,zaO,zL,zhY,dm,dm1,zH,zaJ,zjT,zjS,keepO,Q0,Q1,Q2,Q3,Q4,Q5,zba,zA,zB,zX,zaa,Q6,Q7,Q8,Q9,Q10,Q11,Q12,Q13,Q14,Nat.reduceAdd,Q15,Int.reduceToNat,Q16,Q17,Q18,Q19,Q20,reduceIte,Q21,Q22,zy,rep,zaq,zhV,toD,zaD,Q23,Q24,Q25,Q26,Q27,Q28,Nat.reduceLeDiff,Q29,Nat.reduceSub,Q30,Q31,Q32,sc,Q33,Q34,Q35,Q36,Q37,Q26,Q38,Q39,zuP,zuM,zuJ,zuQ,zjr,zuN,zuK,zuO,zuL,zjq,zjs,zuS,zuT,Bool.not_true,Bool.not_false,List.length_map,Bool.and_false,Bool.and_self,Bool.false_and,Bool.not_false,Bool.not_true,Bool.true_and,Int.toNat_natCast,Int.toNat_zero,List.drop_zero,List.length_map,List.length_nil,List.nil_append,List.take_length,Nat.sub_zero,Nat.zero_add,Option.isSome_none,Option.isSome_some,Option.map_none,Option.map_some,zam,beq_self_eq_true,bne_self_eq_false,zix,zcj,zhL,zag,zfg,zdd,zsi,zce,zgg,zcf,mgetR,zcz,zow,opA,opD,zfy,zgo,zay,a]|with_reducible refine zvh ?_|fail);exact h.go):P:=e a ⟨h⟩
theorem c_gSigned {id m t:Nat}{g:List zK}{s:zK}(hG:zfj σ id m t g){K:KT}(hK:K (.d (.bool (decide (s∈g)))) σ) :
  zP zfP [.box id 0,.agg [.d (.int .i64 s.key),.d (.int .i64 s.dig)]] σ K:=by
 refine zen zoQ fun hl=>?_;have hb:∀τ,(σ++τ)[id]? = _:=fun τ=>zi hG.box;have hm:∀τ,(σ++τ)[m]? = _:=fun τ=>zi hG.map;simp only[zjh,iN,bT,bF,eN];refine zAj ?_;refine zxb (hG.app _) ?_;by_cases hs:s∈g
 ·obtain⟨k,hf⟩:=zsd hs;rw[decide_eq_true hs]at hK;refine gq27 (zdn hb (zdn hm hf)) ?_;refine zu hl ?_;exact hK
 ·have hf:=zuf hs;rw[decide_eq_false hs]at hK;refine gq27 (zdn hb (zdn hm hf)) ?_;refine zu hl ?_;exact hK
theorem c_tSum {id m t:Nat}{l:List (List UInt8)}{b:List UInt8}(hT:zgO σ id m t l)(hbl:b.length<=1073741824)(hll:l.length<=1048576){K:KT}
  (hK:K (.d (.int .i64 (zgw l b))) (putTab σ id m t (zfb l b))):zP zeI [.box id 0,.d (.slice (bcs b))] σ K:=by
 refine zen ztH fun hl=>?_;have hb:=hT.box;have hm:=hT.map;have ht:=hT.tok;have hf:=mfind_tab l b;obtain⟨n1,n2,n3⟩:=hT.ne;have hlen:(zvJ l).length=l.length:=List.length_map ..;simp only[zmQ,iN,bT,bF,eN];refine zAj ?_;refine zAD hT ?_;cases ho:zge l b with
 | some k=>
  rw[ho]at hf
  simp only[zgw,zfb,ho]at hK
  rw[hT.self]at hK
  simp only[Option.map_some]at hf
  refine gq26 (zdn hb (zdn hm hf)) ?_
  refine zu hl ?_
  exact hK
 | none=>
  rw[ho]at hf
  simp only[zgw,zfb,ho]at hK
  simp only[Option.map_none]at hf
  by_cases hfull:l.length≥1048576
  ·rw[if_pos hfull,if_pos hfull,hT.self]at hK
   have hd:decide ((l.length:Int)≥1048576)=true:=by simp;omega
   refine gq26 (zdn hb (zdn hm (zdn hf (zdn hlen hd)))) ?_
   refine zu hl ?_
   exact hK
  ·rw[if_neg hfull,if_neg hfull]at hK
   have hd:decide ((l.length:Int)≥1048576)=false:=by simp;omega
   have g1:∀τ,(σ++τ)[id]? = some (.box [.own t (zvJ l),.map m]):=fun τ=>zi hb
   have g2:∀τ,(σ++τ)[t]? = some (.tok 1 l.length):=fun τ=>zi ht
   have s1:∀X τ,(σ++τ).set t X=σ.set t X++τ:=fun X τ=>zdg ht
   have hb':∀X,(σ.set t X)[id]? = some (.box [.own t (zvJ l),.map m]):=fun X=>by rw[List.getElem?_set_ne (Ne.symm n2)];exact hb
   have g3:∀X τ,(σ.set t X++τ)[id]? = some (.box [.own t (zvJ l),.map m]):=fun X τ=>zi (hb' X)
   have s2:∀X Y τ,(σ.set t X++τ).set id Y=(σ.set t X).set id Y++τ:=fun X Y τ=>zdg (hb' X)
   have g4:∀X Y τ,((σ.set t X).set id Y++τ)[id]? = some Y:=fun X Y τ=>zi (zdo (hb' X))
   have hm':∀X Y,((σ.set t X).set id Y)[m]? = some (.map (tabM l)):=fun X Y=>by rw[List.getElem?_set_ne n1,List.getElem?_set_ne (Ne.symm n3)];exact hm
   have g5:∀X Y τ,((σ.set t X).set id Y++τ)[m]? = some (.map (tabM l)):=fun X Y τ=>zi (hm' X Y)
   have s3:∀X Y Z τ,((σ.set t X).set id Y++τ).set m Z=((σ.set t X).set id Y).set m Z++τ:=fun X Y Z τ=>zdg (hm' X Y)
   refine gq26 (zdn hb (zdn hm (zdn hf (zdn hlen hd)))) ?_
   refine zjW ziy (by rw[zam];omega) ?_
   refine gq26 (zdn g1 (zdn g2 (zdn s1 (zdn g3 (zdn s2 (zdn g4 (zdn g5 (zdn s3 (zdn hf hlen))))))))) ?_
   refine⟨hb.symm,by simp,by omega,?_⟩
   have e:putTab σ id m t (l++[b])=((σ.set t (AObj.tok 1 (l.length+1))).set id (AObj.box [AV.own t (zvJ l++[[D.slice (bcs b)]]),AV.map m])).set m (AObj.map (tabM l++[(AV.d (D.str b),AV.d (D.int IntKind.i64 ((l.length+1:Nat):Int)))])):=by
    simp[putTab,tabM_add,zvJ];rw[← tabM_add];simp
   rw[← e]
   exact zeX (zpA ..) (by simp[zgQ,dmT,dm,dm1,zck]) (hT.lows hl _) hK
end Go.Proofs.YtdgcepphjnoalaaGreat

/- Contracts: an operation in memory of its own. -/
import Derived.Test.YtdgcepphjnoalaaGreatCl1
import Derived.Test.YtdgcepphjnoalaaGreatSh
import Derived.Test.YtdgcepphjnoalaaGreatAwDraw2
import Derived.Test.YtdgcepphjnoalaaGreatOp2
set_option linter.all false
set_option maxRecDepth 100000
namespace Go.Proofs.YtdgcepphjnoalaaGreat
open Go.AW
variable {σ:List AObj} {K:KT}
theorem zon {rs:List (List UInt8)}{k:Nat}{x:List UInt8}(h:rs[k]? = some x):zdT (rs.take k)++[[D.slice (bcs x)]]=zdT (rs.take (k+1)):=by
 rw[List.take_add_one,h];simp[zdT]
theorem zjY {A B:Prop}(a:A)(b:B):A/\B:=⟨a,b⟩
theorem gq9 {P Q:Prop}(h:Q)(e:P=Q:=by simp -dsimp only[↓zlG,↓zbS,↓zee,↓zlH,↓zly,↓zlw,↓zlz,↓zlx,↓zej,↓zef,↓zek,↓zeg,↓zlA,↓zeb,↓zel,↓zeh,↓zem,↓zei,↓zlv,↓zlE,↓zea,↓zep,↓zln,↓zlm,↓zlt,iN,bT,bF,eN,↓zes,↓unC,↓zaB,↓zah,↓zai,↓zav,↓zaX,↓zag,↓zgA,↓zaw,↓zbf,↓zad,↓ze,↓zj,↓zaR,↓zc,↓zaV,↓zN,↓zbT,↓zcl,↓zf,↓zF,↓zp,↓zM,↓zaA,↓zgH,↓zhI,↓zbc,↓zby,↓zcf,↓zcA,↓zdo,↓zJ,↓zbb,↓zak,↓zO,↓zaU,zhr,zdU,zdB,unA,zgx,bnd,ziS,zaO,zL,zic,dm,dm1,zH,zaF,zjW,zjV,keepO,Q0,Q1,Q2,Q3,Q4,Q5,zba,zA,zB,zY,zab,Q6,Q7,Q8,Q9,Q10,Q11,Q12,Q13,Q14,Nat.reduceAdd,Q15,Int.reduceToNat,Q16,Q17,Q18,Q19,Q20,reduceIte,Q21,Q22,zy,rep,zaq,zhW,toD,zaC,Q23,Q24,Q25,Q26,Q27,Q28,Nat.reduceLeDiff,Q29,Nat.reduceSub,Q30,Q31,Q32,sc,Q33,Q34,Q35];rfl):P:=e.mpr h
theorem gq10 {A P Q:Prop}(a:A)(h:Q)(e:A->P=Q:=by intro a;simp -dsimp only[↓zlG,↓zbS,↓zee,↓zlH,↓zly,↓zlw,↓zlz,↓zlx,↓zej,↓zef,↓zek,↓zeg,↓zlA,↓zeb,↓zel,↓zeh,↓zem,↓zei,↓zlv,↓zlE,↓zea,↓zep,↓zln,↓zlm,↓zlt,iN,bT,bF,eN,↓zes,↓unC,↓zaB,↓zah,↓zai,↓zav,↓zaX,↓zag,↓zgA,↓zaw,↓zbf,↓zad,↓ze,↓zj,↓zaR,↓zc,↓zaV,↓zN,↓zbT,↓zcl,↓zf,↓zF,↓zp,↓zM,↓zaA,↓zgH,↓zhI,↓zbc,↓zby,↓zcf,↓zcA,↓zdo,↓zJ,↓zbb,↓zak,↓zO,↓zaU,zhr,zdU,zdB,unA,zgx,bnd,ziS,zaO,zL,zic,dm,dm1,zH,zaF,zjW,zjV,keepO,Q0,Q1,Q2,Q3,Q4,Q5,zba,zA,zB,zY,zab,Q6,Q7,Q8,Q9,Q10,Q11,Q12,Q13,Q14,Nat.reduceAdd,Q15,Int.reduceToNat,Q16,Q17,Q18,Q19,Q20,reduceIte,Q21,Q22,zy,rep,zaq,zhW,toD,zaC,Q23,Q24,Q25,Q26,Q27,Q28,Nat.reduceLeDiff,Q29,Nat.reduceSub,Q30,Q31,Q32,sc,Q33,Q34,Q35,a];rfl):P:=(e a).mpr h
theorem gq11 {P Q:Prop}(h:Q)(e:P=Q:=by simp -dsimp only[↓zlG,↓zbS,↓zee,↓zlH,↓zly,↓zlw,↓zlz,↓zlx,↓zej,↓zef,↓zek,↓zeg,↓zlA,↓zeb,↓zel,↓zeh,↓zem,↓zei,↓zlv,↓zlE,↓zea,↓zep,↓zln,↓zlm,↓zlt,iN,bT,bF,eN,↓zes,↓unC,↓zaB,↓zah,↓zai,↓zav,↓zaX,↓zag,↓zgA,↓zaw,↓zbf,↓zad,↓ze,↓zj,↓zaR,↓zc,↓zaV,↓zN,↓zbT,↓zcl,↓zf,↓zF,↓zp,↓zM,↓zaA,↓zgH,↓zhI,↓zbc,↓zby,↓zcf,↓zcA,↓zdo,↓zJ,↓zbb,↓zak,↓zO,↓zaU,zhr,zdU,zdB,unA,zgx,bnd,ziS,zaO,zL,zic,dm,dm1,zH,zaF,zjW,zjV,keepO,Q0,Q1,Q2,Q3,Q4,Q5,zba,zA,zB,zY,zab,Q6,Q7,Q8,Q9,Q10,Q11,Q12,Q13,Q14,Nat.reduceAdd,Q15,Int.reduceToNat,Q16,Q17,Q18,Q19,Q20,reduceIte,Q21,Q22,zy,rep,zaq,zhW,toD,zaC,Q23,Q24,Q25,Q26,Q27,Q28,Nat.reduceLeDiff,Q29,Nat.reduceSub,Q30,Q31,Q32,sc,Q33,Q34,Q35,Bool.and_false,Bool.and_self,Bool.false_and,Bool.not_false,Bool.not_true,Bool.true_and,Int.toNat_natCast,Int.toNat_zero,List.drop_zero,List.length_map,List.length_nil,List.nil_append,List.take_length,Nat.sub_zero,Nat.zero_add,Option.isSome_none,Option.isSome_some,Option.map_none,Option.map_some,zam,beq_self_eq_true,bne_self_eq_false];rfl):P:=e.mpr h
theorem ziY {o:TOp}(hr:o.recs.length<=1073741824)(hb:∀r∈o.recs,r.length<=1073741824)(hK:K (opA o) σ):zP zix [opA o] σ K:=by
 refine zeA e_op_Clone fun hl=>?_;simp only[zzt,iN,bT,bF,eN,zl2,opA];(refine gq9 ?_;try with_reducible exact True.intro);refine zn o.recs.length (fun j vs q=>∃l0 T,vs=[if j=0 then .exact []else .own (σ.length+3) (zdT (o.recs.take j)),.d (.int .i64 j)]/\q=σ++([.box [.d (.int .i64 o.kind),.d (.str o.topic),.d (.str o.group),.d (.int .i64 o.offset),.d (.slice (zdT o.recs))],.box [.d (.int .i64 0),.d (.str []),.d (.str []),.d (.int .i64 0),.exact []]]++(if j=0 then []else .tok 1 l0::.tok 1 (zdT (o.recs.take j)).length::T))) ⟨0,[],rfl,rfl⟩ ?_;rintro j vs q hj ⟨l0,T,rfl,rfl⟩;by_cases hj0:j=0
 ·subst hj0;simp only[if_true];(refine gq9 ?_;try with_reducible exact True.intro);refine zW (fun h=>?_) (fun h=>?_)
  ·have hlt:0<o.recs.length:=by simp at h;omega
   have hx:o.recs[0]? = some o.recs[0]:=by simp[hlt]
   have hbx:=hb _ (List.getElem_mem hlt);(refine gq10 (zjY (show((0:Nat):Int)=0 from rfl) (zgC hx)) ?_;try with_reducible exact True.intro);refine⟨by omega,zka ziD (by rw[zam];omega) ?_⟩;(refine gq11 ?_;try with_reducible exact True.intro);refine⟨by simp,by simp,by simp,?_⟩;refine zaK.next hlt ⟨o.recs[0].length,[],?_,?_⟩
   ·rw[if_neg (by omega),← zon hx];rfl
   ·rw[if_neg (by omega),show(List.take (0+1) o.recs).length=1 by rw[List.length_take];omega]
  ·have hn:o.recs=[]:=by simp at h;exact h
   try(refine gq9 ?_;try with_reducible exact True.intro)
   refine zu hl ?_;rw[opA,hn]at hK;exact hK
 ·simp only[if_neg hj0];have hlj:(o.recs.take j).length=j:=by rw[List.length_take];omega
  (refine gq9 ?_;try with_reducible exact True.intro);refine zW (fun h=>?_) (fun h=>?_)
  ·have hlt:j<o.recs.length:=by simp at h;omega
   have hx:o.recs[j]? = some o.recs[j]:=by simp[hlt]
   have hbx:=hb _ (List.getElem_mem hlt);(refine gq10 (zgC hx) ?_;try with_reducible exact True.intro);refine⟨by omega,zka ziD (by rw[zam];omega) ?_⟩;(refine gq11 ?_;try with_reducible exact True.intro);refine⟨by simp,by omega,?_⟩;refine zaK.next hlt ⟨l0,T++[.tok 1 o.recs[j].length],?_,?_⟩
   ·rw[if_neg (by omega),← zon hx,show(j:Int)+1=((j+1:Nat):Int) by omega,zaW (by omega) (by omega)]
   ·rw[if_neg (by omega)];simp only[zy,List.length_take,zam,List.cons_append];rw[show min j o.recs.length+1=min (j+1) o.recs.length by omega]
  ·have hn:j=o.recs.length:=by simp at h;omega
   subst hn;(refine gq11 ?_;try with_reducible exact True.intro);refine zu hl ?_;exact hK
variable {σ:List AObj} {K:KT}
theorem gqc2 {A B:Prop}(a:A)(b:B):A/\B:=⟨a,b⟩
theorem gq12 {P Q:Prop}(h:Q)(e:P=Q:=by simp -dsimp only[↓zlG,↓zbS,↓zee,↓zlH,↓zly,↓zlw,↓zlz,↓zlx,↓zej,↓zef,↓zek,↓zeg,↓zlA,↓zeb,↓zel,↓zeh,↓zem,↓zei,↓zlv,↓zlE,↓zea,↓zep,↓zln,↓zlm,↓zlt,iN,bT,bF,eN,↓zes,↓unC,↓zaB,↓zah,↓zai,↓zav,↓zaX,↓zag,↓zgA,↓zaw,↓zbf,↓zad,↓ze,↓zj,↓zaR,↓zc,↓zaV,↓zN,↓zbT,↓zcl,↓zf,↓zF,↓zp,↓zM,↓zaA,↓zgH,↓zhI,↓zbc,↓zby,↓zcf,↓zcA,↓zdo,↓zJ,↓zbb,↓zak,↓zO,↓zaU,zhr,zdU,zdB,unA,zgx,bnd,ziS,zaO,zL,zic,dm,dm1,zH,zaF,zjW,zjV,keepO,Q0,Q1,Q2,Q3,Q4,Q5,zba,zA,zB,zY,zab,Q6,Q7,Q8,Q9,Q10,Q11,Q12,Q13,Q14,Nat.reduceAdd,Q15,Int.reduceToNat,Q16,Q17,Q18,Q19,Q20,reduceIte,Q21,Q22,zy,rep,zaq,zhW,toD,zaC,Q23,Q24,Q25,Q26,Q27,Q28,Nat.reduceLeDiff,Q29,Nat.reduceSub,Q30,Q31,Q32,sc,Q33,Q34,Q35];rfl):P:=e.mpr h
theorem gq13 {A P Q:Prop}(a:A)(h:Q)(e:A->P=Q:=by intro a;simp -dsimp only[↓zlG,↓zbS,↓zee,↓zlH,↓zly,↓zlw,↓zlz,↓zlx,↓zej,↓zef,↓zek,↓zeg,↓zlA,↓zeb,↓zel,↓zeh,↓zem,↓zei,↓zlv,↓zlE,↓zea,↓zep,↓zln,↓zlm,↓zlt,iN,bT,bF,eN,↓zes,↓unC,↓zaB,↓zah,↓zai,↓zav,↓zaX,↓zag,↓zgA,↓zaw,↓zbf,↓zad,↓ze,↓zj,↓zaR,↓zc,↓zaV,↓zN,↓zbT,↓zcl,↓zf,↓zF,↓zp,↓zM,↓zaA,↓zgH,↓zhI,↓zbc,↓zby,↓zcf,↓zcA,↓zdo,↓zJ,↓zbb,↓zak,↓zO,↓zaU,zhr,zdU,zdB,unA,zgx,bnd,ziS,zaO,zL,zic,dm,dm1,zH,zaF,zjW,zjV,keepO,Q0,Q1,Q2,Q3,Q4,Q5,zba,zA,zB,zY,zab,Q6,Q7,Q8,Q9,Q10,Q11,Q12,Q13,Q14,Nat.reduceAdd,Q15,Int.reduceToNat,Q16,Q17,Q18,Q19,Q20,reduceIte,Q21,Q22,zy,rep,zaq,zhW,toD,zaC,Q23,Q24,Q25,Q26,Q27,Q28,Nat.reduceLeDiff,Q29,Nat.reduceSub,Q30,Q31,Q32,sc,Q33,Q34,Q35,Bool.and_false,Bool.and_self,Bool.false_and,Bool.not_false,Bool.not_true,Bool.true_and,Int.toNat_natCast,Int.toNat_zero,List.drop_zero,List.length_map,List.length_nil,List.nil_append,List.take_length,Nat.sub_zero,Nat.zero_add,Option.isSome_none,Option.isSome_some,Option.map_none,Option.map_some,zam,beq_self_eq_true,bne_self_eq_false,ziC,zfj,zgm,zcf,mgetR,zcA,a];rfl):P:=(e a).mpr h
theorem c_rSame {a b:TOp}(ha:a.recs.length<=1073741824)(hb:b.recs.length<=1073741824)(hK:K (.d (.bool (decide (a=b)))) σ):zP zsY [opA a,opA b] σ K:=by
 refine zeq e_r06_Same fun hl=>?_;have fin:∀z:Bool,decide (a=b)=z->K (.d (.bool z)) σ:=fun z hz=>by rw[← hz];exact hK
 have hab:a=b↔a.kind=b.kind/\a.topic=b.topic/\a.group=b.group/\a.offset=b.offset/\a.recs=b.recs:=by cases a;cases b;simp
 clear hK;simp only[zzp,iN,bT,bF,eN,opA];(repeat'(first|(refine gq12 ?_;try with_reducible exact True.intro)|(refine zW (fun h=>?_) (fun h=>?_)<;>(try rw[h]))|((with_reducible refine And.intro ?_ ?_);focus(first|omega|rfl|decide))));all_goals first
  | (
   refine zu hl ?_
   (try simp only[decide_eq_true_eq,decide_eq_false_iff_not,beq_iff_eq,beq_eq_false_iff_ne,bne_iff_ne,ne_eq,Bool.not_eq_true',Bool.not_eq_false',bne_eq_false_iff_eq]at *)
   simp only[zcm,dmT,dm,dm1]
   apply fin
   grind)
  | skip
 have hl2:a.recs.length=b.recs.length:=by(try simp only[decide_eq_true_eq,decide_eq_false_iff_not,beq_iff_eq,beq_eq_false_iff_ne,bne_iff_ne,ne_eq,Bool.not_eq_true',Bool.not_eq_false',bne_eq_false_iff_eq]at *);omega
 refine zn a.recs.length (fun k vs s=>vs=[.d (.int .i64 k)]/\s=σ++[.box [.d (.int .i64 a.kind),.d (.str a.topic),.d (.str a.group),.d (.int .i64 a.offset),.d (.slice (zdT a.recs))],.box [.d (.int .i64 b.kind),.d (.str b.topic),.d (.str b.group),.d (.int .i64 b.offset),.d (.slice (zdT b.recs))]]/\a.recs.take k=b.recs.take k) ⟨rfl,rfl,by simp⟩ ?_;rintro k vs s hk ⟨rfl,rfl,htk⟩;(refine gq12 ?_;try with_reducible exact True.intro);refine zW (fun h=>?_) (fun h=>?_)
 ·have hka:k<a.recs.length:=by(try simp only[decide_eq_true_eq,decide_eq_false_iff_not,beq_iff_eq,beq_eq_false_iff_ne,bne_iff_ne,ne_eq,Bool.not_eq_true',Bool.not_eq_false',bne_eq_false_iff_eq]at *);omega
  have hx:a.recs[k]? = some a.recs[k]:=by simp[hka]
  have hy:b.recs[k]? = some (b.recs[k]'(by omega)):=List.getElem?_eq_getElem _;(refine gq13 (gqc2 (zgC hx) (zgC hy)) ?_;try with_reducible exact True.intro);refine And.intro (by omega) (And.intro (by omega) ?_);refine zW (fun h=>?_) (fun h=>?_)
  ·(refine gq12 ?_;try with_reducible exact True.intro);refine zaK.next hka ⟨?_,rfl,zbq hx hy htk (by simpa using h)⟩;rw[zaW (by omega) (by omega)];rfl
  ·refine zu hl ?_;simp only[zcm,dmT,dm,dm1];apply fin;rw[decide_eq_false_iff_not];rintro rfl;simp at h
 ·refine zu hl ?_;simp only[zcm,dmT,dm,dm1];have:a.recs=b.recs:=zcu hl2 (k:=k) (by(try simp only[decide_eq_true_eq,decide_eq_false_iff_not,beq_iff_eq,beq_eq_false_iff_ne,bne_iff_ne,ne_eq,Bool.not_eq_true',Bool.not_eq_false',bne_eq_false_iff_eq]at *);omega) htk;apply fin;(try simp only[decide_eq_true_eq,decide_eq_false_iff_not,beq_iff_eq,beq_eq_false_iff_ne,bne_iff_ne,ne_eq,Bool.not_eq_true',Bool.not_eq_false',bne_eq_false_iff_eq]at *);grind
end Go.Proofs.YtdgcepphjnoalaaGreat

/- Arguments of known types as data of the document. -/
namespace Go.AW
theorem list_as {α β:Type}{f:α→β}:∀ {l:List β},(∀e∈l,∃a,e=f a)->∃as_:List α,l=as_.map f
 | [],_=>⟨[],rfl⟩
 | e::l,h=>by
  obtain⟨a,rfl⟩:=h e List.mem_cons_self;obtain⟨as_,rfl⟩:=list_as (l:=l) (fun x hx=>h x (List.mem_cons_of_mem _ hx));exact⟨a::as_,rfl⟩
theorem fits1 {t:Ty}{d:D}(h:zdd [t] [d]):zml t d:=h.2 0 t d rfl rfl
theorem one_of {t:Ty}{ds:List D}(h:zdd [t] ds):∃d,ds=[d]/\zml t d:=by
 match ds,h with
 | [d],h=>exact⟨d,rfl,fits1 h⟩
theorem zt {t:Ty}{ts:List Ty}{ds:List D}(h:zdd (t::ts) ds):∃d ds',ds=d::ds'∧zml t d/\zdd ts ds':=by
 match ds,h with
 | d::ds',h=>exact⟨d,ds',rfl,h.2 0 t d rfl rfl,by have:=h.1;simpa using this,fun i t d h1 h2=>h.2 (i+1) t d h1 h2⟩
theorem zeK {ds:List D}(h:zdd [] ds):ds=[]:=by
 have:=h.1;simpa using this
theorem dec_int {k:IntKind}{d:D}(h:zml (.int k) d):∃n,d=.int k n/\(Lit.int k n).wf=true:=by cases h with|int _ n h=>exact⟨n,rfl,h⟩
theorem zaE {d:D}(h:zml (.int .i64) d):∃n,d=.int .i64 n∧-9223372036854775808<=n/\n<=9223372036854775807:=by
 obtain⟨n,hd,h2⟩:=dec_int h;exact⟨n,hd,by simpa [Lit.wf,IntKind.min,IntKind.max,IntKind.signed,IntKind.bits] using h2⟩
theorem dec_u8 {d:D}(h:zml (.int .u8) d):∃b:UInt8,d=.int .u8 b.toNat:=by
 obtain⟨n,hd,h2⟩:=dec_int h;have h':0<=n/\n<=255:=by simpa [Lit.wf,IntKind.min,IntKind.max,IntKind.signed,IntKind.bits] using h2
 exact⟨UInt8.ofNat n.toNat,by rw[hd,zpM (by omega)];congr 1;omega⟩
theorem ztA {d:D}(h:zml .str d):∃s,d=.str s:=by cases h with|str s _=>exact⟨s,rfl⟩
theorem zfT {α:Type}{ts:List Ty}{d:D}{f:α->List D}(h:zml (.slice ts) d)(hf:∀e,zdd ts e->∃a,e=f a):∃as_:List α,d=.slice (as_.map f):=by
 cases h with
 | slice _ es h1 h2 h3=>
  obtain⟨as_,rfl⟩:=list_as (f:=f) (fun e he=>hf e ⟨h2 e he,h3 e he⟩)
  exact⟨as_,rfl⟩
theorem zwJ {d:D}(h:zml (.slice [.int .u8]) d):∃bs,d=.slice (bcs bs):=zfT h fun e he=>by
 obtain⟨d,rfl,h⟩:=one_of he;obtain⟨b,rfl⟩:=dec_u8 h;exact⟨b,rfl⟩
theorem dec_recs {d:D}(h:zml (.slice [.slice [.int .u8]]) d):∃rs,d=.slice (zdT rs):=zfT h fun e he=>by
 obtain⟨d,rfl,h⟩:=one_of he;obtain⟨b,rfl⟩:=zwJ h;exact⟨b,rfl⟩
theorem zvq (bs:List UInt8):zdu (bcs bs)=bs.length:=by
 induction bs with
 | nil=>rfl
 | cons b bs ih=>simp only[bcs,List.map_cons,zci,zdu,zcR,zfW,List.length_cons]at ih ⊢;omega
theorem bulk_recs (rs:List (List UInt8)):zdu (zdT rs)=(rs.map fun r=>r.length+1).sum:=by
 induction rs with
 | nil=>rfl
 | cons r rs ih=>simp only[zdT,List.map_cons,zdu,zcR,zfW,List.sum_cons,zvq]at ih ⊢;omega
def tyOp:List Ty:=[.int .i64,.str,.str,.int .i64,.slice [.slice [.int .u8]]]
def zqn (n:Int):Prop:=-9223372036854775808<=n/\n<=9223372036854775807
def opR (o:TOp):Prop:=zqn o.kind/\zqn o.offset
def opD (o:TOp):List D:=[.int .i64 o.kind,.str o.topic,.str o.group,.int .i64 o.offset,.slice (zdT o.recs)]
theorem dec_op {ds:List D}(h:zdd tyOp ds):∃o:TOp,ds=opD o/\opR o:=by
 obtain⟨d1,ds1,rfl,h1,g1⟩:=zt h;obtain⟨k,rfl,k1,k2⟩:=zaE h1;obtain⟨d2,ds2,rfl,h2,g2⟩:=zt g1;obtain⟨t,rfl⟩:=ztA h2;obtain⟨d3,ds3,rfl,h3,g3⟩:=zt g2;obtain⟨g,rfl⟩:=ztA h3;obtain⟨d4,ds4,rfl,h4,g4⟩:=zt g3;obtain⟨f,rfl,f1,f2⟩:=zaE h4;obtain⟨d5,ds5,rfl,h5,g5⟩:=zt g4;obtain⟨r,rfl⟩:=dec_recs h5;rw[zeK g5];exact⟨⟨k,t,g,f,r⟩,rfl,⟨k1,k2⟩,f1,f2⟩
theorem opSz_bulk (o:TOp):zmW o<=10*zcR (opD o):=by
 have:(o.recs.map fun r=>r.length+10).sum<=10*(o.recs.map fun r=>r.length+1).sum:=by
  induction o.recs with
  | nil=>simp
  | cons r rs ih=>simp only[List.map_cons,List.sum_cons];omega
 simp only[zmW,opD,zcR,zfW,bulk_recs];omega
structure zI where
 key:Int
 dig:Int
deriving DecidableEq
structure zr where
 client:Int
 time:Int
 op:TOp
 key:Int
 dig:Int
deriving DecidableEq
structure zkc where
 view:Int
 seq:Int
 dig:Int
 fkey:Int
 fdig:Int
 signs:List zI
 batch:List zr
deriving DecidableEq
structure zjx where
 seq:Int
 dig:Int
 signs:List zI
deriving DecidableEq
structure zbj where
 view:Int
 src:Int
 cert:zjx
 above:List zkc
 key:Int
 dig:Int
deriving DecidableEq
structure zhS where
 view:Int
 seq:Int
 batch:List zr
 key:Int
 dig:Int
deriving DecidableEq
def zgX (s:zI):List D:=[.int .i64 s.key,.int .i64 s.dig]
abbrev zat (l:List zI):List (List D):=l.map zgX
def zaD (x:zr):List D:=[.int .i64 x.client,.int .i64 x.time,.int .i64 x.op.kind,.str x.op.topic,.str x.op.group,.int .i64 x.op.offset,.slice (zdT x.op.recs),.int .i64 x.key,.int .i64 x.dig]
abbrev zbz (b:List zr):List (List D):=b.map zaD
def zgb (p:zkc):List D:=[.int .i64 p.view,.int .i64 p.seq,.int .i64 p.dig,.int .i64 p.fkey,.int .i64 p.fdig,.slice (zat p.signs),.slice (zbz p.batch)]
abbrev zfw (l:List zkc):List (List D):=l.map zgb
def certD (c:zjx):List D:=[.int .i64 c.seq,.int .i64 c.dig,.slice (zat c.signs)]
def zaj (c:zbj):List D:=[.int .i64 c.view,.int .i64 c.src,.int .i64 c.cert.seq,.int .i64 c.cert.dig,.slice (zat c.cert.signs),.slice (zfw c.above),.int .i64 c.key,.int .i64 c.dig]
abbrev zap (l:List zbj):List (List D):=l.map zaj
def zdI (x:zhS):List D:=[.int .i64 x.view,.int .i64 x.seq,.slice (zbz x.batch),.int .i64 x.key,.int .i64 x.dig]
abbrev zbo (l:List zhS):List (List D):=l.map zdI
theorem zjn {α:Type}{f:α->List D}{n:Nat}(hf:∀a,(f a).length=n)(l:List α):∀e∈l.map f,e.length=n:=by
 intro e he;obtain⟨a,_,rfl⟩:=List.mem_map.1 he;exact hf a
theorem batch_nine (l:List zr):∀e∈zbz l,e.length=9:=zjn (f:=zaD) (fun _=>rfl) l
theorem preps_seven (l:List zkc):∀e∈zfw l,e.length=7:=zjn (f:=zgb) (fun _=>rfl) l
theorem changes_eight (l:List zbj):∀e∈zap l,e.length=8:=zjn (f:=zaj) (fun _=>rfl) l
theorem entries_five (l:List zhS):∀e∈zbo l,e.length=5:=zjn (f:=zdI) (fun _=>rfl) l
theorem zR {α:Type}{f:α->List D}{l:List α}{k:Nat}{x:α}(h:l[k]? = some x):(l.map f)[k]? = some (f x):=by simp[h]
theorem map_snoc {α:Type}{f:α->List D}{l:List α}{k:Nat}{x:α}(h:l[k]? = some x):(l.take k).map f++[f x]=(l.take (k+1)).map f:=by
 rw[List.take_add_one,h];simp
def zvB:List Ty:=[.int .i64,.int .i64]
def zvc:List Ty:=[.int .i64,.int .i64,.int .i64,.str,.str,.int .i64,.slice [.slice [.int .u8]],.int .i64,.int .i64]
def tyPrep:List Ty:=[.int .i64,.int .i64,.int .i64,.int .i64,.int .i64,.slice zvB,.slice zvc]
def tyChange:List Ty:=[.int .i64,.int .i64,.int .i64,.int .i64,.slice zvB,.slice tyPrep,.int .i64,.int .i64]
def signR (s:zI):Prop:=zqn s.key/\zqn s.dig
def signedR (x:zr):Prop:=zqn x.client/\zqn x.time/\opR x.op/\zqn x.key/\zqn x.dig
def prepR (p:zkc):Prop:=zqn p.view/\zqn p.seq/\zqn p.dig/\zqn p.fkey/\zqn p.fdig
def changeR (c:zbj):Prop:=zqn c.view/\zqn c.src/\zqn c.cert.seq/\zqn c.cert.dig/\(∀p∈c.above,prepR p)/\zqn c.key/\zqn c.dig
theorem zyM {α:Type}{ts:List Ty}{d:D}{f:α->List D}{R:α->Prop}(h:zml (.slice ts) d)(hf:∀e,zdd ts e->∃a,e=f a/\R a):∃as_:List α,d=.slice (as_.map f)/\∀a∈as_,R a:=by
 cases h with
 | slice _ es h1 h2 h3=>
  have:∀l:List (List D),(∀e∈l,zdd ts e)->∃as_:List α,l=as_.map f/\∀a∈as_,R a:=by
   intro l;induction l with
   | nil=>intro _;exact⟨[],rfl,by simp⟩
   | cons e l ih=>
    intro hl
    obtain⟨a,rfl,ha⟩:=hf e (hl e (.head _))
    obtain⟨as_,rfl,has⟩:=ih fun e he=>hl e (.tail _ he)
    exact⟨a::as_,rfl,by simpa using ⟨ha,has⟩⟩
  obtain⟨as_,rfl,h4⟩:=this es (fun e he=>⟨h2 e he,h3 e he⟩)
  exact⟨as_,rfl,h4⟩
theorem zvk {ds:List D}(h:zdd zvB ds):∃s:zI,ds=zgX s/\signR s:=by
 obtain⟨d1,ds,rfl,h1,h⟩:=zt h;obtain⟨d2,ds,rfl,h2,h⟩:=zt h;obtain rfl:=zeK h;obtain⟨a,rfl,ha⟩:=zaE h1;obtain⟨b,rfl,hb⟩:=zaE h2;exact⟨⟨a,b⟩,rfl,ha,hb⟩
theorem ztB {ds:List D}(h:zdd zvc ds):∃s:zr,ds=zaD s/\signedR s:=by
 obtain⟨d1,ds,rfl,h1,h⟩:=zt h;obtain⟨d2,ds,rfl,h2,h⟩:=zt h;obtain⟨d3,ds,rfl,h3,h⟩:=zt h;obtain⟨d4,ds,rfl,h4,h⟩:=zt h;obtain⟨d5,ds,rfl,h5,h⟩:=zt h;obtain⟨d6,ds,rfl,h6,h⟩:=zt h;obtain⟨d7,ds,rfl,h7,h⟩:=zt h;obtain⟨d8,ds,rfl,h8,h⟩:=zt h;obtain⟨d9,ds,rfl,h9,h⟩:=zt h;obtain rfl:=zeK h;obtain⟨a1,rfl,k1⟩:=zaE h1;obtain⟨a2,rfl,k2⟩:=zaE h2;obtain⟨a3,rfl,k3⟩:=zaE h3;obtain⟨a4,rfl⟩:=ztA h4;obtain⟨a5,rfl⟩:=ztA h5;obtain⟨a6,rfl,k6⟩:=zaE h6;obtain⟨a7,rfl⟩:=dec_recs h7;obtain⟨a8,rfl,k8⟩:=zaE h8;obtain⟨a9,rfl,k9⟩:=zaE h9;exact⟨⟨a1,a2,⟨a3,a4,a5,a6,a7⟩,a8,a9⟩,rfl,k1,k2,⟨k3,k6⟩,k8,k9⟩
theorem dec_prep {ds:List D}(h:zdd tyPrep ds):∃s:zkc,ds=zgb s/\prepR s:=by
 obtain⟨d1,ds,rfl,h1,h⟩:=zt h;obtain⟨d2,ds,rfl,h2,h⟩:=zt h;obtain⟨d3,ds,rfl,h3,h⟩:=zt h;obtain⟨d4,ds,rfl,h4,h⟩:=zt h;obtain⟨d5,ds,rfl,h5,h⟩:=zt h;obtain⟨d6,ds,rfl,h6,h⟩:=zt h;obtain⟨d7,ds,rfl,h7,h⟩:=zt h;obtain rfl:=zeK h;obtain⟨a1,rfl,k1⟩:=zaE h1;obtain⟨a2,rfl,k2⟩:=zaE h2;obtain⟨a3,rfl,k3⟩:=zaE h3;obtain⟨a4,rfl,k4⟩:=zaE h4;obtain⟨a5,rfl,k5⟩:=zaE h5;obtain⟨a6,rfl⟩:=zfT h6 (fun e he=>(zvk he).imp fun _ h=>h.1);obtain⟨a7,rfl⟩:=zfT h7 (fun e he=>(ztB he).imp fun _ h=>h.1);exact⟨⟨a1,a2,a3,a4,a5,a6,a7⟩,rfl,k1,k2,k3,k4,k5⟩
theorem dec_change {ds:List D}(h:zdd tyChange ds):∃s:zbj,ds=zaj s/\changeR s:=by
 obtain⟨d1,ds,rfl,h1,h⟩:=zt h;obtain⟨d2,ds,rfl,h2,h⟩:=zt h;obtain⟨d3,ds,rfl,h3,h⟩:=zt h;obtain⟨d4,ds,rfl,h4,h⟩:=zt h;obtain⟨d5,ds,rfl,h5,h⟩:=zt h;obtain⟨d6,ds,rfl,h6,h⟩:=zt h;obtain⟨d7,ds,rfl,h7,h⟩:=zt h;obtain⟨d8,ds,rfl,h8,h⟩:=zt h;obtain rfl:=zeK h;obtain⟨a1,rfl,k1⟩:=zaE h1;obtain⟨a2,rfl,k2⟩:=zaE h2;obtain⟨a3,rfl,k3⟩:=zaE h3;obtain⟨a4,rfl,k4⟩:=zaE h4;obtain⟨a5,rfl⟩:=zfT h5 (fun e he=>(zvk he).imp fun _ h=>h.1);obtain⟨a6,rfl,k6⟩:=zyM h6 (fun e he=>dec_prep he);obtain⟨a7,rfl,k7⟩:=zaE h7;obtain⟨a8,rfl,k8⟩:=zaE h8;exact⟨⟨a1,a2,⟨a3,a4,a5⟩,a6,a7,a8⟩,rfl,k1,k2,k3,k4,k6,k7,k8⟩
end Go.AW

/- Contracts: batches: in memory of their own; which are the same, by the reference. -/
set_option maxRecDepth 100000
namespace Go.Proofs.YtdgcepphjnoalaaGreat
open Go.AW
variable {σ:List AObj} {K:KT}
def zgl (b:List zr):Prop:=b.length<=1073741824/\∀x∈b,x.op.recs.length<=1073741824/\∀r∈x.op.recs,r.length<=1073741824
theorem gq14 {A P Q:Prop}(a:A)(h:Q)(e:A->P=Q:=by intro a;simp -dsimp only[↓zlG,↓zbS,↓zee,↓zlH,↓zly,↓zlw,↓zlz,↓zlx,↓zej,↓zef,↓zek,↓zeg,↓zlA,↓zeb,↓zel,↓zeh,↓zem,↓zei,↓zlv,↓zlE,↓zea,↓zep,↓zln,↓zlm,↓zlt,iN,bT,bF,eN,↓zes,↓unC,↓zaB,↓zah,↓zai,↓zav,↓zaX,↓zag,↓zgA,↓zaw,↓zbf,↓zad,↓ze,↓zj,↓zaR,↓zc,↓zaV,↓zN,↓zbT,↓zcl,↓zf,↓zF,↓zp,↓zM,↓zaA,↓zgH,↓zhI,↓zbc,↓zby,↓zcf,↓zcA,↓zdo,↓zJ,↓zbb,↓zak,↓zO,↓zaU,zhr,zdU,zdB,unA,zgx,bnd,ziS,zaO,zL,zic,dm,dm1,zH,zaF,zjW,zjV,keepO,Q0,Q1,Q2,Q3,Q4,Q5,zba,zA,zB,zY,zab,Q6,Q7,Q8,Q9,Q10,Q11,Q12,Q13,Q14,Nat.reduceAdd,Q15,Int.reduceToNat,Q16,Q17,Q18,Q19,Q20,reduceIte,Q21,Q22,zy,rep,zaq,zhW,toD,zaC,Q23,Q24,Q25,Q26,Q27,Q28,Nat.reduceLeDiff,Q29,Nat.reduceSub,Q30,Q31,Q32,sc,Q33,Q34,Q35,Bool.and_false,Bool.and_self,Bool.false_and,Bool.not_false,Bool.not_true,Bool.true_and,Int.toNat_natCast,Int.toNat_zero,List.drop_zero,List.length_map,List.length_nil,List.nil_append,List.take_length,Nat.sub_zero,Nat.zero_add,Option.isSome_none,Option.isSome_some,Option.map_none,Option.map_some,zam,beq_self_eq_true,bne_self_eq_false,zck,zaj,zdI,zch,opA,opD,zgb,zgX,zaD,a];rfl):P:=(e a).mpr h
theorem gq15 {P Q:Prop}(h:Q)(e:P=Q:=by simp -dsimp only[↓zlG,↓zbS,↓zee,↓zlH,↓zly,↓zlw,↓zlz,↓zlx,↓zej,↓zef,↓zek,↓zeg,↓zlA,↓zeb,↓zel,↓zeh,↓zem,↓zei,↓zlv,↓zlE,↓zea,↓zep,↓zln,↓zlm,↓zlt,iN,bT,bF,eN,↓zes,↓unC,↓zaB,↓zah,↓zai,↓zav,↓zaX,↓zag,↓zgA,↓zaw,↓zbf,↓zad,↓ze,↓zj,↓zaR,↓zc,↓zaV,↓zN,↓zbT,↓zcl,↓zf,↓zF,↓zp,↓zM,↓zaA,↓zgH,↓zhI,↓zbc,↓zby,↓zcf,↓zcA,↓zdo,↓zJ,↓zbb,↓zak,↓zO,↓zaU,zhr,zdU,zdB,unA,zgx,bnd,ziS,zaO,zL,zic,dm,dm1,zH,zaF,zjW,zjV,keepO,Q0,Q1,Q2,Q3,Q4,Q5,zba,zA,zB,zY,zab,Q6,Q7,Q8,Q9,Q10,Q11,Q12,Q13,Q14,Nat.reduceAdd,Q15,Int.reduceToNat,Q16,Q17,Q18,Q19,Q20,reduceIte,Q21,Q22,zy,rep,zaq,zhW,toD,zaC,Q23,Q24,Q25,Q26,Q27,Q28,Nat.reduceLeDiff,Q29,Nat.reduceSub,Q30,Q31,Q32,sc,Q33,Q34,Q35,Bool.and_false,Bool.and_self,Bool.false_and,Bool.not_false,Bool.not_true,Bool.true_and,Int.toNat_natCast,Int.toNat_zero,List.drop_zero,List.length_map,List.length_nil,List.nil_append,List.take_length,Nat.sub_zero,Nat.zero_add,Option.isSome_none,Option.isSome_some,Option.map_none,Option.map_some,zam,beq_self_eq_true,bne_self_eq_false,zck,zaj,zdI,zch,opA,opD,zgb,zgX,zaD];rfl):P:=e.mpr h
theorem zkM {b:List zr}(hb:zgl b)(hK:K (.d (.slice (zbz b))) σ):zP zcY [.d (.slice (zbz b))] σ K:=by
 refine zeA zwr fun hl=>?_;simp only[zoW,iN,bT,bF,eN,zl1];(refine gq9 ?_;try with_reducible exact True.intro);refine zn b.length (fun j vs q=>∃B T,vs=[if j=0 then .exact []else .own (σ.length+1) (zbz (b.take j)),.d (.int .i64 j)]/\q=σ++(if j=0 then []else B::.tok 9 (zbz (b.take j)).length::T)) ⟨.tok 1 0,[],rfl,by simp⟩ ?_;rintro j vs q hj ⟨B,T,rfl,rfl⟩;obtain⟨hb1,hb2⟩:=hb;by_cases hj0:j=0
 ·subst hj0;simp only[if_true];(refine gq9 ?_;try with_reducible exact True.intro);refine zW (fun h=>?_) (fun h=>?_)
  ·have hlt:0<b.length:=by simp at h;omega
   have hx:b[0]? = some b[0]:=by simp[hlt]
   obtain⟨hr1,hr2⟩:=hb2 _ (List.getElem_mem hlt);have hgx:=zR (f:=zaD) hx;have hsn:=map_snoc (f:=zaD) hx;obtain⟨x,hxe⟩:∃x,b[0]=x:=⟨_,rfl⟩;rw[hxe]at hgx hsn hr1 hr2;(refine gq14 (zjY (show((0:Nat):Int)=0 from rfl) hgx) ?_;try with_reducible exact True.intro);refine⟨by omega,ziY (o:=x.op) hr1 hr2 ?_⟩;(refine gq15 ?_;try with_reducible exact True.intro);repeat'((with_reducible refine And.intro ?_ ?_);focus(first|omega|simp))
   refine zaK.next hlt ⟨.box ((zaD x).map .d),[],?_,?_⟩
   ·rw[if_neg (by omega)];simp only[List.take_zero,List.map_nil,List.nil_append,zaD]at hsn;simp only[zbz,← hsn,Nat.zero_add];rfl
   ·rw[if_neg (by omega)];try rw[List.length_map]
    rw[show(List.take (0+1) b).length=1 by rw[List.length_take];omega];rfl
  ·have hn:b=[]:=by simp at h;exact h
   refine zu hl ?_;rw[hn]at hK;exact hK
 ·simp only[if_neg hj0];have hlj:(b.take j).length=j:=by rw[List.length_take];omega
  (refine gq9 ?_;try with_reducible exact True.intro);refine zW (fun h=>?_) (fun h=>?_)
  ·have hlt:j<b.length:=by simp at h;omega
   have hx:b[j]? = some b[j]:=by simp[hlt]
   obtain⟨hr1,hr2⟩:=hb2 _ (List.getElem_mem hlt);have hgx:=zR (f:=zaD) hx;have hsn:=map_snoc (f:=zaD) hx;obtain⟨x,hxe⟩:∃x,b[j]=x:=⟨_,rfl⟩;rw[hxe]at hgx hsn hr1 hr2;(refine gq14 hgx ?_;try with_reducible exact True.intro);refine⟨by omega,ziY (o:=x.op) hr1 hr2 ?_⟩;(refine gq15 ?_;try with_reducible exact True.intro);repeat'((with_reducible refine And.intro ?_ ?_);focus(first|omega|(simp only[List.length_map,List.length_take];omega)|simp))
   refine zaK.next hlt ⟨B,T++[.box ((zaD x).map .d)],?_,?_⟩
   ·rw[if_neg (by omega),show(j:Int)+1=((j+1:Nat):Int) by omega,zaW (by omega) (by omega)];simp only[zaD]at hsn;simp only[zbz,← hsn]
   ·rw[if_neg (by omega)];simp only[List.length_map,List.length_take,List.cons_append];rw[show min j b.length+1=min (j+1) b.length by omega];rfl
  ·have hn:j=b.length:=by simp at h;omega
   subst hn;(refine gq11 ?_;try with_reducible exact True.intro);refine zu hl ?_;exact hK
def zir (x:zr):AV:=.agg [.d (.int .i64 x.client),.d (.int .i64 x.time),.d (.int .i64 x.op.kind),.d (.str x.op.topic),.d (.str x.op.group),.d (.int .i64 x.op.offset),.d (.slice (zdT x.op.recs)),.d (.int .i64 x.key),.d (.int .i64 x.dig)]
def reqA (x:zr):AV:=.agg [.d (.int .i64 x.client),.d (.int .i64 x.time),.d (.int .i64 x.op.kind),.d (.str x.op.topic),.d (.str x.op.group),.d (.int .i64 x.op.offset),.d (.slice (zdT x.op.recs))]
theorem zqr {a b:zr}(ha:a.op.recs.length<=1073741824)(hb:b.op.recs.length<=1073741824)(hK:K (.d (.bool (decide (a.client=b.client/\a.time=b.time/\a.op=b.op)))) σ) :
  zP zgf [reqA a,reqA b] σ K:=by
 refine zeq ztw fun hl=>?_;have fin:∀z:Bool,decide (a.client=b.client/\a.time=b.time/\a.op=b.op)=z->K (.d (.bool z)) σ:=fun z hz=>by rw[← hz];exact hK
 clear hK;simp only[zmO,iN,bT,bF,eN,reqA];cases h1:(a.client==b.client)
 ·(refine gq10 h1 ?_;try with_reducible exact True.intro);refine zu hl ?_;refine fin _ (decide_eq_false ?_);rintro⟨h,_⟩;simp[h]at h1
 cases h2:(a.time==b.time)
 ·(refine gq10 (zjY h1 h2) ?_;try with_reducible exact True.intro);refine zu hl ?_;refine fin _ (decide_eq_false ?_);rintro⟨_,h,_⟩;simp[h]at h2
 (refine gq10 (zjY h1 h2) ?_;try with_reducible exact True.intro);repeat'((with_reducible refine And.intro ?_ ?_);focus(first|omega|rfl|decide))
 refine c_rSame (a:=a.op) (b:=b.op) ha hb ?_;(refine gq9 ?_;try with_reducible exact True.intro);refine zu hl ?_;refine fin _ ?_;simp only[beq_iff_eq]at h1 h2;simp only[h1,h2,true_and]
theorem zvn {a b:List zr}(ha:zgl a)(hb:zgl b)(hK:K (.d (.bool (decide (a=b)))) σ) :
  zP zkj [.d (.slice (zbz a)),.d (.slice (zbz b))] σ K:=by
 refine zeq e_r08_Same fun hl=>?_;have fin:∀z:Bool,decide (a=b)=z->K (.d (.bool z)) σ:=fun z hz=>by rw[← hz];exact hK
 clear hK;obtain⟨ha1,ha2⟩:=ha;obtain⟨hb1,hb2⟩:=hb;simp only[zzn,iN,bT,bF,eN];(refine gq11 ?_;try with_reducible exact True.intro);by_cases hl2:a.length=b.length
 ·have hne:((a.length:Int) != (b.length:Int))=false:=by simp[hl2]
  (refine gq10 hne ?_;try with_reducible exact True.intro);refine zn a.length (fun k vs s=>vs=[.d (.int .i64 k)]/\s=σ/\a.take k=b.take k) ⟨rfl,rfl,by simp⟩ ?_;rintro k vs s hk ⟨rfl,rfl,htk⟩;(refine gq11 ?_;try with_reducible exact True.intro);refine zW (fun h=>?_) (fun h=>?_)
  ·have hka:k<a.length:=by simp at h;omega
   have hx:a[k]? = some a[k]:=by simp[hka]
   have hy:b[k]? = some (b[k]'(by omega)):=List.getElem?_eq_getElem _;have ax:=(ha2 _ (List.getElem_mem hka)).1;have bx:=(hb2 _ (List.getElem_mem (show k<b.length by omega))).1;have hgx:=zR (f:=zaD) hx;have hgy:=zR (f:=zaD) hy;obtain⟨x,hxe⟩:∃x,a[k]=x:=⟨_,rfl⟩;obtain⟨y,hye⟩:∃y,b[k]'(by omega)=y:=⟨_,rfl⟩;rw[hxe]at hgx hx ax;rw[hye]at hgy hy bx;have neq:x≠y->K (.d (.bool false)) s:=fun h=>fin _ (decide_eq_false (by rintro rfl;rw[hx]at hy;exact h (Option.some.inj hy)));have hxy:x=y↔(x.client=y.client/\x.time=y.time/\x.op=y.op)/\x.key=y.key/\x.dig=y.dig:=by cases x;cases y;simp[and_assoc]
   cases h2:(x.key==y.key&&x.dig==y.dig)
   ·(refine gq14 (zjY hgx (zjY hgy h2)) ?_;try with_reducible exact True.intro);repeat'((with_reducible refine And.intro ?_ ?_);focus(first|omega|rfl|decide))
    try(refine gq14 (zjY hgx (zjY hgy h2)) ?_;try with_reducible exact True.intro)
    refine zu hl ?_;refine neq (fun h=>?_);have:=(hxy.1 h).2;simp[this.1,this.2]at h2
   ·(refine gq14 (zjY hgx (zjY hgy h2)) ?_;try with_reducible exact True.intro);repeat'((with_reducible refine And.intro ?_ ?_);focus(first|omega|rfl|decide))
    try(refine gq14 (zjY hgx (zjY hgy h2)) ?_;try with_reducible exact True.intro)
    refine zqr (a:=x) (b:=y) ax bx ?_;simp only[Bool.and_eq_true,beq_iff_eq]at h2;by_cases h3:x.client=y.client/\x.time=y.time/\x.op=y.op
    ·rw[decide_eq_true h3];(refine gq11 ?_;try with_reducible exact True.intro);refine zaK.next hka ⟨?_,rfl,zbq hx hy htk (hxy.2 ⟨h3,h2⟩)⟩;rw[show(k:Int)+1=((k+1:Nat):Int) by omega,zaW (by omega) (by omega)]
    ·rw[decide_eq_false h3];(refine gq11 ?_;try with_reducible exact True.intro);refine zu hl ?_;exact neq (fun h=>h3 (hxy.1 h).1)
  ·refine zu hl ?_;refine fin _ (decide_eq_true (zcu hl2 (k:=k) (by simp at h;omega) htk))
 ·have hne:((a.length:Int) != (b.length:Int))=true:=by simp;omega
  (refine gq10 hne ?_;try with_reducible exact True.intro);refine zu hl ?_;exact fin _ (decide_eq_false (by rintro rfl;exact hl2 rfl))
end Go.Proofs.YtdgcepphjnoalaaGreat

/- What is wrong with requests, signatures and batches, as the document says. No program in sight. -/
namespace Go.AW
def zT (x:zr):Int:=if x.client<0∨x.client≥8∨x.time<1∨x.time>9007199254740992 then 80 else zaN zev x.op
def zx (k d:Int):Int:=if k<0∨k≥21∨d<1∨d>9007199254740992 then 81 else 0
def zyJ (s:zr):Int:=if zT s≠0 then zT s else zx s.key s.dig
def znZ:List zr->Int
 | []=>0
 | s::r=>if zyJ s≠0 then zyJ s else znZ r
def ndup (a b:zr):Prop:=¬(a.client=b.client/\a.time=b.time)
instance:DecidableRel ndup:=fun a b=>inferInstanceAs (Decidable (¬_))
def zD (l:List zr):Int:=
 if l.length>4 then 3 else if znZ l≠0 then znZ l else if l.Pairwise ndup then 0 else 5
theorem zpH {l:List zr}:∀ {k:Nat} {x:zr},l[k]? = some x->znZ (l.take k)=0->zyJ x≠0->znZ l=zyJ x:=by
 induction l with
 | nil=>intro k x h;simp at h
 | cons s r ih=>
  intro k x h h0 hx
  cases k with
  | zero=>simp at h;subst h;simp[znZ,hx]
  | succ k=>
   simp only[List.take_succ_cons,znZ]at h0 ⊢
   simp at h
   split at h0
   ·rename_i hs;exact absurd h0 hs
   ·rename_i hs;rw[if_neg hs];exact ih h h0 hx
theorem zyI {l:List zr}{k:Nat}{x:zr}(h:l[k]? = some x)(h0:znZ (l.take k)=0)(hx:zyJ x=0):znZ (l.take (k+1))=0:=by
 have key:∀(a:List zr),znZ a=0->znZ (a++[x])=0:=by
  intro a;induction a with
  | nil=>intro _;simp[znZ,hx]
  | cons s r ih=>
   intro h
   simp only[List.cons_append,znZ]at h ⊢
   split at h
   ·rename_i hs;exact absurd h hs
   ·rename_i hs;rw[if_neg hs];exact ih h
 rw[List.take_add_one,h];exact key _ h0
theorem zyn {l:List zr}{k:Nat}{x:zr}(h:l[k]? = some x)(h0:(l.take k).Pairwise ndup)(hx:∀y∈l.take k,¬(x.client=y.client/\x.time=y.time)):(l.take (k+1)).Pairwise ndup:=by
 rw[List.take_add_one,h];refine List.pairwise_append.2 ⟨h0,by simp,fun a ha b hb=>?_⟩;simp at hb;subst hb;exact fun e=>hx a ha ⟨e.1.symm,e.2.symm⟩
theorem pairs_not {l:List zr}{k j:Nat}{x y:zr}(h:l[k]? = some x)(hy:l[j]? = some y)(hj:j<k)(hxy:x.client=y.client/\x.time=y.time):¬l.Pairwise ndup:=by
 intro hp;rw[List.pairwise_iff_getElem]at hp;obtain⟨hk,rfl⟩:=List.getElem?_eq_some_iff.1 h;obtain⟨hj',rfl⟩:=List.getElem?_eq_some_iff.1 hy;exact hp j k hj' hk hj ⟨hxy.1.symm,hxy.2.symm⟩
def okO (o:TOp):Prop:=o.topic.length<=1073741824/\o.group.length<=1073741824/\o.recs.length<=1073741824/\∀r∈o.recs,r.length<=1073741824
def okB (b:List zr):Prop:=b.length<=1073741824/\∀x∈b,okO x.op
end Go.AW

/- Contracts: what is wrong with requests, signatures and batches, on both sides. -/
set_option maxRecDepth 100000
namespace Go.Proofs.YtdgcepphjnoalaaGreat
open Go.AW
variable {σ:List AObj} {K:KT}
theorem zG {P Q:Prop}(h:Q)(e:Hd Q->P:=by intro h;(repeat' first|simp -dsimp only[↓zlG,↓zbS,↓zee,↓zlH,↓zly,↓zlw,↓zlz,↓zlx,↓zej,↓zef,↓zek,↓zeg,↓zlA,↓zeb,↓zel,↓zeh,↓zem,↓zei,↓zlv,↓zlE,↓zea,↓zep,↓zln,↓zlm,↓zlt,iN,bT,bF,eN,↓zes,↓unC,↓zaB,↓zah,↓zai,↓zav,↓zaX,↓zag,↓zgA,↓zaw,↓zbf,↓zad,↓ze,↓zj,↓zaR,↓zc,↓zaV,↓zN,↓zbT,↓zcl,↓zf,↓zF,↓zp,↓zM,↓zaA,↓zgH,↓zhI,↓zbc,↓zby,↓zcf,↓zcA,↓zdo,↓zJ,↓zbb,↓zak,↓zO,↓zaU,zhr,zdU,zdB,unA,zgx,bnd,ziS,zaO,zL,zic,dm,dm1,zH,zaF,zjW,zjV,keepO,Q0,Q1,Q2,Q3,Q4,Q5,zba,zA,zB,zY,zab,Q6,Q7,Q8,Q9,Q10,Q11,Q12,Q13,Q14,Nat.reduceAdd,Q15,Int.reduceToNat,Q16,Q17,Q18,Q19,Q20,reduceIte,Q21,Q22,zy,rep,zaq,zhW,toD,zaC,Q23,Q24,Q25,Q26,Q27,Q28,Nat.reduceLeDiff,Q29,Nat.reduceSub,Q30,Q31,Q32,sc,Q33,Q34,Q35,Q36,Q37,Q26,Q38,Q39,zuF,zuC,zuz,zuG,zjv,zuD,zuA,zuE,zuB,zju,zjw,zuI,zuJ,Bool.not_true,Bool.not_false,List.length_map]|with_reducible refine zuX ?_|fail);exact h.go):P:=e ⟨h⟩
theorem c_rqCheck {x:zr}(hx:okO x.op)(hK:K (.d (.int .i64 (zT x))) σ):zP zhw [reqA x] σ K:=by
 refine zeA zws fun hl=>?_;have fin:∀z,zT x=z->K (.d (.int .i64 z)) σ:=fun z h=>h▸hK;clear hK;simp only[zoX,iN,bT,bF,eN,reqA];(repeat'(first|(refine gq4 ?_;try with_reducible exact True.intro)|(refine zW (fun h=>?_) (fun h=>?_)<;>(try rw[h]))|((with_reducible refine And.intro ?_ ?_);focus(first|omega|rfl|decide))));all_goals first
  | (
   refine zu hl ?_
   (try simp only[decide_eq_true_eq,decide_eq_false_iff_not,beq_iff_eq,beq_eq_false_iff_ne,bne_iff_ne,ne_eq,Bool.not_eq_true',Bool.not_eq_false',bne_eq_false_iff_eq]at *)
   exact fin _ (by rw[zT,if_pos (by omega)]))
  | skip
 refine zwY (o:=x.op) hx.1 hx.2.1 hx.2.2.1 ?_;refine zG ?_;refine zu hl ?_;(try simp only[decide_eq_true_eq,decide_eq_false_iff_not,beq_iff_eq,beq_eq_false_iff_ne,bne_iff_ne,ne_eq,Bool.not_eq_true',Bool.not_eq_false',bne_eq_false_iff_eq]at *);exact fin _ (by rw[zT,if_neg (by omega)])
theorem c_rKey {c:Int}(hK:K (.d (.int .i64 (if c<0∨c≥8 then -1 else 13+c))) σ):zP zow [.d (.int .i64 c)] σ K:=by
 refine zeA e_r08_Key fun hl=>?_;have fin:∀z,(if c<0∨c≥8 then -1 else 13+c)=z->K (.d (.int .i64 z)) σ:=fun z h=>h▸hK;clear hK;simp only[S_r08_Key,iN,bT,bF,eN];(repeat'(first|(refine gq4 ?_;try with_reducible exact True.intro)|(refine zW (fun h=>?_) (fun h=>?_)<;>(try rw[h]))|((with_reducible refine And.intro ?_ ?_);focus(first|omega|rfl|decide))));all_goals
  refine zu hl ?_
  (try simp only[decide_eq_true_eq,decide_eq_false_iff_not,beq_iff_eq,beq_eq_false_iff_ne,bne_iff_ne,ne_eq,Bool.not_eq_true',Bool.not_eq_false',bne_eq_false_iff_eq]at *)
 ·exact fin _ (by rw[if_pos (by omega)])
 ·exact fin _ (by rw[if_pos (by omega)])
 ·exact fin _ (by rw[if_neg (by omega),zaW (by omega) (by omega)])
theorem zm {A P Q:Prop}(a:A)(h:Q)(e:A->Hd Q->P:=by intro a h;(repeat' first|simp -dsimp only[↓zlG,↓zbS,↓zee,↓zlH,↓zly,↓zlw,↓zlz,↓zlx,↓zej,↓zef,↓zek,↓zeg,↓zlA,↓zeb,↓zel,↓zeh,↓zem,↓zei,↓zlv,↓zlE,↓zea,↓zep,↓zln,↓zlm,↓zlt,iN,bT,bF,eN,↓zes,↓unC,↓zaB,↓zah,↓zai,↓zav,↓zaX,↓zag,↓zgA,↓zaw,↓zbf,↓zad,↓ze,↓zj,↓zaR,↓zc,↓zaV,↓zN,↓zbT,↓zcl,↓zf,↓zF,↓zp,↓zM,↓zaA,↓zgH,↓zhI,↓zbc,↓zby,↓zcf,↓zcA,↓zdo,↓zJ,↓zbb,↓zak,↓zO,↓zaU,zhr,zdU,zdB,unA,zgx,bnd,ziS,zaO,zL,zic,dm,dm1,zH,zaF,zjW,zjV,keepO,Q0,Q1,Q2,Q3,Q4,Q5,zba,zA,zB,zY,zab,Q6,Q7,Q8,Q9,Q10,Q11,Q12,Q13,Q14,Nat.reduceAdd,Q15,Int.reduceToNat,Q16,Q17,Q18,Q19,Q20,reduceIte,Q21,Q22,zy,rep,zaq,zhW,toD,zaC,Q23,Q24,Q25,Q26,Q27,Q28,Nat.reduceLeDiff,Q29,Nat.reduceSub,Q30,Q31,Q32,sc,Q33,Q34,Q35,Q36,Q37,Q26,Q38,Q39,zuF,zuC,zuz,zuG,zjv,zuD,zuA,zuE,zuB,zju,zjw,zuI,zuJ,Bool.not_true,Bool.not_false,List.length_map,a]|with_reducible refine zuX ?_|fail);exact h.go):P:=e a ⟨h⟩
theorem zyR {x:zr}(hx:okO x.op)(hK:K (.d (.int .i64 (zT x))) σ):zP znf [reqA x] σ K:=by
 refine zeA e_r08_Check fun hl=>?_;have fin:∀z,zT x=z->K (.d (.int .i64 z)) σ:=fun z h=>h▸hK;clear hK;simp only[zxo,iN,bT,bF,eN,reqA];refine zG ?_;refine c_rKey ?_;by_cases hc:x.client<0∨x.client≥8
 ·rw[if_pos hc];refine zm (show decide ((-1:Int)<0)=true from rfl) ?_;refine zu hl ?_;exact fin _ (by rw[zT,if_pos (by omega)])
 ·rw[if_neg hc];have h0:decide (13+x.client<0)=false:=by simp;omega
  (refine gq6 h0 ?_;try with_reducible exact True.intro);(repeat'(first|(refine gq4 ?_;try with_reducible exact True.intro)|(refine zW (fun h=>?_) (fun h=>?_)<;>(try rw[h]))|((with_reducible refine And.intro ?_ ?_);focus(first|omega|rfl|decide))));all_goals first
   | (
    refine zu hl ?_
    (try simp only[decide_eq_true_eq,decide_eq_false_iff_not,beq_iff_eq,beq_eq_false_iff_ne,bne_iff_ne,ne_eq,Bool.not_eq_true',Bool.not_eq_false',bne_eq_false_iff_eq]at *)
    exact fin _ (by rw[zT,if_pos (by omega)]))
   | skip
  refine zAx (o:=x.op) hx.1 hx.2.1 hx.2.2.1 ?_;refine zG ?_;refine zu hl ?_;(try simp only[decide_eq_true_eq,decide_eq_false_iff_not,beq_iff_eq,beq_eq_false_iff_ne,bne_iff_ne,ne_eq,Bool.not_eq_true',Bool.not_eq_false',bne_eq_false_iff_eq]at *);exact fin _ (by rw[zT,if_neg (by omega)])
theorem zbM {k d:Int}(hK:K (.d (.int .i64 (zx k d))) σ):zP zbl [.agg [.d (.int .i64 k),.d (.int .i64 d)]] σ K:=by
 refine zeA zrf fun hl=>?_;have fin:∀z,zx k d=z->K (.d (.int .i64 z)) σ:=fun z h=>h▸hK;clear hK;simp only[zkO,iN,bT,bF,eN];(repeat'(first|(refine gq4 ?_;try with_reducible exact True.intro)|(refine zW (fun h=>?_) (fun h=>?_)<;>(try rw[h]))|((with_reducible refine And.intro ?_ ?_);focus(first|omega|rfl|decide))));all_goals
  refine zu hl ?_
  (try simp only[decide_eq_true_eq,decide_eq_false_iff_not,beq_iff_eq,beq_eq_false_iff_ne,bne_iff_ne,ne_eq,Bool.not_eq_true',Bool.not_eq_false',bne_eq_false_iff_eq]at *)
  first|exact fin _ (by rw[zx,if_pos (by omega)])|exact fin _ (by rw[zx,if_neg (by omega)])
theorem zbI {k d:Int}(hK:K (.d (.int .i64 (zx k d))) σ):zP zbD [.agg [.d (.int .i64 k),.d (.int .i64 d)]] σ K:=by
 refine zeA zwC fun hl=>?_;have fin:∀z,zx k d=z->K (.d (.int .i64 z)) σ:=fun z h=>h▸hK;clear hK;simp only[zpg,iN,bT,bF,eN];(repeat'(first|(refine gq4 ?_;try with_reducible exact True.intro)|(refine zW (fun h=>?_) (fun h=>?_)<;>(try rw[h]))|((with_reducible refine And.intro ?_ ?_);focus(first|omega|rfl|decide))));all_goals
  refine zu hl ?_
  (try simp only[decide_eq_true_eq,decide_eq_false_iff_not,beq_iff_eq,beq_eq_false_iff_ne,bne_iff_ne,ne_eq,Bool.not_eq_true',Bool.not_eq_false',bne_eq_false_iff_eq]at *)
  first|exact fin _ (by rw[zx,if_pos (by omega)])|exact fin _ (by rw[zx,if_neg (by omega)])
end Go.Proofs.YtdgcepphjnoalaaGreat

/- Contracts: an operation in memory of its own. -/
import Derived.Test.YtdgcepphjnoalaaGreatSh
import Derived.Test.YtdgcepphjnoalaaGreatSpNum
set_option linter.all false
set_option maxRecDepth 100000
namespace Go.Proofs.YtdgcepphjnoalaaGreat
open Go.AW
variable {σ:List AObj}
theorem zok {rs:List (List UInt8)}{k:Nat}{x:List UInt8}(h:rs[k]? = some x):zdQ (rs.take k)++[[D.slice (bcs x)]]=zdQ (rs.take (k+1)):=by
 rw[List.take_add_one,h];simp[zdQ]
theorem zjR {A B:Prop}(a:A)(b:B):A/\B:=⟨a,b⟩
theorem gq9 {P Q:Prop}(h:Q)(e:P=Q:=by simp -dsimp only[↓zmg,↓zcf,↓zep,↓zmh,↓zmb,↓zlZ,↓zmc,↓zma,↓zeu,↓zeq,↓zev,↓zer,↓zmd,↓zeo,↓zew,↓zes,↓zex,↓zet,↓zlY,↓zmf,↓zen,↓zey,↓zlW,↓zlV,↓zlX,iN,bT,bF,eN,↓zeO,↓unC,↓zaE,↓zan,↓zao,↓zaA,↓zbf,↓zah,↓zgR,↓zaz,↓zbe,↓zae,↓ze,↓zl,↓zbc,↓zc,↓zaY,↓zM,↓zce,↓zcB,↓zf,↓zF,↓zr,↓zN,↓zaC,↓zgY,↓zhU,↓zbi,↓zbJ,↓zcj,↓zcM,↓zdG,↓zL,↓zbh,↓zap,↓zR,↓zbb,zhS,zdY,zdS,unA,zgE,bnd,zjr,zaP,zK,ziD,dm,dm1,zH,zaI,zkw,zkv,keepO,Q0,Q1,Q2,Q3,Q4,Q5,zbg,zA,zC,zZ,zad,Q6,Q7,Q8,Q9,Q10,Q11,Q12,Q13,Q14,Nat.reduceAdd,Q15,Int.reduceToNat,Q16,Q17,Q18,Q19,Q20,reduceIte,Q21,Q22,zy,rep,zaq,zil,toD,zaD,Q23,Q24,Q25,Q26,Q27,Q28,Nat.reduceLeDiff,Q29,Nat.reduceSub,Q30,Q31,Q32,sc,Q33,Q34,Q35];rfl):P:=e.mpr h
theorem gq10 {A P Q:Prop}(a:A)(h:Q)(e:A->P=Q:=by intro a;simp -dsimp only[↓zmg,↓zcf,↓zep,↓zmh,↓zmb,↓zlZ,↓zmc,↓zma,↓zeu,↓zeq,↓zev,↓zer,↓zmd,↓zeo,↓zew,↓zes,↓zex,↓zet,↓zlY,↓zmf,↓zen,↓zey,↓zlW,↓zlV,↓zlX,iN,bT,bF,eN,↓zeO,↓unC,↓zaE,↓zan,↓zao,↓zaA,↓zbf,↓zah,↓zgR,↓zaz,↓zbe,↓zae,↓ze,↓zl,↓zbc,↓zc,↓zaY,↓zM,↓zce,↓zcB,↓zf,↓zF,↓zr,↓zN,↓zaC,↓zgY,↓zhU,↓zbi,↓zbJ,↓zcj,↓zcM,↓zdG,↓zL,↓zbh,↓zap,↓zR,↓zbb,zhS,zdY,zdS,unA,zgE,bnd,zjr,zaP,zK,ziD,dm,dm1,zH,zaI,zkw,zkv,keepO,Q0,Q1,Q2,Q3,Q4,Q5,zbg,zA,zC,zZ,zad,Q6,Q7,Q8,Q9,Q10,Q11,Q12,Q13,Q14,Nat.reduceAdd,Q15,Int.reduceToNat,Q16,Q17,Q18,Q19,Q20,reduceIte,Q21,Q22,zy,rep,zaq,zil,toD,zaD,Q23,Q24,Q25,Q26,Q27,Q28,Nat.reduceLeDiff,Q29,Nat.reduceSub,Q30,Q31,Q32,sc,Q33,Q34,Q35,a];rfl):P:=(e a).mpr h
theorem gq11 {P Q:Prop}(h:Q)(e:P=Q:=by simp -dsimp only[↓zmg,↓zcf,↓zep,↓zmh,↓zmb,↓zlZ,↓zmc,↓zma,↓zeu,↓zeq,↓zev,↓zer,↓zmd,↓zeo,↓zew,↓zes,↓zex,↓zet,↓zlY,↓zmf,↓zen,↓zey,↓zlW,↓zlV,↓zlX,iN,bT,bF,eN,↓zeO,↓unC,↓zaE,↓zan,↓zao,↓zaA,↓zbf,↓zah,↓zgR,↓zaz,↓zbe,↓zae,↓ze,↓zl,↓zbc,↓zc,↓zaY,↓zM,↓zce,↓zcB,↓zf,↓zF,↓zr,↓zN,↓zaC,↓zgY,↓zhU,↓zbi,↓zbJ,↓zcj,↓zcM,↓zdG,↓zL,↓zbh,↓zap,↓zR,↓zbb,zhS,zdY,zdS,unA,zgE,bnd,zjr,zaP,zK,ziD,dm,dm1,zH,zaI,zkw,zkv,keepO,Q0,Q1,Q2,Q3,Q4,Q5,zbg,zA,zC,zZ,zad,Q6,Q7,Q8,Q9,Q10,Q11,Q12,Q13,Q14,Nat.reduceAdd,Q15,Int.reduceToNat,Q16,Q17,Q18,Q19,Q20,reduceIte,Q21,Q22,zy,rep,zaq,zil,toD,zaD,Q23,Q24,Q25,Q26,Q27,Q28,Nat.reduceLeDiff,Q29,Nat.reduceSub,Q30,Q31,Q32,sc,Q33,Q34,Q35,Bool.and_false,Bool.and_self,Bool.false_and,Bool.not_false,Bool.not_true,Bool.true_and,Int.toNat_natCast,Int.toNat_zero,List.drop_zero,List.length_map,List.length_nil,List.nil_append,List.take_length,Nat.sub_zero,Nat.zero_add,Option.isSome_none,Option.isSome_some,Option.map_none,Option.map_some,zaj,beq_self_eq_true,bne_self_eq_false];rfl):P:=e.mpr h
theorem ziV {o:TOp}(hr:o.recs.length<=1073741824)(hb:∀r∈o.recs,r.length<=1073741824){K:KT}(hK:K (opA o) σ):zP ziu [opA o] σ K:=by
 refine zez e_op_Clone fun hl=>?_;simp only[zzr,iN,bT,bF,eN,zl2,opA];(refine gq9 ?_;try with_reducible exact True.intro);refine zn o.recs.length (fun j vs q=>∃l0 T,vs=[if j=0 then .exact []else .own (σ.length+3) (zdQ (o.recs.take j)),.d (.int .i64 j)]/\q=σ++([.box [.d (.int .i64 o.kind),.d (.str o.topic),.d (.str o.group),.d (.int .i64 o.offset),.d (.slice (zdQ o.recs))],.box [.d (.int .i64 0),.d (.str []),.d (.str []),.d (.int .i64 0),.exact []]]++(if j=0 then []else .tok 1 l0::.tok 1 (zdQ (o.recs.take j)).length::T))) ⟨0,[],rfl,rfl⟩ ?_;rintro j vs q hj ⟨l0,T,rfl,rfl⟩;by_cases hj0:j=0
 ·subst hj0;simp only[if_true];(refine gq9 ?_;try with_reducible exact True.intro);refine zV (fun h=>?_) (fun h=>?_)
  ·have hlt:0<o.recs.length:=by simp at h;omega
   have hx:o.recs[0]? = some o.recs[0]:=by simp[hlt]
   have hbx:=hb _ (List.getElem_mem hlt);(refine gq10 (zjR (show((0:Nat):Int)=0 from rfl) (zgx hx)) ?_;try with_reducible exact True.intro);refine⟨by omega,zjS ziA (by rw[zaj];omega) ?_⟩;(refine gq11 ?_;try with_reducible exact True.intro);refine⟨by simp,by simp,by simp,?_⟩;refine zaK.next hlt ⟨o.recs[0].length,[],?_,?_⟩
   ·rw[if_neg (by omega),← zok hx];rfl
   ·rw[if_neg (by omega),show(List.take (0+1) o.recs).length=1 by rw[List.length_take];omega]
  ·have hn:o.recs=[]:=by simp at h;exact h
   try(refine gq9 ?_;try with_reducible exact True.intro)
   refine zu hl ?_;rw[opA,hn]at hK;exact hK
 ·simp only[if_neg hj0];have hlj:(o.recs.take j).length=j:=by rw[List.length_take];omega
  (refine gq9 ?_;try with_reducible exact True.intro);refine zV (fun h=>?_) (fun h=>?_)
  ·have hlt:j<o.recs.length:=by simp at h;omega
   have hx:o.recs[j]? = some o.recs[j]:=by simp[hlt]
   have hbx:=hb _ (List.getElem_mem hlt);(refine gq10 (zgx hx) ?_;try with_reducible exact True.intro);refine⟨by omega,zjS ziA (by rw[zaj];omega) ?_⟩;(refine gq11 ?_;try with_reducible exact True.intro);refine⟨by simp,by omega,?_⟩;refine zaK.next hlt ⟨l0,T++[.tok 1 o.recs[j].length],?_,?_⟩
   ·rw[if_neg (by omega),← zok hx,show(j:Int)+1=((j+1:Nat):Int) by omega,zaQ (by omega) (by omega)]
   ·rw[if_neg (by omega)];simp only[zy,List.length_take,zaj,List.cons_append];rw[show min j o.recs.length+1=min (j+1) o.recs.length by omega]
  ·have hn:j=o.recs.length:=by simp at h;omega
   subst hn;(refine gq11 ?_;try with_reducible exact True.intro);refine zu hl ?_;exact hK
variable {σ:List AObj}
theorem gqc2 {A B:Prop}(a:A)(b:B):A/\B:=⟨a,b⟩
theorem gq12 {P Q:Prop}(h:Q)(e:P=Q:=by simp -dsimp only[↓zmg,↓zcf,↓zep,↓zmh,↓zmb,↓zlZ,↓zmc,↓zma,↓zeu,↓zeq,↓zev,↓zer,↓zmd,↓zeo,↓zew,↓zes,↓zex,↓zet,↓zlY,↓zmf,↓zen,↓zey,↓zlW,↓zlV,↓zlX,iN,bT,bF,eN,↓zeO,↓unC,↓zaE,↓zan,↓zao,↓zaA,↓zbf,↓zah,↓zgR,↓zaz,↓zbe,↓zae,↓ze,↓zl,↓zbc,↓zc,↓zaY,↓zM,↓zce,↓zcB,↓zf,↓zF,↓zr,↓zN,↓zaC,↓zgY,↓zhU,↓zbi,↓zbJ,↓zcj,↓zcM,↓zdG,↓zL,↓zbh,↓zap,↓zR,↓zbb,zhS,zdY,zdS,unA,zgE,bnd,zjr,zaP,zK,ziD,dm,dm1,zH,zaI,zkw,zkv,keepO,Q0,Q1,Q2,Q3,Q4,Q5,zbg,zA,zC,zZ,zad,Q6,Q7,Q8,Q9,Q10,Q11,Q12,Q13,Q14,Nat.reduceAdd,Q15,Int.reduceToNat,Q16,Q17,Q18,Q19,Q20,reduceIte,Q21,Q22,zy,rep,zaq,zil,toD,zaD,Q23,Q24,Q25,Q26,Q27,Q28,Nat.reduceLeDiff,Q29,Nat.reduceSub,Q30,Q31,Q32,sc,Q33,Q34,Q35];rfl):P:=e.mpr h
theorem gq13 {A P Q:Prop}(a:A)(h:Q)(e:A->P=Q:=by intro a;simp -dsimp only[↓zmg,↓zcf,↓zep,↓zmh,↓zmb,↓zlZ,↓zmc,↓zma,↓zeu,↓zeq,↓zev,↓zer,↓zmd,↓zeo,↓zew,↓zes,↓zex,↓zet,↓zlY,↓zmf,↓zen,↓zey,↓zlW,↓zlV,↓zlX,iN,bT,bF,eN,↓zeO,↓unC,↓zaE,↓zan,↓zao,↓zaA,↓zbf,↓zah,↓zgR,↓zaz,↓zbe,↓zae,↓ze,↓zl,↓zbc,↓zc,↓zaY,↓zM,↓zce,↓zcB,↓zf,↓zF,↓zr,↓zN,↓zaC,↓zgY,↓zhU,↓zbi,↓zbJ,↓zcj,↓zcM,↓zdG,↓zL,↓zbh,↓zap,↓zR,↓zbb,zhS,zdY,zdS,unA,zgE,bnd,zjr,zaP,zK,ziD,dm,dm1,zH,zaI,zkw,zkv,keepO,Q0,Q1,Q2,Q3,Q4,Q5,zbg,zA,zC,zZ,zad,Q6,Q7,Q8,Q9,Q10,Q11,Q12,Q13,Q14,Nat.reduceAdd,Q15,Int.reduceToNat,Q16,Q17,Q18,Q19,Q20,reduceIte,Q21,Q22,zy,rep,zaq,zil,toD,zaD,Q23,Q24,Q25,Q26,Q27,Q28,Nat.reduceLeDiff,Q29,Nat.reduceSub,Q30,Q31,Q32,sc,Q33,Q34,Q35,Bool.and_false,Bool.and_self,Bool.false_and,Bool.not_false,Bool.not_true,Bool.true_and,Int.toNat_natCast,Int.toNat_zero,List.drop_zero,List.length_map,List.length_nil,List.nil_append,List.take_length,Nat.sub_zero,Nat.zero_add,Option.isSome_none,Option.isSome_some,Option.map_none,Option.map_some,zaj,beq_self_eq_true,bne_self_eq_false,ziz,zfg,zgh,zcj,mgetR,zcM,a];rfl):P:=(e a).mpr h
theorem c_rSame {a b:TOp}(ha:a.recs.length<=1073741824)(hb:b.recs.length<=1073741824){K:KT}(hK:K (.d (.bool (decide (a=b)))) σ):zP zsY [opA a,opA b] σ K:=by
 refine zec e_r06_Same fun hl=>?_;have fin:∀z:Bool,decide (a=b)=z->K (.d (.bool z)) σ:=fun z hz=>by rw[← hz];exact hK
 have hab:a=b↔a.kind=b.kind/\a.topic=b.topic/\a.group=b.group/\a.offset=b.offset/\a.recs=b.recs:=by cases a;cases b;simp
 clear hK;simp only[zzn,iN,bT,bF,eN,opA];(repeat'(first|(refine gq12 ?_;try with_reducible exact True.intro)|(refine zV (fun h=>?_) (fun h=>?_)<;>(try rw[h]))|((with_reducible refine And.intro ?_ ?_);focus(first|omega|rfl|decide))));all_goals first
  | (
   refine zu hl ?_
   (try simp only[decide_eq_true_eq,decide_eq_false_iff_not,beq_iff_eq,beq_eq_false_iff_ne,bne_iff_ne,ne_eq,Bool.not_eq_true',Bool.not_eq_false',bne_eq_false_iff_eq]at *)
   simp only[zcm,dmT,dm,dm1]
   apply fin
   grind)
  | skip
 have hl2:a.recs.length=b.recs.length:=by exact zop
 refine zn a.recs.length (fun k vs s=>vs=[.d (.int .i64 k)]/\s=σ++[.box [.d (.int .i64 a.kind),.d (.str a.topic),.d (.str a.group),.d (.int .i64 a.offset),.d (.slice (zdQ a.recs))],.box [.d (.int .i64 b.kind),.d (.str b.topic),.d (.str b.group),.d (.int .i64 b.offset),.d (.slice (zdQ b.recs))]]/\a.recs.take k=b.recs.take k) ⟨rfl,rfl,by simp⟩ ?_;rintro k vs s hk ⟨rfl,rfl,htk⟩;(refine gq12 ?_;try with_reducible exact True.intro);refine zV (fun h=>?_) (fun h=>?_)
 ·have hka:k<a.recs.length:=by exact zop
  have hx:a.recs[k]? = some a.recs[k]:=by simp[hka]
  have hy:b.recs[k]? = some (b.recs[k]'(by omega)):=List.getElem?_eq_getElem _;(refine gq13 (gqc2 (zgx hx) (zgx hy)) ?_;try with_reducible exact True.intro);refine And.intro (by omega) (And.intro (by omega) ?_);refine zV (fun h=>?_) (fun h=>?_)
  ·(refine gq12 ?_;try with_reducible exact True.intro);refine zaK.next hka ⟨?_,rfl,zbs hx hy htk (by simpa using h)⟩;rw[zaQ (by omega) (by omega)];rfl
  ·refine zu hl ?_;simp only[zcm,dmT,dm,dm1];apply fin;rw[decide_eq_false_iff_not];rintro rfl;simp at h
 ·refine zu hl ?_;simp only[zcm,dmT,dm,dm1];have:a.recs=b.recs:=zcv hl2 (k:=k) (by exact zop) htk;apply fin;(try simp only[decide_eq_true_eq,decide_eq_false_iff_not,beq_iff_eq,beq_eq_false_iff_ne,bne_iff_ne,ne_eq,Bool.not_eq_true',Bool.not_eq_false',bne_eq_false_iff_eq]at *);grind
variable {σ:List AObj}
def zgv (b:List zp):Prop:=b.length<=1073741824/\∀x∈b,x.op.recs.length<=1073741824/\∀r∈x.op.recs,r.length<=1073741824
theorem gq14 {A P Q:Prop}(a:A)(h:Q)(e:A->P=Q:=by intro a;simp -dsimp only[↓zmg,↓zcf,↓zep,↓zmh,↓zmb,↓zlZ,↓zmc,↓zma,↓zeu,↓zeq,↓zev,↓zer,↓zmd,↓zeo,↓zew,↓zes,↓zex,↓zet,↓zlY,↓zmf,↓zen,↓zey,↓zlW,↓zlV,↓zlX,iN,bT,bF,eN,↓zeO,↓unC,↓zaE,↓zan,↓zao,↓zaA,↓zbf,↓zah,↓zgR,↓zaz,↓zbe,↓zae,↓ze,↓zl,↓zbc,↓zc,↓zaY,↓zM,↓zce,↓zcB,↓zf,↓zF,↓zr,↓zN,↓zaC,↓zgY,↓zhU,↓zbi,↓zbJ,↓zcj,↓zcM,↓zdG,↓zL,↓zbh,↓zap,↓zR,↓zbb,zhS,zdY,zdS,unA,zgE,bnd,zjr,zaP,zK,ziD,dm,dm1,zH,zaI,zkw,zkv,keepO,Q0,Q1,Q2,Q3,Q4,Q5,zbg,zA,zC,zZ,zad,Q6,Q7,Q8,Q9,Q10,Q11,Q12,Q13,Q14,Nat.reduceAdd,Q15,Int.reduceToNat,Q16,Q17,Q18,Q19,Q20,reduceIte,Q21,Q22,zy,rep,zaq,zil,toD,zaD,Q23,Q24,Q25,Q26,Q27,Q28,Nat.reduceLeDiff,Q29,Nat.reduceSub,Q30,Q31,Q32,sc,Q33,Q34,Q35,Bool.and_false,Bool.and_self,Bool.false_and,Bool.not_false,Bool.not_true,Bool.true_and,Int.toNat_natCast,Int.toNat_zero,List.drop_zero,List.length_map,List.length_nil,List.nil_append,List.take_length,Nat.sub_zero,Nat.zero_add,Option.isSome_none,Option.isSome_some,Option.map_none,Option.map_some,zaj,beq_self_eq_true,bne_self_eq_false,zck,zhJ,zag,zdg,zrY,zcl,zor,opA,opD,zfx,zgo,zaw,a];rfl):P:=(e a).mpr h
theorem gq15 {P Q:Prop}(h:Q)(e:P=Q:=by simp -dsimp only[↓zmg,↓zcf,↓zep,↓zmh,↓zmb,↓zlZ,↓zmc,↓zma,↓zeu,↓zeq,↓zev,↓zer,↓zmd,↓zeo,↓zew,↓zes,↓zex,↓zet,↓zlY,↓zmf,↓zen,↓zey,↓zlW,↓zlV,↓zlX,iN,bT,bF,eN,↓zeO,↓unC,↓zaE,↓zan,↓zao,↓zaA,↓zbf,↓zah,↓zgR,↓zaz,↓zbe,↓zae,↓ze,↓zl,↓zbc,↓zc,↓zaY,↓zM,↓zce,↓zcB,↓zf,↓zF,↓zr,↓zN,↓zaC,↓zgY,↓zhU,↓zbi,↓zbJ,↓zcj,↓zcM,↓zdG,↓zL,↓zbh,↓zap,↓zR,↓zbb,zhS,zdY,zdS,unA,zgE,bnd,zjr,zaP,zK,ziD,dm,dm1,zH,zaI,zkw,zkv,keepO,Q0,Q1,Q2,Q3,Q4,Q5,zbg,zA,zC,zZ,zad,Q6,Q7,Q8,Q9,Q10,Q11,Q12,Q13,Q14,Nat.reduceAdd,Q15,Int.reduceToNat,Q16,Q17,Q18,Q19,Q20,reduceIte,Q21,Q22,zy,rep,zaq,zil,toD,zaD,Q23,Q24,Q25,Q26,Q27,Q28,Nat.reduceLeDiff,Q29,Nat.reduceSub,Q30,Q31,Q32,sc,Q33,Q34,Q35,Bool.and_false,Bool.and_self,Bool.false_and,Bool.not_false,Bool.not_true,Bool.true_and,Int.toNat_natCast,Int.toNat_zero,List.drop_zero,List.length_map,List.length_nil,List.nil_append,List.take_length,Nat.sub_zero,Nat.zero_add,Option.isSome_none,Option.isSome_some,Option.map_none,Option.map_some,zaj,beq_self_eq_true,bne_self_eq_false,zck,zhJ,zag,zdg,zrY,zcl,zor,opA,opD,zfx,zgo,zaw];rfl):P:=e.mpr h
theorem zkH {b:List zp}(hb:zgv b){K:KT}(hK:K (.d (.slice (zbA b))) σ):zP zcY [.d (.slice (zbA b))] σ K:=by
 refine zez zwl fun hl=>?_;simp only[zoU,iN,bT,bF,eN,zl1];(refine gq9 ?_;try with_reducible exact True.intro);refine zn b.length (fun j vs q=>∃B T,vs=[if j=0 then .exact []else .own (σ.length+1) (zbA (b.take j)),.d (.int .i64 j)]/\q=σ++(if j=0 then []else B::.tok 9 (zbA (b.take j)).length::T)) ⟨.tok 1 0,[],rfl,by simp⟩ ?_;rintro j vs q hj ⟨B,T,rfl,rfl⟩;obtain⟨hb1,hb2⟩:=hb;by_cases hj0:j=0
 ·subst hj0;simp only[if_true];(refine gq9 ?_;try with_reducible exact True.intro);refine zV (fun h=>?_) (fun h=>?_)
  ·have hlt:0<b.length:=by simp at h;omega
   have hx:b[0]? = some b[0]:=by simp[hlt]
   obtain⟨hr1,hr2⟩:=hb2 _ (List.getElem_mem hlt);have hgx:=zQ (f:=zaw) hx;have hsn:=map_snoc (f:=zaw) hx;obtain⟨x,hxe⟩:∃x,b[0]=x:=⟨_,rfl⟩;rw[hxe]at hgx hsn hr1 hr2;(refine gq14 (zjR (show((0:Nat):Int)=0 from rfl) hgx) ?_;try with_reducible exact True.intro);refine⟨by omega,ziV (o:=x.op) hr1 hr2 ?_⟩;(refine gq15 ?_;try with_reducible exact True.intro);repeat'((with_reducible refine And.intro ?_ ?_);focus(first|omega|simp))
   refine zaK.next hlt ⟨.box ((zaw x).map .d),[],?_,?_⟩
   ·rw[if_neg (by omega)];simp only[List.take_zero,List.map_nil,List.nil_append,zaw]at hsn;simp only[zbA,← hsn,Nat.zero_add];rfl
   ·rw[if_neg (by omega)];try rw[List.length_map]
    rw[show(List.take (0+1) b).length=1 by rw[List.length_take];omega];rfl
  ·have hn:b=[]:=by simp at h;exact h
   refine zu hl ?_;rw[hn]at hK;exact hK
 ·simp only[if_neg hj0];have hlj:(b.take j).length=j:=by rw[List.length_take];omega
  (refine gq9 ?_;try with_reducible exact True.intro);refine zV (fun h=>?_) (fun h=>?_)
  ·have hlt:j<b.length:=by simp at h;omega
   have hx:b[j]? = some b[j]:=by simp[hlt]
   obtain⟨hr1,hr2⟩:=hb2 _ (List.getElem_mem hlt);have hgx:=zQ (f:=zaw) hx;have hsn:=map_snoc (f:=zaw) hx;obtain⟨x,hxe⟩:∃x,b[j]=x:=⟨_,rfl⟩;rw[hxe]at hgx hsn hr1 hr2;(refine gq14 hgx ?_;try with_reducible exact True.intro);refine⟨by omega,ziV (o:=x.op) hr1 hr2 ?_⟩;(refine gq15 ?_;try with_reducible exact True.intro);repeat'((with_reducible refine And.intro ?_ ?_);focus(first|omega|(simp only[List.length_map,List.length_take];omega)|simp))
   refine zaK.next hlt ⟨B,T++[.box ((zaw x).map .d)],?_,?_⟩
   ·rw[if_neg (by omega),show(j:Int)+1=((j+1:Nat):Int) by omega,zaQ (by omega) (by omega)];simp only[zaw]at hsn;simp only[zbA,← hsn]
   ·rw[if_neg (by omega)];simp only[List.length_map,List.length_take,List.cons_append];rw[show min j b.length+1=min (j+1) b.length by omega];rfl
  ·have hn:j=b.length:=by simp at h;omega
   subst hn;(refine gq11 ?_;try with_reducible exact True.intro);refine zu hl ?_;exact hK
def zjj (x:zp):AV:=.agg [.d (.int .i64 x.client),.d (.int .i64 x.time),.d (.int .i64 x.op.kind),.d (.str x.op.topic),.d (.str x.op.group),.d (.int .i64 x.op.offset),.d (.slice (zdQ x.op.recs)),.d (.int .i64 x.key),.d (.int .i64 x.dig)]
def reqA (x:zp):AV:=.agg [.d (.int .i64 x.client),.d (.int .i64 x.time),.d (.int .i64 x.op.kind),.d (.str x.op.topic),.d (.str x.op.group),.d (.int .i64 x.op.offset),.d (.slice (zdQ x.op.recs))]
theorem zxY {a b:zp}(ha:a.op.recs.length<=1073741824)(hb:b.op.recs.length<=1073741824){K:KT}(hK:K (.d (.bool (decide (a.client=b.client/\a.time=b.time/\a.op=b.op)))) σ) :
  zP zit [reqA a,reqA b] σ K:=by
 refine zec ztw fun hl=>?_;have fin:∀z:Bool,decide (a.client=b.client/\a.time=b.time/\a.op=b.op)=z->K (.d (.bool z)) σ:=fun z hz=>by rw[← hz];exact hK
 clear hK;simp only[zmL,iN,bT,bF,eN,reqA];cases h1:(a.client==b.client)
 ·(refine gq10 h1 ?_;try with_reducible exact True.intro);refine zu hl ?_;refine fin _ (decide_eq_false ?_);rintro⟨h,_⟩;simp[h]at h1
 cases h2:(a.time==b.time)
 ·(refine gq10 (zjR h1 h2) ?_;try with_reducible exact True.intro);refine zu hl ?_;refine fin _ (decide_eq_false ?_);rintro⟨_,h,_⟩;simp[h]at h2
 (refine gq10 (zjR h1 h2) ?_;try with_reducible exact True.intro);repeat'((with_reducible refine And.intro ?_ ?_);focus(first|omega|rfl|decide))
 refine c_rSame (a:=a.op) (b:=b.op) ha hb ?_;(refine gq9 ?_;try with_reducible exact True.intro);refine zu hl ?_;refine fin _ ?_;simp only[beq_iff_eq]at h1 h2;simp only[h1,h2,true_and]
theorem zAv {a b:List zp}(ha:zgv a)(hb:zgv b){K:KT}(hK:K (.d (.bool (decide (a=b)))) σ) :
  zP zmp [.d (.slice (zbA a)),.d (.slice (zbA b))] σ K:=by
 refine zec e_r08_Same fun hl=>?_;have fin:∀z:Bool,decide (a=b)=z->K (.d (.bool z)) σ:=fun z hz=>by rw[← hz];exact hK
 clear hK;obtain⟨ha1,ha2⟩:=ha;obtain⟨hb1,hb2⟩:=hb;simp only[zzl,iN,bT,bF,eN];(refine gq11 ?_;try with_reducible exact True.intro);by_cases hl2:a.length=b.length
 ·have hne:((a.length:Int) != (b.length:Int))=false:=by simp[hl2]
  (refine gq10 hne ?_;try with_reducible exact True.intro);refine zn a.length (fun k vs s=>vs=[.d (.int .i64 k)]/\s=σ/\a.take k=b.take k) ⟨rfl,rfl,by simp⟩ ?_;rintro k vs s hk ⟨rfl,rfl,htk⟩;(refine gq11 ?_;try with_reducible exact True.intro);refine zV (fun h=>?_) (fun h=>?_)
  ·have hka:k<a.length:=by simp at h;omega
   have hx:a[k]? = some a[k]:=by simp[hka]
   have hy:b[k]? = some (b[k]'(by omega)):=List.getElem?_eq_getElem _;have ax:=(ha2 _ (List.getElem_mem hka)).1;have bx:=(hb2 _ (List.getElem_mem (show k<b.length by omega))).1;have hgx:=zQ (f:=zaw) hx;have hgy:=zQ (f:=zaw) hy;obtain⟨x,hxe⟩:∃x,a[k]=x:=⟨_,rfl⟩;obtain⟨y,hye⟩:∃y,b[k]'(by omega)=y:=⟨_,rfl⟩;rw[hxe]at hgx hx ax;rw[hye]at hgy hy bx;have neq:x≠y->K (.d (.bool false)) s:=fun h=>fin _ (decide_eq_false (by rintro rfl;rw[hx]at hy;exact h (Option.some.inj hy)));have hxy:x=y↔(x.client=y.client/\x.time=y.time/\x.op=y.op)/\x.key=y.key/\x.dig=y.dig:=by cases x;cases y;simp[and_assoc]
   cases h2:(x.key==y.key&&x.dig==y.dig)
   ·(refine gq14 (zjR hgx (zjR hgy h2)) ?_;try with_reducible exact True.intro);repeat'((with_reducible refine And.intro ?_ ?_);focus(first|omega|rfl|decide))
    try(refine gq14 (zjR hgx (zjR hgy h2)) ?_;try with_reducible exact True.intro)
    refine zu hl ?_;refine neq (fun h=>?_);have:=(hxy.1 h).2;simp[this.1,this.2]at h2
   ·(refine gq14 (zjR hgx (zjR hgy h2)) ?_;try with_reducible exact True.intro);repeat'((with_reducible refine And.intro ?_ ?_);focus(first|omega|rfl|decide))
    try(refine gq14 (zjR hgx (zjR hgy h2)) ?_;try with_reducible exact True.intro)
    refine zxY (a:=x) (b:=y) ax bx ?_;simp only[Bool.and_eq_true,beq_iff_eq]at h2;by_cases h3:x.client=y.client/\x.time=y.time/\x.op=y.op
    ·rw[decide_eq_true h3];(refine gq11 ?_;try with_reducible exact True.intro);refine zaK.next hka ⟨?_,rfl,zbs hx hy htk (hxy.2 ⟨h3,h2⟩)⟩;rw[show(k:Int)+1=((k+1:Nat):Int) by omega,zaQ (by omega) (by omega)]
    ·rw[decide_eq_false h3];(refine gq11 ?_;try with_reducible exact True.intro);refine zu hl ?_;exact neq (fun h=>h3 (hxy.1 h).1)
  ·refine zu hl ?_;refine fin _ (decide_eq_true (zcv hl2 (k:=k) (by simp at h;omega) htk))
 ·have hne:((a.length:Int) != (b.length:Int))=true:=by simp;omega
  (refine gq10 hne ?_;try with_reducible exact True.intro);refine zu hl ?_;exact fin _ (decide_eq_false (by rintro rfl;exact hl2 rfl))
variable {σ:List AObj}
theorem zG {P Q:Prop}(h:Q)(e:Hd Q->P:=by intro h;(repeat' first|simp -dsimp only[↓zmg,↓zcf,↓zep,↓zmh,↓zmb,↓zlZ,↓zmc,↓zma,↓zeu,↓zeq,↓zev,↓zer,↓zmd,↓zeo,↓zew,↓zes,↓zex,↓zet,↓zlY,↓zmf,↓zen,↓zey,↓zlW,↓zlV,↓zlX,iN,bT,bF,eN,↓zeO,↓unC,↓zaE,↓zan,↓zao,↓zaA,↓zbf,↓zah,↓zgR,↓zaz,↓zbe,↓zae,↓ze,↓zl,↓zbc,↓zc,↓zaY,↓zM,↓zce,↓zcB,↓zf,↓zF,↓zr,↓zN,↓zaC,↓zgY,↓zhU,↓zbi,↓zbJ,↓zcj,↓zcM,↓zdG,↓zL,↓zbh,↓zap,↓zR,↓zbb,zhS,zdY,zdS,unA,zgE,bnd,zjr,zaP,zK,ziD,dm,dm1,zH,zaI,zkw,zkv,keepO,Q0,Q1,Q2,Q3,Q4,Q5,zbg,zA,zC,zZ,zad,Q6,Q7,Q8,Q9,Q10,Q11,Q12,Q13,Q14,Nat.reduceAdd,Q15,Int.reduceToNat,Q16,Q17,Q18,Q19,Q20,reduceIte,Q21,Q22,zy,rep,zaq,zil,toD,zaD,Q23,Q24,Q25,Q26,Q27,Q28,Nat.reduceLeDiff,Q29,Nat.reduceSub,Q30,Q31,Q32,sc,Q33,Q34,Q35,Q36,Q37,Q26,Q38,Q39,zvP,zvM,zvJ,zvQ,zkt,zvN,zvK,zvO,zvL,zks,zku,zwb,zwc,Bool.not_true,Bool.not_false,List.length_map]|with_reducible refine zxa ?_|fail);exact h.go):P:=e ⟨h⟩
theorem c_rqCheck {x:zp}(hx:okO x.op){K:KT}(hK:K (.d (.int .i64 (zT x))) σ):zP zhs [reqA x] σ K:=by
 refine zez zwm fun hl=>?_;have fin:∀z,zT x=z->K (.d (.int .i64 z)) σ:=fun z h=>h▸hK;clear hK;simp only[zoV,iN,bT,bF,eN,reqA];(repeat'(first|(refine gq4 ?_;try with_reducible exact True.intro)|(refine zV (fun h=>?_) (fun h=>?_)<;>(try rw[h]))|((with_reducible refine And.intro ?_ ?_);focus(first|omega|rfl|decide))));all_goals first
  | (
   refine zu hl ?_
   (try simp only[decide_eq_true_eq,decide_eq_false_iff_not,beq_iff_eq,beq_eq_false_iff_ne,bne_iff_ne,ne_eq,Bool.not_eq_true',Bool.not_eq_false',bne_eq_false_iff_eq]at *)
   exact fin _ (by rw[zT,if_pos (by omega)]))
  | skip
 refine zwU (o:=x.op) hx.1 hx.2.1 hx.2.2.1 ?_;refine zG ?_;refine zu hl ?_;(try simp only[decide_eq_true_eq,decide_eq_false_iff_not,beq_iff_eq,beq_eq_false_iff_ne,bne_iff_ne,ne_eq,Bool.not_eq_true',Bool.not_eq_false',bne_eq_false_iff_eq]at *);exact fin _ (by rw[zT,if_neg (by omega)])
theorem c_rKey {c:Int}{K:KT}(hK:K (.d (.int .i64 (if c<0∨c≥8 then -1 else 13+c))) σ):zP zou [.d (.int .i64 c)] σ K:=by
 refine zez e_r08_Key fun hl=>?_;have fin:∀z,(if c<0∨c≥8 then -1 else 13+c)=z->K (.d (.int .i64 z)) σ:=fun z h=>h▸hK;clear hK;simp only[S_r08_Key,iN,bT,bF,eN];(repeat'(first|(refine gq4 ?_;try with_reducible exact True.intro)|(refine zV (fun h=>?_) (fun h=>?_)<;>(try rw[h]))|((with_reducible refine And.intro ?_ ?_);focus(first|omega|rfl|decide))));all_goals
  refine zu hl ?_
  (try simp only[decide_eq_true_eq,decide_eq_false_iff_not,beq_iff_eq,beq_eq_false_iff_ne,bne_iff_ne,ne_eq,Bool.not_eq_true',Bool.not_eq_false',bne_eq_false_iff_eq]at *)
 ·exact fin _ (by rw[if_pos (by omega)])
 ·exact fin _ (by rw[if_pos (by omega)])
 ·exact fin _ (by rw[if_neg (by omega),zaQ (by omega) (by omega)])
theorem zm {A P Q:Prop}(a:A)(h:Q)(e:A->Hd Q->P:=by intro a h;(repeat' first|simp -dsimp only[↓zmg,↓zcf,↓zep,↓zmh,↓zmb,↓zlZ,↓zmc,↓zma,↓zeu,↓zeq,↓zev,↓zer,↓zmd,↓zeo,↓zew,↓zes,↓zex,↓zet,↓zlY,↓zmf,↓zen,↓zey,↓zlW,↓zlV,↓zlX,iN,bT,bF,eN,↓zeO,↓unC,↓zaE,↓zan,↓zao,↓zaA,↓zbf,↓zah,↓zgR,↓zaz,↓zbe,↓zae,↓ze,↓zl,↓zbc,↓zc,↓zaY,↓zM,↓zce,↓zcB,↓zf,↓zF,↓zr,↓zN,↓zaC,↓zgY,↓zhU,↓zbi,↓zbJ,↓zcj,↓zcM,↓zdG,↓zL,↓zbh,↓zap,↓zR,↓zbb,zhS,zdY,zdS,unA,zgE,bnd,zjr,zaP,zK,ziD,dm,dm1,zH,zaI,zkw,zkv,keepO,Q0,Q1,Q2,Q3,Q4,Q5,zbg,zA,zC,zZ,zad,Q6,Q7,Q8,Q9,Q10,Q11,Q12,Q13,Q14,Nat.reduceAdd,Q15,Int.reduceToNat,Q16,Q17,Q18,Q19,Q20,reduceIte,Q21,Q22,zy,rep,zaq,zil,toD,zaD,Q23,Q24,Q25,Q26,Q27,Q28,Nat.reduceLeDiff,Q29,Nat.reduceSub,Q30,Q31,Q32,sc,Q33,Q34,Q35,Q36,Q37,Q26,Q38,Q39,zvP,zvM,zvJ,zvQ,zkt,zvN,zvK,zvO,zvL,zks,zku,zwb,zwc,Bool.not_true,Bool.not_false,List.length_map,a]|with_reducible refine zxa ?_|fail);exact h.go):P:=e a ⟨h⟩
theorem zyQ {x:zp}(hx:okO x.op){K:KT}(hK:K (.d (.int .i64 (zT x))) σ):zP znc [reqA x] σ K:=by
 refine zez e_r08_Check fun hl=>?_;have fin:∀z,zT x=z->K (.d (.int .i64 z)) σ:=fun z h=>h▸hK;clear hK;simp only[zxm,iN,bT,bF,eN,reqA];refine zG ?_;refine c_rKey ?_;by_cases hc:x.client<0∨x.client≥8
 ·rw[if_pos hc];refine zm (show decide ((-1:Int)<0)=true from rfl) ?_;refine zu hl ?_;exact fin _ (by rw[zT,if_pos (by omega)])
 ·rw[if_neg hc];have h0:decide (13+x.client<0)=false:=by simp;omega
  (refine gq6 h0 ?_;try with_reducible exact True.intro);(repeat'(first|(refine gq4 ?_;try with_reducible exact True.intro)|(refine zV (fun h=>?_) (fun h=>?_)<;>(try rw[h]))|((with_reducible refine And.intro ?_ ?_);focus(first|omega|rfl|decide))));all_goals first
   | (
    refine zu hl ?_
    (try simp only[decide_eq_true_eq,decide_eq_false_iff_not,beq_iff_eq,beq_eq_false_iff_ne,bne_iff_ne,ne_eq,Bool.not_eq_true',Bool.not_eq_false',bne_eq_false_iff_eq]at *)
    exact fin _ (by rw[zT,if_pos (by omega)]))
   | skip
  refine zAw (o:=x.op) hx.1 hx.2.1 hx.2.2.1 ?_;refine zG ?_;refine zu hl ?_;(try simp only[decide_eq_true_eq,decide_eq_false_iff_not,beq_iff_eq,beq_eq_false_iff_ne,bne_iff_ne,ne_eq,Bool.not_eq_true',Bool.not_eq_false',bne_eq_false_iff_eq]at *);exact fin _ (by rw[zT,if_neg (by omega)])
theorem zbN {k d:Int}{K:KT}(hK:K (.d (.int .i64 (zx k d))) σ):zP zbn [.agg [.d (.int .i64 k),.d (.int .i64 d)]] σ K:=by
 refine zez zrd fun hl=>?_;have fin:∀z,zx k d=z->K (.d (.int .i64 z)) σ:=fun z h=>h▸hK;clear hK;simp only[zkJ,iN,bT,bF,eN];(repeat'(first|(refine gq4 ?_;try with_reducible exact True.intro)|(refine zV (fun h=>?_) (fun h=>?_)<;>(try rw[h]))|((with_reducible refine And.intro ?_ ?_);focus(first|omega|rfl|decide))));all_goals
  refine zu hl ?_
  (try simp only[decide_eq_true_eq,decide_eq_false_iff_not,beq_iff_eq,beq_eq_false_iff_ne,bne_iff_ne,ne_eq,Bool.not_eq_true',Bool.not_eq_false',bne_eq_false_iff_eq]at *)
  first|exact fin _ (by rw[zx,if_pos (by omega)])|exact fin _ (by rw[zx,if_neg (by omega)])
theorem zbI {k d:Int}{K:KT}(hK:K (.d (.int .i64 (zx k d))) σ):zP zbE [.agg [.d (.int .i64 k),.d (.int .i64 d)]] σ K:=by
 refine zez zww fun hl=>?_;have fin:∀z,zx k d=z->K (.d (.int .i64 z)) σ:=fun z h=>h▸hK;clear hK;simp only[zpe,iN,bT,bF,eN];(repeat'(first|(refine gq4 ?_;try with_reducible exact True.intro)|(refine zV (fun h=>?_) (fun h=>?_)<;>(try rw[h]))|((with_reducible refine And.intro ?_ ?_);focus(first|omega|rfl|decide))));all_goals
  refine zu hl ?_
  (try simp only[decide_eq_true_eq,decide_eq_false_iff_not,beq_iff_eq,beq_eq_false_iff_ne,bne_iff_ne,ne_eq,Bool.not_eq_true',Bool.not_eq_false',bne_eq_false_iff_eq]at *)
  first|exact fin _ (by rw[zx,if_pos (by omega)])|exact fin _ (by rw[zx,if_neg (by omega)])
end Go.Proofs.YtdgcepphjnoalaaGreat

/- Contracts: an operation in memory of its own. -/
import Derived.Test.YtdgcepphjnoalaaGreatSh
import Derived.Test.YtdgcepphjnoalaaGreatAwLoop
import Derived.Test.YtdgcepphjnoalaaGreatSpTab
set_option linter.all false
set_option maxRecDepth 100000
namespace Go.Proofs.YtdgcepphjnoalaaGreat
open Go.AW
variable {σ:List AObj}
theorem zop {rs:List (List UInt8)}{k:Nat}{x:List UInt8}(h:rs[k]? = some x):zdv (rs.take k)++[[D.slice (bcs x)]]=zdv (rs.take (k+1)):=by
 rw[List.take_add_one,h];simp[zdv]
theorem zjV {A B:Prop}(a:A)(b:B):A/\B:=⟨a,b⟩
theorem gq9 {P Q:Prop}(h:Q)(e:P=Q:=by simp -dsimp only[↓zlC,↓zbR,↓zeb,↓zlD,↓zlu,↓zls,↓zlv,↓zlt,↓zeg,↓zec,↓zeh,↓zed,↓zlw,↓zdX,↓zei,↓zee,↓zej,↓zef,↓zlq,↓zlA,↓zdW,↓zem,↓zli,↓zlh,↓zln,iN,bT,bF,eN,↓zev,↓unC,↓zaC,↓zai,↓zaj,↓zav,↓zaW,↓zah,↓zgy,↓zaw,↓zbd,↓zad,↓ze,↓zl,↓zbg,↓zc,↓zaV,↓zN,↓zbS,↓zcl,↓zf,↓zF,↓zp,↓zM,↓zaB,↓zgF,↓zhG,↓zbc,↓zbz,↓zcf,↓zcz,↓zdj,↓zJ,↓zbb,↓zak,↓zO,↓zaU,zho,zdP,zdy,unA,zgu,bnd,ziP,zaO,zL,zhY,dm,dm1,zH,zaJ,zjT,zjS,keepO,Q0,Q1,Q2,Q3,Q4,Q5,zba,zA,zB,zX,zaa,Q6,Q7,Q8,Q9,Q10,Q11,Q12,Q13,Q14,Nat.reduceAdd,Q15,Int.reduceToNat,Q16,Q17,Q18,Q19,Q20,reduceIte,Q21,Q22,zy,rep,zaq,zhV,toD,zaD,Q23,Q24,Q25,Q26,Q27,Q28,Nat.reduceLeDiff,Q29,Nat.reduceSub,Q30,Q31,Q32,sc,Q33,Q34,Q35];rfl):P:=e.mpr h
theorem gq10 {A P Q:Prop}(a:A)(h:Q)(e:A->P=Q:=by intro a;simp -dsimp only[↓zlC,↓zbR,↓zeb,↓zlD,↓zlu,↓zls,↓zlv,↓zlt,↓zeg,↓zec,↓zeh,↓zed,↓zlw,↓zdX,↓zei,↓zee,↓zej,↓zef,↓zlq,↓zlA,↓zdW,↓zem,↓zli,↓zlh,↓zln,iN,bT,bF,eN,↓zev,↓unC,↓zaC,↓zai,↓zaj,↓zav,↓zaW,↓zah,↓zgy,↓zaw,↓zbd,↓zad,↓ze,↓zl,↓zbg,↓zc,↓zaV,↓zN,↓zbS,↓zcl,↓zf,↓zF,↓zp,↓zM,↓zaB,↓zgF,↓zhG,↓zbc,↓zbz,↓zcf,↓zcz,↓zdj,↓zJ,↓zbb,↓zak,↓zO,↓zaU,zho,zdP,zdy,unA,zgu,bnd,ziP,zaO,zL,zhY,dm,dm1,zH,zaJ,zjT,zjS,keepO,Q0,Q1,Q2,Q3,Q4,Q5,zba,zA,zB,zX,zaa,Q6,Q7,Q8,Q9,Q10,Q11,Q12,Q13,Q14,Nat.reduceAdd,Q15,Int.reduceToNat,Q16,Q17,Q18,Q19,Q20,reduceIte,Q21,Q22,zy,rep,zaq,zhV,toD,zaD,Q23,Q24,Q25,Q26,Q27,Q28,Nat.reduceLeDiff,Q29,Nat.reduceSub,Q30,Q31,Q32,sc,Q33,Q34,Q35,a];rfl):P:=(e a).mpr h
theorem gq11 {P Q:Prop}(h:Q)(e:P=Q:=by simp -dsimp only[↓zlC,↓zbR,↓zeb,↓zlD,↓zlu,↓zls,↓zlv,↓zlt,↓zeg,↓zec,↓zeh,↓zed,↓zlw,↓zdX,↓zei,↓zee,↓zej,↓zef,↓zlq,↓zlA,↓zdW,↓zem,↓zli,↓zlh,↓zln,iN,bT,bF,eN,↓zev,↓unC,↓zaC,↓zai,↓zaj,↓zav,↓zaW,↓zah,↓zgy,↓zaw,↓zbd,↓zad,↓ze,↓zl,↓zbg,↓zc,↓zaV,↓zN,↓zbS,↓zcl,↓zf,↓zF,↓zp,↓zM,↓zaB,↓zgF,↓zhG,↓zbc,↓zbz,↓zcf,↓zcz,↓zdj,↓zJ,↓zbb,↓zak,↓zO,↓zaU,zho,zdP,zdy,unA,zgu,bnd,ziP,zaO,zL,zhY,dm,dm1,zH,zaJ,zjT,zjS,keepO,Q0,Q1,Q2,Q3,Q4,Q5,zba,zA,zB,zX,zaa,Q6,Q7,Q8,Q9,Q10,Q11,Q12,Q13,Q14,Nat.reduceAdd,Q15,Int.reduceToNat,Q16,Q17,Q18,Q19,Q20,reduceIte,Q21,Q22,zy,rep,zaq,zhV,toD,zaD,Q23,Q24,Q25,Q26,Q27,Q28,Nat.reduceLeDiff,Q29,Nat.reduceSub,Q30,Q31,Q32,sc,Q33,Q34,Q35,Bool.and_false,Bool.and_self,Bool.false_and,Bool.not_false,Bool.not_true,Bool.true_and,Int.toNat_natCast,Int.toNat_zero,List.drop_zero,List.length_map,List.length_nil,List.nil_append,List.take_length,Nat.sub_zero,Nat.zero_add,Option.isSome_none,Option.isSome_some,Option.map_none,Option.map_some,zam,beq_self_eq_true,bne_self_eq_false];rfl):P:=e.mpr h
theorem ziV {o:TOp}(hr:o.recs.length<=1073741824)(hb:∀r∈o.recs,r.length<=1073741824){K:KT}(hK:K (opA o) σ):zP zis [opA o] σ K:=by
 refine zey e_op_Clone fun hl=>?_;simp only[zzF,iN,bT,bF,eN,zl2,opA];(refine gq9 ?_;try with_reducible exact True.intro);refine zn o.recs.length (fun j vs q=>∃l0 T,vs=[if j=0 then .exact []else .own (σ.length+3) (zdv (o.recs.take j)),.d (.int .i64 j)]/\q=σ++([.box [.d (.int .i64 o.kind),.d (.str o.topic),.d (.str o.group),.d (.int .i64 o.offset),.d (.slice (zdv o.recs))],.box [.d (.int .i64 0),.d (.str []),.d (.str []),.d (.int .i64 0),.exact []]]++(if j=0 then []else .tok 1 l0::.tok 1 (zdv (o.recs.take j)).length::T))) ⟨0,[],rfl,rfl⟩ ?_;rintro j vs q hj ⟨l0,T,rfl,rfl⟩;by_cases hj0:j=0
 ·subst hj0;simp only[if_true];(refine gq9 ?_;try with_reducible exact True.intro);refine zV (fun h=>?_) (fun h=>?_)
  ·have hlt:0<o.recs.length:=by simp at h;omega
   have hx:o.recs[0]? = some o.recs[0]:=by simp[hlt]
   have hbx:=hb _ (List.getElem_mem hlt);(refine gq10 (zjV (show((0:Nat):Int)=0 from rfl) (zgA hx)) ?_;try with_reducible exact True.intro);refine⟨by omega,zjW ziy (by rw[zam];omega) ?_⟩;(refine gq11 ?_;try with_reducible exact True.intro);refine⟨by simp,by simp,by simp,?_⟩;refine zaF.next hlt ⟨o.recs[0].length,[],?_,?_⟩
   ·rw[if_neg (by omega),← zop hx];rfl
   ·rw[if_neg (by omega),show(List.take (0+1) o.recs).length=1 by rw[List.length_take];omega]
  ·have hn:o.recs=[]:=by simp at h;exact h
   try(refine gq9 ?_;try with_reducible exact True.intro)
   refine zu hl ?_;rw[opA,hn]at hK;exact hK
 ·simp only[if_neg hj0];have hlj:(o.recs.take j).length=j:=by rw[List.length_take];omega
  (refine gq9 ?_;try with_reducible exact True.intro);refine zV (fun h=>?_) (fun h=>?_)
  ·have hlt:j<o.recs.length:=by simp at h;omega
   have hx:o.recs[j]? = some o.recs[j]:=by simp[hlt]
   have hbx:=hb _ (List.getElem_mem hlt);(refine gq10 (zgA hx) ?_;try with_reducible exact True.intro);refine⟨by omega,zjW ziy (by rw[zam];omega) ?_⟩;(refine gq11 ?_;try with_reducible exact True.intro);refine⟨by simp,by omega,?_⟩;refine zaF.next hlt ⟨l0,T++[.tok 1 o.recs[j].length],?_,?_⟩
   ·rw[if_neg (by omega),← zop hx,show(j:Int)+1=((j+1:Nat):Int) by omega,zaT (by omega) (by omega)]
   ·rw[if_neg (by omega)];simp only[zy,List.length_take,zam,List.cons_append];rw[show min j o.recs.length+1=min (j+1) o.recs.length by omega]
  ·have hn:j=o.recs.length:=by simp at h;omega
   subst hn;(refine gq11 ?_;try with_reducible exact True.intro);refine zu hl ?_;exact hK
variable {σ:List AObj}
theorem gqc2 {A B:Prop}(a:A)(b:B):A/\B:=⟨a,b⟩
theorem gq12 {P Q:Prop}(h:Q)(e:P=Q:=by simp -dsimp only[↓zlC,↓zbR,↓zeb,↓zlD,↓zlu,↓zls,↓zlv,↓zlt,↓zeg,↓zec,↓zeh,↓zed,↓zlw,↓zdX,↓zei,↓zee,↓zej,↓zef,↓zlq,↓zlA,↓zdW,↓zem,↓zli,↓zlh,↓zln,iN,bT,bF,eN,↓zev,↓unC,↓zaC,↓zai,↓zaj,↓zav,↓zaW,↓zah,↓zgy,↓zaw,↓zbd,↓zad,↓ze,↓zl,↓zbg,↓zc,↓zaV,↓zN,↓zbS,↓zcl,↓zf,↓zF,↓zp,↓zM,↓zaB,↓zgF,↓zhG,↓zbc,↓zbz,↓zcf,↓zcz,↓zdj,↓zJ,↓zbb,↓zak,↓zO,↓zaU,zho,zdP,zdy,unA,zgu,bnd,ziP,zaO,zL,zhY,dm,dm1,zH,zaJ,zjT,zjS,keepO,Q0,Q1,Q2,Q3,Q4,Q5,zba,zA,zB,zX,zaa,Q6,Q7,Q8,Q9,Q10,Q11,Q12,Q13,Q14,Nat.reduceAdd,Q15,Int.reduceToNat,Q16,Q17,Q18,Q19,Q20,reduceIte,Q21,Q22,zy,rep,zaq,zhV,toD,zaD,Q23,Q24,Q25,Q26,Q27,Q28,Nat.reduceLeDiff,Q29,Nat.reduceSub,Q30,Q31,Q32,sc,Q33,Q34,Q35];rfl):P:=e.mpr h
theorem gq13 {A P Q:Prop}(a:A)(h:Q)(e:A->P=Q:=by intro a;simp -dsimp only[↓zlC,↓zbR,↓zeb,↓zlD,↓zlu,↓zls,↓zlv,↓zlt,↓zeg,↓zec,↓zeh,↓zed,↓zlw,↓zdX,↓zei,↓zee,↓zej,↓zef,↓zlq,↓zlA,↓zdW,↓zem,↓zli,↓zlh,↓zln,iN,bT,bF,eN,↓zev,↓unC,↓zaC,↓zai,↓zaj,↓zav,↓zaW,↓zah,↓zgy,↓zaw,↓zbd,↓zad,↓ze,↓zl,↓zbg,↓zc,↓zaV,↓zN,↓zbS,↓zcl,↓zf,↓zF,↓zp,↓zM,↓zaB,↓zgF,↓zhG,↓zbc,↓zbz,↓zcf,↓zcz,↓zdj,↓zJ,↓zbb,↓zak,↓zO,↓zaU,zho,zdP,zdy,unA,zgu,bnd,ziP,zaO,zL,zhY,dm,dm1,zH,zaJ,zjT,zjS,keepO,Q0,Q1,Q2,Q3,Q4,Q5,zba,zA,zB,zX,zaa,Q6,Q7,Q8,Q9,Q10,Q11,Q12,Q13,Q14,Nat.reduceAdd,Q15,Int.reduceToNat,Q16,Q17,Q18,Q19,Q20,reduceIte,Q21,Q22,zy,rep,zaq,zhV,toD,zaD,Q23,Q24,Q25,Q26,Q27,Q28,Nat.reduceLeDiff,Q29,Nat.reduceSub,Q30,Q31,Q32,sc,Q33,Q34,Q35,Bool.and_false,Bool.and_self,Bool.false_and,Bool.not_false,Bool.not_true,Bool.true_and,Int.toNat_natCast,Int.toNat_zero,List.drop_zero,List.length_map,List.length_nil,List.nil_append,List.take_length,Nat.sub_zero,Nat.zero_add,Option.isSome_none,Option.isSome_some,Option.map_none,Option.map_some,zam,beq_self_eq_true,bne_self_eq_false,zix,zfg,zgg,zcf,mgetR,zcz,a];rfl):P:=(e a).mpr h
theorem c_rSame {a b:TOp}(ha:a.recs.length<=1073741824)(hb:b.recs.length<=1073741824){K:KT}(hK:K (.d (.bool (decide (a=b)))) σ):zP ztk [opA a,opA b] σ K:=by
 refine zen e_r06_Same fun hl=>?_;have fin:∀z:Bool,decide (a=b)=z->K (.d (.bool z)) σ:=fun z hz=>by rw[← hz];exact hK
 have hab:a=b↔a.kind=b.kind/\a.topic=b.topic/\a.group=b.group/\a.offset=b.offset/\a.recs=b.recs:=by cases a;cases b;simp
 clear hK;simp only[zzB,iN,bT,bF,eN,opA];(repeat'(first|(refine gq12 ?_;try with_reducible exact True.intro)|(refine zV (fun h=>?_) (fun h=>?_)<;>(try rw[h]))|((with_reducible refine And.intro ?_ ?_);focus(first|omega|rfl|decide))));all_goals first
  | (
   refine zu hl ?_
   (try simp only[decide_eq_true_eq,decide_eq_false_iff_not,beq_iff_eq,beq_eq_false_iff_ne,bne_iff_ne,ne_eq,Bool.not_eq_true',Bool.not_eq_false',bne_eq_false_iff_eq]at *)
   simp only[zck,dmT,dm,dm1]
   apply fin
   grind)
  | skip
 have hl2:a.recs.length=b.recs.length:=by exact zou
 refine zn a.recs.length (fun k vs s=>vs=[.d (.int .i64 k)]/\s=σ++[.box [.d (.int .i64 a.kind),.d (.str a.topic),.d (.str a.group),.d (.int .i64 a.offset),.d (.slice (zdv a.recs))],.box [.d (.int .i64 b.kind),.d (.str b.topic),.d (.str b.group),.d (.int .i64 b.offset),.d (.slice (zdv b.recs))]]/\a.recs.take k=b.recs.take k) ⟨rfl,rfl,by simp⟩ ?_;rintro k vs s hk ⟨rfl,rfl,htk⟩;(refine gq12 ?_;try with_reducible exact True.intro);refine zV (fun h=>?_) (fun h=>?_)
 ·have hka:k<a.recs.length:=by exact zou
  have hx:a.recs[k]? = some a.recs[k]:=by simp[hka]
  have hy:b.recs[k]? = some (b.recs[k]'(by omega)):=List.getElem?_eq_getElem _;(refine gq13 (gqc2 (zgA hx) (zgA hy)) ?_;try with_reducible exact True.intro);refine And.intro (by omega) (And.intro (by omega) ?_);refine zV (fun h=>?_) (fun h=>?_)
  ·(refine gq12 ?_;try with_reducible exact True.intro);refine zaF.next hka ⟨?_,rfl,zbs hx hy htk (by simpa using h)⟩;rw[zaT (by omega) (by omega)];rfl
  ·refine zu hl ?_;simp only[zck,dmT,dm,dm1];apply fin;rw[decide_eq_false_iff_not];rintro rfl;simp at h
 ·refine zu hl ?_;simp only[zck,dmT,dm,dm1];have:a.recs=b.recs:=zct hl2 (k:=k) (by exact zou) htk;apply fin;(try simp only[decide_eq_true_eq,decide_eq_false_iff_not,beq_iff_eq,beq_eq_false_iff_ne,bne_iff_ne,ne_eq,Bool.not_eq_true',Bool.not_eq_false',bne_eq_false_iff_eq]at *);grind
variable {σ:List AObj}
def zgx (b:List zr):Prop:=b.length<=1073741824/\∀x∈b,x.op.recs.length<=1073741824/\∀r∈x.op.recs,r.length<=1073741824
theorem gq14 {A P Q:Prop}(a:A)(h:Q)(e:A->P=Q:=by intro a;simp -dsimp only[↓zlC,↓zbR,↓zeb,↓zlD,↓zlu,↓zls,↓zlv,↓zlt,↓zeg,↓zec,↓zeh,↓zed,↓zlw,↓zdX,↓zei,↓zee,↓zej,↓zef,↓zlq,↓zlA,↓zdW,↓zem,↓zli,↓zlh,↓zln,iN,bT,bF,eN,↓zev,↓unC,↓zaC,↓zai,↓zaj,↓zav,↓zaW,↓zah,↓zgy,↓zaw,↓zbd,↓zad,↓ze,↓zl,↓zbg,↓zc,↓zaV,↓zN,↓zbS,↓zcl,↓zf,↓zF,↓zp,↓zM,↓zaB,↓zgF,↓zhG,↓zbc,↓zbz,↓zcf,↓zcz,↓zdj,↓zJ,↓zbb,↓zak,↓zO,↓zaU,zho,zdP,zdy,unA,zgu,bnd,ziP,zaO,zL,zhY,dm,dm1,zH,zaJ,zjT,zjS,keepO,Q0,Q1,Q2,Q3,Q4,Q5,zba,zA,zB,zX,zaa,Q6,Q7,Q8,Q9,Q10,Q11,Q12,Q13,Q14,Nat.reduceAdd,Q15,Int.reduceToNat,Q16,Q17,Q18,Q19,Q20,reduceIte,Q21,Q22,zy,rep,zaq,zhV,toD,zaD,Q23,Q24,Q25,Q26,Q27,Q28,Nat.reduceLeDiff,Q29,Nat.reduceSub,Q30,Q31,Q32,sc,Q33,Q34,Q35,Bool.and_false,Bool.and_self,Bool.false_and,Bool.not_false,Bool.not_true,Bool.true_and,Int.toNat_natCast,Int.toNat_zero,List.drop_zero,List.length_map,List.length_nil,List.nil_append,List.take_length,Nat.sub_zero,Nat.zero_add,Option.isSome_none,Option.isSome_some,Option.map_none,Option.map_some,zam,beq_self_eq_true,bne_self_eq_false,zcj,zhL,zag,zdd,zsi,zce,zow,opA,opD,zfy,zgo,zay,a];rfl):P:=(e a).mpr h
theorem gq15 {P Q:Prop}(h:Q)(e:P=Q:=by simp -dsimp only[↓zlC,↓zbR,↓zeb,↓zlD,↓zlu,↓zls,↓zlv,↓zlt,↓zeg,↓zec,↓zeh,↓zed,↓zlw,↓zdX,↓zei,↓zee,↓zej,↓zef,↓zlq,↓zlA,↓zdW,↓zem,↓zli,↓zlh,↓zln,iN,bT,bF,eN,↓zev,↓unC,↓zaC,↓zai,↓zaj,↓zav,↓zaW,↓zah,↓zgy,↓zaw,↓zbd,↓zad,↓ze,↓zl,↓zbg,↓zc,↓zaV,↓zN,↓zbS,↓zcl,↓zf,↓zF,↓zp,↓zM,↓zaB,↓zgF,↓zhG,↓zbc,↓zbz,↓zcf,↓zcz,↓zdj,↓zJ,↓zbb,↓zak,↓zO,↓zaU,zho,zdP,zdy,unA,zgu,bnd,ziP,zaO,zL,zhY,dm,dm1,zH,zaJ,zjT,zjS,keepO,Q0,Q1,Q2,Q3,Q4,Q5,zba,zA,zB,zX,zaa,Q6,Q7,Q8,Q9,Q10,Q11,Q12,Q13,Q14,Nat.reduceAdd,Q15,Int.reduceToNat,Q16,Q17,Q18,Q19,Q20,reduceIte,Q21,Q22,zy,rep,zaq,zhV,toD,zaD,Q23,Q24,Q25,Q26,Q27,Q28,Nat.reduceLeDiff,Q29,Nat.reduceSub,Q30,Q31,Q32,sc,Q33,Q34,Q35,Bool.and_false,Bool.and_self,Bool.false_and,Bool.not_false,Bool.not_true,Bool.true_and,Int.toNat_natCast,Int.toNat_zero,List.drop_zero,List.length_map,List.length_nil,List.nil_append,List.take_length,Nat.sub_zero,Nat.zero_add,Option.isSome_none,Option.isSome_some,Option.map_none,Option.map_some,zam,beq_self_eq_true,bne_self_eq_false,zcj,zhL,zag,zdd,zsi,zce,zow,opA,opD,zfy,zgo,zay];rfl):P:=e.mpr h
theorem zmG {b:List zr}(hb:zgx b){K:KT}(hK:K (.d (.slice (zbA b))) σ):zP zdz [.d (.slice (zbA b))] σ K:=by
 refine zey zwu fun hl=>?_;simp only[zoZ,iN,bT,bF,eN,zl1];(refine gq9 ?_;try with_reducible exact True.intro);refine zn b.length (fun j vs q=>∃B T,vs=[if j=0 then .exact []else .own (σ.length+1) (zbA (b.take j)),.d (.int .i64 j)]/\q=σ++(if j=0 then []else B::.tok 9 (zbA (b.take j)).length::T)) ⟨.tok 1 0,[],rfl,by simp⟩ ?_;rintro j vs q hj ⟨B,T,rfl,rfl⟩;obtain⟨hb1,hb2⟩:=hb;by_cases hj0:j=0
 ·subst hj0;simp only[if_true];(refine gq9 ?_;try with_reducible exact True.intro);refine zV (fun h=>?_) (fun h=>?_)
  ·have hlt:0<b.length:=by simp at h;omega
   have hx:b[0]? = some b[0]:=by simp[hlt]
   obtain⟨hr1,hr2⟩:=hb2 _ (List.getElem_mem hlt);have hgx:=zQ (f:=zay) hx;have hsn:=map_snoc (f:=zay) hx;obtain⟨x,hxe⟩:∃x,b[0]=x:=⟨_,rfl⟩;rw[hxe]at hgx hsn hr1 hr2;(refine gq14 (zjV (show((0:Nat):Int)=0 from rfl) hgx) ?_;try with_reducible exact True.intro);refine⟨by omega,ziV (o:=x.op) hr1 hr2 ?_⟩;(refine gq15 ?_;try with_reducible exact True.intro);repeat'((with_reducible refine And.intro ?_ ?_);focus(first|omega|simp))
   refine zaF.next hlt ⟨.box ((zay x).map .d),[],?_,?_⟩
   ·rw[if_neg (by omega)];simp only[List.take_zero,List.map_nil,List.nil_append,zay]at hsn;simp only[zbA,← hsn,Nat.zero_add];rfl
   ·rw[if_neg (by omega)];try rw[List.length_map]
    rw[show(List.take (0+1) b).length=1 by rw[List.length_take];omega];rfl
  ·have hn:b=[]:=by simp at h;exact h
   refine zu hl ?_;rw[hn]at hK;exact hK
 ·simp only[if_neg hj0];have hlj:(b.take j).length=j:=by rw[List.length_take];omega
  (refine gq9 ?_;try with_reducible exact True.intro);refine zV (fun h=>?_) (fun h=>?_)
  ·have hlt:j<b.length:=by simp at h;omega
   have hx:b[j]? = some b[j]:=by simp[hlt]
   obtain⟨hr1,hr2⟩:=hb2 _ (List.getElem_mem hlt);have hgx:=zQ (f:=zay) hx;have hsn:=map_snoc (f:=zay) hx;obtain⟨x,hxe⟩:∃x,b[j]=x:=⟨_,rfl⟩;rw[hxe]at hgx hsn hr1 hr2;(refine gq14 hgx ?_;try with_reducible exact True.intro);refine⟨by omega,ziV (o:=x.op) hr1 hr2 ?_⟩;(refine gq15 ?_;try with_reducible exact True.intro);repeat'((with_reducible refine And.intro ?_ ?_);focus(first|omega|(simp only[List.length_map,List.length_take];omega)|simp))
   refine zaF.next hlt ⟨B,T++[.box ((zay x).map .d)],?_,?_⟩
   ·rw[if_neg (by omega),show(j:Int)+1=((j+1:Nat):Int) by omega,zaT (by omega) (by omega)];simp only[zay]at hsn;simp only[zbA,← hsn]
   ·rw[if_neg (by omega)];simp only[List.length_map,List.length_take,List.cons_append];rw[show min j b.length+1=min (j+1) b.length by omega];rfl
  ·have hn:j=b.length:=by simp at h;omega
   subst hn;(refine gq11 ?_;try with_reducible exact True.intro);refine zu hl ?_;exact hK
def zki (x:zr):AV:=.agg [.d (.int .i64 x.client),.d (.int .i64 x.time),.d (.int .i64 x.op.kind),.d (.str x.op.topic),.d (.str x.op.group),.d (.int .i64 x.op.offset),.d (.slice (zdv x.op.recs)),.d (.int .i64 x.key),.d (.int .i64 x.dig)]
def reqA (x:zr):AV:=.agg [.d (.int .i64 x.client),.d (.int .i64 x.time),.d (.int .i64 x.op.kind),.d (.str x.op.topic),.d (.str x.op.group),.d (.int .i64 x.op.offset),.d (.slice (zdv x.op.recs))]
theorem zyg {a b:zr}(ha:a.op.recs.length<=1073741824)(hb:b.op.recs.length<=1073741824){K:KT}(hK:K (.d (.bool (decide (a.client=b.client/\a.time=b.time/\a.op=b.op)))) σ) :
  zP zir [reqA a,reqA b] σ K:=by
 refine zen ztG fun hl=>?_;have fin:∀z:Bool,decide (a.client=b.client/\a.time=b.time/\a.op=b.op)=z->K (.d (.bool z)) σ:=fun z hz=>by rw[← hz];exact hK
 clear hK;simp only[zmO,iN,bT,bF,eN,reqA];cases h1:(a.client==b.client)
 ·(refine gq10 h1 ?_;try with_reducible exact True.intro);refine zu hl ?_;refine fin _ (decide_eq_false ?_);rintro⟨h,_⟩;simp[h]at h1
 cases h2:(a.time==b.time)
 ·(refine gq10 (zjV h1 h2) ?_;try with_reducible exact True.intro);refine zu hl ?_;refine fin _ (decide_eq_false ?_);rintro⟨_,h,_⟩;simp[h]at h2
 (refine gq10 (zjV h1 h2) ?_;try with_reducible exact True.intro);repeat'((with_reducible refine And.intro ?_ ?_);focus(first|omega|rfl|decide))
 refine c_rSame (a:=a.op) (b:=b.op) ha hb ?_;(refine gq9 ?_;try with_reducible exact True.intro);refine zu hl ?_;refine fin _ ?_;simp only[beq_iff_eq]at h1 h2;simp only[h1,h2,true_and]
theorem zAG {a b:List zr}(ha:zgx a)(hb:zgx b){K:KT}(hK:K (.d (.bool (decide (a=b)))) σ) :
  zP zmq [.d (.slice (zbA a)),.d (.slice (zbA b))] σ K:=by
 refine zen e_r08_Same fun hl=>?_;have fin:∀z:Bool,decide (a=b)=z->K (.d (.bool z)) σ:=fun z hz=>by rw[← hz];exact hK
 clear hK;obtain⟨ha1,ha2⟩:=ha;obtain⟨hb1,hb2⟩:=hb;simp only[zzz,iN,bT,bF,eN];(refine gq11 ?_;try with_reducible exact True.intro);by_cases hl2:a.length=b.length
 ·have hne:((a.length:Int) != (b.length:Int))=false:=by simp[hl2]
  (refine gq10 hne ?_;try with_reducible exact True.intro);refine zn a.length (fun k vs s=>vs=[.d (.int .i64 k)]/\s=σ/\a.take k=b.take k) ⟨rfl,rfl,by simp⟩ ?_;rintro k vs s hk ⟨rfl,rfl,htk⟩;(refine gq11 ?_;try with_reducible exact True.intro);refine zV (fun h=>?_) (fun h=>?_)
  ·have hka:k<a.length:=by simp at h;omega
   have hx:a[k]? = some a[k]:=by simp[hka]
   have hy:b[k]? = some (b[k]'(by omega)):=List.getElem?_eq_getElem _;have ax:=(ha2 _ (List.getElem_mem hka)).1;have bx:=(hb2 _ (List.getElem_mem (show k<b.length by omega))).1;have hgx:=zQ (f:=zay) hx;have hgy:=zQ (f:=zay) hy;obtain⟨x,hxe⟩:∃x,a[k]=x:=⟨_,rfl⟩;obtain⟨y,hye⟩:∃y,b[k]'(by omega)=y:=⟨_,rfl⟩;rw[hxe]at hgx hx ax;rw[hye]at hgy hy bx;have neq:x≠y->K (.d (.bool false)) s:=fun h=>fin _ (decide_eq_false (by rintro rfl;rw[hx]at hy;exact h (Option.some.inj hy)));have hxy:x=y↔(x.client=y.client/\x.time=y.time/\x.op=y.op)/\x.key=y.key/\x.dig=y.dig:=by cases x;cases y;simp[and_assoc]
   cases h2:(x.key==y.key&&x.dig==y.dig)
   ·(refine gq14 (zjV hgx (zjV hgy h2)) ?_;try with_reducible exact True.intro);repeat'((with_reducible refine And.intro ?_ ?_);focus(first|omega|rfl|decide))
    try(refine gq14 (zjV hgx (zjV hgy h2)) ?_;try with_reducible exact True.intro)
    refine zu hl ?_;refine neq (fun h=>?_);have:=(hxy.1 h).2;simp[this.1,this.2]at h2
   ·(refine gq14 (zjV hgx (zjV hgy h2)) ?_;try with_reducible exact True.intro);repeat'((with_reducible refine And.intro ?_ ?_);focus(first|omega|rfl|decide))
    try(refine gq14 (zjV hgx (zjV hgy h2)) ?_;try with_reducible exact True.intro)
    refine zyg (a:=x) (b:=y) ax bx ?_;simp only[Bool.and_eq_true,beq_iff_eq]at h2;by_cases h3:x.client=y.client/\x.time=y.time/\x.op=y.op
    ·rw[decide_eq_true h3];(refine gq11 ?_;try with_reducible exact True.intro);refine zaF.next hka ⟨?_,rfl,zbs hx hy htk (hxy.2 ⟨h3,h2⟩)⟩;rw[show(k:Int)+1=((k+1:Nat):Int) by omega,zaT (by omega) (by omega)]
    ·rw[decide_eq_false h3];(refine gq11 ?_;try with_reducible exact True.intro);refine zu hl ?_;exact neq (fun h=>h3 (hxy.1 h).1)
  ·refine zu hl ?_;refine fin _ (decide_eq_true (zct hl2 (k:=k) (by simp at h;omega) htk))
 ·have hne:((a.length:Int) != (b.length:Int))=true:=by simp;omega
  (refine gq10 hne ?_;try with_reducible exact True.intro);refine zu hl ?_;exact fin _ (decide_eq_false (by rintro rfl;exact hl2 rfl))
variable {σ:List AObj}
theorem zG {P Q:Prop}(h:Q)(e:Hd Q->P:=by intro h;(repeat' first|simp -dsimp only[↓zlC,↓zbR,↓zeb,↓zlD,↓zlu,↓zls,↓zlv,↓zlt,↓zeg,↓zec,↓zeh,↓zed,↓zlw,↓zdX,↓zei,↓zee,↓zej,↓zef,↓zlq,↓zlA,↓zdW,↓zem,↓zli,↓zlh,↓zln,iN,bT,bF,eN,↓zev,↓unC,↓zaC,↓zai,↓zaj,↓zav,↓zaW,↓zah,↓zgy,↓zaw,↓zbd,↓zad,↓ze,↓zl,↓zbg,↓zc,↓zaV,↓zN,↓zbS,↓zcl,↓zf,↓zF,↓zp,↓zM,↓zaB,↓zgF,↓zhG,↓zbc,↓zbz,↓zcf,↓zcz,↓zdj,↓zJ,↓zbb,↓zak,↓zO,↓zaU,zho,zdP,zdy,unA,zgu,bnd,ziP,zaO,zL,zhY,dm,dm1,zH,zaJ,zjT,zjS,keepO,Q0,Q1,Q2,Q3,Q4,Q5,zba,zA,zB,zX,zaa,Q6,Q7,Q8,Q9,Q10,Q11,Q12,Q13,Q14,Nat.reduceAdd,Q15,Int.reduceToNat,Q16,Q17,Q18,Q19,Q20,reduceIte,Q21,Q22,zy,rep,zaq,zhV,toD,zaD,Q23,Q24,Q25,Q26,Q27,Q28,Nat.reduceLeDiff,Q29,Nat.reduceSub,Q30,Q31,Q32,sc,Q33,Q34,Q35,Q36,Q37,Q26,Q38,Q39,zuP,zuM,zuJ,zuQ,zjr,zuN,zuK,zuO,zuL,zjq,zjs,zuS,zuT,Bool.not_true,Bool.not_false,List.length_map]|with_reducible refine zvh ?_|fail);exact h.go):P:=e ⟨h⟩
theorem c_rqCheck {x:zr}(hx:okO x.op){K:KT}(hK:K (.d (.int .i64 (zT x))) σ):zP zhu [reqA x] σ K:=by
 refine zey zwv fun hl=>?_;have fin:∀z,zT x=z->K (.d (.int .i64 z)) σ:=fun z h=>h▸hK;clear hK;simp only[zpa,iN,bT,bF,eN,reqA];(repeat'(first|(refine gq4 ?_;try with_reducible exact True.intro)|(refine zV (fun h=>?_) (fun h=>?_)<;>(try rw[h]))|((with_reducible refine And.intro ?_ ?_);focus(first|omega|rfl|decide))));all_goals first
  | (
   refine zu hl ?_
   (try simp only[decide_eq_true_eq,decide_eq_false_iff_not,beq_iff_eq,beq_eq_false_iff_ne,bne_iff_ne,ne_eq,Bool.not_eq_true',Bool.not_eq_false',bne_eq_false_iff_eq]at *)
   exact fin _ (by rw[zT,if_pos (by omega)]))
  | skip
 refine zxc (o:=x.op) hx.1 hx.2.1 hx.2.2.1 ?_;refine zG ?_;refine zu hl ?_;(try simp only[decide_eq_true_eq,decide_eq_false_iff_not,beq_iff_eq,beq_eq_false_iff_ne,bne_iff_ne,ne_eq,Bool.not_eq_true',Bool.not_eq_false',bne_eq_false_iff_eq]at *);exact fin _ (by rw[zT,if_neg (by omega)])
theorem c_rKey {c:Int}{K:KT}(hK:K (.d (.int .i64 (if c<0∨c≥8 then -1 else 13+c))) σ):zP zoz [.d (.int .i64 c)] σ K:=by
 refine zey e_r08_Key fun hl=>?_;have fin:∀z,(if c<0∨c≥8 then -1 else 13+c)=z->K (.d (.int .i64 z)) σ:=fun z h=>h▸hK;clear hK;simp only[S_r08_Key,iN,bT,bF,eN];(repeat'(first|(refine gq4 ?_;try with_reducible exact True.intro)|(refine zV (fun h=>?_) (fun h=>?_)<;>(try rw[h]))|((with_reducible refine And.intro ?_ ?_);focus(first|omega|rfl|decide))));all_goals
  refine zu hl ?_
  (try simp only[decide_eq_true_eq,decide_eq_false_iff_not,beq_iff_eq,beq_eq_false_iff_ne,bne_iff_ne,ne_eq,Bool.not_eq_true',Bool.not_eq_false',bne_eq_false_iff_eq]at *)
 ·exact fin _ (by rw[if_pos (by omega)])
 ·exact fin _ (by rw[if_pos (by omega)])
 ·exact fin _ (by rw[if_neg (by omega),zaT (by omega) (by omega)])
theorem zm {A P Q:Prop}(a:A)(h:Q)(e:A->Hd Q->P:=by intro a h;(repeat' first|simp -dsimp only[↓zlC,↓zbR,↓zeb,↓zlD,↓zlu,↓zls,↓zlv,↓zlt,↓zeg,↓zec,↓zeh,↓zed,↓zlw,↓zdX,↓zei,↓zee,↓zej,↓zef,↓zlq,↓zlA,↓zdW,↓zem,↓zli,↓zlh,↓zln,iN,bT,bF,eN,↓zev,↓unC,↓zaC,↓zai,↓zaj,↓zav,↓zaW,↓zah,↓zgy,↓zaw,↓zbd,↓zad,↓ze,↓zl,↓zbg,↓zc,↓zaV,↓zN,↓zbS,↓zcl,↓zf,↓zF,↓zp,↓zM,↓zaB,↓zgF,↓zhG,↓zbc,↓zbz,↓zcf,↓zcz,↓zdj,↓zJ,↓zbb,↓zak,↓zO,↓zaU,zho,zdP,zdy,unA,zgu,bnd,ziP,zaO,zL,zhY,dm,dm1,zH,zaJ,zjT,zjS,keepO,Q0,Q1,Q2,Q3,Q4,Q5,zba,zA,zB,zX,zaa,Q6,Q7,Q8,Q9,Q10,Q11,Q12,Q13,Q14,Nat.reduceAdd,Q15,Int.reduceToNat,Q16,Q17,Q18,Q19,Q20,reduceIte,Q21,Q22,zy,rep,zaq,zhV,toD,zaD,Q23,Q24,Q25,Q26,Q27,Q28,Nat.reduceLeDiff,Q29,Nat.reduceSub,Q30,Q31,Q32,sc,Q33,Q34,Q35,Q36,Q37,Q26,Q38,Q39,zuP,zuM,zuJ,zuQ,zjr,zuN,zuK,zuO,zuL,zjq,zjs,zuS,zuT,Bool.not_true,Bool.not_false,List.length_map,a]|with_reducible refine zvh ?_|fail);exact h.go):P:=e a ⟨h⟩
theorem zzb {x:zr}(hx:okO x.op){K:KT}(hK:K (.d (.int .i64 (zT x))) σ):zP zng [reqA x] σ K:=by
 refine zey e_r08_Check fun hl=>?_;have fin:∀z,zT x=z->K (.d (.int .i64 z)) σ:=fun z h=>h▸hK;clear hK;simp only[zxs,iN,bT,bF,eN,reqA];refine zG ?_;refine c_rKey ?_;by_cases hc:x.client<0∨x.client≥8
 ·rw[if_pos hc];refine zm (show decide ((-1:Int)<0)=true from rfl) ?_;refine zu hl ?_;exact fin _ (by rw[zT,if_pos (by omega)])
 ·rw[if_neg hc];have h0:decide (13+x.client<0)=false:=by simp;omega
  (refine gq6 h0 ?_;try with_reducible exact True.intro);(repeat'(first|(refine gq4 ?_;try with_reducible exact True.intro)|(refine zV (fun h=>?_) (fun h=>?_)<;>(try rw[h]))|((with_reducible refine And.intro ?_ ?_);focus(first|omega|rfl|decide))));all_goals first
   | (
    refine zu hl ?_
    (try simp only[decide_eq_true_eq,decide_eq_false_iff_not,beq_iff_eq,beq_eq_false_iff_ne,bne_iff_ne,ne_eq,Bool.not_eq_true',Bool.not_eq_false',bne_eq_false_iff_eq]at *)
    exact fin _ (by rw[zT,if_pos (by omega)]))
   | skip
  refine zAH (o:=x.op) hx.1 hx.2.1 hx.2.2.1 ?_;refine zG ?_;refine zu hl ?_;(try simp only[decide_eq_true_eq,decide_eq_false_iff_not,beq_iff_eq,beq_eq_false_iff_ne,bne_iff_ne,ne_eq,Bool.not_eq_true',Bool.not_eq_false',bne_eq_false_iff_eq]at *);exact fin _ (by rw[zT,if_neg (by omega)])
theorem zbL {k d:Int}{K:KT}(hK:K (.d (.int .i64 (zx k d))) σ):zP zbm [.agg [.d (.int .i64 k),.d (.int .i64 d)]] σ K:=by
 refine zey zrk fun hl=>?_;have fin:∀z,zx k d=z->K (.d (.int .i64 z)) σ:=fun z h=>h▸hK;clear hK;simp only[zkK,iN,bT,bF,eN];(repeat'(first|(refine gq4 ?_;try with_reducible exact True.intro)|(refine zV (fun h=>?_) (fun h=>?_)<;>(try rw[h]))|((with_reducible refine And.intro ?_ ?_);focus(first|omega|rfl|decide))));all_goals
  refine zu hl ?_
  (try simp only[decide_eq_true_eq,decide_eq_false_iff_not,beq_iff_eq,beq_eq_false_iff_ne,bne_iff_ne,ne_eq,Bool.not_eq_true',Bool.not_eq_false',bne_eq_false_iff_eq]at *)
  first|exact fin _ (by rw[zx,if_pos (by omega)])|exact fin _ (by rw[zx,if_neg (by omega)])
theorem zbH {k d:Int}{K:KT}(hK:K (.d (.int .i64 (zx k d))) σ):zP zbD [.agg [.d (.int .i64 k),.d (.int .i64 d)]] σ K:=by
 refine zey zwF fun hl=>?_;have fin:∀z,zx k d=z->K (.d (.int .i64 z)) σ:=fun z h=>h▸hK;clear hK;simp only[zpj,iN,bT,bF,eN];(repeat'(first|(refine gq4 ?_;try with_reducible exact True.intro)|(refine zV (fun h=>?_) (fun h=>?_)<;>(try rw[h]))|((with_reducible refine And.intro ?_ ?_);focus(first|omega|rfl|decide))));all_goals
  refine zu hl ?_
  (try simp only[decide_eq_true_eq,decide_eq_false_iff_not,beq_iff_eq,beq_eq_false_iff_ne,bne_iff_ne,ne_eq,Bool.not_eq_true',Bool.not_eq_false',bne_eq_false_iff_eq]at *)
  first|exact fin _ (by rw[zx,if_pos (by omega)])|exact fin _ (by rw[zx,if_neg (by omega)])
variable {σ:List AObj}
theorem wk1 (k:Nat)(h:k<=1073741824):IntKind.i64.wrap ((k:Int)+1)=((k+1:Nat):Int):=by rw[zaT (by omega) (by omega)];rfl
theorem zdO {A P Q:Prop}(a:A)(h:Q)(e:A->Hd Q->P:=by intro a h;(repeat' first|simp -dsimp only[↓zlC,↓zbR,↓zeb,↓zlD,↓zlu,↓zls,↓zlv,↓zlt,↓zeg,↓zec,↓zeh,↓zed,↓zlw,↓zdX,↓zei,↓zee,↓zej,↓zef,↓zlq,↓zlA,↓zdW,↓zem,↓zli,↓zlh,↓zln,iN,bT,bF,eN,↓zev,↓unC,↓zaC,↓zai,↓zaj,↓zav,↓zaW,↓zah,↓zgy,↓zaw,↓zbd,↓zad,↓ze,↓zl,↓zbg,↓zc,↓zaV,↓zN,↓zbS,↓zcl,↓zf,↓zF,↓zp,↓zM,↓zaB,↓zgF,↓zhG,↓zbc,↓zbz,↓zcf,↓zcz,↓zdj,↓zJ,↓zbb,↓zak,↓zO,↓zaU,zho,zdP,zdy,unA,zgu,bnd,ziP,zaO,zL,zhY,dm,dm1,zH,zaJ,zjT,zjS,keepO,Q0,Q1,Q2,Q3,Q4,Q5,zba,zA,zB,zX,zaa,Q6,Q7,Q8,Q9,Q10,Q11,Q12,Q13,Q14,Nat.reduceAdd,Q15,Int.reduceToNat,Q16,Q17,Q18,Q19,Q20,reduceIte,Q21,Q22,zy,rep,zaq,zhV,toD,zaD,Q23,Q24,Q25,Q26,Q27,Q28,Nat.reduceLeDiff,Q29,Nat.reduceSub,Q30,Q31,Q32,sc,Q33,Q34,Q35,Q36,Q37,Q26,Q38,Q39,zuP,zuM,zuJ,zuQ,zjr,zuN,zuK,zuO,zuL,zjq,zjs,zuS,zuT,Bool.not_true,Bool.not_false,List.length_map,Bool.and_false,Bool.and_self,Bool.false_and,Bool.not_false,Bool.not_true,Bool.true_and,Int.toNat_natCast,Int.toNat_zero,List.drop_zero,List.length_map,List.length_nil,List.nil_append,List.take_length,Nat.sub_zero,Nat.zero_add,Option.isSome_none,Option.isSome_some,Option.map_none,Option.map_some,zam,beq_self_eq_true,bne_self_eq_false,zcj,zhL,zag,zdd,zsi,zce,zow,opA,opD,zfy,zgo,zki,zay,a]|with_reducible refine zvh ?_|fail);exact h.go):P:=e a ⟨h⟩
theorem ziY {b:List zr}(hb:okB b){K:KT}(hK:K (.d (.int .i64 (zD b))) σ):zP zbO [.d (.slice (zbA b))] σ K:=by
 refine zey zpY fun hl=>?_;have fin:∀z,zD b=z->K (.d (.int .i64 z)) σ:=fun z h=>h▸hK;clear hK;obtain⟨hb1,hb2⟩:=hb;simp only[zjA,iN,bT,bF,eN,zl1];cases h4:decide ((b.length:Int)>4);rotate_left
 ·refine zm h4 ?_;refine zu hl ?_;exact fin _ (by rw[zD,if_pos (by simp at h4;omega)])
 have h4':¬b.length>4:=by simp at h4;omega
 refine zm h4 ?_;refine zn b.length (fun k vs s=>vs=[.d (.int .i64 k)]/\(∃T,s=σ++T)/\zoa (b.take k)=0) ⟨rfl,⟨[],by simp⟩,rfl⟩ ?_;rintro k vs s hk ⟨rfl,⟨T,rfl⟩,he⟩;by_cases hlt:k<b.length
 ·have hd:decide ((k:Int)<(b.length:Int))=true:=by simp;omega
  have hx:b[k]? = some b[k]:=by simp[hlt]
  have hbx:=hb2 _ (List.getElem_mem hlt);have hgx:=zQ (f:=zay) hx;obtain⟨x,hxe⟩:∃x,b[k]=x:=⟨_,rfl⟩;rw[hxe]at hx hgx hbx;have bad:zyU x≠0->K (.d (.int .i64 (zyU x))) σ:=fun h=>fin _ (by rw[zD,if_neg h4',if_pos (by rw[zpL hx he h];exact h)];exact zpL hx he h);refine zdO (zd hd hgx) ?_;refine c_rqCheck (x:=x) hbx ?_;cases h1:(zT x != 0);rotate_left
  ·have h1':zT x≠0:=by simpa using h1
   refine zm h1 ?_;refine zu hl ?_;have e:zyU x=zT x:=by rw[zyU,if_pos h1']
   rw[e]at bad;exact bad h1'
  refine zm h1 ?_;have h1':¬zT x≠0:=by simpa using h1
  have e:zyU x=zx x.key x.dig:=by rw[zyU,if_neg h1']
  refine zbL ?_;cases h2:(zx x.key x.dig != 0);rotate_left
  ·refine zm h2 ?_;refine zu hl ?_;rw[e]at bad;exact bad (by simpa using h2)
  refine zm (zd h2 (wk1 k (by omega))) ?_;exact zaF.next hlt ⟨rfl,⟨_,rfl⟩,zyT hx he (by rw[e];simpa using h2)⟩
 ·have hn:k=b.length:=by omega
  subst hn;rw[List.take_length]at he;have hd:decide ((b.length:Int)<(b.length:Int))=false:=by simp
  refine zm hd ?_;refine zn b.length (fun k vs s=>vs=[.d (.int .i64 k)]/\(∃T,s=σ++T)/\(b.take k).Pairwise ndup) ⟨rfl,⟨T,rfl⟩,by simp⟩ ?_;rintro k vs s hk' ⟨rfl,⟨T,rfl⟩,hp⟩;by_cases hlt:k<b.length
  ·have hd:decide ((k:Int)<(b.length:Int))=true:=by simp;omega
   have hx:b[k]? = some b[k]:=by simp[hlt]
   have hgx:=zQ (f:=zay) hx;obtain⟨x,hxe⟩:∃x,b[k]=x:=⟨_,rfl⟩;rw[hxe]at hx hgx;have htk:List.take k (List.map zay b)=List.map zay (b.take k):=by rw[List.map_take]
   have hlk:(b.take k).length=k:=by rw[List.length_take];omega
   refine zdO (zd hd (zd hgx (zd htk hlk))) ?_;refine⟨batch_nine b,?_⟩;refine zdO (zd hd (zd hgx (zd htk hlk))) ?_;refine zn k (fun j vs s=>vs=[.d (.int .i64 j)]/\(∃T',s=σ++(T++.box [.d (.int .i64 x.client),.d (.int .i64 x.time),.d (.int .i64 x.op.kind),.d (.str x.op.topic),.d (.str x.op.group),.d (.int .i64 x.op.offset),.d (.slice (zdv x.op.recs)),.d (.int .i64 x.key),.d (.int .i64 x.dig)]::T'))/\∀y∈b.take j,¬(x.client=y.client/\x.time=y.time)) ⟨rfl,⟨[],by simp⟩,by simp⟩ ?_;rintro j vs s hj ⟨rfl,⟨T',rfl⟩,hno⟩;by_cases hjk:j<k
   ·have hd:decide ((j:Int)<(k:Int))=true:=by simp;omega
    have hy:b[j]? = some (b[j]'(by omega)):=List.getElem?_eq_getElem _;have hy':(b.take k)[j]? = some (b[j]'(by omega)):=by rw[List.getElem?_take,if_pos hjk];exact hy
    have hgy:=zQ (f:=zay) hy';obtain⟨y,hye⟩:∃y,b[j]'(by omega)=y:=⟨_,rfl⟩;rw[hye]at hy hgy hy';have hyt:b.take (j+1)=b.take j++[y]:=by rw[List.take_add_one,hy];rfl
    have next:¬(x.client=y.client/\x.time=y.time)->∀z∈b.take (j+1),¬(x.client=z.client/\x.time=z.time):=fun h z hz=>by
     rw[hyt]at hz;rcases List.mem_append.1 hz with hz|hz
     ·exact hno z hz
     ·simp at hz;subst hz;exact h
    cases h1:(x.client==y.client)
    ·refine zdO (zd hd (zd htk (zd hlk (zd hgy (zd h1 (wk1 j (by omega))))))) ?_;exact zaF.next hjk ⟨rfl,⟨_,rfl⟩,next (by simp at h1;exact fun h=>h1 h.1)⟩
    cases h2:(x.time==y.time)
    ·refine zdO (zd hd (zd htk (zd hlk (zd hgy (zd h1 (zd h2 (wk1 j (by omega)))))))) ?_;exact zaF.next hjk ⟨rfl,⟨_,rfl⟩,next (by simp at h2;exact fun h=>h2 h.2)⟩
    ·refine zdO (zd hd (zd htk (zd hlk (zd hgy (zd h1 h2))))) ?_;refine zu hl ?_;have hnp:=pairs_not hx hy hjk ⟨by simpa using h1,by simpa using h2⟩;exact fin _ (by rw[zD,if_neg h4',if_neg (by simpa using he),if_neg hnp])
   ·have hd:decide ((j:Int)<(k:Int))=false:=by simp;omega
    have hn:j=k:=by omega
    subst hn;refine zm (zd hd (zd htk (zd hlk (wk1 j (by omega))))) ?_;exact zaF.next hlt ⟨rfl,⟨_,rfl⟩,zyx hx hp hno⟩
  ·have hd:decide ((k:Int)<(b.length:Int))=false:=by simp;omega
   refine zm hd ?_;refine zu hl ?_;have hn:k=b.length:=by omega
   subst hn;rw[List.take_length]at hp;exact fin _ (by rw[zD,if_neg h4',if_neg (by simpa using he),if_pos hp])
theorem zhN {b:List zr}(hb:okB b){K:KT}(hK:K (.d (.int .i64 (zD b))) σ):zP zdb [.d (.slice (zbA b))] σ K:=by
 refine zey zva fun hl=>?_;have fin:∀z,zD b=z->K (.d (.int .i64 z)) σ:=fun z h=>h▸hK;clear hK;obtain⟨hb1,hb2⟩:=hb;simp only[znO,iN,bT,bF,eN];cases h4:decide ((b.length:Int)>4);rotate_left
 ·refine zm h4 ?_;refine zu hl ?_;exact fin _ (by rw[zD,if_pos (by simp at h4;omega)])
 have h4':¬b.length>4:=by simp at h4;omega
 refine zm h4 ?_;refine zn b.length (fun k vs s=>vs=[.d (.int .i64 k)]/\s=σ/\zoa (b.take k)=0) ⟨rfl,rfl,rfl⟩ ?_;rintro k vs s hk ⟨rfl,rfl,he⟩;by_cases hlt:k<b.length
 ·have hd:decide ((k:Int)<(b.length:Int))=true:=by simp;omega
  have hx:b[k]? = some b[k]:=by simp[hlt]
  have hbx:=hb2 _ (List.getElem_mem hlt);have hgx:=zQ (f:=zay) hx;obtain⟨x,hxe⟩:∃x,b[k]=x:=⟨_,rfl⟩;rw[hxe]at hx hgx hbx;have bad:zyU x≠0->K (.d (.int .i64 (zyU x))) s:=fun h=>fin _ (by rw[zD,if_neg h4',if_pos (by rw[zpL hx he h];exact h)];exact zpL hx he h);refine zdO (zd hd hgx) ?_;refine zzb (x:=x) hbx ?_;cases h1:(zT x != 0);rotate_left
  ·have h1':zT x≠0:=by simpa using h1
   refine zm h1 ?_;refine zu hl ?_;have e:zyU x=zT x:=by rw[zyU,if_pos h1']
   rw[e]at bad;exact bad h1'
  refine zdO (zd h1 hgx) ?_;have h1':¬zT x≠0:=by simpa using h1
  have e:zyU x=zx x.key x.dig:=by rw[zyU,if_neg h1']
  refine zbH ?_;cases h2:(zx x.key x.dig != 0);rotate_left
  ·refine zm h2 ?_;refine zu hl ?_;rw[e]at bad;exact bad (by simpa using h2)
  refine zm (zd h2 (wk1 k (by omega))) ?_;exact zaF.next hlt ⟨rfl,rfl,zyT hx he (by rw[e];simpa using h2)⟩
 ·have hn:k=b.length:=by omega
  subst hn;rw[List.take_length]at he;have hd:decide ((b.length:Int)<(b.length:Int))=false:=by simp
  refine zm hd ?_;refine zn b.length (fun k vs q=>vs=[.d (.int .i64 k)]/\q=s/\(b.take k).Pairwise ndup) ⟨rfl,rfl,by simp⟩ ?_;rintro k vs s hk' ⟨rfl,rfl,hp⟩;by_cases hlt:k<b.length
  ·have hd:decide ((k:Int)<(b.length:Int))=true:=by simp;omega
   have hx:b[k]? = some b[k]:=by simp[hlt]
   have hgx:=zQ (f:=zay) hx;obtain⟨x,hxe⟩:∃x,b[k]=x:=⟨_,rfl⟩;rw[hxe]at hx hgx;refine zm hd ?_;refine zn k (fun j vs q=>vs=[.d (.int .i64 j)]/\q=s/\∀y∈b.take j,¬(x.client=y.client/\x.time=y.time)) ⟨rfl,rfl,by simp⟩ ?_;rintro j vs s hj ⟨rfl,rfl,hno⟩;by_cases hjk:j<k
   ·have hd:decide ((j:Int)<(k:Int))=true:=by simp;omega
    have hy:b[j]? = some (b[j]'(by omega)):=List.getElem?_eq_getElem _;have hgy:=zQ (f:=zay) hy;obtain⟨y,hye⟩:∃y,b[j]'(by omega)=y:=⟨_,rfl⟩;rw[hye]at hy hgy;have hyt:b.take (j+1)=b.take j++[y]:=by rw[List.take_add_one,hy];rfl
    have next:¬(x.client=y.client/\x.time=y.time)->∀z∈b.take (j+1),¬(x.client=z.client/\x.time=z.time):=fun h z hz=>by
     rw[hyt]at hz;rcases List.mem_append.1 hz with hz|hz
     ·exact hno z hz
     ·simp at hz;subst hz;exact h
    cases h1:(x.client==y.client)
    ·refine zdO (zd hd (zd hgx (zd hgy (zd h1 (wk1 j (by omega)))))) ?_;exact zaF.next hjk ⟨rfl,rfl,next (by simp at h1;exact fun h=>h1 h.1)⟩
    cases h2:(x.time==y.time)
    ·refine zdO (zd hd (zd hgx (zd hgy (zd h1 (zd h2 (wk1 j (by omega))))))) ?_;exact zaF.next hjk ⟨rfl,rfl,next (by simp at h2;exact fun h=>h2 h.2)⟩
    ·refine zdO (zd hd (zd hgx (zd hgy (zd h1 h2)))) ?_;refine zu hl ?_;have hnp:=pairs_not hx hy hjk ⟨by simpa using h1,by simpa using h2⟩;exact fin _ (by rw[zD,if_neg h4',if_neg (by simpa using he),if_neg hnp])
   ·have hd:decide ((j:Int)<(k:Int))=false:=by simp;omega
    have hn:j=k:=by omega
    subst hn;refine zm (zd hd (wk1 j (by omega))) ?_;exact zaF.next hlt ⟨rfl,rfl,zyx hx hp hno⟩
  ·have hd:decide ((k:Int)<(b.length:Int))=false:=by simp;omega
   refine zm hd ?_;refine zu hl ?_;have hn:k=b.length:=by omega
   subst hn;rw[List.take_length]at hp;exact fin _ (by rw[zD,if_neg h4',if_neg (by simpa using he),if_pos hp])
variable {σ:List AObj}
theorem c_Same1 {a b:zr}(ha:a.op.recs.length<=1073741824)(hb:b.op.recs.length<=1073741824){K:KT}(hK:K (.d (.bool (decide (a=b)))) σ):zP zgR [zki a,zki b] σ K:=by
 refine zen zuW fun hl=>?_;have e:a=b↔a.key=b.key/\a.dig=b.dig/\a.client=b.client/\a.time=b.time/\a.op=b.op:=by cases a;cases b;simp;constructor<;>(intro h;simp_all)
 have fin:∀z,decide (a=b)=z->K (.d (.bool z)) σ:=fun z h=>h▸hK;clear hK;simp only[znK,iN,bT,bF,eN,zki];cases h1:(a.key==b.key)
 ·refine zdO h1 ?_;refine zu hl ?_;refine fin _ (decide_eq_false fun h=>?_);have:=(e.1 h).1;simp[this]at h1
 cases h2:(a.dig==b.dig)
 ·refine zdO (zd h1 h2) ?_;refine zu hl ?_;refine fin _ (decide_eq_false fun h=>?_);have:=(e.1 h).2.1;simp[this]at h2
 cases h3:(a.client==b.client)
 ·refine zdO (zd h1 (zd h2 h3)) ?_;refine zu hl ?_;refine fin _ (decide_eq_false fun h=>?_);have:=(e.1 h).2.2.1;simp[this]at h3
 cases h4:(a.time==b.time)
 ·refine zdO (zd h1 (zd h2 (zd h3 h4))) ?_;refine zu hl ?_;refine fin _ (decide_eq_false fun h=>?_);have:=(e.1 h).2.2.2.1;simp[this]at h4
 refine zdO (zd h1 (zd h2 (zd h3 h4))) ?_;refine c_Same (a:=a.op) (b:=b.op) ha hb ?_;refine zG ?_;refine zu hl ?_;refine fin _ ?_;rw[Bool.eq_iff_iff,decide_eq_true_eq,decide_eq_true_eq,e];simp only[beq_iff_eq]at h1 h2 h3 h4;simp[h1,h2,h3,h4]
theorem zsC {a b:List zr}(ha:zgx a)(hb:zgx b){K:KT}(hK:K (.d (.bool (decide (a=b)))) σ) :
  zP zar [.d (.slice (zbA a)),.d (.slice (zbA b)),.fn (.func zgR) [] []] σ K:=by
 refine acE3 zcM fun hl=>?_;have fin:∀z,decide (a=b)=z->K (.d (.bool z)) σ:=fun z h=>h▸hK;clear hK;obtain⟨ha1,ha2⟩:=ha;obtain⟨hb1,hb2⟩:=hb;simp only[zbh,iN,bT,bF,eN,zl1];cases hl0:((a.length:Int) != (b.length:Int));rotate_left
 ·refine zm hl0 ?_;refine zu hl ?_;refine fin _ (decide_eq_false fun h=>?_);rw[h]at hl0;simp at hl0
 have hl2:a.length=b.length:=by simp at hl0;omega
 refine zm hl0 ?_;refine zn a.length (fun k vs s=>vs=[.d (.int .i64 k)]/\(∃T,s=σ++T)/\a.take k=b.take k) ⟨rfl,⟨[],by simp⟩,by simp⟩ ?_;rintro k vs s hk ⟨rfl,⟨T,rfl⟩,htk⟩;by_cases hlt:k<a.length
 ·have hd:decide ((k:Int)<(a.length:Int))=true:=by simp;omega
  have hx:a[k]? = some a[k]:=by simp[hlt]
  have hy:b[k]? = some (b[k]'(by omega)):=List.getElem?_eq_getElem _;have hgx:=zQ (f:=zay) hx;have hgy:=zQ (f:=zay) hy;have hxs:=(ha2 _ (List.getElem_mem hlt)).1;have hys:=(hb2 _ (List.getElem_mem (show k<b.length by omega))).1;obtain⟨x,hxe⟩:∃x,a[k]=x:=⟨_,rfl⟩;obtain⟨y,hye⟩:∃y,(b[k]'(by omega))=y:=⟨_,rfl⟩;rw[hxe]at hx hgx hxs;rw[hye]at hy hgy hys;obtain⟨S,hS⟩:∃S,σ++T=S:=⟨_,rfl⟩;rw[hS];refine zdO (zd hd (zd hgx hgy)) ?_;refine c_Same1 (a:=x) (b:=y) hxs hys ?_;cases he:decide (x=y)
  ·refine zm hd ?_;rw[← hS,List.append_assoc];refine zu hl ?_;refine fin _ (decide_eq_false fun h=>?_);subst h;rw[hx]at hy;have:=Option.some.inj hy;simp[this]at he
  ·refine zm (wk1 k (by omega)) ?_;exact zaF.next hlt ⟨rfl,⟨_,by rw[← hS,List.append_assoc]⟩,zbs hx hy htk (by simpa using he)⟩
 ·have hd:decide ((k:Int)<(a.length:Int))=false:=by simp;omega
  refine zm hd ?_;refine zu hl ?_;exact fin _ (decide_eq_true (zct hl2 (k:=k) (by omega) htk))
theorem zwU {a b:List zr}(ha:zgx a)(hb:zgx b){K:KT}(hK:K (.d (.bool (decide (a=b)))) σ):zP zgD [.d (.slice (zbA a)),.d (.slice (zbA b))] σ K:=by
 refine zen zxT fun hl=>?_;simp only[zqC,iN,bT,bF,eN];refine zG ?_;refine zsC ha hb ?_;refine zG ?_;refine zu hl ?_;exact hK
variable {σ:List AObj}
abbrev zfr (e:Int):AObj:=.box [.d (.int .i64 e)]
theorem ziJ (n:Nat)(e:Int):ztV n (zfr e):=by
 intro c hc;simp only[List.mem_cons,List.not_mem_nil,or_false]at hc;subst hc;exact .d _
theorem c_says {id:Nat}{e x:Int}(hσ:σ[id]? = some (zfr e)){K:KT}(hK:K (.tup []) (σ.set id (zfr (znX e x)))):zP zE [.box id 0,.d (.int .i64 x)] σ K:=by
 refine zen zqd fun hl=>?_;simp only[zjG,iN,bT,bF,eN];cases h:(e==0)
 ·rw[znX,if_pos (by simpa using h),zbQ hσ]at hK;refine zm (zd hσ h) ?_;refine zu hl ?_;exact hK
 ·rw[znX,if_neg (by simpa using h)]at hK;refine zm (zd hσ h) ?_;exact zeW (by simp[zck,dmT,zbw]) hl (ziJ _ _) hK
theorem thn_0 (e:Int):znX e 0=e:=by
 unfold znX;split
 ·rfl
 ·rename_i h;simp at h;exact h.symm
theorem zAO {id:Nat}{e n lo hi:Int}(hσ:σ[id]? = some (zfr e)){K:KT}(hK:K (.tup []) (σ.set id (zfr (znX e (inE n lo hi))))) :
  zP zau [.box id 0,.d (.int .i64 n),.d (.int .i64 lo),.d (.int .i64 hi)] σ K:=by
 refine acE4 zss fun hl=>?_;simp only[zlM,iN,bT,bF,eN];have bad:(n<lo∨n>hi)->zP zE [.box id 0,.d (.int .i64 100)] σ fun _ s=>AW.Ends σ.length K (some []) s:=fun h=>by
  rw[inE,if_pos h]at hK;refine c_says hσ ?_;exact zeW (by simp[zck,dmT,zbw]) hl (ziJ _ _) hK
 cases h1:decide (n<lo)
 ·cases h2:decide (n>hi)
  ·rw[inE,if_neg (by simp at h1 h2;omega),thn_0,zbQ hσ]at hK;refine zm (zd h1 h2) ?_;refine zu hl ?_;exact hK
  ·refine zm (zd h1 h2) ?_;exact bad (.inr (by simpa using h2))
 ·refine zm h1 ?_;exact bad (.inl (by simpa using h1))
theorem zAN {id:Nat}{e n:Int}(hσ:σ[id]? = some (zfr e)){K:KT}(hK:K (.tup []) (σ.set id (zfr (znX e (zeP n))))) :
  zP zR [.box id 0,.d (.int .i64 n)] σ K:=by
 refine zen zrs fun hl=>?_;simp only[zkV,iN,bT,bF,eN];refine zG ?_;refine zAO hσ ?_;exact zeW (by simp[zck,dmT,zbw]) hl (ziJ _ _) hK
theorem c_askPos {id:Nat}{e n:Int}(hσ:σ[id]? = some (zfr e)){K:KT}(hK:K (.tup []) (σ.set id (zfr (znX e (zkl n))))) :
  zP zae [.box id 0,.d (.int .i64 n)] σ K:=by
 refine zen zrr fun hl=>?_;simp only[zkU,iN,bT,bF,eN];refine zG ?_;refine zAO hσ ?_;exact zeW (by simp[zck,dmT,zbw]) hl (ziJ _ _) hK
theorem c_askMany {id:Nat}{e n hi:Int}(hσ:σ[id]? = some (zfr e)){K:KT}(hK:K (.tup []) (σ.set id (zfr (znX e (inE n 0 hi))))) :
  zP zal [.box id 0,.d (.int .i64 n),.d (.int .i64 hi)] σ K:=by
 refine acE3 zqf fun hl=>?_;simp only[zjI,iN,bT,bF,eN];refine zG ?_;refine zAO hσ ?_;exact zeW (by simp[zck,dmT,zbw]) hl (ziJ _ _) hK
theorem c_askName {id:Nat}{e:Int}{x:List UInt8}(hσ:σ[id]? = some (zfr e))(hx:x.length<=1073741824){K:KT}(hK:K (.tup []) (σ.set id (zfr (znX e (zkZ x))))) :
  zP zcv [.box id 0,.d (.str x)] σ K:=by
 refine zen zqe fun hl=>?_;simp only[zjH,iN,bT,bF,eN];refine zG ?_;refine c_Name hx ?_;cases h:zdY x
 ·rw[zkZ,if_neg (by simp[h])]at hK;refine zG ?_;refine c_says hσ ?_;exact zeW (by simp[zck,dmT,zbw]) hl (ziJ _ _) hK
 ·rw[zkZ,if_pos h,thn_0,zbQ hσ]at hK;refine zG ?_;refine zu hl ?_;exact hK
theorem fst_snoc (e:Int)(l:List Int)(x:Int):znX (zax (e::l)) x=zax (e::(l++[x])):=by
 rw[show e::(l++[x])=(e::l)++[x]from rfl,zeC];unfold znX;split
 ·rfl
 ·simp[zax]
theorem zjU {α β:Type}{f:α→β}{l:List α}{k:Nat}{x:α}(h:l[k]? = some x):(l.take (k+1)).map f=(l.take k).map f++[f x]:=by
 rw[List.take_add_one,h];simp
theorem wkc (k:Nat)(h:k<=1073741824):IntKind.i64.wrap ((k:Int)+1)=((k+1:Nat):Int):=by rw[zaT (by omega) (by omega)];rfl
theorem fst1 (e x:Int):zax [e,x]=znX e x:=by
 unfold znX;simp only[zax];split
 ·rfl
 ·split
  ·rfl
  ·rename_i h;simp at h;exact h.symm
theorem bft:((false:Bool)==true)=false:=rfl
theorem btf:((true:Bool)==false)=false:=rfl
theorem gq19 {A P Q:Prop}(a:A)(h:Q)(e:A->Hd Q->P:=by intro a h;(repeat' first|simp -dsimp only[↓zlC,↓zbR,↓zeb,↓zlD,↓zlu,↓zls,↓zlv,↓zlt,↓zeg,↓zec,↓zeh,↓zed,↓zlw,↓zdX,↓zei,↓zee,↓zej,↓zef,↓zlq,↓zlA,↓zdW,↓zem,↓zli,↓zlh,↓zln,iN,bT,bF,eN,↓zev,↓unC,↓zaC,↓zai,↓zaj,↓zav,↓zaW,↓zah,↓zgy,↓zaw,↓zbd,↓zad,↓ze,↓zl,↓zbg,↓zc,↓zaV,↓zN,↓zbS,↓zcl,↓zf,↓zF,↓zp,↓zM,↓zaB,↓zgF,↓zhG,↓zbc,↓zbz,↓zcf,↓zcz,↓zdj,↓zJ,↓zbb,↓zak,↓zO,↓zaU,zho,zdP,zdy,unA,zgu,bnd,ziP,zaO,zL,zhY,dm,dm1,zH,zaJ,zjT,zjS,keepO,Q0,Q1,Q2,Q3,Q4,Q5,zba,zA,zB,zX,zaa,Q6,Q7,Q8,Q9,Q10,Q11,Q12,Q13,Q14,Nat.reduceAdd,Q15,Int.reduceToNat,Q16,Q17,Q18,Q19,Q20,reduceIte,Q21,Q22,zy,rep,zaq,zhV,toD,zaD,Q23,Q24,Q25,Q26,Q27,Q28,Nat.reduceLeDiff,Q29,Nat.reduceSub,Q30,Q31,Q32,sc,Q33,Q34,Q35,Q36,Q37,Q26,Q38,Q39,zuP,zuM,zuJ,zuQ,zjr,zuN,zuK,zuO,zuL,zjq,zjs,zuS,zuT,Bool.not_true,Bool.not_false,List.length_map,Bool.and_false,Bool.and_self,Bool.false_and,Bool.not_false,Bool.not_true,Bool.true_and,Int.toNat_natCast,Int.toNat_zero,List.drop_zero,List.length_map,List.length_nil,List.nil_append,List.take_length,Nat.sub_zero,Nat.zero_add,Option.isSome_none,Option.isSome_some,Option.map_none,Option.map_some,zam,beq_self_eq_true,bft,bne_self_eq_false,btf,zcj,zhL,zag,zdd,zsi,zce,zow,opA,opD,zfy,zgo,zki,zay,a]|with_reducible refine zvh ?_|fail);exact h.go):P:=e a ⟨h⟩
theorem zzh {id:Nat}{e:Int}{l:List zK}(hσ:σ[id]? = some (zfr e))(hl0:l.length<=1073741824){K:KT}(hK:K (.tup []) (σ.set id (zfr (znX e (zax (zcn l)))))) :
  zP zaY [.box id 0,.d (.slice (zat l))] σ K:=by
 refine zen zoO fun hl=>?_;have hlen:(zat l).length=l.length:=List.length_map ..;have hid:=zZ hσ;rw[thn_fst,zcn]at hK;simp only[zjf,iN,bT,bF,eN];refine zm hlen ?_;refine c_askMany hσ ?_;refine zm hlen ?_;refine zn l.length (fun k vs s=>vs=[.d (.int .i64 k)]/\∃T,s=σ.set id (zfr (zax (e::(inE l.length 0 13::(l.take k).map fun s=>zx s.key s.dig))))++T) ⟨rfl,[],by rw[List.take_zero,List.map_nil,fst1,List.append_nil]⟩ ?_;rintro k vs s hk ⟨rfl,T,rfl⟩;by_cases hlt:k<l.length
 ·have hd:decide ((k:Int)<(l.length:Int))=true:=by simp;omega
  have hx:l[k]? = some l[k]:=by simp[hlt]
  have hgx:=zQ (f:=zgo) hx;obtain⟨x,hxe⟩:∃x,l[k]=x:=⟨_,rfl⟩;rw[hxe]at hx hgx;have hmn:=zjU (f:=fun s:zK=>zx s.key s.dig) hx;have fs:=fst_snoc e (inE l.length 0 13::(l.take k).map fun s=>zx s.key s.dig) (zx x.key x.dig);simp only[List.cons_append]at fs;rw[← hmn]at fs;obtain⟨E,hE⟩:∃E,zax (e::(inE l.length 0 13::(l.take k).map fun s=>zx s.key s.dig))=E:=⟨_,rfl⟩;rw[hE]at fs ⊢;have hS:∀τ,(σ.set id (zfr E)++τ)[id]? = some (zfr E):=fun τ=>zi (zdo hσ);refine gq19 (zd hd (zd hgx hlen)) ?_;refine zbL ?_;refine zG ?_;refine c_says (e:=E) (hS _) ?_;rw[zdg (zdo hσ),List.set_set];refine zm (wkc k (by omega)) ?_;exact zaF.next hlt ⟨rfl,_,by rw[fs]⟩
 ·have hd:decide ((k:Int)<(l.length:Int))=false:=by simp;omega
  rw[List.take_of_length_le (by omega)];refine zm hd ?_;exact zeK (by simp[zck,dmT,zbw]) hl (ziJ _ _) hK
theorem zlr {A P Q:Prop}(a:A)(h:Q)(e:A->Hd Q->P:=by intro a h;(repeat' first|simp -dsimp only[↓zlC,↓zbR,↓zeb,↓zlD,↓zlu,↓zls,↓zlv,↓zlt,↓zeg,↓zec,↓zeh,↓zed,↓zlw,↓zdX,↓zei,↓zee,↓zej,↓zef,↓zlq,↓zlA,↓zdW,↓zem,↓zli,↓zlh,↓zln,iN,bT,bF,eN,↓zev,↓unC,↓zaC,↓zai,↓zaj,↓zav,↓zaW,↓zah,↓zgy,↓zaw,↓zbd,↓zad,↓ze,↓zl,↓zbg,↓zc,↓zaV,↓zN,↓zbS,↓zcl,↓zf,↓zF,↓zp,↓zM,↓zaB,↓zgF,↓zhG,↓zbc,↓zbz,↓zcf,↓zcz,↓zdj,↓zJ,↓zbb,↓zak,↓zO,↓zaU,zho,zdP,zdy,unA,zgu,bnd,ziP,zaO,zL,zhY,dm,dm1,zH,zaJ,zjT,zjS,keepO,Q0,Q1,Q2,Q3,Q4,Q5,zba,zA,zB,zX,zaa,Q6,Q7,Q8,Q9,Q10,Q11,Q12,Q13,Q14,Nat.reduceAdd,Q15,Int.reduceToNat,Q16,Q17,Q18,Q19,Q20,reduceIte,Q21,Q22,zy,rep,zaq,zhV,toD,zaD,Q23,Q24,Q25,Q26,Q27,Q28,Nat.reduceLeDiff,Q29,Nat.reduceSub,Q30,Q31,Q32,sc,Q33,Q34,Q35,Q36,Q37,Q26,Q38,Q39,zuP,zuM,zuJ,zuQ,zjr,zuN,zuK,zuO,zuL,zjq,zjs,zuS,zuT,Bool.not_true,Bool.not_false,List.length_map,Bool.and_false,Bool.and_self,Bool.false_and,Bool.not_false,Bool.not_true,Bool.true_and,Int.toNat_natCast,Int.toNat_zero,List.drop_zero,List.length_map,List.length_nil,List.nil_append,List.take_length,Nat.sub_zero,Nat.zero_add,Option.isSome_none,Option.isSome_some,Option.map_none,Option.map_some,zam,beq_self_eq_true,bft,bne_self_eq_false,btf,a]|with_reducible refine zvh ?_|fail);exact h.go):P:=e a ⟨h⟩
theorem c_askCert {id:Nat}{e:Int}{c:zjt}(hσ:σ[id]? = some (zfr e))(hl0:c.signs.length<=1073741824){K:KT}(hK:K (.tup []) (σ.set id (zfr (znX e (zax (zby c)))))) :
  zP zbP [.box id 0,zhL c] σ K:=by
 refine zen zqg fun hl=>?_;have hlen:(zat c.signs).length=c.signs.length:=List.length_map ..;simp only[zjJ,iN,bT,bF,eN,zhL];have hB:∀X,(σ.set id X++[AObj.box [AV.d (D.int .i64 c.seq),AV.d (D.int .i64 c.dig),AV.d (D.slice (zat c.signs))]])[σ.length]? = some (AObj.box [AV.d (D.int .i64 c.seq),AV.d (D.int .i64 c.dig),AV.d (D.slice (zat c.signs))]):=fun X=>by
  rw[List.getElem?_append_right (by simp)];simp
 have hS:∀E τ,(σ.set id (zfr E)++τ)[id]? = some (zfr E):=fun E τ=>zi (zdo hσ);have hP:∀E Y τ,(σ.set id (zfr E)++τ).set id Y=σ.set id Y++τ:=fun E Y τ=>by rw[zdg (zdo hσ),List.set_set]
 have e4:znX e (zax (zby c))=znX (znX (znX (znX e (zeP c.seq)) (zeP c.dig)) (zeZ c)) (zax (zcn c.signs)):=by
  simp only[zby,zax,znX];by_cases h0:e=0
  ·by_cases h1:zeP c.seq=0
   ·by_cases h2:zeP c.dig=0
    ·by_cases h3:zeZ c=0
     ·simp[h0,h1,h2,h3]
     ·simp[h0,h1,h2,h3]
    ·simp[h0,h1,h2]
   ·simp[h0,h1]
  ·simp[h0]
 rw[e4]at hK;refine zG ?_;refine zAN (zi hσ) ?_;rw[zdg hσ];refine zm hB ?_;refine zAN (hS _ _) ?_;rw[hP];obtain⟨E,hE⟩:∃E,znX (znX e (zeP c.seq)) (zeP c.dig)=E:=⟨_,rfl⟩;rw[hE]at hK ⊢;have tail:∀M,M=zeZ c->zP zaY [.box id 0,.d (.slice (zat c.signs))] (σ.set id (zfr (znX E M))++[AObj.box [AV.d (D.int .i64 c.seq),AV.d (D.int .i64 c.dig),AV.d (D.slice (zat c.signs))]]) fun _ s=>AW.Ends σ.length K (some []) s:=fun M hM=>by
  subst hM;refine zzh (hS _ _) hl0 ?_;rw[hP];exact zeK (by simp[zck,dmT,zbw]) hl (ziJ _ _) hK
 have no:zeZ c=100->zP zE [.box id 0,.d (.int .i64 100)] (σ.set id (zfr E)++[AObj.box [AV.d (D.int .i64 c.seq),AV.d (D.int .i64 c.dig),AV.d (D.slice (zat c.signs))]]) fun _ s=>fl 2 (.box σ.length 0) s fun g s=>cA Tryz.prog zaY [.box id 0,g] s fun _ s=>AW.Ends σ.length K (some []) s:=fun h=>by
  refine c_says (hS _ _) ?_;rw[hP];refine zm hB ?_;exact tail 100 h.symm
 have yes:zeZ c=0->zP zaY [.box id 0,.d (.slice (zat c.signs))] (σ.set id (zfr E)++[AObj.box [AV.d (D.int .i64 c.seq),AV.d (D.int .i64 c.dig),AV.d (D.slice (zat c.signs))]]) fun _ s=>AW.Ends σ.length K (some []) s:=fun h=>by
  have:=tail 0 h.symm;rw[thn_0]at this;exact this
 cases h1:(c.seq==0)
 ·cases h2:(c.dig==0)
  ·refine zlr (zd hB (zd h1 h2)) ?_;exact yes (by simp at h1 h2;simp[zeZ,h1,h2])
  ·refine zlr (zd hB (zd h1 h2)) ?_;exact no (by simp at h1 h2;simp[zeZ,h1,h2])
 ·cases h2:(c.dig==0)
  ·refine zlr (zd hB (zd h1 h2)) ?_;exact no (by simp at h1 h2;simp[zeZ,h1,h2])
  ·cases h3:decide ((c.signs.length:Int)>0)
   ·refine zlr (zd hB (zd h1 (zd h2 (zd hlen h3)))) ?_;exact yes (by simp at h1 h2 h3;simp[zeZ,h1,h2,h3])
   ·refine zlr (zd hB (zd h1 (zd h2 (zd hlen h3)))) ?_;exact no (by simp only[beq_iff_eq,decide_eq_true_eq]at h1 h2 h3;rw[zeZ,if_pos (.inr ⟨h1,by omega⟩)])
structure zqS (p:zfi):Prop where
 topic:p.topic.length<=16777216
 rec_:p.rec_.length<=16777216
 headers:p.headers.length<=1073741824
 path:p.path.length<=1073741824
 signs:p.cert.signs.length<=1073741824
 off:zqt p.offset
 index:zqt p.index
 count:zqt p.count
 paths:∀x∈p.path,zqt x
abbrev zor (p:zfi):AObj:=.box [.d (.str p.topic),.d (.int .i64 p.offset),.d (.slice (bcs p.rec_)),.d (.slice (zmv p.headers)),.d (.int .i64 p.index),.d (.int .i64 p.count),.d (.slice (zgH p.path)),.d (.int .i64 p.cert.seq),.d (.int .i64 p.cert.dig),.d (.slice (zat p.cert.signs))]
theorem thnE_app (e:Int)(a b:List Int):znX (znX e (zax a)) (zax b)=znX e (zax (a++b)):=by
 rw[zeC];unfold znX;by_cases h:e=0
 ·by_cases h2:zax a=0
  ·simp[h,h2]
  ·simp[h,h2]
 ·simp[h]
theorem thnE_app1 (e:Int)(a:List Int)(x:Int):znX (znX e (zax a)) x=znX e (zax (a++[x])):=by
 have:x=zax [x]:=by simp only[zax];split<;>simp_all
 conv=>lhs;rw[this]
 exact thnE_app e a [x]
theorem thnE_z (x:Int):znX 0 x=x:=by simp[znX]
theorem zps (l:List Int)(x:Int):znX (zax l) x=zax (l++[x]):=by rw[← thnE_z (zax l),thnE_app1,thnE_z]
variable {σ:List AObj}
theorem gq21 {A P Q:Prop}(a:A)(h:Q)(e:A->Hd Q->P:=by intro a h;(repeat' first|simp -dsimp only[↓zlC,↓zbR,↓zeb,↓zlD,↓zlu,↓zls,↓zlv,↓zlt,↓zeg,↓zec,↓zeh,↓zed,↓zlw,↓zdX,↓zei,↓zee,↓zej,↓zef,↓zlq,↓zlA,↓zdW,↓zem,↓zli,↓zlh,↓zln,iN,bT,bF,eN,↓zev,↓unC,↓zaC,↓zai,↓zaj,↓zav,↓zaW,↓zah,↓zgy,↓zaw,↓zbd,↓zad,↓ze,↓zl,↓zbg,↓zc,↓zaV,↓zN,↓zbS,↓zcl,↓zf,↓zF,↓zp,↓zM,↓zaB,↓zgF,↓zhG,↓zbc,↓zbz,↓zcf,↓zcz,↓zdj,↓zJ,↓zbb,↓zak,↓zO,↓zaU,zho,zdP,zdy,unA,zgu,bnd,ziP,zaO,zL,zhY,dm,dm1,zH,zaJ,zjT,zjS,keepO,Q0,Q1,Q2,Q3,Q4,Q5,zba,zA,zB,zX,zaa,Q6,Q7,Q8,Q9,Q10,Q11,Q12,Q13,Q14,Nat.reduceAdd,Q15,Int.reduceToNat,Q16,Q17,Q18,Q19,Q20,reduceIte,Q21,Q22,zy,rep,zaq,zhV,toD,zaD,Q23,Q24,Q25,Q26,Q27,Q28,Nat.reduceLeDiff,Q29,Nat.reduceSub,Q30,Q31,Q32,sc,Q33,Q34,Q35,Q36,Q37,Q26,Q38,Q39,zuP,zuM,zuJ,zuQ,zjr,zuN,zuK,zuO,zuL,zjq,zjs,zuS,zuT,Bool.not_true,Bool.not_false,List.length_map,Bool.and_false,Bool.and_self,Bool.false_and,Bool.not_false,Bool.not_true,Bool.true_and,Int.toNat_natCast,Int.toNat_zero,List.drop_zero,List.length_map,List.length_nil,List.nil_append,List.take_length,Nat.sub_zero,Nat.zero_add,Option.isSome_none,Option.isSome_some,Option.map_none,Option.map_some,zam,beq_self_eq_true,bft,bne,bne_self_eq_false,btf,zcj,zhL,zag,zdd,zsi,zce,zow,opA,opD,zfy,zgo,zki,zay,a]|with_reducible refine zvh ?_|fail);exact h.go):P:=e a ⟨h⟩
theorem c_eqSign {a b:List zK}(ha1:a.length<=1073741824){K:KT}(hK:K (.d (.bool (decide (a=b)))) σ) :
  zP zbB [.d (.slice (zat a)),.d (.slice (zat b))] σ K:=by
 refine zen zhW fun hl=>?_;have fin:∀z,decide (a=b)=z->K (.d (.bool z)) σ:=fun z h=>h▸hK;clear hK;simp only[zew,iN,bT,bF,eN];cases hl0:((a.length:Int) != (b.length:Int));rotate_left
 ·refine zm hl0 ?_;refine zu hl ?_;refine fin _ (decide_eq_false fun h=>?_);rw[h]at hl0;simp at hl0
 have hl2:a.length=b.length:=by simp at hl0;omega
 refine zm hl0 ?_;refine zn a.length (fun k vs s=>vs=[.d (.int .i64 k)]/\(∃T,s=σ++T)/\a.take k=b.take k) ⟨rfl,⟨[],by simp⟩,by simp⟩ ?_;rintro k vs s hk ⟨rfl,⟨T,rfl⟩,htk⟩;by_cases hlt:k<a.length
 ·have hd:decide ((k:Int)<(a.length:Int))=true:=by simp;omega
  have hx:a[k]? = some a[k]:=by simp[hlt]
  have hy:b[k]? = some (b[k]'(by omega)):=List.getElem?_eq_getElem _;have hgx:=zQ (f:=zgo) hx;have hgy:=zQ (f:=zgo) hy;obtain⟨x,hxe⟩:∃x,a[k]=x:=⟨_,rfl⟩;obtain⟨y,hye⟩:∃y,(b[k]'(by omega))=y:=⟨_,rfl⟩;rw[hxe]at hx hgx;rw[hye]at hy hgy;obtain⟨S,hS⟩:∃S,σ++T=S:=⟨_,rfl⟩;rw[hS];have hxy:x=y↔((x.key==y.key&&x.dig==y.dig))=true:=by cases x;cases y;simp
  cases h2:((x.key==y.key&&x.dig==y.dig))
  ·refine gq21 (zd hd (zd hgx (zd hgy h2))) ?_;rw[← hS];refine zu hl ?_;refine fin _ (decide_eq_false fun h=>?_);subst h;rw[hx]at hy;rw[hxy.1 (Option.some.inj hy)]at h2;cases h2
  ·refine gq21 (zd hd (zd hgx (zd hgy (zd h2 (wk1 k (by omega)))))) ?_;exact zaF.next hlt ⟨rfl,⟨_,hS.symm⟩,zbs hx hy htk (hxy.2 h2)⟩
 ·have hd:decide ((k:Int)<(a.length:Int))=false:=by simp;omega
  refine zm hd ?_;refine zu hl ?_;exact fin _ (decide_eq_true (zct hl2 (k:=k) (by omega) htk))
theorem c_eqHdr {a b:List zsU}(ha1:a.length<=1073741824){K:KT}(hK:K (.d (.bool (decide (a=b)))) σ) :
  zP zbV [.d (.slice (zmv a)),.d (.slice (zmv b))] σ K:=by
 refine zen zgJ fun hl=>?_;have fin:∀z,decide (a=b)=z->K (.d (.bool z)) σ:=fun z h=>h▸hK;clear hK;simp only[zdq,iN,bT,bF,eN];cases hl0:((a.length:Int) != (b.length:Int));rotate_left
 ·refine zm hl0 ?_;refine zu hl ?_;refine fin _ (decide_eq_false fun h=>?_);rw[h]at hl0;simp at hl0
 have hl2:a.length=b.length:=by simp at hl0;omega
 refine zm hl0 ?_;refine zn a.length (fun k vs s=>vs=[.d (.int .i64 k)]/\(∃T,s=σ++T)/\a.take k=b.take k) ⟨rfl,⟨[],by simp⟩,by simp⟩ ?_;rintro k vs s hk ⟨rfl,⟨T,rfl⟩,htk⟩;by_cases hlt:k<a.length
 ·have hd:decide ((k:Int)<(a.length:Int))=true:=by simp;omega
  have hx:a[k]? = some a[k]:=by simp[hlt]
  have hy:b[k]? = some (b[k]'(by omega)):=List.getElem?_eq_getElem _;have hgx:=zQ (f:=zsi) hx;have hgy:=zQ (f:=zsi) hy;obtain⟨x,hxe⟩:∃x,a[k]=x:=⟨_,rfl⟩;obtain⟨y,hye⟩:∃y,(b[k]'(by omega))=y:=⟨_,rfl⟩;rw[hxe]at hx hgx;rw[hye]at hy hgy;obtain⟨S,hS⟩:∃S,σ++T=S:=⟨_,rfl⟩;rw[hS];have hxy:x=y↔((x.seq==y.seq&&(x.prev==y.prev&&(x.batch==y.batch&&(x.root==y.root&&x.state==y.state)))))=true:=by cases x;cases y;simp
  cases h2:((x.seq==y.seq&&(x.prev==y.prev&&(x.batch==y.batch&&(x.root==y.root&&x.state==y.state)))))
  ·refine gq21 (zd hd (zd hgx (zd hgy h2))) ?_;rw[← hS];refine zu hl ?_;refine fin _ (decide_eq_false fun h=>?_);subst h;rw[hx]at hy;rw[hxy.1 (Option.some.inj hy)]at h2;cases h2
  ·refine gq21 (zd hd (zd hgx (zd hgy (zd h2 (wk1 k (by omega)))))) ?_;exact zaF.next hlt ⟨rfl,⟨_,hS.symm⟩,zbs hx hy htk (hxy.2 h2)⟩
 ·have hd:decide ((k:Int)<(a.length:Int))=false:=by simp;omega
  refine zm hd ?_;refine zu hl ?_;exact fin _ (decide_eq_true (zct hl2 (k:=k) (by omega) htk))
theorem c_eqDig {a b:List Int}(ha1:a.length<=1073741824){K:KT}(hK:K (.d (.bool (decide (a=b)))) σ) :
  zP zbW [.d (.slice (zgH a)),.d (.slice (zgH b))] σ K:=by
 refine zen zgK fun hl=>?_;have fin:∀z,decide (a=b)=z->K (.d (.bool z)) σ:=fun z h=>h▸hK;clear hK;simp only[zdr,iN,bT,bF,eN];cases hl0:((a.length:Int) != (b.length:Int));rotate_left
 ·refine zm hl0 ?_;refine zu hl ?_;refine fin _ (decide_eq_false fun h=>?_);rw[h]at hl0;simp at hl0
 have hl2:a.length=b.length:=by simp at hl0;omega
 refine zm hl0 ?_;refine zn a.length (fun k vs s=>vs=[.d (.int .i64 k)]/\(∃T,s=σ++T)/\a.take k=b.take k) ⟨rfl,⟨[],by simp⟩,by simp⟩ ?_;rintro k vs s hk ⟨rfl,⟨T,rfl⟩,htk⟩;by_cases hlt:k<a.length
 ·have hd:decide ((k:Int)<(a.length:Int))=true:=by simp;omega
  have hx:a[k]? = some a[k]:=by simp[hlt]
  have hy:b[k]? = some (b[k]'(by omega)):=List.getElem?_eq_getElem _;have hgx:=zQ (f:=fun t=>[D.int .i64 t]) hx;have hgy:=zQ (f:=fun t=>[D.int .i64 t]) hy;obtain⟨x,hxe⟩:∃x,a[k]=x:=⟨_,rfl⟩;obtain⟨y,hye⟩:∃y,(b[k]'(by omega))=y:=⟨_,rfl⟩;rw[hxe]at hx hgx;rw[hye]at hy hgy;obtain⟨S,hS⟩:∃S,σ++T=S:=⟨_,rfl⟩;rw[hS];have hxy:x=y↔(x==y)=true:=by simp
  cases h2:(x==y)
  ·refine gq21 (zd hd (zd hgx (zd hgy h2))) ?_;rw[← hS];refine zu hl ?_;refine fin _ (decide_eq_false fun h=>?_);subst h;rw[hx]at hy;rw[hxy.1 (Option.some.inj hy)]at h2;cases h2
  ·refine gq21 (zd hd (zd hgx (zd hgy (zd h2 (wk1 k (by omega)))))) ?_;exact zaF.next hlt ⟨rfl,⟨_,hS.symm⟩,zbs hx hy htk (hxy.2 h2)⟩
 ·have hd:decide ((k:Int)<(a.length:Int))=false:=by simp;omega
  refine zm hd ?_;refine zu hl ?_;exact fin _ (decide_eq_true (zct hl2 (k:=k) (by omega) htk))
structure zqR (p:zjY):Prop where
 signs:p.signs.length<=1073741824
 batch:zgx p.batch
structure zjM (c:zbk):Prop where
 signs:c.cert.signs.length<=1073741824
 above:c.above.length<=1073741824
 each:∀p∈c.above,zqR p
def zvN (x:zhQ):Prop:=zgx x.batch
abbrev entryA (x:zhQ):AV:=.agg [.d (.int .i64 x.view),.d (.int .i64 x.seq),.d (.slice (zbA x.batch)),.d (.int .i64 x.key),.d (.int .i64 x.dig)]
theorem zrB {a b:zjt}(ha:a.signs.length<=1073741824){K:KT}(hK:K (.d (.bool (decide (a=b)))) σ):zP zea [zhL a,zhL b] σ K:=by
 refine zen zsr fun hl=>?_;have fin:∀z,decide (a=b)=z->K (.d (.bool z)) σ:=fun z h=>h▸hK;clear hK;simp only[zlL,iN,bT,bF,eN];cases h1:(a.seq==b.seq)
 ·refine zm h1 ?_;refine zu hl ?_;exact fin _ (decide_eq_false fun h=>by subst h;simp at h1)
 cases h2:(a.dig==b.dig)
 ·refine zm (zd h1 h2) ?_;refine zu hl ?_;exact fin _ (decide_eq_false fun h=>by subst h;simp at h2)
 refine zm (zd h1 h2) ?_;refine c_eqSign ha ?_;cases h3:decide (a.signs=b.signs)
 ·refine zG ?_;refine zu hl ?_;exact fin _ (decide_eq_false fun h=>by subst h;simp at h3)
 ·refine zG ?_;refine zu hl ?_;exact fin _ (decide_eq_true (by cases a;cases b;simp_all))
theorem c_mSamePrep {a b:zjY}(ha:zqR a)(hb:zqR b){K:KT}(hK:K (.d (.bool (decide (a=b)))) σ) :
  zP zdM [.agg [.d (.int .i64 a.view),.d (.int .i64 a.seq),.d (.int .i64 a.dig),.d (.int .i64 a.fkey),.d (.int .i64 a.fdig),.d (.slice (zat a.signs)),.d (.slice (zbA a.batch))],.agg [.d (.int .i64 b.view),.d (.int .i64 b.seq),.d (.int .i64 b.dig),.d (.int .i64 b.fkey),.d (.int .i64 b.fdig),.d (.slice (zat b.signs)),.d (.slice (zbA b.batch))]] σ K:=by
 refine zen zof fun hl=>?_;have fin:∀z,decide (a=b)=z->K (.d (.bool z)) σ:=fun z h=>h▸hK;clear hK;simp only[zii,iN,bT,bF,eN];cases h1:(a.view==b.view)
 ·refine zm h1 ?_;refine zu hl ?_;exact fin _ (decide_eq_false fun h=>by subst h;simp at h1)
 cases h2:(a.seq==b.seq)
 ·refine zm (zd h1 h2) ?_;refine zu hl ?_;exact fin _ (decide_eq_false fun h=>by subst h;simp at h2)
 cases h3:(a.dig==b.dig)
 ·refine zm (zd h1 (zd h2 h3)) ?_;refine zu hl ?_;exact fin _ (decide_eq_false fun h=>by subst h;simp at h3)
 cases h4:(a.fkey==b.fkey&&a.fdig==b.fdig)
 ·refine zdO (zd h1 (zd h2 (zd h3 h4))) ?_;refine zu hl ?_;exact fin _ (decide_eq_false fun h=>by subst h;simp at h4)
 refine zdO (zd h1 (zd h2 (zd h3 h4))) ?_;refine c_eqSign ha.signs ?_;cases h5:decide (a.signs=b.signs)
 ·refine zG ?_;refine zu hl ?_;exact fin _ (decide_eq_false fun h=>by subst h;simp at h5)
 refine zG ?_;refine zwU ha.batch hb.batch ?_;cases h6:decide (a.batch=b.batch)
 ·refine zG ?_;refine zu hl ?_;exact fin _ (decide_eq_false fun h=>by subst h;simp at h6)
 ·refine zG ?_;refine zu hl ?_;exact fin _ (decide_eq_true (by cases a;cases b;simp_all))
theorem c_eqPreps {a b:List zjY}(ha1:a.length<=1073741824)(ha2:∀x∈a,zqR x)(hb2:∀x∈b,zqR x){K:KT}(hK:K (.d (.bool (decide (a=b)))) σ) :
  zP zac [.d (.slice (zft a)),.d (.slice (zft b)),.fn (.func zdM) [] []] σ K:=by
 refine acE3 zbT fun hl=>?_;have fin:∀z,decide (a=b)=z->K (.d (.bool z)) σ:=fun z h=>h▸hK;clear hK;simp only[zaL,iN,bT,bF,eN,zl7];cases hl0:((a.length:Int) != (b.length:Int));rotate_left
 ·refine zm hl0 ?_;refine zu hl ?_;refine fin _ (decide_eq_false fun h=>?_);rw[h]at hl0;simp at hl0
 have hl2:a.length=b.length:=by simp at hl0;omega
 refine zm hl0 ?_;refine zn a.length (fun k vs s=>vs=[.d (.int .i64 k)]/\(∃T,s=σ++T)/\a.take k=b.take k) ⟨rfl,⟨[],by simp⟩,by simp⟩ ?_;rintro k vs s hk ⟨rfl,⟨T,rfl⟩,htk⟩;by_cases hlt:k<a.length
 ·have hd:decide ((k:Int)<(a.length:Int))=true:=by simp;omega
  have hx:a[k]? = some a[k]:=by simp[hlt]
  have hy:b[k]? = some (b[k]'(by omega)):=List.getElem?_eq_getElem _;have hgx:=zQ (f:=zfy) hx;have hgy:=zQ (f:=zfy) hy;have hxs:=ha2 _ (List.getElem_mem hlt);have hys:=hb2 _ (List.getElem_mem (show k<b.length by omega));obtain⟨x,hxe⟩:∃x,a[k]=x:=⟨_,rfl⟩;obtain⟨y,hye⟩:∃y,(b[k]'(by omega))=y:=⟨_,rfl⟩;rw[hxe]at hx hgx hxs;rw[hye]at hy hgy hys;obtain⟨S,hS⟩:∃S,σ++T=S:=⟨_,rfl⟩;rw[hS];refine zdO (zd hd (zd hgx hgy)) ?_;refine c_mSamePrep (a:=x) (b:=y) hxs hys ?_;cases he:decide (x=y)
  ·refine zm hd ?_;rw[← hS,List.append_assoc];refine zu hl ?_;refine fin _ (decide_eq_false fun h=>?_);subst h;rw[hx]at hy;have:=Option.some.inj hy;simp[this]at he
  ·refine zm (wk1 k (by omega)) ?_;exact zaF.next hlt ⟨rfl,⟨_,by rw[← hS,List.append_assoc]⟩,zbs hx hy htk (by simpa using he)⟩
 ·have hd:decide ((k:Int)<(a.length:Int))=false:=by simp;omega
  refine zm hd ?_;refine zu hl ?_;exact fin _ (decide_eq_true (zct hl2 (k:=k) (by omega) htk))
theorem zAI {a b:zbk}(ha:zjM a)(hb:zjM b){K:KT}(hK:K (.d (.bool (decide (a=b)))) σ) :
  zP zeA [.agg [.d (.int .i64 a.view),.d (.int .i64 a.src),.d (.int .i64 a.cert.seq),.d (.int .i64 a.cert.dig),.d (.slice (zat a.cert.signs)),.d (.slice (zft a.above)),.d (.int .i64 a.key),.d (.int .i64 a.dig)],.agg [.d (.int .i64 b.view),.d (.int .i64 b.src),.d (.int .i64 b.cert.seq),.d (.int .i64 b.cert.dig),.d (.slice (zat b.cert.signs)),.d (.slice (zft b.above)),.d (.int .i64 b.key),.d (.int .i64 b.dig)]] σ K:=by
 refine zen zqb fun hl=>?_;have fin:∀z,decide (a=b)=z->K (.d (.bool z)) σ:=fun z h=>h▸hK;clear hK;simp only[zjE,iN,bT,bF,eN];cases h1:(a.view==b.view)
 ·refine zm h1 ?_;refine zu hl ?_;exact fin _ (decide_eq_false fun h=>by subst h;simp at h1)
 cases h2:(a.src==b.src)
 ·refine zm (zd h1 h2) ?_;refine zu hl ?_;exact fin _ (decide_eq_false fun h=>by subst h;simp at h2)
 refine zm (zd h1 h2) ?_;refine zrB (a:=a.cert) (b:=b.cert) ha.signs ?_;cases h3:decide (a.cert=b.cert)
 ·refine zG ?_;refine zu hl ?_;exact fin _ (decide_eq_false fun h=>by subst h;simp at h3)
 refine zG ?_;refine c_eqPreps ha.above ha.each hb.each ?_;cases h4:decide (a.above=b.above)
 ·refine zG ?_;refine zu hl ?_;exact fin _ (decide_eq_false fun h=>by subst h;simp at h4)
 cases h5:(a.key==b.key&&a.dig==b.dig)
 ·refine zdO h5 ?_;refine zu hl ?_;exact fin _ (decide_eq_false fun h=>by subst h;simp at h5)
 ·refine zdO h5 ?_;refine zu hl ?_;exact fin _ (decide_eq_true (by cases a;cases b;simp_all))
theorem c_eqChanges {a b:List zbk}(ha1:a.length<=1073741824)(ha2:∀x∈a,zjM x)(hb2:∀x∈b,zjM x){K:KT}(hK:K (.d (.bool (decide (a=b)))) σ) :
  zP zao [.d (.slice (zap a)),.d (.slice (zap b)),.fn (.func zeA) [] []] σ K:=by
 refine acE3 zcB fun hl=>?_;have fin:∀z,decide (a=b)=z->K (.d (.bool z)) σ:=fun z h=>h▸hK;clear hK;simp only[zbf,iN,bT,bF,eN,zl6];cases hl0:((a.length:Int) != (b.length:Int));rotate_left
 ·refine zm hl0 ?_;refine zu hl ?_;refine fin _ (decide_eq_false fun h=>?_);rw[h]at hl0;simp at hl0
 have hl2:a.length=b.length:=by simp at hl0;omega
 refine zm hl0 ?_;refine zn a.length (fun k vs s=>vs=[.d (.int .i64 k)]/\(∃T,s=σ++T)/\a.take k=b.take k) ⟨rfl,⟨[],by simp⟩,by simp⟩ ?_;rintro k vs s hk ⟨rfl,⟨T,rfl⟩,htk⟩;by_cases hlt:k<a.length
 ·have hd:decide ((k:Int)<(a.length:Int))=true:=by simp;omega
  have hx:a[k]? = some a[k]:=by simp[hlt]
  have hy:b[k]? = some (b[k]'(by omega)):=List.getElem?_eq_getElem _;have hgx:=zQ (f:=zag) hx;have hgy:=zQ (f:=zag) hy;have hxs:=ha2 _ (List.getElem_mem hlt);have hys:=hb2 _ (List.getElem_mem (show k<b.length by omega));obtain⟨x,hxe⟩:∃x,a[k]=x:=⟨_,rfl⟩;obtain⟨y,hye⟩:∃y,(b[k]'(by omega))=y:=⟨_,rfl⟩;rw[hxe]at hx hgx hxs;rw[hye]at hy hgy hys;obtain⟨S,hS⟩:∃S,σ++T=S:=⟨_,rfl⟩;rw[hS];refine zdO (zd hd (zd hgx hgy)) ?_;refine zAI (a:=x) (b:=y) hxs hys ?_;cases he:decide (x=y)
  ·refine zm hd ?_;rw[← hS,List.append_assoc];refine zu hl ?_;refine fin _ (decide_eq_false fun h=>?_);subst h;rw[hx]at hy;have:=Option.some.inj hy;simp[this]at he
  ·refine zm (wk1 k (by omega)) ?_;exact zaF.next hlt ⟨rfl,⟨_,by rw[← hS,List.append_assoc]⟩,zbs hx hy htk (by simpa using he)⟩
 ·have hd:decide ((k:Int)<(a.length:Int))=false:=by simp;omega
  refine zm hd ?_;refine zu hl ?_;exact fin _ (decide_eq_true (zct hl2 (k:=k) (by omega) htk))
theorem c_mSameEntry {a b:zhQ}(ha:zvN a)(hb:zvN b){K:KT}(hK:K (.d (.bool (decide (a=b)))) σ) :
  zP zeU [entryA a,entryA b] σ K:=by
 refine zen zrp fun hl=>?_;have fin:∀z,decide (a=b)=z->K (.d (.bool z)) σ:=fun z h=>h▸hK;clear hK;simp only[zkS,iN,bT,bF,eN];cases h1:(a.view==b.view)
 ·refine zm h1 ?_;refine zu hl ?_;exact fin _ (decide_eq_false fun h=>by subst h;simp at h1)
 cases h2:(a.seq==b.seq)
 ·refine zm (zd h1 h2) ?_;refine zu hl ?_;exact fin _ (decide_eq_false fun h=>by subst h;simp at h2)
 refine zm (zd h1 h2) ?_;refine zwU ha hb ?_;cases h3:decide (a.batch=b.batch)
 ·refine zG ?_;refine zu hl ?_;exact fin _ (decide_eq_false fun h=>by subst h;simp at h3)
 cases h5:(a.key==b.key&&a.dig==b.dig)
 ·refine zdO h5 ?_;refine zu hl ?_;exact fin _ (decide_eq_false fun h=>by subst h;simp at h5)
 ·refine zdO h5 ?_;refine zu hl ?_;exact fin _ (decide_eq_true (by cases a;cases b;simp_all))
theorem c_eqEntries {a b:List zhQ}(ha1:a.length<=1073741824)(ha2:∀x∈a,zvN x)(hb2:∀x∈b,zvN x){K:KT}(hK:K (.d (.bool (decide (a=b)))) σ) :
  zP zaz [.d (.slice (zbq a)),.d (.slice (zbq b)),.fn (.func zeU) [] []] σ K:=by
 refine acE3 zcU fun hl=>?_;have fin:∀z,decide (a=b)=z->K (.d (.bool z)) σ:=fun z h=>h▸hK;clear hK;simp only[zbi,iN,bT,bF,eN];cases hl0:((a.length:Int) != (b.length:Int));rotate_left
 ·refine zm hl0 ?_;refine zu hl ?_;refine fin _ (decide_eq_false fun h=>?_);rw[h]at hl0;simp at hl0
 have hl2:a.length=b.length:=by simp at hl0;omega
 refine zm hl0 ?_;refine zn a.length (fun k vs s=>vs=[.d (.int .i64 k)]/\(∃T,s=σ++T)/\a.take k=b.take k) ⟨rfl,⟨[],by simp⟩,by simp⟩ ?_;rintro k vs s hk ⟨rfl,⟨T,rfl⟩,htk⟩;by_cases hlt:k<a.length
 ·have hd:decide ((k:Int)<(a.length:Int))=true:=by simp;omega
  have hx:a[k]? = some a[k]:=by simp[hlt]
  have hy:b[k]? = some (b[k]'(by omega)):=List.getElem?_eq_getElem _;have hgx:=zQ (f:=zdd) hx;have hgy:=zQ (f:=zdd) hy;have hxs:=ha2 _ (List.getElem_mem hlt);have hys:=hb2 _ (List.getElem_mem (show k<b.length by omega));obtain⟨x,hxe⟩:∃x,a[k]=x:=⟨_,rfl⟩;obtain⟨y,hye⟩:∃y,(b[k]'(by omega))=y:=⟨_,rfl⟩;rw[hxe]at hx hgx hxs;rw[hye]at hy hgy hys;obtain⟨S,hS⟩:∃S,σ++T=S:=⟨_,rfl⟩;rw[hS];refine zdO (zd hd (zd hgx hgy)) ?_;refine c_mSameEntry (a:=x) (b:=y) hxs hys ?_;cases he:decide (x=y)
  ·refine zm hd ?_;rw[← hS,List.append_assoc];refine zu hl ?_;refine fin _ (decide_eq_false fun h=>?_);subst h;rw[hx]at hy;have:=Option.some.inj hy;simp[this]at he
  ·refine zm (wk1 k (by omega)) ?_;exact zaF.next hlt ⟨rfl,⟨_,by rw[← hS,List.append_assoc]⟩,zbs hx hy htk (by simpa using he)⟩
 ·have hd:decide ((k:Int)<(a.length:Int))=false:=by simp;omega
  refine zm hd ?_;refine zu hl ?_;exact fin _ (decide_eq_true (zct hl2 (k:=k) (by omega) htk))
end Go.Proofs.YtdgcepphjnoalaaGreat

/- Contracts: how many brokers there are, and a quorum has. -/
import Derived.Test.YtpgahkdjkanblaaGreatSh
import Derived.Test.YtpgahkdjkanblaaGreatSpOp
import Derived.Test.YtpgahkdjkanblaaGreatAwEnd
set_option linter.all false
set_option maxRecDepth 100000
namespace Go.Proofs.YtpgahkdjkanblaaGreat
open Go.AW
theorem zi {A B:Prop} (a:A) (b:B):A/\B:=⟨a,b⟩
theorem gq1 {A P Q:Prop} (a:A) (h:Q) (e:A->P=Q:=by intro a;simp -dsimp only [↓zhL, ↓zbi, ↓zcI, ↓zhM, ↓zhF, ↓zhD, ↓zhG, ↓zhE, ↓zcN, ↓zcJ, ↓zcO, ↓zcK, ↓zhH, ↓zcH, ↓zcP, ↓zcL, ↓zcQ, ↓zcM, ↓zhC, ↓zhK, ↓zcG, ↓zcR, ↓zhz, ↓zhy, ↓zhB,iN,bT,bF,eN, ↓zdT, ↓unC, ↓zam, ↓zY, ↓zZ, ↓zae, ↓zax, ↓zag, ↓zeQ, ↓zap, ↓zaQ, ↓zW, ↓zg, ↓zh, ↓zcW, ↓zb, ↓zaC, ↓zG, ↓zbv, ↓zbE, ↓zc, ↓zE, ↓zq, ↓zK, ↓zao, ↓zft, ↓zfB, ↓zaL, ↓zaX, ↓zbm, ↓zbC, ↓zcj, ↓zI, ↓zaH, ↓zaa, ↓zM, ↓zaw,zfE,zcw,zcp,unA,zeT,bnd,zgq,zaA,zL,zga,dm,dm1,zw,zad,zgP,zgO,zH,Q0,Q1,Q2,Q3,Q4,Q5,zay,zB,zD,zT,zP,Q6,Q7,Q8,Q9,Q10,Q11,Q12,Q13,Q14,Nat.reduceAdd,Q15,Int.reduceToNat,Q16,Q17,Q18,Q19,Q20,reduceIte,Q21,Q22,zU,rep,zar,zgW,toD,zaz,Q23,Q24,Q25,Q26,Q27,Q28,Nat.reduceLeDiff,Q29,Nat.reduceSub,Q30,Q31,Q32,sc,Q33,Q34,Q35,a];rfl):P:=(e a).mpr h
theorem zkE {σ:List zd} {f:Int} {K:KT} (hK:K (.d (.int .i64 (zbs f))) σ):zj Tryz.prog zdh [.d (.int .i64 f)] σ K:=by
 refine zdZ zyd fun hl => ?_
 simp only [zqB,iN,bT,bF,eN]
 cases h1:decide (f<1)<;>cases h2:decide (f > 4)
 all_goals
  (refine gq1 (zi h1 h2) ?_;try with_reducible exact True.intro)
  refine zt hl ?_
  simp only [decide_eq_true_eq,decide_eq_false_iff_not] at h1 h2
 ·rw [zbs,if_neg (by omega)] at hK;exact hK
 all_goals (rw [zbs,if_pos (by omega)] at hK;exact hK)
theorem ziR {σ:List zd} {f:Int} {K:KT} (hK:K (.d (.int .i64 (zbs f))) σ):zj Tryz.prog zeu [.d (.int .i64 f)] σ K:=by
 refine zdZ e_r12_Check fun hl => ?_
 simp only [zxu,iN,bT,bF,eN]
 cases h1:decide (f<1)<;>cases h2:decide (f > 4)
 all_goals
  (refine gq1 (zi h1 h2) ?_;try with_reducible exact True.intro)
  refine zt hl ?_
  simp only [decide_eq_true_eq,decide_eq_false_iff_not] at h1 h2
 ·rw [zbs,if_neg (by omega)] at hK;exact hK
 all_goals (rw [zbs,if_pos (by omega)] at hK;exact hK)
theorem gq2 {P Q:Prop} (h:Q) (e:P=Q:=by simp -dsimp only [↓zhL, ↓zbi, ↓zcI, ↓zhM, ↓zhF, ↓zhD, ↓zhG, ↓zhE, ↓zcN, ↓zcJ, ↓zcO, ↓zcK, ↓zhH, ↓zcH, ↓zcP, ↓zcL, ↓zcQ, ↓zcM, ↓zhC, ↓zhK, ↓zcG, ↓zcR, ↓zhz, ↓zhy, ↓zhB,iN,bT,bF,eN, ↓zdT, ↓unC, ↓zam, ↓zY, ↓zZ, ↓zae, ↓zax, ↓zag, ↓zeQ, ↓zap, ↓zaQ, ↓zW, ↓zg, ↓zh, ↓zcW, ↓zb, ↓zaC, ↓zG, ↓zbv, ↓zbE, ↓zc, ↓zE, ↓zq, ↓zK, ↓zao, ↓zft, ↓zfB, ↓zaL, ↓zaX, ↓zbm, ↓zbC, ↓zcj, ↓zI, ↓zaH, ↓zaa, ↓zM, ↓zaw,zfE,zcw,zcp,unA,zeT,bnd,zgq,zaA,zL,zga,dm,dm1,zw,zad,zgP,zgO,zH,Q0,Q1,Q2,Q3,Q4,Q5,zay,zB,zD,zT,zP,Q6,Q7,Q8,Q9,Q10,Q11,Q12,Q13,Q14,Nat.reduceAdd,Q15,Int.reduceToNat,Q16,Q17,Q18,Q19,Q20,reduceIte,Q21,Q22,zU,rep,zar,zgW,toD,zaz,Q23,Q24,Q25,Q26,Q27,Q28,Nat.reduceLeDiff,Q29,Nat.reduceSub,Q30,Q31,Q32,sc,Q33,Q34,Q35];rfl):P:=e.mpr h
theorem c_times {σ:List zd} {n f:Int} (hn:0<=n/\n<=3) {K:KT} (hK:K (.d (.int .i64 (zaR n f))) σ):zj Tryz.prog ziA [.d (.int .i64 n),.d (.int .i64 f)] σ K:=by
 refine zeE zyc fun hl => ?_
 simp only [zqA,iN,bT,bF,eN]
 (refine gq2 ?_;try with_reducible exact True.intro)
 refine zkE ?_
 by_cases h:f<1∨f > 4
 ·rw [zaR,if_pos h] at hK
  rw [zbs,if_pos h]
  (refine gq1 (show ((120:Int) != 0)=true from rfl) ?_;try with_reducible exact True.intro)
  refine zt hl ?_
  exact hK
 ·rw [zaR,if_neg h] at hK
  rw [zbs,if_neg h]
  have h1:0<=n*f:=Int.mul_nonneg hn.1 (by omega)
  have h2:n*f<=3*4:=Int.mul_le_mul hn.2 (by omega) (by omega) (by omega)
  have w1:IntKind.i64.wrap (n*f)=n*f:=zab (by omega) (by omega)
  have w2:IntKind.i64.wrap (n*f+1)=n*f+1:=zab (by omega) (by omega)
  (refine gq1 (zi (show ((0:Int) != 0)=false from rfl) (zi w1 w2)) ?_;try with_reducible exact True.intro)
  refine zt hl ?_
  exact hK
theorem c_quBig {σ:List zd} {f:Int} {K:KT} (hK:K (.d (.int .i64 (zaR 2 f))) σ):zj Tryz.prog ziJ [.d (.int .i64 f)] σ K:=by
 refine zdZ e_quorum_Big fun hl => ?_
 simp only [zuL,iN,bT,bF,eN]
 (refine gq2 ?_;try with_reducible exact True.intro)
 refine c_times (by omega) ?_
 (refine gq2 ?_;try with_reducible exact True.intro)
 refine zt hl ?_
 exact hK
theorem zkF {σ:List zd} {f:Int} {K:KT} (hK:K (.d (.int .i64 (zaR 3 f))) σ):zj Tryz.prog zdr [.d (.int .i64 f)] σ K:=by
 refine zdZ zvh fun hl => ?_
 simp only [znI,iN,bT,bF,eN]
 (refine gq2 ?_;try with_reducible exact True.intro)
 refine c_times (by omega) ?_
 (refine gq2 ?_;try with_reducible exact True.intro)
 refine zt hl ?_
 exact hK
theorem zmk {σ:List zd} {f:Int} {K:KT} (hK:K (.d (.int .i64 (zaR 3 f))) σ):zj Tryz.prog zeX [.d (.int .i64 f)] σ K:=by
 refine zdZ zAt fun hl => ?_
 simp only [zsI,iN,bT,bF,eN]
 (refine gq2 ?_;try with_reducible exact True.intro)
 refine ziR ?_
 by_cases h:f<1∨f > 4
 ·rw [zaR,if_pos h] at hK
  rw [zbs,if_pos h]
  (refine gq1 (show ((120:Int) != 0)=true from rfl) ?_;try with_reducible exact True.intro)
  refine zt hl ?_
  exact hK
 ·rw [zaR,if_neg h] at hK
  rw [zbs,if_neg h]
  have w1:IntKind.i64.wrap (3*f)=3*f:=zab (by omega) (by omega)
  have w2:IntKind.i64.wrap (3*f+1)=3*f+1:=zab (by omega) (by omega)
  (refine gq1 (zi (show ((0:Int) != 0)=false from rfl) (zi w1 w2)) ?_;try with_reducible exact True.intro)
  refine zt hl ?_
  exact hK
theorem c_rBig {σ:List zd} {f:Int} {K:KT} (hK:K (.d (.int .i64 (zaR 2 f))) σ):zj Tryz.prog zow [.d (.int .i64 f)] σ K:=by
 refine zdZ e_r12_Big fun hl => ?_
 simp only [S_r12_Big,iN,bT,bF,eN]
 (refine gq2 ?_;try with_reducible exact True.intro)
 refine ziR ?_
 by_cases h:f<1∨f > 4
 ·rw [zaR,if_pos h] at hK
  rw [zbs,if_pos h]
  (refine gq1 (show ((120:Int) != 0)=true from rfl) ?_;try with_reducible exact True.intro)
  refine zt hl ?_
  exact hK
 ·rw [zaR,if_neg h] at hK
  rw [zbs,if_neg h]
  have w1:IntKind.i64.wrap (2*f)=2*f:=zab (by omega) (by omega)
  have w2:IntKind.i64.wrap (2*f+1)=2*f+1:=zab (by omega) (by omega)
  (refine gq1 (zi (show ((0:Int) != 0)=false from rfl) (zi w1 w2)) ?_;try with_reducible exact True.intro)
  refine zt hl ?_
  exact hK
theorem zgi {σ:List zd} {es:List (List D)} {K:KT} (he:∀ e∈es,e.length=1) (hn:es.length<=1073741824) (hK:K (.own σ.length es) (σ++[.tok 1 es.length])):zj Tryz.prog zdi [.d (.slice es)] σ K:=by
 refine zj.tok he ?_ hK
 refine zbT znc.is rfl (fun s=>if s.length = σ.length then [] else [σ.length]) fun hl _=>znc.goes ?_
 simp only [znm,iN,bT,bF,eN,zao,zeT]
 cases es with
 | nil=>
  refine ⟨?_,?_⟩
  ·simp only [zam,zaa,zw]
   exact zkz (by simp) hl rfl (by simp)
  ·simp only [zam,zM,zw,zL,rep,zq,zgW,zaz,zK,zga]
   refine ⟨by simp,by simp,by simp,?_⟩
   exact zmb hl (by simp) (by simp)
 | cons e es=>
  simp only [zam,zM,zw,zL,rep,zq,zgW,zaz,zK,zga]
  refine ⟨he,by simp,by simp at hn ⊢;omega,?_⟩
  exact zmb hl (by simp) (by simp)
theorem zos {rs:List (List UInt8)} {k:Nat} {x:List UInt8} (h:rs[k]? = some x):zeU (rs.take k)++[[D.slice (bcs x)]]=zeU (rs.take (k+1)):=by
 rw [List.take_add_one,h];simp [zeU]
theorem zo {A B:Prop} (a:A) (b:B):A/\B:=⟨a,b⟩
theorem gq3 {P Q:Prop} (h:Q) (e:P=Q:=by simp -dsimp only [↓zhL, ↓zbi, ↓zcI, ↓zhM, ↓zhF, ↓zhD, ↓zhG, ↓zhE, ↓zcN, ↓zcJ, ↓zcO, ↓zcK, ↓zhH, ↓zcH, ↓zcP, ↓zcL, ↓zcQ, ↓zcM, ↓zhC, ↓zhK, ↓zcG, ↓zcR, ↓zhz, ↓zhy, ↓zhB,iN,bT,bF,eN, ↓zdT, ↓unC, ↓zam, ↓zY, ↓zZ, ↓zae, ↓zax, ↓zag, ↓zeQ, ↓zap, ↓zaQ, ↓zW, ↓zg, ↓zh, ↓zcW, ↓zb, ↓zaC, ↓zG, ↓zbv, ↓zbE, ↓zc, ↓zE, ↓zq, ↓zK, ↓zao, ↓zft, ↓zfB, ↓zaL, ↓zaX, ↓zbm, ↓zbC, ↓zcj, ↓zI, ↓zaH, ↓zaa, ↓zM, ↓zaw,zfE,zcw,zcp,unA,zeT,bnd,zgq,zaA,zL,zga,dm,dm1,zw,zad,zgP,zgO,zH,Q0,Q1,Q2,Q3,Q4,Q5,zay,zB,zD,zT,zP,Q6,Q7,Q8,Q9,Q10,Q11,Q12,Q13,Q14,Nat.reduceAdd,Q15,Int.reduceToNat,Q16,Q17,Q18,Q19,Q20,reduceIte,Q21,Q22,zU,rep,zar,zgW,toD,zaz,Q23,Q24,Q25,Q26,Q27,Q28,Nat.reduceLeDiff,Q29,Nat.reduceSub,Q30,Q31,Q32,sc,Q33,Q34,Q35];rfl):P:=e.mpr h
theorem gq4 {A P Q:Prop} (a:A) (h:Q) (e:A->P=Q:=by intro a;simp -dsimp only [↓zhL, ↓zbi, ↓zcI, ↓zhM, ↓zhF, ↓zhD, ↓zhG, ↓zhE, ↓zcN, ↓zcJ, ↓zcO, ↓zcK, ↓zhH, ↓zcH, ↓zcP, ↓zcL, ↓zcQ, ↓zcM, ↓zhC, ↓zhK, ↓zcG, ↓zcR, ↓zhz, ↓zhy, ↓zhB,iN,bT,bF,eN, ↓zdT, ↓unC, ↓zam, ↓zY, ↓zZ, ↓zae, ↓zax, ↓zag, ↓zeQ, ↓zap, ↓zaQ, ↓zW, ↓zg, ↓zh, ↓zcW, ↓zb, ↓zaC, ↓zG, ↓zbv, ↓zbE, ↓zc, ↓zE, ↓zq, ↓zK, ↓zao, ↓zft, ↓zfB, ↓zaL, ↓zaX, ↓zbm, ↓zbC, ↓zcj, ↓zI, ↓zaH, ↓zaa, ↓zM, ↓zaw,zfE,zcw,zcp,unA,zeT,bnd,zgq,zaA,zL,zga,dm,dm1,zw,zad,zgP,zgO,zH,Q0,Q1,Q2,Q3,Q4,Q5,zay,zB,zD,zT,zP,Q6,Q7,Q8,Q9,Q10,Q11,Q12,Q13,Q14,Nat.reduceAdd,Q15,Int.reduceToNat,Q16,Q17,Q18,Q19,Q20,reduceIte,Q21,Q22,zU,rep,zar,zgW,toD,zaz,Q23,Q24,Q25,Q26,Q27,Q28,Nat.reduceLeDiff,Q29,Nat.reduceSub,Q30,Q31,Q32,sc,Q33,Q34,Q35,a];rfl):P:=(e a).mpr h
theorem gq5 {P Q:Prop} (h:Q) (e:P=Q:=by simp -dsimp only [↓zhL, ↓zbi, ↓zcI, ↓zhM, ↓zhF, ↓zhD, ↓zhG, ↓zhE, ↓zcN, ↓zcJ, ↓zcO, ↓zcK, ↓zhH, ↓zcH, ↓zcP, ↓zcL, ↓zcQ, ↓zcM, ↓zhC, ↓zhK, ↓zcG, ↓zcR, ↓zhz, ↓zhy, ↓zhB,iN,bT,bF,eN, ↓zdT, ↓unC, ↓zam, ↓zY, ↓zZ, ↓zae, ↓zax, ↓zag, ↓zeQ, ↓zap, ↓zaQ, ↓zW, ↓zg, ↓zh, ↓zcW, ↓zb, ↓zaC, ↓zG, ↓zbv, ↓zbE, ↓zc, ↓zE, ↓zq, ↓zK, ↓zao, ↓zft, ↓zfB, ↓zaL, ↓zaX, ↓zbm, ↓zbC, ↓zcj, ↓zI, ↓zaH, ↓zaa, ↓zM, ↓zaw,zfE,zcw,zcp,unA,zeT,bnd,zgq,zaA,zL,zga,dm,dm1,zw,zad,zgP,zgO,zH,Q0,Q1,Q2,Q3,Q4,Q5,zay,zB,zD,zT,zP,Q6,Q7,Q8,Q9,Q10,Q11,Q12,Q13,Q14,Nat.reduceAdd,Q15,Int.reduceToNat,Q16,Q17,Q18,Q19,Q20,reduceIte,Q21,Q22,zU,rep,zar,zgW,toD,zaz,Q23,Q24,Q25,Q26,Q27,Q28,Nat.reduceLeDiff,Q29,Nat.reduceSub,Q30,Q31,Q32,sc,Q33,Q34,Q35,Bool.and_false,Bool.and_self,Bool.false_and,Bool.not_false,Bool.not_true,Bool.true_and,Int.toNat_natCast,Int.toNat_zero,List.drop_zero,List.length_map,List.length_nil,List.nil_append,List.take_length,Nat.sub_zero,Nat.zero_add,Option.isSome_none,Option.isSome_some,Option.map_none,Option.map_some,zX,beq_self_eq_true,bne_self_eq_false];rfl):P:=e.mpr h
theorem c_opClone {σ:List zd} {o:TOp} (hr:o.recs.length<=1073741824) (hb:∀ r∈o.recs,r.length<=1073741824) {K:KT} (hK:K (opA o) σ):zj Tryz.prog zts [opA o] σ K:=by
 refine zdZ e_op_Clone fun hl => ?_
 simp only [zzM,iN,bT,bF,eN,zl5,opA]
 (refine gq3 ?_;try with_reducible exact True.intro)
 refine zl o.recs.length (fun j vs q => ∃ l0 T,vs = [if j=0 then .exact [] else .own (σ.length+3) (zeU (o.recs.take j)),.d (.int .i64 j)]/\q = σ++([.box [.d (.int .i64 o.kind),.d (.str o.topic),.d (.str o.group),.d (.int .i64 o.offset),.d (.slice (zeU o.recs))],.box [.d (.int .i64 0),.d (.str []),.d (.str []),.d (.int .i64 0),.exact []]]++(if j=0 then [] else .tok 1 l0::.tok 1 (zeU (o.recs.take j)).length::T))) ⟨0,[],rfl,rfl⟩ ?_
 rintro j vs q hj ⟨l0,T,rfl,rfl⟩
 by_cases hj0:j=0
 ·subst hj0
  simp only [if_true]
  (refine gq3 ?_;try with_reducible exact True.intro)
  refine zV (fun h => ?_) (fun h => ?_)
  ·have hlt:0<o.recs.length:=by simp at h;omega
   have hx:o.recs[0]? = some o.recs[0]:=by simp [hlt]
   have hbx:=hb _ (List.getElem_mem hlt)
   (refine gq4 (zo (show ((0:Nat):Int)=0 from rfl) (zfM hx)) ?_;try with_reducible exact True.intro)
   refine ⟨by omega,zgi zez (by rw [zX];omega) ?_⟩
   (refine gq5 ?_;try with_reducible exact True.intro)
   refine ⟨by simp,by simp,by simp,?_⟩
   refine zan.next hlt ⟨o.recs[0].length,[],?_,?_⟩
   ·rw [if_neg (by omega), ← zos hx];rfl
   ·rw [if_neg (by omega),show (List.take (0+1) o.recs).length=1 by rw [List.length_take];omega]
  ·have hn:o.recs = []:=by simp at h;exact h
   try (refine gq3 ?_;try with_reducible exact True.intro)
   refine zt hl ?_
   rw [opA,hn] at hK
   exact hK
 ·simp only [if_neg hj0]
  have hlj:(o.recs.take j).length=j:=by rw [List.length_take];omega
  (refine gq3 ?_;try with_reducible exact True.intro)
  refine zV (fun h => ?_) (fun h => ?_)
  ·have hlt:j<o.recs.length:=by simp at h;omega
   have hx:o.recs[j]? = some o.recs[j]:=by simp [hlt]
   have hbx:=hb _ (List.getElem_mem hlt)
   (refine gq4 (zfM hx) ?_;try with_reducible exact True.intro)
   refine ⟨by omega,zgi zez (by rw [zX];omega) ?_⟩
   (refine gq5 ?_;try with_reducible exact True.intro)
   refine ⟨by simp,by omega,?_⟩
   refine zan.next hlt ⟨l0,T++[.tok 1 o.recs[j].length],?_,?_⟩
   ·rw [if_neg (by omega), ← zos hx,show (j:Int)+1=((j+1:Nat):Int) by omega,zab (by omega) (by omega)]
   ·rw [if_neg (by omega)]
    simp only [zU,List.length_take,zX,List.cons_append]
    rw [show min j o.recs.length+1=min (j+1) o.recs.length by omega]
  ·have hn:j=o.recs.length:=by simp at h;omega
   subst hn
   (refine gq5 ?_;try with_reducible exact True.intro)
   refine zt hl ?_
   exact hK
theorem gqc2 {A B:Prop} (a:A) (b:B):A/\B:=⟨a,b⟩
theorem gq6 {P Q:Prop} (h:Q) (e:P=Q:=by simp -dsimp only [↓zhL, ↓zbi, ↓zcI, ↓zhM, ↓zhF, ↓zhD, ↓zhG, ↓zhE, ↓zcN, ↓zcJ, ↓zcO, ↓zcK, ↓zhH, ↓zcH, ↓zcP, ↓zcL, ↓zcQ, ↓zcM, ↓zhC, ↓zhK, ↓zcG, ↓zcR, ↓zhz, ↓zhy, ↓zhB,iN,bT,bF,eN, ↓zdT, ↓unC, ↓zam, ↓zY, ↓zZ, ↓zae, ↓zax, ↓zag, ↓zeQ, ↓zap, ↓zaQ, ↓zW, ↓zg, ↓zh, ↓zcW, ↓zb, ↓zaC, ↓zG, ↓zbv, ↓zbE, ↓zc, ↓zE, ↓zq, ↓zK, ↓zao, ↓zft, ↓zfB, ↓zaL, ↓zaX, ↓zbm, ↓zbC, ↓zcj, ↓zI, ↓zaH, ↓zaa, ↓zM, ↓zaw,zfE,zcw,zcp,unA,zeT,bnd,zgq,zaA,zL,zga,dm,dm1,zw,zad,zgP,zgO,zH,Q0,Q1,Q2,Q3,Q4,Q5,zay,zB,zD,zT,zP,Q6,Q7,Q8,Q9,Q10,Q11,Q12,Q13,Q14,Nat.reduceAdd,Q15,Int.reduceToNat,Q16,Q17,Q18,Q19,Q20,reduceIte,Q21,Q22,zU,rep,zar,zgW,toD,zaz,Q23,Q24,Q25,Q26,Q27,Q28,Nat.reduceLeDiff,Q29,Nat.reduceSub,Q30,Q31,Q32,sc,Q33,Q34,Q35];rfl):P:=e.mpr h
theorem gq7 {A P Q:Prop} (a:A) (h:Q) (e:A->P=Q:=by intro a;simp -dsimp only [↓zhL, ↓zbi, ↓zcI, ↓zhM, ↓zhF, ↓zhD, ↓zhG, ↓zhE, ↓zcN, ↓zcJ, ↓zcO, ↓zcK, ↓zhH, ↓zcH, ↓zcP, ↓zcL, ↓zcQ, ↓zcM, ↓zhC, ↓zhK, ↓zcG, ↓zcR, ↓zhz, ↓zhy, ↓zhB,iN,bT,bF,eN, ↓zdT, ↓unC, ↓zam, ↓zY, ↓zZ, ↓zae, ↓zax, ↓zag, ↓zeQ, ↓zap, ↓zaQ, ↓zW, ↓zg, ↓zh, ↓zcW, ↓zb, ↓zaC, ↓zG, ↓zbv, ↓zbE, ↓zc, ↓zE, ↓zq, ↓zK, ↓zao, ↓zft, ↓zfB, ↓zaL, ↓zaX, ↓zbm, ↓zbC, ↓zcj, ↓zI, ↓zaH, ↓zaa, ↓zM, ↓zaw,zfE,zcw,zcp,unA,zeT,bnd,zgq,zaA,zL,zga,dm,dm1,zw,zad,zgP,zgO,zH,Q0,Q1,Q2,Q3,Q4,Q5,zay,zB,zD,zT,zP,Q6,Q7,Q8,Q9,Q10,Q11,Q12,Q13,Q14,Nat.reduceAdd,Q15,Int.reduceToNat,Q16,Q17,Q18,Q19,Q20,reduceIte,Q21,Q22,zU,rep,zar,zgW,toD,zaz,Q23,Q24,Q25,Q26,Q27,Q28,Nat.reduceLeDiff,Q29,Nat.reduceSub,Q30,Q31,Q32,sc,Q33,Q34,Q35,Bool.and_false,Bool.and_self,Bool.false_and,Bool.not_false,Bool.not_true,Bool.true_and,Int.toNat_natCast,Int.toNat_zero,List.drop_zero,List.length_map,List.length_nil,List.nil_append,List.take_length,Nat.sub_zero,Nat.zero_add,Option.isSome_none,Option.isSome_some,Option.map_none,Option.map_some,zX,beq_self_eq_true,bne_self_eq_false,zex,zdx,zfn,zbm,zuT,zbC,a];rfl):P:=(e a).mpr h
theorem c_rSame {σ:List zd} {a b:TOp} (ha:a.recs.length<=1073741824) (hb:b.recs.length<=1073741824) {K:KT} (hK:K (.d (.bool (decide (a=b)))) σ):zj Tryz.prog ztp [opA a,opA b] σ K:=by
 refine zeE e_r06_Same fun hl => ?_
 have fin:∀ z:Bool,decide (a=b)=z->K (.d (.bool z)) σ:=fun z hz=>by rw [← hz];exact hK
 have hab:a=b↔a.kind=b.kind/\a.topic=b.topic/\a.group=b.group/\a.offset=b.offset/\a.recs=b.recs:=by cases a;cases b;simp
 clear hK
 simp only [zzH,iN,bT,bF,eN,opA]
 (repeat' (first|(refine gq6 ?_;try with_reducible exact True.intro)|(refine zV (fun h => ?_) (fun h => ?_)<;>(try rw [h]))|((with_reducible refine And.intro ?_ ?_);focus (first|omega|rfl|decide))))
 all_goals first
  | (
   refine zt hl ?_
   (try simp only [decide_eq_true_eq,decide_eq_false_iff_not,beq_iff_eq,beq_eq_false_iff_ne,bne_iff_ne,ne_eq,Bool.not_eq_true',Bool.not_eq_false',bne_eq_false_iff_eq] at *)
   simp only [zcq,dmT,dm,dm1]
   apply fin
   grind)
  | skip
 -- the records
 have hl2:a.recs.length=b.recs.length:=by (try simp only [decide_eq_true_eq,decide_eq_false_iff_not,beq_iff_eq,beq_eq_false_iff_ne,bne_iff_ne,ne_eq,Bool.not_eq_true',Bool.not_eq_false',bne_eq_false_iff_eq] at *);omega
 refine zl a.recs.length (fun k vs s=>vs = [.d (.int .i64 k)]/\s = σ++[.box [.d (.int .i64 a.kind),.d (.str a.topic),.d (.str a.group),.d (.int .i64 a.offset),.d (.slice (zeU a.recs))],.box [.d (.int .i64 b.kind),.d (.str b.topic),.d (.str b.group),.d (.int .i64 b.offset),.d (.slice (zeU b.recs))]]/\a.recs.take k=b.recs.take k) ⟨rfl,rfl,by simp⟩ ?_
 rintro k vs s hk ⟨rfl,rfl,htk⟩
 (refine gq6 ?_;try with_reducible exact True.intro)
 refine zV (fun h => ?_) (fun h => ?_)
 ·have hka:k<a.recs.length:=by (try simp only [decide_eq_true_eq,decide_eq_false_iff_not,beq_iff_eq,beq_eq_false_iff_ne,bne_iff_ne,ne_eq,Bool.not_eq_true',Bool.not_eq_false',bne_eq_false_iff_eq] at *);omega
  have hx:a.recs[k]? = some a.recs[k]:=by simp [hka]
  have hy:b.recs[k]? = some (b.recs[k]'(by omega)):=List.getElem?_eq_getElem _
  (refine gq7 (gqc2 (zfM hx) (zfM hy)) ?_;try with_reducible exact True.intro)
  refine And.intro (by omega) (And.intro (by omega) ?_)
  refine zV (fun h => ?_) (fun h => ?_)
  ·(refine gq6 ?_;try with_reducible exact True.intro)
   refine zan.next hka ⟨?_,rfl,zby hx hy htk (by simpa using h)⟩
   rw [zab (by omega) (by omega)];rfl
  ·refine zt hl ?_
   simp only [zcq,dmT,dm,dm1]
   apply fin
   rw [decide_eq_false_iff_not]
   rintro rfl
   simp at h
 ·refine zt hl ?_
  simp only [zcq,dmT,dm,dm1]
  have:a.recs=b.recs:=zcz hl2 (k:=k) (by (try simp only [decide_eq_true_eq,decide_eq_false_iff_not,beq_iff_eq,beq_eq_false_iff_ne,bne_iff_ne,ne_eq,Bool.not_eq_true',Bool.not_eq_false',bne_eq_false_iff_eq] at *);omega) htk
  apply fin
  (try simp only [decide_eq_true_eq,decide_eq_false_iff_not,beq_iff_eq,beq_eq_false_iff_ne,bne_iff_ne,ne_eq,Bool.not_eq_true',Bool.not_eq_false',bne_eq_false_iff_eq] at *)
  grind
end Go.Proofs.YtpgahkdjkanblaaGreat

/- Contracts: how many brokers there are, and a quorum has. -/
import Derived.Test.YtpgahkdjkanblaaGreatSh
import Derived.Test.YtpgahkdjkanblaaGreatSpOp
import Derived.Test.YtpgahkdjkanblaaGreatAwEnd
set_option linter.all false
set_option maxRecDepth 100000
namespace Go.Proofs.YtpgahkdjkanblaaGreat
open Go.AW
theorem zn {A B:Prop} (a:A) (b:B):A/\B:=⟨a,b⟩
theorem gq1 {A P Q:Prop} (a:A) (h:Q) (e:A->P=Q:=by intro a;simp -dsimp only [↓zeN, ↓zav, ↓zbq, ↓zeO, ↓zeH, ↓zeF, ↓zeI, ↓zeG, ↓zbv, ↓zbr, ↓zbw, ↓zbs, ↓zeJ, ↓zbp, ↓zbx, ↓zbt, ↓zby, ↓zbu, ↓zeE, ↓zeM, ↓zbo, ↓zbz, ↓zeC, ↓zeB, ↓zeD,iN,bT,bF,eN, ↓zcB, ↓unC, ↓zV, ↓zM, ↓zN, ↓zQ, ↓zY, ↓zal, ↓zdb, ↓zak, ↓zaH, ↓zT, ↓zf, ↓zj, ↓zbZ, ↓zb, ↓zag, ↓zE, ↓zaI, ↓zaO, ↓zc, ↓zy, ↓zl, ↓zG, ↓zaa, ↓zdm, ↓zdw, ↓zaj, ↓zar, ↓zaK, ↓zaS, ↓zaY, ↓zq, ↓zai, ↓zO, ↓zu, ↓zX,zdx,zbg,zbb,unA,zdd,bnd,zdY,zaf,zP,zdR,dm,dm1,zA,zae,zeh,zeg,zI,Q0,Q1,Q2,Q3,Q4,Q5,zZ,zC,zt,zL,zF,Q6,Q7,Q8,Q9,Q10,Q11,Q12,Q13,Q14,Nat.reduceAdd,Q15,Int.reduceToNat,Q16,Q17,Q18,Q19,Q20,reduceIte,Q21,Q22,zH,rep,zac,zel,toD,zah,Q23,Q24,Q25,Q26,Q27,Q28,Nat.reduceLeDiff,Q29,Nat.reduceSub,Q30,Q31,Q32,sc,Q33,Q34,Q35,a];rfl):P:=(e a).mpr h
theorem zmA {σ:List zh} {f:Int} {K:KT} (hK:K (.d (.int .i64 (zbN f))) σ):zo Tryz.prog zdF [.d (.int .i64 f)] σ K:=by
 refine zd zqN.is rfl fun hl _=>zqN.goes ?_
 simp only [zra,iN,bT,bF,eN]
 cases h1:decide (f<1) <;> cases h2:decide (f > 4)
 all_goals
  (refine gq1 (zn h1 h2) ?_;try with_reducible exact True.intro)
  refine zw hl ?_
  simp only [decide_eq_true_eq,decide_eq_false_iff_not] at h1 h2
 ·rw [zbN,if_neg (by omega)] at hK;exact hK
 all_goals (rw [zbN,if_pos (by omega)] at hK;exact hK)
theorem zkK {σ:List zh} {f:Int} {K:KT} (hK:K (.d (.int .i64 (zbN f))) σ):zo Tryz.prog zfi [.d (.int .i64 f)] σ K:=by
 refine zd zwg.is rfl fun hl _=>zwg.goes ?_
 simp only [zwY,iN,bT,bF,eN]
 cases h1:decide (f<1) <;> cases h2:decide (f > 4)
 all_goals
  (refine gq1 (zn h1 h2) ?_;try with_reducible exact True.intro)
  refine zw hl ?_
  simp only [decide_eq_true_eq,decide_eq_false_iff_not] at h1 h2
 ·rw [zbN,if_neg (by omega)] at hK;exact hK
 all_goals (rw [zbN,if_pos (by omega)] at hK;exact hK)
theorem gq2 {P Q:Prop} (h:Q) (e:P=Q:=by simp -dsimp only [↓zeN, ↓zav, ↓zbq, ↓zeO, ↓zeH, ↓zeF, ↓zeI, ↓zeG, ↓zbv, ↓zbr, ↓zbw, ↓zbs, ↓zeJ, ↓zbp, ↓zbx, ↓zbt, ↓zby, ↓zbu, ↓zeE, ↓zeM, ↓zbo, ↓zbz, ↓zeC, ↓zeB, ↓zeD,iN,bT,bF,eN, ↓zcB, ↓unC, ↓zV, ↓zM, ↓zN, ↓zQ, ↓zY, ↓zal, ↓zdb, ↓zak, ↓zaH, ↓zT, ↓zf, ↓zj, ↓zbZ, ↓zb, ↓zag, ↓zE, ↓zaI, ↓zaO, ↓zc, ↓zy, ↓zl, ↓zG, ↓zaa, ↓zdm, ↓zdw, ↓zaj, ↓zar, ↓zaK, ↓zaS, ↓zaY, ↓zq, ↓zai, ↓zO, ↓zu, ↓zX,zdx,zbg,zbb,unA,zdd,bnd,zdY,zaf,zP,zdR,dm,dm1,zA,zae,zeh,zeg,zI,Q0,Q1,Q2,Q3,Q4,Q5,zZ,zC,zt,zL,zF,Q6,Q7,Q8,Q9,Q10,Q11,Q12,Q13,Q14,Nat.reduceAdd,Q15,Int.reduceToNat,Q16,Q17,Q18,Q19,Q20,reduceIte,Q21,Q22,zH,rep,zac,zel,toD,zah,Q23,Q24,Q25,Q26,Q27,Q28,Nat.reduceLeDiff,Q29,Nat.reduceSub,Q30,Q31,Q32,sc,Q33,Q34,Q35];rfl):P:=e.mpr h
theorem c_times {σ:List zh} {n f:Int} (hn:0<=n/\n<=3) {K:KT} (hK:K (.d (.int .i64 (zaW n f))) σ):zo Tryz.prog ziB [.d (.int .i64 n),.d (.int .i64 f)] σ K:=by
 refine zd zqM.is rfl fun hl _=>zqM.goes ?_
 simp only [zqZ,iN,bT,bF,eN]
 (refine gq2 ?_;try with_reducible exact True.intro)
 refine zmA ?_
 by_cases h:f<1 ∨ f > 4
 ·rw [zaW,if_pos h] at hK
  rw [zbN,if_pos h]
  (refine gq1 (show ((120:Int) != 0)=true from rfl) ?_;try with_reducible exact True.intro)
  refine zw hl ?_
  exact hK
 ·rw [zaW,if_neg h] at hK
  rw [zbN,if_neg h]
  have h1:0<=n * f:=Int.mul_nonneg hn.1 (by omega)
  have h2:n * f<=3 * 4:=Int.mul_le_mul hn.2 (by omega) (by omega) (by omega)
  have w1:IntKind.i64.wrap (n * f)=n * f:=zas (by omega) (by omega)
  have w2:IntKind.i64.wrap (n * f+1)=n * f+1:=zas (by omega) (by omega)
  (refine gq1 (zn (show ((0:Int) != 0)=false from rfl) (zn w1 w2)) ?_;try with_reducible exact True.intro)
  refine zw hl ?_
  exact hK
theorem c_quBig {σ:List zh} {f:Int} {K:KT} (hK:K (.d (.int .i64 (zaW 2 f))) σ):zo Tryz.prog ziO [.d (.int .i64 f)] σ K:=by
 refine zd zuA.is rfl fun hl _=>zuA.goes ?_
 simp only [zuQ,iN,bT,bF,eN]
 (refine gq2 ?_;try with_reducible exact True.intro)
 refine c_times (by omega) ?_
 (refine gq2 ?_;try with_reducible exact True.intro)
 refine zw hl ?_
 exact hK
theorem zkL {σ:List zh} {f:Int} {K:KT} (hK:K (.d (.int .i64 (zaW 3 f))) σ):zo Tryz.prog zds [.d (.int .i64 f)] σ K:=by
 refine zd znI.is rfl fun hl _=>znI.goes ?_
 simp only [zoe,iN,bT,bF,eN]
 (refine gq2 ?_;try with_reducible exact True.intro)
 refine c_times (by omega) ?_
 (refine gq2 ?_;try with_reducible exact True.intro)
 refine zw hl ?_
 exact hK
theorem zmz {σ:List zh} {f:Int} {K:KT} (hK:K (.d (.int .i64 (zaW 3 f))) σ):zo Tryz.prog zfj [.d (.int .i64 f)] σ K:=by
 refine zd zsu.is rfl fun hl _=>zsu.goes ?_
 simp only [zsS,iN,bT,bF,eN]
 (refine gq2 ?_;try with_reducible exact True.intro)
 refine zkK ?_
 by_cases h:f<1 ∨ f > 4
 ·rw [zaW,if_pos h] at hK
  rw [zbN,if_pos h]
  (refine gq1 (show ((120:Int) != 0)=true from rfl) ?_;try with_reducible exact True.intro)
  refine zw hl ?_
  exact hK
 ·rw [zaW,if_neg h] at hK
  rw [zbN,if_neg h]
  have w1:IntKind.i64.wrap (3 * f)=3 * f:=zas (by omega) (by omega)
  have w2:IntKind.i64.wrap (3 * f+1)=3 * f+1:=zas (by omega) (by omega)
  (refine gq1 (zn (show ((0:Int) != 0)=false from rfl) (zn w1 w2)) ?_;try with_reducible exact True.intro)
  refine zw hl ?_
  exact hK
theorem c_rBig {σ:List zh} {f:Int} {K:KT} (hK:K (.d (.int .i64 (zaW 2 f))) σ):zo Tryz.prog zoS [.d (.int .i64 f)] σ K:=by
 refine zd e_r12_Big.is rfl fun hl _=>e_r12_Big.goes ?_
 simp only [S_r12_Big,iN,bT,bF,eN]
 (refine gq2 ?_;try with_reducible exact True.intro)
 refine zkK ?_
 by_cases h:f<1 ∨ f > 4
 ·rw [zaW,if_pos h] at hK
  rw [zbN,if_pos h]
  (refine gq1 (show ((120:Int) != 0)=true from rfl) ?_;try with_reducible exact True.intro)
  refine zw hl ?_
  exact hK
 ·rw [zaW,if_neg h] at hK
  rw [zbN,if_neg h]
  have w1:IntKind.i64.wrap (2 * f)=2 * f:=zas (by omega) (by omega)
  have w2:IntKind.i64.wrap (2 * f+1)=2 * f+1:=zas (by omega) (by omega)
  (refine gq1 (zn (show ((0:Int) != 0)=false from rfl) (zn w1 w2)) ?_;try with_reducible exact True.intro)
  refine zw hl ?_
  exact hK
end Go.Proofs.YtpgahkdjkanblaaGreat

/- Contracts: bytes.Clone. -/
set_option maxRecDepth 100000
namespace Go.Proofs.YtpgahkdjkanblaaGreat
open Go.AW
theorem zgm {σ:List zh} {es:List (List D)} {K:KT} (he:∀ e ∈ es,e.length=1) (hn:es.length<=1073741824) (hK:K (.own σ.length es) (σ++[.tok 1 es.length])):zo Tryz.prog zdc [.d (.slice es)] σ K:=by
 refine zo.tok he ?_ hK
 refine zce zjV.is rfl (fun s=>if s.length = σ.length then [] else [σ.length]) fun hl _=>zjV.goes ?_
 simp only [znx,iN,bT,bF,eN,zaa,zdd]
 cases es with
 | nil =>
  refine ⟨?_,?_⟩
  ·simp only [zV,zO,zA]
   exact zkv (by simp) hl rfl (by simp)
  ·simp only [zV,zu,zA,zP,rep,zl,zel,zah,zG,zdR]
   refine ⟨by simp,by simp,by simp,?_⟩
   exact zmp hl (by simp) (by simp)
 | cons e es =>
  simp only [zV,zu,zA,zP,rep,zl,zel,zah,zG,zdR]
  refine ⟨he,by simp,by simp at hn ⊢;omega,?_⟩
  exact zmp hl (by simp) (by simp)
end Go.Proofs.YtpgahkdjkanblaaGreat

/- Contracts: an operation in memory of its own. -/
set_option maxRecDepth 100000
namespace Go.Proofs.YtpgahkdjkanblaaGreat
open Go.AW
theorem zoN {rs:List (List UInt8)} {k:Nat} {x:List UInt8} (h:rs[k]? = some x):zgp (rs.take k)++[[D.slice (bcs x)]]=zgp (rs.take (k+1)):=by
 rw [List.take_add_one,h];simp [zgp]
theorem ze {A B:Prop} (a:A) (b:B):A/\B:=⟨a,b⟩
theorem gq3 {P Q:Prop} (h:Q) (e:P=Q:=by simp -dsimp only [↓zeN, ↓zav, ↓zbq, ↓zeO, ↓zeH, ↓zeF, ↓zeI, ↓zeG, ↓zbv, ↓zbr, ↓zbw, ↓zbs, ↓zeJ, ↓zbp, ↓zbx, ↓zbt, ↓zby, ↓zbu, ↓zeE, ↓zeM, ↓zbo, ↓zbz, ↓zeC, ↓zeB, ↓zeD,iN,bT,bF,eN, ↓zcB, ↓unC, ↓zV, ↓zM, ↓zN, ↓zQ, ↓zY, ↓zal, ↓zdb, ↓zak, ↓zaH, ↓zT, ↓zf, ↓zj, ↓zbZ, ↓zb, ↓zag, ↓zE, ↓zaI, ↓zaO, ↓zc, ↓zy, ↓zl, ↓zG, ↓zaa, ↓zdm, ↓zdw, ↓zaj, ↓zar, ↓zaK, ↓zaS, ↓zaY, ↓zq, ↓zai, ↓zO, ↓zu, ↓zX,zdx,zbg,zbb,unA,zdd,bnd,zdY,zaf,zP,zdR,dm,dm1,zA,zae,zeh,zeg,zI,Q0,Q1,Q2,Q3,Q4,Q5,zZ,zC,zt,zL,zF,Q6,Q7,Q8,Q9,Q10,Q11,Q12,Q13,Q14,Nat.reduceAdd,Q15,Int.reduceToNat,Q16,Q17,Q18,Q19,Q20,reduceIte,Q21,Q22,zH,rep,zac,zel,toD,zah,Q23,Q24,Q25,Q26,Q27,Q28,Nat.reduceLeDiff,Q29,Nat.reduceSub,Q30,Q31,Q32,sc,Q33,Q34,Q35];rfl):P:=e.mpr h
theorem gq4 {A P Q:Prop} (a:A) (h:Q) (e:A->P=Q:=by intro a;simp -dsimp only [↓zeN, ↓zav, ↓zbq, ↓zeO, ↓zeH, ↓zeF, ↓zeI, ↓zeG, ↓zbv, ↓zbr, ↓zbw, ↓zbs, ↓zeJ, ↓zbp, ↓zbx, ↓zbt, ↓zby, ↓zbu, ↓zeE, ↓zeM, ↓zbo, ↓zbz, ↓zeC, ↓zeB, ↓zeD,iN,bT,bF,eN, ↓zcB, ↓unC, ↓zV, ↓zM, ↓zN, ↓zQ, ↓zY, ↓zal, ↓zdb, ↓zak, ↓zaH, ↓zT, ↓zf, ↓zj, ↓zbZ, ↓zb, ↓zag, ↓zE, ↓zaI, ↓zaO, ↓zc, ↓zy, ↓zl, ↓zG, ↓zaa, ↓zdm, ↓zdw, ↓zaj, ↓zar, ↓zaK, ↓zaS, ↓zaY, ↓zq, ↓zai, ↓zO, ↓zu, ↓zX,zdx,zbg,zbb,unA,zdd,bnd,zdY,zaf,zP,zdR,dm,dm1,zA,zae,zeh,zeg,zI,Q0,Q1,Q2,Q3,Q4,Q5,zZ,zC,zt,zL,zF,Q6,Q7,Q8,Q9,Q10,Q11,Q12,Q13,Q14,Nat.reduceAdd,Q15,Int.reduceToNat,Q16,Q17,Q18,Q19,Q20,reduceIte,Q21,Q22,zH,rep,zac,zel,toD,zah,Q23,Q24,Q25,Q26,Q27,Q28,Nat.reduceLeDiff,Q29,Nat.reduceSub,Q30,Q31,Q32,sc,Q33,Q34,Q35,a];rfl):P:=(e a).mpr h
theorem gq5 {P Q:Prop} (h:Q) (e:P=Q:=by simp -dsimp only [↓zeN, ↓zav, ↓zbq, ↓zeO, ↓zeH, ↓zeF, ↓zeI, ↓zeG, ↓zbv, ↓zbr, ↓zbw, ↓zbs, ↓zeJ, ↓zbp, ↓zbx, ↓zbt, ↓zby, ↓zbu, ↓zeE, ↓zeM, ↓zbo, ↓zbz, ↓zeC, ↓zeB, ↓zeD,iN,bT,bF,eN, ↓zcB, ↓unC, ↓zV, ↓zM, ↓zN, ↓zQ, ↓zY, ↓zal, ↓zdb, ↓zak, ↓zaH, ↓zT, ↓zf, ↓zj, ↓zbZ, ↓zb, ↓zag, ↓zE, ↓zaI, ↓zaO, ↓zc, ↓zy, ↓zl, ↓zG, ↓zaa, ↓zdm, ↓zdw, ↓zaj, ↓zar, ↓zaK, ↓zaS, ↓zaY, ↓zq, ↓zai, ↓zO, ↓zu, ↓zX,zdx,zbg,zbb,unA,zdd,bnd,zdY,zaf,zP,zdR,dm,dm1,zA,zae,zeh,zeg,zI,Q0,Q1,Q2,Q3,Q4,Q5,zZ,zC,zt,zL,zF,Q6,Q7,Q8,Q9,Q10,Q11,Q12,Q13,Q14,Nat.reduceAdd,Q15,Int.reduceToNat,Q16,Q17,Q18,Q19,Q20,reduceIte,Q21,Q22,zH,rep,zac,zel,toD,zah,Q23,Q24,Q25,Q26,Q27,Q28,Nat.reduceLeDiff,Q29,Nat.reduceSub,Q30,Q31,Q32,sc,Q33,Q34,Q35,zek];rfl):P:=e.mpr h
theorem gq6 {P Q:Prop} (h:Q) (e:P=Q:=by simp -dsimp only [↓zeN, ↓zav, ↓zbq, ↓zeO, ↓zeH, ↓zeF, ↓zeI, ↓zeG, ↓zbv, ↓zbr, ↓zbw, ↓zbs, ↓zeJ, ↓zbp, ↓zbx, ↓zbt, ↓zby, ↓zbu, ↓zeE, ↓zeM, ↓zbo, ↓zbz, ↓zeC, ↓zeB, ↓zeD,iN,bT,bF,eN, ↓zcB, ↓unC, ↓zV, ↓zM, ↓zN, ↓zQ, ↓zY, ↓zal, ↓zdb, ↓zak, ↓zaH, ↓zT, ↓zf, ↓zj, ↓zbZ, ↓zb, ↓zag, ↓zE, ↓zaI, ↓zaO, ↓zc, ↓zy, ↓zl, ↓zG, ↓zaa, ↓zdm, ↓zdw, ↓zaj, ↓zar, ↓zaK, ↓zaS, ↓zaY, ↓zq, ↓zai, ↓zO, ↓zu, ↓zX,zdx,zbg,zbb,unA,zdd,bnd,zdY,zaf,zP,zdR,dm,dm1,zA,zae,zeh,zeg,zI,Q0,Q1,Q2,Q3,Q4,Q5,zZ,zC,zt,zL,zF,Q6,Q7,Q8,Q9,Q10,Q11,Q12,Q13,Q14,Nat.reduceAdd,Q15,Int.reduceToNat,Q16,Q17,Q18,Q19,Q20,reduceIte,Q21,Q22,zH,rep,zac,zel,toD,zah,Q23,Q24,Q25,Q26,Q27,Q28,Nat.reduceLeDiff,Q29,Nat.reduceSub,Q30,Q31,Q32,sc,Q33,Q34,Q35,List.take_length];rfl):P:=e.mpr h
theorem c_opClone {σ:List zh} {o:TOp} (hr:o.recs.length<=1073741824) (hb:∀ r ∈ o.recs,r.length<=1073741824) {K:KT} (hK:K (opA o) σ):zo Tryz.prog ztA [opA o] σ K:=by
 refine zd zyH.is rfl fun hl _=>zyH.goes ?_
 simp only [zzt,iN,bT,bF,eN,opA]
 (refine gq3 ?_;try with_reducible exact True.intro)
 refine zm o.recs.length (fun j vs q => ∃ l0 T,vs = [if j=0 then .exact [] else .own (σ.length+3) (zgp (o.recs.take j)),.d (.int .i64 j)]/\q = σ++([.box [.d (.int .i64 o.kind),.d (.str o.topic),.d (.str o.group),.d (.int .i64 o.offset),.d (.slice (zgp o.recs))],.box [.d (.int .i64 0),.d (.str []),.d (.str []),.d (.int .i64 0),.exact []]]++(if j=0 then [] else .tok 1 l0 :: .tok 1 (zgp (o.recs.take j)).length :: T))) ⟨0,[],rfl,rfl⟩ ?_
 rintro j vs q hj ⟨l0,T,rfl,rfl⟩
 by_cases hj0:j=0
 ·subst hj0
  simp only [if_true]
  (refine gq3 ?_;try with_reducible exact True.intro)
  refine zad (fun h => ?_) (fun h => ?_)
  ·have hlt:0<o.recs.length:=by simp at h;omega
   have hx:o.recs[0]? = some o.recs[0]:=by simp [hlt]
   have hbx:=hb _ (List.getElem_mem hlt)
   (refine gq4 (ze (show ((0:Nat):Int)=0 from rfl) (zgt hx)) ?_;try with_reducible exact True.intro)
   refine ⟨by omega,zgm zgs (by rw [zek];omega) ?_⟩
   (refine gq5 ?_;try with_reducible exact True.intro)
   refine ⟨by simp,by simp,by simp,?_⟩
   refine zaz.next hlt ⟨o.recs[0].length,[],?_,?_⟩
   ·rw [if_neg (by omega), ← zoN hx];rfl
   ·rw [if_neg (by omega),show (List.take (0+1) o.recs).length=1 by rw [List.length_take];omega]
  ·have hn:o.recs = []:=by simp at h;exact h
   try (refine gq3 ?_;try with_reducible exact True.intro)
   refine zw hl ?_
   rw [opA,hn] at hK
   exact hK
 ·simp only [if_neg hj0]
  have hlj:(o.recs.take j).length=j:=by rw [List.length_take];omega
  (refine gq3 ?_;try with_reducible exact True.intro)
  refine zad (fun h => ?_) (fun h => ?_)
  ·have hlt:j<o.recs.length:=by simp at h;omega
   have hx:o.recs[j]? = some o.recs[j]:=by simp [hlt]
   have hbx:=hb _ (List.getElem_mem hlt)
   (refine gq4 (zgt hx) ?_;try with_reducible exact True.intro)
   refine ⟨by omega,zgm zgs (by rw [zek];omega) ?_⟩
   (refine gq5 ?_;try with_reducible exact True.intro)
   refine ⟨by simp,by omega,?_⟩
   refine zaz.next hlt ⟨l0,T++[.tok 1 o.recs[j].length],?_,?_⟩
   ·rw [if_neg (by omega), ← zoN hx,show (j:Int)+1=((j+1:Nat):Int) by omega,zas (by omega) (by omega)]
   ·rw [if_neg (by omega)]
    simp only [zH,List.length_take,zek,List.cons_append]
    rw [show min j o.recs.length+1=min (j+1) o.recs.length by omega]
  ·have hn:j=o.recs.length:=by simp at h;omega
   subst hn
   (refine gq6 ?_;try with_reducible exact True.intro)
   refine zw hl ?_
   exact hK
end Go.Proofs.YtpgahkdjkanblaaGreat

/- Contracts: which operations are the same, by the reference. -/
set_option maxRecDepth 100000
namespace Go.Proofs.YtpgahkdjkanblaaGreat
open Go.AW
theorem gqc2 {A B:Prop} (a:A) (b:B):A/\B:=⟨a,b⟩
theorem gq7 {P Q:Prop} (h:Q) (e:P=Q:=by simp -dsimp only [↓zeN, ↓zav, ↓zbq, ↓zeO, ↓zeH, ↓zeF, ↓zeI, ↓zeG, ↓zbv, ↓zbr, ↓zbw, ↓zbs, ↓zeJ, ↓zbp, ↓zbx, ↓zbt, ↓zby, ↓zbu, ↓zeE, ↓zeM, ↓zbo, ↓zbz, ↓zeC, ↓zeB, ↓zeD,iN,bT,bF,eN, ↓zcB, ↓unC, ↓zV, ↓zM, ↓zN, ↓zQ, ↓zY, ↓zal, ↓zdb, ↓zak, ↓zaH, ↓zT, ↓zf, ↓zj, ↓zbZ, ↓zb, ↓zag, ↓zE, ↓zaI, ↓zaO, ↓zc, ↓zy, ↓zl, ↓zG, ↓zaa, ↓zdm, ↓zdw, ↓zaj, ↓zar, ↓zaK, ↓zaS, ↓zaY, ↓zq, ↓zai, ↓zO, ↓zu, ↓zX,zdx,zbg,zbb,unA,zdd,bnd,zdY,zaf,zP,zdR,dm,dm1,zA,zae,zeh,zeg,zI,Q0,Q1,Q2,Q3,Q4,Q5,zZ,zC,zt,zL,zF,Q6,Q7,Q8,Q9,Q10,Q11,Q12,Q13,Q14,Nat.reduceAdd,Q15,Int.reduceToNat,Q16,Q17,Q18,Q19,Q20,reduceIte,Q21,Q22,zH,rep,zac,zel,toD,zah,Q23,Q24,Q25,Q26,Q27,Q28,Nat.reduceLeDiff,Q29,Nat.reduceSub,Q30,Q31,Q32,sc,Q33,Q34,Q35];rfl):P:=e.mpr h
theorem gq8 {A P Q:Prop} (a:A) (h:Q) (e:A->P=Q:=by intro a;simp -dsimp only [↓zeN, ↓zav, ↓zbq, ↓zeO, ↓zeH, ↓zeF, ↓zeI, ↓zeG, ↓zbv, ↓zbr, ↓zbw, ↓zbs, ↓zeJ, ↓zbp, ↓zbx, ↓zbt, ↓zby, ↓zbu, ↓zeE, ↓zeM, ↓zbo, ↓zbz, ↓zeC, ↓zeB, ↓zeD,iN,bT,bF,eN, ↓zcB, ↓unC, ↓zV, ↓zM, ↓zN, ↓zQ, ↓zY, ↓zal, ↓zdb, ↓zak, ↓zaH, ↓zT, ↓zf, ↓zj, ↓zbZ, ↓zb, ↓zag, ↓zE, ↓zaI, ↓zaO, ↓zc, ↓zy, ↓zl, ↓zG, ↓zaa, ↓zdm, ↓zdw, ↓zaj, ↓zar, ↓zaK, ↓zaS, ↓zaY, ↓zq, ↓zai, ↓zO, ↓zu, ↓zX,zdx,zbg,zbb,unA,zdd,bnd,zdY,zaf,zP,zdR,dm,dm1,zA,zae,zeh,zeg,zI,Q0,Q1,Q2,Q3,Q4,Q5,zZ,zC,zt,zL,zF,Q6,Q7,Q8,Q9,Q10,Q11,Q12,Q13,Q14,Nat.reduceAdd,Q15,Int.reduceToNat,Q16,Q17,Q18,Q19,Q20,reduceIte,Q21,Q22,zH,rep,zac,zel,toD,zah,Q23,Q24,Q25,Q26,Q27,Q28,Nat.reduceLeDiff,Q29,Nat.reduceSub,Q30,Q31,Q32,sc,Q33,Q34,Q35,zgM,a];rfl):P:=(e a).mpr h
theorem c_rSame {σ:List zh} {a b:TOp} (ha:a.recs.length<=1073741824) (hb:b.recs.length<=1073741824) {K:KT} (hK:K (.d (.bool (decide (a=b)))) σ):zo Tryz.prog ztx [opA a,opA b] σ K:=by
 refine zd zyC.is rfl fun hl _=>zyC.goes ?_
 have fin:∀ z:Bool,decide (a=b)=z->K (.d (.bool z)) σ:=fun z hz=>by rw [← hz];exact hK
 have hab:a=b ↔ a.kind=b.kind/\a.topic=b.topic/\a.group=b.group/\a.offset=b.offset/\a.recs=b.recs:=by cases a;cases b;simp
 clear hK
 simp only [zzo,iN,bT,bF,eN,opA]
 (repeat' (first | (refine gq7 ?_;try with_reducible exact True.intro) | (refine zad (fun h => ?_) (fun h => ?_) <;> (try rw [h])) | ((with_reducible refine And.intro ?_ ?_);focus (first | omega | rfl | decide))))
 all_goals first
  | (
   refine zw hl ?_
   (try simp only [decide_eq_true_eq,decide_eq_false_iff_not,beq_iff_eq,beq_eq_false_iff_ne,bne_iff_ne,ne_eq,Bool.not_eq_true',Bool.not_eq_false',bne_eq_false_iff_eq] at *)
   simp only [zcO,dmT,dm,dm1]
   apply fin
   grind)
  | skip
 -- the records
 have hl2:a.recs.length=b.recs.length:=by (try simp only [decide_eq_true_eq,decide_eq_false_iff_not,beq_iff_eq,beq_eq_false_iff_ne,bne_iff_ne,ne_eq,Bool.not_eq_true',Bool.not_eq_false',bne_eq_false_iff_eq] at *);omega
 refine zm a.recs.length (fun k vs s=>vs = [.d (.int .i64 k)]/\s = σ++[.box [.d (.int .i64 a.kind),.d (.str a.topic),.d (.str a.group),.d (.int .i64 a.offset),.d (.slice (zgp a.recs))],.box [.d (.int .i64 b.kind),.d (.str b.topic),.d (.str b.group),.d (.int .i64 b.offset),.d (.slice (zgp b.recs))]]/\a.recs.take k=b.recs.take k) ⟨rfl,rfl,by simp⟩ ?_
 rintro k vs s hk ⟨rfl,rfl,htk⟩
 (refine gq7 ?_;try with_reducible exact True.intro)
 refine zad (fun h => ?_) (fun h => ?_)
 ·have hka:k<a.recs.length:=by (try simp only [decide_eq_true_eq,decide_eq_false_iff_not,beq_iff_eq,beq_eq_false_iff_ne,bne_iff_ne,ne_eq,Bool.not_eq_true',Bool.not_eq_false',bne_eq_false_iff_eq] at *);omega
  have hx:a.recs[k]? = some a.recs[k]:=by simp [hka]
  have hy:b.recs[k]? = some (b.recs[k]'(by omega)):=List.getElem?_eq_getElem _
  (refine gq8 (gqc2 (zgt hx) (zgt hy)) ?_;try with_reducible exact True.intro)
  refine And.intro (by omega) (And.intro (by omega) ?_)
  refine zad (fun h => ?_) (fun h => ?_)
  ·(refine gq7 ?_;try with_reducible exact True.intro)
   refine zaz.next hka ⟨?_,rfl,zbM hx hy htk (by simpa using h)⟩
   rw [zas (by omega) (by omega)];rfl
  ·refine zw hl ?_
   simp only [zcO,dmT,dm,dm1]
   apply fin
   rw [decide_eq_false_iff_not]
   rintro rfl
   simp at h
 ·refine zw hl ?_
  simp only [zcO,dmT,dm,dm1]
  have:a.recs=b.recs:=zcH hl2 (k:=k) (by (try simp only [decide_eq_true_eq,decide_eq_false_iff_not,beq_iff_eq,beq_eq_false_iff_ne,bne_iff_ne,ne_eq,Bool.not_eq_true',Bool.not_eq_false',bne_eq_false_iff_eq] at *);omega) htk
  apply fin
  (try simp only [decide_eq_true_eq,decide_eq_false_iff_not,beq_iff_eq,beq_eq_false_iff_ne,bne_iff_ne,ne_eq,Bool.not_eq_true',Bool.not_eq_false',bne_eq_false_iff_eq] at *)
  grind
end Go.Proofs.YtpgahkdjkanblaaGreat

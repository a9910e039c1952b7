/- Contracts: an operation in memory of its own. -/
import Derived.Test.YtfgbofkdhfjegaaGreatCl1
import Derived.Test.YtfgbofkdhfjegaaGreatSh
import Derived.Test.YtfgbofkdhfjegaaGreatOp1
import Derived.Test.YtfgbofkdhfjegaaGreatSpUtf
set_option linter.all false
set_option maxRecDepth 100000
namespace Go.Proofs.YtfgbofkdhfjegaaGreat
open Go.AW
theorem zjz {A B:Prop} (a:A) (b:B):A/\B:=⟨a,b⟩
theorem gq27 {P Q:Prop} (h:Q) (e:P=Q:=by simp -dsimp only [↓zeU, ↓zaA, ↓zbp, ↓zeV, ↓zeO, ↓zeM, ↓zeP, ↓zeN, ↓zbu, ↓zbq, ↓zbv, ↓zbr, ↓zeQ, ↓zbo, ↓zbw, ↓zbs, ↓zbx, ↓zbt, ↓zeL, ↓zeT, ↓zbn, ↓zby, ↓zeG, ↓zeF, ↓zeK,iN,bT,bF,eN, ↓zco, ↓unC, ↓zX, ↓zM, ↓zN, ↓zQ, ↓zZ, ↓zai, ↓zcv, ↓zaf, ↓zaS, ↓zV, ↓zl, ↓zm, ↓zbg, ↓ze, ↓zae, ↓zC, ↓zaM, ↓zaT, ↓zd, ↓zA, ↓zr, ↓zD, ↓zao, ↓zcY, ↓zdn, ↓zap, ↓zaw, ↓zaN, ↓zaZ, ↓zbk, ↓zw, ↓zaj, ↓zO, ↓zE, ↓zY,zdr,zbm,zbl,unA,zdo,bnd,zdL,zab,zS,zdI,dm,dm1,zG,zak,zdZ,zdY,zH,Q0,Q1,Q2,Q3,Q4,Q5,zW,zx,zy,zT,zL,Q6,Q7,Q8,Q9,Q10,Q11,Q12,Q13,Q14,Nat.reduceAdd,Q15,Int.reduceToNat,Q16,Q17,Q18,Q19,Q20,reduceIte,Q21,Q22,zF,rep,zaa,zeC,toD,zag,Q23,Q24,Q25,Q26,Q27,Q28,Nat.reduceLeDiff,Q29,Nat.reduceSub,Q30,Q31,Q32,sc,Q33,Q34,Q35];rfl):P:=e.mpr h
theorem gq28 {A P Q:Prop} (a:A) (h:Q) (e:A->P=Q:=by intro a;simp -dsimp only [↓zeU, ↓zaA, ↓zbp, ↓zeV, ↓zeO, ↓zeM, ↓zeP, ↓zeN, ↓zbu, ↓zbq, ↓zbv, ↓zbr, ↓zeQ, ↓zbo, ↓zbw, ↓zbs, ↓zbx, ↓zbt, ↓zeL, ↓zeT, ↓zbn, ↓zby, ↓zeG, ↓zeF, ↓zeK,iN,bT,bF,eN, ↓zco, ↓unC, ↓zX, ↓zM, ↓zN, ↓zQ, ↓zZ, ↓zai, ↓zcv, ↓zaf, ↓zaS, ↓zV, ↓zl, ↓zm, ↓zbg, ↓ze, ↓zae, ↓zC, ↓zaM, ↓zaT, ↓zd, ↓zA, ↓zr, ↓zD, ↓zao, ↓zcY, ↓zdn, ↓zap, ↓zaw, ↓zaN, ↓zaZ, ↓zbk, ↓zw, ↓zaj, ↓zO, ↓zE, ↓zY,zdr,zbm,zbl,unA,zdo,bnd,zdL,zab,zS,zdI,dm,dm1,zG,zak,zdZ,zdY,zH,Q0,Q1,Q2,Q3,Q4,Q5,zW,zx,zy,zT,zL,Q6,Q7,Q8,Q9,Q10,Q11,Q12,Q13,Q14,Nat.reduceAdd,Q15,Int.reduceToNat,Q16,Q17,Q18,Q19,Q20,reduceIte,Q21,Q22,zF,rep,zaa,zeC,toD,zag,Q23,Q24,Q25,Q26,Q27,Q28,Nat.reduceLeDiff,Q29,Nat.reduceSub,Q30,Q31,Q32,sc,Q33,Q34,Q35,Bool.and_false,Bool.and_self,Bool.false_and,Bool.not_false,Bool.not_true,Bool.true_and,Int.toNat_natCast,Int.toNat_zero,List.drop_zero,List.length_map,List.length_nil,List.nil_append,List.take_length,Nat.sub_zero,Nat.zero_add,Option.isSome_none,Option.isSome_some,Option.map_none,Option.map_some,zav,beq_self_eq_true,bne_self_eq_false,zgr,zeA,zfQ,zaN,mgetR,zaZ,a];rfl):P:=(e a).mpr h
theorem c_rSame {σ:List zh} {a b:TOp} (ha:a.recs.length<=1073741824) (hb:b.recs.length<=1073741824) {K:KT} (hK:K (.d (.bool (decide (a=b)))) σ):zp Tryz.prog zrV [opA a,opA b] σ K:=by
 refine zeW e_r06_Same fun hl => ?_
 have fin:∀ z:Bool,decide (a=b)=z->K (.d (.bool z)) σ:=fun z hz=>by rw [← hz];exact hK
 have hab:a=b↔a.kind=b.kind/\a.topic=b.topic/\a.group=b.group/\a.offset=b.offset/\a.recs=b.recs:=by cases a;cases b;simp
 clear hK
 simp only [zxU,iN,bT,bF,eN,opA]
 (repeat' (first|(refine gq27 ?_;try with_reducible exact True.intro)|(refine zaE (fun h => ?_) (fun h => ?_)<;>(try rw [h]))|((with_reducible refine And.intro ?_ ?_);focus (first|omega|rfl|decide))))
 all_goals first
  | (
   refine zI hl ?_
   (try simp only [decide_eq_true_eq,decide_eq_false_iff_not,beq_iff_eq,beq_eq_false_iff_ne,bne_iff_ne,ne_eq,Bool.not_eq_true',Bool.not_eq_false',bne_eq_false_iff_eq] at *)
   simp only [zcJ,dmT,dm,dm1]
   apply fin
   grind)
  | skip
 -- the records
 have hl2:a.recs.length=b.recs.length:=by (try simp only [decide_eq_true_eq,decide_eq_false_iff_not,beq_iff_eq,beq_eq_false_iff_ne,bne_iff_ne,ne_eq,Bool.not_eq_true',Bool.not_eq_false',bne_eq_false_iff_eq] at *);omega
 refine zo a.recs.length (fun k vs s=>vs = [.d (.int .i64 k)]/\s = σ++[.box [.d (.int .i64 a.kind),.d (.str a.topic),.d (.str a.group),.d (.int .i64 a.offset),.d (.slice (zbY a.recs))],.box [.d (.int .i64 b.kind),.d (.str b.topic),.d (.str b.group),.d (.int .i64 b.offset),.d (.slice (zbY b.recs))]]/\a.recs.take k=b.recs.take k) ⟨rfl,rfl,by simp⟩ ?_
 rintro k vs s hk ⟨rfl,rfl,htk⟩
 (refine gq27 ?_;try with_reducible exact True.intro)
 refine zaE (fun h => ?_) (fun h => ?_)
 ·have hka:k<a.recs.length:=by (try simp only [decide_eq_true_eq,decide_eq_false_iff_not,beq_iff_eq,beq_eq_false_iff_ne,bne_iff_ne,ne_eq,Bool.not_eq_true',Bool.not_eq_false',bne_eq_false_iff_eq] at *);omega
  have hx:a.recs[k]? = some a.recs[k]:=by simp [hka]
  have hy:b.recs[k]? = some (b.recs[k]'(by omega)):=List.getElem?_eq_getElem _
  (refine gq28 (zjz (zhL hx) (zhL hy)) ?_;try with_reducible exact True.intro)
  refine And.intro (by omega) (And.intro (by omega) ?_)
  refine zaE (fun h => ?_) (fun h => ?_)
  ·(refine gq27 ?_;try with_reducible exact True.intro)
   refine zas.next hka ⟨?_,rfl,zbc hx hy htk (by simpa using h)⟩
   rw [zU (by omega) (by omega)];rfl
  ·refine zI hl ?_
   simp only [zcJ,dmT,dm,dm1]
   apply fin
   rw [decide_eq_false_iff_not]
   rintro rfl
   simp at h
 ·refine zI hl ?_
  simp only [zcJ,dmT,dm,dm1]
  have:a.recs=b.recs:=zbN hl2 (k:=k) (by (try simp only [decide_eq_true_eq,decide_eq_false_iff_not,beq_iff_eq,beq_eq_false_iff_ne,bne_iff_ne,ne_eq,Bool.not_eq_true',Bool.not_eq_false',bne_eq_false_iff_eq] at *);omega) htk
  apply fin
  (try simp only [decide_eq_true_eq,decide_eq_false_iff_not,beq_iff_eq,beq_eq_false_iff_ne,bne_iff_ne,ne_eq,Bool.not_eq_true',Bool.not_eq_false',bne_eq_false_iff_eq] at *)
  grind
def zkO (b:List zt):Prop:=b.length<=1073741824/\∀ x∈b,x.op.recs.length<=1073741824/\∀ r∈x.op.recs,r.length<=1073741824
def zkz (x:zt):AV := .agg [.d (.int .i64 x.client),.d (.int .i64 x.time),.d (.int .i64 x.op.kind),.d (.str x.op.topic),.d (.str x.op.group),.d (.int .i64 x.op.offset),.d (.slice (zbY x.op.recs)),.d (.int .i64 x.key),.d (.int .i64 x.dig)]
def reqA (x:zt):AV := .agg [.d (.int .i64 x.client),.d (.int .i64 x.time),.d (.int .i64 x.op.kind),.d (.str x.op.topic),.d (.str x.op.group),.d (.int .i64 x.op.offset),.d (.slice (zbY x.op.recs))]
theorem gq29 {A P Q:Prop} (a:A) (h:Q) (e:A->P=Q:=by intro a;simp -dsimp only [↓zeU, ↓zaA, ↓zbp, ↓zeV, ↓zeO, ↓zeM, ↓zeP, ↓zeN, ↓zbu, ↓zbq, ↓zbv, ↓zbr, ↓zeQ, ↓zbo, ↓zbw, ↓zbs, ↓zbx, ↓zbt, ↓zeL, ↓zeT, ↓zbn, ↓zby, ↓zeG, ↓zeF, ↓zeK,iN,bT,bF,eN, ↓zco, ↓unC, ↓zX, ↓zM, ↓zN, ↓zQ, ↓zZ, ↓zai, ↓zcv, ↓zaf, ↓zaS, ↓zV, ↓zl, ↓zm, ↓zbg, ↓ze, ↓zae, ↓zC, ↓zaM, ↓zaT, ↓zd, ↓zA, ↓zr, ↓zD, ↓zao, ↓zcY, ↓zdn, ↓zap, ↓zaw, ↓zaN, ↓zaZ, ↓zbk, ↓zw, ↓zaj, ↓zO, ↓zE, ↓zY,zdr,zbm,zbl,unA,zdo,bnd,zdL,zab,zS,zdI,dm,dm1,zG,zak,zdZ,zdY,zH,Q0,Q1,Q2,Q3,Q4,Q5,zW,zx,zy,zT,zL,Q6,Q7,Q8,Q9,Q10,Q11,Q12,Q13,Q14,Nat.reduceAdd,Q15,Int.reduceToNat,Q16,Q17,Q18,Q19,Q20,reduceIte,Q21,Q22,zF,rep,zaa,zeC,toD,zag,Q23,Q24,Q25,Q26,Q27,Q28,Nat.reduceLeDiff,Q29,Nat.reduceSub,Q30,Q31,Q32,sc,Q33,Q34,Q35,a];rfl):P:=(e a).mpr h
theorem zwB {σ:List zh} {a b:zt} (ha:a.op.recs.length<=1073741824) (hb:b.op.recs.length<=1073741824) {K:KT} (hK:K (.d (.bool (decide (a.client=b.client/\a.time=b.time/\a.op=b.op)))) σ) :
  zp Tryz.prog zht [reqA a,reqA b] σ K:=by
 refine zeW zso fun hl => ?_
 have fin:∀ z:Bool,decide (a.client=b.client/\a.time=b.time/\a.op=b.op)=z->K (.d (.bool z)) σ:=fun z hz=>by rw [← hz];exact hK
 clear hK
 simp only [zlw,iN,bT,bF,eN,reqA]
 cases h1:(a.client==b.client)
 ·(refine gq29 h1 ?_;try with_reducible exact True.intro)
  refine zI hl ?_
  refine fin _ (decide_eq_false ?_)
  rintro ⟨h,_⟩
  simp [h] at h1
 cases h2:(a.time==b.time)
 ·(refine gq29 (zjz h1 h2) ?_;try with_reducible exact True.intro)
  refine zI hl ?_
  refine fin _ (decide_eq_false ?_)
  rintro ⟨_,h,_⟩
  simp [h] at h2
 (refine gq29 (zjz h1 h2) ?_;try with_reducible exact True.intro)
 repeat' ((with_reducible refine And.intro ?_ ?_);focus (first|omega|rfl|decide))
 refine c_rSame (a:=a.op) (b:=b.op) ha hb ?_
 (refine gq27 ?_;try with_reducible exact True.intro)
 refine zI hl ?_
 refine fin _ ?_
 simp only [beq_iff_eq] at h1 h2
 simp only [h1,h2,true_and]
theorem gq30 {P Q:Prop} (h:Q) (e:P=Q:=by simp -dsimp only [↓zeU, ↓zaA, ↓zbp, ↓zeV, ↓zeO, ↓zeM, ↓zeP, ↓zeN, ↓zbu, ↓zbq, ↓zbv, ↓zbr, ↓zeQ, ↓zbo, ↓zbw, ↓zbs, ↓zbx, ↓zbt, ↓zeL, ↓zeT, ↓zbn, ↓zby, ↓zeG, ↓zeF, ↓zeK,iN,bT,bF,eN, ↓zco, ↓unC, ↓zX, ↓zM, ↓zN, ↓zQ, ↓zZ, ↓zai, ↓zcv, ↓zaf, ↓zaS, ↓zV, ↓zl, ↓zm, ↓zbg, ↓ze, ↓zae, ↓zC, ↓zaM, ↓zaT, ↓zd, ↓zA, ↓zr, ↓zD, ↓zao, ↓zcY, ↓zdn, ↓zap, ↓zaw, ↓zaN, ↓zaZ, ↓zbk, ↓zw, ↓zaj, ↓zO, ↓zE, ↓zY,zdr,zbm,zbl,unA,zdo,bnd,zdL,zab,zS,zdI,dm,dm1,zG,zak,zdZ,zdY,zH,Q0,Q1,Q2,Q3,Q4,Q5,zW,zx,zy,zT,zL,Q6,Q7,Q8,Q9,Q10,Q11,Q12,Q13,Q14,Nat.reduceAdd,Q15,Int.reduceToNat,Q16,Q17,Q18,Q19,Q20,reduceIte,Q21,Q22,zF,rep,zaa,zeC,toD,zag,Q23,Q24,Q25,Q26,Q27,Q28,Nat.reduceLeDiff,Q29,Nat.reduceSub,Q30,Q31,Q32,sc,Q33,Q34,Q35,Bool.and_false,Bool.and_self,Bool.false_and,Bool.not_false,Bool.not_true,Bool.true_and,Int.toNat_natCast,Int.toNat_zero,List.drop_zero,List.length_map,List.length_nil,List.nil_append,List.take_length,Nat.sub_zero,Nat.zero_add,Option.isSome_none,Option.isSome_some,Option.map_none,Option.map_some,zav,beq_self_eq_true,bne_self_eq_false];rfl):P:=e.mpr h
theorem gq31 {A P Q:Prop} (a:A) (h:Q) (e:A->P=Q:=by intro a;simp -dsimp only [↓zeU, ↓zaA, ↓zbp, ↓zeV, ↓zeO, ↓zeM, ↓zeP, ↓zeN, ↓zbu, ↓zbq, ↓zbv, ↓zbr, ↓zeQ, ↓zbo, ↓zbw, ↓zbs, ↓zbx, ↓zbt, ↓zeL, ↓zeT, ↓zbn, ↓zby, ↓zeG, ↓zeF, ↓zeK,iN,bT,bF,eN, ↓zco, ↓unC, ↓zX, ↓zM, ↓zN, ↓zQ, ↓zZ, ↓zai, ↓zcv, ↓zaf, ↓zaS, ↓zV, ↓zl, ↓zm, ↓zbg, ↓ze, ↓zae, ↓zC, ↓zaM, ↓zaT, ↓zd, ↓zA, ↓zr, ↓zD, ↓zao, ↓zcY, ↓zdn, ↓zap, ↓zaw, ↓zaN, ↓zaZ, ↓zbk, ↓zw, ↓zaj, ↓zO, ↓zE, ↓zY,zdr,zbm,zbl,unA,zdo,bnd,zdL,zab,zS,zdI,dm,dm1,zG,zak,zdZ,zdY,zH,Q0,Q1,Q2,Q3,Q4,Q5,zW,zx,zy,zT,zL,Q6,Q7,Q8,Q9,Q10,Q11,Q12,Q13,Q14,Nat.reduceAdd,Q15,Int.reduceToNat,Q16,Q17,Q18,Q19,Q20,reduceIte,Q21,Q22,zF,rep,zaa,zeC,toD,zag,Q23,Q24,Q25,Q26,Q27,Q28,Nat.reduceLeDiff,Q29,Nat.reduceSub,Q30,Q31,Q32,sc,Q33,Q34,Q35,Bool.and_false,Bool.and_self,Bool.false_and,Bool.not_false,Bool.not_true,Bool.true_and,Int.toNat_natCast,Int.toNat_zero,List.drop_zero,List.length_map,List.length_nil,List.nil_append,List.take_length,Nat.sub_zero,Nat.zero_add,Option.isSome_none,Option.isSome_some,Option.map_none,Option.map_some,zav,beq_self_eq_true,bne_self_eq_false,zcu,zdq,zgT,zea,opA,zjU,zgz,zkz,zbX,a];rfl):P:=(e a).mpr h
theorem zyW {σ:List zh} {a b:List zt} (ha:zkO a) (hb:zkO b) {K:KT} (hK:K (.d (.bool (decide (a=b)))) σ) :
  zp Tryz.prog zkW [.d (.slice (zda a)),.d (.slice (zda b))] σ K:=by
 refine zeW e_r08_Same fun hl => ?_
 have fin:∀ z:Bool,decide (a=b)=z->K (.d (.bool z)) σ:=fun z hz=>by rw [← hz];exact hK
 clear hK
 obtain ⟨ha1,ha2⟩:=ha
 obtain ⟨hb1,hb2⟩:=hb
 simp only [zxS,iN,bT,bF,eN]
 (refine gq30 ?_;try with_reducible exact True.intro)
 by_cases hl2:a.length=b.length
 ·have hne:((a.length:Int) != (b.length:Int))=false:=by simp [hl2]
  (refine gq29 hne ?_;try with_reducible exact True.intro)
  refine zo a.length (fun k vs s=>vs = [.d (.int .i64 k)]/\s = σ/\a.take k=b.take k) ⟨rfl,rfl,by simp⟩ ?_
  rintro k vs s hk ⟨rfl,rfl,htk⟩
  (refine gq30 ?_;try with_reducible exact True.intro)
  refine zaE (fun h => ?_) (fun h => ?_)
  ·have hka:k<a.length:=by simp at h;omega
   have hx:a[k]? = some a[k]:=by simp [hka]
   have hy:b[k]? = some (b[k]'(by omega)):=List.getElem?_eq_getElem _
   have ax:=(ha2 _ (List.getElem_mem hka)).1
   have bx:=(hb2 _ (List.getElem_mem (show k<b.length by omega))).1
   have hgx:=zK (f:=zbX) hx
   have hgy:=zK (f:=zbX) hy
   obtain ⟨x,hxe⟩:∃ x,a[k]=x:=⟨_,rfl⟩
   obtain ⟨y,hye⟩:∃ y,b[k]'(by omega)=y:=⟨_,rfl⟩
   rw [hxe] at hgx hx ax
   rw [hye] at hgy hy bx
   have neq:x≠y->K (.d (.bool false)) s:=fun h=>fin _ (decide_eq_false (by rintro rfl;rw [hx] at hy;exact h (Option.some.inj hy)))
   have hxy:x=y↔(x.client=y.client/\x.time=y.time/\x.op=y.op)/\x.key=y.key/\x.dig=y.dig:=by cases x;cases y;simp [and_assoc]
   cases h2:(x.key==y.key&&x.dig==y.dig)
   ·(refine gq31 (zjz hgx (zjz hgy h2)) ?_;try with_reducible exact True.intro)
    repeat' ((with_reducible refine And.intro ?_ ?_);focus (first|omega|rfl|decide))
    try (refine gq31 (zjz hgx (zjz hgy h2)) ?_;try with_reducible exact True.intro)
    refine zI hl ?_
    refine neq (fun h => ?_)
    have:=(hxy.1 h).2
    simp [this.1,this.2] at h2
   ·(refine gq31 (zjz hgx (zjz hgy h2)) ?_;try with_reducible exact True.intro)
    repeat' ((with_reducible refine And.intro ?_ ?_);focus (first|omega|rfl|decide))
    try (refine gq31 (zjz hgx (zjz hgy h2)) ?_;try with_reducible exact True.intro)
    refine zwB (a:=x) (b:=y) ax bx ?_
    simp only [Bool.and_eq_true,beq_iff_eq] at h2
    by_cases h3:x.client=y.client/\x.time=y.time/\x.op=y.op
    ·rw [decide_eq_true h3]
     (refine gq30 ?_;try with_reducible exact True.intro)
     refine zas.next hka ⟨?_,rfl,zbc hx hy htk (hxy.2 ⟨h3,h2⟩)⟩
     rw [show (k:Int)+1=((k+1:Nat):Int) by omega,zU (by omega) (by omega)]
    ·rw [decide_eq_false h3]
     (refine gq30 ?_;try with_reducible exact True.intro)
     refine zI hl ?_
     exact neq (fun h=>h3 (hxy.1 h).1)
  ·refine zI hl ?_
   refine fin _ (decide_eq_true (zbN hl2 (k:=k) (by simp at h;omega) htk))
 ·have hne:((a.length:Int) != (b.length:Int))=true:=by simp;omega
  (refine gq29 hne ?_;try with_reducible exact True.intro)
  refine zI hl ?_
  exact fin _ (decide_eq_false (by rintro rfl;exact hl2 rfl))
theorem c_rKey {σ:List zh} {c:Int} {K:KT} (hK:K (.d (.int .i64 (if c<0∨c≥8 then -1 else 13+c))) σ):zp Tryz.prog znt [.d (.int .i64 c)] σ K:=by
 refine zfc e_r08_Key fun hl => ?_
 have fin:∀ z,(if c<0∨c≥8 then -1 else 13+c)=z->K (.d (.int .i64 z)) σ:=fun z h=>h▸hK
 clear hK
 simp only [S_r08_Key,iN,bT,bF,eN]
 (repeat' (first|(refine gq22 ?_;try with_reducible exact True.intro)|(refine zaE (fun h => ?_) (fun h => ?_)<;>(try rw [h]))|((with_reducible refine And.intro ?_ ?_);focus (first|omega|rfl|decide))))
 all_goals
  refine zI hl ?_
  (try simp only [decide_eq_true_eq,decide_eq_false_iff_not,beq_iff_eq,beq_eq_false_iff_ne,bne_iff_ne,ne_eq,Bool.not_eq_true',Bool.not_eq_false',bne_eq_false_iff_eq] at *)
 ·exact fin _ (by rw [if_pos (by omega)])
 ·exact fin _ (by rw [if_pos (by omega)])
 ·exact fin _ (by rw [if_neg (by omega),zU (by omega) (by omega)])
theorem zdS {P Q:Prop} (h:Q) (e:Hd Q->P:=by intro h;(repeat' first|simp -dsimp only [↓zeU, ↓zaA, ↓zbp, ↓zeV, ↓zeO, ↓zeM, ↓zeP, ↓zeN, ↓zbu, ↓zbq, ↓zbv, ↓zbr, ↓zeQ, ↓zbo, ↓zbw, ↓zbs, ↓zbx, ↓zbt, ↓zeL, ↓zeT, ↓zbn, ↓zby, ↓zeG, ↓zeF, ↓zeK,iN,bT,bF,eN, ↓zco, ↓unC, ↓zX, ↓zM, ↓zN, ↓zQ, ↓zZ, ↓zai, ↓zcv, ↓zaf, ↓zaS, ↓zV, ↓zl, ↓zm, ↓zbg, ↓ze, ↓zae, ↓zC, ↓zaM, ↓zaT, ↓zd, ↓zA, ↓zr, ↓zD, ↓zao, ↓zcY, ↓zdn, ↓zap, ↓zaw, ↓zaN, ↓zaZ, ↓zbk, ↓zw, ↓zaj, ↓zO, ↓zE, ↓zY,zdr,zbm,zbl,unA,zdo,bnd,zdL,zab,zS,zdI,dm,dm1,zG,zak,zdZ,zdY,zH,Q0,Q1,Q2,Q3,Q4,Q5,zW,zx,zy,zT,zL,Q6,Q7,Q8,Q9,Q10,Q11,Q12,Q13,Q14,Nat.reduceAdd,Q15,Int.reduceToNat,Q16,Q17,Q18,Q19,Q20,reduceIte,Q21,Q22,zF,rep,zaa,zeC,toD,zag,Q23,Q24,Q25,Q26,Q27,Q28,Nat.reduceLeDiff,Q29,Nat.reduceSub,Q30,Q31,Q32,sc,Q33,Q34,Q35,Q36,Q37,Q26,Q38,Q39,zis,zio,zil,zit,zcN,ziq,zim,zir,zin,zcM,zcO,ziu,ziv,Bool.not_true,Bool.not_false,List.length_map]|with_reducible refine zix ?_|fail);exact h.go):P:=e ⟨h⟩
theorem zaQ {A P Q:Prop} (a:A) (h:Q) (e:A->Hd Q->P:=by intro a h;(repeat' first|simp -dsimp only [↓zeU, ↓zaA, ↓zbp, ↓zeV, ↓zeO, ↓zeM, ↓zeP, ↓zeN, ↓zbu, ↓zbq, ↓zbv, ↓zbr, ↓zeQ, ↓zbo, ↓zbw, ↓zbs, ↓zbx, ↓zbt, ↓zeL, ↓zeT, ↓zbn, ↓zby, ↓zeG, ↓zeF, ↓zeK,iN,bT,bF,eN, ↓zco, ↓unC, ↓zX, ↓zM, ↓zN, ↓zQ, ↓zZ, ↓zai, ↓zcv, ↓zaf, ↓zaS, ↓zV, ↓zl, ↓zm, ↓zbg, ↓ze, ↓zae, ↓zC, ↓zaM, ↓zaT, ↓zd, ↓zA, ↓zr, ↓zD, ↓zao, ↓zcY, ↓zdn, ↓zap, ↓zaw, ↓zaN, ↓zaZ, ↓zbk, ↓zw, ↓zaj, ↓zO, ↓zE, ↓zY,zdr,zbm,zbl,unA,zdo,bnd,zdL,zab,zS,zdI,dm,dm1,zG,zak,zdZ,zdY,zH,Q0,Q1,Q2,Q3,Q4,Q5,zW,zx,zy,zT,zL,Q6,Q7,Q8,Q9,Q10,Q11,Q12,Q13,Q14,Nat.reduceAdd,Q15,Int.reduceToNat,Q16,Q17,Q18,Q19,Q20,reduceIte,Q21,Q22,zF,rep,zaa,zeC,toD,zag,Q23,Q24,Q25,Q26,Q27,Q28,Nat.reduceLeDiff,Q29,Nat.reduceSub,Q30,Q31,Q32,sc,Q33,Q34,Q35,Q36,Q37,Q26,Q38,Q39,zis,zio,zil,zit,zcN,ziq,zim,zir,zin,zcM,zcO,ziu,ziv,Bool.not_true,Bool.not_false,List.length_map,a]|with_reducible refine zix ?_|fail);exact h.go):P:=e a ⟨h⟩
theorem zxt {σ:List zh} {x:zt} (hx:okO x.op) {K:KT} (hK:K (.d (.int .i64 (zaF x))) σ):zp Tryz.prog zlU [reqA x] σ K:=by
 refine zfc e_r08_Check fun hl => ?_
 have fin:∀ z,zaF x=z->K (.d (.int .i64 z)) σ:=fun z h=>h▸hK
 clear hK
 simp only [zvS,iN,bT,bF,eN,reqA]
 refine zdS ?_
 refine c_rKey ?_
 by_cases hc:x.client<0∨x.client≥8
 ·rw [if_pos hc]
  refine zaQ (show decide ((-1:Int)<0)=true from rfl) ?_
  refine zI hl ?_
  exact fin _ (by rw [zaF,if_pos (by omega)])
 ·rw [if_neg hc]
  have h0:decide (13+x.client<0)=false:=by simp;omega
  (refine gq25 h0 ?_;try with_reducible exact True.intro)
  (repeat' (first|(refine gq22 ?_;try with_reducible exact True.intro)|(refine zaE (fun h => ?_) (fun h => ?_)<;>(try rw [h]))|((with_reducible refine And.intro ?_ ?_);focus (first|omega|rfl|decide))))
  all_goals first
   | (
    refine zI hl ?_
    (try simp only [decide_eq_true_eq,decide_eq_false_iff_not,beq_iff_eq,beq_eq_false_iff_ne,bne_iff_ne,ne_eq,Bool.not_eq_true',Bool.not_eq_false',bne_eq_false_iff_eq] at *)
    exact fin _ (by rw [zaF,if_pos (by omega)]))
   | skip
  refine zzf (o:=x.op) hx.1 hx.2.1 hx.2.2.1 ?_
  refine zdS ?_
  refine zI hl ?_
  (try simp only [decide_eq_true_eq,decide_eq_false_iff_not,beq_iff_eq,beq_eq_false_iff_ne,bne_iff_ne,ne_eq,Bool.not_eq_true',Bool.not_eq_false',bne_eq_false_iff_eq] at *)
  exact fin _ (by rw [zaF,if_neg (by omega)])
theorem zyX {σ:List zh} {k d:Int} {K:KT} (hK:K (.d (.int .i64 (zah k d))) σ):zp Tryz.prog zef [.agg [.d (.int .i64 k),.d (.int .i64 d)]] σ K:=by
 refine zfc zpN fun hl => ?_
 have fin:∀ z,zah k d=z->K (.d (.int .i64 z)) σ:=fun z h=>h▸hK
 clear hK
 simp only [zjG,iN,bT,bF,eN]
 (repeat' (first|(refine gq22 ?_;try with_reducible exact True.intro)|(refine zaE (fun h => ?_) (fun h => ?_)<;>(try rw [h]))|((with_reducible refine And.intro ?_ ?_);focus (first|omega|rfl|decide))))
 all_goals
  refine zI hl ?_
  (try simp only [decide_eq_true_eq,decide_eq_false_iff_not,beq_iff_eq,beq_eq_false_iff_ne,bne_iff_ne,ne_eq,Bool.not_eq_true',Bool.not_eq_false',bne_eq_false_iff_eq] at *)
  first|exact fin _ (by rw [zah,if_pos (by omega)])|exact fin _ (by rw [zah,if_neg (by omega)])
theorem zhG {σ:List zh} {k d:Int} {K:KT} (hK:K (.d (.int .i64 (zah k d))) σ):zp Tryz.prog zdO [.agg [.d (.int .i64 k),.d (.int .i64 d)]] σ K:=by
 refine zfc zuW fun hl => ?_
 have fin:∀ z,zah k d=z->K (.d (.int .i64 z)) σ:=fun z h=>h▸hK
 clear hK
 simp only [znY,iN,bT,bF,eN]
 (repeat' (first|(refine gq22 ?_;try with_reducible exact True.intro)|(refine zaE (fun h => ?_) (fun h => ?_)<;>(try rw [h]))|((with_reducible refine And.intro ?_ ?_);focus (first|omega|rfl|decide))))
 all_goals
  refine zI hl ?_
  (try simp only [decide_eq_true_eq,decide_eq_false_iff_not,beq_iff_eq,beq_eq_false_iff_ne,bne_iff_ne,ne_eq,Bool.not_eq_true',Bool.not_eq_false',bne_eq_false_iff_eq] at *)
  first|exact fin _ (by rw [zah,if_pos (by omega)])|exact fin _ (by rw [zah,if_neg (by omega)])
theorem wk1 (k:Nat) (h:k<=1073741824):IntKind.i64.wrap ((k:Int)+1)=((k+1:Nat):Int):=by rw [zU (by omega) (by omega)];rfl
theorem zqi {A P Q:Prop} (a:A) (h:Q) (e:A->Hd Q->P:=by intro a h;(repeat' first|simp -dsimp only [↓zeU, ↓zaA, ↓zbp, ↓zeV, ↓zeO, ↓zeM, ↓zeP, ↓zeN, ↓zbu, ↓zbq, ↓zbv, ↓zbr, ↓zeQ, ↓zbo, ↓zbw, ↓zbs, ↓zbx, ↓zbt, ↓zeL, ↓zeT, ↓zbn, ↓zby, ↓zeG, ↓zeF, ↓zeK,iN,bT,bF,eN, ↓zco, ↓unC, ↓zX, ↓zM, ↓zN, ↓zQ, ↓zZ, ↓zai, ↓zcv, ↓zaf, ↓zaS, ↓zV, ↓zl, ↓zm, ↓zbg, ↓ze, ↓zae, ↓zC, ↓zaM, ↓zaT, ↓zd, ↓zA, ↓zr, ↓zD, ↓zao, ↓zcY, ↓zdn, ↓zap, ↓zaw, ↓zaN, ↓zaZ, ↓zbk, ↓zw, ↓zaj, ↓zO, ↓zE, ↓zY,zdr,zbm,zbl,unA,zdo,bnd,zdL,zab,zS,zdI,dm,dm1,zG,zak,zdZ,zdY,zH,Q0,Q1,Q2,Q3,Q4,Q5,zW,zx,zy,zT,zL,Q6,Q7,Q8,Q9,Q10,Q11,Q12,Q13,Q14,Nat.reduceAdd,Q15,Int.reduceToNat,Q16,Q17,Q18,Q19,Q20,reduceIte,Q21,Q22,zF,rep,zaa,zeC,toD,zag,Q23,Q24,Q25,Q26,Q27,Q28,Nat.reduceLeDiff,Q29,Nat.reduceSub,Q30,Q31,Q32,sc,Q33,Q34,Q35,Q36,Q37,Q26,Q38,Q39,zis,zio,zil,zit,zcN,ziq,zim,zir,zin,zcM,zcO,ziu,ziv,Bool.not_true,Bool.not_false,List.length_map,Bool.and_false,Bool.and_self,Bool.false_and,Bool.not_false,Bool.not_true,Bool.true_and,Int.toNat_natCast,Int.toNat_zero,List.drop_zero,List.length_map,List.length_nil,List.nil_append,List.take_length,Nat.sub_zero,Nat.zero_add,Option.isSome_none,Option.isSome_some,Option.map_none,Option.map_some,zav,beq_self_eq_true,bne_self_eq_false,zcu,zdq,zgT,zea,opA,zjU,zgz,zkz,zbX,a]|with_reducible refine zix ?_|fail);exact h.go):P:=e a ⟨h⟩
theorem zra {σ:List zh} {b:List zt} (hb:okB b) {K:KT} (hK:K (.d (.int .i64 (zad b))) σ):zp Tryz.prog zds [.d (.slice (zda b))] σ K:=by
 refine zfc ztz fun hl => ?_
 have fin:∀ z,zad b=z->K (.d (.int .i64 z)) σ:=fun z h=>h▸hK
 clear hK
 obtain ⟨hb1,hb2⟩:=hb
 simp only [zmF,iN,bT,bF,eN]
 cases h4:decide ((b.length:Int) > 4)
 rotate_left
 ·refine zaQ h4 ?_
  refine zI hl ?_
  exact fin _ (by rw [zad,if_pos (by simp at h4;omega)])
 have h4':¬ b.length > 4:=by simp at h4;omega
 refine zaQ h4 ?_
 refine zo b.length (fun k vs s=>vs = [.d (.int .i64 k)]/\s = σ/\znE (b.take k)=0) ⟨rfl,rfl,rfl⟩ ?_
 rintro k vs s hk ⟨rfl,rfl,he⟩
 by_cases hlt:k<b.length
 ·have hd:decide ((k:Int)<(b.length:Int))=true:=by simp;omega
  have hx:b[k]? = some b[k]:=by simp [hlt]
  have hbx:=hb2 _ (List.getElem_mem hlt)
  have hgx:=zK (f:=zbX) hx
  obtain ⟨x,hxe⟩:∃ x,b[k]=x:=⟨_,rfl⟩
  rw [hxe] at hx hgx hbx
  have bad:errF x≠0->K (.d (.int .i64 (errF x))) s:=fun h=>fin _ (by rw [zad,if_neg h4',if_pos (by rw [zxn hx he h];exact h)];exact zxn hx he h)
  refine zqi (zP hd hgx) ?_
  refine zxt (x:=x) hbx ?_
  cases h1:(zaF x != 0)
  rotate_left
  ·have h1':zaF x≠0:=by simpa using h1
   refine zaQ h1 ?_
   refine zI hl ?_
   have e:errF x=zaF x:=by rw [errF,if_pos h1']
   rw [e] at bad
   exact bad h1'
  refine zqi (zP h1 hgx) ?_
  have h1':¬ zaF x≠0:=by simpa using h1
  have e:errF x=zah x.key x.dig:=by rw [errF,if_neg h1']
  refine zhG ?_
  cases h2:(zah x.key x.dig != 0)
  rotate_left
  ·refine zaQ h2 ?_
   refine zI hl ?_
   rw [e] at bad
   exact bad (by simpa using h2)
  refine zaQ (zP h2 (wk1 k (by omega))) ?_
  exact zas.next hlt ⟨rfl,rfl,errsF_snoc hx he (by rw [e];simpa using h2)⟩
 ·have hn:k=b.length:=by omega
  subst hn
  rw [List.take_length] at he
  have hd:decide ((b.length:Int)<(b.length:Int))=false:=by simp
  refine zaQ hd ?_
  refine zo b.length (fun k vs q=>vs = [.d (.int .i64 k)]/\q=s/\(b.take k).Pairwise ndup) ⟨rfl,rfl,by simp⟩ ?_
  rintro k vs s hk' ⟨rfl,rfl,hp⟩
  by_cases hlt:k<b.length
  ·have hd:decide ((k:Int)<(b.length:Int))=true:=by simp;omega
   have hx:b[k]? = some b[k]:=by simp [hlt]
   have hgx:=zK (f:=zbX) hx
   obtain ⟨x,hxe⟩:∃ x,b[k]=x:=⟨_,rfl⟩
   rw [hxe] at hx hgx
   refine zaQ hd ?_
   refine zo k (fun j vs q=>vs = [.d (.int .i64 j)]/\q=s/\∀ y∈b.take j, ¬ (x.client=y.client/\x.time=y.time)) ⟨rfl,rfl,by simp⟩ ?_
   rintro j vs s hj ⟨rfl,rfl,hno⟩
   by_cases hjk:j<k
   ·have hd:decide ((j:Int)<(k:Int))=true:=by simp;omega
    have hy:b[j]? = some (b[j]'(by omega)):=List.getElem?_eq_getElem _
    have hgy:=zK (f:=zbX) hy
    obtain ⟨y,hye⟩:∃ y,b[j]'(by omega)=y:=⟨_,rfl⟩
    rw [hye] at hy hgy
    have hyt:b.take (j+1)=b.take j++[y]:=by rw [List.take_add_one,hy];rfl
    have next:¬ (x.client=y.client/\x.time=y.time)->∀ z∈b.take (j+1), ¬ (x.client=z.client/\x.time=z.time):=fun h z hz=>by
     rw [hyt] at hz
     rcases List.mem_append.1 hz with hz|hz
     ·exact hno z hz
     ·simp at hz;subst hz;exact h
    cases h1:(x.client==y.client)
    ·refine zqi (zP hd (zP hgx (zP hgy (zP h1 (wk1 j (by omega)))))) ?_
     exact zas.next hjk ⟨rfl,rfl,next (by simp at h1;exact fun h=>h1 h.1)⟩
    cases h2:(x.time==y.time)
    ·refine zqi (zP hd (zP hgx (zP hgy (zP h1 (zP h2 (wk1 j (by omega))))))) ?_
     exact zas.next hjk ⟨rfl,rfl,next (by simp at h2;exact fun h=>h2 h.2)⟩
    ·refine zqi (zP hd (zP hgx (zP hgy (zP h1 h2)))) ?_
     refine zI hl ?_
     have hnp:=pairs_not hx hy hjk ⟨by simpa using h1,by simpa using h2⟩
     exact fin _ (by rw [zad,if_neg h4',if_neg (by simpa using he),if_neg hnp])
   ·have hd:decide ((j:Int)<(k:Int))=false:=by simp;omega
    have hn:j=k:=by omega
    subst hn
    refine zaQ (zP hd (wk1 j (by omega))) ?_
    exact zas.next hlt ⟨rfl,rfl,pairs_snoc hx hp hno⟩
  ·have hd:decide ((k:Int)<(b.length:Int))=false:=by simp;omega
   refine zaQ hd ?_
   refine zI hl ?_
   have hn:k=b.length:=by omega
   subst hn
   rw [List.take_length] at hp
   exact fin _ (by rw [zad,if_neg h4',if_neg (by simpa using he),if_pos hp])
end Go.Proofs.YtfgbofkdhfjegaaGreat

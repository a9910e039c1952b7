/- Contracts: an operation in memory of its own. -/
import Derived.Test.YtfgbofkdhfjegaaGreatCl1
import Derived.Test.YtfgbofkdhfjegaaGreatSh
import Derived.Test.YtfgbofkdhfjegaaGreatOp1
import Derived.Test.YtfgbofkdhfjegaaGreatSpUtf
import Derived.Test.YtfgbofkdhfjegaaGreatId3
set_option linter.all false
set_option maxRecDepth 100000
namespace Go.Proofs.YtfgbofkdhfjegaaGreat
open Go.AW
def zoJ (b:List zo):Prop:=b.length<=1073741824/\∀ x∈b,x.op.recs.length<=1073741824/\∀ r∈x.op.recs,r.length<=1073741824
def zkD (x:zo):AV := .agg [.d (.int .i64 x.client),.d (.int .i64 x.time),.d (.int .i64 x.op.kind),.d (.str x.op.topic),.d (.str x.op.group),.d (.int .i64 x.op.offset),.d (.slice (zbT x.op.recs)),.d (.int .i64 x.key),.d (.int .i64 x.dig)]
def reqA (x:zo):AV := .agg [.d (.int .i64 x.client),.d (.int .i64 x.time),.d (.int .i64 x.op.kind),.d (.str x.op.topic),.d (.str x.op.group),.d (.int .i64 x.op.offset),.d (.slice (zbT x.op.recs))]
theorem c_rKey {σ:List zg} {c:Int} {K:KT} (hK:K (.d (.int .i64 (if c<0∨c≥8 then -1 else 13+c))) σ):zr Tryz.prog zlT [.d (.int .i64 c)] σ K:=by
 refine zgp e_r08_Key fun hl => ?_
 have fin:∀ z,(if c<0∨c≥8 then -1 else 13+c)=z->K (.d (.int .i64 z)) σ:=fun z h=>h▸hK
 clear hK
 simp only [S_r08_Key,iN,bT,bF,eN]
 (repeat' (first|(refine gq22 ?_;try with_reducible exact True.intro)|(refine zaN (fun h => ?_) (fun h => ?_)<;>(try rw [h]))|((with_reducible refine And.intro ?_ ?_);focus (first|omega|rfl|decide))))
 all_goals
  refine zT hl ?_
  (try simp only [decide_eq_true_eq,decide_eq_false_iff_not,beq_iff_eq,beq_eq_false_iff_ne,bne_iff_ne,ne_eq,Bool.not_eq_true',Bool.not_eq_false',bne_eq_false_iff_eq] at *)
 ·exact fin _ (by rw [if_pos (by omega)])
 ·exact fin _ (by rw [if_pos (by omega)])
 ·exact fin _ (by rw [if_neg (by omega),zab (by omega) (by omega)])
theorem zir {P Q:Prop} (h:Q) (e:Hd Q->P:=by intro h;(repeat' first|simp -dsimp only [↓zft, ↓zaH, ↓zbG, ↓zfu, ↓zfo, ↓zfm, ↓zfp, ↓zfn, ↓zbL, ↓zbH, ↓zbM, ↓zbI, ↓zfq, ↓zbF, ↓zbN, ↓zbJ, ↓zbO, ↓zbK, ↓zfl, ↓zfr, ↓zbE, ↓zbP, ↓zfd, ↓zfc, ↓zfk,iN,bT,bF,eN, ↓zcQ, ↓unC, ↓zY, ↓zK, ↓zL, ↓zN, ↓zae, ↓zax, ↓zcK, ↓zaq, ↓zbh, ↓zR, ↓zp, ↓zm, ↓zbV, ↓zh, ↓zak, ↓zH, ↓zaR, ↓zaY, ↓ze, ↓zD, ↓zu, ↓zB, ↓zar, ↓zdk, ↓zdz, ↓zas, ↓zaD, ↓zaV, ↓zbf, ↓zbm, ↓zA, ↓zan, ↓zM, ↓zF, ↓zad,zdE,zbu,zbo,unA,zdC,bnd,zej,zag,zS,zeh,dm,dm1,zC,zah,zeF,zeE,zQ,Q0,Q1,Q2,Q3,Q4,Q5,zV,zx,zw,zO,zJ,Q6,Q7,Q8,Q9,Q10,Q11,Q12,Q13,Q14,Nat.reduceAdd,Q15,Int.reduceToNat,Q16,Q17,Q18,Q19,Q20,reduceIte,Q21,Q22,zG,rep,zZ,zeQ,toD,zal,Q23,Q24,Q25,Q26,Q27,Q28,Nat.reduceLeDiff,Q29,Nat.reduceSub,Q30,Q31,Q32,sc,Q33,Q34,Q35,Q36,Q37,Q26,Q38,Q39,ziR,ziO,ziL,ziS,zcX,ziP,ziM,ziQ,ziN,zcW,zcY,ziU,ziV,Bool.not_true,Bool.not_false,List.length_map]|with_reducible refine ziX ?_|fail);exact h.go):P:=e ⟨h⟩
theorem zbw {A P Q:Prop} (a:A) (h:Q) (e:A->Hd Q->P:=by intro a h;(repeat' first|simp -dsimp only [↓zft, ↓zaH, ↓zbG, ↓zfu, ↓zfo, ↓zfm, ↓zfp, ↓zfn, ↓zbL, ↓zbH, ↓zbM, ↓zbI, ↓zfq, ↓zbF, ↓zbN, ↓zbJ, ↓zbO, ↓zbK, ↓zfl, ↓zfr, ↓zbE, ↓zbP, ↓zfd, ↓zfc, ↓zfk,iN,bT,bF,eN, ↓zcQ, ↓unC, ↓zY, ↓zK, ↓zL, ↓zN, ↓zae, ↓zax, ↓zcK, ↓zaq, ↓zbh, ↓zR, ↓zp, ↓zm, ↓zbV, ↓zh, ↓zak, ↓zH, ↓zaR, ↓zaY, ↓ze, ↓zD, ↓zu, ↓zB, ↓zar, ↓zdk, ↓zdz, ↓zas, ↓zaD, ↓zaV, ↓zbf, ↓zbm, ↓zA, ↓zan, ↓zM, ↓zF, ↓zad,zdE,zbu,zbo,unA,zdC,bnd,zej,zag,zS,zeh,dm,dm1,zC,zah,zeF,zeE,zQ,Q0,Q1,Q2,Q3,Q4,Q5,zV,zx,zw,zO,zJ,Q6,Q7,Q8,Q9,Q10,Q11,Q12,Q13,Q14,Nat.reduceAdd,Q15,Int.reduceToNat,Q16,Q17,Q18,Q19,Q20,reduceIte,Q21,Q22,zG,rep,zZ,zeQ,toD,zal,Q23,Q24,Q25,Q26,Q27,Q28,Nat.reduceLeDiff,Q29,Nat.reduceSub,Q30,Q31,Q32,sc,Q33,Q34,Q35,Q36,Q37,Q26,Q38,Q39,ziR,ziO,ziL,ziS,zcX,ziP,ziM,ziQ,ziN,zcW,zcY,ziU,ziV,Bool.not_true,Bool.not_false,List.length_map,a]|with_reducible refine ziX ?_|fail);exact h.go):P:=e a ⟨h⟩
theorem zuZ {σ:List zg} {x:zo} (hx:okO x.op) {K:KT} (hK:K (.d (.int .i64 (zay x))) σ):zr Tryz.prog zkM [reqA x] σ K:=by
 refine zgp e_r08_Check fun hl => ?_
 have fin:∀ z,zay x=z->K (.d (.int .i64 z)) σ:=fun z h=>h▸hK
 clear hK
 simp only [ztD,iN,bT,bF,eN,reqA]
 refine zir ?_
 refine c_rKey ?_
 by_cases hc:x.client<0∨x.client≥8
 ·rw [if_pos hc]
  refine zbw (show decide ((-1:Int)<0)=true from rfl) ?_
  refine zT hl ?_
  exact fin _ (by rw [zay,if_pos (by omega)])
 ·rw [if_neg hc]
  have h0:decide (13+x.client<0)=false:=by simp;omega
  (refine gq25 h0 ?_;try with_reducible exact True.intro)
  (repeat' (first|(refine gq22 ?_;try with_reducible exact True.intro)|(refine zaN (fun h => ?_) (fun h => ?_)<;>(try rw [h]))|((with_reducible refine And.intro ?_ ?_);focus (first|omega|rfl|decide))))
  all_goals first
   | (
    refine zT hl ?_
    (try simp only [decide_eq_true_eq,decide_eq_false_iff_not,beq_iff_eq,beq_eq_false_iff_ne,bne_iff_ne,ne_eq,Bool.not_eq_true',Bool.not_eq_false',bne_eq_false_iff_eq] at *)
    exact fin _ (by rw [zay,if_pos (by omega)]))
   | skip
  refine zwy (o:=x.op) hx.1 hx.2.1 hx.2.2.1 ?_
  refine zir ?_
  refine zT hl ?_
  (try simp only [decide_eq_true_eq,decide_eq_false_iff_not,beq_iff_eq,beq_eq_false_iff_ne,bne_iff_ne,ne_eq,Bool.not_eq_true',Bool.not_eq_false',bne_eq_false_iff_eq] at *)
  exact fin _ (by rw [zay,if_neg (by omega)])
theorem zwt {σ:List zg} {k d:Int} {K:KT} (hK:K (.d (.int .i64 (zai k d))) σ):zr Tryz.prog zdI [.agg [.d (.int .i64 k),.d (.int .i64 d)]] σ K:=by
 refine zgp zog fun hl => ?_
 have fin:∀ z,zai k d=z->K (.d (.int .i64 z)) σ:=fun z h=>h▸hK
 clear hK
 simp only [zix,iN,bT,bF,eN]
 (repeat' (first|(refine gq22 ?_;try with_reducible exact True.intro)|(refine zaN (fun h => ?_) (fun h => ?_)<;>(try rw [h]))|((with_reducible refine And.intro ?_ ?_);focus (first|omega|rfl|decide))))
 all_goals
  refine zT hl ?_
  (try simp only [decide_eq_true_eq,decide_eq_false_iff_not,beq_iff_eq,beq_eq_false_iff_ne,bne_iff_ne,ne_eq,Bool.not_eq_true',Bool.not_eq_false',bne_eq_false_iff_eq] at *)
  first|exact fin _ (by rw [zai,if_pos (by omega)])|exact fin _ (by rw [zai,if_neg (by omega)])
theorem znw {σ:List zg} {k d:Int} {K:KT} (hK:K (.d (.int .i64 (zai k d))) σ):zr Tryz.prog zfT [.agg [.d (.int .i64 k),.d (.int .i64 d)]] σ K:=by
 refine zgp zsO fun hl => ?_
 have fin:∀ z,zai k d=z->K (.d (.int .i64 z)) σ:=fun z h=>h▸hK
 clear hK
 simp only [zmr,iN,bT,bF,eN]
 (repeat' (first|(refine gq22 ?_;try with_reducible exact True.intro)|(refine zaN (fun h => ?_) (fun h => ?_)<;>(try rw [h]))|((with_reducible refine And.intro ?_ ?_);focus (first|omega|rfl|decide))))
 all_goals
  refine zT hl ?_
  (try simp only [decide_eq_true_eq,decide_eq_false_iff_not,beq_iff_eq,beq_eq_false_iff_ne,bne_iff_ne,ne_eq,Bool.not_eq_true',Bool.not_eq_false',bne_eq_false_iff_eq] at *)
  first|exact fin _ (by rw [zai,if_pos (by omega)])|exact fin _ (by rw [zai,if_neg (by omega)])
theorem wk1 (k:Nat) (h:k<=1073741824):IntKind.i64.wrap ((k:Int)+1)=((k+1:Nat):Int):=by rw [zab (by omega) (by omega)];rfl
theorem zrr {A P Q:Prop} (a:A) (h:Q) (e:A->Hd Q->P:=by intro a h;(repeat' first|simp -dsimp only [↓zft, ↓zaH, ↓zbG, ↓zfu, ↓zfo, ↓zfm, ↓zfp, ↓zfn, ↓zbL, ↓zbH, ↓zbM, ↓zbI, ↓zfq, ↓zbF, ↓zbN, ↓zbJ, ↓zbO, ↓zbK, ↓zfl, ↓zfr, ↓zbE, ↓zbP, ↓zfd, ↓zfc, ↓zfk,iN,bT,bF,eN, ↓zcQ, ↓unC, ↓zY, ↓zK, ↓zL, ↓zN, ↓zae, ↓zax, ↓zcK, ↓zaq, ↓zbh, ↓zR, ↓zp, ↓zm, ↓zbV, ↓zh, ↓zak, ↓zH, ↓zaR, ↓zaY, ↓ze, ↓zD, ↓zu, ↓zB, ↓zar, ↓zdk, ↓zdz, ↓zas, ↓zaD, ↓zaV, ↓zbf, ↓zbm, ↓zA, ↓zan, ↓zM, ↓zF, ↓zad,zdE,zbu,zbo,unA,zdC,bnd,zej,zag,zS,zeh,dm,dm1,zC,zah,zeF,zeE,zQ,Q0,Q1,Q2,Q3,Q4,Q5,zV,zx,zw,zO,zJ,Q6,Q7,Q8,Q9,Q10,Q11,Q12,Q13,Q14,Nat.reduceAdd,Q15,Int.reduceToNat,Q16,Q17,Q18,Q19,Q20,reduceIte,Q21,Q22,zG,rep,zZ,zeQ,toD,zal,Q23,Q24,Q25,Q26,Q27,Q28,Nat.reduceLeDiff,Q29,Nat.reduceSub,Q30,Q31,Q32,sc,Q33,Q34,Q35,Q36,Q37,Q26,Q38,Q39,ziR,ziO,ziL,ziS,zcX,ziP,ziM,ziQ,ziN,zcW,zcY,ziU,ziV,Bool.not_true,Bool.not_false,List.length_map,Bool.and_false,Bool.and_self,Bool.false_and,Bool.not_false,Bool.not_true,Bool.true_and,Int.toNat_natCast,Int.toNat_zero,List.drop_zero,List.length_map,List.length_nil,List.nil_append,List.take_length,Nat.sub_zero,Nat.zero_add,Option.isSome_none,Option.isSome_some,Option.map_none,Option.map_some,zaL,beq_self_eq_true,bne_self_eq_false,zcr,zes,zhp,zdX,opA,znQ,zhI,zkD,zch,a]|with_reducible refine ziX ?_|fail);exact h.go):P:=e a ⟨h⟩
theorem zpp {σ:List zg} {b:List zo} (hb:okB b) {K:KT} (hK:K (.d (.int .i64 (zX b))) σ):zr Tryz.prog zff [.d (.slice (zdm b))] σ K:=by
 refine zgp zru fun hl => ?_
 have fin:∀ z,zX b=z->K (.d (.int .i64 z)) σ:=fun z h=>h▸hK
 clear hK
 obtain ⟨hb1,hb2⟩:=hb
 simp only [zlo,iN,bT,bF,eN]
 cases h4:decide ((b.length:Int) > 4)
 rotate_left
 ·refine zbw h4 ?_
  refine zT hl ?_
  exact fin _ (by rw [zX,if_pos (by simp at h4;omega)])
 have h4':¬ b.length > 4:=by simp at h4;omega
 refine zbw h4 ?_
 refine zt b.length (fun k vs s=>vs = [.d (.int .i64 k)]/\s = σ/\zmd (b.take k)=0) ⟨rfl,rfl,rfl⟩ ?_
 rintro k vs s hk ⟨rfl,rfl,he⟩
 by_cases hlt:k<b.length
 ·have hd:decide ((k:Int)<(b.length:Int))=true:=by simp;omega
  have hx:b[k]? = some b[k]:=by simp [hlt]
  have hbx:=hb2 _ (List.getElem_mem hlt)
  have hgx:=zP (f:=zch) hx
  obtain ⟨x,hxe⟩:∃ x,b[k]=x:=⟨_,rfl⟩
  rw [hxe] at hx hgx hbx
  have bad:errF x≠0->K (.d (.int .i64 (errF x))) s:=fun h=>fin _ (by rw [zX,if_neg h4',if_pos (by rw [zuT hx he h];exact h)];exact zuT hx he h)
  refine zrr (zbb hd hgx) ?_
  refine zuZ (x:=x) hbx ?_
  cases h1:(zay x != 0)
  rotate_left
  ·have h1':zay x≠0:=by simpa using h1
   refine zbw h1 ?_
   refine zT hl ?_
   have e:errF x=zay x:=by rw [errF,if_pos h1']
   rw [e] at bad
   exact bad h1'
  refine zrr (zbb h1 hgx) ?_
  have h1':¬ zay x≠0:=by simpa using h1
  have e:errF x=zai x.key x.dig:=by rw [errF,if_neg h1']
  refine znw ?_
  cases h2:(zai x.key x.dig != 0)
  rotate_left
  ·refine zbw h2 ?_
   refine zT hl ?_
   rw [e] at bad
   exact bad (by simpa using h2)
  refine zbw (zbb h2 (wk1 k (by omega))) ?_
  exact zaB.next hlt ⟨rfl,rfl,errsF_snoc hx he (by rw [e];simpa using h2)⟩
 ·have hn:k=b.length:=by omega
  subst hn
  rw [List.take_length] at he
  have hd:decide ((b.length:Int)<(b.length:Int))=false:=by simp
  refine zbw hd ?_
  refine zt b.length (fun k vs q=>vs = [.d (.int .i64 k)]/\q=s/\(b.take k).Pairwise ndup) ⟨rfl,rfl,by simp⟩ ?_
  rintro k vs s hk' ⟨rfl,rfl,hp⟩
  by_cases hlt:k<b.length
  ·have hd:decide ((k:Int)<(b.length:Int))=true:=by simp;omega
   have hx:b[k]? = some b[k]:=by simp [hlt]
   have hgx:=zP (f:=zch) hx
   obtain ⟨x,hxe⟩:∃ x,b[k]=x:=⟨_,rfl⟩
   rw [hxe] at hx hgx
   refine zbw hd ?_
   refine zt k (fun j vs q=>vs = [.d (.int .i64 j)]/\q=s/\∀ y∈b.take j, ¬ (x.client=y.client/\x.time=y.time)) ⟨rfl,rfl,by simp⟩ ?_
   rintro j vs s hj ⟨rfl,rfl,hno⟩
   by_cases hjk:j<k
   ·have hd:decide ((j:Int)<(k:Int))=true:=by simp;omega
    have hy:b[j]? = some (b[j]'(by omega)):=List.getElem?_eq_getElem _
    have hgy:=zP (f:=zch) hy
    obtain ⟨y,hye⟩:∃ y,b[j]'(by omega)=y:=⟨_,rfl⟩
    rw [hye] at hy hgy
    have hyt:b.take (j+1)=b.take j++[y]:=by rw [List.take_add_one,hy];rfl
    have next:¬ (x.client=y.client/\x.time=y.time)->∀ z∈b.take (j+1), ¬ (x.client=z.client/\x.time=z.time):=fun h z hz=>by
     rw [hyt] at hz
     rcases List.mem_append.1 hz with hz|hz
     ·exact hno z hz
     ·simp at hz;subst hz;exact h
    cases h1:(x.client==y.client)
    ·refine zrr (zbb hd (zbb hgx (zbb hgy (zbb h1 (wk1 j (by omega)))))) ?_
     exact zaB.next hjk ⟨rfl,rfl,next (by simp at h1;exact fun h=>h1 h.1)⟩
    cases h2:(x.time==y.time)
    ·refine zrr (zbb hd (zbb hgx (zbb hgy (zbb h1 (zbb h2 (wk1 j (by omega))))))) ?_
     exact zaB.next hjk ⟨rfl,rfl,next (by simp at h2;exact fun h=>h2 h.2)⟩
    ·refine zrr (zbb hd (zbb hgx (zbb hgy (zbb h1 h2)))) ?_
     refine zT hl ?_
     have hnp:=pairs_not hx hy hjk ⟨by simpa using h1,by simpa using h2⟩
     exact fin _ (by rw [zX,if_neg h4',if_neg (by simpa using he),if_neg hnp])
   ·have hd:decide ((j:Int)<(k:Int))=false:=by simp;omega
    have hn:j=k:=by omega
    subst hn
    refine zbw (zbb hd (wk1 j (by omega))) ?_
    exact zaB.next hlt ⟨rfl,rfl,pairs_snoc hx hp hno⟩
  ·have hd:decide ((k:Int)<(b.length:Int))=false:=by simp;omega
   refine zbw hd ?_
   refine zT hl ?_
   have hn:k=b.length:=by omega
   subst hn
   rw [List.take_length] at hp
   exact fin _ (by rw [zX,if_neg h4',if_neg (by simpa using he),if_pos hp])
def keyF (c:Int):Int:=if c<0∨c≥8 then -1 else 13+c
theorem sizes {x:zo} (h:zjG x.op<=20971520):okO x.op:=by
 have h0:=h
 unfold zjG at h
 refine ⟨by omega,by omega,?_,fun r hr => ?_⟩
 ·have:=zkH x.op.recs;omega
 ·have:=rec_le hr;omega
theorem zva {σ:List zg} {x:zo} (hx:zjG x.op<=20971520) {K:KT} (hK:K (.tup [.d (.slice (bcs (zgM x))),.d (.int .i64 (zay x))]) σ):zr Tryz.prog zkN [reqA x] σ K:=by
 refine zgp e_r08_Bytes fun hl => ?_
 have hsz:=sizes hx
 simp only [ztE,iN,bT,bF,eN,reqA]
 refine zir ?_
 refine zuZ (x:=x) hsz ?_
 by_cases hc:zay x=0
 ·obtain ⟨c0,c8,t1,t2,ho⟩:=req_ok hc
  have hb:(zay x != 0)=false:=by simpa using hc
  have n1:=zE (n:=x.client.toNat) (by omega)
  have n2:=zE (n:=x.time.toNat) (by omega)
  have w1:IntKind.u64.wrap x.client=((x.client.toNat:Nat):Int):=by
   rw [show x.client=((x.client.toNat:Nat):Int) by omega,zcV (by omega)];rfl
  have w2:IntKind.u64.wrap x.time=((x.time.toNat:Nat):Int):=by
   rw [show x.time=((x.time.toNat:Nat):Int) by omega,zcV (by omega)];rfl
  rw [hc,zgM,if_pos hc] at hK
  refine zbw (zbb hb (zbb w1 w2)) ?_
  refine zdg (b := []) (by omega) (by simp) ?_
  refine zbw (zbb w1 w2) ?_
  refine zdg (by omega) (by first|omega|(simp;omega)) ?_
  refine zbw (zbb w1 w2) ?_
  refine c_rPut (o:=x.op) (by first|omega|(simp;omega)) (by omega) ?_
  refine zir ?_
  refine zT hl ?_
  rw [if_pos ho]
  exact hK
 ·have hb:(zay x != 0)=true:=by simpa using hc
  rw [zgM,if_neg hc] at hK
  refine zbw hb ?_
  refine zT hl ?_
  exact hK
theorem c_rPutSign {σ:List zg} {b:List UInt8} {k d:Int} (hb:b.length<=1073741700) {K:KT} (hK:K (.d (.slice (bcs (b++zmH k d)))) σ) :
  zr Tryz.prog zkL [.d (.slice (bcs b)),.agg [.d (.int .i64 k),.d (.int .i64 d)]] σ K:=by
 refine zfP zwg fun hl => ?_
 simp only [zpB,iN,bT,bF,eN]
 refine zir ?_
 refine znw ?_
 by_cases hc:zai k d=0
 ·obtain ⟨k0,k1,d0,d1⟩:=sign_ok hc
  have hq:(zai k d != 0)=false:=by simpa using hc
  have n1:=zE (n:=k.toNat) (by omega)
  have w1:IntKind.u64.wrap k=((k.toNat:Nat):Int):=by
   rw [show k=((k.toNat:Nat):Int) by omega,zcV (by omega)];rfl
  have w2:IntKind.u64.wrap d=((d.toNat:Nat):Int):=by
   rw [show d=((d.toNat:Nat):Int) by omega,zcV (by omega)];rfl
  rw [zmH,if_pos hc] at hK
  refine zbw (zbb hq (zbb w1 w2)) ?_
  refine zdg (by omega) (by omega) ?_
  refine zbw (zbb w1 w2) ?_
  refine zdg (by omega) (by first|omega|(simp;omega)) ?_
  refine zir ?_
  refine zT hl ?_
  exact hK
 ·have hq:(zai k d != 0)=true:=by simpa using hc
  rw [zmH,if_neg hc,List.append_nil] at hK
  refine zbw hq ?_
  refine zT hl ?_
  exact hK
theorem c_rPutBatch {σ:List zg} {b:List UInt8} {l:List zo} (hb:b.length<=268435456) (hs:∀ x∈l,zjG x.op<=20971520) (hl0:l.length<=1073741824) {K:KT} (hK:K (.d (.slice (bcs (b++zfI l)))) σ) :
  zr Tryz.prog zjz [.d (.slice (bcs b)),.d (.slice (zdm l))] σ K:=by
 refine zfP zuc fun hl => ?_
 have hok:okB l:=⟨hl0,fun x hx=>sizes (hs x hx)⟩
 simp only [znC,iN,bT,bF,eN]
 refine zir ?_
 refine zpp hok ?_
 by_cases hc:zX l=0
 ·have hq:(zX l != 0)=false:=by simpa using hc
  obtain ⟨h4,hm,_⟩:=zwH hc
  have n1:=zE (n:=l.length) (by omega)
  have w1:IntKind.u64.wrap (l.length:Int)=(l.length:Int):=zcV (by omega)
  rw [zfI,if_pos hc] at hK
  refine zbw (zbb hq w1) ?_
  refine zdg (by omega) (by omega) ?_
  refine zir ?_
  refine zcq l.length (fun k vs s=>(∃ T,s = σ++T)/\vs = [.d (.slice (bcs (b++(zcu l.length++zjF (l.take k))))),.d (.int .i64 k)])
   (.data 0 _ _ rfl rfl (.refl _ _)) ⟨⟨_,rfl⟩,by simp [zjF]⟩ ?_
  rintro k vs s hk ⟨⟨T,rfl⟩,rfl⟩
  by_cases hlt:k<l.length
  ·have hd:decide ((k:Int)<(l.length:Int))=true:=by simp;omega
   have hx:l[k]? = some l[k]:=by simp [hlt]
   have hgx:=zP (f:=zch) hx
   have hxs:=hs _ (List.getElem_mem hlt)
   have hxm:=hm _ (List.getElem_mem hlt)
   obtain ⟨x,hxe⟩:∃ x,l[k]=x:=⟨_,rfl⟩
   rw [hxe] at hx hgx hxs hxm
   have hbl:=ztr hs hc k
   have hrl:=reqBytes_len hxs
   have hpl:=zfR (x:=zgM x) (by omega)
   obtain ⟨S,hS⟩:∃ S, σ++T=S:=⟨_,rfl⟩
   rw [hS]
   refine zrr (zbb hd hgx) ?_
   refine zva (x:=x) hxs ?_
   refine zrr (zbb hd hgx) ?_
   refine zgE (by omega) (by simp;omega) ?_
   refine zrr (zbb hd hgx) ?_
   refine c_rPutSign (by simp only [zmJ,List.length_append] at hpl ⊢;omega) ?_
   refine zbw (wk1 k (by omega)) ?_
   refine zaB.next hlt ⟨⟨_,by rw [← hS,List.append_assoc]⟩,?_⟩
   rw [batchBs_snoc hx]
   simp [oneB,zmJ,zgM,zmH,hxm.1,hxm.2]
  ·have hd:decide ((k:Int)<(l.length:Int))=false:=by simp;omega
   rw [List.take_of_length_le (by omega)]
   refine zbw hd ?_
   refine zT hl ?_
   exact hK
 ·have hq:(zX l != 0)=true:=by simpa using hc
  rw [zfI,if_neg hc,List.append_nil] at hK
  refine zbw hq ?_
  refine zT hl ?_
  exact hK
theorem zdo.put {σ:List zg} {id m t:Nat} {l:List (List UInt8)} (h:zdo σ id m t l) (l':List (List UInt8)):zdo (putTab σ id m t l') id m t l':=by
 obtain ⟨n1,n2,n3⟩:=h.ne
 have h1:=zy h.box;have h2:=zy h.map;have h3:=zy h.tok
 unfold putTab
 refine ⟨?_,?_,?_⟩
 ·rw [List.getElem?_set_ne (Ne.symm n1),List.getElem?_set_self (by simpa using h1)]
 ·rw [List.getElem?_set_self (by simpa using h2)]
 ·rw [List.getElem?_set_ne n3,List.getElem?_set_ne n2,List.getElem?_set_self h3]
theorem zee.put {σ:List zg} {id m t:Nat} {g:List zI} (h:zee σ id m t g) (g':List zI):zee (putLed σ id m t g') id m t g':=by
 obtain ⟨n1,n2,n3⟩:=h.ne
 have h1:=zy h.box;have h2:=zy h.map;have h3:=zy h.tok
 unfold putLed
 refine ⟨?_,?_,?_⟩
 ·rw [List.getElem?_set_self (by simpa using h1)]
 ·rw [List.getElem?_set_ne n1,List.getElem?_set_ne (Ne.symm n3),List.getElem?_set_self h2]
 ·rw [List.getElem?_set_ne n2,List.getElem?_set_self (by simpa using h3)]
theorem apart2 {σ:List zg} {id m t id2 m2 t2:Nat} {l:List (List UInt8)} {g:List zI} (hT:zdo σ id m t l) (hG:zee σ id2 m2 t2 g) (h1:id≠id2) (h2:m≠m2) :
  (id≠m2/\id≠t2)/\(m≠id2/\m≠t2)/\(t≠id2/\t≠m2/\t≠t2):=by
 refine ⟨⟨?_,?_⟩,⟨?_,?_⟩,⟨?_,?_,?_⟩⟩<;>intro e<;>subst e
 ·have:=hT.box;rw [hG.map] at this;cases this
 ·have:=hT.box;rw [hG.tok] at this;cases this
 ·have:=hT.map;rw [hG.box] at this;cases this
 ·have:=hT.map;rw [hG.tok] at this;cases this
 ·have:=hT.tok;rw [hG.box] at this;cases this
 ·have:=hT.tok;rw [hG.map] at this;cases this
 ·have:=hT.tok;rw [hG.tok] at this;cases this
theorem zee.putTab {σ:List zg} {id m t id2 m2 t2:Nat} {l:List (List UInt8)} {g:List zI} (hT:zdo σ id m t l) (hG:zee σ id2 m2 t2 g) (h1:id≠id2) (h2:m≠m2) (l':List (List UInt8)) :
  zee (putTab σ id m t l') id2 m2 t2 g:=by
 obtain ⟨⟨a1,a2⟩,⟨b1,b2⟩,⟨c1,c2,c3⟩⟩:=apart2 hT hG h1 h2
 unfold Go.Proofs.YtfgbofkdhfjegaaGreat.putTab
 refine ⟨?_,?_,?_⟩
 ·rw [List.getElem?_set_ne b1,List.getElem?_set_ne h1,List.getElem?_set_ne c1];exact hG.box
 ·rw [List.getElem?_set_ne h2,List.getElem?_set_ne a1,List.getElem?_set_ne c2];exact hG.map
 ·rw [List.getElem?_set_ne b2,List.getElem?_set_ne a2,List.getElem?_set_ne c3];exact hG.tok
theorem zdo.putLed {σ:List zg} {id m t id2 m2 t2:Nat} {l:List (List UInt8)} {g:List zI} (hT:zdo σ id m t l) (hG:zee σ id2 m2 t2 g) (h1:id≠id2) (h2:m≠m2) (g':List zI) :
  zdo (putLed σ id2 m2 t2 g') id m t l:=by
 obtain ⟨⟨a1,a2⟩,⟨b1,b2⟩,⟨c1,c2,c3⟩⟩:=apart2 hT hG h1 h2
 unfold Go.Proofs.YtfgbofkdhfjegaaGreat.putLed
 refine ⟨?_,?_,?_⟩
 ·rw [List.getElem?_set_ne (Ne.symm h1),List.getElem?_set_ne (Ne.symm a2),List.getElem?_set_ne (Ne.symm a1)];exact hT.box
 ·rw [List.getElem?_set_ne (Ne.symm b1),List.getElem?_set_ne (Ne.symm b2),List.getElem?_set_ne (Ne.symm h2)];exact hT.map
 ·rw [List.getElem?_set_ne (Ne.symm c1),List.getElem?_set_ne (Ne.symm c3),List.getElem?_set_ne (Ne.symm c2)];exact hT.tok
def noSg:zo:=⟨0, 0,noOp, 0, 0⟩
def ztV (L:List (List UInt8)) (x:zo):Int:=if zay x≠0 then zay x else zei (keyF x.client) (zdy L (zrJ x))
def zkE (L:List (List UInt8)) (x:zo):zo:=if ztV L x=0 then ⟨x.client,x.time,x.op,keyF x.client,zdy L (zrJ x)⟩ else noSg
def zpV (L:List (List UInt8)) (x:zo):List (List UInt8):=if zay x≠0 then L else zeJ L (zrJ x)
def zsd (L:List (List UInt8)) (G:List zI) (x:zo):List zI:=if zay x≠0 then G else zfz G (keyF x.client) (zdy L (zrJ x))
structure zlJ (L:List (List UInt8)):Prop where
 nd:L.Nodup
 len:L.length<=1048576
 each:∀ b∈L,b.length<=1073741824
theorem zlJ.nil:zlJ []:=⟨.nil,by simp,by simp⟩
theorem zlJ.sum {L:List (List UInt8)} (h:zlJ L) {b:List UInt8} (hb:b.length<=1073741824):zlJ (zeJ L b):=by
 unfold zeJ
 cases ho:zcv L b with
 | some k=>exact h
 | none=>
  simp only
  split
  ·exact h
  ·rename_i hl
   have hn:b ∉ L:=fun hm=>by
    obtain ⟨i,hi⟩:=List.mem_iff_getElem?.1 hm
    exact zvU ho hm
   refine ⟨?_,by simp;omega,fun x hx => ?_⟩
   ·rw [List.nodup_append]
    refine ⟨h.nd,by simp,fun a ha c hc => ?_⟩
    simp at hc;subst hc
    exact fun e=>hn (e▸ha)
   ·rcases List.mem_append.1 hx with hx|hx
    ·exact h.each x hx
    ·simp at hx;subst hx;exact hb
end Go.Proofs.YtfgbofkdhfjegaaGreat

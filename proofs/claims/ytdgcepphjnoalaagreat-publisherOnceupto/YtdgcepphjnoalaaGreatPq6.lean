/- Contracts: a client that is begun. -/
import Derived.Test.YtdgcepphjnoalaaGreatPx3
set_option linter.all false
set_option maxRecDepth 100000
namespace Go.Proofs.YtdgcepphjnoalaaGreat
open Go.AW
variable {σ:List AObj}
def bOp:TOp:=⟨1,[116],[],0,[]⟩
def bX:zp:=⟨2,0+1,bOp,0,0⟩
def bL1:List (List UInt8):=zoh [] bX
def bG1:List zI:=zpO [] [] bX
def bS:zp:=zeT [] bX
def bR1:zya:=zem bL1 bG1 (repM 0 3)
def bR2:zya:=zem bR1.L bR1.G (repM 1 4)
def bR3:zya:=zem bR2.L bR2.G (repM 0 3)
def bR4:zya:=zem bR3.L bR3.G (repM 2 3)
theorem b_ok:zjM [] bX=0:=by decide +kernel
theorem b_op:zaN zef bOp=0:=by decide +kernel
theorem b_e1:bR1.e=0:=by decide +kernel
theorem b_e2:bR2.e=0:=by decide +kernel
theorem b_e3:bR3.e=0:=by decide +kernel
theorem b_e4:bR4.e=0:=by decide +kernel
theorem b_v1:zgg bR1.L bR1.G bR1.m=true:=by decide +kernel
theorem b_v2:zgg bR2.L bR2.G bR2.m=true:=by decide +kernel
theorem b_v3:zgg bR3.L bR3.G bR3.m=true:=by decide +kernel
theorem b_v4:zgg bR4.L bR4.G bR4.m=true:=by decide +kernel
theorem b_t0:zmF bL1:=⟨by decide +kernel,by decide +kernel,by decide +kernel⟩
theorem b_t1:zmF bR1.L:=⟨by decide +kernel,by decide +kernel,by decide +kernel⟩
theorem b_t2:zmF bR2.L:=⟨by decide +kernel,by decide +kernel,by decide +kernel⟩
theorem b_t3:zmF bR3.L:=⟨by decide +kernel,by decide +kernel,by decide +kernel⟩
theorem b_t4:zmF bR4.L:=⟨by decide +kernel,by decide +kernel,by decide +kernel⟩
theorem b_g0:bG1.length<=1000000:=by decide +kernel
theorem b_g1:bR1.G.length<=1000000:=by decide +kernel
theorem b_g2:bR2.G.length<=1000000:=by decide +kernel
theorem b_g3:bR3.G.length<=1000000:=by decide +kernel
theorem b_g4:bR4.G.length<=1000000:=by decide +kernel
theorem b_o:okO bOp:=⟨by decide,by decide,by decide,by simp[bOp]⟩
theorem b_so:bS.op=bOp:=by decide +kernel
def y1:List (Int × Int × Int):=zhp [] 0 0 3
def y2:List (Int × Int × Int):=zhp y1 1 0 4
def y3:List (Int × Int × Int):=zhp y2 0 0 3
theorem bn1:(zqf (zhp [] 0 0 3) 0 3:Int)<2:=by decide
theorem bn2:(zqf (zhp y1 1 0 4) 0 4:Int)<2:=by decide
theorem bn3:(zqf (zhp y2 0 0 3) 0 3:Int)<2:=by decide
theorem bn4:¬(zqf (zhp y3 2 0 3) 0 3:Int)<2:=by decide
theorem take_keep {σ S:List AObj}(h:∀(j:Nat) (y:AObj),σ[j]? = some y->S[j]? = some y):S.take σ.length=σ:=by
 apply List.ext_getElem?;intro j;rw[List.getElem?_take];split
 ·rename_i hj;rw[h j _ (List.getElem?_eq_getElem hj),List.getElem?_eq_getElem hj]
 ·rw[List.getElem?_eq_none (by omega)]
theorem TG.keep {i:TGi}{σ S:List AObj}{L:List (List UInt8)}{G:List zI}(h:TG i σ L G)(hk:∀(j:Nat) (y:AObj),σ[j]? = some y->S[j]? = some y):TG i S L G:=
 ⟨⟨hk _ _ h.tab.box,hk _ _ h.tab.map,hk _ _ h.tab.tok⟩,⟨hk _ _ h.led.box,hk _ _ h.led.map,hk _ _ h.led.tok⟩,h.n1,h.n2⟩
theorem gq41 {A P Q:Prop}(a:A)(h:Q)(e:A->Hd Q->P:=by intro a h;(repeat' first|simp -dsimp only[↓zmg,↓zcf,↓zep,↓zmh,↓zmb,↓zlZ,↓zmc,↓zma,↓zeu,↓zeq,↓zev,↓zer,↓zmd,↓zeo,↓zew,↓zes,↓zex,↓zet,↓zlY,↓zmf,↓zen,↓zey,↓zlW,↓zlV,↓zlX,iN,bT,bF,eN,↓zeO,↓unC,↓zaE,↓zan,↓zao,↓zaA,↓zbf,↓zah,↓zgR,↓zaz,↓zbe,↓zae,↓ze,↓zl,↓zbc,↓zc,↓zaY,↓zM,↓zce,↓zcB,↓zf,↓zF,↓zr,↓zN,↓zaC,↓zgY,↓zhU,↓zbi,↓zbJ,↓zcj,↓zcM,↓zdG,↓zL,↓zbh,↓zap,↓zR,↓zbb,zhS,zdY,zdS,unA,zgE,bnd,zjr,zaP,zK,ziD,dm,dm1,zH,zaI,zkw,zkv,keepO,Q0,Q1,Q2,Q3,Q4,Q5,zbg,zA,zC,zZ,zad,Q6,Q7,Q8,Q9,Q10,Q11,Q12,Q13,Q14,Nat.reduceAdd,Q15,Int.reduceToNat,Q16,Q17,Q18,Q19,Q20,reduceIte,Q21,Q22,zy,rep,zaq,zil,toD,zaD,Q23,Q24,Q25,Q26,Q27,Q28,Nat.reduceLeDiff,Q29,Nat.reduceSub,Q30,Q31,Q32,sc,Q33,Q34,Q35,Q36,Q37,Q26,Q38,Q39,zvP,zvM,zvJ,zvQ,zkt,zvN,zvK,zvO,zvL,zks,zku,zwb,zwc,Bool.not_true,Bool.not_false,List.length_map,Bool.and_false,Bool.and_self,Bool.false_and,Bool.not_false,Bool.not_true,Bool.true_and,Int.toNat_natCast,Int.toNat_zero,List.drop_zero,List.length_map,List.length_nil,List.nil_append,List.take_length,Nat.sub_zero,Nat.zero_add,Option.isSome_none,Option.isSome_some,Option.map_none,Option.map_some,ansD,zaj,beq_self_eq_true,bft,bne_self_eq_false,btf,bytesE,zck,zhJ,zag,zdg,zrY,zcl,zor,opA,opD,outD,zfx,zgo,zjj,zaw,a]|with_reducible refine zxa ?_|fail);exact h.go):P:=e a ⟨h⟩
theorem c_begun24 {K:KT}(hK:K (.d (.bool true)) σ):zP zqW [] σ K:=by
 refine acE0 e_l24_begun fun hl=>?_;simp only[zxs,iN,bT,bF,eN,zl1,zl2];refine zG ?_;refine ztF ?_;refine zG ?_;refine znv ?_;refine zG ?_;obtain⟨i,hi⟩:∃i:TGi,(⟨σ.length+1,σ.length,σ.length+2,σ.length+4,σ.length+3,σ.length+5⟩:TGi)=i:=⟨_,rfl⟩;have i1:σ.length+1=i.id:=by rw[← hi]
 have i2:σ.length+4=i.id2:=by rw[← hi]
 obtain⟨S0,hS0⟩:∃S0,σ++[AObj.map (tabM []),AObj.box [AV.own (σ.length+2) [],AV.map σ.length],AObj.tok 1 0,AObj.map (zxB []),AObj.box [AV.own (σ.length+5) [],AV.map (σ.length+3)],AObj.tok 2 0,AObj.box [AV.box (σ.length+1) 0],AObj.box [AV.box (σ.length+4) 0]]=S0:=⟨_,rfl⟩;have hT0:TG i S0 [] []:=by
  rw[← hS0,← hi];exact⟨⟨by rw[zA];rfl,by rw[zC];rfl,by rw[zA];rfl⟩,⟨by rw[zA];rfl,by rw[zA];rfl,by rw[zA];rfl⟩,by simp,by simp⟩
 have c0:S0[σ.length+6]? = some (.box [.box i.id 0]):=by rw[← hS0,zA,← i1];rfl
 have d0:S0[σ.length+7]? = some (.box [.box i.id2 0]):=by rw[← hS0,zA,← i2];rfl
 have l0:S0.length=σ.length+8:=by rw[← hS0];simp
 have p0:∀(j:Nat) (y:AObj),σ[j]? = some y->S0[j]? = some y:=fun j y hy=>by rw[← hS0];exact zi hy
 have out:∀j,j<σ.length∨σ.length+6<=j->(j≠i.id/\j≠i.m/\j≠i.t/\j≠i.id2/\j≠i.m2/\j≠i.t2):=fun j hj=>by rw[← hi];simp only;omega
 rw[hS0,i1,i2];refine c_pNew (f:=1) (cl:=2) hT0 zmF.nil (by simp) rfl (by omega) (by omega) fun S1 q hq1 hq2 o1=>?_;have hT1:=hT0.keep o1;have ql:=zY hq2;refine zm (zd hq2 (show((0:Int) != 0)=false from rfl)) ?_;obtain⟨m,hm⟩:∃m,S1.length=m:=⟨_,rfl⟩;obtain⟨S2,hS2⟩:∃S2,S1++[AObj.box [.box q 0]]=S2:=⟨_,rfl⟩;have o2:∀(j:Nat) (y:AObj),S1[j]? = some y->S2[j]? = some y:=fun j y hy=>by rw[← hS2];exact zi hy
 have m2:S2[m]? = some (.box [.box q 0]):=by rw[← hS2,← hm,zC];rfl
 have l2:S2.length=m+1:=by rw[← hS2,← hm];simp
 rw[hS2,hm];refine c_pAsk (o:=bOp) (time:=0) (hT1.keep o2) zmF.nil (by simp) (o2 _ _ hq2) (out q (by omega)) (by decide) b_o b_op (by omega) b_ok fun S3 n q3 n3 T3 nq nl o3=>?_;have hbS:zeT [] bX=bS:=rfl;have q3':S3[q]? = some (.box (zmX 1 2 i.id i.id2 1 [bS] (.map n) 0 [] 0)):=q3;have T3':TG i S3 bL1 bG1:=T3;have kc:∀(S:List AObj),(∀(j:Nat) (y:AObj),j≠q->j≠n->(j≠i.id/\j≠i.m/\j≠i.t/\j≠i.id2/\j≠i.m2/\j≠i.t2)->S3[j]? = some y->S[j]? = some y) →
   S[σ.length+6]? = some (.box [.box i.id 0])/\S[σ.length+7]? = some (.box [.box i.id2 0])/\S[m]? = some (.box [.box q 0])/\∀(j:Nat) (y:AObj),σ[j]? = some y->S[j]? = some y:=fun S hk=>by
  have g:∀(j:Nat) (y:AObj),j≠q->j≠n->(j≠i.id/\j≠i.m/\j≠i.t/\j≠i.id2/\j≠i.m2/\j≠i.t2)->S2[j]? = some y->S[j]? = some y:=fun j y h1 h2 h3 hy=>
   hk j y h1 h2 h3 (o3 j y h1 h3.1 h3.2.1 h3.2.2.1 h3.2.2.2.1 h3.2.2.2.2.1 h3.2.2.2.2.2 hy)
  exact⟨g _ _ (by omega) (by omega) (out _ (by omega)) (o2 _ _ (o1 _ _ c0)),g _ _ (by omega) (by omega) (out _ (by omega)) (o2 _ _ (o1 _ _ d0)),g _ _ (by omega) (by omega) (out _ (by omega)) m2,
   fun j y hy=>g _ _ (by have:=zY hy;omega) (by have:=zY hy;omega) (out _ (by have:=zY hy;omega)) (o2 _ _ (o1 _ _ (p0 _ _ hy)))⟩
 have oc:=out (σ.length+6) (by omega);have od:=out (σ.length+7) (by omega);have om:=out m (by omega);have oq:=out q (by omega);have on:=out n (by omega);have hr1:(outD [bS]).length=31:=rfl;obtain⟨a1,a2,a3,_⟩:=kc S3 fun _ _ _ _ _ h=>h;refine gq41 (zd (show((0:Int) != 0)=false from rfl) (zd (show(((1:Nat):Int) != 1)=false from rfl) (zd (show((1:Int) != 1)=false from rfl) (zd (show((-1:Int) != -1)=false from rfl) (zd (show(false==false)=true from rfl) @List.length_cons.{0}))))) ?_;refine c_b1 (i:=i) (sy:=[]) (a:=0) (n:=3) T3' b_t0 b_g0 a1 a2 a3 q3' n3 (by simp) (by omega) (by omega) oc od om oq on b_e1 b_t1 b_g1 b_v1 (fun _ S4 T4 q4 n4' k4=>?_) fun hn=>absurd bn1 hn;obtain⟨a1,a2,a3,_⟩:=kc S4 k4;refine zkZ (zd (show((0:Int) != 0)=false from rfl) (zd (show(((1:Nat):Int) != 1)=false from rfl) (zd (show((1:Int) != 1)=false from rfl) (zd (show((-1:Int) != -1)=false from rfl) (zd (show(false==false)=true from rfl) @List.length_cons.{0}))))) ?_;have kt:∀(S S':List AObj),(∀(j:Nat) (y:AObj),j≠q->j≠n->(j≠i.id/\j≠i.m/\j≠i.t/\j≠i.id2/\j≠i.m2/\j≠i.t2)->S3[j]? = some y->S[j]? = some y)->(∀(j:Nat) (y:AObj),j≠q->j≠n->(j≠i.id/\j≠i.m/\j≠i.t/\j≠i.id2/\j≠i.m2/\j≠i.t2)->S[j]? = some y->S'[j]? = some y) →
   (∀(j:Nat) (y:AObj),j≠q->j≠n->(j≠i.id/\j≠i.m/\j≠i.t/\j≠i.id2/\j≠i.m2/\j≠i.t2)->S3[j]? = some y->S'[j]? = some y):=fun S S' h1 h2 j y b1 b2 b3 hy=>h2 j y b1 b2 b3 (h1 j y b1 b2 b3 hy)
 refine c_b1 (i:=i) (sy:=y1) (a:=1) (n:=4) T4 b_t1 b_g1 a1 a2 a3 q4 n4' (by decide) (by omega) (by omega) oc od om oq on b_e2 b_t2 b_g2 b_v2 (fun _ S5 T5 q5 n5' k5=>?_) fun hn=>absurd bn2 hn;have k5:=kt _ _ k4 k5;obtain⟨a1,a2,a3,_⟩:=kc S5 k5;refine zkZ (zd (show((0:Int) != 0)=false from rfl) (zd (show(((1:Nat):Int) != 1)=false from rfl) (zd (show((1:Int) != 1)=false from rfl) (zd (show((-1:Int) != -1)=false from rfl) (zd (show(false==false)=true from rfl) (zd (show(true==true)=true from rfl) @List.length_cons.{0})))))) ?_;refine c_b1 (i:=i) (sy:=y2) (a:=0) (n:=3) T5 b_t2 b_g2 a1 a2 a3 q5 n5' (by decide) (by omega) (by omega) oc od om oq on b_e3 b_t3 b_g3 b_v3 (fun _ S6 T6 q6 n6' k6=>?_) fun hn=>absurd bn3 hn;have k6:=kt _ _ k5 k6;obtain⟨a1,a2,a3,_⟩:=kc S6 k6;refine zkZ (zd (show((0:Int) != 0)=false from rfl) (zd (show(((1:Nat):Int) != 1)=false from rfl) (zd (show((1:Int) != 1)=false from rfl) (zd (show((-1:Int) != -1)=false from rfl) (zd (show(false==false)=true from rfl) (zd (show(true==true)=true from rfl) @List.length_cons.{0})))))) ?_;refine c_b1 (i:=i) (sy:=y3) (a:=2) (n:=3) T6 b_t3 b_g3 a1 a2 a3 q6 n6' (by decide) (by omega) (by omega) oc od om oq on b_e4 b_t4 b_g4 b_v4 (fun hn=>absurd hn bn4) fun _ S7 q7 k7=>?_;have k7:=kt _ _ k6 k7;obtain⟨a1,a2,a3,a4⟩:=kc S7 k7;refine zkZ (zd (show((0:Int) != 0)=false from rfl) (zd (show(((1:Nat):Int) != 1)=false from rfl) (zd (show((1:Int) != 1)=false from rfl) (zd (show((-1:Int) != -1)=false from rfl) (zd (show(false==false)=true from rfl) (zd (show(true==true)=true from rfl) (zd @List.length_cons.{0} a3))))))) ?_
 refine c_pLast (s:=bS) q7 (by rw[b_so];decide) (by rw[b_so];simp[bOp]) ?_;have a3':∀τ,(S7++τ)[m]? = some (.box [.box q 0]):=fun τ=>zi a3;have q7':∀τ,(S7++τ)[q]? = _:=fun τ=>zi q7;refine zm (zd (show(true==true)=true from rfl) (zd (show((3:Int)==3)=true from rfl) (zd (show((1:Int)==1)=true from rfl) (zd (show((0+1:Int))=1 from rfl) a3')))) ?_;refine zwO (q7' _) ?_;refine zm (zd (show(true==true)=true from rfl) (zd (show((3:Int)==3)=true from rfl) (zd (show((1:Int)==1)=true from rfl) (zd (show((0+1:Int))=1 from rfl) a3')))) ?_;refine zwN (q7' _) ?_;refine zm (zd (show(true==true)=true from rfl) (zd (show((3:Int)==3)=true from rfl) (zd (show((1:Int)==1)=true from rfl) (zd (show((0+1:Int))=1 from rfl) a3')))) ?_;exact ztq (take_keep fun j y hy=>zi (a4 j y hy)) (by simp[zha,dmT,dm,dm1,zcm]) hl hK
theorem zvj {m:zbD}{s:zI}(h:zaJ m):zaJ (zjK m s):=by
 unfold zjK;split
 ·split
  ·rename_i c l hc;obtain⟨h1,h2,h3,h4,h5,h6,h7,h8,h9,h10⟩:=h;refine⟨h1,h2,h3,by simp,fun y hy=>?_,h6,h7,h8,h9,h10⟩;simp only[List.mem_singleton]at hy;subst hy;obtain⟨⟨a1,a2,a3⟩,⟨b1,b2,b3⟩⟩:=h5 c (by rw[hc];simp);exact⟨⟨a1,a2,a3⟩,⟨b1,b2,b3⟩⟩
  ·exact h
 ·exact zvi h
theorem zqP:zaJ zee:=by
 refine⟨⟨by simp[zee],by simp[zee]⟩,⟨by simp[zee],by simp[zee]⟩,by simp[zee,zCert],by simp[zee],by simp[zee],by simp[zee],by simp[zee],?_,by simp[zee],by simp[zee]⟩;have:=(zsQ 0 0).proof;exact this
theorem zvw {L:List (List UInt8)}{G:List zI}{m:zbD}(h:zaJ m):zaJ (zem L G m).m:=by
 unfold zem;split
 ·exact zqP
 ·split
  ·exact zvj h
  ·split
   ·exact zqP
   ·exact zvj h
theorem sealX_tab {L:List (List UInt8)}{G:List zI}{m:zbD}(h:zmF L):zmF (zem L G m).L:=by
 unfold zem;split
 ·exact h
 ·rename_i h1;split
  ·exact h
  ·split<;>exact h.sum (zwE (by simpa using h1))
theorem sealX_led (L:List (List UInt8))(G:List zI)(m:zbD):(zem L G m).G.length<=G.length+1:=by
 unfold zem;split
 ·simp
 ·split
  ·simp
  ·split<;>exact sgnG_len _ _ _ _
def nowM (d:zib) (o:zuO):zbD:=if o.now=true then{ o.m with kind:=5,client:=d.cl,time:=d.time }else o.m
def keyM (d:zib) (o:zuO):zbD:={ nowM d o with src:=o.key }
def repX (L:List (List UInt8)) (G:List zI) (d:zib) (o:zuO):zya:=zem L G (keyM d o)
def repL (L:List (List UInt8)) (G:List zI) (d:zib) (o:zuO):List (List UInt8):=if o.key<0 then L else(repX L G d o).L
def repG (L:List (List UInt8)) (G:List zI) (d:zib) (o:zuO):List zI:=if o.key<0 then G else(repX L G d o).G
def repT (L:List (List UInt8)) (G:List zI) (d:zib) (o:zuO):zbD:=
 if o.key<0 then nowM d o else if (repX L G d o).e≠0 then nowM d o else if (nowM d o).src≥0 then{ (repX L G d o).m with src:=(nowM d o).src }else(repX L G d o).m
def repS (L:List (List UInt8)) (G:List zI) (d:zib) (M:List zbD) (o:zuO):List zbD:=if o.key<0 then M else if (repX L G d o).e≠0 then M else M++[(repX L G d o).m]
theorem zsT {d:zib}{o:zuO}(h:zaJ o.m):zaJ (nowM d o):=by
 unfold nowM;split
 ·obtain⟨h1,h2,h3,h4,h5,h6,h7,h8,h9,h10⟩:=h;exact⟨h1,h2,h3,h4,h5,h6,h7,h8,h9,h10⟩
 ·exact h
theorem zrJ {m:zbD}{k:Int}(h:zaJ m):zaJ { m with src:=k }:=by
 obtain⟨h1,h2,h3,h4,h5,h6,h7,h8,h9,h10⟩:=h;exact⟨h1,h2,h3,h4,h5,h6,h7,h8,h9,h10⟩
theorem repT_small {L:List (List UInt8)}{G:List zI}{d:zib}{o:zuO}(h:zaJ o.m):zaJ (repT L G d o):=by
 have h1:=zsT (d:=d) h;have h2:zaJ (repX L G d o).m:=zvw (zrJ h1);unfold repT;split
 ·exact h1
 ·split
  ·exact h1
  ·split
   ·exact zrJ h2
   ·exact h2
structure TTw where
 L:List (List UInt8)
 G:List zI
 d:zib
 M:List zbD
def znp (t:TTw) (o:zuO):TTw:=
 if o.do_=0 then⟨zAF t.L t.d o.op,zAG t.L t.G t.d o.op,zrx t.L t.d o.op,t.M⟩
 else if o.do_=1 then⟨repL t.L t.G t.d o,repG t.L t.G t.d o,takeP (repL t.L t.G t.d o) (repG t.L t.G t.d o) t.d (repT t.L t.G t.d o),repS t.L t.G t.d t.M o⟩
 else if o.do_=2 then{ t with d:=zfY t.d }
 else t
structure SopI (o:zuO):Prop where
 ok:okO o.op
 sz:zmT o.op<=20971520
 small:zaJ o.m
structure TwI (N:Nat) (t:TTw):Prop where
 d:PubI N t.d
 ok:okO t.d.s.op
 says:∃sy,SayI sy t.d.says
 L:zmF t.L
 G:t.G.length<=N
 M:t.M.length<=N
theorem PubI.mono {N N':Nat}{d:zib}(h:PubI N d)(hn:N<=N'):PubI N' d:=
 ⟨h.f,by have:=h.time;omega,by have:=h.ticks;omega,by have:=h.many;omega,h.z,h.so,h.lo⟩
theorem TwI.mono {N N':Nat}{t:TTw}(h:TwI N t)(hn:N<=N'):TwI N' t:=⟨h.d.mono hn,h.ok,h.says,h.L,Nat.le_trans h.G hn,Nat.le_trans h.M hn⟩
theorem sealS_opX {L:List (List UInt8)}{x:zp}(h:zjM L x=0):(zeT L x).op=x.op:=by rw[zeT,if_pos h]
theorem TwI.ask {N:Nat}{t:TTw}{o:TOp}(h:TwI N t)(ho:okO o)(hos:zmT o<=20971520):TwI (N+1) ⟨zAF t.L t.d o,zAG t.L t.G t.d o,zrx t.L t.d o,t.M⟩:=by
 have hG:=h.G;have hM:=h.M;have hd:=h.d;have h1:zmF (zAF t.L t.d o):=by
  unfold zAF;split
  ·exact h.L
  ·split
   ·exact h.L
   ·exact h.L.seal hos
 have h2:(zAG t.L t.G t.d o).length<=N+1:=by
  unfold zAG;split
  ·omega
  ·split
   ·omega
   ·unfold zpO;split
    ·omega
    ·exact Nat.le_trans (signG_len _ _ _) (by omega)
 by_cases he:zwY t.L t.d o=0
 ·have e:zrx t.L t.d o={ t.d with time:=t.d.time+1,waits:=true,s:=zeT t.L (zxC t.d o),says:=[],ticks:=0 }:=by rw[zrx,if_neg (by simpa using he)]
  have hs:(zeT t.L (zxC t.d o)).op=o:=by
   refine sealS_opX ?_;unfold zwY at he;split at he
   ·cases he
   ·split at he
    ·rename_i hh;exact absurd he hh
    ·exact he
  have t1:=hd.time;have t2:=hd.many;refine⟨?_,?_,?_,h1,h2,by simp only;omega⟩
  ·simp only[e];exact⟨hd.f,by simp only;omega,by simp only;omega,by simp only;omega,hd.z,by simp only[hs];exact⟨ho.2.2.1,ho.2.2.2⟩,hd.lo⟩
  ·simp only[e,hs];exact ho
  ·simp only[e];exact⟨[],.nil⟩
 ·have e:zrx t.L t.d o=t.d:=by rw[zrx,if_pos he]
  refine⟨?_,?_,?_,h1,h2,by simp only;omega⟩
  ·simp only[e];exact hd.mono (by omega)
  ·simp only[e];exact h.ok
  ·simp only[e];exact h.says
theorem take_I {N:Nat}{d:zib}{L:List (List UInt8)}{G:List zI}{m:zbD}(h:PubI N d)(hs:∃sy,SayI sy d.says):PubI (N+1) (takeP L G d m)/\(takeP L G d m).s=d.s/\∃sy,SayI sy (takeP L G d m).says:=by
 have t1:=h.time;have t2:=h.many;have t3:=h.ticks;by_cases ho:zhb L G d m=true;rotate_left
 ·have e:takeP L G d m=d:=by rw[takeP,if_neg ho]
  rw[e];exact⟨h.mono (by omega),rfl,hs⟩
 have hc:=ho;simp only[zhb,Bool.and_eq_true,decide_eq_true_eq]at hc;obtain⟨_,c1,c2,c3,c4,c5⟩:=hc;have hsrc:0<=m.src/\m.src<=12:=by
  simp only[zgg,Bool.and_eq_true,decide_eq_true_eq]at c4;exact(zyN c1 c4.1).src
 obtain⟨sy,hsy⟩:=hs;have hs2:=hsy.put (a:=m.rerr) (b:=m.roff) hsrc;by_cases hB:zuv d m=true
 ·have e:takeP L G d m={ d with says:=sayD d.says m.src m.rerr m.roff,waits:=false,ls:=d.s,la:=m.rerr,lo:=m.roff,many:=d.many+1 }:=by rw[takeP,if_pos ho,if_pos hB]
  rw[e];exact⟨⟨h.f,by simp only;omega,by simp only;omega,by simp only;omega,fun hz=>by simp only at hz;omega,h.so,h.so⟩,rfl,_,hs2⟩
 ·have e:takeP L G d m={ d with says:=sayD d.says m.src m.rerr m.roff }:=by rw[takeP,if_pos ho,if_neg hB]
  rw[e];exact⟨⟨h.f,by simp only;omega,by simp only;omega,by simp only;omega,h.z,h.so,h.lo⟩,rfl,_,hs2⟩
theorem tick_I {N:Nat}{d:zib}(h:PubI N d):PubI (N+1) (zfY d):=by
 have t1:=h.time;have t2:=h.many;have t3:=h.ticks;exact⟨h.f,by simp only[zfY];omega,by simp only[zfY];omega,by simp only[zfY];omega,h.z,h.so,h.lo⟩
theorem repL_I {N:Nat}{t:TTw}{o:zuO}(h:TwI N t):zmF (repL t.L t.G t.d o)/\(repG t.L t.G t.d o).length<=N+1/\(repS t.L t.G t.d t.M o).length<=N+1:=by
 have hG:=h.G;have hM:=h.M;refine⟨?_,?_,?_⟩
 ·unfold repL;split
  ·exact h.L
  ·exact sealX_tab h.L
 ·unfold repG;split
  ·omega
  ·exact Nat.le_trans (sealX_led _ _ _) (by omega)
 ·unfold repS;split
  ·omega
  ·split
   ·omega
   ·simp;omega
theorem TwI.does {N:Nat}{t:TTw}{o:zuO}(h:TwI N t)(ho:SopI o):TwI (N+1) (znp t o):=by
 unfold znp;split
 ·exact h.ask ho.ok ho.sz
 ·split
  ·obtain⟨r1,r2,r3⟩:=repL_I (o:=o) h;obtain⟨t1,t2,t3⟩:=take_I (L:=repL t.L t.G t.d o) (G:=repG t.L t.G t.d o) (m:=repT t.L t.G t.d o) h.d h.says;exact⟨t1,by simp only[t2];exact h.ok,t3,r1,r2,r3⟩
  ·split
   ·have:=tick_I h.d;exact⟨this,h.ok,h.says,h.L,by have:=h.G;simp only;omega,by have:=h.M;simp only;omega⟩
   ·exact h.mono (by omega)
variable {σ:List AObj}
theorem zyh {w:List zp}(h:okB w)(h2:zgv w):zaJ (reqM w):=by
 obtain⟨h1,_,h3,h4,h5,h6,h7,h8,h9,h10⟩:=zqP;exact⟨h,h2,h3,h4,h5,h6,h7,h8,h9,h10⟩
theorem gq42 {A P Q:Prop}(a:A)(h:Q)(e:A->Hd Q->P:=by intro a h;(repeat' first|simp -dsimp only[↓zmg,↓zcf,↓zep,↓zmh,↓zmb,↓zlZ,↓zmc,↓zma,↓zeu,↓zeq,↓zev,↓zer,↓zmd,↓zeo,↓zew,↓zes,↓zex,↓zet,↓zlY,↓zmf,↓zen,↓zey,↓zlW,↓zlV,↓zlX,iN,bT,bF,eN,↓zeO,↓unC,↓zaE,↓zan,↓zao,↓zaA,↓zbf,↓zah,↓zgR,↓zaz,↓zbe,↓zae,↓ze,↓zl,↓zbc,↓zc,↓zaY,↓zM,↓zce,↓zcB,↓zf,↓zF,↓zr,↓zN,↓zaC,↓zgY,↓zhU,↓zbi,↓zbJ,↓zcj,↓zcM,↓zdG,↓zL,↓zbh,↓zap,↓zR,↓zbb,zhS,zdY,zdS,unA,zgE,bnd,zjr,zaP,zK,ziD,dm,dm1,zH,zaI,zkw,zkv,keepO,Q0,Q1,Q2,Q3,Q4,Q5,zbg,zA,zC,zZ,zad,Q6,Q7,Q8,Q9,Q10,Q11,Q12,Q13,Q14,Nat.reduceAdd,Q15,Int.reduceToNat,Q16,Q17,Q18,Q19,Q20,reduceIte,Q21,Q22,zy,rep,zaq,zil,toD,zaD,Q23,Q24,Q25,Q26,Q27,Q28,Nat.reduceLeDiff,Q29,Nat.reduceSub,Q30,Q31,Q32,sc,Q33,Q34,Q35,Q36,Q37,Q26,Q38,Q39,zvP,zvM,zvJ,zvQ,zkt,zvN,zvK,zvO,zvL,zks,zku,zwb,zwc,Bool.not_true,Bool.not_false,List.length_map,decide_true,a]|with_reducible refine zxa ?_|fail);exact h.go):P:=e a ⟨h⟩
theorem c_outs {l:List (List D)}(hl0:l=[]∨∃w,l=[outD w]/\okB w/\zgv w){K:KT}(hK:K (.d (.bool true)) σ):zP zpA [.d (.slice l),.d (.slice l)] σ K:=by
 refine zec e_l24_outs fun hl=>?_;simp only[zzt,iN,bT,bF,eN];rcases hl0 with rfl|⟨w,rfl,h1,h2⟩
 ·refine gq28 ?_;refine zn 0 (fun k vs S=>vs=[.d (.int .i64 0)]/\S=σ) ⟨rfl,rfl⟩ ?_;rintro k vs S hk ⟨rfl,rfl⟩;refine zm (show decide ((0:Int)<0)=false from rfl) ?_;refine zu hl ?_;exact hK
 ·refine zkZ @List.length_cons.{0} ?_;refine zn 1 (fun k vs S=>vs=[.d (.int .i64 k)]/\S=σ) ⟨rfl,rfl⟩ ?_;rintro k vs S hk ⟨rfl,rfl⟩;match k,hk with
  | 0,_=>
   refine gq40 (zd (show decide ((0:Int)<1)=true from rfl) (zd (show decide (((0:Nat):Int)<((1:Nat):Int))=true from rfl) (zd @List.getElem?_cons_zero.{0} @List.length_cons.{0}))) ?_
   refine c_kSame (a:=reqM w) (b:=reqM w) (zyh h1 h2) (zyh h1 h2) ?_
   refine gq42 (wkc 0 (by omega)) ?_
   exact zaK.next (by omega) ⟨rfl,rfl⟩
  | 1,_=>
   refine zm (zd (show decide ((1:Int)<1)=false from rfl) (show decide (((1:Nat):Int)<((1:Nat):Int))=false from rfl)) ?_
   refine zu hl ?_
   exact hK
abbrev msgsE (M:List zbD):List (List D):=M.map msgD
structure TPl where
 i:TGi
 u:Nat
 g:Nat
 w:Nat
 q:Nat
 v:Nat
abbrev twinL (a:TPl) (p:Nat) (M:List zbD):List AV:=[.box a.i.id 0,.box a.i.id2 0,.box p 0,.box a.u 0,.box a.g 0,.box a.q 0,.own a.v (msgsE M)]
structure OnW (a:TPl) (p n:Nat) (x:AV) (t:TTw) (S:List AObj):Prop where
 tg:TG a.i S t.L t.G
 hu:S[a.u]? = some (rtO t.L)
 hg:S[a.g]? = some (rlO t.G)
 hw:S[a.w]? = some (.box (twinL a p t.M))
 hp:S[p]? = some (.box (zmm t.d a.i.id a.i.id2 x))
 hq:S[a.q]? = some (.box (zlJ t.d a.u a.g (.d (.slice (zho t.d.says)))))
 hv:S[a.v]? = some (.tok 30 t.M.length)
 sy:SyAt S t.d x n
 hn:∃y,S[n]? = some y
 nd:[a.u,a.g,a.w,a.q,a.v,p,n].Nodup
 off:∀j∈[a.u,a.g,a.w,a.q,a.v,p,n],Off a.i j
theorem OnW.ne {a:TPl}{p n:Nat}{x:AV}{t:TTw}{S:List AObj}(h:OnW a p n x t S) :
  (a.u≠a.g/\a.u≠a.w/\a.u≠a.q/\a.u≠a.v/\a.u≠p/\a.u≠n)/\(a.g≠a.w/\a.g≠a.q/\a.g≠a.v/\a.g≠p/\a.g≠n)/\(a.w≠a.q/\a.w≠a.v/\a.w≠p/\a.w≠n)/\(a.q≠a.v/\a.q≠p/\a.q≠n)/\(a.v≠p/\a.v≠n)/\p≠n:=by
 have:=h.nd;simp only[List.nodup_cons,List.mem_cons,List.not_mem_nil,or_false,not_or,not_false_eq_true,List.nodup_nil,and_true]at this;obtain⟨⟨a1,a2,a3,a4,a5,a6⟩,⟨b1,b2,b3,b4,b5⟩,⟨c1,c2,c3,c4⟩,⟨d1,d2,d3⟩,⟨e1,e2⟩,f⟩:=this;exact⟨⟨a1,a2,a3,a4,a5,a6⟩,⟨b1,b2,b3,b4,b5⟩,⟨c1,c2,c3,c4⟩,⟨d1,d2,d3⟩,⟨e1,e2⟩,f⟩
theorem TG.keepO {i:TGi}{σ S:List AObj}{L:List (List UInt8)}{G:List zI}(h:TG i σ L G)(hk:∀(j:Nat) (y:AObj),¬Off i j→σ[j]? = some y->S[j]? = some y):TG i S L G:=by
 refine⟨⟨hk _ _ ?_ h.tab.box,hk _ _ ?_ h.tab.map,hk _ _ ?_ h.tab.tok⟩,⟨hk _ _ ?_ h.led.box,hk _ _ ?_ h.led.map,hk _ _ ?_ h.led.tok⟩,h.n1,h.n2⟩<;>simp[Off]
theorem OnW.keep {a:TPl}{p n:Nat}{x:AV}{t:TTw}{σ S:List AObj}(h:OnW a p n x t σ)(hk:∀(j:Nat) (y:AObj),σ[j]? = some y->S[j]? = some y):OnW a p n x t S:=
 ⟨h.tg.keep hk,hk _ _ h.hu,hk _ _ h.hg,hk _ _ h.hw,hk _ _ h.hp,hk _ _ h.hq,hk _ _ h.hv,h.sy.keep fun y=>hk _ y,h.hn.imp fun y=>hk _ y,h.nd,h.off⟩
theorem OnW.app {a:TPl}{p n:Nat}{x:AV}{t:TTw}(h:OnW a p n x t σ)(τ:List AObj):OnW a p n x t (σ++τ):=h.keep fun _ _ hy=>zi hy
def zvs (o:zuO):List AV:=[.d (.int .i64 o.do_),.d (.int .i64 o.op.kind),.d (.str o.op.topic),.d (.str o.op.group),.d (.int .i64 o.op.offset),.d (.slice (zdQ o.op.recs)),.d (.int .i64 o.key),.d (.int .i64 o.m.kind),.d (.int .i64 o.m.src),.d (.int .i64 o.m.view),.d (.int .i64 o.m.seq),.d (.int .i64 o.m.dig),.d (.int .i64 o.m.client),.d (.int .i64 o.m.time),.d (.int .i64 o.m.rerr),.d (.int .i64 o.m.roff),.d (.slice (zbA o.m.batch)),
  .d (.int .i64 o.m.cert.seq),.d (.int .i64 o.m.cert.dig),.d (.slice (zat o.m.cert.signs)),.d (.slice (zam o.m.changes)),.d (.slice (zbq o.m.entries)),.d (.slice (bcs o.m.state)),.d (.str o.m.topic),.d (.int .i64 o.m.offset),
  .d (.str o.m.proof.topic),.d (.int .i64 o.m.proof.offset),.d (.slice (bcs o.m.proof.rec_)),.d (.slice (zmt o.m.proof.headers)),.d (.int .i64 o.m.proof.index),.d (.int .i64 o.m.proof.count),.d (.slice (zhV o.m.proof.path)),.d (.int .i64 o.m.proof.cert.seq),.d (.int .i64 o.m.proof.cert.dig),.d (.slice (zat o.m.proof.cert.signs)),.d (.int .i64 o.m.key),.d (.int .i64 o.m.sdig),.d (.bool o.now)]
section
variable {σ:List AObj} {K:KT} {a:TPl} {p n N:Nat} {x:AV} {t:TTw}
theorem OnW.put (h:OnW a p n x t σ){L':List (List UInt8)}{G':List zI}{P:List AObj}(hP:zhk a.i σ L' G'=P):OnW a p n x ⟨L',G',t.d,t.M⟩ ((P.set a.u (rtO L')).set a.g (rlO G')):=by
 obtain⟨⟨b1,b2,b3,b4,b5,b6⟩,⟨c1,c2,c3,c4,c5⟩,_⟩:=h.ne;have o:∀j∈[a.u,a.g,a.w,a.q,a.v,p,n],P[j]? = σ[j]?:=fun j hj=>by rw[← hP];exact TG.other (h.off j hj) _ _
 have ou:=h.off a.u (by simp);have og:=h.off a.g (by simp);have hl0:P.length=σ.length:=by rw[← hP];exact zke ..
 have hul:=zY h.hu;have hgl:=zY h.hg;have htg:TG a.i P L' G':=by rw[← hP];exact h.tg.put L' G'
 clear hP;have k:∀(j:Nat) (y:AObj),P[j]? = σ[j]? → j≠a.u->j≠a.g→σ[j]? = some y->((P.set a.u (rtO L')).set a.g (rlO G'))[j]? = some y:=fun j y hj h1 h2 hy=>zqZ (zqZ (by rw[hj];exact hy) h1) h2;refine⟨htg.keepO fun j y hj hy=>zqZ (zqZ hy (fun e=>hj (e▸ou))) (fun e=>hj (e▸og)),zqZ (List.getElem?_set_self (by omega)) b1,List.getElem?_set_self (by rw[List.length_set];omega),?_,?_,?_,?_,?_,?_,h.nd,h.off⟩
 ·exact k _ _ (o _ (by simp)) (Ne.symm b2) (Ne.symm c1) h.hw
 ·exact k _ _ (o _ (by simp)) (Ne.symm b5) (Ne.symm c4) h.hp
 ·exact k _ _ (o _ (by simp)) (Ne.symm b3) (Ne.symm c2) h.hq
 ·exact k _ _ (o _ (by simp)) (Ne.symm b4) (Ne.symm c3) h.hv
 ·exact h.sy.keep fun y hy=>k _ _ (o _ (by simp)) (Ne.symm b6) (Ne.symm c5) hy
 ·exact h.hn.imp fun y hy=>k _ _ (o _ (by simp)) (Ne.symm b6) (Ne.symm c5) hy
theorem OnW.seal (h:OnW a p n x t σ)(m:zbD):OnW a p n x { t with M:=t.M++[m] } ((σ.set a.v (.tok 30 (t.M.length+1))).set a.w (.box (twinL a p (t.M++[m])))):=by
 obtain⟨⟨b1,b2,b3,b4,b5,b6⟩,⟨c1,c2,c3,c4,c5⟩,⟨d1,d2,d3,d4⟩,⟨e1,e2,e3⟩,⟨f1,f2⟩,f⟩:=h.ne;have ov:=h.off a.v (by simp);have ow:=h.off a.w (by simp);have k:∀ {j:Nat} {y:AObj},j≠a.v->j≠a.w→σ[j]? = some y->((σ.set a.v (.tok 30 (t.M.length+1))).set a.w (.box (twinL a p (t.M++[m]))))[j]? = some y:=fun h1 h2 hy=>zqZ (zqZ hy h1) h2;refine⟨h.tg.keepO fun j y hj hy=>k (fun e=>hj (e▸ov)) (fun e=>hj (e▸ow)) hy,k (by omega) (by omega) h.hu,k (by omega) (by omega) h.hg,List.getElem?_set_self (by simpa using zY h.hw),k (by omega) (by omega) h.hp,k (by omega) (by omega) h.hq,?_,h.sy.keep fun y hy=>k (by omega) (by omega) hy,h.hn.imp fun y hy=>k (by omega) (by omega) hy,h.nd,h.off⟩;rw[List.getElem?_set_ne (by omega),List.getElem?_set_self (zY h.hv)];simp
theorem c_reply (h:OnW a p n x t σ)(hI:TwI N t)(hN:N<=900000){o:zuO}(hs:zaJ o.m)
  (hK:∀S,OnW a p n x ⟨repL t.L t.G t.d o,repG t.L t.G t.d o,t.d,repS t.L t.G t.d t.M o⟩ S->(∀(j:Nat) (y:AObj),Off a.i j->j≠a.u->j≠a.g->j≠a.w->j≠a.v→σ[j]? = some y->S[j]? = some y)->K (.tup [zge (repT t.L t.G t.d o),.d (.bool true)]) S) :
  zP zjq [.box a.w 0,.agg (zvs o)] σ K:=by
 have hw':∀τ,(σ++τ)[a.w]? = _:=fun τ=>zi h.hw;have hq':∀τ,(σ++τ)[a.q]? = _:=fun τ=>zi h.hq;refine zeP znC.is rfl fun hl _=>znC.goes ?_;by_cases hk:o.key<0
 ·have e1:(⟨repL t.L t.G t.d o,repG t.L t.G t.d o,t.d,repS t.L t.G t.d t.M o⟩:TTw)=t:=by simp only[repL,repG,repS,if_pos hk]
  have e2:repT t.L t.G t.d o=nowM t.d o:=by rw[repT,if_pos hk]
  rw[e1,e2]at hK;have kp:∀τ (j:Nat) (y:AObj),Off a.i j->j≠a.u->j≠a.g->j≠a.w->j≠a.v→σ[j]? = some y->(σ++τ)[j]? = some y:=fun τ j y _ _ _ _ _ hy=>zi hy;obtain⟨od,oo,ok,om,onw⟩:=o;have hd:decide (ok<0)=true:=by simpa using hk
  cases onw;all_goals
   simp only[zju,iN,bT,bF,eN,zl3,zvs]
   refine zm (zd hw' (zd hq' hd)) ?_
   exact zld (hK _ (h.app _) (kp _))
 obtain⟨R,hR⟩:∃R,repX t.L t.G t.d o=R:=⟨_,rfl⟩;have hkr:R.L=repL t.L t.G t.d o:=by rw[repL,if_neg hk,hR]
 have hkg:R.G=repG t.L t.G t.d o:=by rw[repG,if_neg hk,hR]
 obtain⟨P1,hP1⟩:∃P,zhk a.i σ R.L R.G=P:=⟨_,rfl⟩;obtain⟨P2,hP2⟩:∃P,(P1.set a.u (rtO R.L)).set a.g (rlO R.G)=P:=⟨_,rfl⟩;have hW:OnW a p n x ⟨repL t.L t.G t.d o,repG t.L t.G t.d o,t.d,t.M⟩ P2:=by
  have:=h.put hP1;rw[hP2,hkr,hkg]at this;exact this
 have hl1:σ.length=P1.length:=by rw[← hP1,zke]
 have hl2:P1.length=P2.length:=by rw[← hP2];simp
 have hput:∀τ,zhk a.i (σ++τ) R.L R.G=P1++τ:=fun τ=>by rw[h.tg.put_app,hP1]
 have p1u:P1[a.u]? = some (rtO t.L):=by rw[← hP1,TG.other (h.off a.u (by simp))];exact h.hu
 have p1g:P1[a.g]? = some (rlO t.G):=by rw[← hP1,TG.other (h.off a.g (by simp))];exact h.hg
 have p1w:∀τ,(P1++τ)[a.w]? = _:=fun τ=>zi (by rw[← hP1,TG.other (h.off a.w (by simp))];exact h.hw);have hput2:∀τ,((P1++τ).set a.u (rtO R.L)).set a.g (rlO R.G)=P2++τ:=fun τ=>by
  rw[zdk p1u,List.set_append_left _ _ (by simpa using zY p1g),hP2]
 have kp:∀(j:Nat) (y:AObj),Off a.i j->j≠a.u->j≠a.g->j≠a.w->j≠a.v→σ[j]? = some y->P2[j]? = some y:=fun j y ho h1 h2 _ _ hy=>by
  rw[← hP2];exact zqZ (zqZ (by rw[← hP1,TG.other ho];exact hy) h1) h2
 have hug:=h.ne.1.1;have hsm:zaJ R.m:=by rw[← hR];exact zvw (zrJ (zsT hs))
 have hks:zaJ (keyM t.d o):=zrJ (zsT hs);have hGl:=hI.G;have hMl:=hI.M;have hX:zem t.L t.G (keyM t.d o)=R:=hR;have hML:(msgsE t.M).length=t.M.length:=List.length_map ..;have p2w:∀τ,(P2++τ)[a.w]? = _:=fun τ=>zi hW.hw;have p2v:∀τ,(P2++τ)[a.v]? = _:=fun τ=>zi hW.hv;have bad:R.e≠0->∀τ,zxy K (some [zge (nowM t.d o),.d (.bool true)]) (P2++τ):=fun he τ=>by
  have e1:repS t.L t.G t.d t.M o=t.M:=by rw[repS,if_neg hk,hR,if_pos he]
  have e2:repT t.L t.G t.d o=nowM t.d o:=by rw[repT,if_neg hk,hR,if_pos he]
  rw[e1,e2]at hK;exact zld (hK _ (hW.app _) fun j y h1 h2 h3 h4 h5 hy=>zi (kp j y h1 h2 h3 h4 h5 hy))
 have good:R.e=0->∀T:zbD,repT t.L t.G t.d o=T->∀τ,zxy K (some [zge T,.d (.bool true)]) ((P2.set a.v (.tok 30 (t.M.length+1))).set a.w (.box [.box a.i.id 0,.box a.i.id2 0,.box p 0,.box a.u 0,.box a.g 0,.box a.q 0,.own a.v (msgsE t.M++[msgD R.m])])++τ):=fun he T e2 τ=>by
  have eM:msgsE t.M++[msgD R.m]=msgsE (t.M++[R.m]):=by simp
  rw[eM];have e1:repS t.L t.G t.d t.M o=t.M++[R.m]:=by rw[repS,if_neg hk,hR,if_neg (by simpa using he)]
  rw[e1,e2]at hK;exact zld (hK _ ((hW.seal R.m).app _) fun j y h1 h2 h3 h4 h5 hy=>zi (zqZ (zqZ (kp j y h1 h2 h3 h4 h5 hy) h5) h4))
 have hT1:R.e=0->(nowM t.d o).src≥0->repT t.L t.G t.d o={ R.m with src:=(nowM t.d o).src }:=fun he h0=>by rw[repT,if_neg hk,hR,if_neg (by simpa using he),if_pos h0]
 have hT2:R.e=0->¬(nowM t.d o).src≥0->repT t.L t.G t.d o=R.m:=fun he h0=>by rw[repT,if_neg hk,hR,if_neg (by simpa using he),if_neg h0]
 have hvl:=zY hW.hv;have hwl:=zY hW.hw;have s1:∀τ Z,(P2++τ).set a.v Z=P2.set a.v Z++τ:=fun τ Z=>List.set_append_left _ _ hvl;have s2:∀τ Z Y,(P2.set a.v Z++τ).set a.w Y=(P2.set a.v Z).set a.w Y++τ:=fun τ Z Y=>List.set_append_left _ _ (by simpa using hwl);have l1:∀τ Z,(P2.set a.v Z++τ)[a.w]? = _:=fun τ Z=>zi (zqZ hW.hw hW.ne.2.2.1.2.1);have g1:∀Z Y k τ,((P2.set a.v Z).set a.w Y++τ)[P2.length+k]? = τ[k]?:=fun Z Y k τ=>by
  have:=zA ((P2.set a.v Z).set a.w Y) τ k;simpa using this
 have b1:∀Z Y k τ X,((P2.set a.v Z).set a.w Y++τ).set (P2.length+k) X=(P2.set a.v Z).set a.w Y++τ.set k X:=fun Z Y k τ X=>by
  have:=zZ ((P2.set a.v Z).set a.w Y) τ k X;simpa using this
 clear hK;obtain⟨od,oo,ok,om,onw⟩:=o;have hd:decide (ok<0)=false:=by simpa using hk
 cases onw;all_goals
  simp only[zju,iN,bT,bF,eN,zl3,zvs]
  refine zm (zd hw' (zd hq' hd)) ?_
  refine⟨?_,?_⟩
  all_goals
   try refine zm hw' ?_
   refine c_auSealG (m:=keyM t.d _) (h.tg.app _) hI.L (by omega) hks ?_
   rw[hX,hput]
   refine zm (zd p1w (zd hl1 @List.length_set.{0})) ?_
   refine⟨?_,?_⟩
   all_goals
    try refine zm (zd p1w (zd hl1 @List.length_set.{0})) ?_
    refine c_raSealG (m:=keyM t.d _) (zi p1u) (zi p1g) hug hI.L.len (by omega) hks ?_
    rw[hX,hput2]
    refine zkZ (zd p2w (zd hl1 (zd hl2 @List.length_set.{0}))) ?_
    refine c_kSame (a:=R.m) (b:=R.m) hsm hsm ?_
    by_cases he:R.e=0
    ·by_cases h0:om.src≥0
     ·refine gq42 (zd (show(R.e != 0)=false by simpa using he) (zd (show decide (om.src≥0)=true by simpa using h0) (zd p2w (zd p2v (zd s1 (zd s2 (zd l1 (zd g1 (zd b1 (zd hML (zd hl1 (zd hl2 @List.length_set.{0})))))))))))) ?_
      exact good he _ (hT1 he h0) _
     ·refine gq42 (zd (show(R.e != 0)=false by simpa using he) (zd (show decide (om.src≥0)=false by simpa using h0) (zd p2w (zd p2v (zd s1 (zd s2 (zd l1 (zd g1 (zd b1 (zd hML (zd hl1 (zd hl2 @List.length_set.{0})))))))))))) ?_
      exact good he _ (hT2 he h0) _
    ·refine gq42 (zd (show(R.e != 0)=true by simpa using he) (zd hl1 (zd hl2 @List.length_set.{0}))) ?_
     exact bad he _
end
variable {σ:List AObj}
section
variable {σ:List AObj} {K:KT} {a:TPl} {p n N:Nat} {x:AV} {t:TTw}
theorem OnW.lts (h:OnW a p n x t σ):a.u<σ.length/\a.g<σ.length/\a.w<σ.length/\a.q<σ.length/\a.v<σ.length/\p<σ.length/\n<σ.length:=
 ⟨zY h.hu,zY h.hg,zY h.hw,zY h.hq,zY h.hv,zY h.hp,h.hn.elim fun _ hy=>zY hy⟩
def Els (a:TPl) (p n j:Nat):Prop:=Off a.i j/\j≠a.u/\j≠a.g/\j≠a.w/\j≠a.q/\j≠a.v/\j≠p/\j≠n
theorem zzO {i:TGi}{L:List (List UInt8)}{G:List zI}(h:TG i σ L G){j:Nat}(hj:σ.length<=j):Off i j:=by
 have h1:=zY h.tab.box;have h2:=zY h.tab.map;have h3:=zY h.tab.tok;have h4:=zY h.led.box;have h5:=zY h.led.map;have h6:=zY h.led.tok;unfold Off;omega
theorem els_new (h:OnW a p n x t σ){j:Nat}(hj:σ.length<=j):Els a p n j:=by
 obtain⟨h1,h2,h3,h4,h5,h6,h7⟩:=h.lts;exact⟨zzO h.tg hj,by omega,by omega,by omega,by omega,by omega,by omega,by omega⟩
theorem OnW.nd2 (h:OnW a p n x t σ){p' n':Nat}(hp:p'=p∨σ.length<=p')(hn:n'=n∨σ.length<=n')(hnp:n'≠p')(hpn:p'≠n∨n'≠n) :
  [a.u,a.g,a.w,a.q,a.v,p',n'].Nodup/\∀j∈[a.u,a.g,a.w,a.q,a.v,p',n'],Off a.i j:=by
 obtain⟨h1,h2,h3,h4,h5,h6⟩:=h.lts;obtain⟨⟨b1,b2,b3,b4,b5,b6⟩,⟨c1,c2,c3,c4,c5⟩,⟨d1,d2,d3,d4⟩,⟨e1,e2,e3⟩,⟨f1,f2⟩,f⟩:=h.ne;have o:=h.off;have hop:Off a.i p':=by
  rcases hp with rfl|hp
  ·exact o _ (by simp)
  ·exact zzO h.tg hp
 have hon:Off a.i n':=by
  rcases hn with rfl|hn
  ·exact o _ (by simp)
  ·exact zzO h.tg hn
 have hp':∀j,j<σ.length->j≠p->j≠p':=fun j k1 k2 e=>by
  rcases hp with hp|hp
  ·exact k2 (e.trans hp)
  ·omega
 have hn':∀j,j<σ.length->j≠n->j≠n':=fun j k1 k2 e=>by
  rcases hn with hn|hn
  ·exact k2 (e.trans hn)
  ·omega
 refine⟨?_,fun j hj=>?_⟩
 ·simp only[List.nodup_cons,List.mem_cons,List.not_mem_nil,or_false,not_or,not_false_eq_true,List.nodup_nil,and_true];exact⟨⟨b1,b2,b3,b4,hp' _ h1 b5,hn' _ h1 b6⟩,⟨c1,c2,c3,hp' _ h2 c4,hn' _ h2 c5⟩,⟨d1,d2,hp' _ h3 d3,hn' _ h3 d4⟩,⟨e1,hp' _ h4 e2,hn' _ h4 e3⟩,⟨hp' _ h5 f1,hn' _ h5 f2⟩,Ne.symm hnp⟩
 ·simp only[List.mem_cons,List.not_mem_nil,or_false]at hj;rcases hj with rfl|rfl|rfl|rfl|rfl|rfl|rfl
  ·exact o _ (by simp)
  ·exact o _ (by simp)
  ·exact o _ (by simp)
  ·exact o _ (by simp)
  ·exact o _ (by simp)
  ·exact hop
  ·exact hon
end
section
variable {σ:List AObj} {K:KT} {a:TPl} {p n N:Nat} {x:AV} {t:TTw}
theorem askD_two {L:List (List UInt8)}{d:zib}{o:TOp}(ho:okO o):zzb L d o=[]∨∃w,zzb L d o=[outD w]/\okB w/\zgv w:=by
 by_cases he:zwY L d o=0
 ·have hs:(zeT L (zxC d o)).op=o:=by
   refine sealS_opX ?_;unfold zwY at he;split at he
   ·cases he
   ·split at he
    ·rename_i hh;exact absurd he hh
    ·exact he
  refine .inr ⟨[zeT L (zxC d o)],by rw[zzb,if_neg (by simpa using he)],⟨by simp,fun s hm=>?_⟩,⟨by simp,fun s hm=>?_⟩⟩
  ·simp only[List.mem_singleton]at hm;subst hm;rw[hs];exact ho
  ·simp only[List.mem_singleton]at hm;subst hm;rw[hs];exact⟨ho.2.2.1,ho.2.2.2⟩
 ·exact .inl (by rw[zzb,if_pos he])
theorem tickO_two {d:zib}(ho:okO d.s.op):zog d=[]∨∃w,zog d=[outD w]/\okB w/\zgv w:=by
 unfold zog;split
 ·refine .inr ⟨[d.s],rfl,⟨by simp,fun s hm=>?_⟩,⟨by simp,fun s hm=>?_⟩⟩
  ·simp only[List.mem_singleton]at hm;subst hm;exact ho
  ·simp only[List.mem_singleton]at hm;subst hm;exact⟨ho.2.2.1,ho.2.2.2⟩
 ·exact .inl rfl
theorem OnW.other {p':Nat}(h:OnW a p n x t σ){S:List AObj}{x':AV}{n':Nat}(kp:∀(j:Nat) (y:AObj),j≠p->j≠n→σ[j]? = some y->S[j]? = some y)(hp:S[p']? = some (.box (zmm t.d a.i.id a.i.id2 x')))(hs:SyAt S t.d x' n')(hnn:∃y,S[n']? = some y)
  (hnd:[a.u,a.g,a.w,a.q,a.v,p',n'].Nodup) (hoff:∀j∈[a.u,a.g,a.w,a.q,a.v,p',n'],Off a.i j):OnW a p' n' x' t (S.set a.w (.box (twinL a p' t.M))):=by
 obtain⟨⟨b1,b2,b3,b4,b5,b6⟩,⟨c1,c2,c3,c4,c5⟩,⟨d1,d2,d3,d4⟩,⟨e1,e2,e3⟩,⟨f1,f2⟩,f⟩:=h.ne;have ow:=h.off a.w (by simp);have op:=h.off p (by simp);have on:=h.off n (by simp);have hw:a.w≠p'∧a.w≠n':=by
  simp only[List.nodup_cons,List.mem_cons,not_or]at hnd;exact⟨hnd.2.2.1.2.2.1,hnd.2.2.1.2.2.2.1⟩
 exact⟨h.tg.keepO fun j y hj hy=>zqZ (kp _ _ (fun e=>hj (e▸op)) (fun e=>hj (e▸on)) hy) (fun e=>hj (e▸ow)),zqZ (kp _ _ b5 b6 h.hu) b2,zqZ (kp _ _ c4 c5 h.hg) c1,List.getElem?_set_self (zY (kp _ _ d3 d4 h.hw)),zqZ hp (Ne.symm hw.1),zqZ (kp _ _ e2 e3 h.hq) (Ne.symm d1),zqZ (kp _ _ f1 f2 h.hv) (Ne.symm d2),hs.keep fun y hy=>zqZ hy (Ne.symm hw.2),hnn.imp fun y hy=>zqZ hy (Ne.symm hw.2),hnd,hoff⟩
end
end Go.Proofs.YtdgcepphjnoalaaGreat

/- Contracts: a client that is begun. -/
import Derived.Test.YtdgcepphjnoalaaGreatMk1
import Derived.Test.YtdgcepphjnoalaaGreatSpTab
import Derived.Test.YtdgcepphjnoalaaGreatBase
import Derived.Test.YtdgcepphjnoalaaGreatAwLoop
set_option linter.all false
set_option maxRecDepth 100000
namespace Go.Proofs.YtdgcepphjnoalaaGreat
open Go.AW
variable {σ:List AObj} {L:List (List UInt8)} {G:List zK}
def bOp:TOp:=⟨1,[116],[],0,[]⟩
def bX:zr:=⟨2,0+1,bOp,0,0⟩
def bL1:List (List UInt8):=zna [] bX
def bG1:List zK:=znZ [] [] bX
def bS:zr:=zfc [] bX
def bR1:zyk:=zdu bL1 bG1 (repM 0 3)
def bR2:zyk:=zdu bR1.L bR1.G (repM 1 4)
def bR3:zyk:=zdu bR2.L bR2.G (repM 0 3)
def bR4:zyk:=zdu bR3.L bR3.G (repM 2 3)
theorem b_ok:zjN [] bX=0:=by decide +kernel
theorem b_op:zaM zdY bOp=0:=by decide +kernel
theorem b_e1:bR1.e=0:=by decide +kernel
theorem b_e2:bR2.e=0:=by decide +kernel
theorem b_e3:bR3.e=0:=by decide +kernel
theorem b_e4:bR4.e=0:=by decide +kernel
theorem b_v1:zfa bR1.L bR1.G bR1.m=true:=by decide +kernel
theorem b_v2:zfa bR2.L bR2.G bR2.m=true:=by decide +kernel
theorem b_v3:zfa bR3.L bR3.G bR3.m=true:=by decide +kernel
theorem b_v4:zfa bR4.L bR4.G bR4.m=true:=by decide +kernel
theorem b_t0:zmI bL1:=⟨by decide +kernel,by decide +kernel,by decide +kernel⟩
theorem b_t1:zmI bR1.L:=⟨by decide +kernel,by decide +kernel,by decide +kernel⟩
theorem b_t2:zmI bR2.L:=⟨by decide +kernel,by decide +kernel,by decide +kernel⟩
theorem b_t3:zmI bR3.L:=⟨by decide +kernel,by decide +kernel,by decide +kernel⟩
theorem b_t4:zmI bR4.L:=⟨by decide +kernel,by decide +kernel,by decide +kernel⟩
theorem b_g0:bG1.length<=1000000:=by decide +kernel
theorem b_g1:bR1.G.length<=1000000:=by decide +kernel
theorem b_g2:bR2.G.length<=1000000:=by decide +kernel
theorem b_g3:bR3.G.length<=1000000:=by decide +kernel
theorem b_g4:bR4.G.length<=1000000:=by decide +kernel
theorem b_o:okO bOp:=⟨by decide,by decide,by decide,by simp[bOp]⟩
theorem b_so:bS.op=bOp:=by decide +kernel
def y1:List (Int × Int × Int):=zhr [] 0 0 3
def y2:List (Int × Int × Int):=zhr y1 1 0 4
def y3:List (Int × Int × Int):=zhr y2 0 0 3
theorem bn1:(zpW (zhr [] 0 0 3) 0 3:Int)<2:=by decide
theorem bn2:(zpW (zhr y1 1 0 4) 0 4:Int)<2:=by decide
theorem bn3:(zpW (zhr y2 0 0 3) 0 3:Int)<2:=by decide
theorem bn4:¬(zpW (zhr y3 2 0 3) 0 3:Int)<2:=by decide
theorem take_keep {σ S:List AObj}(h:∀(j:Nat) (y:AObj),σ[j]? = some y->S[j]? = some y):S.take σ.length=σ:=by
 apply List.ext_getElem?;intro j;rw[List.getElem?_take];split
 ·rename_i hj;rw[h j _ (List.getElem?_eq_getElem hj),List.getElem?_eq_getElem hj]
 ·rw[List.getElem?_eq_none (by omega)]
theorem TG.keep {i:TGi}{σ S:List AObj}(h:TG i σ L G)(hk:∀(j:Nat) (y:AObj),σ[j]? = some y->S[j]? = some y):TG i S L G:=
 ⟨⟨hk _ _ h.tab.box,hk _ _ h.tab.map,hk _ _ h.tab.tok⟩,⟨hk _ _ h.led.box,hk _ _ h.led.map,hk _ _ h.led.tok⟩,h.n1,h.n2⟩
theorem gq43 {A P Q:Prop}(a:A)(h:Q)(e:A->Hd Q->P:=by intro a h;(repeat' first|simp -dsimp only[↓zlC,↓zbR,↓zeb,↓zlD,↓zlu,↓zls,↓zlv,↓zlt,↓zeg,↓zec,↓zeh,↓zed,↓zlw,↓zdX,↓zei,↓zee,↓zej,↓zef,↓zlq,↓zlA,↓zdW,↓zem,↓zli,↓zlh,↓zln,iN,bT,bF,eN,↓zev,↓unC,↓zaC,↓zai,↓zaj,↓zav,↓zaW,↓zah,↓zgy,↓zaw,↓zbd,↓zad,↓ze,↓zl,↓zbg,↓zc,↓zaV,↓zN,↓zbS,↓zcl,↓zf,↓zF,↓zp,↓zM,↓zaB,↓zgF,↓zhG,↓zbc,↓zbz,↓zcf,↓zcz,↓zdj,↓zJ,↓zbb,↓zak,↓zO,↓zaU,zho,zdP,zdy,unA,zgu,bnd,ziP,zaO,zL,zhY,dm,dm1,zH,zaJ,zjT,zjS,keepO,Q0,Q1,Q2,Q3,Q4,Q5,zba,zA,zB,zX,zaa,Q6,Q7,Q8,Q9,Q10,Q11,Q12,Q13,Q14,Nat.reduceAdd,Q15,Int.reduceToNat,Q16,Q17,Q18,Q19,Q20,reduceIte,Q21,Q22,zy,rep,zaq,zhV,toD,zaD,Q23,Q24,Q25,Q26,Q27,Q28,Nat.reduceLeDiff,Q29,Nat.reduceSub,Q30,Q31,Q32,sc,Q33,Q34,Q35,Q36,Q37,Q26,Q38,Q39,zuP,zuM,zuJ,zuQ,zjr,zuN,zuK,zuO,zuL,zjq,zjs,zuS,zuT,Bool.not_true,Bool.not_false,List.length_map,Bool.and_false,Bool.and_self,Bool.false_and,Bool.not_false,Bool.not_true,Bool.true_and,Int.toNat_natCast,Int.toNat_zero,List.drop_zero,List.length_map,List.length_nil,List.nil_append,List.take_length,Nat.sub_zero,Nat.zero_add,Option.isSome_none,Option.isSome_some,Option.map_none,Option.map_some,ansD,zam,beq_self_eq_true,bft,bne_self_eq_false,btf,bytesE,zcj,zhL,zag,zdd,zsi,zce,zow,opA,opD,outD,zfy,zgo,zki,zay,a]|with_reducible refine zvh ?_|fail);exact h.go):P:=e a ⟨h⟩
theorem c_begun24 {K:KT}(hK:K (.d (.bool true)) σ):zP zrd [] σ K:=by
 refine acE0 e_l24_begun fun hl=>?_;simp only[zxy,iN,bT,bF,eN,zl1,zl2];refine zG ?_;refine ztP ?_;refine zG ?_;refine zny ?_;refine zG ?_;obtain⟨i,hi⟩:∃i:TGi,(⟨σ.length+1,σ.length,σ.length+2,σ.length+4,σ.length+3,σ.length+5⟩:TGi)=i:=⟨_,rfl⟩;have i1:σ.length+1=i.id:=by rw[← hi]
 have i2:σ.length+4=i.id2:=by rw[← hi]
 obtain⟨S0,hS0⟩:∃S0,σ++[AObj.map (tabM []),AObj.box [AV.own (σ.length+2) [],AV.map σ.length],AObj.tok 1 0,AObj.map (zxG []),AObj.box [AV.own (σ.length+5) [],AV.map (σ.length+3)],AObj.tok 2 0,AObj.box [AV.box (σ.length+1) 0],AObj.box [AV.box (σ.length+4) 0]]=S0:=⟨_,rfl⟩;have hT0:TG i S0 [] []:=by
  rw[← hS0,← hi];exact⟨⟨by rw[zA];rfl,by rw[zB];rfl,by rw[zA];rfl⟩,⟨by rw[zA];rfl,by rw[zA];rfl,by rw[zA];rfl⟩,by simp,by simp⟩
 have c0:S0[σ.length+6]? = some (.box [.box i.id 0]):=by rw[← hS0,zA,← i1];rfl
 have d0:S0[σ.length+7]? = some (.box [.box i.id2 0]):=by rw[← hS0,zA,← i2];rfl
 have l0:S0.length=σ.length+8:=by rw[← hS0];simp
 have p0:∀(j:Nat) (y:AObj),σ[j]? = some y->S0[j]? = some y:=fun j y hy=>by rw[← hS0];exact zi hy
 have out:∀j,j<σ.length∨σ.length+6<=j->(j≠i.id/\j≠i.m/\j≠i.t/\j≠i.id2/\j≠i.m2/\j≠i.t2):=fun j hj=>by rw[← hi];simp only;omega
 rw[hS0,i1,i2];refine c_pNew (f:=1) (cl:=2) hT0 zmI.nil (by simp) rfl (by omega) (by omega) fun S1 q hq1 hq2 o1=>?_;have hT1:=hT0.keep o1;have ql:=zZ hq2;refine zm (zd hq2 (show((0:Int) != 0)=false from rfl)) ?_;obtain⟨m,hm⟩:∃m,S1.length=m:=⟨_,rfl⟩;obtain⟨S2,hS2⟩:∃S2,S1++[AObj.box [.box q 0]]=S2:=⟨_,rfl⟩;have o2:∀(j:Nat) (y:AObj),S1[j]? = some y->S2[j]? = some y:=fun j y hy=>by rw[← hS2];exact zi hy
 have m2:S2[m]? = some (.box [.box q 0]):=by rw[← hS2,← hm,zB];rfl
 have l2:S2.length=m+1:=by rw[← hS2,← hm];simp
 rw[hS2,hm];refine c_pAsk (o:=bOp) (time:=0) (hT1.keep o2) zmI.nil (by simp) (o2 _ _ hq2) (out q (by omega)) (by decide) b_o b_op (by omega) b_ok fun S3 n q3 n3 T3 nq nl o3=>?_;have hbS:zfc [] bX=bS:=rfl;have q3':S3[q]? = some (.box (znc 1 2 i.id i.id2 1 [bS] (.map n) 0 [] 0)):=q3;have T3':TG i S3 bL1 bG1:=T3;have kc:∀(S:List AObj),(∀(j:Nat) (y:AObj),j≠q->j≠n->(j≠i.id/\j≠i.m/\j≠i.t/\j≠i.id2/\j≠i.m2/\j≠i.t2)->S3[j]? = some y->S[j]? = some y) →
   S[σ.length+6]? = some (.box [.box i.id 0])/\S[σ.length+7]? = some (.box [.box i.id2 0])/\S[m]? = some (.box [.box q 0])/\∀(j:Nat) (y:AObj),σ[j]? = some y->S[j]? = some y:=fun S hk=>by
  have g:∀(j:Nat) (y:AObj),j≠q->j≠n->(j≠i.id/\j≠i.m/\j≠i.t/\j≠i.id2/\j≠i.m2/\j≠i.t2)->S2[j]? = some y->S[j]? = some y:=fun j y h1 h2 h3 hy=>
   hk j y h1 h2 h3 (o3 j y h1 h3.1 h3.2.1 h3.2.2.1 h3.2.2.2.1 h3.2.2.2.2.1 h3.2.2.2.2.2 hy)
  exact⟨g _ _ (by omega) (by omega) (out _ (by omega)) (o2 _ _ (o1 _ _ c0)),g _ _ (by omega) (by omega) (out _ (by omega)) (o2 _ _ (o1 _ _ d0)),g _ _ (by omega) (by omega) (out _ (by omega)) m2,
   fun j y hy=>g _ _ (by have:=zZ hy;omega) (by have:=zZ hy;omega) (out _ (by have:=zZ hy;omega)) (o2 _ _ (o1 _ _ (p0 _ _ hy)))⟩
 have oc:=out (σ.length+6) (by omega);have od:=out (σ.length+7) (by omega);have om:=out m (by omega);have oq:=out q (by omega);have on:=out n (by omega);have hr1:(outD [bS]).length=31:=rfl;obtain⟨a1,a2,a3,_⟩:=kc S3 fun _ _ _ _ _ h=>h;refine gq43 (zd (show((0:Int) != 0)=false from rfl) (zd (show(((1:Nat):Int) != 1)=false from rfl) (zd (show((1:Int) != 1)=false from rfl) (zd (show((-1:Int) != -1)=false from rfl) (zd (show(false==false)=true from rfl) @List.length_cons.{0}))))) ?_;refine c_b1 (i:=i) (sy:=[]) (a:=0) (n:=3) T3' b_t0 b_g0 a1 a2 a3 q3' n3 (by simp) (by omega) (by omega) oc od om oq on b_e1 b_t1 b_g1 b_v1 (fun _ S4 T4 q4 n4' k4=>?_) fun hn=>absurd bn1 hn;obtain⟨a1,a2,a3,_⟩:=kc S4 k4;refine zlr (zd (show((0:Int) != 0)=false from rfl) (zd (show(((1:Nat):Int) != 1)=false from rfl) (zd (show((1:Int) != 1)=false from rfl) (zd (show((-1:Int) != -1)=false from rfl) (zd (show(false==false)=true from rfl) @List.length_cons.{0}))))) ?_;have kt:∀(S S':List AObj),(∀(j:Nat) (y:AObj),j≠q->j≠n->(j≠i.id/\j≠i.m/\j≠i.t/\j≠i.id2/\j≠i.m2/\j≠i.t2)->S3[j]? = some y->S[j]? = some y)->(∀(j:Nat) (y:AObj),j≠q->j≠n->(j≠i.id/\j≠i.m/\j≠i.t/\j≠i.id2/\j≠i.m2/\j≠i.t2)->S[j]? = some y->S'[j]? = some y) →
   (∀(j:Nat) (y:AObj),j≠q->j≠n->(j≠i.id/\j≠i.m/\j≠i.t/\j≠i.id2/\j≠i.m2/\j≠i.t2)->S3[j]? = some y->S'[j]? = some y):=fun S S' h1 h2 j y b1 b2 b3 hy=>h2 j y b1 b2 b3 (h1 j y b1 b2 b3 hy)
 refine c_b1 (i:=i) (sy:=y1) (a:=1) (n:=4) T4 b_t1 b_g1 a1 a2 a3 q4 n4' (by decide) (by omega) (by omega) oc od om oq on b_e2 b_t2 b_g2 b_v2 (fun _ S5 T5 q5 n5' k5=>?_) fun hn=>absurd bn2 hn;have k5:=kt _ _ k4 k5;obtain⟨a1,a2,a3,_⟩:=kc S5 k5;refine zlr (zd (show((0:Int) != 0)=false from rfl) (zd (show(((1:Nat):Int) != 1)=false from rfl) (zd (show((1:Int) != 1)=false from rfl) (zd (show((-1:Int) != -1)=false from rfl) (zd (show(false==false)=true from rfl) (zd (show(true==true)=true from rfl) @List.length_cons.{0})))))) ?_;refine c_b1 (i:=i) (sy:=y2) (a:=0) (n:=3) T5 b_t2 b_g2 a1 a2 a3 q5 n5' (by decide) (by omega) (by omega) oc od om oq on b_e3 b_t3 b_g3 b_v3 (fun _ S6 T6 q6 n6' k6=>?_) fun hn=>absurd bn3 hn;have k6:=kt _ _ k5 k6;obtain⟨a1,a2,a3,_⟩:=kc S6 k6;refine zlr (zd (show((0:Int) != 0)=false from rfl) (zd (show(((1:Nat):Int) != 1)=false from rfl) (zd (show((1:Int) != 1)=false from rfl) (zd (show((-1:Int) != -1)=false from rfl) (zd (show(false==false)=true from rfl) (zd (show(true==true)=true from rfl) @List.length_cons.{0})))))) ?_;refine c_b1 (i:=i) (sy:=y3) (a:=2) (n:=3) T6 b_t3 b_g3 a1 a2 a3 q6 n6' (by decide) (by omega) (by omega) oc od om oq on b_e4 b_t4 b_g4 b_v4 (fun hn=>absurd hn bn4) fun _ S7 q7 k7=>?_;have k7:=kt _ _ k6 k7;obtain⟨a1,a2,a3,a4⟩:=kc S7 k7;refine zlr (zd (show((0:Int) != 0)=false from rfl) (zd (show(((1:Nat):Int) != 1)=false from rfl) (zd (show((1:Int) != 1)=false from rfl) (zd (show((-1:Int) != -1)=false from rfl) (zd (show(false==false)=true from rfl) (zd (show(true==true)=true from rfl) (zd @List.length_cons.{0} a3))))))) ?_
 refine c_pLast (s:=bS) q7 (by rw[b_so];decide) (by rw[b_so];simp[bOp]) ?_;have a3':∀τ,(S7++τ)[m]? = some (.box [.box q 0]):=fun τ=>zi a3;have q7':∀τ,(S7++τ)[q]? = _:=fun τ=>zi q7;refine zm (zd (show(true==true)=true from rfl) (zd (show((3:Int)==3)=true from rfl) (zd (show((1:Int)==1)=true from rfl) (zd (show((0+1:Int))=1 from rfl) a3')))) ?_;refine c_pMany (q7' _) ?_;refine zm (zd (show(true==true)=true from rfl) (zd (show((3:Int)==3)=true from rfl) (zd (show((1:Int)==1)=true from rfl) (zd (show((0+1:Int))=1 from rfl) a3')))) ?_;refine c_pTime (q7' _) ?_;refine zm (zd (show(true==true)=true from rfl) (zd (show((3:Int)==3)=true from rfl) (zd (show((1:Int)==1)=true from rfl) (zd (show((0+1:Int))=1 from rfl) a3')))) ?_;exact ztB (take_keep fun j y hy=>zi (a4 j y hy)) (by simp[zgQ,dmT,dm,dm1,zck]) hl hK
variable {σ:List AObj} {L:List (List UInt8)} {G:List zK}
theorem zvE {m:zbj}{s:zK}(h:zaK m):zaK (ziK m s):=by
 unfold ziK;split
 ·split
  ·rename_i c l hc;obtain⟨h1,h2,h3,h4,h5,h6,h7,h8,h9,h10⟩:=h;refine⟨h1,h2,h3,by simp,fun y hy=>?_,h6,h7,h8,h9,h10⟩;simp only[List.mem_singleton]at hy;subst hy;obtain⟨⟨a1,a2,a3⟩,⟨b1,b2,b3⟩⟩:=h5 c (by rw[hc];simp);exact⟨⟨a1,a2,a3⟩,⟨b1,b2,b3⟩⟩
  ·exact h
 ·exact zvD h
theorem zqW:zaK zeq:=by
 refine⟨⟨by simp[zeq],by simp[zeq]⟩,⟨by simp[zeq],by simp[zeq]⟩,by simp[zeq,zCert],by simp[zeq],by simp[zeq],by simp[zeq],by simp[zeq],?_,by simp[zeq],by simp[zeq]⟩;have:=(zta 0 0).proof;exact this
theorem zvQ {m:zbj}(h:zaK m):zaK (zdu L G m).m:=by
 unfold zdu;split
 ·exact zqW
 ·split
  ·exact zvE h
  ·split
   ·exact zqW
   ·exact zvE h
theorem sealX_tab {m:zbj}(h:zmI L):zmI (zdu L G m).L:=by
 unfold zdu;split
 ·exact h
 ·rename_i h1;split
  ·exact h
  ·split<;>exact h.sum (zwO (by simpa using h1))
theorem sealX_led (L:List (List UInt8))(G:List zK)(m:zbj):(zdu L G m).G.length<=G.length+1:=by
 unfold zdu;split
 ·simp
 ·split
  ·simp
  ·split<;>exact sgnG_len _ _ _ _
def nowM (d:zhU) (o:zsT):zbj:=if o.now=true then{ o.m with kind:=5,client:=d.cl,time:=d.time }else o.m
def keyM (d:zhU) (o:zsT):zbj:={ nowM d o with src:=o.key }
def repX (L:List (List UInt8)) (G:List zK) (d:zhU) (o:zsT):zyk:=zdu L G (keyM d o)
def repL (L:List (List UInt8)) (G:List zK) (d:zhU) (o:zsT):List (List UInt8):=if o.key<0 then L else(repX L G d o).L
def repG (L:List (List UInt8)) (G:List zK) (d:zhU) (o:zsT):List zK:=if o.key<0 then G else(repX L G d o).G
def repT (L:List (List UInt8)) (G:List zK) (d:zhU) (o:zsT):zbj:=
 if o.key<0 then nowM d o else if (repX L G d o).e≠0 then nowM d o else if (nowM d o).src≥0 then{ (repX L G d o).m with src:=(nowM d o).src }else(repX L G d o).m
def repS (L:List (List UInt8)) (G:List zK) (d:zhU) (M:List zbj) (o:zsT):List zbj:=if o.key<0 then M else if (repX L G d o).e≠0 then M else M++[(repX L G d o).m]
theorem ztd {d:zhU}{o:zsT}(h:zaK o.m):zaK (nowM d o):=by
 unfold nowM;split
 ·obtain⟨h1,h2,h3,h4,h5,h6,h7,h8,h9,h10⟩:=h;exact⟨h1,h2,h3,h4,h5,h6,h7,h8,h9,h10⟩
 ·exact h
theorem zrP {m:zbj}{k:Int}(h:zaK m):zaK { m with src:=k }:=by
 obtain⟨h1,h2,h3,h4,h5,h6,h7,h8,h9,h10⟩:=h;exact⟨h1,h2,h3,h4,h5,h6,h7,h8,h9,h10⟩
theorem repT_small {d:zhU}{o:zsT}(h:zaK o.m):zaK (repT L G d o):=by
 have h1:=ztd (d:=d) h;have h2:zaK (repX L G d o).m:=zvQ (zrP h1);unfold repT;split
 ·exact h1
 ·split
  ·exact h1
  ·split
   ·exact zrP h2
   ·exact h2
structure TTw where
 L:List (List UInt8)
 G:List zK
 d:zhU
 M:List zbj
def zmg (t:TTw) (o:zsT):TTw:=
 if o.do_=0 then⟨zxH t.L t.d o.op,zxI t.L t.G t.d o.op,zqj t.L t.d o.op,t.M⟩
 else if o.do_=1 then⟨repL t.L t.G t.d o,repG t.L t.G t.d o,takeP (repL t.L t.G t.d o) (repG t.L t.G t.d o) t.d (repT t.L t.G t.d o),repS t.L t.G t.d t.M o⟩
 else if o.do_=2 then{ t with d:=zfX t.d }
 else t
structure SopI (o:zsT):Prop where
 ok:okO o.op
 sz:zmW o.op<=20971520
 small:zaK o.m
structure TwI (N:Nat) (t:TTw):Prop where
 d:PubI N t.d
 ok:okO t.d.s.op
 says:∃sy,SayI sy t.d.says
 L:zmI t.L
 G:t.G.length<=N
 M:t.M.length<=N
theorem PubI.mono {N N':Nat}{d:zhU}(h:PubI N d)(hn:N<=N'):PubI N' d:=
 ⟨h.f,by have:=h.time;omega,by have:=h.ticks;omega,by have:=h.many;omega,h.z,h.so,h.lo⟩
theorem TwI.mono {N N':Nat}{t:TTw}(h:TwI N t)(hn:N<=N'):TwI N' t:=⟨h.d.mono hn,h.ok,h.says,h.L,Nat.le_trans h.G hn,Nat.le_trans h.M hn⟩
theorem sealS_opX {x:zr}(h:zjN L x=0):(zfc L x).op=x.op:=by rw[zfc,if_pos h]
theorem TwI.ask {N:Nat}{t:TTw}{o:TOp}(h:TwI N t)(ho:okO o)(hos:zmW o<=20971520):TwI (N+1) ⟨zxH t.L t.d o,zxI t.L t.G t.d o,zqj t.L t.d o,t.M⟩:=by
 have hG:=h.G;have hM:=h.M;have hd:=h.d;have h1:zmI (zxH t.L t.d o):=by
  unfold zxH;split
  ·exact h.L
  ·split
   ·exact h.L
   ·exact h.L.seal hos
 have h2:(zxI t.L t.G t.d o).length<=N+1:=by
  unfold zxI;split
  ·omega
  ·split
   ·omega
   ·unfold znZ;split
    ·omega
    ·exact Nat.le_trans (signG_len _ _ _) (by omega)
 by_cases he:zxJ t.L t.d o=0
 ·have e:zqj t.L t.d o={ t.d with time:=t.d.time+1,waits:=true,s:=zfc t.L (zyh t.d o),says:=[],ticks:=0 }:=by rw[zqj,if_neg (by simpa using he)]
  have hs:(zfc t.L (zyh t.d o)).op=o:=by
   refine sealS_opX ?_;unfold zxJ at he;split at he
   ·cases he
   ·split at he
    ·rename_i hh;exact absurd he hh
    ·exact he
  have t1:=hd.time;have t2:=hd.many;refine⟨?_,?_,?_,h1,h2,by simp only;omega⟩
  ·simp only[e];exact⟨hd.f,by simp only;omega,by simp only;omega,by simp only;omega,hd.z,by simp only[hs];exact⟨ho.2.2.1,ho.2.2.2⟩,hd.lo⟩
  ·simp only[e,hs];exact ho
  ·simp only[e];exact⟨[],.nil⟩
 ·have e:zqj t.L t.d o=t.d:=by rw[zqj,if_pos he]
  refine⟨?_,?_,?_,h1,h2,by simp only;omega⟩
  ·simp only[e];exact hd.mono (by omega)
  ·simp only[e];exact h.ok
  ·simp only[e];exact h.says
theorem take_I {N:Nat}{d:zhU}{m:zbj}(h:PubI N d)(hs:∃sy,SayI sy d.says):PubI (N+1) (takeP L G d m)/\(takeP L G d m).s=d.s/\∃sy,SayI sy (takeP L G d m).says:=by
 have t1:=h.time;have t2:=h.many;have t3:=h.ticks;by_cases ho:zhc L G d m=true;rotate_left
 ·have e:takeP L G d m=d:=by rw[takeP,if_neg ho]
  rw[e];exact⟨h.mono (by omega),rfl,hs⟩
 have hc:=ho;simp only[zhc,Bool.and_eq_true,decide_eq_true_eq]at hc;obtain⟨_,c1,c2,c3,c4,c5⟩:=hc;have hsrc:0<=m.src/\m.src<=12:=by
  simp only[zfa,Bool.and_eq_true,decide_eq_true_eq]at c4;exact(zur c1 c4.1).src
 obtain⟨sy,hsy⟩:=hs;have hs2:=hsy.put (a:=m.rerr) (b:=m.roff) hsrc;by_cases hB:zsZ d m=true
 ·have e:takeP L G d m={ d with says:=sayD d.says m.src m.rerr m.roff,waits:=false,ls:=d.s,la:=m.rerr,lo:=m.roff,many:=d.many+1 }:=by rw[takeP,if_pos ho,if_pos hB]
  rw[e];exact⟨⟨h.f,by simp only;omega,by simp only;omega,by simp only;omega,fun hz=>by simp only at hz;omega,h.so,h.so⟩,rfl,_,hs2⟩
 ·have e:takeP L G d m={ d with says:=sayD d.says m.src m.rerr m.roff }:=by rw[takeP,if_pos ho,if_neg hB]
  rw[e];exact⟨⟨h.f,by simp only;omega,by simp only;omega,by simp only;omega,h.z,h.so,h.lo⟩,rfl,_,hs2⟩
theorem tick_I {N:Nat}{d:zhU}(h:PubI N d):PubI (N+1) (zfX d):=by
 have t1:=h.time;have t2:=h.many;have t3:=h.ticks;exact⟨h.f,by simp only[zfX];omega,by simp only[zfX];omega,by simp only[zfX];omega,h.z,h.so,h.lo⟩
theorem repL_I {N:Nat}{t:TTw}{o:zsT}(h:TwI N t):zmI (repL t.L t.G t.d o)/\(repG t.L t.G t.d o).length<=N+1/\(repS t.L t.G t.d t.M o).length<=N+1:=by
 have hG:=h.G;have hM:=h.M;refine⟨?_,?_,?_⟩
 ·unfold repL;split
  ·exact h.L
  ·exact sealX_tab h.L
 ·unfold repG;split
  ·omega
  ·exact Nat.le_trans (sealX_led _ _ _) (by omega)
 ·unfold repS;split
  ·omega
  ·split
   ·omega
   ·simp;omega
theorem TwI.does {N:Nat}{t:TTw}{o:zsT}(h:TwI N t)(ho:SopI o):TwI (N+1) (zmg t o):=by
 unfold zmg;split
 ·exact h.ask ho.ok ho.sz
 ·split
  ·obtain⟨r1,r2,r3⟩:=repL_I (o:=o) h;obtain⟨t1,t2,t3⟩:=take_I (L:=repL t.L t.G t.d o) (G:=repG t.L t.G t.d o) (m:=repT t.L t.G t.d o) h.d h.says;exact⟨t1,by simp only[t2];exact h.ok,t3,r1,r2,r3⟩
  ·split
   ·have:=tick_I h.d;exact⟨this,h.ok,h.says,h.L,by have:=h.G;simp only;omega,by have:=h.M;simp only;omega⟩
   ·exact h.mono (by omega)
variable {σ:List AObj} {L:List (List UInt8)} {G:List zK}
theorem zys {w:List zr}(h:okB w)(h2:zgx w):zaK (reqM w):=by
 obtain⟨h1,_,h3,h4,h5,h6,h7,h8,h9,h10⟩:=zqW;exact⟨h,h2,h3,h4,h5,h6,h7,h8,h9,h10⟩
theorem gq44 {A P Q:Prop}(a:A)(h:Q)(e:A->Hd Q->P:=by intro a h;(repeat' first|simp -dsimp only[↓zlC,↓zbR,↓zeb,↓zlD,↓zlu,↓zls,↓zlv,↓zlt,↓zeg,↓zec,↓zeh,↓zed,↓zlw,↓zdX,↓zei,↓zee,↓zej,↓zef,↓zlq,↓zlA,↓zdW,↓zem,↓zli,↓zlh,↓zln,iN,bT,bF,eN,↓zev,↓unC,↓zaC,↓zai,↓zaj,↓zav,↓zaW,↓zah,↓zgy,↓zaw,↓zbd,↓zad,↓ze,↓zl,↓zbg,↓zc,↓zaV,↓zN,↓zbS,↓zcl,↓zf,↓zF,↓zp,↓zM,↓zaB,↓zgF,↓zhG,↓zbc,↓zbz,↓zcf,↓zcz,↓zdj,↓zJ,↓zbb,↓zak,↓zO,↓zaU,zho,zdP,zdy,unA,zgu,bnd,ziP,zaO,zL,zhY,dm,dm1,zH,zaJ,zjT,zjS,keepO,Q0,Q1,Q2,Q3,Q4,Q5,zba,zA,zB,zX,zaa,Q6,Q7,Q8,Q9,Q10,Q11,Q12,Q13,Q14,Nat.reduceAdd,Q15,Int.reduceToNat,Q16,Q17,Q18,Q19,Q20,reduceIte,Q21,Q22,zy,rep,zaq,zhV,toD,zaD,Q23,Q24,Q25,Q26,Q27,Q28,Nat.reduceLeDiff,Q29,Nat.reduceSub,Q30,Q31,Q32,sc,Q33,Q34,Q35,Q36,Q37,Q26,Q38,Q39,zuP,zuM,zuJ,zuQ,zjr,zuN,zuK,zuO,zuL,zjq,zjs,zuS,zuT,Bool.not_true,Bool.not_false,List.length_map,decide_true,a]|with_reducible refine zvh ?_|fail);exact h.go):P:=e a ⟨h⟩
theorem c_outs {l:List (List D)}(hl0:l=[]∨∃w,l=[outD w]/\okB w/\zgx w){K:KT}(hK:K (.d (.bool true)) σ):zP zpG [.d (.slice l),.d (.slice l)] σ K:=by
 refine zen e_l24_outs fun hl=>?_;simp only[zzH,iN,bT,bF,eN];rcases hl0 with rfl|⟨w,rfl,h1,h2⟩
 ·refine gq28 ?_;refine zn 0 (fun k vs S=>vs=[.d (.int .i64 0)]/\S=σ) ⟨rfl,rfl⟩ ?_;rintro k vs S hk ⟨rfl,rfl⟩;refine zm (show decide ((0:Int)<0)=false from rfl) ?_;refine zu hl ?_;exact hK
 ·refine zlr @List.length_cons.{0} ?_;refine zn 1 (fun k vs S=>vs=[.d (.int .i64 k)]/\S=σ) ⟨rfl,rfl⟩ ?_;rintro k vs S hk ⟨rfl,rfl⟩;match k,hk with
  | 0,_=>
   refine gq42 (zd (show decide ((0:Int)<1)=true from rfl) (zd (show decide (((0:Nat):Int)<((1:Nat):Int))=true from rfl) (zd @List.getElem?_cons_zero.{0} @List.length_cons.{0}))) ?_
   refine c_kSame (a:=reqM w) (b:=reqM w) (zys h1 h2) (zys h1 h2) ?_
   refine gq44 (wkc 0 (by omega)) ?_
   exact zaF.next (by omega) ⟨rfl,rfl⟩
  | 1,_=>
   refine zm (zd (show decide ((1:Int)<1)=false from rfl) (show decide (((1:Nat):Int)<((1:Nat):Int))=false from rfl)) ?_
   refine zu hl ?_
   exact hK
abbrev msgsE (M:List zbj):List (List D):=M.map msgD
structure TPl where
 i:TGi
 u:Nat
 g:Nat
 w:Nat
 q:Nat
 v:Nat
abbrev twinL (a:TPl) (p:Nat) (M:List zbj):List AV:=[.box a.i.id 0,.box a.i.id2 0,.box p 0,.box a.u 0,.box a.g 0,.box a.q 0,.own a.v (msgsE M)]
structure OnW (a:TPl) (p n:Nat) (x:AV) (t:TTw) (S:List AObj):Prop where
 tg:TG a.i S t.L t.G
 hu:S[a.u]? = some (rtO t.L)
 hg:S[a.g]? = some (rlO t.G)
 hw:S[a.w]? = some (.box (twinL a p t.M))
 hp:S[p]? = some (.box (znC t.d a.i.id a.i.id2 x))
 hq:S[a.q]? = some (.box (zlW t.d a.u a.g (.d (.slice (zhq t.d.says)))))
 hv:S[a.v]? = some (.tok 30 t.M.length)
 sy:SyAt S t.d x n
 hn:∃y,S[n]? = some y
 nd:[a.u,a.g,a.w,a.q,a.v,p,n].Nodup
 off:∀j∈[a.u,a.g,a.w,a.q,a.v,p,n],Off a.i j
theorem OnW.ne {a:TPl}{p n:Nat}{x:AV}{t:TTw}{S:List AObj}(h:OnW a p n x t S) :
  (a.u≠a.g/\a.u≠a.w/\a.u≠a.q/\a.u≠a.v/\a.u≠p/\a.u≠n)/\(a.g≠a.w/\a.g≠a.q/\a.g≠a.v/\a.g≠p/\a.g≠n)/\(a.w≠a.q/\a.w≠a.v/\a.w≠p/\a.w≠n)/\(a.q≠a.v/\a.q≠p/\a.q≠n)/\(a.v≠p/\a.v≠n)/\p≠n:=by
 have:=h.nd;simp only[List.nodup_cons,List.mem_cons,List.not_mem_nil,or_false,not_or,not_false_eq_true,List.nodup_nil,and_true]at this;obtain⟨⟨a1,a2,a3,a4,a5,a6⟩,⟨b1,b2,b3,b4,b5⟩,⟨c1,c2,c3,c4⟩,⟨d1,d2,d3⟩,⟨e1,e2⟩,f⟩:=this;exact⟨⟨a1,a2,a3,a4,a5,a6⟩,⟨b1,b2,b3,b4,b5⟩,⟨c1,c2,c3,c4⟩,⟨d1,d2,d3⟩,⟨e1,e2⟩,f⟩
theorem TG.keepO {i:TGi}{σ S:List AObj}(h:TG i σ L G)(hk:∀(j:Nat) (y:AObj),¬Off i j→σ[j]? = some y->S[j]? = some y):TG i S L G:=by
 refine⟨⟨hk _ _ ?_ h.tab.box,hk _ _ ?_ h.tab.map,hk _ _ ?_ h.tab.tok⟩,⟨hk _ _ ?_ h.led.box,hk _ _ ?_ h.led.map,hk _ _ ?_ h.led.tok⟩,h.n1,h.n2⟩<;>simp[Off]
theorem OnW.keep {a:TPl}{p n:Nat}{x:AV}{t:TTw}{σ S:List AObj}(h:OnW a p n x t σ)(hk:∀(j:Nat) (y:AObj),σ[j]? = some y->S[j]? = some y):OnW a p n x t S:=
 ⟨h.tg.keep hk,hk _ _ h.hu,hk _ _ h.hg,hk _ _ h.hw,hk _ _ h.hp,hk _ _ h.hq,hk _ _ h.hv,h.sy.keep fun y=>hk _ y,h.hn.imp fun y=>hk _ y,h.nd,h.off⟩
theorem OnW.app {a:TPl}{p n:Nat}{x:AV}{t:TTw}(h:OnW a p n x t σ)(τ:List AObj):OnW a p n x t (σ++τ):=h.keep fun _ _ hy=>zi hy
def zyp (o:zsT):List AV:=[.d (.int .i64 o.do_),.d (.int .i64 o.op.kind),.d (.str o.op.topic),.d (.str o.op.group),.d (.int .i64 o.op.offset),.d (.slice (zdv o.op.recs)),.d (.int .i64 o.key),.d (.int .i64 o.m.kind),.d (.int .i64 o.m.src),.d (.int .i64 o.m.view),.d (.int .i64 o.m.seq),.d (.int .i64 o.m.dig),.d (.int .i64 o.m.client),.d (.int .i64 o.m.time),.d (.int .i64 o.m.rerr),.d (.int .i64 o.m.roff),.d (.slice (zbA o.m.batch)),
  .d (.int .i64 o.m.cert.seq),.d (.int .i64 o.m.cert.dig),.d (.slice (zat o.m.cert.signs)),.d (.slice (zap o.m.changes)),.d (.slice (zbq o.m.entries)),.d (.slice (bcs o.m.state)),.d (.str o.m.topic),.d (.int .i64 o.m.offset),
  .d (.str o.m.proof.topic),.d (.int .i64 o.m.proof.offset),.d (.slice (bcs o.m.proof.rec_)),.d (.slice (zmv o.m.proof.headers)),.d (.int .i64 o.m.proof.index),.d (.int .i64 o.m.proof.count),.d (.slice (zgH o.m.proof.path)),.d (.int .i64 o.m.proof.cert.seq),.d (.int .i64 o.m.proof.cert.dig),.d (.slice (zat o.m.proof.cert.signs)),.d (.int .i64 o.m.key),.d (.int .i64 o.m.sdig),.d (.bool o.now)]
section
variable {σ:List AObj} {K:KT} {a:TPl} {p n N:Nat} {x:AV} {t:TTw}
theorem OnW.put (h:OnW a p n x t σ){L':List (List UInt8)}{G':List zK}{P:List AObj}(hP:zhl a.i σ L' G'=P):OnW a p n x ⟨L',G',t.d,t.M⟩ ((P.set a.u (rtO L')).set a.g (rlO G')):=by
 obtain⟨⟨b1,b2,b3,b4,b5,b6⟩,⟨c1,c2,c3,c4,c5⟩,_⟩:=h.ne;have o:∀j∈[a.u,a.g,a.w,a.q,a.v,p,n],P[j]? = σ[j]?:=fun j hj=>by rw[← hP];exact TG.other (h.off j hj) _ _
 have ou:=h.off a.u (by simp);have og:=h.off a.g (by simp);have hl0:P.length=σ.length:=by rw[← hP];exact zkj ..
 have hul:=zZ h.hu;have hgl:=zZ h.hg;have htg:TG a.i P L' G':=by rw[← hP];exact h.tg.put L' G'
 clear hP;have k:∀(j:Nat) (y:AObj),P[j]? = σ[j]? → j≠a.u->j≠a.g→σ[j]? = some y->((P.set a.u (rtO L')).set a.g (rlO G'))[j]? = some y:=fun j y hj h1 h2 hy=>zrg (zrg (by rw[hj];exact hy) h1) h2;refine⟨htg.keepO fun j y hj hy=>zrg (zrg hy (fun e=>hj (e▸ou))) (fun e=>hj (e▸og)),zrg (List.getElem?_set_self (by omega)) b1,List.getElem?_set_self (by rw[List.length_set];omega),?_,?_,?_,?_,?_,?_,h.nd,h.off⟩
 ·exact k _ _ (o _ (by simp)) (Ne.symm b2) (Ne.symm c1) h.hw
 ·exact k _ _ (o _ (by simp)) (Ne.symm b5) (Ne.symm c4) h.hp
 ·exact k _ _ (o _ (by simp)) (Ne.symm b3) (Ne.symm c2) h.hq
 ·exact k _ _ (o _ (by simp)) (Ne.symm b4) (Ne.symm c3) h.hv
 ·exact h.sy.keep fun y hy=>k _ _ (o _ (by simp)) (Ne.symm b6) (Ne.symm c5) hy
 ·exact h.hn.imp fun y hy=>k _ _ (o _ (by simp)) (Ne.symm b6) (Ne.symm c5) hy
theorem OnW.seal (h:OnW a p n x t σ)(m:zbj):OnW a p n x { t with M:=t.M++[m] } ((σ.set a.v (.tok 30 (t.M.length+1))).set a.w (.box (twinL a p (t.M++[m])))):=by
 obtain⟨⟨b1,b2,b3,b4,b5,b6⟩,⟨c1,c2,c3,c4,c5⟩,⟨d1,d2,d3,d4⟩,⟨e1,e2,e3⟩,⟨f1,f2⟩,f⟩:=h.ne;have ov:=h.off a.v (by simp);have ow:=h.off a.w (by simp);have k:∀ {j:Nat} {y:AObj},j≠a.v->j≠a.w→σ[j]? = some y->((σ.set a.v (.tok 30 (t.M.length+1))).set a.w (.box (twinL a p (t.M++[m]))))[j]? = some y:=fun h1 h2 hy=>zrg (zrg hy h1) h2;refine⟨h.tg.keepO fun j y hj hy=>k (fun e=>hj (e▸ov)) (fun e=>hj (e▸ow)) hy,k (by omega) (by omega) h.hu,k (by omega) (by omega) h.hg,List.getElem?_set_self (by simpa using zZ h.hw),k (by omega) (by omega) h.hp,k (by omega) (by omega) h.hq,?_,h.sy.keep fun y hy=>k (by omega) (by omega) hy,h.hn.imp fun y hy=>k (by omega) (by omega) hy,h.nd,h.off⟩;rw[List.getElem?_set_ne (by omega),List.getElem?_set_self (zZ h.hv)];simp
theorem c_reply (h:OnW a p n x t σ)(hI:TwI N t)(hN:N<=900000){o:zsT}(hs:zaK o.m)
  (hK:∀S,OnW a p n x ⟨repL t.L t.G t.d o,repG t.L t.G t.d o,t.d,repS t.L t.G t.d t.M o⟩ S->(∀(j:Nat) (y:AObj),Off a.i j->j≠a.u->j≠a.g->j≠a.w->j≠a.v→σ[j]? = some y->S[j]? = some y)->K (.tup [zgd (repT t.L t.G t.d o),.d (.bool true)]) S) :
  zP zjp [.box a.w 0,.agg (zyp o)] σ K:=by
 have hw':∀τ,(σ++τ)[a.w]? = _:=fun τ=>zi h.hw;have hq':∀τ,(σ++τ)[a.q]? = _:=fun τ=>zi h.hq;refine zeN znF.is rfl fun hl _=>znF.goes ?_;by_cases hk:o.key<0
 ·have e1:(⟨repL t.L t.G t.d o,repG t.L t.G t.d o,t.d,repS t.L t.G t.d t.M o⟩:TTw)=t:=by simp only[repL,repG,repS,if_pos hk]
  have e2:repT t.L t.G t.d o=nowM t.d o:=by rw[repT,if_pos hk]
  rw[e1,e2]at hK;have kp:∀τ (j:Nat) (y:AObj),Off a.i j->j≠a.u->j≠a.g->j≠a.w->j≠a.v→σ[j]? = some y->(σ++τ)[j]? = some y:=fun τ j y _ _ _ _ _ hy=>zi hy;obtain⟨od,oo,ok,om,onw⟩:=o;have hd:decide (ok<0)=true:=by simpa using hk
  cases onw;all_goals
   simp only[zjw,iN,bT,bF,eN,zl3,zyp]
   refine zm (zd hw' (zd hq' hd)) ?_
   exact zlc (hK _ (h.app _) (kp _))
 obtain⟨R,hR⟩:∃R,repX t.L t.G t.d o=R:=⟨_,rfl⟩;have hkr:R.L=repL t.L t.G t.d o:=by rw[repL,if_neg hk,hR]
 have hkg:R.G=repG t.L t.G t.d o:=by rw[repG,if_neg hk,hR]
 obtain⟨P1,hP1⟩:∃P,zhl a.i σ R.L R.G=P:=⟨_,rfl⟩;obtain⟨P2,hP2⟩:∃P,(P1.set a.u (rtO R.L)).set a.g (rlO R.G)=P:=⟨_,rfl⟩;have hW:OnW a p n x ⟨repL t.L t.G t.d o,repG t.L t.G t.d o,t.d,t.M⟩ P2:=by
  have:=h.put hP1;rw[hP2,hkr,hkg]at this;exact this
 have hl1:σ.length=P1.length:=by rw[← hP1,zkj]
 have hl2:P1.length=P2.length:=by rw[← hP2];simp
 have hput:∀τ,zhl a.i (σ++τ) R.L R.G=P1++τ:=fun τ=>by rw[h.tg.put_app,hP1]
 have p1u:P1[a.u]? = some (rtO t.L):=by rw[← hP1,TG.other (h.off a.u (by simp))];exact h.hu
 have p1g:P1[a.g]? = some (rlO t.G):=by rw[← hP1,TG.other (h.off a.g (by simp))];exact h.hg
 have p1w:∀τ,(P1++τ)[a.w]? = _:=fun τ=>zi (by rw[← hP1,TG.other (h.off a.w (by simp))];exact h.hw);have hput2:∀τ,((P1++τ).set a.u (rtO R.L)).set a.g (rlO R.G)=P2++τ:=fun τ=>by
  rw[zdg p1u,List.set_append_left _ _ (by simpa using zZ p1g),hP2]
 have kp:∀(j:Nat) (y:AObj),Off a.i j->j≠a.u->j≠a.g->j≠a.w->j≠a.v→σ[j]? = some y->P2[j]? = some y:=fun j y ho h1 h2 _ _ hy=>by
  rw[← hP2];exact zrg (zrg (by rw[← hP1,TG.other ho];exact hy) h1) h2
 have hug:=h.ne.1.1;have hsm:zaK R.m:=by rw[← hR];exact zvQ (zrP (ztd hs))
 have hks:zaK (keyM t.d o):=zrP (ztd hs);have hGl:=hI.G;have hMl:=hI.M;have hX:zdu t.L t.G (keyM t.d o)=R:=hR;have hML:(msgsE t.M).length=t.M.length:=List.length_map ..;have p2w:∀τ,(P2++τ)[a.w]? = _:=fun τ=>zi hW.hw;have p2v:∀τ,(P2++τ)[a.v]? = _:=fun τ=>zi hW.hv;have bad:R.e≠0->∀τ,zxE K (some [zgd (nowM t.d o),.d (.bool true)]) (P2++τ):=fun he τ=>by
  have e1:repS t.L t.G t.d t.M o=t.M:=by rw[repS,if_neg hk,hR,if_pos he]
  have e2:repT t.L t.G t.d o=nowM t.d o:=by rw[repT,if_neg hk,hR,if_pos he]
  rw[e1,e2]at hK;exact zlc (hK _ (hW.app _) fun j y h1 h2 h3 h4 h5 hy=>zi (kp j y h1 h2 h3 h4 h5 hy))
 have good:R.e=0->∀T:zbj,repT t.L t.G t.d o=T->∀τ,zxE K (some [zgd T,.d (.bool true)]) ((P2.set a.v (.tok 30 (t.M.length+1))).set a.w (.box [.box a.i.id 0,.box a.i.id2 0,.box p 0,.box a.u 0,.box a.g 0,.box a.q 0,.own a.v (msgsE t.M++[msgD R.m])])++τ):=fun he T e2 τ=>by
  have eM:msgsE t.M++[msgD R.m]=msgsE (t.M++[R.m]):=by simp
  rw[eM];have e1:repS t.L t.G t.d t.M o=t.M++[R.m]:=by rw[repS,if_neg hk,hR,if_neg (by simpa using he)]
  rw[e1,e2]at hK;exact zlc (hK _ ((hW.seal R.m).app _) fun j y h1 h2 h3 h4 h5 hy=>zi (zrg (zrg (kp j y h1 h2 h3 h4 h5 hy) h5) h4))
 have hT1:R.e=0->(nowM t.d o).src≥0->repT t.L t.G t.d o={ R.m with src:=(nowM t.d o).src }:=fun he h0=>by rw[repT,if_neg hk,hR,if_neg (by simpa using he),if_pos h0]
 have hT2:R.e=0->¬(nowM t.d o).src≥0->repT t.L t.G t.d o=R.m:=fun he h0=>by rw[repT,if_neg hk,hR,if_neg (by simpa using he),if_neg h0]
 have hvl:=zZ hW.hv;have hwl:=zZ hW.hw;have s1:∀τ Z,(P2++τ).set a.v Z=P2.set a.v Z++τ:=fun τ Z=>List.set_append_left _ _ hvl;have s2:∀τ Z Y,(P2.set a.v Z++τ).set a.w Y=(P2.set a.v Z).set a.w Y++τ:=fun τ Z Y=>List.set_append_left _ _ (by simpa using hwl);have l1:∀τ Z,(P2.set a.v Z++τ)[a.w]? = _:=fun τ Z=>zi (zrg hW.hw hW.ne.2.2.1.2.1);have g1:∀Z Y k τ,((P2.set a.v Z).set a.w Y++τ)[P2.length+k]? = τ[k]?:=fun Z Y k τ=>by
  have:=zA ((P2.set a.v Z).set a.w Y) τ k;simpa using this
 have b1:∀Z Y k τ X,((P2.set a.v Z).set a.w Y++τ).set (P2.length+k) X=(P2.set a.v Z).set a.w Y++τ.set k X:=fun Z Y k τ X=>by
  have:=zX ((P2.set a.v Z).set a.w Y) τ k X;simpa using this
 clear hK;obtain⟨od,oo,ok,om,onw⟩:=o;have hd:decide (ok<0)=false:=by simpa using hk
 cases onw;all_goals
  simp only[zjw,iN,bT,bF,eN,zl3,zyp]
  refine zm (zd hw' (zd hq' hd)) ?_
  refine⟨?_,?_⟩
  all_goals
   try refine zm hw' ?_
   refine c_auSealG (m:=keyM t.d _) (h.tg.app _) hI.L (by omega) hks ?_
   rw[hX,hput]
   refine zm (zd p1w (zd hl1 @List.length_set.{0})) ?_
   refine⟨?_,?_⟩
   all_goals
    try refine zm (zd p1w (zd hl1 @List.length_set.{0})) ?_
    refine c_raSealG (m:=keyM t.d _) (zi p1u) (zi p1g) hug hI.L.len (by omega) hks ?_
    rw[hX,hput2]
    refine zlr (zd p2w (zd hl1 (zd hl2 @List.length_set.{0}))) ?_
    refine c_kSame (a:=R.m) (b:=R.m) hsm hsm ?_
    by_cases he:R.e=0
    ·by_cases h0:om.src≥0
     ·refine gq44 (zd (show(R.e != 0)=false by simpa using he) (zd (show decide (om.src≥0)=true by simpa using h0) (zd p2w (zd p2v (zd s1 (zd s2 (zd l1 (zd g1 (zd b1 (zd hML (zd hl1 (zd hl2 @List.length_set.{0})))))))))))) ?_
      exact good he _ (hT1 he h0) _
     ·refine gq44 (zd (show(R.e != 0)=false by simpa using he) (zd (show decide (om.src≥0)=false by simpa using h0) (zd p2w (zd p2v (zd s1 (zd s2 (zd l1 (zd g1 (zd b1 (zd hML (zd hl1 (zd hl2 @List.length_set.{0})))))))))))) ?_
      exact good he _ (hT2 he h0) _
    ·refine gq44 (zd (show(R.e != 0)=true by simpa using he) (zd hl1 (zd hl2 @List.length_set.{0}))) ?_
     exact bad he _
end
variable {σ:List AObj} {L:List (List UInt8)} {G:List zK}
section
variable {σ:List AObj} {K:KT} {a:TPl} {p n N:Nat} {x:AV} {t:TTw}
theorem OnW.lts (h:OnW a p n x t σ):a.u<σ.length/\a.g<σ.length/\a.w<σ.length/\a.q<σ.length/\a.v<σ.length/\p<σ.length/\n<σ.length:=
 ⟨zZ h.hu,zZ h.hg,zZ h.hw,zZ h.hq,zZ h.hv,zZ h.hp,h.hn.elim fun _ hy=>zZ hy⟩
def Els (a:TPl) (p n j:Nat):Prop:=Off a.i j/\j≠a.u/\j≠a.g/\j≠a.w/\j≠a.q/\j≠a.v/\j≠p/\j≠n
theorem off_new {i:TGi}(h:TG i σ L G){j:Nat}(hj:σ.length<=j):Off i j:=by
 have h1:=zZ h.tab.box;have h2:=zZ h.tab.map;have h3:=zZ h.tab.tok;have h4:=zZ h.led.box;have h5:=zZ h.led.map;have h6:=zZ h.led.tok;unfold Off;omega
theorem OnW.nd2 (h:OnW a p n x t σ){p' n':Nat}(hp:p'=p∨σ.length<=p')(hn:n'=n∨σ.length<=n')(hnp:n'≠p')(hpn:p'≠n∨n'≠n) :
  [a.u,a.g,a.w,a.q,a.v,p',n'].Nodup/\∀j∈[a.u,a.g,a.w,a.q,a.v,p',n'],Off a.i j:=by
 obtain⟨h1,h2,h3,h4,h5,h6⟩:=h.lts;obtain⟨⟨b1,b2,b3,b4,b5,b6⟩,⟨c1,c2,c3,c4,c5⟩,⟨d1,d2,d3,d4⟩,⟨e1,e2,e3⟩,⟨f1,f2⟩,f⟩:=h.ne;have o:=h.off;have hop:Off a.i p':=by
  rcases hp with rfl|hp
  ·exact o _ (by simp)
  ·exact off_new h.tg hp
 have hon:Off a.i n':=by
  rcases hn with rfl|hn
  ·exact o _ (by simp)
  ·exact off_new h.tg hn
 have hp':∀j,j<σ.length->j≠p->j≠p':=fun j k1 k2 e=>by
  rcases hp with hp|hp
  ·exact k2 (e.trans hp)
  ·omega
 have hn':∀j,j<σ.length->j≠n->j≠n':=fun j k1 k2 e=>by
  rcases hn with hn|hn
  ·exact k2 (e.trans hn)
  ·omega
 refine⟨?_,fun j hj=>?_⟩
 ·simp only[List.nodup_cons,List.mem_cons,List.not_mem_nil,or_false,not_or,not_false_eq_true,List.nodup_nil,and_true];exact⟨⟨b1,b2,b3,b4,hp' _ h1 b5,hn' _ h1 b6⟩,⟨c1,c2,c3,hp' _ h2 c4,hn' _ h2 c5⟩,⟨d1,d2,hp' _ h3 d3,hn' _ h3 d4⟩,⟨e1,hp' _ h4 e2,hn' _ h4 e3⟩,⟨hp' _ h5 f1,hn' _ h5 f2⟩,Ne.symm hnp⟩
 ·simp only[List.mem_cons,List.not_mem_nil,or_false]at hj;rcases hj with rfl|rfl|rfl|rfl|rfl|rfl|rfl
  ·exact o _ (by simp)
  ·exact o _ (by simp)
  ·exact o _ (by simp)
  ·exact o _ (by simp)
  ·exact o _ (by simp)
  ·exact hop
  ·exact hon
end
section
variable {σ:List AObj} {K:KT} {a:TPl} {p n N:Nat} {x:AV} {t:TTw}
theorem askD_two {d:zhU}{o:TOp}(ho:okO o):zzn L d o=[]∨∃w,zzn L d o=[outD w]/\okB w/\zgx w:=by
 by_cases he:zxJ L d o=0
 ·have hs:(zfc L (zyh d o)).op=o:=by
   refine sealS_opX ?_;unfold zxJ at he;split at he
   ·cases he
   ·split at he
    ·rename_i hh;exact absurd he hh
    ·exact he
  refine .inr ⟨[zfc L (zyh d o)],by rw[zzn,if_neg (by simpa using he)],⟨by simp,fun s hm=>?_⟩,⟨by simp,fun s hm=>?_⟩⟩
  ·simp only[List.mem_singleton]at hm;subst hm;rw[hs];exact ho
  ·simp only[List.mem_singleton]at hm;subst hm;rw[hs];exact⟨ho.2.2.1,ho.2.2.2⟩
 ·exact .inl (by rw[zzn,if_pos he])
theorem tickO_two {d:zhU}(ho:okO d.s.op):zok d=[]∨∃w,zok d=[outD w]/\okB w/\zgx w:=by
 unfold zok;split
 ·refine .inr ⟨[d.s],rfl,⟨by simp,fun s hm=>?_⟩,⟨by simp,fun s hm=>?_⟩⟩
  ·simp only[List.mem_singleton]at hm;subst hm;exact ho
  ·simp only[List.mem_singleton]at hm;subst hm;exact⟨ho.2.2.1,ho.2.2.2⟩
 ·exact .inl rfl
theorem OnW.other {p':Nat}(h:OnW a p n x t σ){S:List AObj}{x':AV}{n':Nat}(kp:∀(j:Nat) (y:AObj),j≠p->j≠n→σ[j]? = some y->S[j]? = some y)(hp:S[p']? = some (.box (znC t.d a.i.id a.i.id2 x')))(hs:SyAt S t.d x' n')(hnn:∃y,S[n']? = some y)
  (hnd:[a.u,a.g,a.w,a.q,a.v,p',n'].Nodup) (hoff:∀j∈[a.u,a.g,a.w,a.q,a.v,p',n'],Off a.i j):OnW a p' n' x' t (S.set a.w (.box (twinL a p' t.M))):=by
 obtain⟨⟨b1,b2,b3,b4,b5,b6⟩,⟨c1,c2,c3,c4,c5⟩,⟨d1,d2,d3,d4⟩,⟨e1,e2,e3⟩,⟨f1,f2⟩,f⟩:=h.ne;have ow:=h.off a.w (by simp);have op:=h.off p (by simp);have on:=h.off n (by simp);have hw:a.w≠p'∧a.w≠n':=by
  simp only[List.nodup_cons,List.mem_cons,not_or]at hnd;exact⟨hnd.2.2.1.2.2.1,hnd.2.2.1.2.2.2.1⟩
 exact⟨h.tg.keepO fun j y hj hy=>zrg (kp _ _ (fun e=>hj (e▸op)) (fun e=>hj (e▸on)) hy) (fun e=>hj (e▸ow)),zrg (kp _ _ b5 b6 h.hu) b2,zrg (kp _ _ c4 c5 h.hg) c1,List.getElem?_set_self (zZ (kp _ _ d3 d4 h.hw)),zrg hp (Ne.symm hw.1),zrg (kp _ _ e2 e3 h.hq) (Ne.symm d1),zrg (kp _ _ f1 f2 h.hv) (Ne.symm d2),hs.keep fun y hy=>zrg hy (Ne.symm hw.2),hnn.imp fun y hy=>zrg hy (Ne.symm hw.2),hnd,hoff⟩
end
section
variable {σ:List AObj} {K:KT} {a:TPl} {p n N:Nat} {x:AV} {t:TTw}
theorem c_does0 (h:OnW a p n x t σ)(hI:TwI N t)(hN:N<=900000){o:zsT}(ho:SopI o)(hd:o.do_=0)
  (hK:∀S p' n' x',OnW a p' n' x' (zmg t o) S->(∀(j:Nat) (y:AObj),Els a p n j→σ[j]? = some y->S[j]? = some y)->K (.d (.bool true)) S) :
  zP zdD [.box a.w 0,.agg (zyp o)] σ K:=by
 obtain⟨⟨b1,b2,b3,b4,b5,b6⟩,⟨c1,c2,c3,c4,c5⟩,⟨d1,d2,d3,d4⟩,⟨e1,e2,e3⟩,⟨f1,f2⟩,f⟩:=h.ne;have ow:=h.off a.w (by simp);have oq:=h.off a.q (by simp);have ou:=h.off a.u (by simp);have og:=h.off a.g (by simp);have ov:=h.off a.v (by simp);have op:=h.off p (by simp);have on:=h.off n (by simp);have hw':∀τ,(σ++τ)[a.w]? = _:=fun τ=>zi h.hw;have hG:=hI.G;have e0:zmg t o=⟨zxH t.L t.d o.op,zxI t.L t.G t.d o.op,zqj t.L t.d o.op,t.M⟩:=by rw[zmg,if_pos hd]
 rw[e0]at hK;refine zeN zcX.is rfl fun hl _=>zcX.goes ?_;have hon:Off a.i σ.length:=off_new h.tg (by omega);obtain⟨l1,l2,l3,l4,l5,l6,l7⟩:=h.lts;simp only[zfW,iN,bT,bF,eN,zl3];obtain⟨B,hB⟩:∃B,AObj.box (zyp o)=B:=⟨_,rfl⟩;have gB:(σ++[B])[σ.length]? = some (.box (zyp o)):=by rw[zB,← hB];rfl
 unfold zyp at gB hB ⊢;refine zm (zd (show(o.do_==0)=true by simpa using hd) hw') ?_;rw[hB];refine c_pAskG (h.tg.app _) hI.L (by omega) (zi h.hp) op on (Ne.symm f) ho.sz ho.ok hI.d hN (h.sy.keep fun y hy=>zi hy) fun S x' n' hT hp1 hs1 hne hnn kp=>?_;have k0:∀(j:Nat) (y:AObj),j≠p->Off a.i j→σ[j]? = some y->S[j]? = some y:=fun j y h1 h2 hy=>kp j y h1 h2 (zi hy);have sw:=k0 a.w _ d3 ow h.hw;have sb:=kp σ.length _ (by omega) hon gB;refine zm (zd sw sb) ?_;refine c_xAskG (k0 _ _ b5 ou h.hu) (k0 _ _ c4 og h.hg) b1 (Ne.symm b3) (Ne.symm c2) hI.L (by omega) (k0 _ _ e2 oq h.hq) ho.sz ho.ok hI.d hN fun S2 u2 g2 q2 kp2=>?_;have sw2:=kp2 _ _ d1 (Ne.symm b2) (Ne.symm c1) sw;have sb2:=kp2 σ.length _ (by omega) (by omega) (by omega) sb;refine zm (zd sw2 sb2) ?_;refine c_outs (askD_two ho.ok) ?_;refine gq28 ?_;have hnn':n'=n∨σ.length<=n':=by
  rcases hnn with e|e
  ·exact .inl e
  ·right;simp at e;omega
 have hex:∃y,S[n']? = some y:=by
  rcases hnn with rfl|e
  ·exact h.hn.imp fun y hy=>k0 _ _ (Ne.symm f) on hy
  ·exact⟨_,List.getElem?_eq_getElem e.2⟩
 obtain⟨nd,off⟩:=h.nd2 (p':=p) (n':=n') (.inl rfl) hnn' hne (.inl f);have on':Off a.i n':=off n' (by simp);have q1:∀j:Nat,¬Off a.i j->j≠a.q/\j≠a.u/\j≠a.g:=fun j hj=>⟨fun e=>hj (e▸oq),fun e=>hj (e▸ou),fun e=>hj (e▸og)⟩;have ndm:=nd;simp only[List.nodup_cons,List.mem_cons,List.not_mem_nil,or_false,not_or,not_false_eq_true,List.nodup_nil,and_true]at ndm;refine zlc (hK S2 p n' x' ⟨hT.keepO fun j y hj hy=>kp2 _ _ (q1 j hj).1 (q1 j hj).2.1 (q1 j hj).2.2 hy,u2,g2,sw2,kp2 _ _ (Ne.symm e2) (Ne.symm b5) (Ne.symm c4) hp1,q2,kp2 _ _ (Ne.symm e1) (Ne.symm b4) (Ne.symm c3) (k0 _ _ f1 ov h.hv),hs1.keep fun y hy=>kp2 _ _ (Ne.symm ndm.2.2.2.1.2.2) (Ne.symm ndm.1.2.2.2.2.2) (Ne.symm ndm.2.1.2.2.2.2) hy,hex.imp fun y hy=>kp2 _ _ (Ne.symm ndm.2.2.2.1.2.2) (Ne.symm ndm.1.2.2.2.2.2) (Ne.symm ndm.2.1.2.2.2.2) hy,nd,off⟩ fun j y hj hy=>?_);obtain⟨j1,j2,j3,j4,j5,j6,j7,j8⟩:=hj;exact kp2 _ _ j5 j2 j3 (k0 _ _ j7 j1 hy)
theorem c_does2 (h:OnW a p n x t σ)(hI:TwI N t)(hN:N<=900000){o:zsT}(ho:SopI o)(hd:o.do_=2)
  (hK:∀S p' n' x',OnW a p' n' x' (zmg t o) S->(∀(j:Nat) (y:AObj),Els a p n j→σ[j]? = some y->S[j]? = some y)->K (.d (.bool true)) S) :
  zP zdD [.box a.w 0,.agg (zyp o)] σ K:=by
 obtain⟨⟨b1,b2,b3,b4,b5,b6⟩,⟨c1,c2,c3,c4,c5⟩,⟨d1,d2,d3,d4⟩,⟨e1,e2,e3⟩,⟨f1,f2⟩,f⟩:=h.ne;have oq:=h.off a.q (by simp);have op:=h.off p (by simp);have hw':∀τ,(σ++τ)[a.w]? = _:=fun τ=>zi h.hw;have e0:zmg t o={ t with d:=zfX t.d }:=by rw[zmg,if_neg (by omega),if_neg (by omega),if_pos hd]
 rw[e0]at hK;refine zeN zcX.is rfl fun hl _=>zcX.goes ?_;obtain⟨l1,l2,l3,l4,l5,l6,l7⟩:=h.lts;simp only[zfW,iN,bT,bF,eN,zl3];obtain⟨B,hB⟩:∃B,AObj.box (zyp o)=B:=⟨_,rfl⟩;unfold zyp at hB ⊢;refine zm (zd (show(o.do_==0)=false by simp;omega) (zd (show(o.do_==1)=false by simp;omega) (zd (show(o.do_==2)=true by simpa using hd) hw'))) ?_;rw[hB];refine c_pTickG (zi h.hp) hI.d hN ?_;obtain⟨S1,hS1⟩:∃S,(σ++[B]).set p (.box (znC (zfX t.d) a.i.id a.i.id2 x))=S:=⟨_,rfl⟩;have k1:∀(j:Nat) (y:AObj),j≠p→σ[j]? = some y->S1[j]? = some y:=fun j y hj hy=>by rw[← hS1];exact zrg (zi hy) hj
 have p1:S1[p]? = some (.box (znC (zfX t.d) a.i.id a.i.id2 x)):=by rw[← hS1];exact List.getElem?_set_self (by simp;omega)
 have sw:=k1 _ _ d3 h.hw;rw[hS1];refine zm (zd sw hw') ?_;refine c_xTick (d:=t.d) (u:=a.u) (g:=a.g) (sy:=.d (.slice (zhq t.d.says))) (k1 _ _ e2 h.hq) hI.d hN (fun k _=>.d _) ?_;obtain⟨S2,hS2⟩:∃S,S1.set a.q (.box (zlW (zfX t.d) a.u a.g (.d (.slice (zhq t.d.says)))))=S:=⟨_,rfl⟩;have k2:∀(j:Nat) (y:AObj),j≠a.q->S1[j]? = some y->S2[j]? = some y:=fun j y hj hy=>by rw[← hS2];exact zrg hy hj
 have q2:S2[a.q]? = some (.box (zlW (zfX t.d) a.u a.g (.d (.slice (zhq (zfX t.d).says))))):=by rw[← hS2];exact List.getElem?_set_self (zZ (k1 _ _ e2 h.hq))
 rw[hS2];refine c_outs (tickO_two hI.ok) ?_;refine zG ?_;have kk:∀(j:Nat) (y:AObj),j≠p->j≠a.q→σ[j]? = some y->S2[j]? = some y:=fun j y h1 h2 hy=>k2 _ _ h2 (k1 _ _ h1 hy);refine zlc (hK S2 p n x ⟨h.tg.keepO fun j y hj hy=>kk _ _ (fun e=>hj (e▸op)) (fun e=>hj (e▸oq)) hy,kk _ _ b5 b3 h.hu,kk _ _ c4 c2 h.hg,kk _ _ d3 d1 h.hw,k2 _ _ (Ne.symm e2) p1,q2,kk _ _ f1 (Ne.symm e1) h.hv,?_,h.hn.imp fun y hy=>kk _ _ (Ne.symm f) (Ne.symm e3) hy,h.nd,h.off⟩ fun j y hj hy=>kk _ _ hj.2.2.2.2.2.2.1 hj.2.2.2.2.1 hy);have:=h.sy.keep (S:=S2) fun y hy=>kk _ _ (Ne.symm f) (Ne.symm e3) hy;exact⟨this.yes,this.no⟩
theorem c_does1 (h:OnW a p n x t σ)(hI:TwI N t)(hN:N<=800000){o:zsT}(ho:SopI o)(hd:o.do_=1)
  (hK:∀S p' n' x',OnW a p' n' x' (zmg t o) S->(∀(j:Nat) (y:AObj),Els a p n j→σ[j]? = some y->S[j]? = some y)->K (.d (.bool true)) S) :
  zP zdD [.box a.w 0,.agg (zyp o)] σ K:=by
 obtain⟨⟨b1,b2,b3,b4,b5,b6⟩,⟨c1,c2,c3,c4,c5⟩,⟨d1,d2,d3,d4⟩,⟨e1,e2,e3⟩,⟨f1,f2⟩,f⟩:=h.ne;have oq:=h.off a.q (by simp);have op:=h.off p (by simp);have on:=h.off n (by simp);have hw':∀τ,(σ++τ)[a.w]? = _:=fun τ=>zi h.hw;have hG:=hI.G;have e0:zmg t o=⟨repL t.L t.G t.d o,repG t.L t.G t.d o,takeP (repL t.L t.G t.d o) (repG t.L t.G t.d o) t.d (repT t.L t.G t.d o),repS t.L t.G t.d t.M o⟩:=by rw[zmg,if_neg (by omega),if_pos hd]
 rw[e0]at hK;obtain⟨r1,r2,r3⟩:=repL_I (o:=o) hI;have hTm:=repT_small (L:=t.L) (G:=t.G) (d:=t.d) ho.small;have hsy:=hI.says;refine zeN zcX.is rfl fun hl _=>zcX.goes ?_;obtain⟨l1,l2,l3,l4,l5,l6,l7⟩:=h.lts;simp only[zfW,iN,bT,bF,eN,zl3];obtain⟨B,hB⟩:∃B,AObj.box (zyp o)=B:=⟨_,rfl⟩;have hso:AV.agg (zyp o)=.agg (zyp o):=rfl;unfold zyp at hB ⊢;refine zm (zd (show(o.do_==0)=false by simp;omega) (show(o.do_==1)=true by simpa using hd)) ?_;rw[hB];refine c_reply (h.app _) hI (by omega) ho.small fun S1 hW kp1=>?_;obtain⟨T,hT⟩:∃T,repT t.L t.G t.d o=T:=⟨_,rfl⟩;obtain⟨L1,hL1⟩:∃T,repL t.L t.G t.d o=T:=⟨_,rfl⟩;obtain⟨G1,hG1⟩:∃T,repG t.L t.G t.d o=T:=⟨_,rfl⟩;obtain⟨M1,hM1⟩:∃T,repS t.L t.G t.d t.M o=T:=⟨_,rfl⟩;rw[hT,hL1,hG1,hM1]at hK;rw[hL1]at r1;rw[hG1]at r2;rw[hL1,hG1,hM1]at hW;rw[hT]at hTm ⊢;have sw:∀τ,(S1++τ)[a.w]? = _:=fun τ=>zi hW.hw;have hW2:=hW.app [zla T];have hsl:t.d.says.length<=1000:=by
  obtain⟨sy,hsy⟩:=hI.says;have:=hsy.len;rw[hsy.perm.length_eq]at this;omega
 have g0:(S1++[zla T])[S1.length]? = some (zla T):=by rw[zB];rfl
 obtain⟨w1,w2,w3,w4,w5,w6,w7⟩:=hW.lts;refine zm sw ?_;refine c_pTakeG (m:=T) hW2.tg r1 (Nat.le_trans r2 (by omega)) hW2.hp hI.d (by omega) hW2.sy hTm fun S2 x' hlen hp2 hs2 kp2=>?_;have sw2:=kp2 _ _ d3 d4 hW2.hw;have sT:=kp2 S1.length _ (by omega) (by omega) g0;refine zm (zd sw (zd sw2 (zd sT g0))) ?_;refine c_xTakeG (m:=T) (kp2 _ _ b5 b6 hW2.hu) (kp2 _ _ c4 c5 hW2.hg) r1.len (Nat.le_trans r2 (by omega)) (kp2 _ _ e2 e3 hW2.hq) hTm hsl hI.d (by omega) fun S3 hq3 kp3=>?_;refine gq28 ?_;have kk:∀(j:Nat) (y:AObj),j≠p->j≠n->j≠a.q->S1[j]? = some y->S3[j]? = some y:=fun j y h1 h2 h3 hy=>kp3 _ _ h3 (kp2 _ _ h1 h2 (zi hy));have hx:∃y,S2[n]? = some y:=⟨_,List.getElem?_eq_getElem (by rw[hlen];simp;omega)⟩;refine zlc (hK S3 p n x' ⟨hW.tg.keepO fun j y hj hy=>kk _ _ (fun e=>hj (e▸op)) (fun e=>hj (e▸on)) (fun e=>hj (e▸oq)) hy,kk _ _ b5 b6 b3 hW.hu,kk _ _ c4 c5 c2 hW.hg,kk _ _ d3 d4 d1 hW.hw,kp3 _ _ (Ne.symm e2) hp2,hq3,kk _ _ f1 f2 (Ne.symm e1) hW.hv,hs2.keep fun y hy=>kp3 _ _ (Ne.symm e3) hy,hx.imp fun y hy=>kp3 _ _ (Ne.symm e3) hy,h.nd,h.off⟩ fun j y hj hy=>?_);obtain⟨j1,j2,j3,j4,j5,j6,j7,j8⟩:=hj;exact kk _ _ j7 j8 j5 (kp1 _ _ j1 j2 j3 j4 j6 (zi hy))
theorem c_does3 (h:OnW a p n x t σ)(hI:TwI N t)(hN:N<=800000){o:zsT}(ho:SopI o)(hd0:o.do_≠0)(hd1:o.do_≠1)(hd2:o.do_≠2)
  (hK:∀S p' n' x',OnW a p' n' x' (zmg t o) S->(∀(j:Nat) (y:AObj),Els a p n j→σ[j]? = some y->S[j]? = some y)->K (.d (.bool true)) S) :
  zP zdD [.box a.w 0,.agg (zyp o)] σ K:=by
 obtain⟨⟨b1,b2,b3,b4,b5,b6⟩,⟨c1,c2,c3,c4,c5⟩,⟨d1,d2,d3,d4⟩,⟨e1,e2,e3⟩,⟨f1,f2⟩,f⟩:=h.ne;have hw':∀τ,(σ++τ)[a.w]? = _:=fun τ=>zi h.hw;have hG:=hI.G;have e0:zmg t o=t:=by rw[zmg,if_neg hd0,if_neg hd1,if_neg hd2]
 rw[e0]at hK;refine zeN zcX.is rfl fun hl _=>zcX.goes ?_;obtain⟨l1,l2,l3,l4,l5,l6,l7⟩:=h.lts;simp only[zfW,iN,bT,bF,eN,zl3];obtain⟨B,hB⟩:∃B,AObj.box (zyp o)=B:=⟨_,rfl⟩;have gB:(σ++[B])[σ.length]? = some (.box (zyp o)):=by rw[zB,← hB];rfl
 unfold zyp at gB hB ⊢;refine zm (zd (show(o.do_==0)=false by simpa using hd0) (zd (show(o.do_==1)=false by simpa using hd1) (zd (show(o.do_==2)=false by simpa using hd2) hw'))) ?_;rw[hB];have h1:=h.app [B];refine c_pCloneG h1.hp hI.d h1.sy fun S1 p' n' hp' hs' hpl hnl hnp kp1=>?_;have h2:=h1.keep kp1;have sw1:=h2.hw;refine zm sw1 ?_;refine c_pTickG h2.hp hI.d (by omega) ?_;obtain⟨S2,hS2⟩:∃S,S1.set p (.box (znC (zfX t.d) a.i.id a.i.id2 x))=S:=⟨_,rfl⟩;have k2:∀(j:Nat) (y:AObj),j≠p->S1[j]? = some y->S2[j]? = some y:=fun j y hj hy=>by rw[← hS2];exact zrg hy hj
 have p2:S2[p]? = some (.box (znC (zfX t.d) a.i.id a.i.id2 x)):=by rw[← hS2];exact List.getElem?_set_self (zZ h2.hp)
 have sw2:=k2 _ _ d3 h2.hw;have sb1:=kp1 _ _ gB;have sb2:=k2 σ.length _ (by omega) sb1;have op:=h.off p (by simp);have on:=h.off n (by simp);have t2:TG a.i S2 t.L t.G:=h2.tg.keepO fun j y hj hy=>k2 _ _ (fun e=>hj (e▸op)) hy;have sy2:SyAt S2 (zfX t.d) x n:=by
  have:=h2.sy.keep (S:=S2) fun y hy=>k2 _ _ (Ne.symm f) hy;exact⟨this.yes,this.no⟩
 rw[hS2];refine zm (zd sw2 sb2) ?_;refine c_pTakeG (d:=zfX t.d) (m:=o.m) t2 hI.L (by omega) p2 (tick_I hI.d) (by omega) sy2 ho.small fun S3 x3 hlen hp3 hs3 kp3=>?_;have kk:∀(j:Nat) (y:AObj),j≠p->j≠n->S1[j]? = some y->S3[j]? = some y:=fun j y h1 h2 hy=>kp3 _ _ h1 h2 (k2 _ _ h1 hy);have sw3:=kk _ _ d3 d4 h2.hw;have hpl':σ.length+1<=p':=by simpa using hpl
 have hnl':σ.length+1<=n':=by simpa using hnl
 obtain⟨nd,off⟩:=h.nd2 (p':=p') (n':=n') (.inr (by omega)) (.inr (by omega)) hnp (.inl (by omega));have hpn:p'≠n:=by omega
 have hpp:p'≠p:=by omega
 have hex:∃y,S1[n']? = some y:=by
  cases hw:t.d.waits with
  | true=>obtain⟨_,sy,h3,_⟩:=hs'.yes hw;exact⟨_,h3⟩
  | false=>
   rcases hs'.no hw with h3|h3
   ·cases h3
   ·exact⟨_,h3.2⟩
 have hO:=h2.other (S:=S3) kk (kk _ _ hpp hpn hp') (hs'.keep fun y hy=>kk _ _ (by omega) (by omega) hy) (hex.imp fun y hy=>kk _ _ (by omega) (by omega) hy) nd off;refine zm sw3 ?_;refine zlc (hK _ p' n' (.map n') hO fun j y hj hy=>?_);obtain⟨j1,j2,j3,j4,j5,j6,j7,j8⟩:=hj;exact zrg (kk _ _ j7 j8 (kp1 _ _ (zi hy))) j4
theorem c_does (h:OnW a p n x t σ)(hI:TwI N t)(hN:N<=800000){o:zsT}(ho:SopI o)
  (hK:∀S p' n' x',OnW a p' n' x' (zmg t o) S->(∀(j:Nat) (y:AObj),Els a p n j→σ[j]? = some y->S[j]? = some y)->K (.d (.bool true)) S) :
  zP zdD [.box a.w 0,.agg (zyp o)] σ K:=by
 by_cases h0:o.do_=0
 ·exact c_does0 h hI (by omega) ho h0 hK
 by_cases h1:o.do_=1
 ·exact c_does1 h hI hN ho h1 hK
 by_cases h2:o.do_=2
 ·exact c_does2 h hI (by omega) ho h2 hK
 exact c_does3 h hI hN ho h0 h1 h2 hK
end
variable {σ:List AObj} {L:List (List UInt8)} {G:List zK}
def zjk (f cl:Int):Int:=if zhh f≠0 then zhh f else if cl<0∨cl≥8 then 1 else 0
def newD (f cl:Int):zhU:=⟨f,cl,0,false,zSigned,[],0,zSigned,0,0,0⟩
section
variable {σ:List AObj} {K:KT}
theorem c_pNewE {i:TGi}{f cl:Int}(h:TG i σ L G)(hL:zmI L)(hg:G.length<=1073741824)(he:zjk f cl≠0)(hK:K (.tup [.d .nilp,.d (.int .i64 (zjk f cl))]) σ) :
  zP zfL [.d (.int .i64 f),.d (.int .i64 cl),.box i.id 0,.box i.id2 0] σ K:=by
 refine acE4 zkH fun hl=>?_;have fin:∀z,zjk f cl=z->K (.tup [.d .nilp,.d (.int .i64 z)]) σ:=fun z h=>h▸hK;clear hK;simp only[zkP,iN,bT,bF,eN];refine zG ?_;refine zvw h.tab hL.nd hL.len hL.each ?_;refine zG ?_;refine zAM (h.led.app _) hg fun g'=>?_;refine zG ?_;refine zwV ?_;cases h1:(zhh f != 0);rotate_left
 ·refine zm h1 ?_;refine zu hl ?_;exact fin _ (by rw[zjk,if_pos (by simpa using h1)])
 cases h2:decide (cl<0);rotate_left
 ·refine zm (zd h1 h2) ?_;refine zu hl ?_;exact fin _ (by rw[zjk,if_neg (by simpa using h1),if_pos (.inl (by simpa using h2))])
 cases h3:decide (cl≥8);rotate_left
 ·refine zm (zd h1 (zd h2 h3)) ?_;refine zu hl ?_;exact fin _ (by rw[zjk,if_neg (by simpa using h1),if_pos (.inr (by simpa using h3))])
 exfalso;simp at h1 h2 h3;exact he (by rw[zjk,if_neg (by simpa using h1),if_neg (by omega)])
theorem c_xNewE {f cl:Int}{a b:AV}(he:zjk f cl≠0)(hK:K (.tup [.d .nilp,.d (.int .i64 (zjk f cl))]) σ) :
  zP zsa [.d (.int .i64 f),.d (.int .i64 cl),a,b] σ K:=by
 refine acE4 zwx fun hl=>?_;have fin:∀z,zjk f cl=z->K (.tup [.d .nilp,.d (.int .i64 z)]) σ:=fun z h=>h▸hK;clear hK;simp only[zxj,iN,bT,bF,eN];refine zG ?_;refine zsy ?_;cases h1:(zhh f != 0);rotate_left
 ·refine zm h1 ?_;refine zu hl ?_;exact fin _ (by rw[zjk,if_pos (by simpa using h1)])
 cases h2:decide (cl<0);rotate_left
 ·refine zm (zd h1 h2) ?_;refine zu hl ?_;exact fin _ (by rw[zjk,if_neg (by simpa using h1),if_pos (.inl (by simpa using h2))])
 cases h3:decide (cl≥8);rotate_left
 ·refine zm (zd h1 (zd h2 h3)) ?_;refine zu hl ?_;exact fin _ (by rw[zjk,if_neg (by simpa using h1),if_pos (.inr (by simpa using h3))])
 exfalso;simp at h1 h2 h3;exact he (by rw[zjk,if_neg (by simpa using h1),if_neg (by omega)])
theorem c_xNew {f cl:Int}{u g:Nat}(he:zjk f cl=0)(hK:K (.tup [.box σ.length 0,.d (.int .i64 0)]) (σ++[.box (zlW (newD f cl) u g (.d (.slice [])))])) :
  zP zsa [.d (.int .i64 f),.d (.int .i64 cl),.box u 0,.box g 0] σ K:=by
 have h1:zhh f=0:=by
  unfold zjk at he;split at he
  ·rename_i hh;exact absurd he hh
  ·rename_i hh;simpa using hh
 have h2:¬(cl<0∨cl≥8):=fun hc=>by rw[zjk,if_neg (by simpa using h1),if_pos hc]at he;cases he
 refine ACall.weaken ?_;refine zeN zwx.is rfl fun hl _=>zwx.goes ?_;simp only[zxj,iN,bT,bF,eN];refine zG ?_;refine zsy ?_;rw[h1];refine zm (zd (show((0:Int) != 0)=false from rfl) (zd (show decide (cl<0)=false by simp;omega) (show decide (cl≥8)=false by simp;omega))) ?_;refine zlc ⟨_,σ++[.box (zlW (newD f cl) u g (.d (.slice [])))],?_,hK⟩;refine .dataB σ.length 12 _ (.exact []) [] (by rw[zB];rfl) rfl rfl ?_;rw[zaa];refine .dataB σ.length 15 _ (.exact []) [] (by rw[zB];rfl) rfl rfl ?_;rw[zaa];refine .dataB σ.length 23 _ (.exact []) [] (by rw[zB];rfl) rfl rfl ?_;rw[zaa];exact .refl _ _
theorem c_made24 {f cl:Int}
  (hbad:zjk f cl≠0->∀S w x1 x2 x3 x4 x5,S[w]? = some (.box [x1,x2,.d .nilp,x3,x4,.d .nilp,x5])->K (.tup [.box w 0,.d (.bool true)]) S)
  (hok:zjk f cl=0->∀S (a:TPl) p n x,OnW a p n x ⟨[],[],newD f cl,[]⟩ S->K (.tup [.box a.w 0,.d (.bool true)]) S) :
  zP ztn [.d (.int .i64 f),.d (.int .i64 cl)] σ K:=by
 refine zeN zyV.is rfl fun hl _=>zyV.goes ?_;simp only[zzI,iN,bT,bF,eN];refine zG ?_;refine ztP ?_;refine zG ?_;refine zny ?_;refine zG ?_;obtain⟨i,hi⟩:∃i:TGi,(⟨σ.length+1,σ.length,σ.length+2,σ.length+4,σ.length+3,σ.length+5⟩:TGi)=i:=⟨_,rfl⟩;have i1:σ.length+1=i.id:=by rw[← hi]
 have i2:σ.length+4=i.id2:=by rw[← hi]
 have out:∀j,σ.length+6<=j->Off i j:=fun j hj=>by rw[← hi];simp only[Off];omega
 by_cases he:zjk f cl=0;rotate_left
 ·obtain⟨S0,hS0⟩:∃S0,σ++[AObj.map (tabM []),AObj.box [AV.own (σ.length+2) [],AV.map σ.length],AObj.tok 1 0,AObj.map (zxG []),AObj.box [AV.own (σ.length+5) [],AV.map (σ.length+3)],AObj.tok 2 0,AObj.box [AV.exact []],AObj.box [AV.exact []],
    AObj.box [.box (σ.length+1) 0,.box (σ.length+4) 0,.d .nilp,.box (σ.length+6) 0,.box (σ.length+7) 0,.d .nilp,.exact []]]=S0:=⟨_,rfl⟩
  have hT:TG i S0 [] []:=by
   rw[← hS0,← hi];exact⟨⟨by rw[zA];rfl,by rw[zB];rfl,by rw[zA];rfl⟩,⟨by rw[zA];rfl,by rw[zA];rfl,by rw[zA];rfl⟩,by simp,by simp⟩
  have sw:S0[σ.length+8]? = some (AObj.box [.box (σ.length+1) 0,.box (σ.length+4) 0,.d .nilp,.box (σ.length+6) 0,.box (σ.length+7) 0,.d .nilp,.exact []]):=by rw[← hS0,zA];rfl
  have zw:∀Z,(S0.set (σ.length+8) Z)[σ.length+8]? = some Z:=fun Z=>List.getElem?_set_self (zZ sw);rw[hS0];rw[i1,i2]at sw ⊢;refine c_pNewE hT zmI.nil (by simp) he ?_;refine zm sw ?_;refine c_xNewE he ?_;refine zlr (zd sw (zd zw (zd @List.set_set.{0} (show(true==true)=true from rfl)))) ?_;exact zlc (hbad he _ _ _ _ _ _ _ (zw _))
 have hf:zhh f=0:=by
  unfold zjk at he;split at he
  ·rename_i hh;exact absurd he hh
  ·rename_i hh;simpa using hh
 have hc:¬(cl<0∨cl≥8):=fun hc=>by rw[zjk,if_neg (by simpa using hf),if_pos hc]at he;cases he
 obtain⟨S0,hS0⟩:∃S0,σ++[AObj.map (tabM []),AObj.box [AV.own (σ.length+2) [],AV.map σ.length],AObj.tok 1 0,AObj.map (zxG []),AObj.box [AV.own (σ.length+5) [],AV.map (σ.length+3)],AObj.tok 2 0,rtO [],rlO [],
    AObj.box [.box (σ.length+1) 0,.box (σ.length+4) 0,.d .nilp,.box (σ.length+6) 0,.box (σ.length+7) 0,.d .nilp,.own (σ.length+10) []],AObj.tok 1 0,AObj.tok 30 0]=S0:=⟨_,rfl⟩
 refine ACall.pre (xs':=[.d (.int .i64 f),.d (.int .i64 cl),.box (σ.length+1) 0,.box (σ.length+4) 0]) (σ':=S0) ?_ ?_
 ·refine .tokB (σ.length+6) 0 [.exact []] [] 1 (by rw[zA];rfl) rfl (by simp) ?_;rw[zX];refine .dataB (σ.length+6) 0 [.own (σ.length+9) []] (.own (σ.length+9) []) [] (by rw[List.append_assoc,zA];simp) rfl rfl ?_;rw[List.append_assoc,zX];refine .dataB (σ.length+7) 0 [.exact []] (.exact []) [] (by rw[zA];simp) rfl rfl ?_;rw[zX];refine .tokB (σ.length+8) 6 [.box (σ.length+1) 0,.box (σ.length+4) 0,.d .nilp,.box (σ.length+6) 0,.box (σ.length+7) 0,.d .nilp,.exact []] [] 30 (by rw[zA];simp) rfl (by simp) ?_;rw[zX,← hS0];simp;exact .refl _ _
 have hT:TG i S0 [] []:=by
  rw[← hS0,← hi];exact⟨⟨by rw[zA];rfl,by rw[zB];rfl,by rw[zA];rfl⟩,⟨by rw[zA];rfl,by rw[zA];rfl,by rw[zA];rfl⟩,by simp,by simp⟩
 have l0:S0.length=σ.length+11:=by rw[← hS0];simp
 have c6:S0[σ.length+6]? = some (rtO []):=by rw[← hS0,zA];rfl
 have c7:S0[σ.length+7]? = some (rlO []):=by rw[← hS0,zA];rfl
 have c8:S0[σ.length+8]? = some (AObj.box [.box (σ.length+1) 0,.box (σ.length+4) 0,.d .nilp,.box (σ.length+6) 0,.box (σ.length+7) 0,.d .nilp,.own (σ.length+10) []]):=by rw[← hS0,zA];rfl
 have c9:S0[σ.length+9]? = some (AObj.tok 1 0):=by rw[← hS0,zA];rfl
 have c10:S0[σ.length+10]? = some (AObj.tok 30 0):=by rw[← hS0,zA];rfl
 clear hS0;rw[i1,i2]at c8 ⊢;refine c_pNew (f:=f) (cl:=cl) hT zmI.nil (by simp) hf (by omega) (by omega) fun S1 q hq1 hq2 o1=>?_;rw[l0]at hq1;have ql:=zZ hq2;have w1:=o1 _ _ c8;have w1l:=zZ w1;have sw:∀τ,(S1++τ)[σ.length+8]? = _:=fun τ=>zi w1;have s1:∀τ Z,(S1++τ).set (σ.length+8) Z=S1.set (σ.length+8) Z++τ:=fun τ Z=>List.set_append_left _ _ w1l;have s2:∀τ Y Z,(S1.set (σ.length+8) Y++τ).set (σ.length+8) Z=S1.set (σ.length+8) Z++τ:=fun τ Y Z=>by rw[List.set_append_left _ _ (by simpa using w1l),List.set_set]
 have zw:∀Z τ,(S1.set (σ.length+8) Z++τ)[σ.length+8]? = some Z:=fun Z τ=>zi (List.getElem?_set_self w1l);refine zm w1 ?_;refine c_xNew he ?_;refine zlr (zd sw (zd s1 (zd s2 (zd zw (show(false==false)=true from rfl))))) ?_;obtain⟨a,ha⟩:∃a:TPl,(⟨i,σ.length+6,σ.length+7,σ.length+8,S1.length,σ.length+10⟩:TPl)=a:=⟨_,rfl⟩;have aw:σ.length+8=a.w:=by rw[← ha]
 have kk:∀(j:Nat) (y:AObj),j≠σ.length+8->S1[j]? = some y->∀τ Z,(S1.set (σ.length+8) Z++τ)[j]? = some y:=fun j y hj hy τ Z=>zi (zrg hy hj);have:=hok he (S1.set (σ.length+8) (.box (twinL a q []))++[.box (zlW (newD f cl) (σ.length+6) (σ.length+7) (.d (.slice [])))]) a q (σ.length+9) (.d .nilmap) ?_
 ·rw[← ha]at this;exact zlc this
 ·rw[← ha];refine⟨(hT.keep o1).keepO fun j y hj hy=>kk _ _ (fun e=>hj (by rw[e];exact out _ (by omega))) hy _ _,kk _ _ (by simp) (o1 _ _ c6) _ _,kk _ _ (by simp) (o1 _ _ c7) _ _,zw _ _,kk _ _ (by omega) hq2 _ _,?_,kk _ _ (by simp) (o1 _ _ c10) _ _,⟨fun h=>(by cases h),fun _=>.inl rfl⟩,⟨_,kk _ _ (by simp) (o1 _ _ c9) _ _⟩,?_,?_⟩
  ·have:=zB (S1.set (σ.length+8) (AObj.box (twinL ⟨i,σ.length+6,σ.length+7,σ.length+8,S1.length,σ.length+10⟩ q []))) [.box (zlW (newD f cl) (σ.length+6) (σ.length+7) (.d (.slice [])))];rw[List.length_set]at this;exact this
  ·simp;omega
  ·intro j hj;refine out j ?_;simp at hj;omega
end
theorem list_asR {α:Type}{f:α->List D}{R:α->Prop}:∀ {l:List (List D)},(∀e∈l,∃a,e=f a/\R a)->∃as_:List α,l=as_.map f/\∀a∈as_,R a
 | [],_=>⟨[],rfl,by simp⟩
 | e::l,h=>by
  obtain⟨a,rfl,ha⟩:=h e List.mem_cons_self;obtain⟨m,rfl,hm⟩:=list_asR (l:=l) fun x hx=>h x (List.mem_cons_of_mem _ hx);exact⟨a::m,rfl,fun x hx=>by
   rcases List.mem_cons.1 hx with rfl|hx
   ·exact ha
   ·exact hm x hx⟩
theorem bulkLL_in:∀ {l:List (List D)} {e:List D},e∈l->zcP e<=zdp l
 | b::l,e,h=>by
  simp only[zdp];rcases List.mem_cons.1 h with rfl|h
  ·omega
  ·have:=bulkLL_in h;omega
theorem bulk_sops:∀l:List zsT,2*l.length<=zdp (l.map sopD)
 | []=>by simp
 | o::l=>by
  have:=bulk_sops l;have h2:2<=zcP (sopD o):=by simp only[sopD,opD,List.cons_append,zcP,zfT];omega
  simp only[List.map_cons,List.length_cons,zdp];omega
theorem dec_sops {d:D}(h:zlg (.slice tySop) d)(hb:zfT d<=1048576):∃l:List zsT,d=.slice (l.map sopD)/\l.length<=600000/\∀o∈l,SopI o:=by
 cases h with
 | slice _ es h1 h2 h3=>
  simp only[zfT]at hb
  obtain⟨l,rfl,hl⟩:=list_asR (f:=sopD) (R:=SopI) (l:=es) fun e he=>by
   have:=bulkLL_in he;obtain⟨o,rfl,_,_,_,h4,h5⟩:=dec_sop ⟨h2 e he,h3 e he⟩ (by omega);have h6:=opSz_bulk o.op;refine⟨o,rfl,?_,by omega,h5⟩;simp only[opD,zcP,zfT]at h4;have h7:=zqy o.op.recs;exact⟨by omega,by omega,by omega,fun r hr=>by have:=h7.2 r hr;omega⟩
  have:=bulk_sops l
  exact⟨l,rfl,by omega,hl⟩
theorem askP_cl (L:List (List UInt8))(d:zhU)(o:TOp):(zqj L d o).cl=d.cl/\(zqj L d o).f=d.f:=by
 unfold zqj;split<;>exact⟨rfl,rfl⟩
theorem takeP_cl (L:List (List UInt8))(G:List zK)(d:zhU)(m:zbj):(takeP L G d m).cl=d.cl/\(takeP L G d m).f=d.f:=by
 unfold takeP;split
 ·split<;>exact⟨rfl,rfl⟩
 ·exact⟨rfl,rfl⟩
theorem doesW_cl (t:TTw)(o:zsT):(zmg t o).d.cl=t.d.cl/\(zmg t o).d.f=t.d.f:=by
 unfold zmg;split
 ·exact askP_cl _ _ _
 ·split
  ·exact takeP_cl _ _ _ _
  ·split<;>exact⟨rfl,rfl⟩
theorem newPE_0 {f cl:Int}(he:zjk f cl=0):1<=f/\f<=4:=by
 unfold zjk at he;split at he
 ·rename_i hh;exact absurd he hh
 ·rename_i hh;unfold zhh at hh;split at hh
  ·exact absurd (by decide:(120:Int)≠0) hh
  ·omega
theorem newD_I {f cl:Int}(he:zjk f cl=0):TwI 0 ⟨[],[],newD f cl,[]⟩:=
 ⟨⟨newPE_0 he,by simp[newD],by simp[newD],by simp[newD],fun _=>⟨rfl,rfl,rfl⟩,by simp[newD],by simp[newD]⟩,⟨by simp[newD],by simp[newD],by simp[newD],by simp[newD]⟩,⟨[],.nil⟩,zmI.nil,by simp,by simp⟩
structure OnceI (last:Int) (d:zhU):Prop where
 le:last<=d.time
 lt:d.waits=true->last<d.time
 s:d.waits=true->d.s.time=d.time
structure StepO (last:Int) (d e:zhU):Prop where
 t1:d.time<=e.time
 t2:e.time<=d.time+1
 m1:d.many<=e.many
 m2:e.many<=d.many+1
 more:e.many>d.many->d.waits=true/\e.waits=false/\e.ls.time=d.time/\last<e.ls.time/\OnceI e.ls.time e
 same:¬e.many>d.many->OnceI last e
theorem StepO.rfl {last:Int}{d e:zhU}(h:OnceI last d)(h1:e.time=d.time)(h2:e.many=d.many)(h3:e.waits=d.waits)(h4:e.s=d.s):StepO last d e:=
 ⟨by omega,by omega,by omega,by omega,fun h=>by omega,fun _=>⟨by rw[h1];exact h.le,fun hw=>by rw[h1];exact h.lt (by rw[← h3];exact hw),fun hw=>by rw[h4,h1];exact h.s (by rw[← h3];exact hw)⟩⟩
variable {σ:List AObj} {L:List (List UInt8)} {G:List zK}
def NumR (m:zbj):Prop:=(0<=m.view/\m.view<=9007199254740992)/\(0<=m.client/\m.client<=9007199254740992)/\(0<=m.time/\m.time<=9007199254740992)/\(0<=m.rerr/\m.rerr<=9007199254740992)/\(0<=m.roff/\m.roff<=9007199254740992)
theorem reply_num {m:zbj}(hk:m.kind=5)(h:zfA (zbo m)=0):NumR m:=by
 have hc:=zpz hk h;have a1:=hc.view;have a2:=hc.client;have a3:=hc.time;have a4:=hc.rerr;have a5:=hc.roff;simp only[zvl]at a1 a2 a3 a4 a5;unfold NumR;omega
theorem replyB_inj {m k:zbj}(h:NumR m)(h':NumR k)(e:zoo m=zoo k):m.client=k.client/\m.time=k.time/\m.rerr=k.rerr/\m.roff=k.roff:=by
 obtain⟨a1,a2,a3,a4,a5⟩:=h;obtain⟨b1,b2,b3,b4,b5⟩:=h';simp only[zoo,zS,List.map_cons,List.map_nil,List.flatten_cons,List.flatten_nil,List.append_nil,List.cons.injEq,true_and]at e;obtain⟨e1,e⟩:=zrX (by omega) (by omega) e;obtain⟨e2,e⟩:=zrX (by omega) (by omega) e;obtain⟨e3,e⟩:=zrX (by omega) (by omega) e;obtain⟨e4,e⟩:=zrX (by omega) (by omega) e;have e':zbt m.roff.toNat++[]=zbt k.roff.toNat++[]:=by simpa using e
 obtain⟨e5,_⟩:=zrX (by omega) (by omega) e';omega
structure zjv (L:List (List UInt8)) (G:List zK) (M:List zbj):Prop where
 rng:∀g∈G,1<=g.dig/\g.dig<=L.length
 of:∀g∈G,g.key<=12->∀b,L[(g.dig-1).toNat]? = some (5::b)->∃m∈M,m.kind=5/\m.src=g.key/\zoo m=5::b/\NumR m
theorem zjv.nil:zjv [] [] []:=⟨by simp,by simp⟩
theorem zjv.tab {L L':List (List UInt8)}{M:List zbj}(h:zjv L G M)(hp:L <+: L'):zjv L' G M:=by
 obtain⟨t,rfl⟩:=hp;refine⟨fun g hg=>by have:=h.rng g hg;simp;omega,fun g hg hk b hb=>h.of g hg hk b ?_⟩;have:=h.rng g hg;rwa [List.getElem?_append_left (by omega)]at hb
theorem zjv.sign {M M':List zbj}(h:zjv L G M){k:Int}{c:List UInt8}(hM:∀m∈M,m∈M')
  (hn:zgw L c≠0->zfx k (zgw L c)=0->k<=12->∀b,c=5::b->∃m∈M',m.kind=5/\m.src=k/\zoo m=5::b/\NumR m):zjv (zfb L c) (zol L G k c) M':=by
 have h1:=h.tab (sumL_ext L c);have h2:zjv (zfb L c) G M':=⟨h1.rng,fun g hg hk b hb=>by obtain⟨m,hm,h3⟩:=h1.of g hg hk b hb;exact⟨m,hM m hm,h3⟩⟩;unfold zol;split
 ·exact h2
 ·rename_i hs;obtain⟨i,e1,e2,e3⟩:=sum_pos hs;have hil:=(List.getElem?_eq_some_iff.1 e3).1;refine⟨fun g hg=>?_,fun g hg hk b hb=>?_⟩
  ·rcases signG_mem' hg with hg|⟨rfl,_⟩
   ·exact h2.rng g hg
   ·simp only;omega
  ·rcases signG_mem' hg with hg|⟨rfl,hf⟩
   ·exact h2.of g hg hk b hb
   ·refine hn hs hf hk b ?_;simp only[e1]at hb;rw[show(((i+1:Nat):Int)-1).toNat=i by omega,e3]at hb;exact Option.some.inj hb
theorem contG_5 {m:zbj}{b:List UInt8}(h:zcF m=5::b):m.kind=5/\zoo m=5::b:=by
 unfold zcF at h;split at h
 ·simp[zrI]at h
 ·split at h
  ·simp[zrI]at h
  ·split at h
   ·simp[zrI]at h
   ·split at h
    ·rename_i hk;exact⟨hk,h⟩
    ·simp at h
theorem zjv.seal {M:List zbj}(h:zjv L G M)(m:zbj):zjv (zdu L G m).L (zdu L G m).G (if (zdu L G m).e≠0 then M else M++[(zdu L G m).m]):=by
 have mono:∀ {X:List zbj},zjv L G X->zjv L G (X++[(zdu L G m).m]):=fun hX=>⟨hX.rng,fun g hg hk b hb=>by obtain⟨y,hy,h3⟩:=hX.of g hg hk b hb;exact⟨y,by simp[hy],h3⟩⟩;unfold zdu;by_cases h1:zfA (zbo m)≠0
 ·simp only[if_pos h1];exact h
 simp only[if_neg h1];by_cases h2:nilK m.kind=true
 ·simp only[if_pos h2,ne_eq,not_true,if_false];exact⟨h.rng,fun g hg hk b hb=>by obtain⟨y,hy,h3⟩:=h.of g hg hk b hb;exact⟨y,by simp[hy],h3⟩⟩
 simp only[if_neg h2];by_cases h3:zvp L m.src (zcF m)≠0
 ·simp only[if_pos h3];refine h.sign (fun _ h=>h) fun hs hf=>?_;exact absurd (by rw[zvp,if_neg hs];exact hf) h3
 ·simp only[if_neg h3,ne_eq,not_true,if_false];refine h.sign (fun y hy=>by simp[hy]) fun hs hf hk b hb=>?_;obtain⟨hk5,hr⟩:=contG_5 hb;refine⟨_,List.mem_append_right _ (List.mem_singleton.2 rfl),?_⟩;have hw:ziK m (sgnS L m.src (zcF m))=withS m (sgnS L m.src (zcF m)):=by rw[ziK,if_neg (by omega)]
  rw[hw];exact⟨hk5,rfl,hr,show NumR m from reply_num hk5 (by simpa using h1)⟩
theorem zjv.ask {M:List zbj}(h:zjv L G M)(x:zr):zjv (zna L x) (znZ L G x) M:=by
 unfold zna znZ;by_cases hc:zT x≠0
 ·simp only[if_pos hc];exact h
 simp only[if_neg hc];have key:zgw L (zlT x)≠0∨zgw L (zlT x)=0:=by omega
 rcases key with hs|hs
 ·have:=h.sign (k:=zsh x.client) (c:=zlT x) (M':=M) (fun _ h=>h) fun _ hf hk=>by have:=keyF_sign' hf;omega
  unfold zol at this;rw[if_neg hs]at this;exact this
 ·have h1:=h.tab (sumL_ext L (zlT x));have:zgn G (zsh x.client) (zgw L (zlT x))=G:=by
   unfold zgn;rw[if_neg];rw[hs];unfold zfx;split<;>simp
  rw[this];exact h1
def zyi (M:List zbj) (cl time k a b:Int):Prop:=∃m∈M,m.kind=5/\m.src=k/\m.client=cl/\m.time=time/\m.rerr=a/\m.roff=b
theorem zjv.valid {M:List zbj}(h:zjv L G M){m:zbj}(hk:m.kind=5)(hv:zfa L G m=true):zyi M m.client m.time m.src m.rerr m.roff:=by
 simp only[zfa,Bool.and_eq_true,decide_eq_true_eq,Bool.or_eq_true]at hv;obtain⟨v1,v2,v3⟩:=hv;have hsrc:=(zur hk v1).src;rcases v3 with v3|v3
 ·rw[hk]at v3;cases v3
 unfold zhp at v3;split at v3
 ·rename_i i hi;simp only[Bool.and_eq_true,decide_eq_true_eq]at v3;obtain⟨⟨s1,s2⟩,s3⟩:=v3;have hc:zcF m=zoo m:=by simp[zcF,hk]
  have hl:=(zpJ hi).2;obtain⟨y,hy,y1,y2,y3,y4⟩:=h.of _ s3 (by rw[s1];omega) (zS [m.view,m.client,m.time,m.rerr,m.roff]) (by rw[s2,show(((i+1:Nat):Int)-1).toNat=i by omega,hl,hc];rfl);obtain⟨z1,z2,z3,z4⟩:=replyB_inj y4 (reply_num hk v2) y3;exact⟨y,hy,y1,y2.trans s1,z1,z2,z3,z4⟩
 ·cases v3
variable {σ:List AObj} {L:List (List UInt8)} {G:List zK}
theorem pick_one {z:Nat}{f:Int}{K:List Int}(hz:((memF z).length:Int)<=f)(hn:K.Nodup)(hr:∀x∈K,0<=x/\x<13)(hl:f+1<=K.length):∃k∈K,inF z k=false:=by
 rcases Classical.em (∃k∈K,inF z k=false)with h|h
 ·exact h
 ·exfalso;have h1:=zqV 13 K hn (by simpa using hr);have h2:(zvF 13).countP (fun i=>decide (i∈K))<=(zvF 13).countP (inF z):=List.countP_mono_left fun x _ hx=>by
   cases hc:inF z x with
   | true=>rfl
   | false=>exact absurd ⟨x,by simpa using hx,hc⟩ h
  have h3:(zvF 13).countP (inF z)=(memF z).length:=List.countP_eq_length_filter;omega
theorem zyi.mono {M M':List zbj}{cl time k a b:Int}(h:zyi M cl time k a b)(hM:∀m∈M,m∈M'):zyi M' cl time k a b:=by
 obtain⟨m,hm,h1⟩:=h;exact⟨m,hM m hm,h1⟩
structure SndI (z:Nat) (t:TTw):Prop where
 h:zjv t.L t.G t.M
 said:t.d.waits=true->∀e∈t.d.says,zyi t.M t.d.cl t.d.time e.1 e.2.1 e.2.2/\0<=e.1/\e.1<3*t.d.f+1
 s:t.d.waits=true->t.d.s.client=t.d.cl/\t.d.s.time=t.d.time
 last:t.d.many>0->∃k,inF z k=false/\k<3*t.d.f+1/\zyi t.M t.d.ls.client t.d.ls.time k t.d.la t.d.lo
theorem snd_take {z:Nat}{t:TTw}(h:SndI z t){L:List (List UInt8)}{G:List zK}{M:List zbj}(hs:zjv L G M)(hM:∀m∈t.M,m∈M)(hf:1<=t.d.f/\t.d.f<=4)(hsy:∃sy,SayI sy t.d.says)(hz:((memF z).length:Int)<=t.d.f)(m:zbj):SndI z ⟨L,G,takeP L G t.d m,M⟩:=by
 have said0:t.d.waits=true->∀e∈t.d.says,zyi M t.d.cl t.d.time e.1 e.2.1 e.2.2/\0<=e.1/\e.1<3*t.d.f+1:=fun hw e he=>by
  obtain⟨h1,h2⟩:=h.said hw e he;exact⟨h1.mono hM,h2⟩
 have last0:t.d.many>0->∃k,inF z k=false/\k<3*t.d.f+1/\zyi M t.d.ls.client t.d.ls.time k t.d.la t.d.lo:=fun hm=>by
  obtain⟨k,h1,h2,h3⟩:=h.last hm;exact⟨k,h1,h2,h3.mono hM⟩
 by_cases ho:zhc L G t.d m=true;rotate_left
 ·have e:takeP L G t.d m=t.d:=by rw[takeP,if_neg ho]
  rw[e];exact⟨hs,said0,h.s,last0⟩
 have hc:=ho;simp only[zhc,Bool.and_eq_true,decide_eq_true_eq]at hc;obtain⟨hw,c1,c2,c3,c4,c5⟩:=hc;have hv:=c4;simp only[zfa,Bool.and_eq_true,decide_eq_true_eq]at hv;have hsrc:=(zur c1 hv.1).src;have hnew:=hs.valid c1 c4;rw[c2,c3]at hnew;have said1:∀e∈sayD t.d.says m.src m.rerr m.roff,zyi M t.d.cl t.d.time e.1 e.2.1 e.2.2/\0<=e.1/\e.1<3*t.d.f+1:=fun e he=>by
  rcases List.mem_append.1 he with he|he
  ·exact said0 hw e (List.mem_filter.1 he).1
  ·simp only[List.mem_singleton]at he;subst he;exact⟨hnew,by simp only;omega⟩
 obtain⟨sy,hsy⟩:=hsy;have hs2:=hsy.put (a:=m.rerr) (b:=m.roff) hsrc;have hnd:((sayD t.d.says m.src m.rerr m.roff).map (·.1)).Nodup:=(hs2.perm.map _).nodup_iff.1 hs2.nd;obtain⟨s1,s2⟩:=h.s hw;by_cases hB:zsZ t.d m=true
 ·have e:takeP L G t.d m={ t.d with says:=sayD t.d.says m.src m.rerr m.roff,waits:=false,ls:=t.d.s,la:=m.rerr,lo:=m.roff,many:=t.d.many+1 }:=by rw[takeP,if_pos ho,if_pos hB]
  rw[e];refine⟨hs,fun h=>(by cases h),fun h=>(by cases h),fun _=>?_⟩;simp only[zsZ,decide_eq_true_eq]at hB;obtain⟨l,hl⟩:∃l,sayD t.d.says m.src m.rerr m.roff=l:=⟨_,rfl⟩;rw[hl]at hB said1 hnd;have hcnt:zpW l m.rerr m.roff=(l.filter fun e=>(m.rerr==e.2.1)&&(m.roff==e.2.2)).length:=List.countP_eq_length_filter;have hsub:((l.filter fun e=>(m.rerr==e.2.1)&&(m.roff==e.2.2)).map (·.1)).Nodup:=(List.filter_sublist.map _).nodup hnd;obtain⟨k,hk,hb⟩:=pick_one (K:=(l.filter fun e=>(m.rerr==e.2.1)&&(m.roff==e.2.2)).map (·.1)) hz hsub (fun x hx=>by
   obtain⟨e,he,rfl⟩:=List.mem_map.1 hx;have:=(said1 e (List.mem_filter.1 he).1).2;omega) (by rw[List.length_map,← hcnt];omega)
  obtain⟨e,he,rfl⟩:=List.mem_map.1 hk;obtain⟨he1,he2⟩:=List.mem_filter.1 he;simp only[Bool.and_eq_true,beq_iff_eq]at he2;obtain⟨g1,g2,g3⟩:=said1 e he1;refine⟨e.1,hb,g3,?_⟩;simp only[s1,s2];rw[he2.1,he2.2];exact g1
 ·have e:takeP L G t.d m={ t.d with says:=sayD t.d.says m.src m.rerr m.roff }:=by rw[takeP,if_pos ho,if_neg hB]
  rw[e];exact⟨hs,fun _=>said1,fun _=>⟨s1,s2⟩,last0⟩
theorem snd_ask {z:Nat}{t:TTw}(h:SndI z t)(o:TOp):SndI z ⟨zxH t.L t.d o,zxI t.L t.G t.d o,zqj t.L t.d o,t.M⟩:=by
 have hs:zjv (zxH t.L t.d o) (zxI t.L t.G t.d o) t.M:=by
  unfold zxH zxI;by_cases h1:t.d.waits=true
  ·simp only[if_pos h1];exact h.h
  ·simp only[if_neg h1];by_cases h2:zaM zdY o≠0
   ·simp only[if_pos h2];exact h.h
   ·simp only[if_neg h2];exact h.h.ask _
 by_cases he:zxJ t.L t.d o=0
 ·have e:zqj t.L t.d o={ t.d with time:=t.d.time+1,waits:=true,s:=zfc t.L (zyh t.d o),says:=[],ticks:=0 }:=by rw[zqj,if_neg (by simpa using he)]
  have hse:zjN t.L (zyh t.d o)=0:=by
   unfold zxJ at he;split at he
   ·cases he
   ·split at he
    ·rename_i hh;exact absurd he hh
    ·exact he
  rw[e];exact⟨hs,fun _ e he=>by simp at he,fun _=>by simp only[zfc,if_pos hse];exact⟨rfl,rfl⟩,h.last⟩
 ·have e:zqj t.L t.d o=t.d:=by rw[zqj,if_pos he]
  rw[e];exact⟨hs,h.said,h.s,h.last⟩
theorem repS_sub {d:zhU}{M:List zbj}{o:zsT}:∀m∈M,m∈repS L G d M o:=fun m hm=>by
 unfold repS;split
 ·exact hm
 ·split
  ·exact hm
  ·simp[hm]
theorem snd_rep {d:zhU}{M:List zbj}(h:zjv L G M)(o:zsT):zjv (repL L G d o) (repG L G d o) (repS L G d M o):=by
 unfold repL repG repS;by_cases hk:o.key<0
 ·simp only[if_pos hk];exact h
 ·simp only[if_neg hk];exact h.seal (keyM d o)
theorem snd_does {N z:Nat}{t:TTw}(h:SndI z t)(hI:TwI N t)(hz:((memF z).length:Int)<=t.d.f)(o:zsT):SndI z (zmg t o):=by
 unfold zmg;split
 ·exact snd_ask h o.op
 ·split
  ·exact snd_take h (snd_rep h.h o) repS_sub hI.d.f hI.says hz _
  ·split
   ·exact⟨h.h,h.said,h.s,h.last⟩
   ·exact h
theorem snd_new (z:Nat)(f cl:Int):SndI z ⟨[],[],newD f cl,[]⟩:=⟨zjv.nil,fun h=>(by cases h),fun h=>(by cases h),fun h=>by simp[newD]at h⟩
section
variable {σ:List AObj} {K:KT} {a:TPl} {p n N:Nat} {x:AV} {t:TTw}
theorem c_said {z:Nat}(hz:z<65536)(h:OnW a p n x t σ)(hI:TwI N t)(hN:N<=800000){k0:Int}(hk1:inF z k0=false)(hk2:k0<3*t.d.f+1)(hs:zyi t.M t.d.ls.client t.d.ls.time k0 t.d.la t.d.lo)(hK:K (.d (.bool true)) σ) :
  zP zkw [.box a.w 0,ansA t.d.ls t.d.la t.d.lo,.d (.int .u16 z)] σ K:=by
 refine acE3 zwJ fun hl=>?_;obtain⟨m0,hm0,e1,e2,e3,e4,e5,e6⟩:=hs;obtain⟨j,hj⟩:=List.mem_iff_getElem?.1 hm0;have hjl:=(List.getElem?_eq_some_iff.1 hj).1;have hf:=hI.d.f;have hMl:=hI.M;have hML:(msgsE t.M).length=t.M.length:=List.length_map ..;have fw:∀τ,(σ++τ)[a.w]? = _:=fun τ=>zi h.hw;have fq:∀τ,(σ++τ)[a.q]? = _:=fun τ=>zi h.hq;simp only[zpo,iN,bT,bF,eN,zl3];refine zm (zd fw hML) ?_;obtain⟨B,hB⟩:∃B,AObj.box [.d (.int .i64 t.d.ls.client),.d (.int .i64 t.d.ls.time),.d (.int .i64 t.d.ls.op.kind),.d (.str t.d.ls.op.topic),.d (.str t.d.ls.op.group),.d (.int .i64 t.d.ls.op.offset),.d (.slice (zdv t.d.ls.op.recs)),.d (.int .i64 t.d.la),.d (.int .i64 t.d.lo)]=B:=⟨_,rfl⟩;have gB:∀τ,(σ++B::τ)[σ.length]? = some (.box [.d (.int .i64 t.d.ls.client),.d (.int .i64 t.d.ls.time),.d (.int .i64 t.d.ls.op.kind),.d (.str t.d.ls.op.topic),.d (.str t.d.ls.op.group),.d (.int .i64 t.d.ls.op.offset),.d (.slice (zdv t.d.ls.op.recs)),.d (.int .i64 t.d.la),.d (.int .i64 t.d.lo)]):=fun τ=>by rw[zB,← hB];rfl
 rw[hB];refine zn t.M.length (fun k vs S=>vs=[.d (.int .i64 k)]/\k<=j/\∃T,S=σ++B::T) ⟨rfl,by omega,[],rfl⟩ ?_;rintro k vs S hk ⟨rfl,hkj,T,rfl⟩;have hlt:k<t.M.length:=by omega
 have hd:decide ((k:Int)<(t.M.length:Int))=true:=by simp;omega
 have hx:t.M[k]? = some t.M[k]:=by simp[hlt]
 have hgx:=zQ (f:=msgD) hx;obtain⟨m,hm⟩:∃m,t.M[k]=m:=⟨_,rfl⟩;rw[hm]at hx hgx;have nx:m≠m0->k+1<=j:=fun hne=>by
  rcases Nat.lt_or_eq_of_le hkj with h|h
  ·omega
  ·subst h;rw[hx]at hj;cases hj;exact absurd rfl hne
 obtain⟨S,hS⟩:∃S,σ++B::T=S:=⟨_,rfl⟩;have again:∀τ,m≠m0->zaF t.M.length (fun k vs S=>vs=[.d (.int .i64 k)]/\k<=j/\∃T,S=σ++B::T) k [.d (.int .i64 (k+1:Nat))] (S++τ):=fun τ hne=>zaF.next hlt ⟨rfl,nx hne,T++τ,by rw[← hS];simp⟩;have sw:∀τ,(S++τ)[a.w]? = _:=fun τ=>zi (by rw[← hS];exact fw _);have sq:∀τ,(S++τ)[a.q]? = _:=fun τ=>zi (by rw[← hS];exact fq _);have sB:∀τ,(S++τ)[σ.length]? = _:=fun τ=>zi (by rw[← hS];exact gB _);have done:∀τ,AW.Ends σ.length K (some [.d (.bool true)]) (S++τ):=fun τ=>by
  rw[← hS,List.append_assoc];exact zpM (by simp[zgQ,dmT,dm,dm1,zck]) hl hK
 rw[hS];cases c1:(m.kind==5)
 ·refine zm (zd hd (zd hgx (zd hML (zd sB (zd c1 (wkc k (by omega))))))) ?_;exact again _ fun e=>by rw[e,e1]at c1;cases c1
 refine zm (zd hd (zd hgx (zd hML (zd sB c1)))) ?_;refine c_rIn hz ?_;cases c2:inF z m.src;rotate_left
 ·refine zm (zd c2 (wkc k (by omega))) ?_;exact again _ fun e=>by rw[e,e2,hk1]at c2;cases c2
 refine zm (zd c2 (zd sw sq)) ?_;refine zze ?_;rw[show zfD 3 t.d.f=3*t.d.f+1 by rw[zfD,if_neg (by omega)]];cases c3:decide (m.src<3*t.d.f+1)
 ·refine zm (zd c3 (wkc k (by omega))) ?_;exact again _ fun e=>by rw[e,e2]at c3;simp at c3;omega
 cases c4:(m.client==t.d.ls.client)
 ·refine zm (zd c3 (zd sB (zd c4 (wkc k (by omega))))) ?_;exact again _ fun e=>by rw[e,e3]at c4;simp at c4
 cases c5:(m.time==t.d.ls.time)
 ·refine zm (zd c3 (zd sB (zd c4 (zd c5 (wkc k (by omega)))))) ?_;exact again _ fun e=>by rw[e,e4]at c5;simp at c5
 have hxy:zce [AV.d (.int .i64 m.rerr),AV.d (.int .i64 m.roff)] [AV.d (.int .i64 t.d.la),AV.d (.int .i64 t.d.lo)]=some ((m.rerr==t.d.la)&&(m.roff==t.d.lo)):=by simp[zce]
 cases c6:((m.rerr==t.d.la)&&(m.roff==t.d.lo))
 ·rw[c6]at hxy;refine zm (zd c3 (zd sB (zd c4 (zd c5 (zd hxy (wkc k (by omega))))))) ?_;exact again _ fun e=>by rw[e,e5,e6]at c6;simp at c6
 ·rw[c6]at hxy;refine zm (zd c3 (zd sB (zd c4 (zd c5 hxy)))) ?_;exact done _
end
theorem dec_u16' {d:D}(h:zlg (.int .u16) d):∃n:Nat,d=.int .u16 n/\n<65536:=by
 obtain⟨n,rfl,h2⟩:=dec_int h;have h':0<=n/\n<=65535:=by simpa [Lit.wf,IntKind.min,IntKind.max,IntKind.signed,IntKind.bits] using h2
 exact⟨n.toNat,by rw[show((n.toNat:Nat):Int)=n by omega],by omega⟩
def zkm:List (Bool × List Ty):=[(false,[.int .i64]),(false,[.int .i64]),(false,[.slice tySop]),(false,[.int .u16])]
theorem zsg (xs:List AV)(n:Nat)(hn:n<=1048576)(h:ArgsOk zkm xs n):zP zgt xs [] fun r _=>r=.d (.bool true):=by
 obtain⟨ds,xs1,m1,hf1,hb1,rfl,ds,xs2,m2,hf2,hb2,rfl,ds,xs3,m3,hf3,hb3,rfl,ds,xs4,m4,hf4,hb4,rfl,rfl⟩:=h;obtain⟨d,rfl,h1⟩:=zyA hf1;obtain⟨f,rfl,_⟩:=zaG h1;obtain⟨d,rfl,h2⟩:=zyA hf2;obtain⟨cl,rfl,_⟩:=zaG h2;obtain⟨d,rfl,h3⟩:=zyA hf3;obtain⟨l,rfl,hl0,hl1⟩:=dec_sops h3 (by simp only[zcP]at hb3;omega);obtain⟨d,rfl,h4⟩:=zyA hf4;obtain⟨z,rfl,hz⟩:=dec_u16' h4;show zP zgt [.d (.int .i64 f),.d (.int .i64 cl),.d (.slice (l.map sopD)),.d (.int .u16 z)] [] _;clear hf1 hf2 hf3 hf4 hb1 hb2 hb3 hb4 h1 h2 h3 h4;obtain⟨σ,hσ⟩:∃σ:List AObj,([]:List AObj)=σ:=⟨_,rfl⟩;have hσ0:∀S:List AObj,S.take σ.length=σ:=fun S=>by rw[← hσ];simp
 rw[hσ];refine acE4 zqh fun hl=>?_;have fin:∀S,AW.Ends σ.length (fun r _=>r=.d (.bool true)) (some [.d (.bool true)]) S:=fun S=>ztB (hσ0 S) (by simp[zgQ,dmT,dm,dm1,zck]) hl rfl;clear hσ;have hll:(l.map sopD).length=l.length:=List.length_map ..;simp only[zjK,iN,bT,bF,eN,zl0,zl1];refine zG ?_;refine c_made24 (fun he S w x1 x2 x3 x4 x5 hw=>?_) fun he S a p m x hO=>?_
 ·refine zm hw ?_;refine c_begun24 ?_;refine zm (zd hw (show(false==false)=true from rfl)) ?_;exact fin _
 have hw0:=hO.hw;refine zm hw0 ?_;refine c_begun24 ?_;refine zm (zd hw0 (zd (show(false==false)=true from rfl) hll)) ?_;refine c_rMany hz ?_;by_cases hm:((memF z).length:Int)>f
 ·refine zm (show decide (((memF z).length:Int)>f)=true by simpa using hm) ?_;exact fin _
 refine zm (zd (show decide (((memF z).length:Int)>f)=false by simpa using hm) hll) ?_;refine zn l.length (fun k vs S=>vs=[.d (.int .i64 k)]/\∃p m x t,OnW a p m x t S/\TwI k t/\t.d.f=f/\SndI z t) ⟨rfl,p,m,x,_,hO,newD_I he,rfl,snd_new _ _ _⟩ ?_;clear hO hw0;rintro k vs S hk ⟨rfl,p,m,x,t,hO,hI,hcl,hS⟩;by_cases hlt:k<l.length
 ·have hd:decide ((k:Int)<(l.length:Int))=true:=by simp;omega
  have hx:l[k]? = some l[k]:=by simp[hlt]
  have hox:=hl1 _ (List.getElem_mem hlt);have hgx:=zQ (f:=sopD) hx;obtain⟨o,ho⟩:∃o,l[k]=o:=⟨_,rfl⟩;rw[ho]at hx hgx hox;refine zdO (zd hd (zd hgx hll)) ?_;refine c_does (o:=o) (hO.app _) hI (by omega) hox fun S2 p2 m2 x2 hO2 kp=>?_;have hI2:=hI.does hox;have hc2:=(doesW_cl t o).2.trans hcl;have hS2:=snd_does hS hI (by rw[hcl];omega) o;obtain⟨t2,ht2⟩:∃t2,zmg t o=t2:=⟨_,rfl⟩;rw[ht2]at hO2 hI2 hc2 hS2;have fin2:∀τ,zaF l.length (fun k vs S=>vs=[.d (.int .i64 k)]/\∃p m x t,OnW a p m x t S/\TwI k t/\t.d.f=f/\SndI z t) k [.d (.int .i64 (k+1:Nat))] (S2++τ):=fun τ=>zaF.next hlt ⟨rfl,p2,m2,x2,t2,hO2.app _,hI2,hc2,hS2⟩;have fin3:=fin2 [];rw[List.append_nil]at fin3;have g0:=hO2.hw;clear kp;refine zm g0 ?_;refine c_pLastG hO2.hp hI2.d ?_;cases hmn:decide (t2.d.many>0)
  ·refine zm (zd hmn (wkc k (by omega))) ?_;exact fin2 _
  ·obtain⟨k0,hk1,hk2,hk3⟩:=hS2.last (by simpa using hmn);refine zm hmn ?_;refine c_said hz (hO2.app _) hI2 (by omega) hk1 hk2 hk3 ?_;refine zm (wkc k (by omega)) ?_;exact fin2 _
 ·have hd:decide ((k:Int)<(l.length:Int))=false:=by simp;omega
  refine zm hd ?_;exact fin _
open Go.AW Go.ChangeShapes Go.WideShapes Go.ChangeAt Go.RowKit
theorem zpV {H:Type}{enc:TypeId × Value->H}{P:Program}{w:World}{sp:Nat->Bool}{held:Bool}{vs:List Value}{ds gs:List (DataW H)}{ps:List MemPlace}{ts:List TypeId}(hl:ts.length=4)
  (h:DataW.TrodAll enc P w 0 sp held ts vs ds ps) (hg:gs=[]):(Rows.publisherSoundSpec).fn H (ds++gs)={ results:=[.lit (.bool true)],args:=ds }:=by
 subst hg;have hd:ds.length=4:=by
  have:∀(ts:List TypeId) (vs:List Value) (ds:List (DataW H)) (ps:List MemPlace),DataW.TrodAll enc P w 0 sp held ts vs ds ps->ds.length=ts.length:=by
   intro ts;induction ts with
   | nil=>intro vs ds ps h;cases vs<;>cases ds<;>simp[DataW.TrodAll]at h ⊢
   | cons t ts ih=>
    intro vs ds ps h
    obtain⟨v,vs',d,ds',p,q,rfl,rfl,rfl,h1,h2⟩:=trodAll_cons h
    simp[ih vs' ds' q h2]
  rw[this ts vs ds ps h,hl]
 rw[List.append_nil];match ds,hd with
 | [_,_,_,_],_=>rfl
theorem zoE (os:Os)(started:os.Started)(H:Type)(enc:TypeId × Value->H)(F:Stop.Interp) :
  ReturnsInHanded {} Tryz.checked os 3 .any ((Rows.OpenSpec.upto Rows.publisherSoundSpec).pre6 enc Tryz.prog Tryz.f3 Rows.publisherSoundUptoRow.domain false) (((Rows.OpenSpec.upto Rows.publisherSoundSpec).at F).post enc Tryz.prog Tryz.f3 false true false false):=by
 refine returnsInHanded_of_cond (C:=Tryz.checked) (s:=Rows.OpenSpec.upto Rows.publisherSoundSpec) (k:=Rows.uptoSmall) rfl own started (by kernel_rfl) Tryz.func3
  (OpenSpec.witness (enc:=enc) (C:=Tryz.checked) (s:=Rows.OpenSpec.upto Rows.publisherSoundSpec) (k:=Rows.uptoSmall) rfl false ⟨#[],#[(.int .i64 0),(.int .i64 0),(.slice none 0 0),(.int .u16 0)],[]⟩ 24 (by kernel_rfl) (by kernel_rfl) (by kernel_rfl)
   (x:=([(.lit (.int .i64 0)),(.lit (.int .i64 0)),.nil,(.lit (.int .u16 0))],[],[])) (by kernel_rfl) rfl (by kernel_rfl)) ?_
 intro W base args ds gs before hval hW _ hk _;have hW0:DataW.Whole enc Tryz.prog Tryz.f3.params.toList (Rows.publisherSoundSpec).vars false W args.toList ds gs before:=hW;have hg:gs=[]:=by
  obtain⟨p,q,hA,hV,_⟩:=hW0;cases gs with
  | nil=>rfl
  | cons=>simp[Rows.publisherSoundSpec,DataW.TrodVars]at hV
 refine law_calls isBulk hval hW0 (pars:=zkm) (by kernel_rfl) rfl (by obtain⟨p,q,hA,_⟩:=hW0;exact zpV (by kernel_rfl) hA hg) laidOut mapsLaid slicesFull (by kernel_rfl) (tb:=4) (by kernel_rfl) (by kernel_rfl) fun xs has=>zsg xs _ ?_ has;have:=small hk;rw[hg,List.append_nil]at this;exact this
theorem publisherSound_upto:Rows.PublisherSoundUptoSaid:=
 OpenClaim.holds_of_cond 3 Tryz.f3 rfl rfl rfl rfl rfl rfl rfl ⟨rfl,rfl,rfl,rfl,rfl⟩ rfl rfl rfl rfl rfl (by kernel_rfl) Tryz.func3 (by unfold joinedFacts;rw[any_loops,any_loops]<;>kernel_rfl)
  (of_decide_eq_true (by kernel_rfl)) (by unfold Func.isWrapper;first|(rw[if_pos (by decide +kernel)];kernel_rfl)|(rw[if_neg (by decide +kernel)];exact⟨rfl,rfl⟩))
  (fun os started H enc _ F=>zoE os started H enc F)
end Go.Proofs.YtdgcepphjnoalaaGreat

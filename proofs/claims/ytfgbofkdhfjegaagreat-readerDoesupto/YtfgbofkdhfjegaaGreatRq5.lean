/- Contracts: what the document says of sealed requests. -/
import Derived.Test.YtfgbofkdhfjegaaGreatSpChk
import Derived.Test.YtfgbofkdhfjegaaGreatMk3
import Derived.Test.YtfgbofkdhfjegaaGreatRq2
import Derived.Test.YtfgbofkdhfjegaaGreatCl1
import Derived.Test.YtfgbofkdhfjegaaGreatSh
import Derived.Test.YtfgbofkdhfjegaaGreatAwEnd
set_option linter.all false
set_option maxRecDepth 100000
namespace Go.Proofs.YtfgbofkdhfjegaaGreat
open Go.AW
theorem c_rqrKey {σ:List zh} {c:Int} {K:KT} (hK:K (.d (.int .i64 (keyF c))) σ):zp Tryz.prog znt [.d (.int .i64 c)] σ K:=c_rKey hK
theorem c_rqrSeal {σ:List zh} {id id2:Nat} {L:List (List UInt8)} {G:List zR} {x:zt} (hT : σ[id]? = some (rtO L)) (hG : σ[id2]? = some (rlO G)) (h1:id≠id2) (hL:zne L) (hGl:G.length<=1073741824)
  (hx:zlI x.op<=20971520) {K:KT}
  (hK:K (.tup [zkz (znh L x),.d (.int .i64 (zwj L x))]) ((σ.set id (rtO (zrK L x))).set id2 (rlO (zum L G x)))):zp Tryz.prog zos [.box id 0,.box id2 0,reqA x] σ K:=by
 refine acE3 e_r08_Seal fun hl => ?_
 have hsz:=sizes hx
 simp only [zxR,iN,bT,bF,eN,zl8,reqA]
 refine gq1 ?_
 refine zxu (x:=x) hx ?_
 by_cases hc:zaF x=0
 ·have hb:(zaF x != 0)=false:=by simpa using hc
  have hrl:=ztQ (x:=x) (by omega) hc
  refine gq2 hb ?_
  refine c_rqrKey ?_
  rw [show zhK x=ztR x from if_pos hc]
  refine gq1 ?_
  refine zmo (zf hT) (by omega) hL.len ?_
  rw [zcg hT]
  simp only [zrK,zum,hc,ne_eq,not_true_eq_false,if_false] at hK
  have e1:zwj L x=zfb (keyF x.client) (zdX L (ztR x)):=by rw [zwj,if_neg (by simpa using hc)]
  rw [e1] at hK
  have hl1:zgh σ.length (σ.set id (rtO (zfD L (ztR x)))):=hl.setO (zgl _ _)
  have hs1:(σ.set id (rtO (zfD L (ztR x)))).length = σ.length:=by simp
  have hG1:(σ.set id (rtO (zfD L (ztR x))))[id2]? = some (rlO G):=by rw [List.getElem?_set_ne h1];exact hG
  obtain ⟨S1,hS1⟩:∃ S1, σ.set id (rtO (zfD L (ztR x)))=S1:=⟨_,rfl⟩
  rw [hS1] at hK hG1 hs1 hl1 ⊢
  have r1 : σ.length=S1.length:=hs1.symm
  refine gq2 r1 ?_
  refine c_rgSign (zf hG1) hGl ?_
  rw [zcg hG1]
  obtain ⟨N,hN⟩:∃ N,zfb (keyF x.client) (zdX L (ztR x))=N:=⟨_,rfl⟩
  have hl2:zgh σ.length (S1.set id2 (rlO (zgy G (keyF x.client) (zdX L (ztR x))))):=hl1.setO (rlO_low _ _)
  have hs2:(S1.set id2 (rlO (zgy G (keyF x.client) (zdX L (ztR x))))).length=S1.length:=by simp
  obtain ⟨S2,hS2⟩:∃ S2,S1.set id2 (rlO (zgy G (keyF x.client) (zdX L (ztR x))))=S2:=⟨_,rfl⟩
  rw [hS2] at hK hs2 hl2 ⊢
  have r2 : σ.length=S2.length:=by rw [r1];exact hs2.symm
  have r3:S1.length=S2.length:=hs2.symm
  rw [r2] at hl2
  rw [hN] at hK ⊢
  simp only [zyk]
  by_cases hN0:N=0
  ·have hq:(N != 0)=false:=by simpa using hN0
   have e2:znh L x=⟨x.client,x.time,x.op,keyF x.client,zdX L (ztR x)⟩:=by rw [znh,if_pos (by rw [e1,hN,hN0])]
   have e3:signR (keyF x.client) (zdX L (ztR x))=⟨keyF x.client,zdX L (ztR x)⟩:=by rw [signR,if_pos (by rw [hN,hN0])]
   rw [e2] at hK
   rw [e3]
   refine gq2 (zg hq (zg r2 r3)) ?_
   rw [hN0] at hK
   refine zeZ rfl ?_ hl2 ?_
   ·simp [zfz,dmT,dm,dm1,zcJ,zcb,zfL]
   ·exact hK
  ·have hq:(N != 0)=true:=by simpa using hN0
   have e2:znh L x=noSg:=by rw [znh,if_neg (by rw [e1,hN];exact hN0)]
   rw [e2] at hK
   rw [show signR (keyF x.client) (zdX L (ztR x))=⟨0, 0⟩ from by rw [signR,if_neg (by rw [hN];exact hN0)]]
   refine gq2 (zg hq (zg r2 r3)) ?_
   refine zeZ rfl ?_ hl2 ?_
   ·simp [zfz,dmT,dm,dm1,zcJ,zcb,zfL]
   ·exact hK
 ·have hb:(zaF x != 0)=true:=by simpa using hc
  have e1:zwj L x=zaF x:=if_pos hc
  have e2:znh L x=noSg:=by rw [znh,if_neg (by rw [e1];exact hc)]
  rw [e1,e2,zrK,zum,if_pos hc,if_pos hc,zbF hT,zbF hG] at hK
  refine gq2 hb ?_
  refine zI hl ?_
  exact hK
theorem c_rqrDigest {σ:List zh} {id:Nat} {L:List (List UInt8)} {l:List zt} (hT : σ[id]? = some (rtO L)) (hL:zne L)
  (hx:∀ s∈l,zlI s.op<=20971520) (hll:l.length<=1073741824) {K:KT} (hK:K (.tup [.d (.int .i64 (digD L l)),.d (.int .i64 (digE L l))]) (σ.set id (rtO (zmm L l)))) :
  zp Tryz.prog znu [.box id 0,.d (.slice (zda l))] σ K:=by
 refine zeW e_r08_Digest fun hl => ?_
 have hok:okB l:=⟨hll,fun s hs=>sizes (hx s hs)⟩
 simp only [zte,iN,bT,bF,eN]
 refine gq1 ?_
 refine zra hok ?_
 by_cases hc:zad l=0
 ·have hq:(zad l != 0)=false:=by simpa using hc
  have hbl:=zpe hx
  have hc':¬ zad l≠0:=by simpa using hc
  rw [show digD L l=zdX L (zlp l) from if_neg hc',show zmm L l=zfD L (zlp l) from if_neg hc',show digE L l=if zdX L (zlp l)=0 then 6 else 0 from if_neg hc'] at hK
  refine gq2 hq ?_
  refine c_rPutBatch (b := []) (by simp) hx hll ?_
  rw [List.nil_append,show zgt l=zlp l from if_pos hc] at *
  refine gq1 ?_
  refine zmo hT (by omega) hL.len ?_
  have hl1:zgh σ.length (σ.set id (rtO (zfD L (zlp l)))):=hl.setO (zgl _ _)
  by_cases h0:zdX L (zlp l)=0
  ·rw [if_pos h0] at hK
   rw [h0] at hK ⊢
   refine gq5 ?_
   refine zhT (by simp) ?_ hl1 ?_
   ·simp [zfz,dmT,dm,dm1,zcJ,zcb]
   ·exact hK
  ·rw [if_neg h0] at hK
   have h0':(zdX L (zlp l)==0)=false:=by simpa using h0
   refine gq2 h0' ?_
   refine zhT (by simp) ?_ hl1 ?_
   ·simp [zfz,dmT,dm,dm1,zcJ,zcb]
   ·exact hK
 ·have hq:(zad l != 0)=true:=by simpa using hc
  rw [digD,digE,zmm,if_pos hc,if_pos hc,if_pos hc,zbF hT] at hK
  refine gq2 hq ?_
  refine zI hl ?_
  exact hK
theorem c_auMay {σ:List zh} {a b c d:Int} {K:KT} (hK:K (.d (.bool (zse a b c d))) σ) :
  zp Tryz.prog zsc [.d (.int .i64 a),.d (.int .i64 b),.d (.int .i64 c),.d (.int .i64 d)] σ K:=by
 refine acE4 e_auth_may fun hl => ?_
 rw [mayV_all] at hK
 simp only [zye,iN,bT,bF,eN]
 refine gq1 ?_
 have hg:∀ (k:Nat) x,[a,b,c,d][k]? = some x → [[D.int .i64 a],[D.int .i64 b],[D.int .i64 c],[D.int .i64 d]][k]? = some [D.int .i64 x]:=fun k x h=>by
  have:=zK (f:=fun t => [D.int .i64 t]) h
  simpa using this
 have hl4 : [a,b,c,d].length=4:=rfl
 obtain ⟨l,hlq⟩:∃ l,[a,b,c,d]=l:=⟨_,rfl⟩
 rw [hlq] at hK hl4 hg
 refine zo 4 (fun k vs s=>vs = [.d (.int .i64 k)]/\(∃ T,s = σ++T)/\(l.take k).all zdB=true) ⟨rfl,⟨[],(List.append_nil σ).symm⟩,by simp⟩ ?_
 rintro k vs s hk ⟨rfl,⟨T,rfl⟩,hok⟩
 by_cases hlt:k<4
 ·have hd:decide ((k:Int)<((4:Nat):Int))=true:=by simp;omega
  have hx:l[k]? = some (l[k]'(by omega)):=List.getElem?_eq_getElem _
  have hgx:=hg k _ hx
  obtain ⟨x,hxe⟩:∃ x,(l[k]'(by omega))=x:=⟨_,rfl⟩
  rw [hxe] at hx hgx
  have bad:zdB x=false->l.all zdB=false:=fun h=>by
   rw [Bool.eq_false_iff]
   intro hall
   have:=List.all_eq_true.1 hall x (List.mem_of_getElem? hx)
   rw [h] at this;cases this
  have hx2:zdB x=(decide (0<=x)&&decide (x<=9007199254740992)):=by simp [zdB]
  cases h1:decide (x<0)
  ·cases h2:decide (x > 9007199254740992)
   ·refine gq2 (zg hd (zg hgx (zg h1 (zg h2 (wki k (by omega)))))) ?_
    refine zas.next hlt ⟨rfl,⟨_,rfl⟩,?_⟩
    rw [List.take_add_one,hx]
    simp only [List.all_append,hok,Option.toList_some,List.all_cons,List.all_nil,Bool.true_and,Bool.and_true]
    simp at h1 h2
    simp [zdB];omega
   ·rw [bad (by simp at h2;simp [zdB];omega)] at hK
    refine gq2 (zg hd (zg hgx (zg h1 h2))) ?_
    refine zI hl ?_
    exact hK
  ·rw [bad (by simp at h1;simp [zdB];omega)] at hK
   refine gq2 (zg hd (zg hgx h1)) ?_
   refine zI hl ?_
   exact hK
 ·have hd:decide ((k:Int)<((4:Nat):Int))=false:=by simp;omega
  rw [List.take_of_length_le (by omega)] at hok
  rw [hok] at hK
  refine gq2 hd ?_
  refine zI hl ?_
  exact hK
theorem c_auPut {σ:List zh} {b:List UInt8} {l:List Int} (hb:b.length<=1000000) (hl0:l.length<=1000) (hi:∀ x∈l, 0<=x/\x<=9007199254740992) {K:KT} (hK:K (.d (.slice (bcs (b++ziU l)))) σ) :
  zp Tryz.prog zsb [.d (.slice (bcs b)),.d (.slice (zcH l))] σ K:=by
 refine zeW e_auth_put fun hl => ?_
 simp only [zyd,iN,bT,bF,eN]
 refine gq1 ?_
 refine zo l.length (fun k vs s=>(∃ x,vs = [x,.d (.int .i64 k)]/\(x = .d (.slice (bcs (b++ziU (l.take k))))∨∃ t,x = .own t (bcs (b++ziU (l.take k)))))/\∃ T,s = σ++T) ⟨⟨_,rfl,.inl (by simp [ziU])⟩,[],by simp⟩ ?_
 rintro k vs s hk ⟨⟨y,rfl,hy⟩,T,rfl⟩
 have hdy:dm y = .d (.slice (bcs (b++ziU (l.take k)))):=by
  rcases hy with rfl|⟨t,rfl⟩<;>rfl
 by_cases hlt:k<l.length
 ·have hd:decide ((k:Int)<(l.length:Int))=true:=by simp;omega
  have hx:l[k]? = some l[k]:=by simp [hlt]
  have hxi:=hi _ (List.getElem_mem hlt)
  have hgx:=zK (f:=fun t => [D.int .i64 t]) hx
  obtain ⟨x,hxe⟩:∃ x,l[k]=x:=⟨_,rfl⟩
  rw [hxe] at hx hgx hxi
  have hm1:(if x > 0 then x else 0)=x:=by split<;>omega
  have hm2:(if 0<x then x else 0)=x:=by split<;>omega
  have hw:IntKind.u64.wrap x=((x.toNat:Nat):Int):=by
   rw [show x=((x.toNat:Nat):Int) by omega,zdm (by omega)];rfl
  have hln:=znl (l:=l.take k) (fun y hy=>by have:=hi y (List.mem_of_mem_take hy);omega)
  have hlk:(l.take k).length=k:=by rw [List.length_take];omega
  have hw2:IntKind.i64.wrap ((k:Int)+1)=((k+1:Nat):Int):=by rw [zU (by omega) (by omega)];rfl
  have hbl:(b++ziU (l.take k)).length<=1073741824:=by rw [List.length_append];omega
  rcases hy with rfl|⟨t,rfl⟩
  ·refine gq2 (zg hd (zg hgx (zg hm1 (zg hm2 hw)))) ?_
   refine zmu (by omega) hbl ?_
   refine gq2 hw2 ?_
   exact zas.next hlt ⟨⟨_,rfl,.inr ⟨_,by rw [zoo hx]⟩⟩,_,rfl⟩
  ·refine gq2 (zg hd (zg hgx (zg hm1 (zg hm2 hw)))) ?_
   refine zmu (by omega) hbl ?_
   refine gq2 hw2 ?_
   exact zas.next hlt ⟨⟨_,rfl,.inr ⟨_,by rw [zoo hx]⟩⟩,_,rfl⟩
 ·have hd:decide ((k:Int)<(l.length:Int))=false:=by simp;omega
  rw [List.take_of_length_le (by omega)] at hy
  rcases hy with rfl|⟨t,rfl⟩
  ·refine gq2 hd ?_
   refine zI hl ?_
   exact hK
  ·refine gq2 hd ?_
   refine zI hl ?_
   exact hK
theorem may_all {a b c d:Int} (h:zse a b c d=true):∀ x∈[a,b,c,d], 0<=x/\x<=9007199254740992:=by
 rw [mayV_all,List.all_eq_true] at h
 exact fun x hx=>zfM.1 (h x hx)
theorem zzn {σ:List zh} {a b c d:Int} (h:zse a b c d=true) {K:KT} (hK:K (.d (.slice (bcs (zgA a b c d)))) σ) :
  zp Tryz.prog zij [.d (.int .i64 a),.d (.int .i64 b),.d (.int .i64 c),.d (.int .i64 d)] σ K:=by
 refine acE4 ztJ fun hl => ?_
 simp only [zmS,iN,bT,bF,eN]
 refine gq1 ?_
 refine c_auPut (b := [4]) (l := [a,b,c,d]) (by simp) (by simp) (may_all h) ?_
 refine gq1 ?_
 refine zI hl ?_
 exact hK
theorem c_auMade {σ:List zh} {id m t id2 m2 t2:Nat} {l:List (List UInt8)} {g:List zR} (hT:zdH σ id m t l) (hG:zeY σ id2 m2 t2 g) (hL:zne l) (hg:g.length<=1073741824) {K:KT}
  (hK:K (.d (.bool true)) σ):zp Tryz.prog zpF [.box id 0,.box id2 0] σ K:=by
 refine zeW e_auth_made fun hl => ?_
 simp only [zwc,iN,bT,bF,eN]
 refine gq1 ?_
 refine zqY hT hL.nd hL.len hL.each ?_
 refine gq1 ?_
 refine zrf (hG.app _) hg fun g' => ?_
 refine gq1 ?_
 refine zI hl ?_
 exact hK
theorem c_auSigned {σ:List zh} {id m t id2 m2 t2:Nat} {L:List (List UInt8)} {G:List zR} {s:zR} {key:Int} {b:List UInt8} (hT:zdH σ id m t L) (hG:zeY σ id2 m2 t2 G) {K:KT}
  (hK:K (.d (.bool (zhk L G s key b))) σ):zp Tryz.prog zmb [.box id 0,.box id2 0,.agg [.d (.int .i64 s.key),.d (.int .i64 s.dig)],.d (.int .i64 key),.d (.slice (bcs b))] σ K:=by
 refine acE5 zyP fun hl => ?_
 have hT1:=fun τ=>hT.app τ
 have hG1:=fun τ=>hG.app τ
 simp only [zrz,iN,bT,bF,eN]
 refine gq1 ?_
 refine zqa (hT1 _) ?_
 have fin:∀ z,zhk L G s key b=z->K (.d (.bool z)) σ:=fun z h=>h▸hK
 clear hK
 cases hlk:zdf L b with
 | none=>
  refine gq5 ?_
  refine zI hl ?_
  exact fin _ (by simp [zhk,hlk])
 | some i=>
  simp only [zjl]
  cases h1:(s.key==key)
  ·refine gq8 h1 ?_
   refine zI hl ?_
   exact fin _ (by simp at h1;simp [zhk,hlk,h1])
  ·cases h2:(s.dig==((i+1:Nat):Int))
   ·refine gq8 (zg h1 h2) ?_
    refine zI hl ?_
    exact fin _ (by simp at h1 h2;simp [zhk,hlk,h1];omega)
   ·refine gq8 (zg h1 h2) ?_
    refine c_gSigned (s:=s) (hG1 _) ?_
    refine gq1 ?_
    refine zI hl ?_
    exact fin _ (by simp at h1 h2;simp [zhk,hlk,h1,h2])
theorem zzo {σ:List zh} {id m t id2 m2 t2:Nat} {L:List (List UInt8)} {G:List zR} {s:zR} {key a b c d:Int} (hT:zdH σ id m t L) (hG:zeY σ id2 m2 t2 G) (hL:zne L) (hg:G.length<=1073741824) {K:KT}
  (hK:K (.d (.bool (zkL L G s key a b c d))) σ) :
  zp Tryz.prog zik [.box id 0,.box id2 0,.agg [.d (.int .i64 s.key),.d (.int .i64 s.dig)],.d (.int .i64 key),.d (.int .i64 a),.d (.int .i64 b),.d (.int .i64 c),.d (.int .i64 d)] σ K:=by
 refine acE8 ztK fun hl => ?_
 simp only [zmT,iN,bT,bF,eN]
 refine gq1 ?_
 refine c_auMade (hT.app _) (hG.app _) hL hg ?_
 refine gq1 ?_
 refine c_auMay ?_
 cases hm:zse a b c d
 ·rw [zkL,hm,Bool.false_and] at hK
  refine gq1 ?_
  refine zI hl ?_
  exact hK
 ·rw [zkL,hm,Bool.true_and] at hK
  refine gq1 ?_
  refine zzn hm ?_
  refine gq1 ?_
  refine c_auSigned (s:=s) (hT.app _) (hG.app _) ?_
  refine gq1 ?_
  refine zI hl ?_
  exact hK
end Go.Proofs.YtfgbofkdhfjegaaGreat

/- What a new view goes on with. No program in sight. -/
namespace Go.AW
def zcZ (f:Int):Int:=if f<1∨f > 4 then 120 else 0
def zcA (n f:Int):Int:=if f<1∨f > 4 then 0 else n*f+1
end Go.AW

/- Contracts: how many brokers there are, and a quorum has. -/
set_option maxRecDepth 100000
namespace Go.Proofs.YtfgbofkdhfjegaaGreat
open Go.AW
theorem zmh {A B:Prop} (a:A) (b:B):A/\B:=⟨a,b⟩
theorem gq40 {A P Q:Prop} (a:A) (h:Q) (e:A->P=Q:=by intro a;simp -dsimp only [↓zeU, ↓zaA, ↓zbp, ↓zeV, ↓zeO, ↓zeM, ↓zeP, ↓zeN, ↓zbu, ↓zbq, ↓zbv, ↓zbr, ↓zeQ, ↓zbo, ↓zbw, ↓zbs, ↓zbx, ↓zbt, ↓zeL, ↓zeT, ↓zbn, ↓zby, ↓zeG, ↓zeF, ↓zeK,iN,bT,bF,eN, ↓zco, ↓unC, ↓zX, ↓zM, ↓zN, ↓zQ, ↓zZ, ↓zai, ↓zcv, ↓zaf, ↓zaS, ↓zV, ↓zl, ↓zm, ↓zbg, ↓ze, ↓zae, ↓zC, ↓zaM, ↓zaT, ↓zd, ↓zA, ↓zr, ↓zD, ↓zao, ↓zcY, ↓zdn, ↓zap, ↓zaw, ↓zaN, ↓zaZ, ↓zbk, ↓zw, ↓zaj, ↓zO, ↓zE, ↓zY,zdr,zbm,zbl,unA,zdo,bnd,zdL,zab,zS,zdI,dm,dm1,zG,zak,zdZ,zdY,zH,Q0,Q1,Q2,Q3,Q4,Q5,zW,zx,zy,zT,zL,Q6,Q7,Q8,Q9,Q10,Q11,Q12,Q13,Q14,Nat.reduceAdd,Q15,Int.reduceToNat,Q16,Q17,Q18,Q19,Q20,reduceIte,Q21,Q22,zF,rep,zaa,zeC,toD,zag,Q23,Q24,Q25,Q26,Q27,Q28,Nat.reduceLeDiff,Q29,Nat.reduceSub,Q30,Q31,Q32,sc,Q33,Q34,Q35,a];rfl):P:=(e a).mpr h
theorem zrc {σ:List zh} {f:Int} {K:KT} (hK:K (.d (.int .i64 (zcZ f))) σ):zp Tryz.prog zeD [.d (.int .i64 f)] σ K:=by
 refine zfc zwv fun hl => ?_
 simp only [zpl,iN,bT,bF,eN]
 cases h1:decide (f<1)<;>cases h2:decide (f > 4)
 all_goals
  (refine gq40 (zmh h1 h2) ?_;try with_reducible exact True.intro)
  refine zI hl ?_
  simp only [decide_eq_true_eq,decide_eq_false_iff_not] at h1 h2
 ·rw [zcZ,if_neg (by omega)] at hK;exact hK
 all_goals (rw [zcZ,if_pos (by omega)] at hK;exact hK)
theorem znN {σ:List zh} {f:Int} {K:KT} (hK:K (.d (.int .i64 (zcZ f))) σ):zp Tryz.prog zgn [.d (.int .i64 f)] σ K:=by
 refine zfc e_r12_Check fun hl => ?_
 simp only [zvK,iN,bT,bF,eN]
 cases h1:decide (f<1)<;>cases h2:decide (f > 4)
 all_goals
  (refine gq40 (zmh h1 h2) ?_;try with_reducible exact True.intro)
  refine zI hl ?_
  simp only [decide_eq_true_eq,decide_eq_false_iff_not] at h1 h2
 ·rw [zcZ,if_neg (by omega)] at hK;exact hK
 all_goals (rw [zcZ,if_pos (by omega)] at hK;exact hK)
theorem gq41 {P Q:Prop} (h:Q) (e:P=Q:=by simp -dsimp only [↓zeU, ↓zaA, ↓zbp, ↓zeV, ↓zeO, ↓zeM, ↓zeP, ↓zeN, ↓zbu, ↓zbq, ↓zbv, ↓zbr, ↓zeQ, ↓zbo, ↓zbw, ↓zbs, ↓zbx, ↓zbt, ↓zeL, ↓zeT, ↓zbn, ↓zby, ↓zeG, ↓zeF, ↓zeK,iN,bT,bF,eN, ↓zco, ↓unC, ↓zX, ↓zM, ↓zN, ↓zQ, ↓zZ, ↓zai, ↓zcv, ↓zaf, ↓zaS, ↓zV, ↓zl, ↓zm, ↓zbg, ↓ze, ↓zae, ↓zC, ↓zaM, ↓zaT, ↓zd, ↓zA, ↓zr, ↓zD, ↓zao, ↓zcY, ↓zdn, ↓zap, ↓zaw, ↓zaN, ↓zaZ, ↓zbk, ↓zw, ↓zaj, ↓zO, ↓zE, ↓zY,zdr,zbm,zbl,unA,zdo,bnd,zdL,zab,zS,zdI,dm,dm1,zG,zak,zdZ,zdY,zH,Q0,Q1,Q2,Q3,Q4,Q5,zW,zx,zy,zT,zL,Q6,Q7,Q8,Q9,Q10,Q11,Q12,Q13,Q14,Nat.reduceAdd,Q15,Int.reduceToNat,Q16,Q17,Q18,Q19,Q20,reduceIte,Q21,Q22,zF,rep,zaa,zeC,toD,zag,Q23,Q24,Q25,Q26,Q27,Q28,Nat.reduceLeDiff,Q29,Nat.reduceSub,Q30,Q31,Q32,sc,Q33,Q34,Q35];rfl):P:=e.mpr h
theorem c_times {σ:List zh} {n f:Int} (hn:0<=n/\n<=3) {K:KT} (hK:K (.d (.int .i64 (zcA n f))) σ):zp Tryz.prog zhE [.d (.int .i64 n),.d (.int .i64 f)] σ K:=by
 refine zeW zwu fun hl => ?_
 simp only [zpk,iN,bT,bF,eN]
 (refine gq41 ?_;try with_reducible exact True.intro)
 refine zrc ?_
 by_cases h:f<1∨f > 4
 ·rw [zcA,if_pos h] at hK
  rw [zcZ,if_pos h]
  (refine gq40 (show ((120:Int) != 0)=true from rfl) ?_;try with_reducible exact True.intro)
  refine zI hl ?_
  exact hK
 ·rw [zcA,if_neg h] at hK
  rw [zcZ,if_neg h]
  have h1:0<=n*f:=Int.mul_nonneg hn.1 (by omega)
  have h2:n*f<=3*4:=Int.mul_le_mul hn.2 (by omega) (by omega) (by omega)
  have w1:IntKind.i64.wrap (n*f)=n*f:=zU (by omega) (by omega)
  have w2:IntKind.i64.wrap (n*f+1)=n*f+1:=zU (by omega) (by omega)
  (refine gq40 (zmh (show ((0:Int) != 0)=false from rfl) (zmh w1 w2)) ?_;try with_reducible exact True.intro)
  refine zI hl ?_
  exact hK
theorem c_quBig {σ:List zh} {f:Int} {K:KT} (hK:K (.d (.int .i64 (zcA 2 f))) σ):zp Tryz.prog znx [.d (.int .i64 f)] σ K:=by
 refine zfc e_quorum_Big fun hl => ?_
 simp only [ztj,iN,bT,bF,eN]
 (refine gq41 ?_;try with_reducible exact True.intro)
 refine c_times (by omega) ?_
 (refine gq41 ?_;try with_reducible exact True.intro)
 refine zI hl ?_
 exact hK
theorem zvr {σ:List zh} {f:Int} {K:KT} (hK:K (.d (.int .i64 (zcA 3 f))) σ):zp Tryz.prog zfZ [.d (.int .i64 f)] σ K:=by
 refine zfc ztD fun hl => ?_
 simp only [zmJ,iN,bT,bF,eN]
 (refine gq41 ?_;try with_reducible exact True.intro)
 refine c_times (by omega) ?_
 (refine gq41 ?_;try with_reducible exact True.intro)
 refine zI hl ?_
 exact hK
theorem zsy {σ:List zh} {f:Int} {K:KT} (hK:K (.d (.int .i64 (zcA 3 f))) σ):zp Tryz.prog zgF [.d (.int .i64 f)] σ K:=by
 refine zfc zyF fun hl => ?_
 simp only [zrn,iN,bT,bF,eN]
 (refine gq41 ?_;try with_reducible exact True.intro)
 refine znN ?_
 by_cases h:f<1∨f > 4
 ·rw [zcA,if_pos h] at hK
  rw [zcZ,if_pos h]
  (refine gq40 (show ((120:Int) != 0)=true from rfl) ?_;try with_reducible exact True.intro)
  refine zI hl ?_
  exact hK
 ·rw [zcA,if_neg h] at hK
  rw [zcZ,if_neg h]
  have w1:IntKind.i64.wrap (3*f)=3*f:=zU (by omega) (by omega)
  have w2:IntKind.i64.wrap (3*f+1)=3*f+1:=zU (by omega) (by omega)
  (refine gq40 (zmh (show ((0:Int) != 0)=false from rfl) (zmh w1 w2)) ?_;try with_reducible exact True.intro)
  refine zI hl ?_
  exact hK
theorem c_rBig {σ:List zh} {f:Int} {K:KT} (hK:K (.d (.int .i64 (zcA 2 f))) σ):zp Tryz.prog zuv [.d (.int .i64 f)] σ K:=by
 refine zfc e_r12_Big fun hl => ?_
 simp only [S_r12_Big,iN,bT,bF,eN]
 (refine gq41 ?_;try with_reducible exact True.intro)
 refine znN ?_
 by_cases h:f<1∨f > 4
 ·rw [zcA,if_pos h] at hK
  rw [zcZ,if_pos h]
  (refine gq40 (show ((120:Int) != 0)=true from rfl) ?_;try with_reducible exact True.intro)
  refine zI hl ?_
  exact hK
 ·rw [zcA,if_neg h] at hK
  rw [zcZ,if_neg h]
  have w1:IntKind.i64.wrap (2*f)=2*f:=zU (by omega) (by omega)
  have w2:IntKind.i64.wrap (2*f+1)=2*f+1:=zU (by omega) (by omega)
  (refine gq40 (zmh (show ((0:Int) != 0)=false from rfl) (zmh w1 w2)) ?_;try with_reducible exact True.intro)
  refine zI hl ?_
  exact hK
end Go.Proofs.YtfgbofkdhfjegaaGreat

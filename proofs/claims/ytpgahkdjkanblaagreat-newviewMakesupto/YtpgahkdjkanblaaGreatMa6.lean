/- Contract: the new view that its primary tells, the program's. -/
import Derived.Test.YtpgahkdjkanblaaGreatMa4
import Derived.Test.YtpgahkdjkanblaaGreatPt2
import Derived.Test.YtpgahkdjkanblaaGreatNv2
set_option linter.all false
set_option maxRecDepth 100000
namespace Go.Proofs.YtpgahkdjkanblaaGreat
open Go.AW
def zng (L:List (List UInt8)) (G:List zK) (f view:Int) (cs:List zU):MakeR :=
 if zlY f view cs ≠ 0 then ⟨zeW,zlY f view cs,L,G⟩
 else if cs.all (zdr L G f view)=false then ⟨zeW, 161,L,G⟩
 else
  if (zca (zcf f view) (zkh f view (cs.take (zaW 2 f).toNat)).2.1 L G []).e ≠ 0 then
   ⟨zeW,(zca (zcf f view) (zkh f view (cs.take (zaW 2 f).toNat)).2.1 L G []).e,(zca (zcf f view) (zkh f view (cs.take (zaW 2 f).toNat)).2.1 L G []).L,(zca (zcf f view) (zkh f view (cs.take (zaW 2 f).toNat)).2.1 L G []).G⟩
  else zlO (zca (zcf f view) (zkh f view (cs.take (zaW 2 f).toNat)).2.1 L G []).L (zca (zcf f view) (zkh f view (cs.take (zaW 2 f).toNat)).2.1 L G []).G
   (zsa f view (cs.take (zaW 2 f).toNat) (zca (zcf f view) (zkh f view (cs.take (zaW 2 f).toNat)).2.1 L G []).out)
structure zve (x:zbL):Prop where
 ops:∀ s ∈ x.batch,zlh s.op<=20971520
 many:x.batch.length<=1073741824
theorem zve.okB {x:zbL} (h:zve x):okB x.batch/\zti x :=
 ⟨⟨h.many,fun s hs=>ztj (h.ops s hs)⟩,⟨h.many,fun s hs=>by have:=ztj (h.ops s hs);exact ⟨this.2.2.1,this.2.2.2⟩⟩⟩
theorem entX_ok {L:List (List UInt8)} {key:Int} {x:zbL} (h:zve x):zve (entX L key x):=by
 unfold entX
 split
 ·exact ⟨by simp [noEn],by simp [noEn]⟩
 ·exact ⟨h.ops,h.many⟩
theorem zpC {cs:List zU} (hl:cs.length<=1048576) (h:∀ c ∈ cs,zsO c):zxR cs :=
 ⟨by omega,fun c hc=>⟨(h c hc).small.signs,(h c hc).small.above,fun p hp=>(zve.okB (x:=⟨0, 0,p.batch, 0, 0⟩) ⟨((h c hc).each p hp).ops,((h c hc).each p hp).batch⟩).2⟩⟩
theorem zzC {f view:Int} {cs:List zU} (h:∀ c ∈ cs,zsO c):(zkh f view cs).2.1.length<=8/\∀ x ∈ (zkh f view cs).2.1,zve x:=by
 unfold zkh
 split
 ·exact ⟨by simp,by simp⟩
 ·simp only
  split
  ·exact ⟨by simp,by simp⟩
  ·refine ⟨?_,?_⟩
   ·have:=zvM (zco (zbW cs cs.length)) (zjW cs cs.length).seq
    simpa [zin] using this
   ·intro x hx
    simp only [zin,List.mem_map,List.mem_range] at hx
    obtain ⟨n,_,rfl⟩:=hx
    simp only [zxD]
    cases ho:zrO (zbW cs cs.length) ((zjW cs cs.length).seq+n+1) with
    | none=>exact ⟨by simp [ztY],by simp [ztY]⟩
    | some p =>
     obtain ⟨c,hc,hp⟩:=zrg (latF_seq ho).2
     exact ⟨((h c hc).each p hp).ops,((h c hc).each p hp).batch⟩
theorem zrh {f view:Int} {cs:List zU} {xs:List zbL} (h1:cs.length<=1048576) (h2:∀ c ∈ cs,zsO c) (h3:xs.length<=8) (h4:∀ x ∈ xs,zve x):zbP (zsa f view cs xs):=by
 obtain ⟨n1,n2,n3,n4,n5,n6,n7,n8,n9,n10⟩:=zfQ
 exact ⟨n1,n2,n3,by simp only [zsa];omega,fun c hc=>⟨(h2 c hc).ok,(h2 c hc).small⟩,by simp only [zsa];omega,fun x hx=>(h4 x hx).okB,n8,n9,n10⟩
theorem zzD (f view:Int) (cs:List zU):(zkh f view cs).2.2=zlY f view cs:=by
 unfold zkh
 split
 ·rfl
 ·rename_i h
  have h0:zlY f view cs=0:=by simpa using h
  rw [h0]
  simp only
  split <;> rfl
structure zAt (key:Int) (xs:List zbL) (L:List (List UInt8)) (G:List zK) (k:Nat) (Lk:List (List UInt8)) (Gk:List zK) (out:List zbL):Prop where
 eq:zca key xs L G []=zca key (xs.drop k) Lk Gk out
 tab:znT Lk
 led:Gk.length<=G.length+k
 len:out.length=k
 ok:∀ x ∈ out,zve x
theorem zAt.next {key:Int} {xs:List zbL} {L:List (List UInt8)} {G:List zK} {k:Nat} {Lk:List (List UInt8)} {Gk:List zK} {out:List zbL} (h:zAt key xs L G k Lk Gk out) {x:zbL} (hx:xs[k]? = some x) (hok:zve x) (he:zlo Lk key x=0) :
  zAt key xs L G (k+1) (zsp Lk x) (zsq Lk Gk key x) (out++[entX Lk key x]):=by
 obtain ⟨h1,h2,h3,h4,h5⟩:=h
 have hk:=(List.getElem?_eq_some_iff.1 hx).1
 have e:xs.drop k=x :: xs.drop (k+1):=by rw [List.drop_eq_getElem_cons hk,(List.getElem?_eq_some_iff.1 hx).2]
 refine ⟨?_,h2.ent hok.ops,?_,by simp [h4],?_⟩
 ·rw [h1,e,zca,if_neg (by simp [he])]
 ·have:=entG_len Lk Gk key x;omega
 ·intro y hy
  rcases List.mem_append.1 hy with hy | hy
  ·exact h5 y hy
  ·simp only [List.mem_singleton] at hy
   subst hy
   exact entX_ok hok
theorem zAt.bad {key:Int} {xs:List zbL} {L:List (List UInt8)} {G:List zK} {k:Nat} {Lk:List (List UInt8)} {Gk:List zK} {out:List zbL} (h:zAt key xs L G k Lk Gk out) {x:zbL} (hx:xs[k]? = some x) (he:zlo Lk key x ≠ 0) :
  zca key xs L G []=⟨zlo Lk key x,zsp Lk x,zsq Lk Gk key x,out⟩:=by
 have hk:=(List.getElem?_eq_some_iff.1 hx).1
 have e:xs.drop k=x :: xs.drop (k+1):=by rw [List.drop_eq_getElem_cons hk,(List.getElem?_eq_some_iff.1 hx).2]
 rw [h.eq,e,zca,if_pos he]
theorem zAt.last {key:Int} {xs:List zbL} {L:List (List UInt8)} {G:List zK} {k:Nat} {Lk:List (List UInt8)} {Gk:List zK} {out:List zbL} (h:zAt key xs L G k Lk Gk out) (hk:xs.length<=k):zca key xs L G []=⟨0,Lk,Gk,out⟩:=by
 rw [h.eq,List.drop_of_length_le hk,zca]
theorem all_take {α:Type} {p : α->Bool} {l:List α} {k:Nat} (h:(l.take k).all p=true) {x : α} (hx:l[k]? = some x) (hp:p x=true):(l.take (k+1)).all p=true:=by
 rw [List.take_add_one,hx,List.all_append,h];simp [hp]
theorem all_bad {α:Type} {p : α->Bool} {l:List α} {k:Nat} {x : α} (hx:l[k]? = some x) (hp:p x=false):l.all p=false:=by
 rw [List.all_eq_false];exact ⟨x,List.mem_of_getElem? hx,by simp [hp]⟩
theorem zzP {P Q X:List zh} {R:zh}:(P++(Q++(R :: X)))[P.length+Q.length]? = some R:=by rw [zC,zt];rfl
theorem mid_get1 {P Q X:List zh} {R t:zh}:(P++(Q++(R :: t :: X)))[P.length+Q.length+1]? = some t:=by rw [Nat.add_assoc,zC,zC];rfl
theorem mid_set {P Q X:List zh} {R t R' t':zh}:((P++(Q++(R :: t :: X))).set (P.length+Q.length+1) t').set (P.length+Q.length) R' = P++(Q++(R' :: t' :: X)):=by
 rw [Nat.add_assoc,zL,zL,zL,zF];rfl
abbrev zum (f view:Int) (cs:List zU) (e:AV):List AV :=
 [.d (.int .i64 8),.d (.int .i64 (zcf f view)),.d (.int .i64 view),.d (.int .i64 0),.d (.int .i64 0),.d (.int .i64 0),.d (.int .i64 0),.d (.int .i64 0),.d (.int .i64 0),.exact [],.d (.int .i64 0),.d (.int .i64 0),.exact [],.d (.slice (zan cs)),e,.exact [],.d (.str []),.d (.int .i64 0),.d (.str []),.d (.int .i64 0),.exact [],.exact [],.d (.int .i64 0),.d (.int .i64 0),.exact [],.d (.int .i64 0),.d (.int .i64 0),.exact [],.d (.int .i64 0),.d (.int .i64 0)]
theorem gq84 {A P Q:Prop} (a:A) (h:Q) (e:A->Hd Q->P:=by intro a h;(repeat' first | simp -dsimp only [↓zeN, ↓zav, ↓zbq, ↓zeO, ↓zeH, ↓zeF, ↓zeI, ↓zeG, ↓zbv, ↓zbr, ↓zbw, ↓zbs, ↓zeJ, ↓zbp, ↓zbx, ↓zbt, ↓zby, ↓zbu, ↓zeE, ↓zeM, ↓zbo, ↓zbz, ↓zeC, ↓zeB, ↓zeD,iN,bT,bF,eN, ↓zcB, ↓unC, ↓zV, ↓zM, ↓zN, ↓zQ, ↓zY, ↓zal, ↓zdb, ↓zak, ↓zaH, ↓zT, ↓zf, ↓zj, ↓zbZ, ↓zb, ↓zag, ↓zE, ↓zaI, ↓zaO, ↓zc, ↓zy, ↓zl, ↓zG, ↓zaa, ↓zdm, ↓zdw, ↓zaj, ↓zar, ↓zaK, ↓zaS, ↓zaY, ↓zq, ↓zai, ↓zO, ↓zu, ↓zX,zdx,zbg,zbb,unA,zdd,bnd,zdY,zaf,zP,zdR,dm,dm1,zA,zae,zeh,zeg,zI,Q0,Q1,Q2,Q3,Q4,Q5,zZ,zC,zt,zL,zF,Q6,Q7,Q8,Q9,Q10,Q11,Q12,Q13,Q14,Nat.reduceAdd,Q15,Int.reduceToNat,Q16,Q17,Q18,Q19,Q20,reduceIte,Q21,Q22,zH,rep,zac,zel,toD,zah,Q23,Q24,Q25,Q26,Q27,Q28,Nat.reduceLeDiff,Q29,Nat.reduceSub,Q30,Q31,Q32,sc,Q33,Q34,Q35,Q36,Q37,Q26,Q38,Q39,zoy,zov,zos,zoz,zfG,zow,zot,zox,zou,zfF,zfH,zoB,zoC,Bool.not_true,Bool.not_false,List.length_map,Int.toNat_natCast,List.drop_zero,a] | with_reducible refine zoE ?_ | fail);exact h.go):P:=e a ⟨h⟩
theorem gq85 {P Q:Prop} (h:Q) (e:Hd Q->P:=by intro h;(repeat' first | simp -dsimp only [↓zeN, ↓zav, ↓zbq, ↓zeO, ↓zeH, ↓zeF, ↓zeI, ↓zeG, ↓zbv, ↓zbr, ↓zbw, ↓zbs, ↓zeJ, ↓zbp, ↓zbx, ↓zbt, ↓zby, ↓zbu, ↓zeE, ↓zeM, ↓zbo, ↓zbz, ↓zeC, ↓zeB, ↓zeD,iN,bT,bF,eN, ↓zcB, ↓unC, ↓zV, ↓zM, ↓zN, ↓zQ, ↓zY, ↓zal, ↓zdb, ↓zak, ↓zaH, ↓zT, ↓zf, ↓zj, ↓zbZ, ↓zb, ↓zag, ↓zE, ↓zaI, ↓zaO, ↓zc, ↓zy, ↓zl, ↓zG, ↓zaa, ↓zdm, ↓zdw, ↓zaj, ↓zar, ↓zaK, ↓zaS, ↓zaY, ↓zq, ↓zai, ↓zO, ↓zu, ↓zX,zdx,zbg,zbb,unA,zdd,bnd,zdY,zaf,zP,zdR,dm,dm1,zA,zae,zeh,zeg,zI,Q0,Q1,Q2,Q3,Q4,Q5,zZ,zC,zt,zL,zF,Q6,Q7,Q8,Q9,Q10,Q11,Q12,Q13,Q14,Nat.reduceAdd,Q15,Int.reduceToNat,Q16,Q17,Q18,Q19,Q20,reduceIte,Q21,Q22,zH,rep,zac,zel,toD,zah,Q23,Q24,Q25,Q26,Q27,Q28,Nat.reduceLeDiff,Q29,Nat.reduceSub,Q30,Q31,Q32,sc,Q33,Q34,Q35,Q36,Q37,Q26,Q38,Q39,zoy,zov,zos,zoz,zfG,zow,zot,zox,zou,zfF,zfH,zoB,zoC,Bool.not_true,Bool.not_false,List.length_map,zgc] | with_reducible refine zoE ?_ | fail);exact h.go):P:=e ⟨h⟩
theorem c_nvMake {i:TGi} {σ:List zh} {L:List (List UInt8)} {G:List zK} {f view:Int} {cs:List zU} (h:TG i σ L G) (hL:znT L) (hg:G.length<=1048576) (hcl:cs.length<=1048576) (hca:∀ c ∈ cs,zsO c) (hR:∀ c ∈ cs,zio c) {K:KT}
  (hK:K (.tup [zge (zng L G f view cs).m,.d (.int .i64 (zng L G f view cs).e)]) (zeU i σ (zng L G f view cs).L (zng L G f view cs).G)) :
  zo Tryz.prog zlR [.box i.id 0,.box i.id2 0,.d (.int .i64 f),.d (.int .i64 view),.d (.slice (zan cs))] σ K:=by
 refine zd zqO.is rfl fun hl _=>zqO.goes ?_
 have hcs:(zan cs).length=cs.length:=List.length_map ..
 simp only [zrb,iN,bT,bF,eN]
 refine zab ?_
 refine zsE (h.tab.app _) hL.nd hL.len hL.each ?_
 refine zab ?_
 refine zsG (h.led.app _) (by omega) fun g' => ?_
 refine zab ?_
 refine c_may (by omega) ?_
 have fin:∀ r,zng L G f view cs=r->K (.tup [zge r.m,.d (.int .i64 r.e)]) (zeU i σ r.L r.G):=fun r h=>h ▸ hK
 clear hK
 by_cases h0:zlY f view cs=0
 rotate_left
 ·have h0':(zlY f view cs != 0)=true:=by simpa using h0
  have hK:=fin ⟨zeW,zlY f view cs,L,G⟩ (if_pos h0)
  simp only [h.self,zge,zlQ] at hK
  refine zB h0' ?_
  refine zw hl ?_
  exact hK
 have h0':(zlY f view cs != 0)=false:=by simpa using h0
 obtain ⟨p1,p2,p3,p4⟩:=ztE h0
 have hf:=zAd p1
 have ht:zaW 2 f=2 * f+1:=by rw [zaW,if_neg (by omega)]
 obtain ⟨b,hb⟩:∃ b:Nat,zaW 2 f=(b:Int):=⟨(zaW 2 f).toNat,by omega⟩
 refine zB (zn h0' hcs) ?_
 refine zm cs.length (fun k vs s=>vs = [.d (.int .i64 k)]/\(∃ T,s = σ++(.box zqz :: T))/\(cs.take k).all (zdr L G f view)=true) ⟨rfl,⟨_,rfl⟩,rfl⟩ ?_
 rintro k vs s hk ⟨rfl,⟨T,rfl⟩,hall⟩
 by_cases hlt:k<cs.length
 ·have hd:decide ((k:Int)<(cs.length:Int))=true:=by simp;omega
  have hx:cs[k]? = some cs[k]:=by simp [hlt]
  have hgx:=zR (f:=zaE) hx
  have hxc:=hca _ (List.getElem_mem hlt)
  obtain ⟨c,hc⟩:∃ c,cs[k]=c:=⟨_,rfl⟩
  rw [hc] at hx hgx hxc
  refine zhH (zn hd (zn hgx hcs)) ?_
  refine c_nvValid (c:=c) (h.tab.app _) (h.led.app _) hL (by omega) hxc ?_
  cases hv:zdr L G f view c
  ·have hK:=fin ⟨zeW, 161,L,G⟩ (by rw [zng,if_neg (by simpa using h0),if_pos (all_bad hx hv)])
   simp only [h.self,zge,zlQ] at hK
   refine zab ?_
   refine zw hl ?_
   exact hK
  ·refine zB (wki k (by omega)) ?_
   exact zaz.next hlt ⟨rfl,⟨_,rfl⟩,all_take hall hx hv⟩
 have hd:decide ((k:Int)<(cs.length:Int))=false:=by simp;omega
 rw [List.take_of_length_le (by omega)] at hall
 have hbl:b<=cs.length:=by omega
 have e0:zng L G f view cs=if (zca (zcf f view) (zkh f view (cs.take b)).2.1 L G []).e ≠ 0 then
   ⟨zeW,(zca (zcf f view) (zkh f view (cs.take b)).2.1 L G []).e,(zca (zcf f view) (zkh f view (cs.take b)).2.1 L G []).L,(zca (zcf f view) (zkh f view (cs.take b)).2.1 L G []).G⟩
  else zlO (zca (zcf f view) (zkh f view (cs.take b)).2.1 L G []).L (zca (zcf f view) (zkh f view (cs.take b)).2.1 L G []).G
   (zsa f view (cs.take b) (zca (zcf f view) (zkh f view (cs.take b)).2.1 L G []).out):=by
  rw [zng,if_neg (by simpa using h0),if_neg (by rw [hall];decide),hb];rfl
 rw [e0] at fin
 clear e0
 have hmt:=mayF_take h0
 rw [hb] at hmt
 simp only [Int.toNat_natCast] at hmt
 have hse:=zzD f view (cs.take b)
 rw [hmt] at hse
 have htk:List.take b (zan cs)=zan (cs.take b):=List.map_take.symm
 have htc:∀ c ∈ cs.take b,zsO c:=fun c hc=>hca c (List.mem_of_mem_take hc)
 have htR:∀ c ∈ cs.take b,zio c:=fun c hc=>hR c (List.mem_of_mem_take hc)
 have htl:(cs.take b).length<=1048576:=by rw [List.length_take];omega
 obtain ⟨hx8,hxs⟩:=zzC (f:=f) (view:=view) htc
 obtain ⟨ds,hds⟩:∃ ds,cs.take b=ds:=⟨_,rfl⟩
 rw [hds] at fin hmt hse htk htc htR htl hx8 hxs
 have h8:=changes_eight cs
 refine zB (zn hd hcs) ?_
 refine c_quBig ?_
 rw [hb]
 refine gq84 (zn hcs (zn htk h8)) ?_
 refine zyT (zpC htl htc) htR ?_
 rw [hse]
 obtain ⟨ct,hct⟩:∃ x,(zkh f view ds).1=x:=⟨_,rfl⟩
 obtain ⟨xs,hxe⟩:∃ x,(zkh f view ds).2.1=x:=⟨_,rfl⟩
 rw [hxe] at hx8 hxs fin
 rw [hxe,hct]
 have hxl:(zaw xs).length=xs.length:=List.length_map ..
 refine gq85 ?_
 refine zwJ ?_
 refine zB hxl ?_
 obtain ⟨Q,hQ⟩:∃ Q,T++[zh.box [.d (.int .i64 ct.seq),.d (.int .i64 ct.dig),.d (.slice (zap ct.signs))]]=Q:=⟨_,rfl⟩
 have hQ2:∀ R:zh,T++[zh.box [.d (.int .i64 ct.seq),.d (.int .i64 ct.dig),.d (.slice (zap ct.signs))],R]=Q++[R]:=fun R=>by rw [← hQ];simp
 rw [hQ2,hQ]
 obtain ⟨Z0,hZ0⟩:∃ Z,zh.box zqz=Z:=⟨_,rfl⟩
 rw [show zh.box zqz=Z0 from hZ0]
 obtain ⟨nR,hnR⟩:∃ n,(σ++Z0 :: Q).length=n:=⟨_,rfl⟩
 rw [hnR]
 rw [List.length_append] at hnR
 clear hQ hQ2
 have hcells:([AV.d (.int .i64 8),.d (.int .i64 (zcf f view)),.d (.int .i64 view),.d (.int .i64 0),.d (.int .i64 0),.d (.int .i64 0),.d (.int .i64 0),.d (.int .i64 0),.d (.int .i64 0),.exact [],.d (.int .i64 0),.d (.int .i64 0),.exact [],.d (.slice (zan ds)),.exact [],.exact [],.d (.str []),.d (.int .i64 0),.d (.str []),.d (.int .i64 0),.exact [],.exact [],.d (.int .i64 0),.d (.int .i64 0),.exact [],.d (.int .i64 0),.d (.int .i64 0),.exact [],.d (.int .i64 0),.d (.int .i64 0)]:List AV)=zum f view ds (.exact []):=rfl
 rw [htk,hcells]
 refine zfY xs.length (fun k vs s=>vs = [.d (.int .i64 k)]/\∃ Lk Gk out T2,zAt (zcf f view) xs L G k Lk Gk out/\s=zeU i σ Lk Gk++((Z0 :: Q)++(.box (zum f view ds (.own (nR+1) (zaw out))) :: .tok 5 out.length :: T2)))
  (.tokB nR 14 (zum f view ds (.exact [])) [] 5 (by rw [← hnR, ← List.cons_append,zC,zt];rfl) rfl (by simp) (.refl _ _)) ⟨rfl,L,G,[],[],⟨rfl,hL,by omega,rfl,by simp⟩,?_⟩ ?_
 ·rw [h.self, ← hnR, ← List.cons_append,zL,zF]
  simp [zaw];omega
 rintro k vs s hk ⟨rfl,Lk,Gk,out,T2,hI,rfl⟩
 obtain ⟨S,hS⟩:∃ S,zeU i σ Lk Gk++((Z0 :: Q)++(.box (zum f view ds (.own (nR+1) (zaw out))) :: .tok 5 out.length :: T2))=S:=⟨_,rfl⟩
 have hpl:=zfw i σ Lk Gk
 have hTG:TG i S Lk Gk:=by rw [← hS];exact (h.put Lk Gk).app _
 have hgR:S[nR]? = some (.box (zum f view ds (.own (nR+1) (zaw out)))):=by rw [← hS, ← hnR, ← hpl];exact zzP
 have hput:∀ L' G',zeU i S L' G' = zeU i σ L' G' ++ ((Z0 :: Q)++(.box (zum f view ds (.own (nR+1) (zaw out))) :: .tok 5 out.length :: T2)):=fun L' G'=>by
  rw [← hS,(h.put Lk Gk).put_app,h.put_put]
 have gR:∀ τ,(S ++ τ)[nR]? = _:=fun τ=>zx hgR
 have hgl:=hI.led
 rw [hS]
 clear hS
 by_cases hlt:k<xs.length
 ·have hd:decide ((k:Int)<(xs.length:Int))=true:=by simp;omega
  have hx:xs[k]? = some xs[k]:=by simp [hlt]
  have hgx:=zR (f:=zed) hx
  have hxk:=hxs _ (List.getElem_mem hlt)
  obtain ⟨x,hxe⟩:∃ c,xs[k]=c:=⟨_,rfl⟩
  rw [hxe] at hx hgx hxk
  refine zhH (zn hd (zn hgx (zn hxl gR))) ?_
  refine c_auEntry (x:=x) (hTG.app _) hI.tab (by omega) hxk.ops hxk.many ?_
  rw [hTG.put_app]
  have hbad:=hI.bad hx
  have hnext:=hI.next hx hxk
  have hpl2:=zfw i σ (zsp Lk x) (zsq Lk Gk (zcf f view) x)
  have hlo2:=h.lows hl (zsp Lk x) (zsq Lk Gk (zcf f view) x)
  have hS2:=hput (zsp Lk x) (zsq Lk Gk (zcf f view) x)
  have r2:=zfw i S (zsp Lk x) (zsq Lk Gk (zcf f view) x)
  obtain ⟨S2,hS2e⟩:∃ S2,zeU i S (zsp Lk x) (zsq Lk Gk (zcf f view) x)=S2:=⟨_,rfl⟩
  obtain ⟨P,hP⟩:∃ P,zeU i σ (zsp Lk x) (zsq Lk Gk (zcf f view) x)=P:=⟨_,rfl⟩
  have hPK:=hP
  rw [hS2e] at hS2 r2 ⊢
  rw [hP] at hS2 hpl2 hlo2
  have r:S.length=S2.length:=r2.symm
  have gz:∀ τ,(S2 ++ τ)[σ.length]? = some Z0:=fun τ=>zx (by rw [hS2, ← hpl2,zt];rfl)
  have sz:∀ τ Y,(S2 ++ τ).set σ.length Y=P++(Y :: (Q++(.box (zum f view ds (.own (nR+1) (zaw out))) :: .tok 5 out.length :: T2) ++ τ)):=fun τ Y=>by
   rw [hS2,List.append_assoc, ← hpl2,zF];rfl
  have pg0:∀ X,(P++X)[σ.length]? = X[0]?:=fun X=>by rw [← hpl2];exact zt ..
  have gR2:∀ τ,(S2 ++ τ)[nR]? = some (.box (zum f view ds (.own (nR+1) (zaw out)))):=fun τ=>zx (by rw [hS2, ← hnR, ← hpl2];exact zzP)
  have ht2:S2[nR+1]? = some (.tok 5 out.length):=by rw [hS2, ← hnR, ← hpl2];exact mid_get1
  have gt2:∀ τ,(S2 ++ τ)[nR+1]? = some (.tok 5 out.length):=fun τ=>zx ht2
  obtain ⟨y,hy⟩:∃ y,entX Lk (zcf f view) x=y:=⟨_,rfl⟩
  obtain ⟨N,hN⟩:∃ y,zlo Lk (zcf f view) x=y:=⟨_,rfl⟩
  rw [hy,hN] at hnext ⊢
  rw [hN] at hbad
  by_cases hn:N=0
  rotate_left
  ·have hq:(N != 0)=true:=by simpa using hn
   have hK:=fin ⟨zeW,N,zsp Lk x,zsq Lk Gk (zcf f view) x⟩ (by rw [hbad hn];exact if_pos hn)
   simp only [zge,zlQ,hPK] at hK
   rw [← hZ0] at gz
   refine zB (zn hq (zn r (zn gz (zn sz pg0)))) ?_
   refine zcE hpl2 ?_ hlo2 hK
   simp [zfO,dmT,dm,dm1,zcO,zaU,zdv]
  ·have hq:(N != 0)=false:=by simpa using hn
   have hol:(out.length+1) * 56<=140737488355328:=by have:=hI.len;omega
   have hne:nR+1 ≠ nR:=by omega
   have s1:∀ τ Y,(S2 ++ τ).set (nR+1) Y=S2.set (nR+1) Y ++ τ:=fun τ Y=>zbS ht2
   have gRR:S2[nR]? = some (.box (zum f view ds (.own (nR+1) (zaw out)))):=by have:=gR2 [];rwa [List.append_nil] at this
   have g3':∀ Y,(S2.set (nR+1) Y)[nR]? = some (.box (zum f view ds (.own (nR+1) (zaw out)))):=fun Y=>by rw [List.getElem?_set_ne hne];exact gRR
   have g3:∀ τ Y,(S2.set (nR+1) Y ++ τ)[nR]? = some (.box (zum f view ds (.own (nR+1) (zaw out)))):=fun τ Y=>zx (g3' Y)
   have s2:∀ τ Y X,(S2.set (nR+1) Y ++ τ).set nR X=(S2.set (nR+1) Y).set nR X ++ τ:=fun τ Y X=>zbS (g3' Y)
   refine zB (zn hq (zn r (zn gR2 (zn gt2 (zn hol (zn s1 (zn g3 (zn s2 (wki k (by omega)))))))))) ?_
   refine zaz.next hlt ⟨rfl,_,_,_,T2++[zh.box [.d (.int .i64 x.view),.d (.int .i64 x.seq),.d (.slice (zbj x.batch)),.d (.int .i64 x.key),.d (.int .i64 x.dig)],zh.box [.d (.int .i64 y.view),.d (.int .i64 y.seq),.d (.slice (zbj y.batch)),.d (.int .i64 y.key),.d (.int .i64 y.dig)]],hnext hn,?_⟩
   rw [hP,hS2, ← hnR, ← hpl2,mid_set]
   simp [zum,zed]
 ·have hd:decide ((k:Int)<(xs.length:Int))=false:=by simp;omega
  have hlast:=hI.last (by omega)
  have hom:zbP (zsa f view ds out):=zrh htl htc (by have:=hI.len;omega) hI.ok
  refine zB (zn hd (zn hxl (zn gR hgR))) ?_
  refine c_auSeal8 (m:=zsa f view ds out) hTG hI.tab (by omega) hom rfl ?_
  rw [hlast] at fin
  have hK:=fin (zlO Lk Gk (zsa f view ds out)) (if_neg (by simp))
  obtain ⟨R,hR'⟩:∃ R,zlO Lk Gk (zsa f view ds out)=R:=⟨_,rfl⟩
  rw [hR'] at hK ⊢
  have hpl2:=zfw i σ R.L R.G
  have hlo2:=h.lows hl R.L R.G
  have hS2:=hput R.L R.G
  have r2:=zfw i S R.L R.G
  obtain ⟨S2,hS2e⟩:∃ S2,zeU i S R.L R.G=S2:=⟨_,rfl⟩
  obtain ⟨P,hP⟩:∃ P,zeU i σ R.L R.G=P:=⟨_,rfl⟩
  rw [hS2e] at hS2 r2 ⊢
  rw [hP] at hS2 hpl2 hlo2 hK
  have gz:S2[σ.length]? = some (.box zqz):=by rw [hS2, ← hpl2,zt,hZ0];rfl
  have sz:∀ Y,S2.set σ.length Y=P++(Y :: (Q++(.box (zum f view ds (.own (nR+1) (zaw out))) :: .tok 5 out.length :: T2))):=fun Y=>by
   rw [hS2, ← hpl2,zF];rfl
  have pg0:∀ X,(P++X)[σ.length]? = X[0]?:=fun X=>by rw [← hpl2];exact zt ..
  refine zB (zn gz (zn sz pg0)) ?_
  refine zcE hpl2 ?_ hlo2 hK
  simp [zfO,dmT,dm,dm1,zcO,zaU,zdv]
end Go.Proofs.YtpgahkdjkanblaaGreat

/- Contract: the new view that its primary tells, the document's. -/
import Derived.Test.YtpgahkdjkanblaaGreatMa6
import Derived.Test.YtpgahkdjkanblaaGreatNr2
import Derived.Test.YtpgahkdjkanblaaGreatSpPool2
import Derived.Test.YtpgahkdjkanblaaGreatKr3
import Derived.Test.YtpgahkdjkanblaaGreatBase
set_option linter.all false
set_option maxRecDepth 100000
namespace Go.Proofs.YtpgahkdjkanblaaGreat
open Go.AW
structure RR (id id2:Nat) (σ:List zh) (L:List (List UInt8)) (G:List zK):Prop where
 tab : σ[id]? = some (rtO L)
 led : σ[id2]? = some (rlO G)
 ne:id ≠ id2
def zhD (id id2:Nat) (σ:List zh) (L:List (List UInt8)) (G:List zK):List zh:=(σ.set id (rtO L)).set id2 (rlO G)
section
variable {id id2:Nat} {σ:List zh} {L:List (List UInt8)} {G:List zK}
theorem RR.app (h:RR id id2 σ L G) (τ:List zh):RR id id2 (σ ++ τ) L G:=⟨zx h.tab,zx h.led,h.ne⟩
theorem RR.put (h:RR id id2 σ L G) (L':List (List UInt8)) (G':List zK):RR id id2 (zhD id id2 σ L' G') L' G' :=
 ⟨by unfold zhD;rw [List.getElem?_set_ne (Ne.symm h.ne)];exact zcx h.tab,by unfold zhD;exact zcx (x:=rlO G) (by rw [List.getElem?_set_ne h.ne];exact h.led),h.ne⟩
theorem RR.put_app (h:RR id id2 σ L G) (L':List (List UInt8)) (G':List zK) (τ:List zh):zhD id id2 (σ ++ τ) L' G' = zhD id id2 σ L' G' ++ τ:=by
 unfold zhD
 rw [zbS h.tab,zbS (x:=rlO G) (by rw [List.getElem?_set_ne h.ne];exact h.led)]
theorem zme (id id2:Nat) (σ:List zh) (L:List (List UInt8)) (G:List zK):(zhD id id2 σ L G).length = σ.length:=by simp [zhD]
theorem RR.self (h:RR id id2 σ L G):zhD id id2 σ L G = σ:=by unfold zhD;rw [zcz h.tab,zcz h.led]
theorem RR.lows (h:RR id id2 σ L G) (hl:ziu σ.length σ) (L':List (List UInt8)) (G':List zK):ziu σ.length (zhD id id2 σ L' G'):=(hl.setO (zmQ _ _)).setO (ztm _ _)
theorem RR.put_put (h:RR id id2 σ L G) (L1 L2:List (List UInt8)) (G1 G2:List zK):zhD id id2 (zhD id id2 σ L1 G1) L2 G2=zhD id id2 σ L2 G2:=by
 unfold zhD
 rw [setc _ _ _ (Ne.symm h.ne),set2,set2]
end
theorem gq86 {A P Q:Prop} (a:A) (h:Q) (e:A->Hd Q->P:=by intro a h;(repeat' first | simp -dsimp only [↓zeN, ↓zav, ↓zbq, ↓zeO, ↓zeH, ↓zeF, ↓zeI, ↓zeG, ↓zbv, ↓zbr, ↓zbw, ↓zbs, ↓zeJ, ↓zbp, ↓zbx, ↓zbt, ↓zby, ↓zbu, ↓zeE, ↓zeM, ↓zbo, ↓zbz, ↓zeC, ↓zeB, ↓zeD,iN,bT,bF,eN, ↓zcB, ↓unC, ↓zV, ↓zM, ↓zN, ↓zQ, ↓zY, ↓zal, ↓zdb, ↓zak, ↓zaH, ↓zT, ↓zf, ↓zj, ↓zbZ, ↓zb, ↓zag, ↓zE, ↓zaI, ↓zaO, ↓zc, ↓zy, ↓zl, ↓zG, ↓zaa, ↓zdm, ↓zdw, ↓zaj, ↓zar, ↓zaK, ↓zaS, ↓zaY, ↓zq, ↓zai, ↓zO, ↓zu, ↓zX,zdx,zbg,zbb,unA,zdd,bnd,zdY,zaf,zP,zdR,dm,dm1,zA,zae,zeh,zeg,zI,Q0,Q1,Q2,Q3,Q4,Q5,zZ,zC,zt,zL,zF,Q6,Q7,Q8,Q9,Q10,Q11,Q12,Q13,Q14,Nat.reduceAdd,Q15,Int.reduceToNat,Q16,Q17,Q18,Q19,Q20,reduceIte,Q21,Q22,zH,rep,zac,zel,toD,zah,Q23,Q24,Q25,Q26,Q27,Q28,Nat.reduceLeDiff,Q29,Nat.reduceSub,Q30,Q31,Q32,sc,Q33,Q34,Q35,Q36,Q37,Q26,Q38,Q39,zoy,zov,zos,zoz,zfG,zow,zot,zox,zou,zfF,zfH,zoB,zoC,Bool.not_true,Bool.not_false,List.length_map,zgc,a] | with_reducible refine zoE ?_ | fail);exact h.go):P:=e a ⟨h⟩
theorem c_r16Make {id id2:Nat} {σ:List zh} {L:List (List UInt8)} {G:List zK} {f view:Int} {cs:List zU} (h:RR id id2 σ L G) (hL:znT L) (hg:G.length<=1048576) (hcl:cs.length<=1048576) (hca:∀ c ∈ cs,zsO c) (hR:∀ c ∈ cs,zio c) {K:KT}
  (hK:K (.tup [zge (zng L G f view cs).m,.d (.int .i64 (zng L G f view cs).e)]) (zhD id id2 σ (zng L G f view cs).L (zng L G f view cs).G)) :
  zo Tryz.prog ztr [.box id 0,.box id2 0,.d (.int .i64 f),.d (.int .i64 view),.d (.slice (zan cs))] σ K:=by
 refine zd zyt.is rfl fun hl _=>zyt.goes ?_
 have hcs:(zan cs).length=cs.length:=List.length_map ..
 simp only [zzf,iN,bT,bF,eN]
 refine zab ?_
 refine c_rSelect (zpC hcl hca) hR ?_
 rw [zzD]
 have fin:∀ r,zng L G f view cs=r->K (.tup [zge r.m,.d (.int .i64 r.e)]) (zhD id id2 σ r.L r.G):=fun r h=>h ▸ hK
 clear hK
 by_cases h0:zlY f view cs=0
 rotate_left
 ·have h0':(zlY f view cs != 0)=true:=by simpa using h0
  have hK:=fin ⟨zeW,zlY f view cs,L,G⟩ (if_pos h0)
  simp only [h.self,zge,zlQ] at hK
  obtain ⟨ct0,hct0⟩:∃ x,(zkh f view cs).1=x:=⟨_,rfl⟩
  rw [hct0]
  refine gq86 h0' ?_
  refine zw hl ?_
  exact hK
 have h0':(zlY f view cs != 0)=false:=by simpa using h0
 obtain ⟨p1,p2,p3,p4⟩:=ztE h0
 have hf:=zAd p1
 have ht:zaW 2 f=2 * f+1:=by rw [zaW,if_neg (by omega)]
 obtain ⟨b,hb⟩:∃ b:Nat,zaW 2 f=(b:Int):=⟨(zaW 2 f).toNat,by omega⟩
 obtain ⟨ct0,hct0⟩:∃ x,(zkh f view cs).1=x:=⟨_,rfl⟩
 rw [hct0]
 refine gq86 (zn h0' hcs) ?_
 refine zm cs.length (fun k vs s=>vs = [.d (.int .i64 k)]/\(∃ T,s = σ++(.box zqz :: T))/\(cs.take k).all (zdr L G f view)=true) ⟨rfl,⟨_,rfl⟩,rfl⟩ ?_
 rintro k vs s hk ⟨rfl,⟨T,rfl⟩,hall⟩
 by_cases hlt:k<cs.length
 ·have hd:decide ((k:Int)<(cs.length:Int))=true:=by simp;omega
  have hx:cs[k]? = some cs[k]:=by simp [hlt]
  have hgx:=zR (f:=zaE) hx
  have hxc:=hca _ (List.getElem_mem hlt)
  obtain ⟨c,hc⟩:∃ c,cs[k]=c:=⟨_,rfl⟩
  rw [hc] at hx hgx hxc
  refine zhH (zn hd (zn hgx hcs)) ?_
  refine c_r16Valid (c:=c) (zx h.tab) (zx h.led) hL (by omega) hxc ?_
  cases hv:zdr L G f view c
  ·have hK:=fin ⟨zeW, 161,L,G⟩ (by rw [zng,if_neg (by simpa using h0),if_pos (all_bad hx hv)])
   simp only [h.self,zge,zlQ] at hK
   refine zab ?_
   refine zw hl ?_
   exact hK
  ·refine zB (wki k (by omega)) ?_
   exact zaz.next hlt ⟨rfl,⟨_,rfl⟩,all_take hall hx hv⟩
 have hd:decide ((k:Int)<(cs.length:Int))=false:=by simp;omega
 rw [List.take_of_length_le (by omega)] at hall
 have hbl:b<=cs.length:=by omega
 have e0:zng L G f view cs=if (zca (zcf f view) (zkh f view (cs.take b)).2.1 L G []).e ≠ 0 then
   ⟨zeW,(zca (zcf f view) (zkh f view (cs.take b)).2.1 L G []).e,(zca (zcf f view) (zkh f view (cs.take b)).2.1 L G []).L,(zca (zcf f view) (zkh f view (cs.take b)).2.1 L G []).G⟩
  else zlO (zca (zcf f view) (zkh f view (cs.take b)).2.1 L G []).L (zca (zcf f view) (zkh f view (cs.take b)).2.1 L G []).G
   (zsa f view (cs.take b) (zca (zcf f view) (zkh f view (cs.take b)).2.1 L G []).out):=by
  rw [zng,if_neg (by simpa using h0),if_neg (by rw [hall];decide),hb];rfl
 rw [e0] at fin
 clear e0
 have hmt:=mayF_take h0
 rw [hb] at hmt
 simp only [Int.toNat_natCast] at hmt
 have hse:=zzD f view (cs.take b)
 rw [hmt] at hse
 have htk:List.take b (zan cs)=zan (cs.take b):=List.map_take.symm
 have htc:∀ c ∈ cs.take b,zsO c:=fun c hc=>hca c (List.mem_of_mem_take hc)
 have htR:∀ c ∈ cs.take b,zio c:=fun c hc=>hR c (List.mem_of_mem_take hc)
 have htl:(cs.take b).length<=1048576:=by rw [List.length_take];omega
 obtain ⟨hx8,hxs⟩:=zzC (f:=f) (view:=view) htc
 obtain ⟨ds,hds⟩:∃ ds,cs.take b=ds:=⟨_,rfl⟩
 rw [hds] at fin hmt hse htk htc htR htl hx8 hxs
 have h8:=changes_eight cs
 refine zB (zn hd hcs) ?_
 refine c_rBig ?_
 rw [hb]
 refine gq84 (zn hcs (zn htk h8)) ?_
 refine c_rSelect (zpC htl htc) htR ?_
 rw [hse]
 obtain ⟨ct,hct⟩:∃ x,(zkh f view ds).1=x:=⟨_,rfl⟩
 obtain ⟨xs,hxe⟩:∃ x,(zkh f view ds).2.1=x:=⟨_,rfl⟩
 rw [hxe] at hx8 hxs fin
 rw [hxe,hct]
 have hxl:(zaw xs).length=xs.length:=List.length_map ..
 refine gq85 ?_
 refine zyS ?_
 refine zB hxl ?_
 obtain ⟨Q,hQ⟩:∃ Q,T++[zh.box [.d (.int .i64 ct.seq),.d (.int .i64 ct.dig),.d (.slice (zap ct.signs))]]=Q:=⟨_,rfl⟩
 have hQ2:∀ R:zh,T++[zh.box [.d (.int .i64 ct.seq),.d (.int .i64 ct.dig),.d (.slice (zap ct.signs))],R]=Q++[R]:=fun R=>by rw [← hQ];simp
 rw [hQ2,hQ]
 obtain ⟨Z0,hZ0⟩:∃ Z,zh.box zqz=Z:=⟨_,rfl⟩
 rw [show zh.box zqz=Z0 from hZ0]
 obtain ⟨nR,hnR⟩:∃ n,(σ++Z0 :: Q).length=n:=⟨_,rfl⟩
 rw [hnR]
 rw [List.length_append] at hnR
 clear hQ hQ2
 have hcells:([AV.d (.int .i64 8),.d (.int .i64 (zcf f view)),.d (.int .i64 view),.d (.int .i64 0),.d (.int .i64 0),.d (.int .i64 0),.d (.int .i64 0),.d (.int .i64 0),.d (.int .i64 0),.exact [],.d (.int .i64 0),.d (.int .i64 0),.exact [],.d (.slice (zan ds)),.exact [],.exact [],.d (.str []),.d (.int .i64 0),.d (.str []),.d (.int .i64 0),.exact [],.exact [],.d (.int .i64 0),.d (.int .i64 0),.exact [],.d (.int .i64 0),.d (.int .i64 0),.exact [],.d (.int .i64 0),.d (.int .i64 0)]:List AV)=zum f view ds (.exact []):=rfl
 rw [htk,hcells]
 refine zfY xs.length (fun k vs s=>vs = [.d (.int .i64 k)]/\∃ Lk Gk out T2,zAt (zcf f view) xs L G k Lk Gk out/\s=zhD id id2 σ Lk Gk++((Z0 :: Q)++(.box (zum f view ds (.own (nR+1) (zaw out))) :: .tok 5 out.length :: T2)))
  (.tokB nR 14 (zum f view ds (.exact [])) [] 5 (by rw [← hnR, ← List.cons_append,zC,zt];rfl) rfl (by simp) (.refl _ _)) ⟨rfl,L,G,[],[],⟨rfl,hL,by omega,rfl,by simp⟩,?_⟩ ?_
 ·rw [h.self, ← hnR, ← List.cons_append,zL,zF]
  simp [zaw];omega
 rintro k vs s hk ⟨rfl,Lk,Gk,out,T2,hI,rfl⟩
 obtain ⟨S,hS⟩:∃ S,zhD id id2 σ Lk Gk++((Z0 :: Q)++(.box (zum f view ds (.own (nR+1) (zaw out))) :: .tok 5 out.length :: T2))=S:=⟨_,rfl⟩
 have hpl:=zme id id2 σ Lk Gk
 have hRR:RR id id2 S Lk Gk:=by rw [← hS];exact (h.put Lk Gk).app _
 have hgR:S[nR]? = some (.box (zum f view ds (.own (nR+1) (zaw out)))):=by rw [← hS, ← hnR, ← hpl];exact zzP
 have hput:∀ L' G',zhD id id2 S L' G' = zhD id id2 σ L' G' ++ ((Z0 :: Q)++(.box (zum f view ds (.own (nR+1) (zaw out))) :: .tok 5 out.length :: T2)):=fun L' G'=>by
  rw [← hS,(h.put Lk Gk).put_app,h.put_put]
 have gR:∀ τ,(S ++ τ)[nR]? = _:=fun τ=>zx hgR
 have hgl:=hI.led
 rw [hS]
 clear hS
 by_cases hlt:k<xs.length
 ·have hd:decide ((k:Int)<(xs.length:Int))=true:=by simp;omega
  have hx:xs[k]? = some xs[k]:=by simp [hlt]
  have hgx:=zR (f:=zed) hx
  have hxk:=hxs _ (List.getElem_mem hlt)
  obtain ⟨x,hxe⟩:∃ c,xs[k]=c:=⟨_,rfl⟩
  rw [hxe] at hx hgx hxk
  refine zhH (zn hd (zn hgx (zn hxl gR))) ?_
  refine c_raEntry (x:=x) hRR.tab hRR.led h.ne hI.tab (by omega) hxk.ops hxk.many ?_
  rw [show (S.set id (rtO (zsp Lk x))).set id2 (rlO (zsq Lk Gk (zcf f view) x))=zhD id id2 S (zsp Lk x) (zsq Lk Gk (zcf f view) x) from rfl]
  have hbad:=hI.bad hx
  have hnext:=hI.next hx hxk
  have hpl2:=zme id id2 σ (zsp Lk x) (zsq Lk Gk (zcf f view) x)
  have hlo2:=h.lows hl (zsp Lk x) (zsq Lk Gk (zcf f view) x)
  have hS2:=hput (zsp Lk x) (zsq Lk Gk (zcf f view) x)
  have r2:=zme id id2 S (zsp Lk x) (zsq Lk Gk (zcf f view) x)
  obtain ⟨S2,hS2e⟩:∃ S2,zhD id id2 S (zsp Lk x) (zsq Lk Gk (zcf f view) x)=S2:=⟨_,rfl⟩
  obtain ⟨P,hP⟩:∃ P,zhD id id2 σ (zsp Lk x) (zsq Lk Gk (zcf f view) x)=P:=⟨_,rfl⟩
  have hPK:=hP
  rw [hS2e] at hS2 r2 ⊢
  rw [hP] at hS2 hpl2 hlo2
  have r:S.length=S2.length:=r2.symm
  have gz:∀ τ,(S2 ++ τ)[σ.length]? = some Z0:=fun τ=>zx (by rw [hS2, ← hpl2,zt];rfl)
  have sz:∀ τ Y,(S2 ++ τ).set σ.length Y=P++(Y :: (Q++(.box (zum f view ds (.own (nR+1) (zaw out))) :: .tok 5 out.length :: T2) ++ τ)):=fun τ Y=>by
   rw [hS2,List.append_assoc, ← hpl2,zF];rfl
  have pg0:∀ X,(P++X)[σ.length]? = X[0]?:=fun X=>by rw [← hpl2];exact zt ..
  have gR2:∀ τ,(S2 ++ τ)[nR]? = some (.box (zum f view ds (.own (nR+1) (zaw out)))):=fun τ=>zx (by rw [hS2, ← hnR, ← hpl2];exact zzP)
  have ht2:S2[nR+1]? = some (.tok 5 out.length):=by rw [hS2, ← hnR, ← hpl2];exact mid_get1
  have gt2:∀ τ,(S2 ++ τ)[nR+1]? = some (.tok 5 out.length):=fun τ=>zx ht2
  obtain ⟨y,hy⟩:∃ y,entX Lk (zcf f view) x=y:=⟨_,rfl⟩
  obtain ⟨N,hN⟩:∃ y,zlo Lk (zcf f view) x=y:=⟨_,rfl⟩
  rw [hy,hN] at hnext ⊢
  rw [hN] at hbad
  by_cases hn:N=0
  rotate_left
  ·have hq:(N != 0)=true:=by simpa using hn
   have hK:=fin ⟨zeW,N,zsp Lk x,zsq Lk Gk (zcf f view) x⟩ (by rw [hbad hn];exact if_pos hn)
   simp only [zge,zlQ,hPK] at hK
   rw [← hZ0] at gz
   refine zB (zn hq (zn r (zn gz (zn sz pg0)))) ?_
   refine zcE hpl2 ?_ hlo2 hK
   simp [zfO,dmT,dm,dm1,zcO,zaU,zdv]
  ·have hq:(N != 0)=false:=by simpa using hn
   have hol:(out.length+1) * 56<=140737488355328:=by have:=hI.len;omega
   have hne:nR+1 ≠ nR:=by omega
   have s1:∀ τ Y,(S2 ++ τ).set (nR+1) Y=S2.set (nR+1) Y ++ τ:=fun τ Y=>zbS ht2
   have gRR:S2[nR]? = some (.box (zum f view ds (.own (nR+1) (zaw out)))):=by have:=gR2 [];rwa [List.append_nil] at this
   have g3':∀ Y,(S2.set (nR+1) Y)[nR]? = some (.box (zum f view ds (.own (nR+1) (zaw out)))):=fun Y=>by rw [List.getElem?_set_ne hne];exact gRR
   have g3:∀ τ Y,(S2.set (nR+1) Y ++ τ)[nR]? = some (.box (zum f view ds (.own (nR+1) (zaw out)))):=fun τ Y=>zx (g3' Y)
   have s2:∀ τ Y X,(S2.set (nR+1) Y ++ τ).set nR X=(S2.set (nR+1) Y).set nR X ++ τ:=fun τ Y X=>zbS (g3' Y)
   refine zB (zn hq (zn r (zn gR2 (zn gt2 (zn hol (zn s1 (zn g3 (zn s2 (wki k (by omega)))))))))) ?_
   refine zaz.next hlt ⟨rfl,_,_,_,T2++[zh.box [.d (.int .i64 y.view),.d (.int .i64 y.seq),.d (.slice (zbj y.batch)),.d (.int .i64 y.key),.d (.int .i64 y.dig)]],hnext hn,?_⟩
   rw [hP,hS2, ← hnR, ← hpl2,mid_set]
   simp [zum,zed]
 ·have hd:decide ((k:Int)<(xs.length:Int))=false:=by simp;omega
  have hlast:=hI.last (by omega)
  have hom:zbP (zsa f view ds out):=zrh htl htc (by have:=hI.len;omega) hI.ok
  refine zB (zn hd (zn hxl (zn gR hgR))) ?_
  refine c_raSeal8 (m:=zsa f view ds out) hRR.tab hRR.led h.ne hI.tab.len (by omega) hom rfl ?_
  rw [hlast] at fin
  have hK:=fin (zlO Lk Gk (zsa f view ds out)) (if_neg (by simp))
  obtain ⟨R,hR'⟩:∃ R,zlO Lk Gk (zsa f view ds out)=R:=⟨_,rfl⟩
  rw [hR'] at hK ⊢
  rw [show (S.set id (rtO R.L)).set id2 (rlO R.G)=zhD id id2 S R.L R.G from rfl]
  have hpl2:=zme id id2 σ R.L R.G
  have hlo2:=h.lows hl R.L R.G
  have hS2:=hput R.L R.G
  have r2:=zme id id2 S R.L R.G
  obtain ⟨S2,hS2e⟩:∃ S2,zhD id id2 S R.L R.G=S2:=⟨_,rfl⟩
  obtain ⟨P,hP⟩:∃ P,zhD id id2 σ R.L R.G=P:=⟨_,rfl⟩
  rw [hS2e] at hS2 r2 ⊢
  rw [hP] at hS2 hpl2 hlo2 hK
  have gz:S2[σ.length]? = some (.box zqz):=by rw [hS2, ← hpl2,zt,hZ0];rfl
  have sz:∀ Y,S2.set σ.length Y=P++(Y :: (Q++(.box (zum f view ds (.own (nR+1) (zaw out))) :: .tok 5 out.length :: T2))):=fun Y=>by
   rw [hS2, ← hpl2,zF];rfl
  have pg0:∀ X,(P++X)[σ.length]? = X[0]?:=fun X=>by rw [← hpl2];exact zt ..
  refine zB (zn gz (zn sz pg0)) ?_
  refine zcE hpl2 ?_ hlo2 hK
  simp [zfO,dmT,dm,dm1,zcO,zaU,zdv]
end Go.Proofs.YtpgahkdjkanblaaGreat

/- The law NewviewMakes, from the contracts. -/
set_option maxRecDepth 100000
namespace Go.Proofs.YtpgahkdjkanblaaGreat
open Go.AW
theorem loop_out {key:Int}:∀ (xs:List zbL) (L:List (List UInt8)) (G:List zK) (out:List zbL),(∀ x ∈ xs,zve x)->(∀ x ∈ out,zve x)->(zca key xs L G out).out.length<=out.length+xs.length/\∀ x ∈ (zca key xs L G out).out,zve x
 | [],L,G,out,_,h=>⟨by simp [zca],h⟩
 | x :: r,L,G,out,h1,h2=>by
  rw [zca]
  split
  ·exact ⟨by simp,h2⟩
  ·obtain ⟨a,b⟩:=loop_out (key:=key) r (zsp L x) (zsq L G key x) (out++[entX L key x]) (fun y hy=>h1 y (by simp [hy])) (fun y hy=>by
    rcases List.mem_append.1 hy with hy | hy
    ·exact h2 y hy
    ·simp only [List.mem_singleton] at hy;subst hy;exact entX_ok (h1 x (by simp)))
   exact ⟨by simp only [List.length_append,List.length_cons,List.length_nil] at a ⊢;omega,b⟩
theorem seal_small {L:List (List UInt8)} {G:List zK} {m:zee} (h:zbP m):zbP (zlO L G m).m:=by
 unfold zlO
 split
 ·exact zfQ
 ·split
  ·exact zfQ
  ·obtain ⟨h1,h2,h3,h4,h5,h6,h7,h8,h9,h10⟩:=h
   exact ⟨h1,h2,h3,h4,h5,h6,h7,h8,h9,h10⟩
theorem make_small {L:List (List UInt8)} {G:List zK} {f view:Int} {cs:List zU} (h1:cs.length<=1048576) (h2:∀ c ∈ cs,zsO c):zbP (zng L G f view cs).m:=by
 unfold zng
 split
 ·exact zfQ
 split
 ·exact zfQ
 split
 ·exact zfQ
 have hc:∀ c ∈ cs.take (zaW 2 f).toNat,zsO c:=fun c hc=>h2 c (List.mem_of_mem_take hc)
 obtain ⟨a,b⟩:=zzC (f:=f) (view:=view) hc
 obtain ⟨c,d⟩:=loop_out (key:=zcf f view) _ L G [] b (by simp)
 exact seal_small (zrh (by rw [List.length_take];omega) hc (by simp only [List.length_nil] at c;omega) d)
def zmf:=parsWorld
theorem zva (xs:List AV) (n:Nat) (hn:n<=1048576) (h:ArgsOk zmf xs n):zo Tryz.prog zln xs [] fun r _=>r = .d (.bool true):=by
 obtain ⟨tab,signs,f,view,cs,rfl,ht,htb,hs,hfr,hvr,hcl,hca,hR⟩:=args_world hn h
 clear h
 refine zd zlw.is rfl fun hl _=>zlw.goes ?_
 simp only [zlK,iN,bT,bF,eN]
 by_cases hnd:tab.Nodup
 rotate_left
 ·refine zab ?_
  refine c_made16N ht (fun b hb=>Nat.le_trans (htb b hb) (by omega)) hnd ?_
  refine zab ?_
  refine zwM ?_
  refine zab ?_
  refine zwM ?_
  refine zab ?_
  refine zw hl ?_
  rfl
 refine zab ?_
 refine c_made16 ht (fun b hb=>Nat.le_trans (htb b hb) (by omega)) hs hnd fun W hW hI => ?_
 obtain ⟨S,hS⟩:∃ S,[ziI tab signs]++W=S:=⟨_,rfl⟩
 have hgl:(zhF [] signs).length<=1048576:=by
  have:=ztl signs []
  simp only [List.length_nil,Nat.zero_add] at this
  omega
 obtain ⟨G,hG⟩:∃ G,zhF [] signs=G:=⟨_,rfl⟩
 rw [hG] at hgl
 rw [hS,hG] at hI
 rw [hS]
 obtain ⟨hI1,hI2,hI3,hI4⟩:=hI
 obtain ⟨n,hn⟩:∃ n,([ziI tab signs]:List zh).length=n:=⟨_,rfl⟩
 rw [hn] at hI1 hI2 hI3 hI4 ⊢
 have hTI:znT tab:=⟨hnd,ht,fun b hb=>Nat.le_trans (htb b hb) (by omega)⟩
 have hTG:TG ⟨n+2,n+1,n+3,n+6,n+5,n+7⟩ S tab G:=⟨hI1,hI3,by simp,by simp⟩
 have hms:=make_small (L:=tab) (G:=G) (f:=f) (view:=view) hcl hca
 refine zab ?_
 refine zwM ?_
 refine zab ?_
 refine c_nvMake hTG hTI hgl hcl hca hR ?_
 obtain ⟨R,hR'⟩:∃ R,zng tab G f view cs=R:=⟨_,rfl⟩
 rw [hR'] at hms ⊢
 have r1:=zfw ⟨n+2,n+1,n+3,n+6,n+5,n+7⟩ S R.L R.G
 have o4:(zeU ⟨n+2,n+1,n+3,n+6,n+5,n+7⟩ S R.L R.G)[n+4]? = some (rtO tab):=by rw [TG.other (by simp)];exact hI2
 have o8:(zeU ⟨n+2,n+1,n+3,n+6,n+5,n+7⟩ S R.L R.G)[n+8]? = some (rlO G):=by rw [TG.other (by simp)];exact hI4
 obtain ⟨S2,hS2⟩:∃ S2,zeU ⟨n+2,n+1,n+3,n+6,n+5,n+7⟩ S R.L R.G=S2:=⟨_,rfl⟩
 rw [hS2] at r1 o4 o8 ⊢
 have hRR:RR (n+4) (n+8) S2 tab G:=⟨o4,o8,by simp⟩
 have r1':S.length=S2.length:=r1.symm
 refine zB r1' ?_
 refine c_r16Make (hRR.app _) hTI hgl hcl hca hR ?_
 rw [hR',hRR.put_app]
 have r2:=zme (n+4) (n+8) S2 R.L R.G
 obtain ⟨S3,hS3⟩:∃ S3,zhD (n+4) (n+8) S2 R.L R.G=S3:=⟨_,rfl⟩
 rw [hS3] at r2 ⊢
 have r2':S2.length=S3.length:=r2.symm
 have r3':S.length=S3.length:=r1'.trans r2'
 refine zB (zn r1' (zn r2' r3')) ?_
 refine c_kSame (a:=R.m) (b:=R.m) hms hms ?_
 rw [show decide (R.m=R.m)=true from decide_eq_true rfl]
 refine gq58 (zn r1' (zn r2' r3')) ?_
 exact finP (σ := []) hl rfl
end Go.Proofs.YtpgahkdjkanblaaGreat

/- NewviewMakes: for every input of bulk at most 1048576 the law answers true and leaves its arguments as they were. No condition beside the given row's. -/
set_option maxRecDepth 100000
namespace Go.Proofs.YtpgahkdjkanblaaGreat
open Go.AW Go.ChangeShapes Go.WideShapes Go.ChangeAt Go.RowKit
theorem zrU {H:Type} {enc:TypeId × Value->H} {P:Program} {w:World} {sp:Nat->Bool} {held:Bool} {vs:List Value} {ds gs:List (DataW H)} {ps:List MemPlace} {ts:List TypeId} (hl:ts.length=4)
  (h:DataW.TrodAll enc P w 0 sp held ts vs ds ps) (hg:gs = []):(Rows.newviewMakesSpec).fn H (ds++gs) = { results := [.lit (.bool true)],args:=ds }:=by
 subst hg
 have hd:ds.length=4:=by
  have:∀ (ts:List TypeId) (vs:List Value) (ds:List (DataW H)) (ps:List MemPlace),DataW.TrodAll enc P w 0 sp held ts vs ds ps->ds.length=ts.length:=by
   intro ts
   induction ts with
   | nil=>intro vs ds ps h;cases vs <;> cases ds <;> simp [DataW.TrodAll] at h ⊢
   | cons t ts ih =>
    intro vs ds ps h
    obtain ⟨v,vs',d,ds',p,q,rfl,rfl,rfl,h1,h2⟩:=trodAll_cons h
    simp [ih vs' ds' q h2]
  rw [this ts vs ds ps h,hl]
 rw [List.append_nil]
 match ds,hd with
 | [_,_,_,_],_=>rfl
theorem zrv (os:Os) (started:os.Started) (H:Type) (enc:TypeId × Value->H) (F:Stop.Interp) :
  ReturnsInHanded {} Tryz.checked os 6 .any ((Rows.OpenSpec.upto Rows.newviewMakesSpec).pre6 enc Tryz.prog Tryz.f6 Rows.newviewMakesUptoRow.domain false) (((Rows.OpenSpec.upto Rows.newviewMakesSpec).at F).post enc Tryz.prog Tryz.f6 false true false false):=by
 refine returnsInHanded_of_cond (C:=Tryz.checked) (s:=Rows.OpenSpec.upto Rows.newviewMakesSpec) (k:=Rows.uptoSmall) rfl own started (by kernel_rfl) Tryz.func6
  (OpenSpec.witness (enc:=enc) (C:=Tryz.checked) (s:=Rows.OpenSpec.upto Rows.newviewMakesSpec) (k:=Rows.uptoSmall) rfl false ⟨#[], #[(.agg #[(.slice none 0 0),(.slice none 0 0)]),(.int .i64 0),(.int .i64 0),(.slice none 0 0)],[]⟩ 24 (by kernel_rfl) (by kernel_rfl) (by kernel_rfl)
   (x:=([(.agg [.nil,.nil]),(.lit (.int .i64 0)),(.lit (.int .i64 0)),.nil],[],[])) (by kernel_rfl) rfl (by kernel_rfl)) ?_
 intro W base args ds gs before hval hW _ hk _
 have hW0:DataW.Whole enc Tryz.prog Tryz.f6.params.toList (Rows.newviewMakesSpec).vars false W args.toList ds gs before:=hW
 have hg:gs = []:=by
  obtain ⟨p,q,hA,hV,_⟩:=hW0
  cases gs with
  | nil=>rfl
  | cons=>simp [Rows.newviewMakesSpec,DataW.TrodVars] at hV
 refine law_calls isBulk hval hW0 (pars:=zmf) (by kernel_rfl) rfl (by obtain ⟨p,q,hA,_⟩:=hW0;exact zrU (by kernel_rfl) hA hg) laidOut mapsLaid slicesFull (by kernel_rfl) (tb := 4) (by kernel_rfl) (by kernel_rfl) fun xs has=>zva xs _ ?_ has
 have:=small hk
 rw [hg,List.append_nil] at this
 exact this
theorem newviewMakes_upto:Rows.NewviewMakesUptoSaid :=
 OpenClaim.holds_of_cond 6 Tryz.f6 rfl rfl rfl rfl rfl rfl rfl ⟨rfl,rfl,rfl,rfl,rfl⟩ rfl rfl rfl rfl rfl (by kernel_rfl) Tryz.func6 (by kernel_rfl)
  (of_decide_eq_true (by kernel_rfl)) (by unfold Func.isWrapper;first | (rw [if_pos (by decide +kernel)];kernel_rfl) | (rw [if_neg (by decide +kernel)];exact ⟨rfl,rfl⟩))
  (fun os started H enc _ F=>zrv os started H enc F)
end Go.Proofs.YtpgahkdjkanblaaGreat

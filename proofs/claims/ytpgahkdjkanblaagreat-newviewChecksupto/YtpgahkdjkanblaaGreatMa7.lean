/- Contract: the new view that its primary tells, the document's. -/
import Derived.Test.YtpgahkdjkanblaaGreatMa6
import Derived.Test.YtpgahkdjkanblaaGreatNr2
import Derived.Test.YtpgahkdjkanblaaGreatSpPool2
import Derived.Test.YtpgahkdjkanblaaGreatKr3
set_option linter.all false
set_option maxRecDepth 100000
namespace Go.Proofs.YtpgahkdjkanblaaGreat
open Go.AW
structure RR (id id2:Nat) (σ:List zd) (L:List (List UInt8)) (G:List zy):Prop where
 tab : σ[id]? = some (rtO L)
 led : σ[id2]? = some (rlO G)
 ne:id≠id2
def zgc (id id2:Nat) (σ:List zd) (L:List (List UInt8)) (G:List zy):List zd:=(σ.set id (rtO L)).set id2 (rlO G)
section
variable {id id2:Nat} {σ:List zd} {L:List (List UInt8)} {G:List zy}
theorem RR.app (h:RR id id2 σ L G) (τ:List zd):RR id id2 (σ ++ τ) L G:=⟨zn h.tab,zn h.led,h.ne⟩
theorem RR.put (h:RR id id2 σ L G) (L':List (List UInt8)) (G':List zy):RR id id2 (zgc id id2 σ L' G') L' G':=
 ⟨by unfold zgc;rw [List.getElem?_set_ne (Ne.symm h.ne)];exact zcl h.tab,by unfold zgc;exact zcl (x:=rlO G) (by rw [List.getElem?_set_ne h.ne];exact h.led),h.ne⟩
theorem RR.put_app (h:RR id id2 σ L G) (L':List (List UInt8)) (G':List zy) (τ:List zd):zgc id id2 (σ ++ τ) L' G' = zgc id id2 σ L' G' ++ τ:=by
 unfold zgc
 rw [zbB h.tab,zbB (x:=rlO G) (by rw [List.getElem?_set_ne h.ne];exact h.led)]
theorem zlR (id id2:Nat) (σ:List zd) (L:List (List UInt8)) (G:List zy):(zgc id id2 σ L G).length = σ.length:=by simp [zgc]
theorem RR.self (h:RR id id2 σ L G):zgc id id2 σ L G = σ:=by unfold zgc;rw [zcm h.tab,zcm h.led]
theorem RR.lows (h:RR id id2 σ L G) (hl:zgl σ.length σ) (L':List (List UInt8)) (G':List zy):zgl σ.length (zgc id id2 σ L' G'):=(hl.setO (zmF _ _)).setO (ztc _ _)
theorem RR.put_put (h:RR id id2 σ L G) (L1 L2:List (List UInt8)) (G1 G2:List zy):zgc id id2 (zgc id id2 σ L1 G1) L2 G2=zgc id id2 σ L2 G2:=by
 unfold zgc
 rw [setc _ _ _ (Ne.symm h.ne),set2,set2]
end
theorem c_r16Make {id id2:Nat} {σ:List zd} {L:List (List UInt8)} {G:List zy} {f view:Int} {cs:List zJ} (h:RR id id2 σ L G) (hL:zka L) (hg:G.length<=1048576) (hcl:cs.length<=1048576) (hca:∀ c∈cs,zqf c) (hR:∀ c∈cs,zgL c) {K:KT}
  (hK:K (.tup [zeR (ziM L G f view cs).m,.d (.int .i64 (ziM L G f view cs).e)]) (zgc id id2 σ (ziM L G f view cs).L (ziM L G f view cs).G)) :
  zj Tryz.prog ztj [.box id 0,.box id2 0,.d (.int .i64 f),.d (.int .i64 view),.d (.slice (zR cs))] σ K:=by
 refine acE5 e_r16_Make fun hl => ?_
 have hcs:(zR cs).length=cs.length:=List.length_map ..
 simp only [zzy,iN,bT,bF,eN,zl0]
 refine zQ ?_
 refine zxb (zgU hcl hca) hR ?_
 rw [zvq]
 have fin:∀ r,ziM L G f view cs=r->K (.tup [zeR r.m,.d (.int .i64 r.e)]) (zgc id id2 σ r.L r.G):=fun r h=>h▸hK
 clear hK
 by_cases h0:zjn f view cs=0
 rotate_left
 ·have h0':(zjn f view cs != 0)=true:=by simpa using h0
  have hK:=fin ⟨zed,zjn f view cs,L,G⟩ (if_pos h0)
  simp only [h.self,zeR,zlC] at hK
  obtain ⟨ct0,hct0⟩:∃ x,(zfZ f view cs).1=x:=⟨_,rfl⟩
  rw [hct0]
  refine zfG h0' ?_
  refine zt hl ?_
  exact hK
 have h0':(zjn f view cs != 0)=false:=by simpa using h0
 obtain ⟨p1,p2,p3,p4⟩:=ztv h0
 have hf:=zAG p1
 have ht:zaR 2 f=2*f+1:=by rw [zaR,if_neg (by omega)]
 obtain ⟨b,hb⟩:∃ b:Nat,zaR 2 f=(b:Int):=⟨(zaR 2 f).toNat,by omega⟩
 obtain ⟨ct0,hct0⟩:∃ x,(zfZ f view cs).1=x:=⟨_,rfl⟩
 rw [hct0]
 refine zfG (zi h0' hcs) ?_
 refine zl cs.length (fun k vs s=>vs = [.d (.int .i64 k)]/\(∃ T,s = σ++(.box zkb::T))/\(cs.take k).all (zbq L G f view)=true) ⟨rfl,⟨_,rfl⟩,rfl⟩ ?_
 rintro k vs s hk ⟨rfl,⟨T,rfl⟩,hall⟩
 by_cases hlt:k<cs.length
 ·have hd:decide ((k:Int)<(cs.length:Int))=true:=by simp;omega
  have hx:cs[k]? = some cs[k]:=by simp [hlt]
  have hgx:=zF (f:=zat) hx
  have hxc:=hca _ (List.getElem_mem hlt)
  obtain ⟨c,hc⟩:∃ c,cs[k]=c:=⟨_,rfl⟩
  rw [hc] at hx hgx hxc
  refine zfG (zi hd (zi hgx hcs)) ?_
  refine zzn (c:=c) (zn h.tab) (zn h.led) hL (by omega) hxc ?_
  cases hv:zbq L G f view c
  ·have hK:=fin ⟨zed, 161,L,G⟩ (by rw [ziM,if_neg (by simpa using h0),if_pos (zub hx hv)])
   simp only [h.self,zeR,zlC] at hK
   refine zQ ?_
   refine zt hl ?_
   exact hK
  ·refine zfC (wki k (by omega)) ?_
   exact zan.next hlt ⟨rfl,⟨_,rfl⟩,znk hall hx hv⟩
 have hd:decide ((k:Int)<(cs.length:Int))=false:=by simp;omega
 rw [List.take_of_length_le (by omega)] at hall
 have hbl:b<=cs.length:=by omega
 have e0:ziM L G f view cs=if (zbr (zbG f view) (zfZ f view (cs.take b)).2.1 L G []).e≠0 then
   ⟨zed,(zbr (zbG f view) (zfZ f view (cs.take b)).2.1 L G []).e,(zbr (zbG f view) (zfZ f view (cs.take b)).2.1 L G []).L,(zbr (zbG f view) (zfZ f view (cs.take b)).2.1 L G []).G⟩
  else zhA (zbr (zbG f view) (zfZ f view (cs.take b)).2.1 L G []).L (zbr (zbG f view) (zfZ f view (cs.take b)).2.1 L G []).G
   (zpV f view (cs.take b) (zbr (zbG f view) (zfZ f view (cs.take b)).2.1 L G []).out):=by
  rw [ziM,if_neg (by simpa using h0),if_neg (by rw [hall];decide),hb];rfl
 rw [e0] at fin
 clear e0
 have hmt:=mayF_take h0
 rw [hb] at hmt
 simp only [Int.toNat_natCast] at hmt
 have hse:=zvq f view (cs.take b)
 rw [hmt] at hse
 have htk:List.take b (zR cs)=zR (cs.take b):=List.map_take.symm
 have htc:∀ c∈cs.take b,zqf c:=fun c hc=>hca c (List.mem_of_mem_take hc)
 have htR:∀ c∈cs.take b,zgL c:=fun c hc=>hR c (List.mem_of_mem_take hc)
 have htl:(cs.take b).length<=1048576:=by rw [List.length_take];omega
 obtain ⟨hx8,hxs⟩:=zpA (f:=f) (view:=view) htc
 obtain ⟨ds,hds⟩:∃ ds,cs.take b=ds:=⟨_,rfl⟩
 rw [hds] at fin hmt hse htk htc htR htl hx8 hxs
 have h8:=changes_eight cs
 refine zfC (zi hd hcs) ?_
 refine c_rBig ?_
 rw [hb]
 refine zmD (zi hcs (zi htk h8)) ?_
 refine zxb (zgU htl htc) htR ?_
 rw [hse]
 obtain ⟨ct,hct⟩:∃ x,(zfZ f view ds).1=x:=⟨_,rfl⟩
 obtain ⟨xs,hxe⟩:∃ x,(zfZ f view ds).2.1=x:=⟨_,rfl⟩
 rw [hxe] at hx8 hxs fin
 rw [hxe,hct]
 have hxl:(zu xs).length=xs.length:=List.length_map ..
 refine gq57 ?_
 refine ztT ?_
 refine zfC hxl ?_
 obtain ⟨Q,hQ⟩:∃ Q,T++[zd.box [.d (.int .i64 ct.seq),.d (.int .i64 ct.dig),.d (.slice (zO ct.signs))]]=Q:=⟨_,rfl⟩
 have hQ2:∀ R:zd,T++[zd.box [.d (.int .i64 ct.seq),.d (.int .i64 ct.dig),.d (.slice (zO ct.signs))],R]=Q++[R]:=fun R=>by rw [← hQ];simp
 rw [hQ2,hQ]
 obtain ⟨Z0,hZ0⟩:∃ Z,zd.box zkb=Z:=⟨_,rfl⟩
 rw [show zd.box zkb=Z0 from hZ0]
 obtain ⟨nR,hnR⟩:∃ n,(σ++Z0::Q).length=n:=⟨_,rfl⟩
 rw [hnR]
 rw [List.length_append] at hnR
 clear hQ hQ2
 have hcells:([AV.d (.int .i64 8),.d (.int .i64 (zbG f view)),.d (.int .i64 view),.d (.int .i64 0),.d (.int .i64 0),.d (.int .i64 0),.d (.int .i64 0),.d (.int .i64 0),.d (.int .i64 0),.exact [],.d (.int .i64 0),.d (.int .i64 0),.exact [],.d (.slice (zR ds)),.exact [],.exact [],.d (.str []),.d (.int .i64 0),.d (.str []),.d (.int .i64 0),.exact [],.exact [],.d (.int .i64 0),.d (.int .i64 0),.exact [],.d (.int .i64 0),.d (.int .i64 0),.exact [],.d (.int .i64 0),.d (.int .i64 0)]:List AV)=zuq f view ds (.exact []):=rfl
 rw [htk,hcells]
 refine zck xs.length (fun k vs s=>vs = [.d (.int .i64 k)]/\∃ Lk Gk out T2,zAX (zbG f view) xs L G k Lk Gk out/\s=zgc id id2 σ Lk Gk++((Z0::Q)++(.box (zuq f view ds (.own (nR+1) (zu out)))::.tok 5 out.length::T2)))
  (.tokB nR 14 (zuq f view ds (.exact [])) [] 5 (by rw [← hnR, ← List.cons_append,zB,zD];rfl) rfl (by simp) (.refl _ _)) ⟨rfl,L,G,[],[],⟨rfl,hL,by omega,rfl,by simp⟩,?_⟩ ?_
 ·rw [h.self, ← hnR, ← List.cons_append,zT,zP]
  simp [zu];omega
 rintro k vs s hk ⟨rfl,Lk,Gk,out,T2,hI,rfl⟩
 obtain ⟨S,hS⟩:∃ S,zgc id id2 σ Lk Gk++((Z0::Q)++(.box (zuq f view ds (.own (nR+1) (zu out)))::.tok 5 out.length::T2))=S:=⟨_,rfl⟩
 have hpl:=zlR id id2 σ Lk Gk
 have hRR:RR id id2 S Lk Gk:=by rw [← hS];exact (h.put Lk Gk).app _
 have hgR:S[nR]? = some (.box (zuq f view ds (.own (nR+1) (zu out)))):=by rw [← hS, ← hnR, ← hpl];exact zAh
 have hput:∀ L' G',zgc id id2 S L' G' = zgc id id2 σ L' G' ++ ((Z0::Q)++(.box (zuq f view ds (.own (nR+1) (zu out)))::.tok 5 out.length::T2)):=fun L' G'=>by
  rw [← hS,(h.put Lk Gk).put_app,h.put_put]
 have gR:∀ τ,(S ++ τ)[nR]? = _:=fun τ=>zn hgR
 have hgl:=hI.led
 rw [hS]
 clear hS
 by_cases hlt:k<xs.length
 ·have hd:decide ((k:Int)<(xs.length:Int))=true:=by simp;omega
  have hx:xs[k]? = some xs[k]:=by simp [hlt]
  have hgx:=zF (f:=zbh) hx
  have hxk:=hxs _ (List.getElem_mem hlt)
  obtain ⟨x,hxe⟩:∃ c,xs[k]=c:=⟨_,rfl⟩
  rw [hxe] at hx hgx hxk
  refine zfG (zi hd (zi hgx (zi hxl gR))) ?_
  refine c_raEntry (x:=x) hRR.tab hRR.led h.ne hI.tab (by omega) hxk.ops hxk.many ?_
  rw [show (S.set id (rtO (zqm Lk x))).set id2 (rlO (zqn Lk Gk (zbG f view) x))=zgc id id2 S (zqm Lk x) (zqn Lk Gk (zbG f view) x) from rfl]
  have hbad:=hI.bad hx
  have hnext:=hI.next hx hxk
  have hpl2:=zlR id id2 σ (zqm Lk x) (zqn Lk Gk (zbG f view) x)
  have hlo2:=h.lows hl (zqm Lk x) (zqn Lk Gk (zbG f view) x)
  have hS2:=hput (zqm Lk x) (zqn Lk Gk (zbG f view) x)
  have r2:=zlR id id2 S (zqm Lk x) (zqn Lk Gk (zbG f view) x)
  obtain ⟨S2,hS2e⟩:∃ S2,zgc id id2 S (zqm Lk x) (zqn Lk Gk (zbG f view) x)=S2:=⟨_,rfl⟩
  obtain ⟨P,hP⟩:∃ P,zgc id id2 σ (zqm Lk x) (zqn Lk Gk (zbG f view) x)=P:=⟨_,rfl⟩
  have hPK:=hP
  rw [hS2e] at hS2 r2 ⊢
  rw [hP] at hS2 hpl2 hlo2
  have r:S.length=S2.length:=r2.symm
  have gz:∀ τ,(S2 ++ τ)[σ.length]? = some Z0:=fun τ=>zn (by rw [hS2, ← hpl2,zD];rfl)
  have sz:∀ τ Y,(S2 ++ τ).set σ.length Y=P++(Y::(Q++(.box (zuq f view ds (.own (nR+1) (zu out)))::.tok 5 out.length::T2) ++ τ)):=fun τ Y=>by
   rw [hS2,List.append_assoc, ← hpl2,zP];rfl
  have pg0:∀ X,(P++X)[σ.length]? = X[0]?:=fun X=>by rw [← hpl2];exact zD ..
  have gR2:∀ τ,(S2 ++ τ)[nR]? = some (.box (zuq f view ds (.own (nR+1) (zu out)))):=fun τ=>zn (by rw [hS2, ← hnR, ← hpl2];exact zAh)
  have ht2:S2[nR+1]? = some (.tok 5 out.length):=by rw [hS2, ← hnR, ← hpl2];exact mid_get1
  have gt2:∀ τ,(S2 ++ τ)[nR+1]? = some (.tok 5 out.length):=fun τ=>zn ht2
  obtain ⟨y,hy⟩:∃ y,entX Lk (zbG f view) x=y:=⟨_,rfl⟩
  obtain ⟨N,hN⟩:∃ y,zlk Lk (zbG f view) x=y:=⟨_,rfl⟩
  rw [hy,hN] at hnext ⊢
  rw [hN] at hbad
  by_cases hn:N=0
  rotate_left
  ·have hq:(N != 0)=true:=by simpa using hn
   have hK:=fin ⟨zed,N,zqm Lk x,zqn Lk Gk (zbG f view) x⟩ (by rw [hbad hn];exact if_pos hn)
   simp only [zeR,zlC,hPK] at hK
   rw [← hZ0] at gz
   refine zfC (zi hq (zi r (zi gz (zi sz pg0)))) ?_
   refine zcx hpl2 ?_ hlo2 hK
   simp [zfF,dmT,dm,dm1,zcq,zaU,zdw]
  ·have hq:(N != 0)=false:=by simpa using hn
   have hol:(out.length+1)*56<=140737488355328:=by have:=hI.len;omega
   have hne:nR+1≠nR:=by omega
   have s1:∀ τ Y,(S2 ++ τ).set (nR+1) Y=S2.set (nR+1) Y ++ τ:=fun τ Y=>zbB ht2
   have gRR:S2[nR]? = some (.box (zuq f view ds (.own (nR+1) (zu out)))):=by have:=gR2 [];rwa [List.append_nil] at this
   have g3':∀ Y,(S2.set (nR+1) Y)[nR]? = some (.box (zuq f view ds (.own (nR+1) (zu out)))):=fun Y=>by rw [List.getElem?_set_ne hne];exact gRR
   have g3:∀ τ Y,(S2.set (nR+1) Y ++ τ)[nR]? = some (.box (zuq f view ds (.own (nR+1) (zu out)))):=fun τ Y=>zn (g3' Y)
   have s2:∀ τ Y X,(S2.set (nR+1) Y ++ τ).set nR X=(S2.set (nR+1) Y).set nR X ++ τ:=fun τ Y X=>zbB (g3' Y)
   refine zfC (zi hq (zi r (zi gR2 (zi gt2 (zi hol (zi s1 (zi g3 (zi s2 (wki k (by omega)))))))))) ?_
   refine zan.next hlt ⟨rfl,_,_,_,T2++[zd.box [.d (.int .i64 y.view),.d (.int .i64 y.seq),.d (.slice (zaP y.batch)),.d (.int .i64 y.key),.d (.int .i64 y.dig)]],hnext hn,?_⟩
   rw [hP,hS2, ← hnR, ← hpl2,mid_set]
   simp [zuq,zbh]
 ·have hd:decide ((k:Int)<(xs.length:Int))=false:=by simp;omega
  have hlast:=hI.last (by omega)
  have hom:zbn (zpV f view ds out):=zqJ htl htc (by have:=hI.len;omega) hI.ok
  refine zfC (zi hd (zi hxl (zi gR hgR))) ?_
  refine c_raSeal8 (m:=zpV f view ds out) hRR.tab hRR.led h.ne hI.tab.len (by omega) hom rfl ?_
  rw [hlast] at fin
  have hK:=fin (zhA Lk Gk (zpV f view ds out)) (if_neg (by simp))
  obtain ⟨R,hR'⟩:∃ R,zhA Lk Gk (zpV f view ds out)=R:=⟨_,rfl⟩
  rw [hR'] at hK ⊢
  rw [show (S.set id (rtO R.L)).set id2 (rlO R.G)=zgc id id2 S R.L R.G from rfl]
  have hpl2:=zlR id id2 σ R.L R.G
  have hlo2:=h.lows hl R.L R.G
  have hS2:=hput R.L R.G
  have r2:=zlR id id2 S R.L R.G
  obtain ⟨S2,hS2e⟩:∃ S2,zgc id id2 S R.L R.G=S2:=⟨_,rfl⟩
  obtain ⟨P,hP⟩:∃ P,zgc id id2 σ R.L R.G=P:=⟨_,rfl⟩
  rw [hS2e] at hS2 r2 ⊢
  rw [hP] at hS2 hpl2 hlo2 hK
  have gz:S2[σ.length]? = some (.box zkb):=by rw [hS2, ← hpl2,zD,hZ0];rfl
  have sz:∀ Y,S2.set σ.length Y=P++(Y::(Q++(.box (zuq f view ds (.own (nR+1) (zu out)))::.tok 5 out.length::T2))):=fun Y=>by
   rw [hS2, ← hpl2,zP];rfl
  have pg0:∀ X,(P++X)[σ.length]? = X[0]?:=fun X=>by rw [← hpl2];exact zD ..
  refine zfC (zi gz (zi sz pg0)) ?_
  refine zcx hpl2 ?_ hlo2 hK
  simp [zfF,dmT,dm,dm1,zcq,zaU,zdw]
theorem loop_out {key:Int}:∀ (xs:List zaI) (L:List (List UInt8)) (G:List zy) (out:List zaI),(∀ x∈xs,ztF x)->(∀ x∈out,ztF x)->(zbr key xs L G out).out.length<=out.length+xs.length/\∀ x∈(zbr key xs L G out).out,ztF x
 | [],L,G,out,_,h=>⟨by simp [zbr],h⟩
 | x::r,L,G,out,h1,h2=>by
  rw [zbr]
  split
  ·exact ⟨by simp,h2⟩
  ·obtain ⟨a,b⟩:=loop_out (key:=key) r (zqm L x) (zqn L G key x) (out++[entX L key x]) (fun y hy=>h1 y (by simp [hy])) (fun y hy=>by
    rcases List.mem_append.1 hy with hy|hy
    ·exact h2 y hy
    ·simp only [List.mem_singleton] at hy;subst hy;exact entX_ok (h1 x (by simp)))
   exact ⟨by simp only [List.length_append,List.length_cons,List.length_nil] at a ⊢;omega,b⟩
theorem seal_small {L:List (List UInt8)} {G:List zy} {m:zcS} (h:zbn m):zbn (zhA L G m).m:=by
 unfold zhA
 split
 ·exact zfI
 ·split
  ·exact zfI
  ·obtain ⟨h1,h2,h3,h4,h5,h6,h7,h8,h9,h10⟩:=h
   exact ⟨h1,h2,h3,h4,h5,h6,h7,h8,h9,h10⟩
theorem make_small {L:List (List UInt8)} {G:List zy} {f view:Int} {cs:List zJ} (h1:cs.length<=1048576) (h2:∀ c∈cs,zqf c):zbn (ziM L G f view cs).m:=by
 unfold ziM
 split
 ·exact zfI
 split
 ·exact zfI
 split
 ·exact zfI
 have hc:∀ c∈cs.take (zaR 2 f).toNat,zqf c:=fun c hc=>h2 c (List.mem_of_mem_take hc)
 obtain ⟨a,b⟩:=zpA (f:=f) (view:=view) hc
 obtain ⟨c,d⟩:=loop_out (key:=zbG f view) _ L G [] b (by simp)
 exact seal_small (zqJ (by rw [List.length_take];omega) hc (by simp only [List.length_nil] at c;omega) d)
def zeG (L:List (List UInt8)) (G:List zy) (key:Int) (x:zaI):Bool:=decide (zr x.batch=0)&&match zev L (zbN x.batch) with
 | some i=>zfy L G ⟨x.key,x.dig⟩ key 2 x.view x.seq ((i+1:Nat):Int)
 | none=>false
def znU (a b:zaI):Bool:=decide (a.view=b.view)&&(decide (a.seq=b.seq)&&decide (a.batch=b.batch))
theorem c_nvSame {σ:List zd} {a b:zaI} (ha:zlA a) (hb:zlA b) {K:KT} (hK:K (.d (.bool (znU a b))) σ):zj Tryz.prog zlD [zoI a,zoI b] σ K:=by
 refine zeE zye fun hl => ?_
 have fin:∀ z,znU a b=z->K (.d (.bool z)) σ:=fun z h=>h▸hK
 clear hK
 simp only [zqC,iN,bT,bF,eN]
 cases h1:(a.view==b.view)
 ·refine zfC h1 ?_
  refine zt hl ?_
  exact fin _ (by simp at h1;simp [znU,h1])
 cases h2:(a.seq==b.seq)
 ·refine zfC (zi h1 h2) ?_
  refine zt hl ?_
  exact fin _ (by simp at h1 h2;simp [znU,h1,h2])
 refine zfC (zi h1 h2) ?_
 refine zsu ha hb ?_
 refine zQ ?_
 refine zt hl ?_
 exact fin _ (by simp at h1 h2;simp [znU,h1,h2])
theorem zym {σ:List zd} {id m t id2 m2 t2:Nat} {L:List (List UInt8)} {G:List zy} {key:Int} {x:zaI} (hT:zea σ id m t L) (hG:zdL σ id2 m2 t2 G) (hL:zka L) (hg:G.length<=1073741824) (hx:okB x.batch) {K:KT}
  (hK:K (.d (.bool (zeG L G key x))) σ):zj Tryz.prog zik [.box id 0,.box id2 0,.d (.int .i64 key),zoI x] σ K:=by
 refine zAU ztN fun hl => ?_
 have fin:∀ z,zeG L G key x=z->K (.d (.bool z)) σ:=fun z h=>h▸hK
 clear hK
 simp only [zmB,iN,bT,bF,eN]
 refine zQ ?_
 refine zfY hx ?_
 by_cases h1:zr x.batch=0
 rotate_left
 ·have h1':(zr x.batch != 0)=true:=by simpa using h1
  refine zfC h1' ?_
  refine zt hl ?_
  exact fin _ (by simp [zeG,h1])
 have h1':(zr x.batch != 0)=false:=by simpa using h1
 refine zfC h1' ?_
 refine ztV (b := []) (by simp) (fun s hs=>Nat.le_trans ((zff h1).1 s hs) (by omega)) hx.1 ?_
 rw [List.nil_append,show zbw x.batch=zbN x.batch from if_pos h1]
 refine zQ ?_
 refine ztQ (hT.app _) ?_
 cases h2:zev L (zbN x.batch) with
 | none=>
  simp only [zlS]
  refine gq50 ?_
  refine zt hl ?_
  exact fin _ (by simp [zeG,h2])
 | some i=>
  simp only [zlS]
  refine gq50 ?_
  refine zjO (s:=⟨x.key,x.dig⟩) (hT.app _) (hG.app _) hL hg ?_
  refine zQ ?_
  refine zt hl ?_
  exact fin _ (by simp [zeG,h1,h2])
theorem zyj {σ:List zd} {id id2:Nat} {L:List (List UInt8)} {G:List zy} {key:Int} {x:zaI} (hT : σ[id]? = some (rtO L)) (hG : σ[id2]? = some (rlO G)) (hL:L.length<=1048576) (hg:G.length<=1073741824) (hx:okB x.batch) {K:KT}
  (hK:K (.d (.bool (zeG L G key x))) σ):zj Tryz.prog zjg [.box id 0,.box id2 0,.d (.int .i64 key),zoI x] σ K:=by
 refine zAU zva fun hl => ?_
 have fin:∀ z,zeG L G key x=z->K (.d (.bool z)) σ:=fun z h=>h▸hK
 clear hK
 simp only [znB,iN,bT,bF,eN]
 refine zQ ?_
 refine zgh hx ?_
 by_cases h1:zr x.batch=0
 rotate_left
 ·have h1':(zr x.batch != 0)=true:=by simpa using h1
  refine zfC h1' ?_
  refine zt hl ?_
  exact fin _ (by simp [zeG,h1])
 have h1':(zr x.batch != 0)=false:=by simpa using h1
 refine zfC h1' ?_
 refine zkD (b := []) (by simp) (fun s hs=>Nat.le_trans ((zff h1).1 s hs) (by omega)) hx.1 ?_
 rw [List.nil_append,show zbw x.batch=zbN x.batch from if_pos h1]
 refine zQ ?_
 refine zst (zn hT) hL ?_
 cases h2:zev L (zbN x.batch) with
 | none=>
  simp only [zlS]
  refine gq50 ?_
  refine zt hl ?_
  exact fin _ (by simp [zeG,h2])
 | some i=>
  simp only [zlS]
  refine gq50 ?_
  refine zjN (s:=⟨x.key,x.dig⟩) (zn hT) (zn hG) hL hg ?_
  refine zQ ?_
  refine zt hl ?_
  exact fin _ (by simp [zeG,h1,h2])
end Go.Proofs.YtpgahkdjkanblaaGreat

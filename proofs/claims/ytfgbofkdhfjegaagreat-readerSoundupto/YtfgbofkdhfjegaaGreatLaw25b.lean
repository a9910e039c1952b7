/- The law ReaderSound, from the contracts. -/
import Derived.Test.YtfgbofkdhfjegaaGreatBw1
import Derived.Test.YtfgbofkdhfjegaaGreatBase
import Derived.Test.YtfgbofkdhfjegaaGreatAwLoop
set_option linter.all false
set_option maxRecDepth 100000
namespace Go.Proofs.YtfgbofkdhfjegaaGreat
open Go.AW
def PutI (s:zaE) (r:zrD):Prop := ∀ p∈r.L, ∃ b∈s.bs,p∈b.placed
theorem take_put {ks:List Int} {g:zcF} {s:zaE} {G:List zI} {z:Int->Bool} {r:zrD} {m:zlI} (h:zhU ks g s) (hg:g.seq=0/\zgC g=true) (hL:s.L.length<=1048576)
  (hG:∀ x∈G,x∈s.G∨z x.key=true) (h0:zcM r.f=0) (hz:(zgj (3*r.f.toNat+1)).countP z<=r.f.toNat) (hs:zid m) (hp:PutI s r):PutI s (takeR s.L G r m):=by
 unfold takeR
 split
 ·rename_i e
  intro p hp'
  simp only [zgm,List.mem_append,List.mem_singleton] at hp'
  rcases hp' with hp' | rfl
  ·exact hp p hp'
  ·unfold zgn at e
   split at e
   ·simp at e
   rename_i ht
   have e1:m.proof.topic=r.topic:=Classical.byContradiction fun h=>ht (.inr (.inr (.inl h)))
   have e2:m.proof.offset=r.next:=Classical.byContradiction fun h=>ht (.inr (.inr (.inr (.inl h))))
   obtain ⟨b,hb,q,hq,rfl⟩:=sound_plain h hg (List.prefix_refl _) hL hG h0 hz hs.proof e
   refine ⟨b,hb,?_⟩
   simp only [zvV,e1,e2] at hq
   exact hq
 ·exact hp
theorem put_any25 {bs:List zbc} {p:zaI} (h:∃ b∈bs,p∈b.placed):(bs.any fun b=>b.placed.any (isPl p))=true:=by
 obtain ⟨b,hb,hp⟩:=h
 exact List.any_eq_true.2 ⟨b,hb,List.any_eq_true.2 ⟨_,hp,by simp [isPl]⟩⟩
theorem rqsF_top (recs:List (List UInt8)):∀ x∈znO recs,x.op.topic = [116]/\(x.op.kind=1∨x.op.kind=2):=fun x hx=>by
 simp only [znO,List.mem_cons] at hx
 rcases hx with rfl|hx
 ·decide
 ·obtain ⟨j,hj,rfl⟩:=List.mem_mapIdx.1 hx
  exact ⟨rfl,.inr rfl⟩
theorem rqsF_sum (recs:List (List UInt8)):((znO recs).map fun x=>x.op.recs.length).sum=min recs.length 24:=by
 have:∀ (l:List (List UInt8)) (n:Nat),((l.mapIdx fun j b=>zut (j+n) b).map fun x=>x.op.recs.length).sum=l.length:=by
  intro l
  induction l with
  | nil=>intro n;rfl
  | cons b l ih=>
   intro n
   have:=ih (n+1)
   rw [List.mapIdx_cons,List.map_cons,List.sum_cons]
   simp only [Nat.add_right_comm _ 1 n,Nat.add_assoc] at this ⊢
   simp only [Nat.add_comm 1 n,List.length_cons] at this ⊢
   rw [this]
   simp only [zut,List.length_cons,List.length_nil]
   omega
 have h:=this (recs.take 24) 0
 simp only [Nat.add_zero] at h
 simp only [znO,List.map_cons,List.sum_cons]
 rw [show ((recs.take 24).mapIdx zut)=(recs.take 24).mapIdx (fun j b=>zut j b) from rfl,h,List.length_take]
 simp only [mkR,List.length_nil]
 omega
def zlj:List (Bool × List Ty) := [(true,tyCas),(false,[.int .u16])]
theorem gq54 {A P Q:Prop} (a:A) (h:Q) (e:A->Hd Q->P:=by intro a h;(repeat' first|simp -dsimp only [↓zft, ↓zaH, ↓zbG, ↓zfu, ↓zfo, ↓zfm, ↓zfp, ↓zfn, ↓zbL, ↓zbH, ↓zbM, ↓zbI, ↓zfq, ↓zbF, ↓zbN, ↓zbJ, ↓zbO, ↓zbK, ↓zfl, ↓zfr, ↓zbE, ↓zbP, ↓zfd, ↓zfc, ↓zfk,iN,bT,bF,eN, ↓zcQ, ↓unC, ↓zY, ↓zK, ↓zL, ↓zN, ↓zae, ↓zax, ↓zcK, ↓zaq, ↓zbh, ↓zR, ↓zp, ↓zm, ↓zbV, ↓zh, ↓zak, ↓zH, ↓zaR, ↓zaY, ↓ze, ↓zD, ↓zu, ↓zB, ↓zar, ↓zdk, ↓zdz, ↓zas, ↓zaD, ↓zaV, ↓zbf, ↓zbm, ↓zA, ↓zan, ↓zM, ↓zF, ↓zad,zdE,zbu,zbo,unA,zdC,bnd,zej,zag,zS,zeh,dm,dm1,zC,zah,zeF,zeE,zQ,Q0,Q1,Q2,Q3,Q4,Q5,zV,zx,zw,zO,zJ,Q6,Q7,Q8,Q9,Q10,Q11,Q12,Q13,Q14,Nat.reduceAdd,Q15,Int.reduceToNat,Q16,Q17,Q18,Q19,Q20,reduceIte,Q21,Q22,zG,rep,zZ,zeQ,toD,zal,Q23,Q24,Q25,Q26,Q27,Q28,Nat.reduceLeDiff,Q29,Nat.reduceSub,Q30,Q31,Q32,sc,Q33,Q34,Q35,Q36,Q37,Q26,Q38,Q39,ziR,ziO,ziL,ziS,zcX,ziP,ziM,ziQ,ziN,zcW,zcY,ziU,ziV,Bool.not_true,Bool.not_false,List.length_map,actD,msgD,a]|with_reducible refine ziX ?_|fail);exact h.go):P:=e a ⟨h⟩
theorem gq55 {A P Q:Prop} (a:A) (h:Q) (e:A->Hd Q->P:=by intro a h;(repeat' first|simp -dsimp only [↓zft, ↓zaH, ↓zbG, ↓zfu, ↓zfo, ↓zfm, ↓zfp, ↓zfn, ↓zbL, ↓zbH, ↓zbM, ↓zbI, ↓zfq, ↓zbF, ↓zbN, ↓zbJ, ↓zbO, ↓zbK, ↓zfl, ↓zfr, ↓zbE, ↓zbP, ↓zfd, ↓zfc, ↓zfk,iN,bT,bF,eN, ↓zcQ, ↓unC, ↓zY, ↓zK, ↓zL, ↓zN, ↓zae, ↓zax, ↓zcK, ↓zaq, ↓zbh, ↓zR, ↓zp, ↓zm, ↓zbV, ↓zh, ↓zak, ↓zH, ↓zaR, ↓zaY, ↓ze, ↓zD, ↓zu, ↓zB, ↓zar, ↓zdk, ↓zdz, ↓zas, ↓zaD, ↓zaV, ↓zbf, ↓zbm, ↓zA, ↓zan, ↓zM, ↓zF, ↓zad,zdE,zbu,zbo,unA,zdC,bnd,zej,zag,zS,zeh,dm,dm1,zC,zah,zeF,zeE,zQ,Q0,Q1,Q2,Q3,Q4,Q5,zV,zx,zw,zO,zJ,Q6,Q7,Q8,Q9,Q10,Q11,Q12,Q13,Q14,Nat.reduceAdd,Q15,Int.reduceToNat,Q16,Q17,Q18,Q19,Q20,reduceIte,Q21,Q22,zG,rep,zZ,zeQ,toD,zal,Q23,Q24,Q25,Q26,Q27,Q28,Nat.reduceLeDiff,Q29,Nat.reduceSub,Q30,Q31,Q32,sc,Q33,Q34,Q35,Q36,Q37,Q26,Q38,Q39,ziR,ziO,ziL,ziS,zcX,ziP,ziM,ziQ,ziN,zcW,zcY,ziU,ziV,Bool.not_true,Bool.not_false,List.length_map,bne,zel,a]|with_reducible refine ziX ?_|fail);exact h.go):P:=e a ⟨h⟩
set_option maxHeartbeats 4000000 in
theorem zsv (xs:List AV) (n:Nat) (hn:n<=1048576) (h:ArgsOk zlj xs n):zr Tryz.prog zgA xs [] fun r _=>r = .d (.bool true):=by
 obtain ⟨ds,xs1,m1,hf,hb1,rfl,h⟩:=h
 obtain ⟨c,rfl,hc⟩:=dec_cas hf (by omega)
 obtain ⟨ds,xs2,m2,hf,hb2,rfl,rfl⟩:=h
 obtain ⟨d,rfl,h1⟩:=one_of hf
 obtain ⟨z,rfl,hz⟩:=dec_u16' h1
 show zr Tryz.prog zgA [.agg (znm c),.d (.int .u16 z)] [] _
 clear hf hb1 hb2 h1
 obtain ⟨σ,hσ⟩:∃ σ:List zg,([]:List zg) = σ:=⟨_,rfl⟩
 have hσr:∀ x∈σ, ∀ g sz cs,x≠.row g sz cs:=by subst hσ;simp
 rw [hσ]
 clear hσ
 refine zfP zqx fun hl => ?_
 simp only [zku,iN,bT,bF,eN,zl0]
 refine gq1 ?_
 have hρr:∀ x∈σ++[zg.box (znm c)], ∀ g sz cs,x≠.row g sz cs:=fun y hy=>by
  rcases List.mem_append.1 hy with hy|hy
  ·exact hσr y hy
  ·simp only [List.mem_cons,List.not_mem_nil,or_false] at hy
   subst hy;intro _ _ _ e;cases e
 refine c_live25 hρr ?_
 refine gq1 ?_
 refine ztk ?_
 by_cases h0:c.f<1∨c.f > 4
 ·rw [zcM,if_pos h0]
  refine gq2 (show ((120:Int) != 0)=true from rfl) ?_
  refine zT hl ?_
  rfl
 have hck:zcM c.f=0:=by rw [zcM,if_neg h0]
 rw [hck]
 refine gq2 (show ((0:Int) != 0)=false from rfl) ?_
 refine c_rAll ?_
 refine gq1 ?_
 refine c_rBoth hz (all_small _) ?_
 refine gq1 ?_
 refine c_rMany (zvg _ _) ?_
 cases hm:decide (((memF (zrC z (allF (zda 3 c.f).toNat))).length:Int) > c.f)
 rotate_left
 ·refine gq2 hm ?_
  refine zT hl ?_
  rfl
 have hfew:=faulty_few h0 (by simpa using hm)
 refine gq2 hm ?_
 obtain ⟨ρ,hρ⟩:∃ ρ, σ++[.box (znm c)] = ρ:=⟨_,rfl⟩
 have r0 : ρ[σ.length]? = some (.box (znm c)):=by rw [← hρ,zw];rfl
 have hpre:∀ (j:Nat) (x:zg), σ[j]? = some x → ρ[j]? = some x:=fun j x h=>by rw [← hρ];exact zd h
 rw [hρ] at hρr
 change ACallL Tryz.prog zcZ [.agg (znm c)] (σ++[.box (znm c)]) _ _
 rw [hρ]
 refine c_begunOn hc (fun _ S hE => ?_) fun _ S a b u v hO => ?_
 ·have st:=hE.st
  refine zrM st ?_
  refine ends_rest' (take_rest' fun j x hx=>hE.rest j x (hpre j x hx) (hσr x (List.mem_of_getElem? hx))) (by simp [zeH,dmT,dm,dm1,zcH]) hl rfl
 have hI:=bgC_I hc
 have hH:=bgC_H hc
 have hpt:=bgF_put (ks:=ksC c) (zpW hc.each) (rqsF_top c.recs)
 rw [rqsF_sum] at hpt
 obtain ⟨s,hs⟩:∃ s,bgF (ksC c) (znO c.recs)=s:=⟨_,rfl⟩
 rw [hs] at hO hI hH hpt
 have c1':=hO.e.rest _ _ r0 (fun _ _ _ e=>by cases e)
 have hbl:(zaW c.bad).length=c.bad.length:=List.length_map ..
 have hal:(actsE c.acts).length=c.acts.length:=List.length_map ..
 have i1:=hI.bl
 have i3:=hI.led
 have i4:=hI.tab
 have hbad:=hc.bad
 have hmany:=hc.many
 have st:=hO.e.st
 have ra:=hO.ra
 refine gq2 (zf st (zf ra (zf c1' hbl))) ?_
 refine zt c.bad.length (fun k vs S=>vs = [.d (.int .i64 k)]/\∃ G,OnR ρ (.box (znm c)) s s.L G 0 a b u 0 v (zmM c.f c.me c.topic c.offset) (zmM c.f c.me c.topic c.offset) S/\G.length<=s.G.length+k/\∀ x∈G,x∈s.G∨inF z x.key=true) ⟨rfl,s.G,hO,by omega,fun x h => .inl h⟩ ?_
 rintro k vs S0 hk ⟨rfl,G,hO0,hGl,hGm⟩
 have st0':∀ τ,(S0 ++ τ)[ρ.length+9]? = _:=fun τ=>zd hO0.e.st
 by_cases hlt:k<c.bad.length
 ·have hd:decide ((k:Int)<(c.bad.length:Int))=true:=by simp;omega
  have hx1:c.bad[k]? = some c.bad[k]:=by simp [hlt]
  obtain ⟨x,hxe⟩:∃ x,c.bad[k]=x:=⟨_,rfl⟩
  rw [hxe] at hx1
  have hgx:(zaW c.bad)[k]? = some [.int .i64 x.key,.int .i64 x.dig]:=zP (f:=zhI) hx1
  have hw:IntKind.i64.wrap ((k:Int)+1)=((k+1:Nat):Int):=by rw [zab (by omega) (by omega)];rfl
  refine gq2 (zf hd (zf hgx hbl)) ?_
  refine c_rIn hz ?_
  cases hi:inF z x.key
  ·refine gq2 hw ?_
   exact zaB.next hlt ⟨rfl,G,hO0.app _,by omega,hGm⟩
  ·refine gq2 st0' ?_
   refine c_gSign (hO0.e.led.app _) (by omega) ?_
   refine gq2 hw ?_
   refine zaB.next hlt ⟨rfl,zfz G x.key x.dig,(hO0.app _).putG _,by have:=signG_len G x.key x.dig;omega,fun y hy => ?_⟩
   rcases signG_mem' hy with hy|⟨rfl,_⟩
   ·exact hGm y hy
   ·exact .inr hi
 have hd:decide ((k:Int)<(c.bad.length:Int))=false:=by simp;omega
 have hG:G.length<=1073741824:=by omega
 have c0':=hO0.e.rest _ _ r0 (fun _ _ _ e=>by cases e)
 refine gq2 (zf hd (zf hbl (zf hal c0'))) ?_
 refine zt c.acts.length (fun k vs S=>vs = [.d (.int .i64 k)]/\∃ g r,OnR ρ (.box (znm c)) s s.L G k a b u g v r (zmM c.f c.me c.topic c.offset) S/\r.f=c.f/\PutI s r) ⟨rfl,_,_,hO0,rfl,fun p hp=>by simp [zmM] at hp⟩ ?_
 rintro k1 vs S1 hk1 ⟨rfl,g,r,hO1,hrf,hrp⟩
 have st1':∀ τ,(S1 ++ τ)[ρ.length+9]? = _:=fun τ=>zd hO1.e.st
 by_cases hl1:k1<c.acts.length
 ·have hd:decide ((k1:Int)<(c.acts.length:Int))=true:=by simp;omega
  have hx1:c.acts[k1]? = some c.acts[k1]:=by simp [hl1]
  have hx3:=hc.acts _ (List.getElem_mem hl1)
  have hgx:=zP (f:=actD) hx1
  obtain ⟨x,hxe⟩:∃ x,c.acts[k1]=x:=⟨_,rfl⟩
  rw [hxe] at hgx hx3
  have hw:IntKind.i64.wrap ((k1:Int)+1)=((k1+1:Nat):Int):=by rw [zab (by omega) (by omega)];rfl
  cases h5:(x.do_ != 0)
  ·refine gq54 (zf hd (zf hgx (zf hal (zf h5 hw)))) ?_
   exact zaB.next hl1 ⟨rfl,g,r,(hO1.app _).mono (by omega),hrf,hrp⟩
  refine gq54 (zf hd (zf hgx (zf hal (zf h5 st1')))) ?_
  refine c_comes (x:=x) (hO1.app _).e (hO1.app _).ra hI (by omega) hH hO1.i hx3 ?_
  have hsm:=zkC hI (by omega) hO1.i hx3
  refine gq1 ?_
  refine zwu (n:=k1) (hO1.app _).ra (hO1.app _).ru (hO1.app _).e.tab (hO1.app _).e.led i4 hG hO1.i (by omega) hsm (fun hne τ => ?_) (fun hz0 g' τ => ?_)
  ·refine gq2 hw ?_
   exact zaB.next hl1 ⟨rfl,g,r,(hO1.app _).mono (by omega),hrf,hrp⟩
  ·have hpu:=take_put (m:=zht s r x) hH st0_h i4.len hGm (by rw [hrf];exact hck) (by rw [hrf];exact hfew) hsm hrp
   have htI:=take_I (L:=s.L) (G:=G) hO1.i (m:=zht s r x) hsm.proof.rec_
   rw [takeR,if_pos hz0] at hpu htI
   refine gq2 hw ?_
   exact zaB.next hl1 ⟨rfl,g',_,(((hO1.app _).mono (by omega)).take htI).app _,hrf,hpu⟩
 have hd:decide ((k1:Int)<(c.acts.length:Int))=false:=by simp;omega
 have hln:=hO1.i.len
 have st1:=hO1.e.st
 have hpl:(zbg r.L).length=r.L.length:=List.length_map ..
 refine gq2 (zf hd (zf hal st1)) ?_
 refine c_rdRead hO1.ra hO1.ru (by omega) (fun p hp=>(hO1.i.recs p hp).1) ?_
 refine gq2 hpl ?_
 refine zt r.L.length (fun k vs S=>vs = [.d (.int .i64 k)]/\∃ T,S=S1++T) ⟨rfl,[],by simp⟩ ?_
 rintro k2 vs S2 hk2 ⟨rfl,T,rfl⟩
 have hO2:=hO1.app T
 obtain ⟨S2,hS2⟩:∃ S2,S1++T=S2:=⟨_,rfl⟩
 rw [hS2] at hO2 ⊢
 by_cases hl2:k2<r.L.length
 ·have hd:decide ((k2:Int)<(r.L.length:Int))=true:=by simp;omega
  have hx1:r.L[k2]? = some r.L[k2]:=by simp [hl2]
  obtain ⟨bb,hbb,hpp⟩:=hrp _ (List.getElem_mem hl2)
  have hgx:=zP (f:=zel) hx1
  obtain ⟨p,hpe⟩:∃ p,r.L[k2]=p:=⟨_,rfl⟩
  rw [hpe] at hgx hpp
  obtain ⟨g1,g2⟩:=hpt bb hbb p hpp
  have c2':∀ τ,(S2 ++ τ)[σ.length]? = _:=fun τ=>zd (hO2.e.rest _ _ r0 (fun _ _ _ e=>by cases e))
  have st2':∀ τ,(S2 ++ τ)[ρ.length+9]? = _:=fun τ=>zd hO2.e.st
  have hw:IntKind.i64.wrap ((k2:Int)+1)=((k2+1:Nat):Int):=by rw [zab (by omega) (by omega)];rfl
  have hrl:(zbT c.recs).length=c.recs.length:=List.length_map ..
  have g3:decide (p.offset≥(if (24:Int)<(c.recs.length:Int) then (24:Int) else (c.recs.length:Int)))=false:=by
   simp only [decide_eq_false_iff_not];split<;>omega
  have g4:(!(p.topic==[116]))=false:=by rw [g1];rfl
  have hcl:p.topic = [116]:=g1
  refine gq55 (zf hd (zf hgx (zf hpl (zf c2' (zf hrl (zf g3 g4)))))) ?_
  refine c_put25 (p:=p) (st2' _) (by omega) hI.bs ?_
  rw [put_any25 ⟨bb,hbb,hpp⟩]
  refine gq2 hw ?_
  exact zaB.next hl2 ⟨rfl,_,by rw [← hS2,List.append_assoc]⟩
 ·have hd:decide ((k2:Int)<(r.L.length:Int))=false:=by simp;omega
  refine gq2 (zf hd hpl) ?_
  refine ends_rest' (take_rest' fun j x hx=>hO2.e.rest j x (hpre j x hx) (hσr x (List.mem_of_getElem? hx))) (by simp [zeH,dmT,dm,dm1,zcH]) hl rfl
open Go.AW Go.ChangeShapes Go.WideShapes Go.ChangeAt Go.RowKit
theorem zpU {H:Type} {enc:TypeId × Value->H} {P:Program} {w:World} {sp:Nat->Bool} {held:Bool} {vs:List Value} {ds gs:List (DataW H)} {ps:List MemPlace} {ts:List TypeId} (hl:ts.length=2)
  (h:DataW.TrodAll enc P w 0 sp held ts vs ds ps) (hg:gs = []):(Rows.readerSoundSpec).fn H (ds++gs) = { results := [.lit (.bool true)],args:=ds }:=by
 subst hg
 have hd:ds.length=2:=by
  have:∀ (ts:List TypeId) (vs:List Value) (ds:List (DataW H)) (ps:List MemPlace),DataW.TrodAll enc P w 0 sp held ts vs ds ps->ds.length=ts.length:=by
   intro ts
   induction ts with
   | nil=>intro vs ds ps h;cases vs<;>cases ds<;>simp [DataW.TrodAll] at h ⊢
   | cons t ts ih=>
    intro vs ds ps h
    obtain ⟨v,vs',d,ds',p,q,rfl,rfl,rfl,h1,h2⟩:=trodAll_cons h
    simp [ih vs' ds' q h2]
  rw [this ts vs ds ps h,hl]
 rw [List.append_nil]
 match ds,hd with
 | [_,_],_=>rfl
theorem zoV (os:Os) (started:os.Started) (H:Type) (enc:TypeId × Value->H) (F:Stop.Interp) :
  ReturnsInHanded {} Tryz.checked os 3 .any ((Rows.OpenSpec.upto Rows.readerSoundSpec).pre6 enc Tryz.prog Tryz.f3 Rows.readerSoundUptoRow.domain false) (((Rows.OpenSpec.upto Rows.readerSoundSpec).at F).post enc Tryz.prog Tryz.f3 false true false false):=by
 refine returnsInHanded_of_cond (C:=Tryz.checked) (s:=Rows.OpenSpec.upto Rows.readerSoundSpec) (k:=Rows.uptoSmall) rfl own started (by kernel_rfl) Tryz.func3
  (OpenSpec.witness (enc:=enc) (C:=Tryz.checked) (s:=Rows.OpenSpec.upto Rows.readerSoundSpec) (k:=Rows.uptoSmall) rfl false ⟨#[], #[(.agg #[(.int .i64 0),(.int .i64 0),(.string .empty),(.int .i64 0),(.slice none 0 0),(.int .u16 0),(.slice none 0 0),(.slice none 0 0)]),(.int .u16 0)],[]⟩ 24 (by kernel_rfl) (by kernel_rfl) (by kernel_rfl)
   (x:=([(.agg [(.lit (.int .i64 0)),(.lit (.int .i64 0)),(.lit (.string [])),(.lit (.int .i64 0)),.nil,(.lit (.int .u16 0)),.nil,.nil]),(.lit (.int .u16 0))],[],[])) (by kernel_rfl) rfl (by kernel_rfl)) ?_
 intro W base args ds gs before hval hW _ hk _
 have hW0:DataW.Whole enc Tryz.prog Tryz.f3.params.toList (Rows.readerSoundSpec).vars false W args.toList ds gs before:=hW
 have hg:gs = []:=by
  obtain ⟨p,q,hA,hV,_⟩:=hW0
  cases gs with
  | nil=>rfl
  | cons=>simp [Rows.readerSoundSpec,DataW.TrodVars] at hV
 refine law_calls isBulk hval hW0 (pars:=zlj) (by kernel_rfl) rfl (by obtain ⟨p,q,hA,_⟩:=hW0;exact zpU (by kernel_rfl) hA hg) laidOut mapsLaid slicesFull (by kernel_rfl) (tb := 4) (by kernel_rfl) (by kernel_rfl) fun xs has=>zsv xs _ ?_ has
 have:=small hk
 rw [hg,List.append_nil] at this
 exact this
theorem readerSound_upto:Rows.ReaderSoundUptoSaid:=
 OpenClaim.holds_of_cond 3 Tryz.f3 rfl rfl rfl rfl rfl rfl rfl ⟨rfl,rfl,rfl,rfl,rfl⟩ rfl rfl rfl rfl rfl (by kernel_rfl) Tryz.func3 (by unfold joinedFacts;rw [any_loops,any_loops]<;>kernel_rfl)
  (of_decide_eq_true (by kernel_rfl)) (by unfold Func.isWrapper;first|(rw [if_pos (by decide +kernel)];kernel_rfl)|(rw [if_neg (by decide +kernel)];exact ⟨rfl,rfl⟩))
  (fun os started H enc _ F=>zoV os started H enc F)
end Go.Proofs.YtfgbofkdhfjegaaGreat

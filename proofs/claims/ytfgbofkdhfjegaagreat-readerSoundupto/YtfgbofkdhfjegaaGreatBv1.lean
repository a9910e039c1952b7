/- What chapter 25 begins with: one request a block, then who signs what was checked. No program in sight. -/
import Derived.Test.YtfgbofkdhfjegaaGreatHi2
set_option linter.all false
set_option maxRecDepth 100000
namespace Go.Proofs.YtfgbofkdhfjegaaGreat
open Go.AW
def exX (s:zaE) (b:List zo):zaE:=
 if (zcI s.L s.T s.h b).e≠0 then { s with L:=(zcI s.L s.T s.h b).L,T:=(zcI s.L s.T s.h b).T }
 else ⟨(zcI s.L s.T s.h b).L,s.G,(zcI s.L s.T s.h b).h,(zcI s.L s.T s.h b).T,s.bs++[⟨(zcI s.L s.T s.h b).h,b,(zcI s.L s.T s.h b).p⟩],s.cs⟩
def slX (s:zaE) (x:zo):zaE:={ s with L:=zpV s.L x,G:=zsd s.L s.G x }
def blX (s:zaE) (x:zo):zaE:=if ztV s.L x=0 then exX (slX s x) [zkE s.L x] else slX s x
def crV (ks:List Int) (s:zaE) (h:zcF):List (List UInt8) × List zI × List zI:=ks.foldl (voR h.seq (zkW s.L h)) (zeG s.L h,s.G,[])
def crX (ks:List Int) (s:zaE) (h:zcF):zaE:=
 if h.seq.tmod 4≠0 then { s with L:=zeG s.L h }
 else { s with L:=(crV ks s h).1,G:=(crV ks s h).2.1,cs:=s.cs++[⟨h.seq,zkW s.L h,(crV ks s h).2.2⟩] }
def bgB (rs:List zo):zaE:=rs.foldl blX st0
def bgF (ks:List Int) (rs:List zo):zaE:=((bgB rs).bs.map zbc.header).foldl (crX ks) (bgB rs)
theorem StI.mono {N m N' m':Nat} {s:zaE} (h:StI N m s) (h1:N<=N') (h2:m<=m'):StI N' m' s:=
 ⟨h.tab,Nat.le_trans h.led h1,h.ledI,h.tops,h.last,h.last8,h.bs,Nat.le_trans h.bl h2,h.cs,Nat.le_trans h.cl h2⟩
theorem stI_sl {N m:Nat} {s:zaE} {x:zo} (h:StI N m s) (hx:zjG x.op<=20971520):StI (N+1) m (slX s x):=by
 have h1:=seI (n:=s.G.length) (m := 0) (s:=(s.L,s.G,[])) (r:=x) ⟨h.tab,Nat.le_refl _,by simp,by simp⟩ hx
 have h2:LedI (seR (s.L,s.G,[]) x).2.1:=ledSe (l := [x]) (s:=(s.L,s.G,[])) h.ledI
 have h3:=h.led
 have h4:=h1.led
 exact ⟨h1.tab,by simp only [slX];simp only [seR] at h4;omega,h2,h.tops,h.last,h.last8,h.bs,h.bl,h.cs,h.cl⟩
theorem zvL {L:List (List UInt8)} {x:zo} (h:ztV L x=0):zkE L x=⟨x.client,x.time,x.op,keyF x.client,zdy L (zrJ x)⟩:=by rw [zkE,if_pos h]
theorem stI_ex {N m:Nat} {s:zaE} {b:List zo} (h:StI N m s) (hx:∀ x∈b,zjG x.op<=20971520):StI N (m+1) (exX s b):=by
 obtain ⟨e1,e2,e3,e4,e5⟩:=execI (h:=s.h) h.tab h.tops h.last h.last8 hx
 have hbl:=h.bl
 have hcl:=h.cl
 unfold exX
 split
 ·exact ⟨e1,h.led,h.ledI,e2,e3,e4,h.bs,by simp only;omega,h.cs,by simp only;omega⟩
 ·rename_i he
  have he:(zcI s.L s.T s.h b).e=0:=Classical.not_not.1 he
  refine ⟨e1,h.led,h.ledI,e2,e3,e4,fun y hy => ?_,by simp;omega,h.cs,by simp only;omega⟩
  rcases List.mem_append.1 hy with hy|hy
  ·exact h.bs y hy
  ·simp only [List.mem_singleton] at hy;subst hy;exact e5 he
theorem stI_bl {N m:Nat} {s:zaE} {x:zo} (h:StI N m s) (hx:zjG x.op<=20971520):StI (N+1) (m+1) (blX s x):=by
 unfold blX
 split
 ·rename_i e
  exact stI_ex (stI_sl h hx) fun y hy=>by
   simp only [List.mem_singleton] at hy;subst hy;rw [zvL e];exact hx
 ·exact (stI_sl h hx).mono (Nat.le_refl _) (by omega)
theorem stI_cr {N m:Nat} {ks:List Int} {s:zaE} {x:zcF} (h:StI N m s) (hk:ks.length<=13):StI (N+13) (m+1) (crX ks s x):=by
 have hbl:=h.bl
 have hcl:=h.cl
 have hN:=h.led
 unfold crX
 split
 ·exact ⟨zrH h.tab x,by simp only;omega,h.ledI,h.tops,h.last,h.last8,h.bs,by simp only;omega,h.cs,by simp only;omega⟩
 ·have v:=foldVo (seq:=x.seq) (d:=zkW s.L x) (s:=(zeG s.L x,s.G,[])) (N:=s.G.length) (m := 0) ⟨zrH h.tab x,Nat.le_refl _,h.ledI,Nat.zero_le _⟩ ks
  refine ⟨v.tab,by have:=v.led;simp only [crV];omega,v.ledI,h.tops,h.last,h.last8,h.bs,by simp only;omega,fun c hc => ?_,by simp;omega⟩
  rcases List.mem_append.1 hc with hc|hc
  ·exact h.cs c hc
  ·simp only [List.mem_singleton] at hc
   subst hc
   have:=v.len
   simp only [crV];omega
theorem fold_bl {N m:Nat} {s:zaE}:∀ {rs:List zo} {s:zaE} {N m:Nat},StI N m s->(∀ x∈rs,zjG x.op<=20971520)->StI (N+rs.length) (m+rs.length) (rs.foldl blX s)
 | [],_,_,_,h,_=>h
 | x::rs,s,N,m,h,hx=>by
  have:=fold_bl (N:=N) (m:=m) (s:=s) (rs:=rs) (stI_bl h (hx x (by simp))) fun y hy=>hx y (by simp [hy])
  simp only [List.foldl_cons,List.length_cons]
  rwa [show N+(rs.length+1)=N+1+rs.length by omega,show m+(rs.length+1)=m+1+rs.length by omega]
theorem fold_cr {ks:List Int} (hk:ks.length<=13):∀ {l:List zcF} {s:zaE} {N m:Nat},StI N m s->StI (N+13*l.length) (m+l.length) (l.foldl (crX ks) s)
 | [],_,_,_,h=>h
 | x::l,s,N,m,h=>by
  have:=fold_cr hk (l:=l) (stI_cr (x:=x) h hk)
  simp only [List.foldl_cons,List.length_cons]
  rwa [show N+13*(l.length+1)=N+13+13*l.length by omega,show m+(l.length+1)=m+1+l.length by omega]
theorem crX_bs (ks:List Int) (s:zaE) (x:zcF):(crX ks s x).bs=s.bs/\(crX ks s x).T=s.T/\(crX ks s x).h=s.h:=by
 unfold crX
 split<;>exact ⟨rfl,rfl,rfl⟩
theorem zsJ (ks:List Int):∀ (l:List zcF) (s:zaE),(l.foldl (crX ks) s).bs=s.bs/\(l.foldl (crX ks) s).T=s.T
 | [],_=>⟨rfl,rfl⟩
 | x::l,s=>by
  have:=zsJ ks l (crX ks s x)
  simp only [List.foldl_cons]
  exact ⟨this.1.trans (crX_bs ..).1,this.2.trans (crX_bs ..).2.1⟩
theorem blX_len (s:zaE) (x:zo):(blX s x).bs.length<=s.bs.length+1:=by
 unfold blX exX slX
 repeat' split
 all_goals simp
theorem zqs:∀ (rs:List zo) (s:zaE),(rs.foldl blX s).bs.length<=s.bs.length+rs.length
 | [],_=>Nat.le_refl _
 | x::rs,s=>by
  have h1:=zqs rs (blX s x)
  have h2:=blX_len s x
  simp only [List.foldl_cons,List.length_cons];omega
theorem bgF_I {ks:List Int} {rs:List zo} (hx:∀ x∈rs,zjG x.op<=20971520) (hr:rs.length<=25) (hk:ks.length<=13):StI 350 50 (bgF ks rs):=by
 have h1:StI (0+rs.length) (0+rs.length) (bgB rs):=fold_bl (N := 0) (m := 0) (s:=st0) st0I hx
 have h2:=zqs rs st0
 have h3:st0.bs.length=0:=rfl
 have h4:(bgB rs).bs.length<=25:=by unfold bgB;omega
 have:=fold_cr hk (l:=(bgB rs).bs.map zbc.header) h1
 rw [List.length_map] at this
 exact this.mono (by omega) (by omega)
theorem bgF_bs (ks:List Int) (rs:List zo):(bgF ks rs).bs=(bgB rs).bs:=(zsJ ks _ _).1
theorem zhU.grow {ks:List Int} {g:zcF} {s:zaE} {L:List (List UInt8)} {G:List zI} (h:zhU ks g s) (hp:s.L <+: L) (hg:∀ x∈s.G,x∈G) (hn:∀ x∈G,x∈s.G∨13<=x.key):zhU ks g { s with L:=L,G:=G }:=
 ⟨h.ch.pre hp,fun b hb=>(h.blk b hb).pre hp,h.last,fun c hc=>(h.crt c hc).pre hp hg fun x hx=>hx,fun x hx=>by
  rcases hn x hx with hx|hx
  ·rcases h.sg x hx with h1|⟨c,h1,h2⟩
   ·exact .inl h1
   ·exact .inr ⟨c,h1,h2.pre hp⟩
  ·exact .inl hx⟩
theorem hist_sl {ks:List Int} {g:zcF} {s:zaE} {x:zo} (h:zhU ks g s):zhU ks g (slX s x)/\(slX s x).L.length<=s.L.length+1:=by
 obtain ⟨a1,a2,a3,a4⟩:=seHist [x] (s.L,s.G,[])
 exact ⟨h.grow a1 a4 a3,a2⟩
theorem hist_ex {ks:List Int} {g:zcF} {s:zaE} {b:List zo} (h:zhU ks g s) (hT:zeZ s.T) (hL:s.L.length+600<=1048576):zhU ks g (exX s b)/\(exX s b).L.length<=s.L.length+520:=by
 obtain ⟨e1,e2,e3⟩:=exec_hist (h:=s.h) (b:=b) hT hL
 have hb:∀ y∈s.bs,BlkI (zcI s.L s.T s.h b).L y:=fun y hy=>(h.blk y hy).pre e1
 unfold exX
 split
 ·exact ⟨⟨h.ch.pre e1,hb,h.last,fun c hc=>(h.crt c hc).pre e1 (fun x hx=>hx) fun x hx=>hx,fun x hx=>by
   rcases h.sg x hx with h1|⟨c,h1,h2⟩
   ·exact .inl h1
   ·exact .inr ⟨c,h1,h2.pre e1⟩⟩,e2⟩
 ·rename_i he
  obtain ⟨b1,b2⟩:=e3 (Classical.not_not.1 he)
  refine ⟨⟨?_,fun y hy => ?_,(zuL (b:=⟨_,b,_⟩)).symm,fun c hc=>(h.crt c hc).pre e1 (fun x hx=>hx) fun x hx=>List.mem_append_left _ hx,fun x hx => ?_⟩,e2⟩
  ·refine ChI.snoc (h.ch.pre e1) ?_
   rw [← h.last]
   exact b2
  ·rcases List.mem_append.1 hy with hy|hy
   ·exact hb y hy
   ·simp only [List.mem_singleton] at hy;subst hy;exact b1
  ·rcases h.sg x hx with h1|⟨c,h1,h2⟩
   ·exact .inl h1
   ·exact .inr ⟨c,h1,h2.pre e1⟩
theorem hist_bl {ks:List Int} {g:zcF} {s:zaE} {x:zo} (h:zhU ks g s) (hT:zeZ s.T) (hL:s.L.length+700<=1048576):zhU ks g (blX s x)/\(blX s x).L.length<=s.L.length+521:=by
 obtain ⟨h1,h2⟩:=hist_sl (x:=x) h
 unfold blX
 split
 ·obtain ⟨h3,h4⟩:=hist_ex (b := [zkE s.L x]) h1 hT (by omega)
  exact ⟨h3,by omega⟩
 ·exact ⟨h1,by omega⟩
theorem hist_cr {ks:List Int} {g:zcF} {s:zaE} {b:zbc} (h:zhU ks g s) (hb:b∈s.bs) (hk:∀ k∈ks, 0<=k/\k<13) (hL:s.L.length+700<=1048576):zhU ks g (crX ks s b.header)/\(crX ks s b.header).L.length<=s.L.length+2:=by
 obtain ⟨d1,d2⟩:=hdigL_pre s.L b.header
 have hok:=(h.blk b hb).ok
 unfold crX
 split
 ·exact ⟨h.grow (G:=s.G) d1 (fun x hx=>hx) fun x hx => .inl hx,by simp only;omega⟩
 ·rename_i h4
  have h4:b.header.seq.tmod 4=0:=Classical.not_not.1 h4
  have hc0:zba b.header=0:=zdY.2 hok
  have hd:zkW s.L b.header=zdy s.L (zmR b.header):=by rw [zkW,if_neg (by simp [hc0])]
  have hdl:zeG s.L b.header=zeJ s.L (zmR b.header):=by rw [zeG,if_neg (by simp [hc0])]
  have hn:zeS (zeG s.L b.header) (zmR b.header) (zkW s.L b.header):=by rw [hd,hdl];exact zrW (zrX (by omega))
  have hseq:=zeo hok b.header.seq (by simp [zkz])
  have hdp:=hn.pos
  have hm:znZ 6 0 b.header.seq (zkW s.L b.header)=true:=by
   simp only [znZ,Bool.and_eq_true,zdT]
   omega
  obtain ⟨v,v1,v2,v3,v4,v5,v6⟩:=voHist0 hm ks (zeG s.L b.header,s.G,[]) hk (by simp only;omega)
  simp only at v1 v2 v3 v4 v5 v6 ⊢
  obtain ⟨E,hE⟩:∃ E,crV ks s b.header=E:=⟨_,rfl⟩
  unfold crV at hE
  unfold crV
  rw [hE] at v1 v2 v3 v4 v5 v6 ⊢
  have hq:=d1.trans v1
  refine ⟨⟨h.ch.pre hq,fun y hy=>(h.blk y hy).pre hq,h.last,fun c hc => ?_,fun x hx => ?_⟩,by omega⟩
  ·simp only at hc
   rcases List.mem_append.1 hc with hc|hc
   ·exact (h.crt c hc).pre hq v4 fun x hx=>hx
   ·simp only [List.mem_singleton] at hc
    subst hc
    exact ⟨⟨b,hb,rfl,hn.pre v1⟩,h4,v,by rw [v5];simp,fun k hk=>v6 k hk⟩
  ·simp only at hx ⊢
   rcases v3 x hx with hx|⟨hx,hx2⟩
   ·rcases h.sg x hx with h1|⟨c,h1,h2⟩
    ·exact .inl h1
    ·exact .inr ⟨c,List.mem_append_left _ h1,h2.pre hq⟩
   ·exact .inr ⟨_,List.mem_append_right _ (List.mem_singleton.2 rfl),by rw [hx];exact hx2⟩
theorem zsI {ks:List Int} {g:zcF}:∀ {rs:List zo} {s:zaE} {N m:Nat},zhU ks g s->StI N m s->(∀ x∈rs,zjG x.op<=20971520)->s.L.length+521*rs.length+700<=1048576->zhU ks g (rs.foldl blX s)/\(rs.foldl blX s).L.length<=s.L.length+521*rs.length
 | [],_,_,_,h,_,_,_=>⟨h,by simp⟩
 | x::rs,s,N,m,h,hI,hx,hL=>by
  simp only [List.length_cons] at hL
  obtain ⟨h1,h2⟩:=hist_bl (x:=x) h hI.tops (by omega)
  obtain ⟨h3,h4⟩:=zsI (rs:=rs) h1 (stI_bl hI (hx x (by simp))) (fun y hy=>hx y (by simp [hy])) (by omega)
  refine ⟨h3,?_⟩
  simp only [List.foldl_cons,List.length_cons]
  omega
theorem zsH {ks:List Int} {g:zcF} (hk:∀ k∈ks, 0<=k/\k<13):∀ {l:List zcF} {s:zaE},zhU ks g s->(∀ x∈l, ∃ b∈s.bs,x=b.header)->s.L.length+2*l.length+700<=1048576->zhU ks g (l.foldl (crX ks) s)
 | [],_,h,_,_=>h
 | x::l,s,h,hb,hL=>by
  simp only [List.length_cons] at hL
  obtain ⟨b,hb1,rfl⟩:=hb x (by simp)
  obtain ⟨h1,h2⟩:=hist_cr h hb1 hk (by omega)
  exact zsH hk (l:=l) h1 (fun y hy=>by rw [(crX_bs ..).1];exact hb y (by simp [hy])) (by omega)
theorem bgF_H {ks:List Int} {rs:List zo} (hx:∀ x∈rs,zjG x.op<=20971520) (hr:rs.length<=25) (hk:∀ k∈ks, 0<=k/\k<13):zhU ks st0.h (bgF ks rs):=by
 have h0:=st0_len
 obtain ⟨h1,h2⟩:=zsI (N := 0) (m := 0) (hist0 ks) st0I hx (by omega)
 have h3:=zqs rs st0
 have h4:st0.bs.length=0:=rfl
 refine zsH hk (s:=bgB rs) h1 (fun x h => ?_) ?_
 ·obtain ⟨b,hb,rfl⟩:=List.mem_map.1 h
  exact ⟨b,hb,rfl⟩
 ·rw [List.length_map];unfold bgB;omega
theorem make_same {ks:List Int} {g:zcF} {s:zaE} (h:zhU ks g s) {c:zfa} {t:List UInt8} {o:Int}:(zhO s.L s.bs c t o).2.2=s.L:=by
 unfold zhO
 split
 ·rfl
 rename_i i k hfb
 split
 ·rfl
 obtain ⟨b',r',h1,_,h2,h3,h4⟩:=findB_is hfb
 rw [Nat.sub_zero] at h1
 have hgd:s.bs.getD i ⟨⟨0, 0, 0, 0, 0⟩,[],[]⟩=b':=by simp [List.getD,h1]
 have hR:=(h.blk b' (List.mem_of_getElem? h1)).root
 have hgl:(b'.placed.map zaz)[k]? = some (zaz r'):=by rw [List.getElem?_map,h2];rfl
 obtain ⟨p1,_,_,_⟩:=znP b'.placed.length b'.placed.length (by simp) (by simp) hR hgl
 simp only [hgd]
 exact p1
theorem uq_ex {s:zaE} {l:List zo} (h:UqI s) (hT:zeZ s.T):UqI (exX s l):=by
 obtain ⟨P,hP,hp⟩:=execU (L:=s.L) (h:=s.h) (b:=l) h.nd hT
 unfold exX
 obtain ⟨r,hr⟩:∃ r,zcI s.L s.T s.h l=r:=⟨_,rfl⟩
 rw [hr] at hP hp ⊢
 have hold:∀ b∈s.bs, ∀ p∈b.placed, ∃ x∈r.T.l,x.name=p.topic/\p.offset<x.next:=fun b hb p hq=>by
  obtain ⟨x,h1,h2,h3⟩:=h.old b hb p hq
  obtain ⟨y,g1,g2,g3⟩:=hP.mono x h1
  exact ⟨y,g1,g2.trans h2,by omega⟩
 split
 ·exact ⟨hP.nd,hold,h.one⟩
 ·rename_i he
  have hp:=hp (Classical.not_not.1 he)
  subst hp
  refine ⟨hP.nd,fun b hb p hq => ?_,fun i j a b hi hj p hp q hq h1 h2 => ?_⟩
  ·rcases List.mem_append.1 hb with hb|hb
   ·exact hold b hb p hq
   ·simp only [List.mem_singleton] at hb;subst hb;exact hP.old p hq
  ·simp only at hi hj
   have cross:∀ {a:zbc} {p q:zaI},a∈s.bs->p∈a.placed->q∈r.p->p.topic=q.topic->p.offset=q.offset->False:=fun {a p q} ha hp hq h1 h2=>by
    obtain ⟨x,g1,g2,g3⟩:=h.old a ha p hp
    have:=hP.new q hq x g1 (g2.trans h1)
    omega
   rcases Nat.lt_or_ge i s.bs.length with li|li
   ·rw [List.getElem?_append_left li] at hi
    rcases Nat.lt_or_ge j s.bs.length with lj|lj
    ·rw [List.getElem?_append_left lj] at hj
     exact h.one i j a b hi hj p hp q hq h1 h2
    ·rw [List.getElem?_append_right lj] at hj
     have hb:b=⟨r.h,l,r.p⟩:=by
      have:=List.mem_of_getElem? hj;simpa using this
     subst hb
     exact (cross (List.mem_of_getElem? hi) hp hq h1 h2).elim
   ·rw [List.getElem?_append_right li] at hi
    have ha:a=⟨r.h,l,r.p⟩:=by
     have:=List.mem_of_getElem? hi;simpa using this
    have hi0:i=s.bs.length:=by have:=(List.getElem?_eq_some_iff.1 hi).1;simp at this;omega
    subst ha
    rcases Nat.lt_or_ge j s.bs.length with lj|lj
    ·rw [List.getElem?_append_left lj] at hj
     exact (cross (List.mem_of_getElem? hj) hq hp h1.symm h2.symm).elim
    ·rw [List.getElem?_append_right lj] at hj
     have:j=s.bs.length:=by have:=(List.getElem?_eq_some_iff.1 hj).1;simp at this;omega
     omega
theorem uq_bl {s:zaE} {x:zo} (h:UqI s) (hT:zeZ s.T):UqI (blX s x):=by
 have h1:UqI (slX s x):=⟨h.nd,h.old,h.one⟩
 unfold blX
 split
 ·exact uq_ex h1 hT
 ·exact h1
theorem foldUq_bl:∀ {rs:List zo} {s:zaE} {N m:Nat},UqI s->StI N m s->(∀ x∈rs,zjG x.op<=20971520)->UqI (rs.foldl blX s)
 | [],_,_,_,h,_,_=>h
 | x::rs,s,N,m,h,hI,hx=>foldUq_bl (rs:=rs) (uq_bl h hI.tops) (stI_bl hI (hx x (by simp))) fun y hy=>hx y (by simp [hy])
def zvl (n:List UInt8) (k:Nat) (T:zbn):Prop := ∀ x∈T.l,x.name=n/\x.next<=k
theorem zvl.mono {n:List UInt8} {k m:Nat} {T:zbn} (h:zvl n k T) (hk:k<=m):zvl n m T:=fun x hx=>⟨(h x hx).1,by have:=(h x hx).2;omega⟩
theorem topT_does {n:List UInt8} {k:Nat} {T:zbn} {o:TOp} (h:zvl n k T) (hn:o.topic=n) (hk:o.kind=1∨o.kind=2):zvl n (k+o.recs.length) (zcw T o).2.2:=by
 have h':zvl n (k+o.recs.length) T:=h.mono (by omega)
 unfold zcw
 split
 ·exact h'
 split
 ·exact h'
 split
 ·unfold zdu
  split
  ·exact h'
  split
  ·exact h'
  ·intro x hx
   rcases List.mem_append.1 hx with hx|hx
   ·exact h' x (List.mem_of_mem_take hx)
   ·rcases List.mem_cons.1 hx with rfl|hx
    ·exact ⟨hn,by simp [zbt.next];omega⟩
    ·exact h' x (List.mem_of_mem_drop hx)
 rename_i k1
 have k2:o.kind=2:=by omega
 split
 ·exact h'
 rename_i i hi
 split
 ·exact h'
 rename_i x hx
 rw [if_pos k2]
 unfold zdb
 split
 ·exact h'
 ·intro y hy
  rcases List.mem_or_eq_of_mem_set hy with hy|rfl
  ·exact h' y hy
  ·have h1:=h x (List.mem_of_getElem? hx)
   refine ⟨h1.1,?_⟩
   have h2:=h1.2
   simp only [zbt.next,List.length_append] at h2 ⊢
   omega
theorem topT_apply {n:List UInt8} {k:Nat} {T:zbn} {c tm:Int} {o:TOp} (h:zvl n k T) (hn:o.topic=n) (hk:o.kind=1∨o.kind=2):zvl n (k+o.recs.length) (zbW T c tm o).2.2.2:=by
 have h':zvl n (k+o.recs.length) T:=h.mono (by omega)
 unfold zbW
 split
 ·exact h'
 split
 ·exact h'
 split
 ·exact h'
 ·exact topT_does h hn hk
theorem topT_ex {n:List UInt8} {k:Nat} {s:zaE} {y:zo} (h:zvl n k s.T) (hn:y.op.topic=n) (hk:y.op.kind=1∨y.op.kind=2):zvl n (k+y.op.recs.length) (exX s [y]).T:=by
 have h':zvl n (k+y.op.recs.length) s.T:=h.mono (by omega)
 have h2:zvl n (k+y.op.recs.length) (zcI s.L s.T s.h [y]).T:=by
  have hA:zvl n (k+y.op.recs.length) (zU s.T [y]).2:=topT_apply h hn hk
  unfold zcI
  split
  ·exact h'
  split
  ·exact h'
  split
  ·exact h'
  split
  ·exact h'
  simp only
  split<;>exact hA
 unfold exX
 split<;>exact h2
theorem topT_bl {n:List UInt8} {k:Nat} {s:zaE} {x:zo} (h:zvl n k s.T) (hn:x.op.topic=n) (hk:x.op.kind=1∨x.op.kind=2):zvl n (k+x.op.recs.length) (blX s x).T:=by
 unfold blX
 split
 ·rename_i e
  have e2:(zkE s.L x).op=x.op:=by rw [zvL e]
  have:=topT_ex (s:=slX s x) (y:=zkE s.L x) h (by rw [e2];exact hn) (by rw [e2];exact hk)
  rwa [e2] at this
 ·exact zvl.mono (T:=s.T) h (by omega)
theorem fold_topT {n:List UInt8}:∀ {rs:List zo} {s:zaE} {k:Nat},zvl n k s.T->(∀ x∈rs,x.op.topic=n/\(x.op.kind=1∨x.op.kind=2))->zvl n (k+(rs.map fun x=>x.op.recs.length).sum) (rs.foldl blX s).T
 | [],_,_,h,_=>h
 | x::rs,s,k,h,hx=>by
  have h1:=hx x (by simp)
  have:=fold_topT (rs:=rs) (topT_bl h h1.1 h1.2) fun y hy=>hx y (by simp [hy])
  simp only [List.foldl_cons,List.map_cons,List.sum_cons]
  rwa [show k+(x.op.recs.length+(rs.map fun x=>x.op.recs.length).sum)=k+x.op.recs.length+(rs.map fun x=>x.op.recs.length).sum by omega]
theorem bgF_put {ks:List Int} {n:List UInt8} {rs:List zo} (hx:∀ x∈rs,zjG x.op<=20971520) (hn:∀ x∈rs,x.op.topic=n/\(x.op.kind=1∨x.op.kind=2)) :
  ∀ b∈(bgF ks rs).bs, ∀ p∈b.placed,p.topic=n/\p.offset<((rs.map fun x=>x.op.recs.length).sum:Nat):=fun b hb p hp=>by
 have h1:UqI (bgB rs):=foldUq_bl (N := 0) (m := 0) uq0 st0I hx
 have h2:zvl n (0+(rs.map fun x=>x.op.recs.length).sum) (bgB rs).T:=fold_topT (s:=st0) (fun x hx=>by simp [st0,zdU] at hx) hn
 rw [bgF_bs] at hb
 obtain ⟨x,g1,g2,g3⟩:=h1.old b hb p hp
 obtain ⟨g4,g5⟩:=h2 x g1
 exact ⟨by rw [← g2,g4],by rw [Nat.zero_add] at g5;omega⟩
end Go.Proofs.YtfgbofkdhfjegaaGreat

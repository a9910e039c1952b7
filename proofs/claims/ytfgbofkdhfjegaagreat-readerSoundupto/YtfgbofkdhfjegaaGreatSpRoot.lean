/- Numbers of what a table knows; trees in a table: what a proof shows, and that a made proof shows it. No program in sight. -/
import Derived.Test.YtfgbofkdhfjegaaGreatSpUtf
import Derived.Test.YtfgbofkdhfjegaaGreatKp2
import Derived.Test.YtfgbofkdhfjegaaGreatCk3
set_option linter.all false
namespace Go.AW
def zeS (L:List (List UInt8)) (b:List UInt8) (d:Int):Prop := ∃ i,zcv L b=some i/\d=((i+1:Nat):Int)
theorem zeS.pre {L L':List (List UInt8)} {b:List UInt8} {d:Int} (h:zeS L b d) (hp:L <+: L'):zeS L' b d:=by
 obtain ⟨i,h1,h2⟩:=h
 obtain ⟨m,rfl⟩:=hp
 exact ⟨i,look_more h1,h2⟩
theorem zeS.pos {L:List (List UInt8)} {b:List UInt8} {d:Int} (h:zeS L b d):1<=d/\d<=L.length:=by
 obtain ⟨i,h1,h2⟩:=h
 have:=(zhP h1).1
 omega
theorem zeS.inj {L:List (List UInt8)} {a b:List UInt8} {d:Int} (ha:zeS L a d) (hb:zeS L b d):a=b:=by
 obtain ⟨i,h1,h2⟩:=ha
 obtain ⟨j,h3,h4⟩:=hb
 have:i=j:=by omega
 subst this
 have:=(zhP h1).2
 rw [(zhP h3).2] at this
 exact (Option.some.inj this).symm
theorem zeS.one {L:List (List UInt8)} {b:List UInt8} {d e:Int} (ha:zeS L b d) (hb:zeS L b e):d=e:=by
 obtain ⟨i,h1,h2⟩:=ha
 obtain ⟨j,h3,h4⟩:=hb
 rw [h1] at h3
 cases h3
 omega
theorem zrX {L:List (List UInt8)} {b:List UInt8} (h:L.length<1048576):zdy L b≠0:=by
 unfold zdy
 split
 ·omega
 ·rw [if_neg (by omega)];omega
theorem zrW {L:List (List UInt8)} {b:List UInt8} (h:zdy L b≠0):zeS (zeJ L b) b (zdy L b):=by
 unfold zdy zeJ at *
 split at h
 ·rename_i i hi
  exact ⟨i,hi,rfl⟩
 ·rename_i hn
  split at h
  ·exact absurd rfl h
  ·rename_i hl
   rw [if_neg hl,if_neg hl]
   exact ⟨L.length,look_new L b hn,by omega⟩
theorem zeS.sum {L:List (List UInt8)} {b:List UInt8} {d:Int} (h:zeS L b d):zdy L b=d/\zeJ L b=L:=by
 obtain ⟨i,h1,h2⟩:=h
 unfold zdy zeJ
 rw [h1]
 exact ⟨by simp only;omega,rfl⟩
theorem zjw (L:List (List UInt8)) (b:List UInt8):(zeJ L b).length<=L.length+1:=by
 unfold zeJ
 repeat' split
 all_goals simp
theorem zfQ (L:List (List UInt8)) (b:List UInt8):L <+: zeJ L b:=by
 unfold zeJ
 split
 ·exact List.prefix_refl L
 ·split
  ·exact List.prefix_refl L
  ·exact List.prefix_append ..
inductive zhG (L:List (List UInt8)):List (List UInt8)->Int->Prop
 | nil (d:Int):zeS L [2] d->zhG L [] d
 | one (x:List UInt8) (d:Int):zeS L (ziT x) d->zhG L [x] d
 | two (l:List (List UInt8)) (a b d:Int):2<=l.length->zhG L (l.take (zj l.length)) a->zhG L (l.drop (zj l.length)) b->zeS L (zgk a b) d->zhG L l d
theorem zhG.pre {L L':List (List UInt8)} {l:List (List UInt8)} {d:Int} (h:zhG L l d) (hp:L <+: L'):zhG L' l d:=by
 induction h with
 | nil d h=>exact .nil d (h.pre hp)
 | one x d h=>exact .one x d (h.pre hp)
 | two l a b d h2 _ _ hn ih1 ih2=>exact .two l a b d h2 ih1 ih2 (hn.pre hp)
theorem zhG.num {L l:List (List UInt8)} {d:Int} (h:zhG L l d):1<=d/\d<=L.length:=by
 cases h with
 | nil _ h=>exact h.pos
 | one _ _ h=>exact h.pos
 | two _ _ _ _ _ _ _ h=>exact h.pos
theorem zhG.rootF {L l:List (List UInt8)} {d:Int} (h:zhG L l d):rootF L l=(d,L):=by
 induction h with
 | nil d h=>rw [rootF_0,h.sum.1,h.sum.2]
 | one x d h=>rw [rootF_1,h.sum.1,h.sum.2]
 | two l a b d h2 _ _ hn ih1 ih2=>rw [zse h2,ih1];simp only;rw [ih2];simp only;rw [hn.sum.1,hn.sum.2]
theorem root_at:∀ (f:Nat) {L l:List (List UInt8)},l.length<=f->L.length+2*l.length+1<=1048576->zhG (Go.AW.rootF L l).2 l (Go.AW.rootF L l).1/\L <+: (Go.AW.rootF L l).2/\(Go.AW.rootF L l).2.length<=L.length+2*l.length+1/\(1<=l.length->(Go.AW.rootF L l).2.length+1<=L.length+2*l.length):=by
 intro f
 induction f with
 | zero=>
  intro L l hf hL
  have:l = []:=List.eq_nil_of_length_eq_zero (by omega)
  subst this
  rw [rootF_0]
  exact ⟨.nil _ (zrW (zrX (by omega))),zfQ ..,by have:=zjw L [2];simp only;omega,fun h=>by simp at h⟩
 | succ f ih=>
  intro L l hf hL
  match l,hf,hL with
  | [],_,hL=>
   rw [rootF_0]
   exact ⟨.nil _ (zrW (zrX (by omega))),zfQ ..,by have:=zjw L [2];simp only;omega,fun h=>by simp at h⟩
  | [x],_,hL=>
   rw [rootF_1]
   simp only [List.length_cons,List.length_nil] at hL ⊢
   exact ⟨.one x _ (zrW (zrX (by omega))),zfQ ..,by have:=zjw L (ziT x);omega,fun _=>by have:=zjw L (ziT x);omega⟩
  | x::y::r,hf,hL=>
   obtain ⟨l,hl⟩:∃ l,x::y::r=l:=⟨_,rfl⟩
   have h2:2<=l.length:=by rw [← hl];simp
   rw [hl] at hf hL ⊢
   have hs:=zcR h2
   have e1:(l.take (zj l.length)).length=zj l.length:=by rw [List.length_take];omega
   have e2:(l.drop (zj l.length)).length=l.length-zj l.length:=List.length_drop
   obtain ⟨a1,a2,a3,a4⟩:=ih (L:=L) (l:=l.take (zj l.length)) (by omega) (by omega)
   have a4:=a4 (by omega)
   obtain ⟨b1,b2,b3,b4⟩:=ih (L:=(Go.AW.rootF L (l.take (zj l.length))).2) (l:=l.drop (zj l.length)) (by omega) (by omega)
   have b4:=b4 (by omega)
   rw [zse h2]
   have hn:=zjw (Go.AW.rootF (Go.AW.rootF L (l.take (zj l.length))).2 (l.drop (zj l.length))).2 (zgk (Go.AW.rootF L (l.take (zj l.length))).1 (Go.AW.rootF (Go.AW.rootF L (l.take (zj l.length))).2 (l.drop (zj l.length))).1)
   refine ⟨?_,(a2.trans b2).trans (zfQ ..),by simp only;omega,fun _=>by simp only;omega⟩
   exact .two l _ _ _ h2 (a1.pre (b2.trans (zfQ ..))) (b1.pre (zfQ ..)) (zrW (zrX (by omega)))
theorem leaf_inj {a b:List UInt8} (h:ziT a=ziT b):a=b:=by simpa [ziT] using h
theorem node_left {a b c d:Int} (ha:0<=a/\a<18446744073709551616) (hb:b.toNat<18446744073709551616) (hc:0<=c/\c<18446744073709551616) (hd:d.toNat<18446744073709551616) (h:zgk a b=zgk c d):a=c/\b.toNat=d.toNat:=by
 simp only [zgk,List.cons.injEq,true_and] at h
 obtain ⟨h1,h2⟩:=zdG (by omega) (by omega) h
 have h2':zcu b.toNat++[]=zcu d.toNat++[]:=by simpa using h2
 obtain ⟨h3,_⟩:=zdG hb hd h2'
 exact ⟨by omega,h3⟩
theorem zte:∀ (f:Nat) {L l:List (List UInt8)} {d:Int} {b:List UInt8} {i n:Nat} {p:List Int},L.length<=1048576->zhG L l d->(∀ x∈p,x.toNat<18446744073709551616)->zcE f L b i n p=(d,true)->b∈l
 | 0,L,l,d,b,i,n,p,_,_,_,h=>by simp [zcE] at h
 | f+1,L,l,d,b,i,n,p,hL,hR,hp,h=>by
  have hlast:(p.getD (p.length-1) 0).toNat<18446744073709551616:=by
   rcases Nat.lt_or_ge (p.length-1) p.length with hl|hl
   ·have:p.getD (p.length-1) 0=p[p.length-1]:=by simp [List.getD,List.getElem?_eq_getElem hl]
    rw [this];exact hp _ (List.getElem_mem hl)
   ·have:p = []:=List.eq_nil_of_length_eq_zero (by omega)
    subst this;simp
  have hq:∀ x∈p.take (p.length-1),x.toNat<18446744073709551616:=fun x hx=>hp x (List.mem_of_mem_take hx)
  have nn:∀ {x:List UInt8} {e:Int × Bool},(zfN (zcv L x),(zcv L x).isSome)=e->e=(d,true)->zeS L x d:=fun {x e} h1 h2=>by
   subst h2
   simp only [Prod.mk.injEq] at h1
   obtain ⟨i,hi⟩:=Option.isSome_iff_exists.1 h1.2
   rw [hi] at h1
   exact ⟨i,hi,by have:=h1.1;simp only [zfN] at this;omega⟩
  simp only [zcE] at h
  split at h
  ·have hn:=nn rfl h
   cases hR with
   | nil _ h2=>have:=hn.inj h2;simp [ziT] at this
   | one x _ h2=>have:=leaf_inj (hn.inj h2);subst this;simp
   | two _ _ _ _ _ _ _ h2=>have:=hn.inj h2;simp [ziT,zgk] at this
  ·split at h
   ·split at h
    ·rename_i hd
     have hn:=nn rfl h
     cases hR with
     | nil _ h2=>have:=hn.inj h2;simp [zgk] at this
     | one x _ h2=>have:=hn.inj h2;simp [ziT,zgk] at this
     | two _ a b' _ h2 ha hb hx=>
      have e:=hn.inj hx
      obtain ⟨D,hD⟩:∃ D,zcE f L b i (zj n) (p.take (p.length-1))=D:=⟨_,rfl⟩
      rw [hD] at hd e
      have hDn:0<=D.1/\D.1<18446744073709551616:=by
       have:∀ (f:Nat) (i n:Nat) (p:List Int), 0<=(zcE f L b i n p).1/\(zcE f L b i n p).1<=1048576:=by
        have nb:∀ x, 0<=zfN (zcv L x)/\zfN (zcv L x)<=1048576:=fun x=>by
         cases hx:zcv L x with
         | none=>simp [zfN]
         | some i=>have:=(zhP hx).1;simp only [zfN];omega
        intro f i n p
        cases f with
        | zero=>simp [zcE]
        | succ f=>
         simp only [zcE]
         split
         ·exact nb _
         ·split
          ·split
           ·exact nb _
           ·simp
          ·split
           ·exact nb _
           ·simp
       have:=this f i (zj n) (p.take (p.length-1))
       rw [hD] at this
       omega
      have na:=ha.num;have nb:=hb.num
      have e2:=(node_left hDn hlast ⟨by omega,by omega⟩ (by omega) e).1
      have:=zte f hL ha hq (b:=b) (i:=i) (n:=zj n) (by rw [hD, ← e2, ← hd])
      exact List.mem_of_mem_take this
    ·simp at h
   ·split at h
    ·rename_i hd
     have hn:=nn rfl h
     cases hR with
     | nil _ h2=>have:=hn.inj h2;simp [zgk] at this
     | one x _ h2=>have:=hn.inj h2;simp [ziT,zgk] at this
     | two _ a b' _ h2 ha hb hx=>
      have e:=hn.inj hx
      obtain ⟨D,hD⟩:∃ D,zcE f L b (i-zj n) (n-zj n) (p.take (p.length-1))=D:=⟨_,rfl⟩
      rw [hD] at hd e
      have hDn:0<=D.1/\D.1<18446744073709551616:=by
       have:∀ (f:Nat) (i n:Nat) (p:List Int), 0<=(zcE f L b i n p).1/\(zcE f L b i n p).1<=1048576:=by
        have nb:∀ x, 0<=zfN (zcv L x)/\zfN (zcv L x)<=1048576:=fun x=>by
         cases hx:zcv L x with
         | none=>simp [zfN]
         | some i=>have:=(zhP hx).1;simp only [zfN];omega
        intro f i n p
        cases f with
        | zero=>simp [zcE]
        | succ f=>
         simp only [zcE]
         split
         ·exact nb _
         ·split
          ·split
           ·exact nb _
           ·simp
          ·split
           ·exact nb _
           ·simp
       have:=this f (i-zj n) (n-zj n) (p.take (p.length-1))
       rw [hD] at this
       omega
      have na:=ha.num;have nb:=hb.num
      -- the right side: the numbers behind are equal
      simp only [zgk,List.cons.injEq,true_and] at e
      obtain ⟨h1,h2'⟩:=zdG hlast (by omega) e
      have h2'':zcu D.1.toNat++[]=zcu b'.toNat++[]:=by simpa using h2'
      obtain ⟨h3,_⟩:=zdG (by omega) (by omega) h2''
      have e2:D.1=b':=by omega
      have:=zte f hL hb hq (b:=b) (i:=i-zj n) (n:=n-zj n) (by rw [hD, ← e2, ← hd])
      exact List.mem_of_mem_drop this
    ·simp at h
theorem znP:∀ (f:Nat) {L l:List (List UInt8)} {d:Int} {i:Nat} {b:List UInt8} (g:Nat),l.length<=f->l.length<=g->zhG L l d->l[i]? = some b →
  (zbd f L i l).2=L/\(zbd f L i l).1.length=zfG i l.length/\(∀ x∈(zbd f L i l).1, 1<=x/\x<=L.length)/\zcE g L b i l.length (zbd f L i l).1=(d,true)
 | 0,L,l,d,i,b,g,hf,_,hR,hb=>by
  have:l = []:=List.eq_nil_of_length_eq_zero (by omega)
  subst this;simp at hb
 | f+1,L,l,d,i,b,g,hf,hg,hR,hb=>by
  have hil:=(List.getElem?_eq_some_iff.1 hb).1
  obtain ⟨g,rfl⟩:∃ g',g=g' + 1:=⟨g-1,by omega⟩
  cases hR with
  | nil _ h=>simp at hb
  | one x _ h=>
   have hi:i=0:=by simpa using hil
   subst hi
   simp at hb;subst hb
   have e:zbd (f+1) L 0 [x]=([],L):=by simp [zbd]
   rw [e]
   obtain ⟨j,hj,hd⟩:=h
   refine ⟨rfl,(zst (by simp)).symm,by simp,?_⟩
   simp only [zcE,List.length_cons,List.length_nil,if_true,hj,Nat.zero_add]
   rw [hd];simp [zfN]
  | two _ a b' _ h2 ha hb' hx=>
   have hs:=zcR h2
   have e1:(l.take (zj l.length)).length=zj l.length:=by rw [List.length_take];omega
   have e2:(l.drop (zj l.length)).length=l.length-zj l.length:=List.length_drop
   obtain ⟨j,hj,hd⟩:=hx
   simp only [zbd]
   rw [if_neg (show ¬ l.length<=1 by omega),zoX h2]
   by_cases hi:i<zj l.length
   ·rw [if_pos hi,if_pos hi]
    obtain ⟨p1,p2,p3,p4⟩:=znP f (i:=i) (b:=b) g (by omega) (by omega) ha (by rw [List.getElem?_take,if_pos hi];exact hb)
    rw [e1] at p2 p4
    rw [p1,hb'.rootF]
    refine ⟨rfl,by simp [p2],fun x hx => ?_,?_⟩
    ·rcases List.mem_append.1 hx with hx|hx
     ·exact p3 x hx
     ·simp only [List.mem_singleton] at hx;subst hx;exact hb'.num
    ·simp only [zcE]
     rw [if_neg (show ¬ l.length=1 by omega),if_pos hi]
     have t1:((zbd f L i (l.take (zj l.length))).1++[b']).take (((zbd f L i (l.take (zj l.length))).1++[b']).length-1)=(zbd f L i (l.take (zj l.length))).1:=by simp
     have t2:((zbd f L i (l.take (zj l.length))).1++[b']).getD (((zbd f L i (l.take (zj l.length))).1++[b']).length-1) 0=b':=by simp [List.getD]
     rw [t1,t2,p4]
     simp only [if_true,hj,Option.isSome_some,zfN]
     rw [hd]
   ·rw [if_neg hi,if_neg hi]
    obtain ⟨p1,p2,p3,p4⟩:=znP f (i:=i-zj l.length) (b:=b) g (by omega) (by omega) hb' (by rw [List.getElem?_drop,show zj l.length+(i-zj l.length)=i by omega];exact hb)
    rw [e2] at p2 p4
    rw [p1,ha.rootF]
    refine ⟨rfl,by simp [p2],fun x hx => ?_,?_⟩
    ·rcases List.mem_append.1 hx with hx|hx
     ·exact p3 x hx
     ·simp only [List.mem_singleton] at hx;subst hx;exact ha.num
    ·simp only [zcE]
     rw [if_neg (show ¬ l.length=1 by omega),if_neg hi]
     have t1:((zbd f L (i-zj l.length) (l.drop (zj l.length))).1++[a]).take (((zbd f L (i-zj l.length) (l.drop (zj l.length))).1++[a]).length-1)=(zbd f L (i-zj l.length) (l.drop (zj l.length))).1:=by simp
     have t2:((zbd f L (i-zj l.length) (l.drop (zj l.length))).1++[a]).getD (((zbd f L (i-zj l.length) (l.drop (zj l.length))).1++[a]).length-1) 0=a:=by simp [List.getD]
     rw [t1,t2,p4]
     simp only [if_true,hj,Option.isSome_some,zfN]
     rw [hd]
end Go.AW

/- What the blocks of a beginning are: chained headers, each over its records' tree; who has signed what. No program in sight. -/
set_option maxRecDepth 100000
namespace Go.Proofs.YtfgbofkdhfjegaaGreat
open Go.AW
theorem atF_name {n:List UInt8}:∀ {l:List zbt} {j k:Nat},atF n l j=some k->∃ x,l[k-j]? = some x/\x.name=n
 | [],_,_,h=>by simp [atF] at h
 | x::r,j,k,h=>by
  simp only [atF] at h
  split at h
  ·rename_i e
   cases h
   exact ⟨x,by simp,by simpa using e⟩
  ·obtain ⟨y,h1,h2⟩:=atF_name h
   have:=(atF_lt h).1
   exact ⟨y,by rw [show k-j=(k-(j+1))+1 by omega];simpa using h1,h2⟩
theorem zjd {t:List UInt8}:∀ {l:List (List UInt8)} {o:Int}, ∀ p∈zie t o l,p.topic=t
 | [],_,p,h=>by simp [zie] at h
 | r::l,o,p,h=>by
  rcases List.mem_cons.1 h with rfl|h
  ·rfl
  ·exact zjd p h
theorem check_recs {o:TOp} (h:zbj zdV o=0) (hk:o.kind=2):o.recs.length<=4:=by
 unfold zbj at h
 split at h
 ·simp at h
 ·split at h
  ·simp at h
  ·split at h
   ·simp at h
   ·split at h
    ·simp at h
    ·rename_i h4
     rcases Nat.lt_or_ge 4 o.recs.length with hl|hl
     ·exact absurd ⟨hk,.inr (.inl hl)⟩ h4
     ·exact hl
theorem doesN (T:zbn) (o:TOp):(∀ p∈(zcw T o).2.1,zdV p.topic=true)/\(zcw T o).2.1.length<=4:=by
 unfold zcw
 split
 ·simp
 ·rename_i hc
  have hc:zbj zdV o=0:=by simpa using hc
  split
  ·simp
  ·rename_i hk0
   split
   ·simp
   ·split
    ·simp
    ·rename_i i hi
     split
     ·simp
     ·rename_i x hx
      split
      ·rename_i hk
       unfold zdb
       split
       ·simp
       ·obtain ⟨y,h1,h2⟩:=atF_name hi
        rw [Nat.sub_zero,hx] at h1
        cases h1
        refine ⟨fun p hp => ?_,?_⟩
        ·rw [zjd p hp,h2]
         exact (check0 hc).2.2.1 hk0
        ·rw [zmK];exact check_recs hc hk
      ·split<;>simp
theorem applyN (T:zbn) (c tm:Int) (o:TOp):(∀ p∈(zbW T c tm o).2.1,zdV p.topic=true)/\(zbW T c tm o).2.1.length<=4:=by
 unfold zbW
 repeat' split
 all_goals first|(simp;done)|exact doesN T o
theorem applyAllN:∀ (l:List zo) (T:zbn),(∀ p∈(zU T l).1,zdV p.topic=true)/\(zU T l).1.length<=l.length*4
 | [],_=>by simp [zU]
 | x::l,T=>by
  obtain ⟨h1,h2⟩:=applyN T x.client x.time x.op
  obtain ⟨h3,h4⟩:=applyAllN l (zbW T x.client x.time x.op).2.2.2
  refine ⟨fun p hp => ?_,?_⟩
  ·simp only [zU] at hp
   rcases List.mem_append.1 hp with hp|hp
   ·exact h1 p hp
   ·exact h3 p hp
  ·simp only [zU,List.length_append,List.length_cons];omega
structure BlkI (L:List (List UInt8)) (b:zbc):Prop where
 ok:zgC b.header=true
 root:zhG L (b.placed.map zaz) b.header.root
 pl:∀ p∈b.placed,PlI p/\zdV p.topic=true
 cnt:b.placed.length<=16
theorem BlkI.pre {L L':List (List UInt8)} {b:zbc} (h:BlkI L b) (hp:L <+: L'):BlkI L' b:=⟨h.ok,h.root.pre hp,h.pl,h.cnt⟩
def LinkI (L:List (List UInt8)) (q h:zcF):Prop:=zeS L (zmR q) h.prev/\h.seq=q.seq+1
def lastH:zcF->List zbc->zcF
 | q,[]=>q
 | _,b::r=>lastH b.header r
def ChI (L:List (List UInt8)):zcF->List zbc->Prop
 | _,[]=>True
 | q,b::r=>LinkI L q b.header/\ChI L b.header r
theorem ChI.pre {L L':List (List UInt8)} (hp:L <+: L'):∀ {bs:List zbc} {q:zcF},ChI L q bs->ChI L' q bs
 | [],_,_=>trivial
 | b::r,q,h=>⟨⟨h.1.1.pre hp,h.1.2⟩,ChI.pre hp h.2⟩
theorem ChI.snoc {L:List (List UInt8)} {b:zbc}:∀ {bs:List zbc} {q:zcF},ChI L q bs->LinkI L (lastH q bs) b.header->ChI L q (bs++[b])
 | [],_,_,h=>⟨h,trivial⟩
 | c::r,q,h,hl=>⟨h.1,ChI.snoc h.2 hl⟩
theorem zuL {b:zbc}:∀ {bs:List zbc} {q:zcF},lastH q (bs++[b])=b.header
 | [],_=>rfl
 | c::r,q=>zuL (bs:=r) (q:=c.header)
theorem digL_pre (L:List (List UInt8)) (l:List zo):L <+: zla L l/\(zla L l).length<=L.length+1:=by
 unfold zla
 split
 ·exact ⟨List.prefix_refl L,by omega⟩
 ·exact ⟨zfQ ..,zjw ..⟩
theorem hdigL_pre (L:List (List UInt8)) (h:zcF):L <+: zeG L h/\(zeG L h).length<=L.length+1:=by
 unfold zeG
 split
 ·exact ⟨List.prefix_refl L,by omega⟩
 ·exact ⟨zfQ ..,zjw ..⟩
theorem zvI {L:List (List UInt8)} {b:List UInt8} (h:L.length<=1048576):0<=zdy L b/\zdy L b<=1048577:=by
 unfold zdy
 split
 ·rename_i i hi;have:=(zhP hi).1;omega
 ·split<;>omega
theorem exec_hist {L:List (List UInt8)} {T:zbn} {h:zcF} {b:List zo} (hT:zeZ T) (hL:L.length+600<=1048576) :
  L <+: (zcI L T h b).L/\(zcI L T h b).L.length<=L.length+520 ∧
  ((zcI L T h b).e=0->BlkI (zcI L T h b).L ⟨(zcI L T h b).h,b,(zcI L T h b).p⟩/\LinkI (zcI L T h b).L h (zcI L T h b).h):=by
 obtain ⟨d1,d2⟩:=digL_pre L b
 obtain ⟨d3,d4⟩:=hdigL_pre (zla L b) h
 unfold zcI
 split
 ·rename_i c0;exact ⟨List.prefix_refl L,by simp only;omega,fun e=>absurd e c0⟩
 rename_i c0
 have c0:zba h=0:=Classical.not_not.1 c0
 split
 ·exact ⟨List.prefix_refl L,by simp only;omega,fun e=>by simp at e⟩
 rename_i c1
 split
 ·rename_i c2;exact ⟨d1,by simp only;omega,fun e=>absurd e c2⟩
 rename_i c2
 have c2:digE L b=0:=Classical.not_not.1 c2
 split
 ·rename_i c3;exact ⟨d1.trans d3,by simp only;omega,fun e=>absurd e c3⟩
 rename_i c3
 have c3:hdigE (zla L b) h=0:=Classical.not_not.1 c3
 have hb4:=dig_len c2
 have p1:=zml b hT
 have p2:=applyAllN b T
 have hn:((zU T b).1.map zaz).length<=16:=by rw [List.length_map];have:=p2.2;omega
 obtain ⟨r1,r2,r3,_⟩:=root_at ((zU T b).1.map zaz).length (L:=zeG (zla L b) h) (l:=(zU T b).1.map zaz) (Nat.le_refl _) (by omega)
 have s1:=zfQ (rootF (zeG (zla L b) h) ((zU T b).1.map zaz)).2 (zfx (zU T b).2)
 have s2:=zjw (rootF (zeG (zla L b) h) ((zU T b).1.map zaz)).2 (zfx (zU T b).2)
 simp only
 split
 ·exact ⟨((d1.trans d3).trans r2).trans s1,by simp only;omega,fun e=>by simp at e⟩
 ·rename_i c4
  refine ⟨((d1.trans d3).trans r2).trans s1,by simp only;omega,fun _=>⟨⟨?_,r1.pre s1,fun p hp=>⟨p1.1 p hp,p2.1 p hp⟩,by simp only;have:=p2.2;omega⟩,?_,rfl⟩⟩
  ·have hseq:=zeo (zdY.1 c0) h.seq (by simp [zkz])
   have g1:zdd (h.seq+1)=true:=zdT.2 (by omega)
   have g2:zdd (zkW (zla L b) h)=true:=by
    rw [zkW,if_neg (by simp [c0])]
    have:=zvI (L:=zla L b) (b:=zmR h) (by omega)
    exact zdT.2 (by omega)
   have g3:zdd (digD L b)=true:=by
    have hcb:¬ zX b≠0:=fun hc=>by rw [digE,if_pos hc] at c2;exact hc c2
    rw [digD,if_neg hcb]
    have:=zvI (L:=L) (b:=zkj b) (by omega)
    exact zdT.2 (by omega)
   have g4:=r1.num
   have g4':zdd (rootF (zeG (zla L b) h) ((zU T b).1.map zaz)).1=true:=zdT.2 (by omega)
   have g5:=zvI (L:=(rootF (zeG (zla L b) h) ((zU T b).1.map zaz)).2) (b:=zfx (zU T b).2) (by omega)
   have g5':zdd (zdy (rootF (zeG (zla L b) h) ((zU T b).1.map zaz)).2 (zfx (zU T b).2))=true:=zdT.2 (by omega)
   simp [zgC,zkz,g1,g2,g3,g4',g5']
  ·have e1:zkW (zla L b) h=zdy (zla L b) (zmR h):=by rw [zkW,if_neg (by simp [c0])]
   have e2:zeG (zla L b) h=zeJ (zla L b) (zmR h):=by rw [zeG,if_neg (by simp [c0])]
   have n0:zdy (zla L b) (zmR h)≠0:=zrX (by omega)
   show zeS _ (zmR h) (zkW (zla L b) h)
   rw [e1]
   have:=zrW n0
   rw [← e2] at this
   exact this.pre (r2.trans s1)
theorem signL_mem' {G:List zI} {s x:zI} (h:x∈zlA G s):x∈G∨x=s:=by
 unfold zlA at h
 split at h
 ·exact .inl h
 ·rcases List.mem_append.1 h with h|h
  ·exact .inl h
  ·exact .inr (by simpa using h)
theorem zsc (G:List zI) (s:zI):∀ x∈G,x∈zlA G s:=fun x hx=>by
 unfold zlA
 split
 ·exact hx
 ·exact List.mem_append_left _ hx
theorem zur (G:List zI) (s:zI):s∈zlA G s:=by
 unfold zlA
 split
 ·assumption
 ·simp
theorem signG_mem' {G:List zI} {k d:Int} {x:zI} (h:x∈zfz G k d):x∈G∨(x=⟨k,d⟩/\zei k d=0):=by
 unfold zfz at h
 split at h
 ·rename_i e
  rcases signL_mem' h with h|h
  ·exact .inl h
  ·exact .inr ⟨h,e⟩
 ·exact .inl h
theorem signG_sub (G:List zI) (k d:Int):∀ x∈G,x∈zfz G k d:=fun x hx=>by
 unfold zfz
 split
 ·exact zsc _ _ x hx
 ·exact hx
theorem keyF_sign' {c d:Int} (h:zei (keyF c) d=0):13<=keyF c:=by
 unfold zei at h
 unfold keyF at h ⊢
 split
 ·rename_i e;rw [if_pos e] at h;simp at h
 ·omega
theorem seHist:∀ (l:List zo) (s:List (List UInt8) × List zI × List zo),s.1 <+: (l.foldl seR s).1/\(l.foldl seR s).1.length<=s.1.length+l.length/\(∀ x∈(l.foldl seR s).2.1,x∈s.2.1∨13<=x.key)/\(∀ x∈s.2.1,x∈(l.foldl seR s).2.1)
 | [],s=>⟨List.prefix_refl _,by simp,fun x h => .inl h,fun x h=>h⟩
 | r::l,s=>by
  obtain ⟨h1,h2,h3,h4⟩:=seHist l (seR s r)
  have g1:s.1 <+: (seR s r).1/\(seR s r).1.length<=s.1.length+1:=by
   simp only [seR,zpV]
   split
   ·exact ⟨List.prefix_refl _,by omega⟩
   ·exact ⟨zfQ ..,zjw ..⟩
  have g2:∀ x∈(seR s r).2.1,x∈s.2.1∨13<=x.key:=fun x hx=>by
   simp only [seR,zsd] at hx
   split at hx
   ·exact .inl hx
   ·rcases signG_mem' hx with hx|⟨rfl,e⟩
    ·exact .inl hx
    ·exact .inr (keyF_sign' e)
  have g3:∀ x∈s.2.1,x∈(seR s r).2.1:=fun x hx=>by
   simp only [seR,zsd]
   split
   ·exact hx
   ·exact signG_sub _ _ _ x hx
  refine ⟨g1.1.trans h1,?_,fun x hx => ?_,fun x hx=>h4 x (g3 x hx)⟩
  ·simp only [List.foldl_cons,List.length_cons];omega
  ·rcases h3 x hx with hx|hx
   ·exact g2 x hx
   ·exact .inr hx
theorem voHist {seq d:Int} (hm:znZ 6 0 seq d=true):∀ (ks:List Int) (s:List (List UInt8) × List zI × List zI),(∀ k∈ks, 0<=k/\k<13)->s.1.length<1048576->∀ v,zeS s.1 (zeu 6 0 seq d) v →
  (ks.foldl (voR seq d) s).1=s.1/\(∀ x∈(ks.foldl (voR seq d) s).2.1,x∈s.2.1∨x.dig=v)/\(∀ x∈s.2.1,x∈(ks.foldl (voR seq d) s).2.1)/\(ks.foldl (voR seq d) s).2.2=s.2.2++ks.map (fun k=>⟨k,v⟩)/\∀ k∈ks,(⟨k,v⟩:zI)∈(ks.foldl (voR seq d) s).2.1
 | [],s,_,_,v,_=>⟨rfl,fun x h => .inl h,fun x h=>h,by simp,by simp⟩
 | k::ks,s,hk,hl,v,hv=>by
  obtain ⟨e1,e2⟩:=hv.sum
  have v1:=hv.pos
  have k1:=hk k (by simp)
  have sf:zei k v=0:=by rw [zei,if_neg (by omega),if_neg (by omega)]
  have sr:signR k v=⟨k,v⟩:=by rw [signR,if_pos sf]
  have n0:¬ zdy s.1 (zeu 6 0 seq d)=0:=by rw [e1];omega
  have g1:(voR seq d s k).1=s.1:=by simp only [voR,votL,if_pos hm,e2]
  have g2:(voR seq d s k).2.1=zlA s.2.1 ⟨k,v⟩:=by
   simp only [voR,votG,if_pos hm,sgnG]
   rw [if_neg n0,e1,zfz,if_pos sf]
  have g3:(voR seq d s k).2.2=s.2.2++[⟨k,v⟩]:=by
   simp only [voR,votE,votS,if_pos hm,sgnE,sgnS]
   rw [if_neg n0,if_neg n0,e1,if_pos sf,sr]
  obtain ⟨h1,h2,h3,h4,h5⟩:=voHist hm ks (voR seq d s k) (fun j hj=>hk j (by simp [hj])) (by rw [g1];exact hl) v (by rw [g1];exact hv)
  refine ⟨h1.trans g1,fun x hx => ?_,fun x hx=>h3 x (by rw [g2];exact zsc _ _ x hx),?_,fun j hj => ?_⟩
  ·rcases h2 x hx with hx|hx
   ·rw [g2] at hx
    rcases signL_mem' hx with hx|rfl
    ·exact .inl hx
    ·exact .inr rfl
   ·exact .inr hx
  ·simp only [List.foldl_cons,List.map_cons]
   rw [h4,g3];simp
  ·rcases List.mem_cons.1 hj with rfl|hj
   ·exact h3 _ (by rw [g2];exact zur _ _)
   ·exact h5 j hj
end Go.Proofs.YtfgbofkdhfjegaaGreat

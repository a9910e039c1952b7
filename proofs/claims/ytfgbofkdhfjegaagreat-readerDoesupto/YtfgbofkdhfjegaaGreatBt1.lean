/- What chapter 23 begins with: blocks, and certificates of what was checked. No program in sight. -/
import Derived.Test.YtfgbofkdhfjegaaGreatTp7
import Derived.Test.YtfgbofkdhfjegaaGreatSpBulk
import Derived.Test.YtfgbofkdhfjegaaGreatAu3
import Derived.Test.YtfgbofkdhfjegaaGreatSpChk
import Derived.Test.YtfgbofkdhfjegaaGreatSpUtf
set_option linter.all false
set_option maxRecDepth 100000
namespace Go.Proofs.YtfgbofkdhfjegaaGreat
open Go.AW
theorem nodeB_len {a b:Int} (ha:a<=1048577) (hb:b<=1048577):(zlQ a b).length<=1073741824:=by
 have h1:=zJ (n:=a.toNat) (by omega)
 have h2:=zJ (n:=b.toNat) (by omega)
 simp only [zlQ,List.length_cons,List.length_append];omega
theorem zqp:∀ (f:Nat) {L l:List (List UInt8)},l.length<=f->zne L->(∀ x∈l,x.length<=1073741800)->zne (rootF L l).2:=by
 intro f
 induction f with
 | zero=>
  intro L l hf hL _
  have:l = []:=List.eq_nil_of_length_eq_zero (by omega)
  subst this
  exact hL.sum (by simp)
 | succ f ih=>
  intro L l hf hL hx
  match l,hf,hx with
  | [],_,_=>exact hL.sum (by simp)
  | [x],_,hx=>exact hL.sum (by have:=hx x (by simp);simp [zpH];omega)
  | x::y::r,hf,hx=>
   obtain ⟨l,hl⟩:∃ l,x::y::r=l:=⟨_,rfl⟩
   have h2:2<=l.length:=by rw [← hl];simp
   rw [hl] at hf hx ⊢
   have hs:=zcB h2
   have h1:=ih (L:=L) (l:=l.take (zn l.length)) (by rw [List.length_take];omega) hL fun x h=>hx x (List.mem_of_mem_take h)
   have h3:=ih (L:=(rootF L (l.take (zn l.length))).2) (l:=l.drop (zn l.length)) (by rw [List.length_drop];omega) h1 fun x h=>hx x (List.mem_of_mem_drop h)
   rw [zun h2]
   refine h3.sum (nodeB_len ?_ ?_)
   ·exact (zeu _ (Nat.le_refl _) hL.len).2.2
   ·exact (zeu _ (Nat.le_refl _) h1.len).2.2
theorem ztP {L:List (List UInt8)} (h:zne L) (x:zdl):zne (zfy L x):=by
 unfold zfy
 split
 ·exact h
 ·rename_i hc
  have:=hdrB_len (zdx.1 (show zba x=0 by simpa using hc))
  exact h.sum (by omega)
theorem pl_small {p:zbi} (h:PlI p):zng p:=⟨⟨by have:=h.1;omega,by have:=h.2.1;omega⟩,by have:=h.2.2.1;omega,by have:=h.2.2.2;omega⟩
theorem PlI_len {p:zbi} (h:PlI p):(zaL p).length<=1073741800:=by have:=placedB_len' h;omega
theorem execI {L:List (List UInt8)} {T:zcf} {h:zdl} {b:List zt} (hL:zne L) (hT:zhZ T) (hA:zoh T.last) (h8:T.last.length=8) (hx:∀ s∈b,zlI s.op<=20971520) :
  zne (zdG L T h b).L/\zhZ (zdG L T h b).T/\zoh (zdG L T h b).T.last/\(zdG L T h b).T.last.length=8/\((zdG L T h b).e=0->zuk ⟨(zdG L T h b).h,b,(zdG L T h b).p⟩):=by
 have t1:=tab_dig hL hx
 have t2:=ztP t1 h
 have hall:∀ (b:List zt) {T:zcf},T.last.length=8->(zal T b).2.last.length=8:=fun b=>by
  induction b with
  | nil=>intro T h;exact h
  | cons x b ih=>intro T h;exact ih (by rw [applyF_last];exact h)
 unfold zdG
 split
 ·rename_i c0;exact ⟨hL,hT,hA,h8,fun e=>absurd e c0⟩
 rename_i c0
 split
 ·exact ⟨hL,hT,hA,h8,fun e=>by simp at e⟩
 split
 ·rename_i c2;exact ⟨t1,hT,hA,h8,fun e=>absurd e c2⟩
 rename_i c2
 split
 ·rename_i c3;exact ⟨t2,hT,hA,h8,fun e=>absurd e c3⟩
 have p1:=znO b hT
 have p2:=zvF b hT
 have p3:=zvE b hT hA
 have t3:=zqp _ (L:=zfy (zmm L b) h) (l:=(zal T b).1.map zaL) (Nat.le_refl _) t2 fun x hx=>by
  obtain ⟨p,hp,rfl⟩:=List.mem_map.1 hx
  exact PlI_len (p1.1 p hp)
 have p4:=zue p2 p3 (hall b h8)
 have t4:=t3.sum (b:=zgj (zal T b).2) (by omega)
 simp only
 split
 ·exact ⟨t4,p2,p3,hall b h8,fun e=>by simp at e⟩
 ·refine ⟨t4,p2,p3,hall b h8,fun _=>⟨?_,?_,fun p hp=>pl_small (p1.1 p hp)⟩⟩
  ·have:=zhR (zdx.1 (show zba h=0 by simpa using c0)) h.seq (by simp [zrB])
   constructor<;>simp only<;>omega
  ·have:=dig_len (L:=L) (l:=b) (by simpa using c2)
   have:=p1.2
   simp only;omega
def voR (seq d:Int) (s:List (List UInt8) × List zR × List zR) (key:Int):List (List UInt8) × List zR × List zR:=
 (votL s.1 6 0 seq d,votG s.1 s.2.1 key 6 0 seq d,if votE s.1 key 6 0 seq d=0 then s.2.2++[votS s.1 key 6 0 seq d] else s.2.2)
structure zaW where
 L:List (List UInt8)
 G:List zR
 h:zdl
 T:zcf
 bs:List zbL
 cs:List zeX
def st0:zaW:=⟨(genF []).2.2,[],(genF []).1,zff,[],[]⟩
structure StI (N m:Nat) (s:zaW):Prop where
 tab:zne s.L
 led:s.G.length<=N
 ledI:LedI s.G
 tops:zhZ s.T
 last:zoh s.T.last
 last8:s.T.last.length=8
 bs:∀ b∈s.bs,zuk b
 bl:s.bs.length<=m
 cs:∀ c∈s.cs,c.signs.length<=13
 cl:s.cs.length<=m
structure VoI (N m:Nat) (s:List (List UInt8) × List zR × List zR):Prop where
 tab:zne s.1
 led:s.2.1.length<=N
 ledI:LedI s.2.1
 len:s.2.2.length<=m
theorem signG_len (G:List zR) (k d:Int):(zgy G k d).length<=G.length+1:=by
 unfold zgy zmV
 repeat' split
 all_goals simp
theorem voI {N m:Nat} {s:List (List UInt8) × List zR × List zR} {seq d key:Int} (h:VoI N m s):VoI (N+1) (m+1) (voR seq d s key):=by
 obtain ⟨h1,h2,h3,h4⟩:=h
 refine ⟨?_,?_,?_,?_⟩
 ·simp only [voR,votL]
  split
  ·rename_i hm
   have:=voteB_len hm
   exact h1.sum (by omega)
  ·exact h1
 ·simp only [voR,votG,sgnG]
  have:=signG_len s.2.1 key (zdX s.1 (zgA 6 0 seq d))
  repeat' split
  all_goals omega
 ·simp only [voR,votG,sgnG]
  repeat' split
  ·exact h3
  ·exact h3.sign _ _
  ·exact h3
 ·simp only [voR]
  split
  ·simp;omega
  ·omega
theorem foldVo {N m:Nat} {s:List (List UInt8) × List zR × List zR} {seq d:Int} (h:VoI N m s) (l:List Int):VoI (N+l.length) (m+l.length) (l.foldl (voR seq d) s):=by
 induction l generalizing N m s with
 | nil=>exact h
 | cons x l ih=>
  have:=ih (voI (key:=x) (seq:=seq) (d:=d) h)
  simp only [List.foldl_cons,List.length_cons]
  rwa [show N+(l.length+1)=N+1+l.length by omega,show m+(l.length+1)=m+1+l.length by omega]
theorem ledSe {l:List zt} {s:List (List UInt8) × List zR × List zt} (h:LedI s.2.1):LedI (l.foldl seR s).2.1:=by
 induction l generalizing s with
 | nil=>exact h
 | cons x l ih=>
  refine ih ?_
  simp only [seR,zum]
  split
  ·exact h
  ·exact h.sign _ _
theorem zoh.none:zoh zff.last:=fun a ha=>by
 have:=List.eq_of_mem_replicate ha
 subst this
 simp
theorem st0I:StI 0 0 st0:=by
 have t1:zne (rootF [] []).2:=zqp 0 (Nat.le_refl _) zne.nil (by simp)
 have t2:=t1.sum (b:=zgj zff) (by have:=zue zhZ.none zoh.none rfl;omega)
 refine ⟨?_,Nat.zero_le _,⟨.nil,by simp [st0]⟩,zhZ.none,zoh.none,rfl,by simp [st0],Nat.zero_le _,by simp [st0],Nat.zero_le _⟩
 simp only [st0,genF]
 split<;>exact t2
end Go.Proofs.YtfgbofkdhfjegaaGreat

/- Numbers of what a table knows; trees in a table: what a proof shows, and that a made proof shows it. No program in sight. -/
namespace Go.AW
def zho (L:List (List UInt8)) (b:List UInt8) (d:Int):Prop := ∃ i,zdf L b=some i/\d=((i+1:Nat):Int)
theorem zho.pre {L L':List (List UInt8)} {b:List UInt8} {d:Int} (h:zho L b d) (hp:L <+: L'):zho L' b d:=by
 obtain ⟨i,h1,h2⟩:=h
 obtain ⟨m,rfl⟩:=hp
 exact ⟨i,look_more h1,h2⟩
theorem zho.pos {L:List (List UInt8)} {b:List UInt8} {d:Int} (h:zho L b d):1<=d/\d<=L.length:=by
 obtain ⟨i,h1,h2⟩:=h
 have:=(zmc h1).1
 omega
theorem zho.inj {L:List (List UInt8)} {a b:List UInt8} {d:Int} (ha:zho L a d) (hb:zho L b d):a=b:=by
 obtain ⟨i,h1,h2⟩:=ha
 obtain ⟨j,h3,h4⟩:=hb
 have:i=j:=by omega
 subst this
 have:=(zmc h1).2
 rw [(zmc h3).2] at this
 exact (Option.some.inj this).symm
theorem zho.one {L:List (List UInt8)} {b:List UInt8} {d e:Int} (ha:zho L b d) (hb:zho L b e):d=e:=by
 obtain ⟨i,h1,h2⟩:=ha
 obtain ⟨j,h3,h4⟩:=hb
 rw [h1] at h3
 cases h3
 omega
theorem zug {L:List (List UInt8)} {b:List UInt8} (h:L.length<1048576):zdX L b≠0:=by
 unfold zdX
 split
 ·omega
 ·rw [if_neg (by omega)];omega
theorem zuf {L:List (List UInt8)} {b:List UInt8} (h:zdX L b≠0):zho (zfD L b) b (zdX L b):=by
 unfold zdX zfD at *
 split at h
 ·rename_i i hi
  exact ⟨i,hi,rfl⟩
 ·rename_i hn
  split at h
  ·exact absurd rfl h
  ·rename_i hl
   rw [if_neg hl,if_neg hl]
   exact ⟨L.length,look_new L b hn,by omega⟩
theorem zho.sum {L:List (List UInt8)} {b:List UInt8} {d:Int} (h:zho L b d):zdX L b=d/\zfD L b=L:=by
 obtain ⟨i,h1,h2⟩:=h
 unfold zdX zfD
 rw [h1]
 exact ⟨by simp only;omega,rfl⟩
theorem zky (L:List (List UInt8)) (b:List UInt8):(zfD L b).length<=L.length+1:=by
 unfold zfD
 repeat' split
 all_goals simp
theorem zgB (L:List (List UInt8)) (b:List UInt8):L <+: zfD L b:=by
 unfold zfD
 split
 ·exact List.prefix_refl L
 ·split
  ·exact List.prefix_refl L
  ·exact List.prefix_append ..
inductive zjS (L:List (List UInt8)):List (List UInt8)->Int->Prop
 | nil (d:Int):zho L [2] d->zjS L [] d
 | one (x:List UInt8) (d:Int):zho L (zpH x) d->zjS L [x] d
 | two (l:List (List UInt8)) (a b d:Int):2<=l.length->zjS L (l.take (zn l.length)) a->zjS L (l.drop (zn l.length)) b->zho L (zlQ a b) d->zjS L l d
theorem zjS.pre {L L':List (List UInt8)} {l:List (List UInt8)} {d:Int} (h:zjS L l d) (hp:L <+: L'):zjS L' l d:=by
 induction h with
 | nil d h=>exact .nil d (h.pre hp)
 | one x d h=>exact .one x d (h.pre hp)
 | two l a b d h2 _ _ hn ih1 ih2=>exact .two l a b d h2 ih1 ih2 (hn.pre hp)
theorem zjS.num {L l:List (List UInt8)} {d:Int} (h:zjS L l d):1<=d/\d<=L.length:=by
 cases h with
 | nil _ h=>exact h.pos
 | one _ _ h=>exact h.pos
 | two _ _ _ _ _ _ _ h=>exact h.pos
theorem zjS.rootF {L l:List (List UInt8)} {d:Int} (h:zjS L l d):rootF L l=(d,L):=by
 induction h with
 | nil d h=>rw [rootF_0,h.sum.1,h.sum.2]
 | one x d h=>rw [rootF_1,h.sum.1,h.sum.2]
 | two l a b d h2 _ _ hn ih1 ih2=>rw [zun h2,ih1];simp only;rw [ih2];simp only;rw [hn.sum.1,hn.sum.2]
theorem root_at:∀ (f:Nat) {L l:List (List UInt8)},l.length<=f->L.length+2*l.length+1<=1048576->zjS (Go.AW.rootF L l).2 l (Go.AW.rootF L l).1/\L <+: (Go.AW.rootF L l).2/\(Go.AW.rootF L l).2.length<=L.length+2*l.length+1/\(1<=l.length->(Go.AW.rootF L l).2.length+1<=L.length+2*l.length):=by
 intro f
 induction f with
 | zero=>
  intro L l hf hL
  have:l = []:=List.eq_nil_of_length_eq_zero (by omega)
  subst this
  rw [rootF_0]
  exact ⟨.nil _ (zuf (zug (by omega))),zgB ..,by have:=zky L [2];simp only;omega,fun h=>by simp at h⟩
 | succ f ih=>
  intro L l hf hL
  match l,hf,hL with
  | [],_,hL=>
   rw [rootF_0]
   exact ⟨.nil _ (zuf (zug (by omega))),zgB ..,by have:=zky L [2];simp only;omega,fun h=>by simp at h⟩
  | [x],_,hL=>
   rw [rootF_1]
   simp only [List.length_cons,List.length_nil] at hL ⊢
   exact ⟨.one x _ (zuf (zug (by omega))),zgB ..,by have:=zky L (zpH x);omega,fun _=>by have:=zky L (zpH x);omega⟩
  | x::y::r,hf,hL=>
   obtain ⟨l,hl⟩:∃ l,x::y::r=l:=⟨_,rfl⟩
   have h2:2<=l.length:=by rw [← hl];simp
   rw [hl] at hf hL ⊢
   have hs:=zcB h2
   have e1:(l.take (zn l.length)).length=zn l.length:=by rw [List.length_take];omega
   have e2:(l.drop (zn l.length)).length=l.length-zn l.length:=List.length_drop
   obtain ⟨a1,a2,a3,a4⟩:=ih (L:=L) (l:=l.take (zn l.length)) (by omega) (by omega)
   have a4:=a4 (by omega)
   obtain ⟨b1,b2,b3,b4⟩:=ih (L:=(Go.AW.rootF L (l.take (zn l.length))).2) (l:=l.drop (zn l.length)) (by omega) (by omega)
   have b4:=b4 (by omega)
   rw [zun h2]
   have hn:=zky (Go.AW.rootF (Go.AW.rootF L (l.take (zn l.length))).2 (l.drop (zn l.length))).2 (zlQ (Go.AW.rootF L (l.take (zn l.length))).1 (Go.AW.rootF (Go.AW.rootF L (l.take (zn l.length))).2 (l.drop (zn l.length))).1)
   refine ⟨?_,(a2.trans b2).trans (zgB ..),by simp only;omega,fun _=>by simp only;omega⟩
   exact .two l _ _ _ h2 (a1.pre (b2.trans (zgB ..))) (b1.pre (zgB ..)) (zuf (zug (by omega)))
theorem zpw:∀ (f:Nat) {L l:List (List UInt8)} {d:Int} {i:Nat} {b:List UInt8} (g:Nat),l.length<=f->l.length<=g->zjS L l d->l[i]? = some b →
  (zbA f L i l).2=L/\(zbA f L i l).1.length=zen i l.length/\(∀ x∈(zbA f L i l).1, 1<=x/\x<=L.length)/\zdT g L b i l.length (zbA f L i l).1=(d,true)
 | 0,L,l,d,i,b,g,hf,_,hR,hb=>by
  have:l = []:=List.eq_nil_of_length_eq_zero (by omega)
  subst this;simp at hb
 | f+1,L,l,d,i,b,g,hf,hg,hR,hb=>by
  have hil:=(List.getElem?_eq_some_iff.1 hb).1
  obtain ⟨g,rfl⟩:∃ g',g=g' + 1:=⟨g-1,by omega⟩
  cases hR with
  | nil _ h=>simp at hb
  | one x _ h=>
   have hi:i=0:=by simpa using hil
   subst hi
   simp at hb;subst hb
   have e:zbA (f+1) L 0 [x]=([],L):=by simp [zbA]
   rw [e]
   obtain ⟨j,hj,hd⟩:=h
   refine ⟨rfl,(zqE (by simp)).symm,by simp,?_⟩
   simp only [zdT,List.length_cons,List.length_nil,if_true,hj,Nat.zero_add]
   rw [hd];simp [zjl]
  | two _ a b' _ h2 ha hb' hx=>
   have hs:=zcB h2
   have e1:(l.take (zn l.length)).length=zn l.length:=by rw [List.length_take];omega
   have e2:(l.drop (zn l.length)).length=l.length-zn l.length:=List.length_drop
   obtain ⟨j,hj,hd⟩:=hx
   simp only [zbA]
   rw [if_neg (show ¬ l.length<=1 by omega),zkZ h2]
   by_cases hi:i<zn l.length
   ·rw [if_pos hi,if_pos hi]
    obtain ⟨p1,p2,p3,p4⟩:=zpw f (i:=i) (b:=b) g (by omega) (by omega) ha (by rw [List.getElem?_take,if_pos hi];exact hb)
    rw [e1] at p2 p4
    rw [p1,hb'.rootF]
    refine ⟨rfl,by simp [p2],fun x hx => ?_,?_⟩
    ·rcases List.mem_append.1 hx with hx|hx
     ·exact p3 x hx
     ·simp only [List.mem_singleton] at hx;subst hx;exact hb'.num
    ·simp only [zdT]
     rw [if_neg (show ¬ l.length=1 by omega),if_pos hi]
     have t1:((zbA f L i (l.take (zn l.length))).1++[b']).take (((zbA f L i (l.take (zn l.length))).1++[b']).length-1)=(zbA f L i (l.take (zn l.length))).1:=by simp
     have t2:((zbA f L i (l.take (zn l.length))).1++[b']).getD (((zbA f L i (l.take (zn l.length))).1++[b']).length-1) 0=b':=by simp [List.getD]
     rw [t1,t2,p4]
     simp only [if_true,hj,Option.isSome_some,zjl]
     rw [hd]
   ·rw [if_neg hi,if_neg hi]
    obtain ⟨p1,p2,p3,p4⟩:=zpw f (i:=i-zn l.length) (b:=b) g (by omega) (by omega) hb' (by rw [List.getElem?_drop,show zn l.length+(i-zn l.length)=i by omega];exact hb)
    rw [e2] at p2 p4
    rw [p1,ha.rootF]
    refine ⟨rfl,by simp [p2],fun x hx => ?_,?_⟩
    ·rcases List.mem_append.1 hx with hx|hx
     ·exact p3 x hx
     ·simp only [List.mem_singleton] at hx;subst hx;exact ha.num
    ·simp only [zdT]
     rw [if_neg (show ¬ l.length=1 by omega),if_neg hi]
     have t1:((zbA f L (i-zn l.length) (l.drop (zn l.length))).1++[a]).take (((zbA f L (i-zn l.length) (l.drop (zn l.length))).1++[a]).length-1)=(zbA f L (i-zn l.length) (l.drop (zn l.length))).1:=by simp
     have t2:((zbA f L (i-zn l.length) (l.drop (zn l.length))).1++[a]).getD (((zbA f L (i-zn l.length) (l.drop (zn l.length))).1++[a]).length-1) 0=a:=by simp [List.getD]
     rw [t1,t2,p4]
     simp only [if_true,hj,Option.isSome_some,zjl]
     rw [hd]
end Go.AW

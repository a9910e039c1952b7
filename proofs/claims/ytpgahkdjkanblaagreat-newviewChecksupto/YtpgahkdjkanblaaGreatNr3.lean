/- Contracts: certificates and entries that are the same. -/
import Derived.Test.YtpgahkdjkanblaaGreatRq1
import Derived.Test.YtpgahkdjkanblaaGreatSpTab
import Derived.Test.YtpgahkdjkanblaaGreatSpOp
import Derived.Test.YtpgahkdjkanblaaGreatAwFrz
import Derived.Test.YtpgahkdjkanblaaGreatAwEnd
import Derived.Test.YtpgahkdjkanblaaGreatSh
set_option linter.all false
set_option maxRecDepth 100000
namespace Go.Proofs.YtpgahkdjkanblaaGreat
open Go.AW
theorem zwY {σ:List zd} {a b:List zy} (ha:a.length<=1073741824) {K:KT} (hK:K (.d (.bool (decide (a=b)))) σ) :
  zj Tryz.prog zhd [.d (.slice (zO a)),.d (.slice (zO b))] σ K:=by
 refine zeE zwG fun hl => ?_
 have fin:∀ z:Bool,decide (a=b)=z->K (.d (.bool z)) σ:=fun z hz=>by rw [← hz];exact hK
 clear hK
 simp only [zph,iN,bT,bF,eN]
 (refine gq5 ?_;try with_reducible exact True.intro)
 by_cases hl2:a.length=b.length
 ·have hne:((a.length:Int) != (b.length:Int))=false:=by simp [hl2]
  (refine gq4 hne ?_;try with_reducible exact True.intro)
  refine zl a.length (fun k vs s=>vs = [.d (.int .i64 k)]/\s = σ/\a.take k=b.take k) ⟨rfl,rfl,by simp⟩ ?_
  rintro k vs s hk ⟨rfl,rfl,htk⟩
  (refine gq5 ?_;try with_reducible exact True.intro)
  refine zV (fun h => ?_) (fun h => ?_)
  ·have hka:k<a.length:=by simp at h;omega
   have hx:a[k]? = some a[k]:=by simp [hka]
   have hy:b[k]? = some (b[k]'(by omega)):=List.getElem?_eq_getElem _
   have hgx:=zF (f:=zfi) hx
   have hgy:=zF (f:=zfi) hy
   obtain ⟨x,hxe⟩:∃ x,a[k]=x:=⟨_,rfl⟩
   obtain ⟨y,hye⟩:∃ y,b[k]'(by omega)=y:=⟨_,rfl⟩
   rw [hxe] at hgx hx
   rw [hye] at hgy hy
   have hxy:x=y↔x.key=y.key/\x.dig=y.dig:=by cases x;cases y;simp
   cases h2:(x.key==y.key&&x.dig==y.dig)
   ·(refine gq8 (zo hgx (zo hgy h2)) ?_;try with_reducible exact True.intro)
    repeat' ((with_reducible refine And.intro ?_ ?_);focus (first|omega|rfl|decide))
    try (refine gq8 (zo hgx (zo hgy h2)) ?_;try with_reducible exact True.intro)
    refine zt hl ?_
    refine fin _ (decide_eq_false (by rintro rfl;rw [hx] at hy;have:=hxy.1 (Option.some.inj hy);simp [this.1,this.2] at h2))
   ·(refine gq8 (zo hgx (zo hgy h2)) ?_;try with_reducible exact True.intro)
    repeat' ((with_reducible refine And.intro ?_ ?_);focus (first|omega|rfl|decide))
    try (refine gq8 (zo hgx (zo hgy h2)) ?_;try with_reducible exact True.intro)
    simp only [Bool.and_eq_true,beq_iff_eq] at h2
    refine zan.next hka ⟨?_,rfl,zby hx hy htk (hxy.2 h2)⟩
    rw [show (k:Int)+1=((k+1:Nat):Int) by omega,zab (by omega) (by omega)]
  ·refine zt hl ?_
   refine fin _ (decide_eq_true (zcz hl2 (k:=k) (by simp at h;omega) htk))
 ·have hne:((a.length:Int) != (b.length:Int))=true:=by simp;omega
  (refine gq4 hne ?_;try with_reducible exact True.intro)
  refine zt hl ?_
  exact fin _ (decide_eq_false (by rintro rfl;exact hl2 rfl))
theorem zpP {σ:List zd} {a b:zeP} (ha:a.signs.length<=1073741824) {K:KT} (hK:K (.d (.bool (decide (a=b)))) σ) :
  zj Tryz.prog zfs [zdu a,zdu b] σ K:=by
 refine zeE zya fun hl => ?_
 have fin:∀ z:Bool,decide (a=b)=z->K (.d (.bool z)) σ:=fun z hz=>by rw [← hz];exact hK
 clear hK
 have hab:a=b↔a.seq=b.seq/\a.dig=b.dig/\a.signs=b.signs:=by cases a;cases b;simp
 simp only [zqx,iN,bT,bF,eN]
 cases h1:(a.seq==b.seq)
 ·(refine gq4 h1 ?_;try with_reducible exact True.intro)
  refine zt hl ?_
  refine fin _ (decide_eq_false fun h => ?_)
  simp [(hab.1 h).1] at h1
 cases h2:(a.dig==b.dig)
 ·(refine gq4 (zo h1 h2) ?_;try with_reducible exact True.intro)
  refine zt hl ?_
  refine fin _ (decide_eq_false fun h => ?_)
  simp [(hab.1 h).2.1] at h2
 (refine gq4 (zo h1 h2) ?_;try with_reducible exact True.intro)
 refine zwY ha ?_
 (refine gq3 ?_;try with_reducible exact True.intro)
 refine zt hl ?_
 refine fin _ ?_
 simp only [beq_iff_eq] at h1 h2
 by_cases h3:a.signs=b.signs
 ·rw [decide_eq_true h3,decide_eq_true (hab.2 ⟨h1,h2,h3⟩)]
 ·rw [decide_eq_false h3,decide_eq_false (fun h=>h3 (hab.1 h).2.2)]
theorem zss {σ:List zd} {a b:List zaI} (ha:a.length<=1073741824) (hA:∀ x∈a,zhN x.batch) (hB:∀ x∈b,zhN x.batch) {K:KT} (hK:K (.d (.bool (decide (a=b)))) σ) :
  zj Tryz.prog zgd [.d (.slice (zu a)),.d (.slice (zu b))] σ K:=by
 refine zeE ztH fun hl => ?_
 have fin:∀ z:Bool,decide (a=b)=z->K (.d (.bool z)) σ:=fun z hz=>by rw [← hz];exact hK
 clear hK
 simp only [zmt,iN,bT,bF,eN]
 (refine gq5 ?_;try with_reducible exact True.intro)
 by_cases hl2:a.length=b.length
 ·have hne:((a.length:Int) != (b.length:Int))=false:=by simp [hl2]
  (refine gq4 hne ?_;try with_reducible exact True.intro)
  refine zl a.length (fun k vs s=>vs = [.d (.int .i64 k)]/\s = σ/\a.take k=b.take k) ⟨rfl,rfl,by simp⟩ ?_
  rintro k vs s hk ⟨rfl,rfl,htk⟩
  (refine gq5 ?_;try with_reducible exact True.intro)
  refine zV (fun h => ?_) (fun h => ?_)
  ·have hka:k<a.length:=by simp at h;omega
   have hx:a[k]? = some a[k]:=by simp [hka]
   have hy:b[k]? = some (b[k]'(by omega)):=List.getElem?_eq_getElem _
   have ax:=hA _ (List.getElem_mem hka)
   have bx:=hB _ (List.getElem_mem (show k<b.length by omega))
   have hgx:=zF (f:=zbh) hx
   have hgy:=zF (f:=zbh) hy
   obtain ⟨x,hxe⟩:∃ x,a[k]=x:=⟨_,rfl⟩
   obtain ⟨y,hye⟩:∃ y,b[k]'(by omega)=y:=⟨_,rfl⟩
   rw [hxe] at hgx hx ax
   rw [hye] at hgy hy bx
   have hxy:x=y↔x.view=y.view/\x.seq=y.seq/\(x.key=y.key/\x.dig=y.dig)/\x.batch=y.batch:=by cases x;cases y;simp;grind
   have neq:¬ (x.view=y.view/\x.seq=y.seq/\(x.key=y.key/\x.dig=y.dig)/\x.batch=y.batch)->K (.d (.bool false)) s:=fun h=>fin _ (decide_eq_false (by rintro rfl;rw [hx] at hy;exact h (hxy.1 (Option.some.inj hy))))
   cases h1:(x.view != y.view)
   rotate_left
   ·(refine gq8 (zo hgx (zo hgy h1)) ?_;try with_reducible exact True.intro)
    repeat' ((with_reducible refine And.intro ?_ ?_);focus (first|omega|rfl|decide))
    try (refine gq8 (zo hgx (zo hgy h1)) ?_;try with_reducible exact True.intro)
    refine zt hl ?_
    refine neq (fun h => ?_)
    simp [h.1] at h1
   cases h2:(x.seq != y.seq)
   rotate_left
   ·(refine gq8 (zo hgx (zo hgy (zo h1 h2))) ?_;try with_reducible exact True.intro)
    repeat' ((with_reducible refine And.intro ?_ ?_);focus (first|omega|rfl|decide))
    try (refine gq8 (zo hgx (zo hgy (zo h1 h2))) ?_;try with_reducible exact True.intro)
    refine zt hl ?_
    refine neq (fun h => ?_)
    simp [h.2.1] at h2
   cases h3:(x.key==y.key&&x.dig==y.dig)
   ·(refine gq8 (zo hgx (zo hgy (zo h1 (zo h2 h3)))) ?_;try with_reducible exact True.intro)
    repeat' ((with_reducible refine And.intro ?_ ?_);focus (first|omega|rfl|decide))
    try (refine gq8 (zo hgx (zo hgy (zo h1 (zo h2 h3)))) ?_;try with_reducible exact True.intro)
    refine zt hl ?_
    refine neq (fun h => ?_)
    simp [h.2.2.1.1,h.2.2.1.2] at h3
   (refine gq8 (zo hgx (zo hgy (zo h1 (zo h2 h3)))) ?_;try with_reducible exact True.intro)
   repeat' ((with_reducible refine And.intro ?_ ?_);focus (first|omega|rfl|decide))
   try (refine gq8 (zo hgx (zo hgy (zo h1 (zo h2 h3)))) ?_;try with_reducible exact True.intro)
   refine zvw ax bx ?_
   by_cases h4:x.batch=y.batch
   ·rw [decide_eq_true h4]
    (refine gq5 ?_;try with_reducible exact True.intro)
    simp only [Bool.and_eq_true,beq_iff_eq,bne_eq_false_iff_eq] at h1 h2 h3
    refine zan.next hka ⟨?_,rfl,zby hx hy htk (hxy.2 ⟨h1,h2,h3,h4⟩)⟩
    rw [show (k:Int)+1=((k+1:Nat):Int) by omega,zab (by omega) (by omega)]
   ·rw [decide_eq_false h4]
    (refine gq5 ?_;try with_reducible exact True.intro)
    refine zt hl ?_
    exact neq (fun h=>h4 h.2.2.2)
  ·refine zt hl ?_
   refine fin _ (decide_eq_true (zcz hl2 (k:=k) (by simp at h;omega) htk))
 ·have hne:((a.length:Int) != (b.length:Int))=true:=by simp;omega
  (refine gq4 hne ?_;try with_reducible exact True.intro)
  refine zt hl ?_
  exact fin _ (decide_eq_false (by rintro rfl;exact hl2 rfl))
end Go.Proofs.YtpgahkdjkanblaaGreat

/- The numbers of a new view's entries fit. No program in sight. -/
namespace Go.AW
theorem zmH {cs:List zJ} {k:Nat} {p:zbO} (h:p∈zbz cs k):∃ c∈cs,p∈c.above:=by
 simp only [zbz,List.mem_flatten,List.mem_map] at h
 obtain ⟨_,⟨c,hc,rfl⟩,hp⟩:=h
 exact ⟨c,List.mem_of_mem_take hc,hp⟩
theorem great_le {cs:List zJ} (hR:∀ c∈cs,zgL c) (k:Nat):zbQ (zbz cs k)<=9223372036854775807:=
 greatF_lt (by omega) fun p hp=>by
  obtain ⟨c,hc,hp⟩:=zmH hp
  exact ((hR c hc).2.2.2.2.1 p hp).2.1.2
theorem zzt {cs:List zJ} (hR:∀ c∈cs,zgL c) {k:Nat} (hk:k<=cs.length) (h:cs≠[]):zrF (ziT cs k).seq:=by
 obtain ⟨c,hc,e⟩:=zsB hk h
 rw [e]
 exact (hR c hc).2.2.1
theorem mayF_ne {f view:Int} {cs:List zJ} (h:zjn f view cs=0):cs≠[]/\zbs f=0:=by
 unfold zjn at h
 by_cases h0:zbs f≠0
 ·rw [if_pos h0] at h;exact absurd h h0
 ·rw [if_neg h0] at h
  have h0:zbs f=0:=by simpa using h0
  refine ⟨?_,h0⟩
  rintro rfl
  have hf:¬ (f<1∨f > 4):=by
   intro hf
   rw [zbs,if_pos hf] at h0
   omega
  have ht:zaR 2 f=2*f+1:=by rw [zaR,if_neg hf]
  split at h
  ·omega
  ·split at h
   ·omega
   ·rw [ht] at h
    simp only [List.length_nil] at h
    split at h<;>omega
theorem zrY (g b:Int):zrZ g b<=8:=by unfold zrZ;omega
theorem manyF_ge {g b:Int} {n:Nat} (hb:b<g) (h:n=zrZ g b):8<=n∨g-b<=(n:Int):=by unfold zrZ at h;omega
section
variable {P:Program} {σ:List zd}
def EndsX (n:Nat) (K:KT) (out:Option (List AV)) (σ':List zd):Prop := ∃ s ks,zsT [] σ' [] s/\zrC n ks K out s
theorem zxm {f:FuncId} {F:AF} {na:Nat} (hF:isFn P f F na) {as0:List AV} (has:as0.length=na) {K:KT}
  (h:zgl σ.length σ->(∀ a∈as0,Low σ.length a)->awp P F.body (AtEnd fun fr' σ'=>EndsX σ.length K (ztd fr' σ' F.res) σ') (zke 0 as0) σ):zj P f as0 σ K:=
 zmr hF has _ (fun {L w L' σ' w' fr' ts} S st0 S0 F' hz=>by
  obtain ⟨s,ks,hw,hz⟩:=hz
  obtain ⟨L3,st3,S',_⟩:=zjU hw S0 (us := []) ⟨rfl,by simp⟩
  have st:=st0.trans st3
  unfold zrC at hz
  split at hz
  ·rename_i l hl
   obtain ⟨z0,z1,z2,z3,z4⟩:=hz
   split at z4
   ·rename_i os hos
    split at z4
    ·rename_i os' r hos' hr
     obtain ⟨L2,k1,k2,k3⟩:=ztC S' z0 z1 z2 z3 hos hos'
     refine ⟨L2,_,l,r,hl,⟨st.os,st.tape,st.output,st.size,st.blk,st.cell,st.fz,fun b o hb ho=>st.own b o hb (k2.own b o ho),by simp;omega,fun id x hx => ?_⟩,k3,fun v hv=>(st3.rv hv).ren k2 hr,z4⟩
     have hid:=zp hx
     obtain ⟨x',g1,g2,g3,g4,g5⟩:=st.turns id x hx
     refine ⟨x',by rw [List.getElem?_append_left (by simp;omega),List.getElem?_take,if_pos hid];exact g1,g2,fun hk hk5=>(k1 id hid).trans (g3 hk hk5),fun sz n e => ?_,fun g sz cs e => ?_⟩
     ·obtain ⟨n',e1,e2,e3⟩:=g4 sz n e
      exact ⟨n',e1,e2,fun e=>(k1 id hid).trans (e3 e)⟩
     ·rcases g5 g sz cs e with h|⟨g',cs',e1,e2,e3⟩
      ·exact .inl h
      ·exact .inr ⟨g',cs',e1,e2,fun e=>⟨(k1 id hid).trans (e3 e).1,(e3 e).2⟩⟩
    ·exact z4.elim
   ·exact z4.elim
  ·exact hz.elim) h
theorem endsX_of {n:Nat} {ks:List Nat} {K:KT} {out:Option (List AV)} {s:List zd} (h:zrC n ks K out s):EndsX n K out s:=⟨s,ks,.refl _ _,h⟩
theorem zpN {τ os:List zd} {ks:List Nat} {K:KT} {l:List AV} {r:AV} (hl:zgl σ.length σ) (hks:∀ k∈ks, σ.length<=k) (hnd:ks.Nodup) (hg:getL (σ ++ τ) ks=some os) (hos:∀ x∈os,zvA σ.length x)
  (hr:zdY (zkW σ.length ks) (zcq l)=some r) (h:K r (σ++os)):EndsX σ.length K (some l) (σ ++ τ):=by
 refine endsX_of (ks:=ks) ?_
 simp only [zrC]
 have ht:(σ ++ τ).take σ.length = σ:=by simp
 refine ⟨by simp,by rw [ht];exact hl,hks,hnd,?_⟩
 rw [hg,ht]
 simp only
 have hro:zte (zkW σ.length ks) os=some os:=zvL (n := σ.length) (fun id h=>by simp [zkW,h]) hos
 rw [hro,hr]
 exact h
theorem zj.frz {f:FuncId} {xs:List AV} {K:KT} (m:Nat) (h:zj P f xs σ fun r s => ∃ r',frzT s σ.length m r=some r' ∧ s.take σ.length = σ/\K r' σ):zj P f xs σ K:=
 ⟨h.1,fun L w vs S hv=>(h.2 L w vs S hv).mono fun e w' he=>by
  cases e with
  | panicked _=>exact he
  | outgrown=>exact he
  | returned v=>
   obtain ⟨L', σ',r,st,S',hr,r',hf,ht,hK⟩:=he
   have z2:zgl σ.length (σ'.take σ.length):=by rw [ht];exact S.lows
   have hS:=S'.take z2
   have hst:=st.take
   have hv:=zyW S' (L2:=L') (σ2 := σ'.take σ.length) (fun b o=>zrP) (fun t x ht hx hk b o hf hown=>by
    obtain ⟨id,y,hy,hfy⟩:=hown
    rw [List.getElem?_take] at hy
    split at hy
    ·rename_i hid
     exact S'.apart id t y x b o (by omega) hy hx hfy hf
    ·cases hy) hr hf
   rw [ht] at hS hst hv
   exact ⟨L', σ,r',hst,hS,hv,hK⟩⟩
end
structure Rd where
 b:List UInt8
 e:Int
def Rd.fail (cut:Bool) (s:Rd) (x:Int):Rd:=if s.e=0/\x≠0 then ⟨if cut then [] else s.b,x⟩ else s
def zsS (cut:Bool) (most:Nat) (s:Rd):Nat × Rd:=
 if s.e=0 then (match numR most 0 0 s.b with|.ok (n,r)=>(n,⟨r, 0⟩)|.error x=>(0,s.fail cut x)) else (0,s)
def takeP (cut:Bool) (n:Nat) (s:Rd):List UInt8 × Rd:=
 if s.e=0 then (if n > s.b.length then ([],s.fail cut 10) else (s.b.take n,⟨s.b.drop n, 0⟩)) else ([],s)
def zmm (cut:Bool) (most:Nat) (s:Rd):List UInt8 × Rd:=takeP cut (zsS cut most s).1 (zsS cut most s).2
def zAc (cut:Bool):Nat->Rd->List (List UInt8) × Rd
 | 0,s=>([],s)
 | k+1,s=>((zAc cut k s).1++[(zmm cut 64 (zAc cut k s).2).1],(zmm cut 64 (zAc cut k s).2).2)
def zqZ (cut:Bool) (k:Nat) (s:Rd):TOp × Rd:=
 let t:=zmm cut 64 s
 if k=0 then (noOp,s)
 else if k=2 then (let n:=zsS cut 4 t.2;let r:=zAc cut n.1 n.2;(⟨k,t.1,[], 0,r.1⟩,r.2))
 else if k=3 then (let g:=zmm cut 64 t.2;let f:=zsS cut 9007199254740992 g.2;(⟨k,t.1,g.1,f.1,[]⟩,f.2))
 else if k=4 then (let f:=zsS cut 9007199254740992 t.2;(⟨k,t.1,[],f.1,[]⟩,f.2))
 else (⟨k,t.1,[], 0,[]⟩,t.2)
def zsX (cut:Bool) (name:List UInt8->Bool) (s:Rd):TOp × Rd:=
 let k:=zsS cut 4 s
 let x:=zqZ cut k.1 k.2
 let z:=x.2.fail cut (zcT name x.1)
 (if z.e=0 then x.1 else noOp,z)
def Rd.like (s t:Rd):Prop:=s.e=t.e/\(s.e=0->s.b=t.b)
theorem Rd.like.fail {s t:Rd} {c d:Bool} {x:Int} (h:s.like t):(s.fail c x).like (t.fail d x):=by
 obtain ⟨h1,h2⟩:=h
 unfold Rd.fail Rd.like
 grind
theorem Rd.like.num {s t:Rd} {c d:Bool} {m:Nat} (h:s.like t):(zsS c m s).1=(zsS d m t).1/\(zsS c m s).2.like (zsS d m t).2:=by
 have hf:∀ x,(s.fail c x).like (t.fail d x):=fun x=>h.fail
 obtain ⟨h1,h2⟩:=h
 unfold zsS
 by_cases h0:s.e=0
 ·rw [if_pos h0,if_pos (show t.e=0 from h1▸h0),h2 h0]
  cases numR m 0 0 t.b with
  | ok x=>exact ⟨rfl,rfl,fun _=>rfl⟩
  | error x=>exact ⟨rfl,hf x⟩
 ·rw [if_neg h0,if_neg (h1▸h0)]
  exact ⟨rfl,h1,h2⟩
theorem Rd.like.take {s t:Rd} {c d:Bool} {m:Nat} (h:s.like t):(takeP c m s).1=(takeP d m t).1/\(takeP c m s).2.like (takeP d m t).2:=by
 have hf:∀ x,(s.fail c x).like (t.fail d x):=fun x=>h.fail
 obtain ⟨h1,h2⟩:=h
 unfold takeP
 by_cases h0:s.e=0
 ·rw [if_pos h0,if_pos (show t.e=0 from h1▸h0),h2 h0]
  split
  ·exact ⟨rfl,hf 10⟩
  ·exact ⟨rfl,rfl,fun _=>rfl⟩
 ·rw [if_neg h0,if_neg (h1▸h0)]
  exact ⟨rfl,h1,h2⟩
theorem Rd.like.bytes {s t:Rd} {c d:Bool} {m:Nat} (h:s.like t):(zmm c m s).1=(zmm d m t).1/\(zmm c m s).2.like (zmm d m t).2:=by
 have a:=h.num (c:=c) (d:=d) (m:=m)
 have:=a.2.take (c:=c) (d:=d) (m:=(zsS c m s).1)
 unfold zmm
 rw [← a.1]
 exact this
theorem Rd.like.recs {s t:Rd} {c d:Bool} (h:s.like t):∀ k,(zAc c k s).1=(zAc d k t).1/\(zAc c k s).2.like (zAc d k t).2
 | 0=>⟨rfl,h⟩
 | k+1=>by
  obtain ⟨a,b⟩:=Rd.like.recs h (c:=c) (d:=d) k
  have e:=b.bytes (c:=c) (d:=d) (m := 64)
  exact ⟨by simp only [zAc,a,e.1],e.2⟩
theorem Rd.like.fields {s t:Rd} {c d:Bool} (h:s.like t) (k:Nat):(zqZ c k s).1=(zqZ d k t).1/\(zqZ c k s).2.like (zqZ d k t).2:=by
 obtain ⟨t1,t2⟩:=h.bytes (c:=c) (d:=d) (m := 64)
 obtain ⟨n1,n2⟩:=t2.num (c:=c) (d:=d) (m := 4)
 obtain ⟨r1,r2⟩:=n2.recs (c:=c) (d:=d) (zsS c 4 (zmm c 64 s).2).1
 obtain ⟨g1,g2⟩:=t2.bytes (c:=c) (d:=d) (m := 64)
 obtain ⟨f1,f2⟩:=g2.num (c:=c) (d:=d) (m := 9007199254740992)
 obtain ⟨e1,e2⟩:=t2.num (c:=c) (d:=d) (m := 9007199254740992)
 unfold zqZ
 simp only
 split
 ·exact ⟨rfl,h⟩
 ·split
  ·rw [← n1, ← r1, ← t1];exact ⟨rfl,r2⟩
  ·split
   ·rw [← t1, ← g1, ← f1];exact ⟨rfl,f2⟩
   ·split
    ·rw [← t1, ← e1];exact ⟨rfl,e2⟩
    ·rw [← t1];exact ⟨rfl,t2⟩
theorem Rd.like.takeOp {s t:Rd} {c d:Bool} {name:List UInt8->Bool} (h:s.like t):(zsX c name s).1=(zsX d name t).1/\(zsX c name s).2.like (zsX d name t).2:=by
 obtain ⟨k1,k2⟩:=h.num (c:=c) (d:=d) (m := 4)
 obtain ⟨x1,x2⟩:=k2.fields (c:=c) (d:=d) (zsS c 4 s).1
 have z:=x2.fail (c:=c) (d:=d) (x:=zcT name (zqZ c (zsS c 4 s).1 (zsS c 4 s).2).1)
 unfold zsX
 simp only
 rw [← k1, ← x1, ← z.1]
 exact ⟨rfl,z⟩
structure TTopic where
 name:List UInt8
 base:Int
 recs:List (List UInt8)
 groups:List (List UInt8 × Int)
structure TTops where
 l:List TTopic
 last:List (Int × Int × Int)
def noTops:TTops:=⟨[],List.replicate 8 (0, 0, 0)⟩
def TTopic.next (x:TTopic):Int:=x.base+x.recs.length
abbrev zac (es:List (List D)):List AV:=es.flatten.map .d
theorem zeM {sz:Nat}:∀ {es:List (List D)},(∀ e∈es,e.length=sz)->(zac es).length=es.length*sz
 | [],_=>by simp [zac]
 | e::es,h=>by
  have h1:=zeM (es:=es) fun x hx=>h x (List.mem_cons_of_mem _ hx)
  have h2:=h e List.mem_cons_self
  simp only [zac,List.length_map] at h1
  simp only [zac,List.flatten_cons,List.map_append,List.length_append,List.length_map,h1,h2,List.length_cons,Nat.add_mul,Nat.one_mul]
  omega
theorem zyY {sz:Nat}:∀ {es:List (List D)},(∀ e∈es,e.length=sz)->∀ k,(zac es).take (k*sz)=zac (es.take k)
 | [],_,k=>by simp [zac]
 | e::es,h,k=>by
  cases k with
  | zero=>simp [zac]
  | succ k=>
   have h1:=zyY (es:=es) (fun x hx=>h x (List.mem_cons_of_mem _ hx)) k
   have h2:=h e List.mem_cons_self
   have e1:zac (e::es)=e.map .d++zac es:=by simp [zac]
   have e2:zac ((e::es).take (k+1))=e.map .d++zac (es.take k):=by simp [zac]
   rw [e1,e2, ← h1,List.take_append,List.length_map,h2,show (k+1)*sz-sz=k*sz by rw [Nat.add_mul];omega,List.take_of_length_le (by rw [List.length_map,h2,Nat.add_mul];omega)]
theorem zyZ {sz:Nat}:∀ {es:List (List D)},(∀ e∈es,e.length=sz)->∀ k,(zac es).drop (k*sz)=zac (es.drop k)
 | [],_,k=>by simp [zac]
 | e::es,h,k=>by
  cases k with
  | zero=>simp [zac]
  | succ k=>
   have h1:=zyZ (es:=es) (fun x hx=>h x (List.mem_cons_of_mem _ hx)) k
   have h2:=h e List.mem_cons_self
   have e1:zac (e::es)=e.map .d++zac es:=by simp [zac]
   rw [e1,List.drop_succ_cons, ← h1,List.drop_append,List.length_map,h2,show (k+1)*sz-sz=k*sz by rw [Nat.add_mul];omega,List.drop_of_length_le (by rw [List.length_map,h2,Nat.add_mul];omega)]
   rfl
theorem zse {sz:Nat} {es:List (List D)} (h:∀ e∈es,e.length=sz) {k:Nat} {e:List D} (he:es[k]? = some e):((zac es).drop (k*sz)).take sz=e.map .d:=by
 have hk:k<es.length:=(List.getElem?_eq_some_iff.1 he).1
 have hl:=h e (List.mem_of_getElem? he)
 rw [zyZ h,List.drop_eq_getElem_cons hk,(List.getElem?_eq_some_iff.1 he).2]
 simp only [zac,List.flatten_cons,List.map_append]
 rw [List.take_append_of_le_length (by rw [List.length_map,hl];exact Nat.le_refl _),List.take_of_length_le (by rw [List.length_map,hl];exact Nat.le_refl _)]
theorem zjY {sz:Nat} {es:List (List D)} (h:∀ e∈es,e.length=sz) {k i:Nat} {e:List D} (he:es[k]? = some e) (hi:i<sz):(zac es)[k*sz+i]?=(e[i]?).map .d:=by
 have h1:=zse h he
 have h2:(((zac es).drop (k*sz)).take sz)[i]?=(zac es)[k*sz+i]?:=by rw [List.getElem?_take,if_pos hi,List.getElem?_drop]
 rw [← h2,h1,List.getElem?_map]
theorem zwt {sz:Nat} {es:List (List D)} (h:∀ e∈es,e.length=sz) {k i:Nat} {e:List D} (he:es[k]? = some e) (hi:i<sz) (x:D):(zac es).set (k*sz+i) (.d x)=zac (es.set k (e.set i x)):=by
 have hk:k<es.length:=(List.getElem?_eq_some_iff.1 he).1
 have hl:=h e (List.mem_of_getElem? he)
 have e0:es=es.take k++e::es.drop (k+1):=by
  rw [← (List.getElem?_eq_some_iff.1 he).2, ← List.drop_eq_getElem_cons hk,List.take_append_drop]
 have e1:es.set k (e.set i x)=es.take k++e.set i x::es.drop (k+1):=by rw [List.set_eq_take_append_cons_drop,if_pos hk]
 have hlen:(zac (es.take k)).length=k*sz:=by
  rw [zeM fun y hy=>h y (List.mem_of_mem_take hy),List.length_take,Nat.min_eq_left (by omega)]
 have e2:zac es=zac (es.take k)++(e.map .d++zac (es.drop (k+1))):=by
  conv=>lhs;rw [e0]
  simp [zac]
 have e3:zac (es.set k (e.set i x))=zac (es.take k)++((e.set i x).map .d++zac (es.drop (k+1))):=by
  rw [e1];simp [zac]
 rw [e2,e3,List.set_append_right _ _ (by omega),hlen,Nat.add_sub_cancel_left,List.set_append_left _ _ (by rw [List.length_map];omega),List.map_set]
structure TopI (x:TTopic):Prop where
 base:0<=x.base
 next:x.next<=9007199254740992
 recs:x.recs.length<=64
 groups:x.groups.length<=8
 name:x.name.length<=64
 each:∀ r∈x.recs,r.length<=64
 gs:∀ g∈x.groups,g.1.length<=64/\0<=g.2/\g.2<=9007199254740992
structure TopsI (T:TTops):Prop where
 len:T.l.length<=8
 tops:∀ x∈T.l,TopI x
theorem TopsI.none:TopsI noTops:=⟨by simp [noTops],by simp [noTops]⟩
end Go.AW

/- Rows: what is told of their cells. -/
set_option maxRecDepth 100000
namespace Go.Proofs.YtpgahkdjkanblaaGreat
open Go.AW
theorem zwf (n g sz:Nat) (es:List (List D)):zvA n (.row g sz (zac es)):=zoG _ _
end Go.Proofs.YtpgahkdjkanblaaGreat

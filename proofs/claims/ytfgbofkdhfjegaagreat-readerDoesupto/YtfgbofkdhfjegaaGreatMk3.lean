/- Contracts: the digest to which a proof comes, on both sides. -/
import Derived.Test.YtfgbofkdhfjegaaGreatRq2
import Derived.Test.YtfgbofkdhfjegaaGreatId3
import Derived.Test.YtfgbofkdhfjegaaGreatCl1
set_option linter.all false
set_option maxRecDepth 100000
namespace Go.Proofs.YtfgbofkdhfjegaaGreat
open Go.AW
theorem zpx {L:List (List UInt8)} (hL:L.length<=1048576) (b:List UInt8):0<=zjl (zdf L b)/\zjl (zdf L b)<=1048577:=by
 cases h:zdf L b with
 | none=>simp [zjl]
 | some i=>
  have:=(zmc h).1
  simp only [zjl];omega
theorem zkk:∀ (f:Nat) {L:List (List UInt8)} (hL:L.length<=1048576) (b:List UInt8) (i n:Nat) (p:List Int),(zdT f L b i n p).1<=1048577
 | 0,L,hL,b,i,n,p=>by simp [zdT]
 | f+1,L,hL,b,i,n,p=>by
  simp only [zdT]
  split
  ·exact (zpx hL _).2
  ·split
   ·split
    ·exact (zpx hL _).2
    ·simp
   ·split
    ·exact (zpx hL _).2
    ·simp
theorem c_r5comesA:∀ (f:Nat) {σ:List zh} {id:Nat} {L:List (List UInt8)} {b:List UInt8} {i n:Nat} {p:List Int},n<=f → 1<=n->i<n->n<=4611686018427387904->p.length=zen i n → σ[id]? = some (rtO L)->L.length<=1048576->b.length<=1073740000->(∀ x∈p,x<=9223372036854775807) →
  ∀ {K:KT},K (.tup [.d (.int .i64 (zdT f L b i n p).1),.d (.bool (zdT f L b i n p).2)]) σ →
  zp Tryz.prog zjs [.box id 0,.d (.slice (bcs b)),.d (.int .i64 i),.d (.int .i64 n),.d (.slice (zcH p))] σ K:=by
 intro f
 induction f with
 | zero=>intros;omega
 | succ f ih=>
  intro σ id L b i n p hf hn hin hn2 hp hT hL hb hx K hK
  refine acE5 e_r05_comes fun hl => ?_
  simp only [zvX,iN,bT,bF,eN]
  by_cases h1:n=1
  ·subst h1
   simp only [zdT,if_pos] at hK
   refine gq1 ?_
   refine c_r5leaf (by omega) ?_
   refine gq1 ?_
   refine zmp hT hL ?_
   refine gq1 ?_
   refine zI hl ?_
   exact hK
  ·have e1:((n:Int)==1)=false:=by rw [beq_eq_false_iff_ne];omega
   have hs:=zcB (n:=n) (by omega)
   rw [zkZ (by omega)] at hp
   have hpl:(zcH p).length=p.length:=List.length_map ..
   obtain ⟨q,last,hq⟩:∃ q last,p=q++[last]:=by
    have hne:p≠[]:=by intro e;rw [e] at hp;simp at hp
    exact ⟨p.dropLast,p.getLast hne,(List.dropLast_concat_getLast hne).symm⟩
   have hql:p.length=q.length+1:=by rw [hq];simp
   have hw1:IntKind.i64.wrap ((p.length:Int)-1)=(q.length:Int):=by rw [zU (by omega) (by have:=zov i (zn n);have:=zov (i-zn n) (n-zn n);split at hp<;>omega)];omega
   have hgl:(zcH p)[q.length]? = some [D.int .i64 last]:=by rw [hq];simp
   have htk:List.take q.length (zcH p)=zcH q:=by rw [hq];simp
   have hone:∀ e∈zcH p,e.length=1:=zjk (f:=fun t:Int => [D.int .i64 t]) (fun _=>rfl) p
   have hll:last<=9223372036854775807:=hx last (by rw [hq];simp)
   have hxq:∀ x∈q,x<=9223372036854775807:=fun x hm=>hx x (by rw [hq];simp [hm])
   have hgd:p.getD (p.length-1) 0=last:=by rw [hql,hq];simp
   have htq:p.take (p.length-1)=q:=by rw [hql,hq];simp
   simp only [zdT,if_neg h1,hgd,htq] at hK
   refine gq2 e1 ?_
   refine zrb (by omega) ?_
   refine gq2 (zg hpl (zg hw1 (zg hgl htk))) ?_
   by_cases hc:i<zn n
   ·have hd:decide ((i:Int)<((zn n:Nat):Int))=true:=by simp;omega
    rw [if_pos hc] at hp hK
    have hr:=zkk f hL b i (zn n) q
    refine gq2 (zg hd htk) ?_
    refine ih (i:=i) (n:=zn n) (by omega) (by omega) hc (by omega) (by omega) hT hL hb hxq ?_
    obtain ⟨C,hC⟩:∃ C,zdT f L b i (zn n) q=C:=⟨_,rfl⟩
    rw [hC] at hK hr ⊢
    cases hb2:C.2
    ·rw [hb2] at hK
     refine gq1 ?_
     refine zI hl ?_
     exact hK
    ·rw [if_pos hb2] at hK
     refine gq1 ?_
     refine zzg (by omega) hll ?_
     refine gq1 ?_
     refine zmp hT hL ?_
     refine gq1 ?_
     refine zI hl ?_
     exact hK
   ·have hd:decide ((i:Int)<((zn n:Nat):Int))=false:=by simp;omega
    have hw2:IntKind.i64.wrap ((i:Int)-((zn n:Nat):Int))=((i-zn n:Nat):Int):=by rw [zU (by omega) (by omega)];omega
    have hw3:IntKind.i64.wrap ((n:Int)-((zn n:Nat):Int))=((n-zn n:Nat):Int):=by rw [zU (by omega) (by omega)];omega
    rw [if_neg hc] at hp hK
    have hr:=zkk f hL b (i-zn n) (n-zn n) q
    refine gq2 (zg hd (zg hw2 (zg hw3 htk))) ?_
    refine ih (i:=i-zn n) (n:=n-zn n) (by omega) (by omega) (by omega) (by omega) (by omega) hT hL hb hxq ?_
    obtain ⟨C,hC⟩:∃ C,zdT f L b (i-zn n) (n-zn n) q=C:=⟨_,rfl⟩
    rw [hC] at hK hr ⊢
    cases hb2:C.2
    ·rw [hb2] at hK
     refine gq1 ?_
     refine zI hl ?_
     exact hK
    ·rw [if_pos hb2] at hK
     refine gq1 ?_
     refine zzg hll (by omega) ?_
     refine gq1 ?_
     refine zmp hT hL ?_
     refine gq1 ?_
     refine zI hl ?_
     exact hK
theorem zmd {i n:Int} (h:¬ (i<0∨i≥n)):zhy i n=zen i.toNat n.toNat:=if_neg h
theorem zub {L:List (List UInt8)} {root:Int} {b:List UInt8} {i n:Int} {p:List Int} (h:¬ (i<0∨i≥n)) (hp:(p.length:Int)=zhy i n):zhi L root b i n p=((zdT n.toNat L b i.toNat n.toNat p).2&&((zdT n.toNat L b i.toNat n.toNat p).1==root)):=by
 rw [zmd h] at hp
 unfold zhi
 rw [if_neg (by omega)]
theorem zjd {L:List (List UInt8)} {root:Int} {b:List UInt8} {i n:Int} {p:List Int} (h:(i<0∨i≥n)∨(p.length:Int)≠zhy i n):zhi L root b i n p=false:=by
 unfold zhi
 rw [if_pos]
 by_cases hh:i<0∨i≥n
 ·rcases hh with h|h
  ·exact .inl h
  ·exact .inr (.inl h)
 ·rcases h with h|h
  ·exact absurd h hh
  ·rw [zmd hh] at h
   exact .inr (.inr h)
theorem c_r5Verify {σ:List zh} {id:Nat} {L:List (List UInt8)} {root:Int} {b:List UInt8} {i n:Int} {p:List Int} (hn:n<=4611686018427387904) (hT : σ[id]? = some (rtO L)) (hL:L.length<=1048576) (hb:b.length<=1073740000) (hx:∀ x∈p,x<=9223372036854775807)
  {K:KT} (hK:K (.d (.bool (zhi L root b i n p))) σ) :
  zp Tryz.prog znv [.box id 0,.d (.int .i64 root),.d (.slice (bcs b)),.d (.int .i64 i),.d (.int .i64 n),.d (.slice (zcH p))] σ K:=by
 refine acE6 e_r05_Verify fun hl => ?_
 have fin:∀ z,zhi L root b i n p=z->K (.d (.bool z)) σ:=fun z h=>h▸hK
 clear hK
 have hpl:(zcH p).length=p.length:=List.length_map ..
 simp only [ztg,iN,bT,bF,eN]
 cases h1:decide (i<0)
 rotate_left
 ·refine gq2 h1 ?_
  refine zI hl ?_
  exact fin _ (zjd (.inl (.inl (by simpa using h1))))
 cases h2:decide (i≥n)
 rotate_left
 ·refine gq2 (zg h1 h2) ?_
  refine zI hl ?_
  exact fin _ (zjd (.inl (.inr (by simpa using h2))))
 refine gq2 (zg h1 (zg h2 hpl)) ?_
 refine c_r5Length hn ?_
 simp only [decide_eq_false_iff_not] at h1 h2
 have hh:¬ (i<0∨i≥n):=by omega
 cases h3:((p.length:Int) != zhy i n)
 rotate_left
 ·refine gq2 h3 ?_
  refine zI hl ?_
  exact fin _ (zjd (.inr (by simpa using h3)))
 have h3':(p.length:Int)=zhy i n:=by simpa using h3
 have h4:=zub (L:=L) (root:=root) (b:=b) hh h3'
 rw [zmd hh] at h3'
 have ei:(i.toNat:Int)=i:=by omega
 have en:(n.toNat:Int)=n:=by omega
 have hc:=fun (K:KT)=>c_r5comesA n.toNat (σ := σ) (id:=id) (L:=L) (b:=b) (i:=i.toNat) (n:=n.toNat) (p:=p) (Nat.le_refl _) (by omega) (by omega) (by omega) (by omega) hT hL hb hx (K:=K)
 rw [ei,en] at hc
 refine gq2 h3 ?_
 refine hc _ ?_
 obtain ⟨C,hC⟩:∃ C,zdT n.toNat L b i.toNat n.toNat p=C:=⟨_,rfl⟩
 rw [hC] at h4 ⊢
 cases hb2:C.2
 ·refine gq1 ?_
  refine zI hl ?_
  exact fin _ (by rw [h4,hb2];rfl)
 ·refine gq1 ?_
  refine zI hl ?_
  exact fin _ (by rw [h4,hb2];rfl)
structure UpAt (σ:List zh) (a b u id:Nat) (x:List UInt8):Prop where
 ta : σ[a]? = some (.box [.box id 0])
 tb : σ[b]? = some (.box [.d (.slice (bcs x))])
 tu : σ[u]? = some (.box [.fn (.func zdP) [] [.box a 0,.box b 0,.box u 0]])
theorem UpAt.app {σ:List zh} {a b u id:Nat} {x:List UInt8} (h:UpAt σ a b u id x) (τ:List zh):UpAt (σ ++ τ) a b u id x:=⟨zf h.ta,zf h.tb,zf h.tu⟩
theorem c_mkUp:∀ (f:Nat) {σ:List zh} {a1 b1 u1 id m t:Nat} {L:List (List UInt8)} {b:List UInt8} {i n:Nat} {p:List Int},n<=f → 1<=n->i<n->n<=4611686018427387904->p.length=zen i n->UpAt σ a1 b1 u1 id b->zdH σ id m t L->L.length<=1048576->b.length<=1073740000->(∀ x∈p,x<=9223372036854775807) →
  ∀ {K:KT},K (.tup [.d (.int .i64 (zdT f L b i n p).1),.d (.bool (zdT f L b i n p).2)]) σ →
  zp Tryz.prog zdP [.d (.int .i64 i),.d (.int .i64 n),.d (.slice (zcH p)),.box a1 0,.box b1 0,.box u1 0] σ K:=by
 intro f
 induction f with
 | zero=>intros;omega
 | succ f ih=>
  intro σ a1 b1 u1 id m t L b i n p hf hn hin hn2 hp hU hT hL hb hx K hK
  refine acE6 zsq fun hl => ?_
  have ua:=hU.ta;have ub:=hU.tb;have uu:=hU.tu
  simp only [zlB,iN,bT,bF,eN]
  by_cases h1:n=1
  ·subst h1
   simp only [zdT,if_pos] at hK
   refine gq2 (zg ua ub) ?_
   refine c_mkleaf (by omega) ?_
   refine gq2 ua ?_
   refine zqa hT ?_
   refine gq1 ?_
   refine zI hl ?_
   exact hK
  ·have e1:((n:Int)==1)=false:=by rw [beq_eq_false_iff_ne];omega
   have hs:=zcB (n:=n) (by omega)
   rw [zkZ (by omega)] at hp
   have hpl:(zcH p).length=p.length:=List.length_map ..
   obtain ⟨q,last,hq⟩:∃ q last,p=q++[last]:=by
    have hne:p≠[]:=by intro e;rw [e] at hp;simp at hp
    exact ⟨p.dropLast,p.getLast hne,(List.dropLast_concat_getLast hne).symm⟩
   have hql:p.length=q.length+1:=by rw [hq];simp
   have hw1:IntKind.i64.wrap ((p.length:Int)-1)=(q.length:Int):=by rw [zU (by omega) (by have:=zov i (zn n);have:=zov (i-zn n) (n-zn n);split at hp<;>omega)];omega
   have hgl:(zcH p)[q.length]? = some [D.int .i64 last]:=by rw [hq];simp
   have htk:List.take q.length (zcH p)=zcH q:=by rw [hq];simp
   have hone:∀ e∈zcH p,e.length=1:=zjk (f:=fun t:Int => [D.int .i64 t]) (fun _=>rfl) p
   have hll:last<=9223372036854775807:=hx last (by rw [hq];simp)
   have hxq:∀ x∈q,x<=9223372036854775807:=fun x hm=>hx x (by rw [hq];simp [hm])
   have hgd:p.getD (p.length-1) 0=last:=by rw [hql,hq];simp
   have htq:p.take (p.length-1)=q:=by rw [hql,hq];simp
   simp only [zdT,if_neg h1,hgd,htq] at hK
   refine gq2 (zg e1 (zg hpl hw1)) ?_
   refine c_mkSplit (by omega) ?_
   by_cases hc:i<zn n
   ·have hd:decide ((i:Int)<((zn n:Nat):Int))=true:=by simp;omega
    rw [if_pos hc] at hp hK
    have hr:=zkk f hL b i (zn n) q
    refine gq2 (zg hd (zg hpl (zg hw1 (zg htk uu)))) ?_
    refine ih (i:=i) (n:=zn n) (by omega) (by omega) hc (by omega) (by omega) hU hT hL hb hxq ?_
    obtain ⟨C,hC⟩:∃ C,zdT f L b i (zn n) q=C:=⟨_,rfl⟩
    rw [hC] at hK hr ⊢
    cases hb2:C.2
    ·rw [hb2] at hK
     refine gq1 ?_
     refine zI hl ?_
     exact hK
    ·rw [if_pos hb2] at hK
     refine gq2 (zg ua (zg hgl hw1)) ?_
     refine c_mknode (by omega) hll ?_
     refine gq2 ua ?_
     refine zqa hT ?_
     refine gq1 ?_
     refine zI hl ?_
     exact hK
   ·have hd:decide ((i:Int)<((zn n:Nat):Int))=false:=by simp;omega
    have hw2:IntKind.i64.wrap ((i:Int)-((zn n:Nat):Int))=((i-zn n:Nat):Int):=by rw [zU (by omega) (by omega)];omega
    have hw3:IntKind.i64.wrap ((n:Int)-((zn n:Nat):Int))=((n-zn n:Nat):Int):=by rw [zU (by omega) (by omega)];omega
    rw [if_neg hc] at hp hK
    have hr:=zkk f hL b (i-zn n) (n-zn n) q
    refine gq2 (zg hd (zg hw2 (zg hw3 (zg hpl (zg hw1 (zg htk uu)))))) ?_
    refine ih (i:=i-zn n) (n:=n-zn n) (by omega) (by omega) (by omega) (by omega) (by omega) hU hT hL hb hxq ?_
    obtain ⟨C,hC⟩:∃ C,zdT f L b (i-zn n) (n-zn n) q=C:=⟨_,rfl⟩
    rw [hC] at hK hr ⊢
    cases hb2:C.2
    ·rw [hb2] at hK
     refine gq1 ?_
     refine zI hl ?_
     exact hK
    ·rw [if_pos hb2] at hK
     refine gq2 (zg ua (zg hgl hw1)) ?_
     refine c_mknode hll (by omega) ?_
     refine gq2 ua ?_
     refine zqa hT ?_
     refine gq1 ?_
     refine zI hl ?_
     exact hK
theorem c_mkVerify {σ:List zh} {id m t:Nat} {L:List (List UInt8)} {root:Int} {b:List UInt8} {i n:Int} {p:List Int} (hn:n<=4611686018427387904) (hT:zdH σ id m t L) (hL:L.length<=1048576) (hb:b.length<=1073740000) (hx:∀ x∈p,x<=9223372036854775807)
  {K:KT} (hK:K (.d (.bool (zhi L root b i n p))) σ) :
  zp Tryz.prog zjv [.box id 0,.d (.int .i64 root),.d (.slice (bcs b)),.d (.int .i64 i),.d (.int .i64 n),.d (.slice (zcH p))] σ K:=by
 refine acE6 zvd fun hl => ?_
 have fin:∀ z,zhi L root b i n p=z->K (.d (.bool z)) σ:=fun z h=>h▸hK
 clear hK
 have hpl:(zcH p).length=p.length:=List.length_map ..
 simp only [zoe,iN,bT,bF,eN]
 cases h1:decide (i<0)
 rotate_left
 ·refine gq2 h1 ?_
  refine zI hl ?_
  exact fin _ (zjd (.inl (.inl (by simpa using h1))))
 cases h2:decide (i≥n)
 rotate_left
 ·refine gq2 (zg h1 h2) ?_
  refine zI hl ?_
  exact fin _ (zjd (.inl (.inr (by simpa using h2))))
 refine gq2 (zg h1 (zg h2 hpl)) ?_
 refine c_mkLength hn ?_
 simp only [decide_eq_false_iff_not] at h1 h2
 have hh:¬ (i<0∨i≥n):=by omega
 cases h3:((p.length:Int) != zhy i n)
 rotate_left
 ·refine gq2 h3 ?_
  refine zI hl ?_
  exact fin _ (zjd (.inr (by simpa using h3)))
 have h3':(p.length:Int)=zhy i n:=by simpa using h3
 have h4:=zub (L:=L) (root:=root) (b:=b) hh h3'
 rw [zmd hh] at h3'
 have ei:(i.toNat:Int)=i:=by omega
 have en:(n.toNat:Int)=n:=by omega
 have hU:UpAt (σ++[.box [.box id 0],.box [.d (.slice (bcs b))],.box [.fn (.func zdP) [] [.box σ.length 0,.box (σ.length+1) 0,.box (σ.length+2) 0]]]) σ.length (σ.length+1) (σ.length+2) id b:=⟨by rw [zy];rfl,by rw [zx];rfl,by rw [zx];rfl⟩
 have hc:=fun (K:KT)=>c_mkUp n.toNat (i:=i.toNat) (n:=n.toNat) (p:=p) (Nat.le_refl _) (by omega) (by omega) (by omega) (by omega) hU (hT.app _) hL hb hx (K:=K)
 rw [ei,en] at hc
 refine gq2 h3 ?_
 refine hc _ ?_
 obtain ⟨C,hC⟩:∃ C,zdT n.toNat L b i.toNat n.toNat p=C:=⟨_,rfl⟩
 rw [hC] at h4 ⊢
 cases hb2:C.2
 ·refine gq1 ?_
  refine zI hl ?_
  exact fin _ (by rw [h4,hb2];rfl)
 ·refine gq1 ?_
  refine zI hl ?_
  exact fin _ (by rw [h4,hb2];rfl)
theorem zqs {f:Nat} {L:List (List UInt8)} {i:Nat} {l:List (List UInt8)} (h:l.length<=1):zbA f L i l=([],L):=by
 cases f with
 | zero=>rfl
 | succ f=>simp only [zbA];rw [if_pos h]
theorem zkQ:∀ (f:Nat) {L:List (List UInt8)} {i:Nat} {l:List (List UInt8)},l.length<=f->L.length<=1048576->(zbA f L i l).2.length<=1048576/\(zbA f L i l).1.length<=l.length
 | 0,L,i,l,_,h=>⟨h,by simp [zbA]⟩
 | f+1,L,i,l,hf,h=>by
  by_cases h1:l.length<=1
  ·rw [zqs h1];exact ⟨h,by simp⟩
  ·have hs:=zcB (n:=l.length) (by omega)
   simp only [zbA]
   rw [if_neg h1]
   split
   ·have h2:=zkQ f (L:=L) (i:=i) (l:=l.take (zn l.length)) (by rw [List.length_take];omega) h
    refine ⟨(zeu l.length (by rw [List.length_drop];omega) h2.1).1,?_⟩
    have:=h2.2
    rw [List.length_take] at this
    simp only [List.length_append,List.length_cons,List.length_nil]
    omega
   ·have h2:=zkQ f (L:=L) (i:=i-zn l.length) (l:=l.drop (zn l.length)) (by rw [List.length_drop];omega) h
    refine ⟨(zeu l.length (by rw [List.length_take];omega) h2.1).1,?_⟩
    have:=h2.2
    rw [List.length_drop] at this
    simp only [List.length_append,List.length_cons,List.length_nil]
    omega
theorem proveA_2 {f:Nat} {L:List (List UInt8)} {i:Nat} {l:List (List UInt8)} (h:2<=l.length):zbA (f+1) L i l =
  if i<zn l.length then ((zbA f L i (l.take (zn l.length))).1++[(rootF (zbA f L i (l.take (zn l.length))).2 (l.drop (zn l.length))).1],(rootF (zbA f L i (l.take (zn l.length))).2 (l.drop (zn l.length))).2)
  else ((zbA f L (i-zn l.length) (l.drop (zn l.length))).1++[(rootF (zbA f L (i-zn l.length) (l.drop (zn l.length))).2 (l.take (zn l.length))).1],(rootF (zbA f L (i-zn l.length) (l.drop (zn l.length))).2 (l.take (zn l.length))).2):=by
 simp only [zbA]
 rw [if_neg (by omega)]
def PathR (σ σ1:List zh) (p:List Int) (K:KT):Prop:=
 (p = []->K (.tup [.exact [],.d (.int .i64 0)]) σ1)/\(p≠[]->K (.tup [.own σ.length (zcH p),.d (.int .i64 0)]) (σ1++[.tok 1 p.length]))
theorem gq35 {P Q:Prop} (h:Q) (e:Hd Q->P:=by intro h;(repeat' first|simp -dsimp only [↓zeU, ↓zaA, ↓zbp, ↓zeV, ↓zeO, ↓zeM, ↓zeP, ↓zeN, ↓zbu, ↓zbq, ↓zbv, ↓zbr, ↓zeQ, ↓zbo, ↓zbw, ↓zbs, ↓zbx, ↓zbt, ↓zeL, ↓zeT, ↓zbn, ↓zby, ↓zeG, ↓zeF, ↓zeK,iN,bT,bF,eN, ↓zco, ↓unC, ↓zX, ↓zM, ↓zN, ↓zQ, ↓zZ, ↓zai, ↓zcv, ↓zaf, ↓zaS, ↓zV, ↓zl, ↓zm, ↓zbg, ↓ze, ↓zae, ↓zC, ↓zaM, ↓zaT, ↓zd, ↓zA, ↓zr, ↓zD, ↓zao, ↓zcY, ↓zdn, ↓zap, ↓zaw, ↓zaN, ↓zaZ, ↓zbk, ↓zw, ↓zaj, ↓zO, ↓zE, ↓zY,zdr,zbm,zbl,unA,zdo,bnd,zdL,zab,zS,zdI,dm,dm1,zG,zak,zdZ,zdY,zH,Q0,Q1,Q2,Q3,Q4,Q5,zW,zx,zy,zT,zL,Q6,Q7,Q8,Q9,Q10,Q11,Q12,Q13,Q14,Nat.reduceAdd,Q15,Int.reduceToNat,Q16,Q17,Q18,Q19,Q20,reduceIte,Q21,Q22,zF,rep,zaa,zeC,toD,zag,Q23,Q24,Q25,Q26,Q27,Q28,Nat.reduceLeDiff,Q29,Nat.reduceSub,Q30,Q31,Q32,sc,Q33,Q34,Q35,Q36,Q37,Q26,Q38,Q39,zis,zio,zil,zit,zcN,ziq,zim,zir,zin,zcM,zcO,ziu,ziv,Bool.not_true,Bool.not_false,List.length_map,List.length_set]|with_reducible refine zix ?_|fail);exact h.go):P:=e ⟨h⟩
theorem c_r5ProveA:∀ (f:Nat) {σ:List zh} {id:Nat} {L l:List (List UInt8)} {i:Nat},l.length<=f->i<l.length → σ[id]? = some (rtO L)->L.length<=1048576->l.length<=1073741824->(∀ x∈l,x.length<=1073740000)->∀ {K:KT},
  PathR σ (σ.set id (rtO (zbA f L i l).2)) (zbA f L i l).1 K->zp Tryz.prog zhw [.box id 0,.d (.int .i64 i),.d (.slice (zhI l))] σ K:=by
 intro f
 induction f with
 | zero=>intros;omega
 | succ f ih=>
  intro σ id L l i hf hi hT hL hn hx K hK
  refine zcl zuY.is rfl (fun s=>if s.length = σ.length then [] else [σ.length]) fun hl _=>zuY.goes ?_
  have hlen:(zhI l).length=l.length:=List.length_map ..
  have d1:decide ((i:Int)<0)=false:=by simp
  have d2:decide ((i:Int)≥(l.length:Int))=false:=by simp;omega
  simp only [zvZ,iN,bT,bF,eN]
  by_cases h1:l.length<=1
  ·have e1:((l.length:Int)==1)=true:=by simp;omega
   rw [zqs h1,zbF hT] at hK
   refine gq2 (zg d1 (zg d2 (zg hlen e1))) ?_
   exact zmk (by simp) hl rfl (hK.1 rfl)
  ·have h2:2<=l.length:=by omega
   have hs:=zcB h2
   rw [proveA_2 h2] at hK
   have e1:((l.length:Int)==1)=false:=by rw [beq_eq_false_iff_ne];omega
   have htk:List.take (zn l.length) (zhI l)=zhI (l.take (zn l.length)):=by rw [zhI, ← List.map_take]
   have hdr:List.drop (zn l.length) (zhI l)=zhI (l.drop (zn l.length)):=by rw [zhI, ← List.map_drop]
   have htl:List.take l.length (zhI l)=zhI l:=List.take_of_length_le (by omega)
   have hone:∀ e∈zhI l,e.length=1:=zjk (f:=fun b => [D.slice (bcs b)]) (fun _=>rfl) l
   have hl1:(l.take (zn l.length)).length=zn l.length:=by rw [List.length_take];omega
   have hl2:(l.drop (zn l.length)).length=l.length-zn l.length:=List.length_drop
   refine gq2 (zg d1 (zg d2 (zg hlen e1))) ?_
   refine zrb (by omega) ?_
   have last:∀ (A:List Int × List (List UInt8)) (R:Int × List (List UInt8)) (tk:zh),A.1.length<=l.length->PathR σ (σ.set id (rtO R.2)) (A.1++[R.1]) K →
     zoR σ.length (fun s=>if s.length = σ.length then [] else [σ.length]) K (some [.own σ.length (zcH A.1++[[.int .i64 R.1]]),.d (.int .i64 0)]) (σ.set id (rtO R.2)++[.tok 1 (A.1.length+1)]):=fun A R tk _ hR=>by
    refine endsK_one (t := σ.length) (x := .tok 1 (A.1.length+1)) (r := .tup [.own σ.length (zcH (A.1++[R.1])),.d (.int .i64 0)]) (by simp) (by simp) (Nat.le_refl _) (by rw [List.getElem?_append_right (by simp)];simp) (hl.setO (zgl _ _)) (by trivial) ?_ ?_
    ·simp [zcJ,zdA,zkc,zlN,idxK,zcH]
    ·have:=hR.2 (by simp)
     simpa using this
   by_cases hc:i<zn l.length
   ·have hd:decide ((i:Int)<((zn l.length:Nat):Int))=true:=by simp;omega
    rw [if_pos hc] at hK
    obtain ⟨g1,g2⟩:=zkQ f (L:=L) (i:=i) (l:=l.take (zn l.length)) (by omega) hL
    refine gq2 (zg hd (zg hlen htk)) ?_
    refine ih (i:=i) (by omega) (by omega) hT hL (by omega) (fun z hz=>hx z (List.mem_of_mem_take hz)) ?_
    obtain ⟨A,hA⟩:∃ A,zbA f L i (l.take (zn l.length))=A:=⟨_,rfl⟩
    rw [hA] at hK g1 g2 ⊢
    have hT1:(σ.set id (rtO A.2))[id]? = some (rtO A.2):=zbJ hT
    refine ⟨fun hp => ?_,fun hp => ?_⟩
    ·have hlast:=last A (rootF A.2 (l.drop (zn l.length))) (.tok 1 0) (by omega) hK
     rw [hp] at hlast
     refine gq2 (zg hlen (zg htl hdr)) ?_
     refine zoC hT1 g1 (by omega) (fun z hz=>hx z (List.mem_of_mem_drop hz)) ?_
     rw [List.set_set]
     refine gq35 ?_
     exact hlast
    ·have hpl:(zcH A.1).length=A.1.length:=List.length_map ..
     have hlast:=last A (rootF A.2 (l.drop (zn l.length))) (.tok 1 0) (by omega) hK
     refine gq2 (zg hlen (zg htl hdr)) ?_
     refine zoC (zf hT1) g1 (by omega) (fun z hz=>hx z (List.mem_of_mem_drop hz)) ?_
     rw [zcg hT1,List.set_set]
     have hgt:∀ X,(σ.set id X++[zh.tok 1 A.1.length])[σ.length]? = some (.tok 1 A.1.length):=fun X=>by rw [List.getElem?_append_right (by simp)];simp
     have hst:∀ X Y,(σ.set id X++[zh.tok 1 A.1.length]).set σ.length Y = σ.set id X++[Y]:=fun X Y=>by rw [List.set_append_right _ _ (by simp)];simp
     refine gq2 (zg hpl (zg hgt hst)) ?_
     exact hlast
   ·have hd:decide ((i:Int)<((zn l.length:Nat):Int))=false:=by simp;omega
    have hw2:IntKind.i64.wrap ((i:Int)-((zn l.length:Nat):Int))=((i-zn l.length:Nat):Int):=by rw [zU (by omega) (by omega)];omega
    rw [if_neg hc] at hK
    obtain ⟨g1,g2⟩:=zkQ f (L:=L) (i:=i-zn l.length) (l:=l.drop (zn l.length)) (by omega) hL
    refine gq2 (zg hd (zg hw2 (zg hlen (zg htl hdr)))) ?_
    refine ih (i:=i-zn l.length) (by omega) (by omega) hT hL (by omega) (fun z hz=>hx z (List.mem_of_mem_drop hz)) ?_
    obtain ⟨A,hA⟩:∃ A,zbA f L (i-zn l.length) (l.drop (zn l.length))=A:=⟨_,rfl⟩
    rw [hA] at hK g1 g2 ⊢
    have hT1:(σ.set id (rtO A.2))[id]? = some (rtO A.2):=zbJ hT
    refine ⟨fun hp => ?_,fun hp => ?_⟩
    ·have hlast:=last A (rootF A.2 (l.take (zn l.length))) (.tok 1 0) (by omega) hK
     rw [hp] at hlast
     refine gq2 (zg hlen htk) ?_
     refine zoC hT1 g1 (by omega) (fun z hz=>hx z (List.mem_of_mem_take hz)) ?_
     rw [List.set_set]
     refine gq35 ?_
     exact hlast
    ·have hpl:(zcH A.1).length=A.1.length:=List.length_map ..
     have hlast:=last A (rootF A.2 (l.take (zn l.length))) (.tok 1 0) (by omega) hK
     refine gq2 (zg hlen htk) ?_
     refine zoC (zf hT1) g1 (by omega) (fun z hz=>hx z (List.mem_of_mem_take hz)) ?_
     rw [zcg hT1,List.set_set]
     have hgt:∀ X,(σ.set id X++[zh.tok 1 A.1.length])[σ.length]? = some (.tok 1 A.1.length):=fun X=>by rw [List.getElem?_append_right (by simp)];simp
     have hst:∀ X Y,(σ.set id X++[zh.tok 1 A.1.length]).set σ.length Y = σ.set id X++[Y]:=fun X Y=>by rw [List.set_append_right _ _ (by simp)];simp
     refine gq2 (zg hpl (zg hgt hst)) ?_
     exact hlast
theorem c_r5Prove {σ:List zh} {id:Nat} {L l:List (List UInt8)} {i:Nat} (hi:i<l.length) (hT : σ[id]? = some (rtO L)) (hL:L.length<=1048576) (hn:l.length<=1073741824) (hx:∀ x∈l,x.length<=1073740000) {K:KT}
  (hK:PathR σ (σ.set id (rtO (zbA l.length L i l).2)) (zbA l.length L i l).1 K):zp Tryz.prog zhw [.box id 0,.d (.int .i64 i),.d (.slice (zhI l))] σ K:=c_r5ProveA l.length (Nat.le_refl _) hi hT hL hn hx hK
theorem zrf {σ:List zh} {id m t:Nat} {g:List zR} (hG:zeY σ id m t g) (hg:g.length<=1073741824) {K:KT}
  (hK:∀ g':List zR,K (.box (σ.length+1) 0) (σ++ledO σ.length g')):zp Tryz.prog zck [.box id 0] σ K:=by
 refine zcl ziD.is rfl (fun s=>List.range' σ.length 3) fun hl _=>ziD.goes ?_
 have hbx:∀ τ,(σ ++ τ)[id]? = _:=fun τ=>zf hG.box
 have hlen:(zrA g).length=g.length:=List.length_map ..
 simp only [ziS,iN,bT,bF,eN]
 refine gq1 ?_
 refine zzk hG ?_
 refine gq2 hbx ?_
 refine zvw ?_
 refine gq2 (zg hbx hlen) ?_
 refine zo g.length (fun k vs s=>vs = [.d (.int .i64 k)]/\∃ g' τ,g'.length<=k/\s = σ++(ledO σ.length g' ++ τ)) ⟨rfl,[],[],by simp,by simp [zrA,zwf]⟩ ?_
 rintro k vs s hk ⟨rfl,g', τ,hg',rfl⟩
 by_cases hlt:k<g.length
 ·have hd:decide ((k:Int)<(g.length:Int))=true:=by simp;omega
  have hx:g[k]? = some g[k]:=by simp [hlt]
  obtain ⟨x,hxe⟩:∃ x,g[k]=x:=⟨_,rfl⟩
  rw [hxe] at hx
  have hgx:(zrA g)[k]? = some [D.int .i64 x.key,D.int .i64 x.dig]:=by rw [zrA];exact zK hx
  refine gq2 (zg hd (zg hgx hlen)) ?_
  have hL:∀ τ',zeY (σ++(ledO σ.length g' ++ τ')) (σ.length+1) σ.length (σ.length+2) g':=fun τ'=>ledAt_new σ g' τ'
  refine c_gSign (hL (τ++[.box [.d (.int .i64 x.key),.d (.int .i64 x.dig)]])) (by omega) ?_
  have hP:=putLed_new σ g' (zgy g' x.key x.dig) (τ++[.box [.d (.int .i64 x.key),.d (.int .i64 x.dig)]])
  rw [hP]
  have hw:IntKind.i64.wrap ((k:Int)+1)=((k+1:Nat):Int):=by rw [zU (by omega) (by omega)];rfl
  refine gq2 hw ?_
  refine zas.next hlt ⟨rfl,zgy g' x.key x.dig, τ++[.box [.d (.int .i64 x.key),.d (.int .i64 x.dig)]],?_,by simp [ledO]⟩
  unfold zgy zmV
  split
  ·split
   ·omega
   ·simp;omega
  ·omega
 ·have hd:decide ((k:Int)<(g.length:Int))=false:=by simp;omega
  refine gq2 (zg hlen hd) ?_
  exact zsQ (σ' := σ) (os:=ledO σ.length g') (τ := τ) rfl rfl hl (low_ledO _ _) (.box _ _ (by simp)) (hK g')
end Go.Proofs.YtfgbofkdhfjegaaGreat

/- Headers, and records at their places: their bytes; chains. No program in sight. -/
namespace Go.AW
structure zdl where
 seq:Int
 prev:Int
 batch:Int
 root:Int
 state:Int
deriving DecidableEq
def zrB (h:zdl):List Int := [h.seq,h.prev,h.batch,h.root,h.state]
abbrev ztT (h:zdl):List D := [.int .i64 h.seq,.int .i64 h.prev,.int .i64 h.batch,.int .i64 h.root,.int .i64 h.state]
abbrev ztU (h:zdl):AV := .agg [.d (.int .i64 h.seq),.d (.int .i64 h.prev),.d (.int .i64 h.batch),.d (.int .i64 h.root),.d (.int .i64 h.state)]
abbrev zgR (l:List zdl):List (List D):=l.map ztT
def zla (h:zdl):Bool:=(zrB h).all zdB
def zba (h:zdl):Int:=if zla h=true then 0 else 90
def zpI (h:zdl):List UInt8 := 3::ziU (zrB h)
def hdrBF (h:zdl):List UInt8:=if zba h=0 then zpI h else []
theorem zdx {h:zdl}:zba h=0↔zla h=true:=by
 unfold zba;split<;>simp_all
theorem zhR {h:zdl} (hk:zla h=true):∀ x∈zrB h, 0<=x/\x<=9007199254740992:=fun x hx=>zfM.1 (List.all_eq_true.1 hk x hx)
theorem hdrB_len {h:zdl} (hk:zla h=true):(zpI h).length<=51:=by
 have:=znl (l:=zrB h) fun x hx=>by have:=zhR hk x hx;omega
 simp only [zpI,zrB,List.length_cons,List.length_nil] at this ⊢
 omega
def linkF (L:List (List UInt8)):Option zdl->zdl->Bool
 | none,_=>true
 | some q,h=>match zdf L (zpI q) with
  | some i=>(h.prev==((i+1:Nat):Int))&&(h.seq==q.seq+1)
  | none=>false
def zsV (L:List (List UInt8)):Option zdl->List zdl->Bool
 | _,[]=>true
 | p,h::r=>zla h&&(linkF L p h&&zsV L (some h) r)
def znK (L:List (List UInt8)) (l:List zdl):Bool:=zsV L none l
structure zbi where
 topic:List UInt8
 offset:Int
 rec_:List UInt8
abbrev zdN (p:zbi):List D := [.str p.topic,.int .i64 p.offset,.slice (bcs p.rec_)]
abbrev zaH (l:List zbi):List (List D):=l.map zdN
def zaL (p:zbi):List UInt8:=zqr p.topic++(zdi p.offset.toNat++zqr p.rec_)
theorem zxr {L:List (List UInt8)} {p:Option zdl} {l:List zdl} {k:Nat} {h:zdl} (hx:l[k]? = some h):zsV L p (l.drop k)=(zla h&&(linkF L p h&&zsV L (some h) (l.drop (k+1)))):=by
 have hk:k<l.length:=(List.getElem?_eq_some_iff.1 hx).1
 rw [List.drop_eq_getElem_cons hk,(List.getElem?_eq_some_iff.1 hx).2]
 rfl
end Go.AW

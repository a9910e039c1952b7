/- Contracts: what a new view goes on with, by the reference. -/
import Derived.Test.YtpgahkdjkanblaaGreatNv2
import Derived.Test.YtpgahkdjkanblaaGreatSpOp
set_option linter.all false
set_option maxRecDepth 100000
namespace Go.Proofs.YtpgahkdjkanblaaGreat
open Go.AW
theorem zxb {σ:List zd} {f view:Int} {cs:List zJ} (hs:zuj cs) (hR:∀ c∈cs,zgL c) {K:KT}
  (hK:K (.tup [zdu (zfZ f view cs).1,.d (.slice (zu (zfZ f view cs).2.1)),.d (.int .i64 (zfZ f view cs).2.2)]) σ) :
  zj Tryz.prog ziI [.d (.int .i64 f),.d (.int .i64 view),.d (.slice (zR cs))] σ K:=by
 refine zyo e_r16_Select fun hl => ?_
 have hsC:=hs
 obtain ⟨hs1,hs2⟩:=hs
 simp only [zuD,iN,bT,bF,eN]
 (refine gq2 ?_;try with_reducible exact True.intro)
 refine ziR ?_
 have fin:∀ r:zeP × List zaI × Int,zfZ f view cs=r->K (.tup [zdu r.1,.d (.slice (zu r.2.1)),.d (.int .i64 r.2.2)]) σ:=fun r h=>h▸hK
 have bad:∀ e,e≠0->zjn f view cs=e->K (.tup [zdu zgN,.d (.slice (zu [])),.d (.int .i64 e)]) σ:=fun e he h=>fin (zgN,[],e) (by rw [zfZ,if_pos (by rw [h];exact he),h])
 clear hK
 cases h0:(zbs f != 0)
 rotate_left
 ·(refine gq1 h0 ?_;try with_reducible exact True.intro)
  refine zt hl ?_
  exact bad _ (by simpa using h0) (by rw [zjn,if_pos (by simpa using h0)])
 have h0':¬ zbs f≠0:=by simpa using h0
 cases h1:decide (view<1)
 rotate_left
 ·(refine gq1 (zi h0 h1) ?_;try with_reducible exact True.intro)
  refine zt hl ?_
  exact bad 1 (by omega) (by rw [zjn,if_neg h0',if_pos (by simp at h1;omega)])
 cases h2:decide (view > 9007199254740992)
 rotate_left
 ·(refine gq1 (zi h0 (zi h1 h2)) ?_;try with_reducible exact True.intro)
  refine zt hl ?_
  exact bad 1 (by omega) (by rw [zjn,if_neg h0',if_pos (by simp at h2;omega)])
 have h12:¬ (view<1∨view > 9007199254740992):=by simp at h1 h2;omega
 (refine gq10 (zi h0 (zi h1 h2)) ?_;try with_reducible exact True.intro)
 refine zl cs.length (fun k vs s=>vs = [.d (.int .i64 k)]/\s = σ++[.box [.d (.int .i64 0),.d (.int .i64 0),.exact []]]/\zld f cs k=true) ⟨rfl,rfl,rfl⟩ ?_
 rintro k vs s hk ⟨rfl,rfl,hok⟩
 by_cases hlt:k<cs.length
 ·have hd:decide ((k:Int)<(cs.length:Int))=true:=by simp;omega
  have hx:cs[k]? = some cs[k]:=by simp [hlt]
  have hgx:=zF (f:=zat) hx
  obtain ⟨c,hce⟩:∃ c,cs[k]=c:=⟨_,rfl⟩
  rw [hce] at hx hgx
  have hwk:IntKind.i64.wrap ((k:Int)+1)=((k+1:Nat):Int):=by rw [zab (by omega) (by omega)];rfl
  have hbad:zrL f cs k=false->zjn f view cs=1:=fun h=>by rw [zjn,if_neg h0',if_neg h12,if_pos (zyx hlt h)]
  have hval:zrL f cs k=decide (zfu cs k<c.src/\c.src<zaR 3 f):=by simp only [zrL,hx]
  have hpos:=zsY hk hok
  cases h3:decide (c.src<0)
  rotate_left
  ·(refine gq8 (zi hgx (zi h3 hd)) ?_;try with_reducible exact True.intro)
   repeat' ((with_reducible refine And.intro ?_ ?_);focus (first|omega|rfl|decide))
   try (refine gq8 (zi hgx (zi h3 hd)) ?_;try with_reducible exact True.intro)
   refine zt hl ?_
   exact bad 1 (by omega) (hbad (by rw [hval];simp at h3 ⊢;omega))
  ·(refine gq8 (zi hgx (zi h3 hd)) ?_;try with_reducible exact True.intro)
   repeat' ((with_reducible refine And.intro ?_ ?_);focus (first|omega|rfl|decide))
   try (refine gq8 (zi hgx (zi h3 hd)) ?_;try with_reducible exact True.intro)
   refine zmk ?_
   cases h4:decide (c.src≥zaR 3 f)
   rotate_left
   ·(refine gq8 (zi hgx (zi h3 h4)) ?_;try with_reducible exact True.intro)
    repeat' ((with_reducible refine And.intro ?_ ?_);focus (first|omega|rfl|decide))
    try (refine gq8 (zi hgx (zi h3 h4)) ?_;try with_reducible exact True.intro)
    refine zt hl ?_
    exact bad 1 (by omega) (hbad (by rw [hval];simp at h4 ⊢;omega))
   ·cases k with
    | zero=>
     have hz:decide (((0:Nat):Int) > 0)=false:=by simp
     (refine gq8 (zi hgx (zi h3 (zi h4 (zi hz hwk)))) ?_;try with_reducible exact True.intro)
     repeat' ((with_reducible refine And.intro ?_ ?_);focus (first|omega|rfl|decide))
     try (refine gq8 (zi hgx (zi h3 (zi h4 (zi hz hwk)))) ?_;try with_reducible exact True.intro)
     refine zan.next hlt ⟨rfl,rfl,?_⟩
     rw [zkd,hok,hval,Bool.true_and,decide_eq_true_eq];simp only [zfu];simp at h3 h4;omega
    | succ m=>
     have hz:decide (((m+1:Nat):Int) > 0)=true:=decide_eq_true (by omega)
     have hwm:IntKind.i64.wrap (((m+1:Nat):Int)-1)=(m:Int):=by rw [zab (by omega) (by omega)];omega
     have hy:cs[m]? = some cs[m]:=by simp [show m<cs.length by omega]
     have hgy:=zF (f:=zat) hy
     have hp:zfu cs (m+1)=cs[m].src:=by simp only [zfu,hy]
     have hp0:=srcsOk_pos1 (show m<cs.length by omega) hok
     obtain ⟨d,hde⟩:∃ d,cs[m]=d:=⟨_,rfl⟩
     rw [hde] at hgy hp
     cases h5:decide (c.src<=d.src)
     ·(refine gq8 (zi hgx (zi hgy (zi h3 (zi h4 (zi h5 (zi hz (zi hwk hwm))))))) ?_;try with_reducible exact True.intro)
      repeat' ((with_reducible refine And.intro ?_ ?_);focus (first|omega|rfl|decide))
      try (refine gq8 (zi hgx (zi hgy (zi h3 (zi h4 (zi h5 (zi hz (zi hwk hwm))))))) ?_;try with_reducible exact True.intro)
      refine zan.next hlt ⟨rfl,rfl,?_⟩
      rw [zkd,hok,hval,hp];simp at h3 h4 h5 ⊢;omega
     ·(refine gq8 (zi hgx (zi hgy (zi h3 (zi h4 (zi h5 (zi hz (zi hwk hwm))))))) ?_;try with_reducible exact True.intro)
      repeat' ((with_reducible refine And.intro ?_ ?_);focus (first|omega|rfl|decide))
      try (refine gq8 (zi hgx (zi hgy (zi h3 (zi h4 (zi h5 (zi hz (zi hwk hwm))))))) ?_;try with_reducible exact True.intro)
      refine zt hl ?_
      exact bad 1 (by omega) (hbad (by rw [hval,hp];simp at h5 ⊢;omega))
 have hd:decide ((k:Int)<(cs.length:Int))=false:=by simp;omega
 have hn:k=cs.length:=by omega
 subst hn
 (refine gq10 hd ?_;try with_reducible exact True.intro)
 refine c_rBig ?_
 cases h5:decide ((cs.length:Int)<zaR 2 f)
 rotate_left
 ·(refine gq10 h5 ?_;try with_reducible exact True.intro)
  refine zt hl ?_
  exact bad 160 (by omega) (by rw [zjn,if_neg h0',if_neg h12,if_neg (by rw [hok];simp),if_pos (by simpa using h5)])
 have h0':zjn f view cs=0:=by rw [zjn,if_neg h0',if_neg h12,if_neg (by rw [hok];simp),if_neg (by simpa using h5)]
 obtain ⟨hne,hcf⟩:=mayF_ne h0'
 have hlen:0<cs.length:=List.length_pos_iff.2 hne
 have hx0:cs[0]? = some cs[0]:=by simp [hlen]
 have hgx0:=zF (f:=zat) hx0
 have hb0:ziT cs 0=cs[0].cert:=by
  cases cs with
  | nil=>exact absurd rfl hne
  | cons c cs=>rfl
 (refine gq8 (zi h5 hgx0) ?_;try with_reducible exact True.intro)
 refine ⟨by omega,?_⟩
 try (refine gq8 (zi h5 hgx0) ?_;try with_reducible exact True.intro)
 clear hd
 refine zl cs.length (fun k vs s=>vs = [.d (.int .i64 (zbQ (zbz cs k))),.d (.int .i64 k)]/\s = σ++[.box [.d (.int .i64 0),.d (.int .i64 0),.exact []],.box [.d (.int .i64 (ziT cs k).seq),.d (.int .i64 (ziT cs k).dig),.d (.slice (zO (ziT cs k).signs))]]) ⟨rfl,by rw [hb0]⟩ ?_
 rintro k vs s hk ⟨rfl,rfl⟩
 by_cases hlt:k<cs.length
 ·have hd:decide ((k:Int)<(cs.length:Int))=true:=by simp;omega
  have hx:cs[k]? = some cs[k]:=by simp [hlt]
  have hgx:=zF (f:=zat) hx
  obtain ⟨_,ha,_⟩:=hs2 _ (List.getElem_mem hlt)
  obtain ⟨c,hce⟩:∃ c,cs[k]=c:=⟨_,rfl⟩
  rw [hce] at hx hgx ha
  have hps:=zot hx
  have hbs:=ztZ hx
  have hwk:IntKind.i64.wrap ((k:Int)+1)=((k+1:Nat):Int):=by rw [zab (by omega) (by omega)];rfl
  obtain ⟨b,hbe⟩:∃ b,ziT cs (k+1)=b:=⟨_,rfl⟩
  cases h2:decide (c.cert.seq > (ziT cs k).seq)
  all_goals
   first
    | (have hcb:ziT cs k=b:=by rw [← hbe,hbs,znh,if_neg (by simpa using h2)])
    | (have hcb:c.cert=b:=by rw [← hbe,hbs,znh,if_pos (by simpa using h2)])
   (refine gq8 (zi hgx (zi h2 hd)) ?_;try with_reducible exact True.intro)
   repeat' ((with_reducible refine And.intro ?_ ?_);focus (first|omega|rfl|decide))
   try (refine gq8 (zi hgx (zi h2 hd)) ?_;try with_reducible exact True.intro)
   rw [hcb]
   refine zl c.above.length (fun j vs s=>vs = [.d (.int .i64 (zbQ (zbz cs k++c.above.take j))),.d (.int .i64 j)]/\s = σ++[.box [.d (.int .i64 0),.d (.int .i64 0),.exact []],.box [.d (.int .i64 b.seq),.d (.int .i64 b.dig),.d (.slice (zO b.signs))]]) ⟨by simp,rfl⟩ ?_
   rintro j vs s hj ⟨rfl,rfl⟩
   by_cases hjt:j<c.above.length
   ·have hdj:decide ((j:Int)<(c.above.length:Int))=true:=by simp;omega
    have hy:c.above[j]? = some c.above[j]:=by simp [hjt]
    have hgy:=zF (f:=zei) hy
    obtain ⟨p,hpe⟩:∃ p,c.above[j]=p:=⟨_,rfl⟩
    rw [hpe] at hy hgy
    have htk:c.above.take (j+1)=c.above.take j++[p]:=by rw [List.take_add_one,hy];rfl
    have hw:IntKind.i64.wrap ((j:Int)+1)=((j+1:Nat):Int):=by rw [zab (by omega) (by omega)];rfl
    have hg:(if p.seq > zbQ (zbz cs k++c.above.take j) then p.seq else zbQ (zbz cs k++c.above.take j))=zbQ (zbz cs k++c.above.take (j+1)):=by rw [htk, ← List.append_assoc,zwo];rfl
    (refine gq8 (zi hgx (zi hgy (zi hdj (zi hg hw)))) ?_;try with_reducible exact True.intro)
    repeat' ((with_reducible refine And.intro ?_ ?_);focus (first|omega|rfl|decide))
    try (refine gq8 (zi hgx (zi hgy (zi hdj (zi hg hw)))) ?_;try with_reducible exact True.intro)
    exact zan.next hjt ⟨rfl,rfl⟩
   ·have hdj:decide ((j:Int)<(c.above.length:Int))=false:=by simp;omega
    have hn:j=c.above.length:=by omega
    subst hn
    rw [List.take_length, ← hps]
    (refine gq8 (zi hgx (zi hdj hwk)) ?_;try with_reducible exact True.intro)
    repeat' ((with_reducible refine And.intro ?_ ?_);focus (first|omega|rfl|decide))
    try (refine gq8 (zi hgx (zi hdj hwk)) ?_;try with_reducible exact True.intro)
    exact zan.next hlt ⟨rfl,by rw [hbe]⟩
 ·have hd:decide ((k:Int)<(cs.length:Int))=false:=by simp;omega
  have hn:k=cs.length:=by omega
  subst hn
  obtain ⟨L,hLe⟩:∃ L,zbz cs cs.length=L:=⟨_,rfl⟩
  obtain ⟨b,hbe⟩:∃ b,ziT cs cs.length=b:=⟨_,rfl⟩
  have hg1:=great_le hR cs.length
  have hg0:=greatF_nn L
  have hbR:=zzt hR (Nat.le_refl _) hne
  have hsel:zfZ f view cs=if b.seq<0∨zbQ L<=b.seq then (b,[], 0) else (b,zgt view L b.seq (zrZ (zbQ L) b.seq), 0):=by
   rw [zfZ,if_neg (by rw [h0'];simp)];simp only [hLe,hbe]
  rw [hLe] at hg1 ⊢
  rw [hbe] at hbR ⊢
  cases h6:decide (b.seq<0)
  rotate_left
  ·(refine gq10 (zi h6 hd) ?_;try with_reducible exact True.intro)
   repeat' ((with_reducible refine And.intro ?_ ?_);focus (first|omega|rfl|decide))
   try (refine gq10 (zi h6 hd) ?_;try with_reducible exact True.intro)
   refine zt hl ?_
   exact fin (b,[], 0) (by rw [hsel,if_pos (.inl (by simpa using h6))])
  cases h7:decide (zbQ L<=b.seq)
  rotate_left
  ·(refine gq10 (zi h6 (zi h7 hd)) ?_;try with_reducible exact True.intro)
   repeat' ((with_reducible refine And.intro ?_ ?_);focus (first|omega|rfl|decide))
   try (refine gq10 (zi h6 (zi h7 hd)) ?_;try with_reducible exact True.intro)
   refine zt hl ?_
   exact fin (b,[], 0) (by rw [hsel,if_pos (.inr (by simpa using h7))])
  have h6':0<=b.seq:=by simpa using h6
  have h7':b.seq<zbQ L:=by simpa using h7
  have hw1:IntKind.i64.wrap (zbQ L-b.seq)=zbQ L-b.seq:=zab (by omega) (by omega)
  obtain ⟨N,hN⟩:∃ N,zrZ (zbQ L) b.seq=N:=⟨_,rfl⟩
  have hN8:=zrY (zbQ L) b.seq
  rw [hN] at hN8
  have hNg:(N:Int)<=zbQ L-b.seq:=by rw [← hN];unfold zrZ;omega
  have hN0:0<N:=by rw [← hN];unfold zrZ;omega
  (refine gq10 (zi h6 (zi h7 hd)) ?_;try with_reducible exact True.intro)
  repeat' ((with_reducible refine And.intro ?_ ?_);focus (first|omega|rfl|decide))
  try (refine gq10 (zi h6 (zi h7 hd)) ?_;try with_reducible exact True.intro)
  clear hd
  refine zl N (fun n vs s=>vs = [if n=0 then .exact [] else .own (σ.length+2) (zu (zgt view L b.seq n)),.d (.int .i64 n)]/\s = σ++([.box [.d (.int .i64 0),.d (.int .i64 0),.exact []],.box [.d (.int .i64 b.seq),.d (.int .i64 b.dig),.d (.slice (zO b.signs))]]++if n=0 then [] else [.tok 5 (zu (zgt view L b.seq n)).length])) ⟨rfl,by simp⟩ ?_
  rintro n vs s hn ⟨rfl,rfl⟩
  have hel:(zgt view L b.seq n).length=n:=by simp [zgt]
  by_cases hnN:n=N
  ·have hn0:¬ n=0:=by omega
   simp only [if_neg hn0]
   cases hd:decide ((n:Int)<8)
   ·(refine gq1 (zi hd hw1) ?_;try with_reducible exact True.intro)
    repeat' ((with_reducible refine And.intro ?_ ?_);focus (first|omega|rfl|decide))
    try (refine gq1 (zi hd hw1) ?_;try with_reducible exact True.intro)
    refine zt hl ?_
    exact fin (b,zgt view L b.seq n, 0) (by rw [hsel,if_neg (by omega),hN,hnN])
   ·have hd2:decide ((n:Int)<zbQ L-b.seq)=false:=by
     have:=manyF_ge h7' (hnN.trans hN.symm)
     simp at hd ⊢;omega
    (refine gq1 (zi hd (zi hd2 hw1)) ?_;try with_reducible exact True.intro)
    repeat' ((with_reducible refine And.intro ?_ ?_);focus (first|omega|rfl|decide))
    try (refine gq1 (zi hd (zi hd2 hw1)) ?_;try with_reducible exact True.intro)
    refine zt hl ?_
    exact fin (b,zgt view L b.seq n, 0) (by rw [hsel,if_neg (by omega),hN,hnN])
  ·have hd:decide ((n:Int)<8)=true:=by simp;omega
   have hd2:decide ((n:Int)<zbQ L-b.seq)=true:=by simp;omega
   have hw2:IntKind.i64.wrap (b.seq+(n:Int))=b.seq+n:=zab (by omega) (by omega)
   have hw3:IntKind.i64.wrap (b.seq+(n:Int)+1)=b.seq+n+1:=zab (by omega) (by omega)
   have hw4:IntKind.i64.wrap ((n:Int)+1)=((n+1:Nat):Int):=by rw [zab (by omega) (by omega)];rfl
   have hsn:zu (zgt view L b.seq n)++[zbh (entAt view L b.seq n)]=zu (zgt view L b.seq (n+1)):=by rw [← zzd];simp
   have hel1:(zgt view L b.seq (n+1)).length=n+1:=by simp [zgt]
   simp only [entAt,zbh] at hsn
   by_cases hn0:n=0
   ·subst hn0
    simp only [if_true,List.append_nil]
    (refine gq1 (zi hd (zi hd2 (zi hw1 (zi hw2 (zi hw3 hw4))))) ?_;try with_reducible exact True.intro)
    refine c_rLatest hsC ?_
    rw [hLe]
    (refine gq1 (zi hd (zi hd2 (zi hw1 (zi hw2 (zi hw3 hw4))))) ?_;try with_reducible exact True.intro)
    repeat' ((with_reducible refine And.intro ?_ ?_);focus (first|omega|rfl|decide|simp))
    try (refine gq1 (zi hd (zi hd2 (zi hw1 (zi hw2 (zi hw3 hw4))))) ?_;try with_reducible exact True.intro)
    refine zan.next (by omega) ⟨?_,?_⟩
    ·rw [if_neg (by omega), ← hsn];rfl
    ·rw [if_neg (by omega),List.length_map,hel1]
   ·simp only [if_neg hn0]
    (refine gq1 (zi hd (zi hd2 (zi hw1 (zi hw2 (zi hw3 hw4))))) ?_;try with_reducible exact True.intro)
    refine c_rLatest hsC ?_
    rw [hLe]
    (refine gq1 (zi hd (zi hd2 (zi hw1 (zi hw2 (zi hw3 hw4))))) ?_;try with_reducible exact True.intro)
    repeat' ((with_reducible refine And.intro ?_ ?_);focus (first|omega|(simp only [List.length_map,hel];omega)|rfl|decide|simp))
    try (refine gq1 (zi hd (zi hd2 (zi hw1 (zi hw2 (zi hw3 hw4))))) ?_;try with_reducible exact True.intro)
    refine zan.next (by omega) ⟨?_,?_⟩
    ·rw [if_neg (by omega), ← hsn];try rfl
    ·rw [if_neg (by omega)];simp only [List.length_map,hel,hel1,List.cons_append]
end Go.Proofs.YtpgahkdjkanblaaGreat

/- What holds little has short lists. No program in sight. -/
namespace Go.AW
theorem zir {α:Type} {f : α->List D} (h:∀ a, 1<=zeS (f a)):∀ (l:List α),l.length<=zfq (l.map f)
 | []=>Nat.zero_le _
 | a::l=>by have:=h a;have:=zir h l;simp only [List.map_cons,List.length_cons,zfq];omega
theorem zgT {α:Type} {f : α->List D} {a : α}:∀ {l:List α},a∈l->zeS (f a)<=zfq (l.map f)
 | b::l,h=>by
  simp only [List.map_cons,zfq]
  rcases List.mem_cons.1 h with rfl|h
  ·omega
  ·have:=zgT (f:=f) h;omega
theorem zqu (rs:List (List UInt8)):rs.length<=zfq (zeU rs)/\∀ r∈rs,r.length<=zfq (zeU rs):=by
 refine ⟨zir (f:=fun r => [D.slice (bcs r)]) (fun r=>by simp only [zeS,ziS];omega) rs,fun r hr => ?_⟩
 have:=zgT (f:=fun r => [D.slice (bcs r)]) hr
 simp only [zeS,ziS,bulk_bcs] at this
 unfold zeU
 omega
def leB (n:Nat) (b:List zC):Prop:=b.length<=n/\∀ x∈b,x.op.recs.length<=n/\∀ r∈x.op.recs,r.length<=n
theorem leB_bulk {b:List zC} {n:Nat} (h:zfq (zaP b)<=n):leB n b:=by
 unfold zaP at h
 refine ⟨Nat.le_trans (zir (f:=zaN) (fun a=>by simp only [zaN,zeS,ziS];omega) b) h,fun x hx => ?_⟩
 have:=zgT (f:=zaN) hx
 simp only [zaN,zeS,ziS] at this
 have h2:=zqu x.op.recs
 refine ⟨by omega,fun r hr => ?_⟩
 have:=h2.2 r hr
 omega
def leP (n:Nat) (p:zbO):Prop:=p.signs.length<=n/\leB n p.batch
theorem zta (l:List zy):l.length<=zfq (zO l):=zir (f:=zfi) (fun a=>by simp only [zfi,zeS,ziS];omega) l
theorem leP_bulk {p:zbO} {n:Nat} (h:zeS (zei p)<=n):leP n p:=by
 simp only [zei,zeS,ziS] at h
 have:=zta p.signs
 exact ⟨by omega,leB_bulk (by omega)⟩
theorem leC_bulk {cs:List zJ} {n:Nat} (h:zfq (zR cs)<=n):cs.length<=n/\∀ c∈cs,c.cert.signs.length<=n/\c.above.length<=n/\∀ p∈c.above,leP n p:=by
 unfold zR at h
 refine ⟨Nat.le_trans (zir (f:=zat) (fun a=>by simp only [zat,zeS,ziS];omega) cs) h,fun c hc => ?_⟩
 have:=zgT (f:=zat) hc
 simp only [zat,zeS,ziS] at this
 have h1:=zta c.cert.signs
 have h2:=zir (f:=zei) (fun a=>by simp only [zei,zeS,ziS];omega) c.above
 refine ⟨by omega,by unfold zdC at this;omega,fun p hp=>leP_bulk ?_⟩
 have:=zgT (f:=zei) hp
 unfold zdC at *
 omega
end Go.AW

/- The laws NewviewSelects and NewviewGaps, from the contracts. -/
set_option maxRecDepth 100000
namespace Go.Proofs.YtpgahkdjkanblaaGreat
open Go.AW
def one16:List zC := [⟨1, 1,noOp, 14, 1⟩]
def l16:List zJ := [⟨0, 0,zgN,[⟨0, 1, 0, 0, 0,[],one16⟩,⟨0, 3, 0, 0, 0,[],[]⟩], 0, 0⟩,⟨0, 1,zgN,[], 0, 0⟩,⟨0, 3,zgN,[⟨1, 3, 0, 0, 0,[],one16⟩], 0, 0⟩]
theorem sel16:zfZ 1 2 l16=(zgN,[⟨2, 1,one16, 0, 0⟩,⟨2, 2,[], 0, 0⟩,⟨2, 3,one16, 0, 0⟩], 0):=by decide +kernel
theorem small16:zuj l16:=by simp [zuj,l16,zhN,one16,zgN,noOp]
theorem range16:∀ c∈l16,zgL c:=by simp [l16,zgL,prepR,zrF,zgN]
theorem gq17 {P Q:Prop} (h:Q) (e:P=Q:=by simp -dsimp only [↓zhL, ↓zbi, ↓zcI, ↓zhM, ↓zhF, ↓zhD, ↓zhG, ↓zhE, ↓zcN, ↓zcJ, ↓zcO, ↓zcK, ↓zhH, ↓zcH, ↓zcP, ↓zcL, ↓zcQ, ↓zcM, ↓zhC, ↓zhK, ↓zcG, ↓zcR, ↓zhz, ↓zhy, ↓zhB,iN,bT,bF,eN, ↓zdT, ↓unC, ↓zam, ↓zY, ↓zZ, ↓zae, ↓zax, ↓zag, ↓zeQ, ↓zap, ↓zaQ, ↓zW, ↓zg, ↓zh, ↓zcW, ↓zb, ↓zaC, ↓zG, ↓zbv, ↓zbE, ↓zc, ↓zE, ↓zq, ↓zK, ↓zao, ↓zft, ↓zfB, ↓zaL, ↓zaX, ↓zbm, ↓zbC, ↓zcj, ↓zI, ↓zaH, ↓zaa, ↓zM, ↓zaw,zfE,zcw,zcp,unA,zeT,bnd,zgq,zaA,zL,zga,dm,dm1,zw,zad,zgP,zgO,zH,Q0,Q1,Q2,Q3,Q4,Q5,zay,zB,zD,zT,zP,Q6,Q7,Q8,Q9,Q10,Q11,Q12,Q13,Q14,Nat.reduceAdd,Q15,Int.reduceToNat,Q16,Q17,Q18,Q19,Q20,reduceIte,Q21,Q22,zU,rep,zar,zgW,toD,zaz,Q23,Q24,Q25,Q26,Q27,Q28,Nat.reduceLeDiff,Q29,Nat.reduceSub,Q30,Q31,Q32,sc,Q33,Q34,Q35,beq_self_eq_true,Bool.not_false,Bool.not_true,bne_self_eq_false];rfl):P:=e.mpr h
theorem gq18 {A P Q:Prop} (a:A) (h:Q) (e:A->P=Q:=by intro a;simp -dsimp only [↓zhL, ↓zbi, ↓zcI, ↓zhM, ↓zhF, ↓zhD, ↓zhG, ↓zhE, ↓zcN, ↓zcJ, ↓zcO, ↓zcK, ↓zhH, ↓zcH, ↓zcP, ↓zcL, ↓zcQ, ↓zcM, ↓zhC, ↓zhK, ↓zcG, ↓zcR, ↓zhz, ↓zhy, ↓zhB,iN,bT,bF,eN, ↓zdT, ↓unC, ↓zam, ↓zY, ↓zZ, ↓zae, ↓zax, ↓zag, ↓zeQ, ↓zap, ↓zaQ, ↓zW, ↓zg, ↓zh, ↓zcW, ↓zb, ↓zaC, ↓zG, ↓zbv, ↓zbE, ↓zc, ↓zE, ↓zq, ↓zK, ↓zao, ↓zft, ↓zfB, ↓zaL, ↓zaX, ↓zbm, ↓zbC, ↓zcj, ↓zI, ↓zaH, ↓zaa, ↓zM, ↓zaw,zfE,zcw,zcp,unA,zeT,bnd,zgq,zaA,zL,zga,dm,dm1,zw,zad,zgP,zgO,zH,Q0,Q1,Q2,Q3,Q4,Q5,zay,zB,zD,zT,zP,Q6,Q7,Q8,Q9,Q10,Q11,Q12,Q13,Q14,Nat.reduceAdd,Q15,Int.reduceToNat,Q16,Q17,Q18,Q19,Q20,reduceIte,Q21,Q22,zU,rep,zar,zgW,toD,zaz,Q23,Q24,Q25,Q26,Q27,Q28,Nat.reduceLeDiff,Q29,Nat.reduceSub,Q30,Q31,Q32,sc,Q33,Q34,Q35,beq_self_eq_true,Bool.not_false,Bool.not_true,bne_self_eq_false,a];rfl):P:=(e a).mpr h
theorem zxg {σ:List zd} {K:KT} (hK:K (.d (.bool true)) σ):zj Tryz.prog zmT [] σ K:=by
 refine acE0 e_l16_begun fun hl => ?_
 simp only [zxH,iN,bT,bF,eN,zl1,zl2,zl3,zl4]
 (refine gq17 ?_;try with_reducible exact True.intro)
 have key:∃ B1:List (List D),B1.length=1/\∀ (σ:List zd) (K:KT),K (.tup [.agg [.d (.int .i64 0),.d (.int .i64 0),.d (.slice [])],.d (.slice [[.int .i64 2,.int .i64 1,.slice B1,.int .i64 0,.int .i64 0],[.int .i64 2,.int .i64 2,.slice [],.int .i64 0,.int .i64 0],[.int .i64 2,.int .i64 3,.slice B1,.int .i64 0,.int .i64 0]]),.d (.int .i64 0)]) σ->zj Tryz.prog zds [.d (.int .i64 1),.d (.int .i64 2),.d (.slice (zR l16))] σ K:=by
  refine ⟨zaP one16,rfl,fun σ K hK => ?_⟩
  refine zzo small16 range16 ?_
  rw [sel16]
  exact hK
 obtain ⟨B1,hB1,key⟩:=key
 refine key _ _ ?_
 clear key
 have hB2:((B1.length:Int)==1)=true:=by rw [hB1];rfl
 have e3:(((3:Nat):Int)==3)=true:=rfl
 have e0:(((0:Nat):Int)==0)=true:=rfl
 (refine gq18 (zi e3 (zi e0 hB2)) ?_;try with_reducible exact True.intro)
 refine ⟨by omega,by omega,by omega,by omega,by omega,?_⟩
 refine zt hl ?_
 exact hK
theorem selF_small {f view:Int} {cs:List zJ} (hs:zuj cs):(zfZ f view cs).1.signs.length<=1073741824/\(zfZ f view cs).2.1.length<=8/\∀ x∈(zfZ f view cs).2.1,zhN x.batch:=by
 obtain ⟨hs1,hs2⟩:=hs
 have nil:(zgN,([]:List zaI),zjn f view cs).1.signs.length<=1073741824:=by simp [zgN]
 unfold zfZ
 split
 ·exact ⟨by simp [zgN],by simp,by simp⟩
 ·rename_i h0
  obtain ⟨hne,_⟩:=mayF_ne (by simpa using h0)
  obtain ⟨c0,hc0,hcb⟩:=zsB (cs:=cs) (Nat.le_refl _) hne
  have hb:=(hs2 c0 hc0).1
  rw [← hcb] at hb
  simp only
  split
  ·exact ⟨hb,by simp,by simp⟩
  ·refine ⟨hb,?_,?_⟩
   ·have:=zrY (zbQ (zbz cs cs.length)) (ziT cs cs.length).seq
    simpa [zgt] using this
   ·intro x hx
    simp only [zgt,List.mem_map,List.mem_range] at hx
    obtain ⟨n,_,rfl⟩:=hx
    simp only [entAt]
    cases ho:zrE (zbz cs cs.length) ((ziT cs cs.length).seq+n+1) with
    | none=>exact ⟨by simp [zrv],by simp [zrv]⟩
    | some p=>
     obtain ⟨c,hc,hp⟩:=zmH (zAj ho).2
     exact (hs2 c hc).2.2 p hp
end Go.Proofs.YtpgahkdjkanblaaGreat

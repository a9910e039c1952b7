/- What the blocks of a beginning are: chained headers, each over its records' tree; who has signed what. No program in sight. -/
import Derived.Test.YtfgbofkdhfjegaaGreatBt1
import Derived.Test.YtfgbofkdhfjegaaGreatPf1
import Derived.Test.YtfgbofkdhfjegaaGreatSpBulk
import Derived.Test.YtfgbofkdhfjegaaGreatRq2
import Derived.Test.YtfgbofkdhfjegaaGreatSpUtf
import Derived.Test.YtfgbofkdhfjegaaGreatSpChk
set_option linter.all false
set_option maxRecDepth 100000
namespace Go.Proofs.YtfgbofkdhfjegaaGreat
open Go.AW
theorem atF_name {n:List UInt8}:∀ {l:List zdh} {j k:Nat},atF n l j=some k->∃ x,l[k-j]? = some x/\x.name=n
 | [],_,_,h=>by simp [atF] at h
 | x::r,j,k,h=>by
  simp only [atF] at h
  split at h
  ·rename_i e
   cases h
   exact ⟨x,by simp,by simpa using e⟩
  ·obtain ⟨y,h1,h2⟩:=atF_name h
   have:=(atF_lt h).1
   exact ⟨y,by rw [show k-j=(k-(j+1))+1 by omega];simpa using h1,h2⟩
theorem zsL {t:List UInt8}:∀ {l:List (List UInt8)} {o:Int}, ∀ p∈zkR t o l,p.topic=t
 | [],_,p,h=>by simp [zkR] at h
 | r::l,o,p,h=>by
  rcases List.mem_cons.1 h with rfl|h
  ·rfl
  ·exact zsL p h
theorem check_recs {o:TOp} (h:zbG zex o=0) (hk:o.kind=2):o.recs.length<=4:=by
 unfold zbG at h
 split at h
 ·simp at h
 ·split at h
  ·simp at h
  ·split at h
   ·simp at h
   ·split at h
    ·simp at h
    ·rename_i h4
     rcases Nat.lt_or_ge 4 o.recs.length with hl|hl
     ·exact absurd ⟨hk,.inr (.inl hl)⟩ h4
     ·exact hl
theorem doesN (T:zcf) (o:TOp):(∀ p∈(zdg T o).2.1,zex p.topic=true)/\(zdg T o).2.1.length<=4:=by
 unfold zdg
 split
 ·simp
 ·rename_i hc
  have hc:zbG zex o=0:=by simpa using hc
  split
  ·simp
  ·rename_i hk0
   split
   ·simp
   ·split
    ·simp
    ·rename_i i hi
     split
     ·simp
     ·rename_i x hx
      split
      ·rename_i hk
       unfold zed
       split
       ·simp
       ·obtain ⟨y,h1,h2⟩:=atF_name hi
        rw [Nat.sub_zero,hx] at h1
        cases h1
        refine ⟨fun p hp => ?_,?_⟩
        ·rw [zsL p hp,h2]
         exact (check0 hc).2.2.1 hk0
        ·rw [zon];exact check_recs hc hk
      ·split<;>simp
theorem applyN (T:zcf) (c tm:Int) (o:TOp):(∀ p∈(zcE T c tm o).2.1,zex p.topic=true)/\(zcE T c tm o).2.1.length<=4:=by
 unfold zcE
 repeat' split
 all_goals first|(simp;done)|exact doesN T o
theorem applyAllN:∀ (l:List zt) (T:zcf),(∀ p∈(zal T l).1,zex p.topic=true)/\(zal T l).1.length<=l.length*4
 | [],_=>by simp [zal]
 | x::l,T=>by
  obtain ⟨h1,h2⟩:=applyN T x.client x.time x.op
  obtain ⟨h3,h4⟩:=applyAllN l (zcE T x.client x.time x.op).2.2.2
  refine ⟨fun p hp => ?_,?_⟩
  ·simp only [zal] at hp
   rcases List.mem_append.1 hp with hp|hp
   ·exact h1 p hp
   ·exact h3 p hp
  ·simp only [zal,List.length_append,List.length_cons];omega
structure BlkI (L:List (List UInt8)) (b:zbL):Prop where
 ok:zla b.header=true
 root:zjS L (b.placed.map zaL) b.header.root
 pl:∀ p∈b.placed,PlI p/\zex p.topic=true
 cnt:b.placed.length<=16
theorem BlkI.pre {L L':List (List UInt8)} {b:zbL} (h:BlkI L b) (hp:L <+: L'):BlkI L' b:=⟨h.ok,h.root.pre hp,h.pl,h.cnt⟩
def LinkI (L:List (List UInt8)) (q h:zdl):Prop:=zho L (zpI q) h.prev/\h.seq=q.seq+1
def lastH:zdl->List zbL->zdl
 | q,[]=>q
 | _,b::r=>lastH b.header r
def ChI (L:List (List UInt8)):zdl->List zbL->Prop
 | _,[]=>True
 | q,b::r=>LinkI L q b.header/\ChI L b.header r
theorem ChI.pre {L L':List (List UInt8)} (hp:L <+: L'):∀ {bs:List zbL} {q:zdl},ChI L q bs->ChI L' q bs
 | [],_,_=>trivial
 | b::r,q,h=>⟨⟨h.1.1.pre hp,h.1.2⟩,ChI.pre hp h.2⟩
theorem ChI.snoc {L:List (List UInt8)} {b:zbL}:∀ {bs:List zbL} {q:zdl},ChI L q bs->LinkI L (lastH q bs) b.header->ChI L q (bs++[b])
 | [],_,_,h=>⟨h,trivial⟩
 | c::r,q,h,hl=>⟨h.1,ChI.snoc h.2 hl⟩
theorem zxe {b:zbL}:∀ {bs:List zbL} {q:zdl},lastH q (bs++[b])=b.header
 | [],_=>rfl
 | c::r,q=>zxe (bs:=r) (q:=c.header)
theorem digL_pre (L:List (List UInt8)) (l:List zt):L <+: zmm L l/\(zmm L l).length<=L.length+1:=by
 unfold zmm
 split
 ·exact ⟨List.prefix_refl L,by omega⟩
 ·exact ⟨zgB ..,zky ..⟩
theorem hdigL_pre (L:List (List UInt8)) (h:zdl):L <+: zfy L h/\(zfy L h).length<=L.length+1:=by
 unfold zfy
 split
 ·exact ⟨List.prefix_refl L,by omega⟩
 ·exact ⟨zgB ..,zky ..⟩
theorem zyi {L:List (List UInt8)} {b:List UInt8} (h:L.length<=1048576):0<=zdX L b/\zdX L b<=1048577:=by
 unfold zdX
 split
 ·rename_i i hi;have:=(zmc hi).1;omega
 ·split<;>omega
theorem exec_hist {L:List (List UInt8)} {T:zcf} {h:zdl} {b:List zt} (hT:zhZ T) (hL:L.length+600<=1048576) :
  L <+: (zdG L T h b).L/\(zdG L T h b).L.length<=L.length+520 ∧
  ((zdG L T h b).e=0->BlkI (zdG L T h b).L ⟨(zdG L T h b).h,b,(zdG L T h b).p⟩/\LinkI (zdG L T h b).L h (zdG L T h b).h):=by
 obtain ⟨d1,d2⟩:=digL_pre L b
 obtain ⟨d3,d4⟩:=hdigL_pre (zmm L b) h
 unfold zdG
 split
 ·rename_i c0;exact ⟨List.prefix_refl L,by simp only;omega,fun e=>absurd e c0⟩
 rename_i c0
 have c0:zba h=0:=Classical.not_not.1 c0
 split
 ·exact ⟨List.prefix_refl L,by simp only;omega,fun e=>by simp at e⟩
 rename_i c1
 split
 ·rename_i c2;exact ⟨d1,by simp only;omega,fun e=>absurd e c2⟩
 rename_i c2
 have c2:digE L b=0:=Classical.not_not.1 c2
 split
 ·rename_i c3;exact ⟨d1.trans d3,by simp only;omega,fun e=>absurd e c3⟩
 rename_i c3
 have c3:hdigE (zmm L b) h=0:=Classical.not_not.1 c3
 have hb4:=dig_len c2
 have p1:=znO b hT
 have p2:=applyAllN b T
 have hn:((zal T b).1.map zaL).length<=16:=by rw [List.length_map];have:=p2.2;omega
 obtain ⟨r1,r2,r3,_⟩:=root_at ((zal T b).1.map zaL).length (L:=zfy (zmm L b) h) (l:=(zal T b).1.map zaL) (Nat.le_refl _) (by omega)
 have s1:=zgB (rootF (zfy (zmm L b) h) ((zal T b).1.map zaL)).2 (zgj (zal T b).2)
 have s2:=zky (rootF (zfy (zmm L b) h) ((zal T b).1.map zaL)).2 (zgj (zal T b).2)
 simp only
 split
 ·exact ⟨((d1.trans d3).trans r2).trans s1,by simp only;omega,fun e=>by simp at e⟩
 ·rename_i c4
  refine ⟨((d1.trans d3).trans r2).trans s1,by simp only;omega,fun _=>⟨⟨?_,r1.pre s1,fun p hp=>⟨p1.1 p hp,p2.1 p hp⟩,by simp only;have:=p2.2;omega⟩,?_,rfl⟩⟩
  ·have hseq:=zhR (zdx.1 c0) h.seq (by simp [zrB])
   have g1:zdB (h.seq+1)=true:=zfM.2 (by omega)
   have g2:zdB (zmg (zmm L b) h)=true:=by
    rw [zmg,if_neg (by simp [c0])]
    have:=zyi (L:=zmm L b) (b:=zpI h) (by omega)
    exact zfM.2 (by omega)
   have g3:zdB (digD L b)=true:=by
    have hcb:¬ zad b≠0:=fun hc=>by rw [digE,if_pos hc] at c2;exact hc c2
    rw [digD,if_neg hcb]
    have:=zyi (L:=L) (b:=zlp b) (by omega)
    exact zfM.2 (by omega)
   have g4:=r1.num
   have g4':zdB (rootF (zfy (zmm L b) h) ((zal T b).1.map zaL)).1=true:=zfM.2 (by omega)
   have g5:=zyi (L:=(rootF (zfy (zmm L b) h) ((zal T b).1.map zaL)).2) (b:=zgj (zal T b).2) (by omega)
   have g5':zdB (zdX (rootF (zfy (zmm L b) h) ((zal T b).1.map zaL)).2 (zgj (zal T b).2))=true:=zfM.2 (by omega)
   simp [zla,zrB,g1,g2,g3,g4',g5']
  ·have e1:zmg (zmm L b) h=zdX (zmm L b) (zpI h):=by rw [zmg,if_neg (by simp [c0])]
   have e2:zfy (zmm L b) h=zfD (zmm L b) (zpI h):=by rw [zfy,if_neg (by simp [c0])]
   have n0:zdX (zmm L b) (zpI h)≠0:=zug (by omega)
   show zho _ (zpI h) (zmg (zmm L b) h)
   rw [e1]
   have:=zuf n0
   rw [← e2] at this
   exact this.pre (r2.trans s1)
theorem signL_mem' {G:List zR} {s x:zR} (h:x∈zmV G s):x∈G∨x=s:=by
 unfold zmV at h
 split at h
 ·exact .inl h
 ·rcases List.mem_append.1 h with h|h
  ·exact .inl h
  ·exact .inr (by simpa using h)
theorem zul (G:List zR) (s:zR):∀ x∈G,x∈zmV G s:=fun x hx=>by
 unfold zmV
 split
 ·exact hx
 ·exact List.mem_append_left _ hx
theorem zwL (G:List zR) (s:zR):s∈zmV G s:=by
 unfold zmV
 split
 ·assumption
 ·simp
theorem signG_mem' {G:List zR} {k d:Int} {x:zR} (h:x∈zgy G k d):x∈G∨(x=⟨k,d⟩/\zfb k d=0):=by
 unfold zgy at h
 split at h
 ·rename_i e
  rcases signL_mem' h with h|h
  ·exact .inl h
  ·exact .inr ⟨h,e⟩
 ·exact .inl h
theorem signG_sub (G:List zR) (k d:Int):∀ x∈G,x∈zgy G k d:=fun x hx=>by
 unfold zgy
 split
 ·exact zul _ _ x hx
 ·exact hx
theorem keyF_sign' {c d:Int} (h:zfb (keyF c) d=0):13<=keyF c:=by
 unfold zfb at h
 unfold keyF at h ⊢
 split
 ·rename_i e;rw [if_pos e] at h;simp at h
 ·omega
theorem seHist:∀ (l:List zt) (s:List (List UInt8) × List zR × List zt),s.1 <+: (l.foldl seR s).1/\(l.foldl seR s).1.length<=s.1.length+l.length/\(∀ x∈(l.foldl seR s).2.1,x∈s.2.1∨13<=x.key)/\(∀ x∈s.2.1,x∈(l.foldl seR s).2.1)
 | [],s=>⟨List.prefix_refl _,by simp,fun x h => .inl h,fun x h=>h⟩
 | r::l,s=>by
  obtain ⟨h1,h2,h3,h4⟩:=seHist l (seR s r)
  have g1:s.1 <+: (seR s r).1/\(seR s r).1.length<=s.1.length+1:=by
   simp only [seR,zrK]
   split
   ·exact ⟨List.prefix_refl _,by omega⟩
   ·exact ⟨zgB ..,zky ..⟩
  have g2:∀ x∈(seR s r).2.1,x∈s.2.1∨13<=x.key:=fun x hx=>by
   simp only [seR,zum] at hx
   split at hx
   ·exact .inl hx
   ·rcases signG_mem' hx with hx|⟨rfl,e⟩
    ·exact .inl hx
    ·exact .inr (keyF_sign' e)
  have g3:∀ x∈s.2.1,x∈(seR s r).2.1:=fun x hx=>by
   simp only [seR,zum]
   split
   ·exact hx
   ·exact signG_sub _ _ _ x hx
  refine ⟨g1.1.trans h1,?_,fun x hx => ?_,fun x hx=>h4 x (g3 x hx)⟩
  ·simp only [List.foldl_cons,List.length_cons];omega
  ·rcases h3 x hx with hx|hx
   ·exact g2 x hx
   ·exact .inr hx
theorem voHist {seq d:Int} (hm:zse 6 0 seq d=true):∀ (ks:List Int) (s:List (List UInt8) × List zR × List zR),(∀ k∈ks, 0<=k/\k<13)->s.1.length<1048576->∀ v,zho s.1 (zgA 6 0 seq d) v →
  (ks.foldl (voR seq d) s).1=s.1/\(∀ x∈(ks.foldl (voR seq d) s).2.1,x∈s.2.1∨x.dig=v)/\(∀ x∈s.2.1,x∈(ks.foldl (voR seq d) s).2.1)/\(ks.foldl (voR seq d) s).2.2=s.2.2++ks.map (fun k=>⟨k,v⟩)/\∀ k∈ks,(⟨k,v⟩:zR)∈(ks.foldl (voR seq d) s).2.1
 | [],s,_,_,v,_=>⟨rfl,fun x h => .inl h,fun x h=>h,by simp,by simp⟩
 | k::ks,s,hk,hl,v,hv=>by
  obtain ⟨e1,e2⟩:=hv.sum
  have v1:=hv.pos
  have k1:=hk k (by simp)
  have sf:zfb k v=0:=by rw [zfb,if_neg (by omega),if_neg (by omega)]
  have sr:signR k v=⟨k,v⟩:=by rw [signR,if_pos sf]
  have n0:¬ zdX s.1 (zgA 6 0 seq d)=0:=by rw [e1];omega
  have g1:(voR seq d s k).1=s.1:=by simp only [voR,votL,if_pos hm,e2]
  have g2:(voR seq d s k).2.1=zmV s.2.1 ⟨k,v⟩:=by
   simp only [voR,votG,if_pos hm,sgnG]
   rw [if_neg n0,e1,zgy,if_pos sf]
  have g3:(voR seq d s k).2.2=s.2.2++[⟨k,v⟩]:=by
   simp only [voR,votE,votS,if_pos hm,sgnE,sgnS]
   rw [if_neg n0,if_neg n0,e1,if_pos sf,sr]
  obtain ⟨h1,h2,h3,h4,h5⟩:=voHist hm ks (voR seq d s k) (fun j hj=>hk j (by simp [hj])) (by rw [g1];exact hl) v (by rw [g1];exact hv)
  refine ⟨h1.trans g1,fun x hx => ?_,fun x hx=>h3 x (by rw [g2];exact zul _ _ x hx),?_,fun j hj => ?_⟩
  ·rcases h2 x hx with hx|hx
   ·rw [g2] at hx
    rcases signL_mem' hx with hx|rfl
    ·exact .inl hx
    ·exact .inr rfl
   ·exact .inr hx
  ·simp only [List.foldl_cons,List.map_cons]
   rw [h4,g3];simp
  ·rcases List.mem_cons.1 hj with rfl|hj
   ·exact h3 _ (by rw [g2];exact zwL _ _)
   ·exact h5 j hj
theorem voHist0 {seq d:Int} (hm:zse 6 0 seq d=true) (ks:List Int) (s:List (List UInt8) × List zR × List zR) (hk:∀ k∈ks, 0<=k/\k<13) (hl:s.1.length+1<1048576) :
  ∃ v,s.1 <+: (ks.foldl (voR seq d) s).1/\(ks.foldl (voR seq d) s).1.length<=s.1.length+1/\(∀ x∈(ks.foldl (voR seq d) s).2.1,x∈s.2.1∨(x.dig=v/\zho (ks.foldl (voR seq d) s).1 (zgA 6 0 seq d) v)) ∧
   (∀ x∈s.2.1,x∈(ks.foldl (voR seq d) s).2.1)/\(ks.foldl (voR seq d) s).2.2=s.2.2++ks.map (fun k=>⟨k,v⟩)/\∀ k∈ks,(⟨k,v⟩:zR)∈(ks.foldl (voR seq d) s).2.1/\zho (ks.foldl (voR seq d) s).1 (zgA 6 0 seq d) v:=by
 cases ks with
 | nil=>exact ⟨0,List.prefix_refl _,by simp,fun x h => .inl h,fun x h=>h,by simp,by simp⟩
 | cons k ks=>
  have n0:zdX s.1 (zgA 6 0 seq d)≠0:=zug (by omega)
  have hv:=zuf n0
  obtain ⟨v,hve⟩:∃ v,zdX s.1 (zgA 6 0 seq d)=v:=⟨_,rfl⟩
  rw [hve] at hv n0
  have hle:=zky s.1 (zgA 6 0 seq d)
  have v1:=hv.pos
  have k1:=hk k (by simp)
  have sf:zfb k v=0:=by rw [zfb,if_neg (by omega),if_neg (by omega)]
  have sr:signR k v=⟨k,v⟩:=by rw [signR,if_pos sf]
  have g1:(voR seq d s k).1=zfD s.1 (zgA 6 0 seq d):=by simp only [voR,votL,if_pos hm]
  have g2:(voR seq d s k).2.1=zmV s.2.1 ⟨k,v⟩:=by
   simp only [voR,votG,if_pos hm,sgnG,hve]
   rw [if_neg n0,zgy,if_pos sf]
  have g3:(voR seq d s k).2.2=s.2.2++[⟨k,v⟩]:=by
   simp only [voR,votE,votS,if_pos hm,sgnE,sgnS,hve]
   rw [if_neg n0,if_neg n0,if_pos sf,sr]
  obtain ⟨h1,h2,h3,h4,h5⟩:=voHist hm ks (voR seq d s k) (fun j hj=>hk j (by simp [hj])) (by rw [g1];omega) v (by rw [g1];exact hv)
  have hE:zho ((k::ks).foldl (voR seq d) s).1 (zgA 6 0 seq d) v:=by rw [List.foldl_cons,h1,g1];exact hv
  refine ⟨v,?_,?_,fun x hx => ?_,fun x hx=>h3 x (by rw [g2];exact zul _ _ x hx),?_,fun j hj=>⟨?_,hE⟩⟩
  ·rw [List.foldl_cons,h1,g1];exact zgB ..
  ·rw [List.foldl_cons,h1,g1];exact hle
  ·rcases h2 x hx with hx|hx
   ·rw [g2] at hx
    rcases signL_mem' hx with hx|rfl
    ·exact .inl hx
    ·exact .inr ⟨rfl,hE⟩
   ·exact .inr ⟨hx,hE⟩
  ·rw [List.foldl_cons,h4,g3];simp
  ·rcases List.mem_cons.1 hj with rfl|hj
   ·exact h3 _ (by rw [g2];exact zwL _ _)
   ·exact h5 j hj
structure CrtI (ks:List Int) (L:List (List UInt8)) (G:List zR) (bs:List zbL) (c:zeX):Prop where
 blk:∃ b∈bs,c.seq=b.header.seq/\zho L (zpI b.header) c.dig
 four:c.seq.tmod 4=0
 sgs:∃ v,c.signs=ks.map (fun k=>⟨k,v⟩)/\∀ k∈ks,(⟨k,v⟩:zR)∈G/\zho L (zgA 6 0 c.seq c.dig) v
theorem CrtI.pre {ks:List Int} {L L':List (List UInt8)} {G G':List zR} {bs bs':List zbL} {c:zeX} (h:CrtI ks L G bs c) (hp:L <+: L') (hg:∀ x∈G,x∈G') (hb:∀ x∈bs,x∈bs'):CrtI ks L' G' bs' c:=by
 obtain ⟨⟨b,h1,h2,h3⟩,h4,v,h5,h6⟩:=h
 exact ⟨⟨b,hb b h1,h2,h3.pre hp⟩,h4,v,h5,fun k hk=>⟨hg _ (h6 k hk).1,(h6 k hk).2.pre hp⟩⟩
structure zjY (ks:List Int) (g:zdl) (s:zaW):Prop where
 ch:ChI s.L g s.bs
 blk:∀ b∈s.bs,BlkI s.L b
 last:s.h=lastH g s.bs
 crt:∀ c∈s.cs,CrtI ks s.L s.G s.bs c
 sg:∀ x∈s.G, 13<=x.key∨∃ c∈s.cs,zho s.L (zgA 6 0 c.seq c.dig) x.dig
theorem hist0 (ks:List Int):zjY ks st0.h st0:=⟨trivial,by simp [st0],rfl,by simp [st0],by simp [st0]⟩
theorem st0_len:st0.L.length=2:=by decide +kernel
theorem memF_rng (s:Nat):∀ k∈memF s, 0<=k/\k<13:=fun k hk=>by
 simp only [memF,memN,List.mem_filter] at hk
 exact inF_range hk.2
end Go.Proofs.YtfgbofkdhfjegaaGreat

/- Two quorums have one that is not faulty; a vote's bytes say what it is. No program in sight. -/
namespace Go.AW
end Go.AW

/- What is taken as proved was put: where all but f have signed checkpoints of these blocks alone. No program in sight. -/
set_option maxRecDepth 100000
namespace Go.Proofs.YtfgbofkdhfjegaaGreat
open Go.AW
def zwR (T:zcf):List (List UInt8):=T.l.map zdh.name
structure ApU (T T':zcf) (P:List zbi):Prop where
 nd:(zwR T').Nodup
 mono:∀ x∈T.l, ∃ x' ∈ T'.l,x'.name=x.name/\x.next<=x'.next
 old:∀ p∈P, ∃ x' ∈ T'.l,x'.name=p.topic/\p.offset<x'.next
 new:∀ p∈P, ∀ x∈T.l,x.name=p.topic->x.next<=p.offset
theorem ApU.trans {T T1 T2:zcf} {P Q:List zbi} (h:ApU T T1 P) (g:ApU T1 T2 Q):ApU T T2 (P++Q):=by
 refine ⟨g.nd,fun x hx => ?_,fun p hp => ?_,fun p hp x hx hn => ?_⟩
 ·obtain ⟨y,h1,h2,h3⟩:=h.mono x hx
  obtain ⟨z,g1,g2,g3⟩:=g.mono y h1
  exact ⟨z,g1,g2.trans h2,Int.le_trans h3 g3⟩
 ·rcases List.mem_append.1 hp with hp|hp
  ·obtain ⟨y,h1,h2,h3⟩:=h.old p hp
   obtain ⟨z,g1,g2,g3⟩:=g.mono y h1
   exact ⟨z,g1,g2.trans h2,by omega⟩
  ·exact g.old p hp
 ·rcases List.mem_append.1 hp with hp|hp
  ·exact h.new p hp x hx hn
  ·obtain ⟨y,h1,h2,h3⟩:=h.mono x hx
   have:=g.new p hp y h1 (h2.trans hn)
   omega
theorem ApU.set {T:zcf} {i:Nat} {x x':zdh} (h:(zwR T).Nodup) (hx:T.l[i]? = some x) (hn:x'.name=x.name) (hx':x.next<=x'.next) (la:List (Int × Int × Int)):ApU T ⟨T.l.set i x',la⟩ []:=by
 have hi:=(List.getElem?_eq_some_iff.1 hx).1
 refine ⟨?_,fun y hy => ?_,by simp,by simp⟩
 ·have:zwR ⟨T.l.set i x',la⟩=zwR T:=by
   simp only [zwR,List.map_set]
   rw [hn]
   have hg:(T.l.map zdh.name)[i]? = some x.name:=by rw [List.getElem?_map,hx];rfl
   exact zbF hg
  rw [this];exact h
 ·obtain ⟨j,hj,rfl⟩:=List.mem_iff_getElem.1 hy
  by_cases e:i=j
  ·subst e
   have:T.l[i]=x:=(List.getElem?_eq_some_iff.1 hx).2
   refine ⟨x',List.mem_iff_getElem.2 ⟨i,by simpa using hi,by simp⟩,by rw [hn,this],by rw [this];exact hx'⟩
  ·exact ⟨T.l[j],List.mem_iff_getElem.2 ⟨j,by simpa using hj,by simp [e]⟩,rfl,Int.le_refl _⟩
theorem ApU.last {T T':zcf} {P:List zbi} (h:ApU T T' P) (la:List (Int × Int × Int)):ApU T { T' with last:=la } P:=⟨h.nd,h.mono,h.old,h.new⟩
structure UqI (s:zaW):Prop where
 nd:(zwR s.T).Nodup
 old:∀ b∈s.bs, ∀ p∈b.placed, ∃ x∈s.T.l,x.name=p.topic/\p.offset<x.next
 one:∀ (i j:Nat) (a b:zbL),s.bs[i]? = some a->s.bs[j]? = some b->∀ p∈a.placed, ∀ q∈b.placed,p.topic=q.topic->p.offset=q.offset->i=j
theorem plAt_is {t:List UInt8} {o:Int}:∀ {l:List zbi} {i k:Nat},plAt t o l i=some k->∃ r,l[k-i]? = some r/\r.topic=t/\r.offset=o
 | [],_,_,h=>by simp [plAt] at h
 | p::l,i,k,h=>by
  simp only [plAt] at h
  split at h
  ·rename_i hp
   cases h
   simp only [isP,Bool.and_eq_true,beq_iff_eq] at hp
   exact ⟨p,by simp,hp⟩
  ·have h1:=(plAt_lt h).1
   obtain ⟨r,h2,h3⟩:=plAt_is h
   exact ⟨r,by rw [show k-i=(k-(i+1))+1 by omega];simpa using h2,h3⟩
theorem findB_is {t:List UInt8} {o:Int}:∀ {l:List zbL} {i j k:Nat},zpL t o l i=some (j,k)->∃ b r,l[j-i]? = some b/\i<=j/\b.placed[k]? = some r/\r.topic=t/\r.offset=o
 | [],_,_,_,h=>by simp [zpL] at h
 | c::l,i,j,k,h=>by
  simp only [zpL] at h
  split at h
  ·rename_i k' hk
   simp only [Option.some.injEq,Prod.mk.injEq] at h
   obtain ⟨rfl,rfl⟩:=h
   obtain ⟨r,h1,h2⟩:=plAt_is hk
   exact ⟨c,r,by simp,Nat.le_refl _,by simpa using h1,h2⟩
  ·obtain ⟨b,r,h1,h2,h3⟩:=findB_is h
   exact ⟨b,r,by rw [show j-i=(j-(i+1))+1 by omega];simpa using h1,by omega,h3⟩
end Go.Proofs.YtfgbofkdhfjegaaGreat

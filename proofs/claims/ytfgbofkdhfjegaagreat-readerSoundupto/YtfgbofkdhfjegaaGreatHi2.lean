/- The history of a beginning, round by round. No program in sight. -/
import Derived.Test.YtfgbofkdhfjegaaGreatSpRoot
import Derived.Test.YtfgbofkdhfjegaaGreatSpBulk
import Derived.Test.YtfgbofkdhfjegaaGreatMk2
import Derived.Test.YtfgbofkdhfjegaaGreatSpUtf
import Derived.Test.YtfgbofkdhfjegaaGreatCk1
set_option linter.all false
set_option maxRecDepth 100000
namespace Go.Proofs.YtfgbofkdhfjegaaGreat
open Go.AW
theorem voHist0 {seq d:Int} (hm:znZ 6 0 seq d=true) (ks:List Int) (s:List (List UInt8) × List zI × List zI) (hk:∀ k∈ks, 0<=k/\k<13) (hl:s.1.length+1<1048576) :
  ∃ v,s.1 <+: (ks.foldl (voR seq d) s).1/\(ks.foldl (voR seq d) s).1.length<=s.1.length+1/\(∀ x∈(ks.foldl (voR seq d) s).2.1,x∈s.2.1∨(x.dig=v/\zeS (ks.foldl (voR seq d) s).1 (zeu 6 0 seq d) v)) ∧
   (∀ x∈s.2.1,x∈(ks.foldl (voR seq d) s).2.1)/\(ks.foldl (voR seq d) s).2.2=s.2.2++ks.map (fun k=>⟨k,v⟩)/\∀ k∈ks,(⟨k,v⟩:zI)∈(ks.foldl (voR seq d) s).2.1/\zeS (ks.foldl (voR seq d) s).1 (zeu 6 0 seq d) v:=by
 cases ks with
 | nil=>exact ⟨0,List.prefix_refl _,by simp,fun x h => .inl h,fun x h=>h,by simp,by simp⟩
 | cons k ks=>
  have n0:zdy s.1 (zeu 6 0 seq d)≠0:=zrX (by omega)
  have hv:=zrW n0
  obtain ⟨v,hve⟩:∃ v,zdy s.1 (zeu 6 0 seq d)=v:=⟨_,rfl⟩
  rw [hve] at hv n0
  have hle:=zjw s.1 (zeu 6 0 seq d)
  have v1:=hv.pos
  have k1:=hk k (by simp)
  have sf:zei k v=0:=by rw [zei,if_neg (by omega),if_neg (by omega)]
  have sr:signR k v=⟨k,v⟩:=by rw [signR,if_pos sf]
  have g1:(voR seq d s k).1=zeJ s.1 (zeu 6 0 seq d):=by simp only [voR,votL,if_pos hm]
  have g2:(voR seq d s k).2.1=zlA s.2.1 ⟨k,v⟩:=by
   simp only [voR,votG,if_pos hm,sgnG,hve]
   rw [if_neg n0,zfz,if_pos sf]
  have g3:(voR seq d s k).2.2=s.2.2++[⟨k,v⟩]:=by
   simp only [voR,votE,votS,if_pos hm,sgnE,sgnS,hve]
   rw [if_neg n0,if_neg n0,if_pos sf,sr]
  obtain ⟨h1,h2,h3,h4,h5⟩:=voHist hm ks (voR seq d s k) (fun j hj=>hk j (by simp [hj])) (by rw [g1];omega) v (by rw [g1];exact hv)
  have hE:zeS ((k::ks).foldl (voR seq d) s).1 (zeu 6 0 seq d) v:=by rw [List.foldl_cons,h1,g1];exact hv
  refine ⟨v,?_,?_,fun x hx => ?_,fun x hx=>h3 x (by rw [g2];exact zsc _ _ x hx),?_,fun j hj=>⟨?_,hE⟩⟩
  ·rw [List.foldl_cons,h1,g1];exact zfQ ..
  ·rw [List.foldl_cons,h1,g1];exact hle
  ·rcases h2 x hx with hx|hx
   ·rw [g2] at hx
    rcases signL_mem' hx with hx|rfl
    ·exact .inl hx
    ·exact .inr ⟨rfl,hE⟩
   ·exact .inr ⟨hx,hE⟩
  ·rw [List.foldl_cons,h4,g3];simp
  ·rcases List.mem_cons.1 hj with rfl|hj
   ·exact h3 _ (by rw [g2];exact zur _ _)
   ·exact h5 j hj
structure CrtI (ks:List Int) (L:List (List UInt8)) (G:List zI) (bs:List zbc) (c:zfa):Prop where
 blk:∃ b∈bs,c.seq=b.header.seq/\zeS L (zmR b.header) c.dig
 four:c.seq.tmod 4=0
 sgs:∃ v,c.signs=ks.map (fun k=>⟨k,v⟩)/\∀ k∈ks,(⟨k,v⟩:zI)∈G/\zeS L (zeu 6 0 c.seq c.dig) v
theorem CrtI.pre {ks:List Int} {L L':List (List UInt8)} {G G':List zI} {bs bs':List zbc} {c:zfa} (h:CrtI ks L G bs c) (hp:L <+: L') (hg:∀ x∈G,x∈G') (hb:∀ x∈bs,x∈bs'):CrtI ks L' G' bs' c:=by
 obtain ⟨⟨b,h1,h2,h3⟩,h4,v,h5,h6⟩:=h
 exact ⟨⟨b,hb b h1,h2,h3.pre hp⟩,h4,v,h5,fun k hk=>⟨hg _ (h6 k hk).1,(h6 k hk).2.pre hp⟩⟩
structure zhU (ks:List Int) (g:zcF) (s:zaE):Prop where
 ch:ChI s.L g s.bs
 blk:∀ b∈s.bs,BlkI s.L b
 last:s.h=lastH g s.bs
 crt:∀ c∈s.cs,CrtI ks s.L s.G s.bs c
 sg:∀ x∈s.G, 13<=x.key∨∃ c∈s.cs,zeS s.L (zeu 6 0 c.seq c.dig) x.dig
theorem hist0 (ks:List Int):zhU ks st0.h st0:=⟨trivial,by simp [st0],rfl,by simp [st0],by simp [st0]⟩
theorem st0_len:st0.L.length=2:=by decide +kernel
theorem st0_h:st0.h.seq=0/\zgC st0.h=true:=by decide +kernel
theorem memF_rng (s:Nat):∀ k∈memF s, 0<=k/\k<13:=fun k hk=>by
 simp only [memF,memN,List.mem_filter] at hk
 exact zsA hk.2
end Go.Proofs.YtfgbofkdhfjegaaGreat

/- Two quorums have one that is not faulty; a vote's bytes say what it is. No program in sight. -/
namespace Go.AW
theorem znT:∀ (n:Nat) (A:List Int),A.Nodup->(∀ x∈A, 0<=x/\x<n)->A.length<=(zgj n).countP (fun i=>decide (i∈A))
 | 0,A,_,h=>by
  cases A with
  | nil=>simp
  | cons x A=>have:=h x (by simp);omega
 | n+1,A,hA,h=>by
  have hE:(A.erase (n:Int)).Nodup:=hA.erase _
  have ih:=znT n (A.erase (n:Int)) hE fun x hx=>by
   have:=(List.Nodup.mem_erase_iff hA).1 hx
   have:=h x this.2
   omega
  have hm:(zgj n).countP (fun i=>decide (i∈A.erase (n:Int)))<=(zgj n).countP (fun i=>decide (i∈A)):=
   List.countP_mono_left fun x hx hp=>by
    have hp:x∈A.erase (n:Int):=by simpa using hp
    simpa using List.mem_of_mem_erase hp
  rw [zpO,List.countP_append]
  by_cases hn:(n:Int)∈A
  ·have e : [(n:Int)].countP (fun i=>decide (i∈A))=1:=by simp [List.countP_cons,hn]
   have l:=List.length_erase_of_mem hn
   have:0<A.length:=List.length_pos_of_mem hn
   omega
  ·rw [List.erase_of_not_mem hn] at ih hm
   omega
theorem count_two {α:Type} (a b c : α->Bool):∀ (R:List α),(∀ i∈R,a i=true->b i=true->c i=true)->R.countP a+R.countP b<=R.length+R.countP c
 | [],_=>by simp
 | x::R,h=>by
  have ih:=count_two a b c R fun i hi=>h i (by simp [hi])
  have hx:=h x (by simp)
  simp only [List.countP_cons,List.length_cons]
  cases ha:a x<;>cases hb:b x<;>cases hc:c x<;>simp_all<;>omega
theorem quo_meet {f:Nat} {A B:List Int} {bad:Int->Bool} (hA:A.Nodup) (hB:B.Nodup) (rA:∀ x∈A, 0<=x/\x<((3*f+1:Nat):Int)) (rB:∀ x∈B, 0<=x/\x<((3*f+1:Nat):Int))
  (lA:2*f+1<=A.length) (lB:2*f+1<=B.length) (hf:(zgj (3*f+1)).countP bad<=f):∃ k,k∈A/\k∈B/\bad k=false:=by
 rcases Classical.em (∃ k,k∈A/\k∈B/\bad k=false) with h|h
 ·exact h
 ·exfalso
  have h1:=znT _ A hA rA
  have h2:=znT _ B hB rB
  have h3:=count_two (fun i=>decide (i∈A)) (fun i=>decide (i∈B)) bad (zgj (3*f+1)) fun i _ ha hb=>by
   cases hc:bad i with
   | true=>rfl
   | false=>exact absurd ⟨i,by simpa using ha,by simpa using hb,hc⟩ h
  have h4:(zgj (3*f+1)).length=3*f+1:=by simp [zgj]
  omega
theorem zgQ {x:Int} (h:zdd x=true):0<=x/\x.toNat<18446744073709551616:=by
 have:=zdT.1 h
 omega
theorem voteB_inj {a b c d a' b' c' d':Int} (h:znZ a b c d=true) (h':znZ a' b' c' d' = true) (e:zeu a b c d=zeu a' b' c' d'):a=a' ∧ b=b' ∧ c=c' ∧ d=d':=by
 simp only [znZ,Bool.and_eq_true] at h h'
 obtain ⟨h1,h2,h3,h4⟩:=h
 obtain ⟨g1,g2,g3,g4⟩:=h'
 have q1:=zgQ h1;have q2:=zgQ h2;have q3:=zgQ h3;have q4:=zgQ h4
 have p1:=zgQ g1;have p2:=zgQ g2;have p3:=zgQ g3;have p4:=zgQ g4
 simp only [zeu,zgP,List.map_cons,List.map_nil,List.flatten_cons,List.flatten_nil,List.append_nil,List.cons.injEq,true_and] at e
 obtain ⟨e1,e⟩:=zdG q1.2 p1.2 e
 obtain ⟨e2,e⟩:=zdG q2.2 p2.2 e
 obtain ⟨e3,e⟩:=zdG q3.2 p3.2 e
 have e':zcu d.toNat++[]=zcu d'.toNat++[]:=by simpa using e
 obtain ⟨e4,_⟩:=zdG q4.2 p4.2 e'
 omega
end Go.AW

/- What is taken as proved was put: where all but f have signed checkpoints of these blocks alone. No program in sight. -/
set_option maxRecDepth 100000
namespace Go.Proofs.YtfgbofkdhfjegaaGreat
open Go.AW
theorem fstE_all:∀ {l:List Int},zcC l=0->∀ e∈l,e=0
 | [],_,e,h=>by cases h
 | x::r,h,e,he=>by
  simp only [zcC] at h
  split at h
  ·rename_i hx;exact absurd h hx
  ·rename_i hx
   rcases List.mem_cons.1 he with rfl|he
   ·exact Classical.not_not.1 hx
   ·exact fstE_all h e he
theorem zvX {a b:zcF} (ha:zgC a=true) (hb:zgC b=true) (h:zmR a=zmR b):a=b:=by
 have ra:=zeo ha;have rb:=zeo hb
 simp only [zmR,zkz,zgP,List.map_cons,List.map_nil,List.flatten_cons,List.flatten_nil,List.append_nil,List.cons.injEq,true_and] at h
 have a1:=ra a.seq (by simp [zkz]);have a2:=ra a.prev (by simp [zkz]);have a3:=ra a.batch (by simp [zkz]);have a4:=ra a.root (by simp [zkz]);have a5:=ra a.state (by simp [zkz])
 have b1:=rb b.seq (by simp [zkz]);have b2:=rb b.prev (by simp [zkz]);have b3:=rb b.batch (by simp [zkz]);have b4:=rb b.root (by simp [zkz]);have b5:=rb b.state (by simp [zkz])
 obtain ⟨e1,h⟩:=zdG (by omega) (by omega) h
 obtain ⟨e2,h⟩:=zdG (by omega) (by omega) h
 obtain ⟨e3,h⟩:=zdG (by omega) (by omega) h
 obtain ⟨e4,h⟩:=zdG (by omega) (by omega) h
 have h':zcu a.state.toNat++[]=zcu b.state.toNat++[]:=by simpa using h
 obtain ⟨e5,_⟩:=zdG (by omega) (by omega) h'
 obtain ⟨x1,x2,x3,x4,x5⟩:=a
 obtain ⟨y1,y2,y3,y4,y5⟩:=b
 simp only at *
 simp only [zcF.mk.injEq]
 omega
theorem placedB_inj {a b:zaI} (ha:a.topic.length<=16777216/\a.rec_.length<=16777216/\0<=a.offset/\a.offset<=9007199254740992) (hb:b.topic.length<=16777216/\b.rec_.length<=16777216/\0<=b.offset/\b.offset<=9007199254740992) (h:zaz a=zaz b):a=b:=by
 simp only [zaz] at h
 obtain ⟨e1,h⟩:=putB_pre (by omega) (by omega) h
 obtain ⟨e2,h⟩:=zdG (by omega) (by omega) h
 have h':zmJ a.rec_++[]=zmJ b.rec_++[]:=by simpa using h
 obtain ⟨e3,_⟩:=putB_pre (by omega) (by omega) h'
 obtain ⟨x1,x2,x3⟩:=a
 obtain ⟨y1,y2,y3⟩:=b
 simp only at *
 simp only [zaI.mk.injEq]
 exact ⟨e1,by omega,e3⟩
theorem ChI_mem {L:List (List UInt8)}:∀ {bs:List zbc} {g:zcF} {b:zbc},ChI L g bs->b∈bs->∃ q,(q=g∨∃ b' ∈ bs,q=b'.header)/\LinkI L q b.header
 | c::r,g,b,h,hb=>by
  rcases List.mem_cons.1 hb with rfl|hb
  ·exact ⟨g,.inl rfl,h.1⟩
  ·obtain ⟨q,h1,h2⟩:=ChI_mem h.2 hb
   refine ⟨q,.inr ?_,h2⟩
   rcases h1 with rfl|⟨b',h3,h4⟩
   ·exact ⟨c,by simp,rfl⟩
   ·exact ⟨b',List.mem_cons_of_mem _ h3,h4⟩
theorem link_num {L:List (List UInt8)} {q h:zcF} (hl:linkF L (some q) h=true):zeS L (zmR q) h.prev/\h.seq=q.seq+1:=by
 simp only [linkF] at hl
 split at hl
 ·rename_i i hi
  simp only [Bool.and_eq_true,beq_iff_eq] at hl
  exact ⟨⟨i,hi,hl.1⟩,hl.2⟩
 ·simp at hl
theorem zuW {L0 L:List (List UInt8)} {g:zcF} {bs:List zbc} (hp:L0 <+: L) (hc:ChI L0 g bs) (hg:zgC g=true) (hg0:g.seq=0) (hb:∀ b∈bs,zgC b.header=true) :
  ∀ (hs:List zcF) (q:Option zcF),zmj L q hs=true->(∀ h∈hs, 1<=h.seq)->∀ h1,hs.getLast? = some h1->(∃ b∈bs,h1=b.header)->∃ b∈bs,hs.head? = some b.header
 | [],_,_,_,h1,hl,_=>by simp at hl
 | [h],_,_,_,h1,hl,⟨b,h2,h3⟩=>by
  simp only [List.getLast?_singleton,Option.some.injEq] at hl
  exact ⟨b,h2,by rw [← h3, ← hl];rfl⟩
 | h::h2::r,q,hch,hseq,h1,hl,hb1=>by
  simp only [zmj,Bool.and_eq_true] at hch
  obtain ⟨o1,_,o2,hlk,o3⟩:=hch
  have hrest:zmj L (some h) (h2::r)=true:=by simp only [zmj,Bool.and_eq_true];exact ⟨o2,hlk,o3⟩
  obtain ⟨b,hbm,hbe⟩:=zuW hp hc hg hg0 hb (h2::r) (some h) hrest (fun x hx=>hseq x (List.mem_cons_of_mem _ hx)) h1 (by rw [← hl,List.getLast?_cons_cons]) hb1
  simp only [List.head?_cons,Option.some.injEq] at hbe
  obtain ⟨n1,_⟩:=link_num hlk
  obtain ⟨q',hq,n2,_⟩:=ChI_mem hc hbm
  rw [hbe] at n1
  have e:=n1.inj (n2.pre hp)
  rcases hq with rfl|⟨b',h3,rfl⟩
  ·have:=zvX o1 hg e
   have h5:=hseq h (by simp)
   rw [this,hg0] at h5
   omega
  ·exact ⟨b',h3,by rw [zvX o1 (hb b' h3) e];rfl⟩
theorem zuA {f seq d:Int}:∀ {l:List zI} {p:Option zI},zsp f seq d p l=true->(l.map zI.key).Nodup/\(∀ s∈l, 0<=s.key/\s.key<zda 3 f)/\∀ q,p=some q->∀ s∈l,q.key<s.key
 | [],_,_=>by simp
 | s::r,p,h=>by
  simp only [zsp,Bool.and_eq_true] at h
  obtain ⟨h1,h2,h3⟩:=h
  obtain ⟨g1,g2,g3⟩:=zuA h3
  have g3:=g3 s rfl
  have hk:0<=s.key/\s.key<zda 3 f:=by
   simp only [zqo,Bool.and_eq_true,decide_eq_true_eq] at h1
   omega
  refine ⟨?_,fun x hx => ?_,fun q hq x hx => ?_⟩
  ·rw [List.map_cons,List.nodup_cons]
   refine ⟨fun hm => ?_,g1⟩
   obtain ⟨x,hx,he⟩:=List.mem_map.1 hm
   have:=g3 x hx
   omega
  ·rcases List.mem_cons.1 hx with rfl|hx
   ·exact hk
   ·exact g2 x hx
  ·subst hq
   simp only [Bool.not_eq_true',decide_eq_false_iff_not] at h2
   rcases List.mem_cons.1 hx with rfl|hx
   ·omega
   ·have:=g3 x hx;omega
theorem one_good {f:Nat} {A:List Int} {bad:Int->Bool} (hA:A.Nodup) (rA:∀ x∈A, 0<=x/\x<((3*f+1:Nat):Int)) (lA:2*f+1<=A.length) (hf:(zgj (3*f+1)).countP bad<=f):∃ k∈A,bad k=false:=by
 obtain ⟨k,h1,_,h2⟩:=quo_meet hA hA rA rA lA lA hf
 exact ⟨k,h1,h2⟩
theorem sound_plain {ks:List Int} {g:zcF} {s:zaE} {L:List (List UInt8)} {G:List zI} {f:Int} {z:Int->Bool} {p:zbX} (h:zhU ks g s) (hg:g.seq=0/\zgC g=true) (hp:s.L <+: L) (hL:L.length<=1048576)
  (hG:∀ x∈G,x∈s.G∨z x.key=true) (h0:zcM f=0) (hz:(zgj (3*f.toNat+1)).countP z<=f.toNat) (hs:zfy p) (hv:ztT L G f p=0) :
  ∃ b∈s.bs, ∃ r∈b.placed,r=zvV p:=by
 have hf:¬ (f<1∨f > 4):=fun e=>by rw [zcM,if_pos e] at h0;simp at h0
 have hf3:zda 3 f=3*f+1:=by rw [zda,if_neg hf]
 have hf2:zda 2 f=2*f+1:=by rw [zda,if_neg hf]
 unfold ztT at hv
 rw [if_neg (by simp [h0])] at hv
 split at hv
 ·rename_i e;exact absurd hv e
 rename_i c1
 have c1:zfH p=0:=Classical.not_not.1 c1
 split at hv
 ·simp at hv
 rename_i c2
 have c2:zfs L p=true:=by simpa using c2
 split at hv
 ·simp at hv
 rename_i c3
 have c3:zth L G f p.cert=true:=by simpa using c3
 split at hv
 ·simp at hv
 rename_i c4
 have c4:zia L (rootP p) (zaz (zvV p)) p.index p.count p.path=true:=by simpa using c4
 -- the chain
 unfold zfs at c2
 split at c2
 ·simp at c2
 rename_i h1 hlast
 simp only [Bool.and_eq_true] at c2
 obtain ⟨hch,hlf⟩:=c2
 unfold lastF at hlf
 split at hlf
 rotate_left
 ·simp at hlf
 rename_i i1 hi1
 simp only [Bool.and_eq_true,beq_iff_eq] at hlf
 have n1:zeS L (zmR h1) p.cert.dig:=⟨i1,hi1,hlf.1.symm⟩
 -- the certificate
 simp only [zth,Bool.and_eq_true,List.all_eq_true] at c3
 obtain ⟨_,hmc,hall⟩:=c3
 simp only [zhN,Bool.or_eq_true,Bool.and_eq_true,decide_eq_true_eq] at hmc
 have hmc:(p.cert.signs.length:Int)≥zda 2 f/\zsp f p.cert.seq p.cert.dig none p.cert.signs=true:=by
  rcases hmc with hz0|hmc
  ·simp only [zeroC,Bool.and_eq_true,beq_iff_eq] at hz0
   have:=n1.pos
   omega
  ·exact hmc
 obtain ⟨k1,k2,_⟩:=zuA hmc.2
 obtain ⟨k,hk,hkz⟩:=one_good (f:=f.toNat) (A:=p.cert.signs.map zI.key) (bad:=z) k1 (fun x hx=>by
  obtain ⟨y,hy,rfl⟩:=List.mem_map.1 hx
  have:=k2 y hy;omega) (by rw [List.length_map];omega) hz
 obtain ⟨x,hx,rfl⟩:=List.mem_map.1 hk
 have hxk:=k2 x hx
 have hvx:=hall x hx
 simp only [zqJ,Bool.and_eq_true] at hvx
 obtain ⟨hmay,hsg⟩:=hvx
 unfold zlM at hsg
 split at hsg
 rotate_left
 ·simp at hsg
 rename_i i2 hi2
 simp only [Bool.and_eq_true,decide_eq_true_eq] at hsg
 have n2:zeS L (zeu 6 0 p.cert.seq p.cert.dig) x.dig:=⟨i2,hi2,hsg.1.2⟩
 have hxG:x∈s.G:=by
  rcases hG x hsg.2 with e|e
  ·exact e
  ·rw [hkz] at e;cases e
 obtain ⟨c,hc,n3⟩:∃ c∈s.cs,zeS s.L (zeu 6 0 c.seq c.dig) x.dig:=by
  rcases h.sg x hxG with e|e
  ·omega
  ·exact e
 obtain ⟨⟨b1,hb1,hcs,n4⟩,_,_⟩:=h.crt c hc
 have hcp:=n4.pos
 have hple:=hp.length_le
 have hbs:=zeo (h.blk b1 hb1).ok b1.header.seq (by simp [zkz])
 have hmayc:znZ 6 0 c.seq c.dig=true:=by
  simp only [znZ,Bool.and_eq_true,zdT];omega
 obtain ⟨_,_,e1,e2⟩:=voteB_inj hmayc hmay ((n3.pre hp).inj n2)
 rw [← e2] at n1
 have hd:=n1.inj (n4.pre hp)
 have hoks:=ztg hch
 have hh1:h1∈p.headers:=List.mem_of_getLast? hlast
 have hhb:=zvX (hoks h1 hh1) (h.blk b1 hb1).ok hd
 -- what the asking says
 have hall0:=fstE_all c1
 have hpos:∀ x∈p.headers, 1<=x.seq:=fun x hx=>by
  have:zuv x.seq=0:=hall0 _ (by
   simp only [zgG,List.mem_append]
   refine .inr (.inl (List.mem_flatten.2 ⟨zho x,List.mem_map.2 ⟨x,hx,rfl⟩,by simp [zho]⟩)))
  exact (inE_0 this).1
 have hoff:0<=p.offset/\p.offset<=9007199254740992:=numE_0 (hall0 _ (by simp [zgG,zeR]))
 obtain ⟨b,hb,hbh⟩:=zuW hp h.ch hg.2 hg.1 (fun b hb=>(h.blk b hb).ok) p.headers none hch hpos h1 hlast ⟨b1,hb1,hhb⟩
 have hroot:rootP p=b.header.root:=by
  unfold rootP
  split
  ·rename_i e;rw [e] at hbh;simp at hbh
  ·rename_i x r e;rw [e] at hbh;simp only [List.head?_cons,Option.some.injEq] at hbh;rw [hbh]
 have hR:=(h.blk b hb).root.pre hp
 unfold zia at c4
 split at c4
 ·simp at c4
 simp only [Bool.and_eq_true,beq_iff_eq] at c4
 rw [hroot] at c4
 have hm:=zte p.count.toNat (b:=zaz (zvV p)) (i:=p.index.toNat) (n:=p.count.toNat) (p:=p.path) hL hR (fun x hx=>by have:=(hs.paths x hx).2;omega) (Prod.ext c4.2 c4.1)
 obtain ⟨r,hr,he⟩:=List.mem_map.1 hm
 have hpl:=((h.blk b hb).pl r hr).1
 exact ⟨b,hb,r,hr,placedB_inj ⟨by have:=hpl.2.2.1;omega,by have:=hpl.2.2.2;omega,hpl.1,hpl.2.1⟩ ⟨hs.topic,hs.rec_,hoff⟩ he⟩
def zjf (T:zbn):List (List UInt8):=T.l.map zbt.name
structure ApU (T T':zbn) (P:List zaI):Prop where
 nd:(zjf T').Nodup
 mono:∀ x∈T.l, ∃ x' ∈ T'.l,x'.name=x.name/\x.next<=x'.next
 old:∀ p∈P, ∃ x' ∈ T'.l,x'.name=p.topic/\p.offset<x'.next
 new:∀ p∈P, ∀ x∈T.l,x.name=p.topic->x.next<=p.offset
theorem ApU.rfl' {T:zbn} (h:(zjf T).Nodup):ApU T T []:=⟨h,fun x hx=>⟨x,hx,rfl,Int.le_refl _⟩,by simp,by simp⟩
theorem ApU.trans {T T1 T2:zbn} {P Q:List zaI} (h:ApU T T1 P) (g:ApU T1 T2 Q):ApU T T2 (P++Q):=by
 refine ⟨g.nd,fun x hx => ?_,fun p hp => ?_,fun p hp x hx hn => ?_⟩
 ·obtain ⟨y,h1,h2,h3⟩:=h.mono x hx
  obtain ⟨z,g1,g2,g3⟩:=g.mono y h1
  exact ⟨z,g1,g2.trans h2,Int.le_trans h3 g3⟩
 ·rcases List.mem_append.1 hp with hp|hp
  ·obtain ⟨y,h1,h2,h3⟩:=h.old p hp
   obtain ⟨z,g1,g2,g3⟩:=g.mono y h1
   exact ⟨z,g1,g2.trans h2,by omega⟩
  ·exact g.old p hp
 ·rcases List.mem_append.1 hp with hp|hp
  ·exact h.new p hp x hx hn
  ·obtain ⟨y,h1,h2,h3⟩:=h.mono x hx
   have:=g.new p hp y h1 (h2.trans hn)
   omega
theorem names_one {l:List zbt} (h:(l.map zbt.name).Nodup) {x y:zbt} (hx:x∈l) (hy:y∈l) (he:x.name=y.name):x=y:=by
 obtain ⟨i,hi,rfl⟩:=List.mem_iff_getElem.1 hx
 obtain ⟨j,hj,rfl⟩:=List.mem_iff_getElem.1 hy
 have:(l.map zbt.name)[i]'(by simpa using hi)=(l.map zbt.name)[j]'(by simpa using hj):=by simpa using he
 have:=(List.getElem_inj h).1 this
 subst this;rfl
theorem ApU.set {T:zbn} {i:Nat} {x x':zbt} (h:(zjf T).Nodup) (hx:T.l[i]? = some x) (hn:x'.name=x.name) (hx':x.next<=x'.next) (la:List (Int × Int × Int)):ApU T ⟨T.l.set i x',la⟩ []:=by
 have hi:=(List.getElem?_eq_some_iff.1 hx).1
 refine ⟨?_,fun y hy => ?_,by simp,by simp⟩
 ·have:zjf ⟨T.l.set i x',la⟩=zjf T:=by
   simp only [zjf,List.map_set]
   rw [hn]
   have hg:(T.l.map zbt.name)[i]? = some x.name:=by rw [List.getElem?_map,hx];rfl
   exact zbl hg
  rw [this];exact h
 ·obtain ⟨j,hj,rfl⟩:=List.mem_iff_getElem.1 hy
  by_cases e:i=j
  ·subst e
   have:T.l[i]=x:=(List.getElem?_eq_some_iff.1 hx).2
   refine ⟨x',List.mem_iff_getElem.2 ⟨i,by simpa using hi,by simp⟩,by rw [hn,this],by rw [this];exact hx'⟩
  ·exact ⟨T.l[j],List.mem_iff_getElem.2 ⟨j,by simpa using hj,by simp [e]⟩,rfl,Int.le_refl _⟩
theorem zpY {t:List UInt8}:∀ {l:List (List UInt8)} {o:Int}, ∀ p∈zie t o l,o<=p.offset/\p.offset<o+l.length
 | [],_,p,h=>by simp [zie] at h
 | r::l,o,p,h=>by
  rcases List.mem_cons.1 h with rfl|h
  ·simp;omega
  ·have:=zpY p h
   simp only [List.length_cons];omega
theorem atF_none {n:List UInt8}:∀ {l:List zbt} {j:Nat},atF n l j=none->∀ x∈l,x.name≠n
 | [],_,_,x,hx=>by cases hx
 | y::r,j,h,x,hx=>by
  simp only [atF] at h
  split at h
  ·cases h
  ·rename_i e
   rcases List.mem_cons.1 hx with rfl|hx
   ·simpa using e
   ·exact atF_none h x hx
theorem doesU {T:zbn} (h:(zjf T).Nodup) (hI:zeZ T) (o:TOp):ApU T (zcw T o).2.2 (zcw T o).2.1:=by
 unfold zcw
 split
 ·exact .rfl' h
 rename_i hc
 have hc:zbj zdV o=0:=by simpa using hc
 obtain ⟨q1,q2,_⟩:=check0 hc
 split
 ·exact .rfl' h
 split
 ·-- a topic begins
  unfold zdu
  split
  ·exact .rfl' h
  ·rename_i hno
   have hno:atF o.topic T.l 0=none:=by simpa using hno
   split
   ·exact .rfl' h
   ·have hk:=atF_none hno
    refine ⟨?_,fun x hx => ?_,by simp,by simp⟩
    ·simp only [zjf,List.map_append,List.map_cons]
     have hp:((T.l.take (zoW o.topic T.l)).map zbt.name++o.topic::(T.l.drop (zoW o.topic T.l)).map zbt.name).Perm (o.topic::zjf T):=by
      refine List.perm_middle.trans (List.Perm.cons _ ?_)
      rw [← List.map_append,List.take_append_drop]
      exact List.Perm.refl _
     refine (List.Perm.nodup_iff hp).2 (List.nodup_cons.2 ⟨fun hm => ?_,h⟩)
     obtain ⟨x,hx,he⟩:=List.mem_map.1 hm
     exact hk x hx he
    ·refine ⟨x,?_,rfl,Int.le_refl _⟩
     simp only
     have:x∈T.l.take (zoW o.topic T.l)++T.l.drop (zoW o.topic T.l):=by rw [List.take_append_drop];exact hx
     rcases List.mem_append.1 this with hx|hx
     ·exact List.mem_append_left _ hx
     ·exact List.mem_append_right _ (List.mem_cons_of_mem _ hx)
 ·split
  ·exact .rfl' h
  ·rename_i i hi
   split
   ·exact .rfl' h
   ·rename_i x hx
    have hX:=hI.tops x (List.mem_of_getElem? hx)
    have a1:=hX.base;have a2:=hX.next
    have en:x.next=x.base+x.recs.length:=rfl
    split
    ·unfold zdb
     split
     ·exact .rfl' h
     ·have hs:=ApU.set (x':={ x with recs:=x.recs++o.recs }) h hx rfl (by simp only [zbt.next,List.length_append];omega) T.last
      refine ⟨hs.nd,hs.mono,fun p hp => ?_,fun p hp y hy hn => ?_⟩
      ·have h1:=zjd p hp
       have h2:=zpY p hp
       refine ⟨{ x with recs:=x.recs++o.recs },List.mem_iff_getElem.2 ⟨i,by simpa using (List.getElem?_eq_some_iff.1 hx).1,by simp⟩,h1.symm,?_⟩
       simp only [zbt.next,List.length_append] at h2 ⊢
       omega
      ·have h1:=zjd p hp
       have h2:=zpY p hp
       have:=names_one h hy (List.mem_of_getElem? hx) (by rw [hn,h1])
       subst this
       exact h2.1
    ·split
     ·unfold zcT
      split
      ·exact .rfl' h
      split
      ·exact .rfl' h
      ·exact ApU.set (x':={ x with groups:=x.groups.take (zrp o.group x.groups)++(o.group,o.offset)::x.groups.drop (zrp o.group x.groups+if (hadG o.group x.groups).isSome then 1 else 0) }) h hx rfl (Int.le_refl _) T.last
     ·unfold zpP
      split
      ·exact .rfl' h
      ·rename_i hb
       refine ApU.set (x':={ x with recs:=x.recs.drop (o.offset-x.base).toNat,base:=o.offset }) h hx rfl ?_ T.last
       simp only [zbt.next,List.length_drop]
       omega
theorem ApU.last {T T':zbn} {P:List zaI} (h:ApU T T' P) (la:List (Int × Int × Int)):ApU T { T' with last:=la } P:=⟨h.nd,h.mono,h.old,h.new⟩
theorem applyU {T:zbn} (h:(zjf T).Nodup) (hI:zeZ T) (c tm:Int) (o:TOp):ApU T (zbW T c tm o).2.2.2 (zbW T c tm o).2.1:=by
 unfold zbW
 split
 ·exact .rfl' h
 ·split
  ·exact .rfl' h
  ·split
   ·exact .rfl' h
   ·exact (doesU h hI o).last _
theorem ztu:∀ (l:List zo) {T:zbn},(zjf T).Nodup->zeZ T->ApU T (zU T l).2 (zU T l).1
 | [],T,h,_ => .rfl' h
 | x::l,T,h,hI=>by
  have h1:=applyU h hI x.client x.time x.op
  exact h1.trans (ztu l h1.nd (applyI hI x.client x.time x.op))
theorem execU {L:List (List UInt8)} {T:zbn} {h:zcF} {b:List zo} (hn:(zjf T).Nodup) (hI:zeZ T):∃ P,ApU T (zcI L T h b).T P/\((zcI L T h b).e=0->(zcI L T h b).p=P):=by
 unfold zcI
 split
 ·rename_i c0;exact ⟨[],.rfl' hn,fun e=>absurd e c0⟩
 split
 ·exact ⟨[],.rfl' hn,fun e=>by simp at e⟩
 split
 ·rename_i c2;exact ⟨[],.rfl' hn,fun e=>absurd e c2⟩
 split
 ·rename_i c3;exact ⟨[],.rfl' hn,fun e=>absurd e c3⟩
 simp only
 split
 ·exact ⟨_,ztu b hn hI,fun e=>by simp at e⟩
 ·exact ⟨_,ztu b hn hI,fun _=>rfl⟩
structure UqI (s:zaE):Prop where
 nd:(zjf s.T).Nodup
 old:∀ b∈s.bs, ∀ p∈b.placed, ∃ x∈s.T.l,x.name=p.topic/\p.offset<x.next
 one:∀ (i j:Nat) (a b:zbc),s.bs[i]? = some a->s.bs[j]? = some b->∀ p∈a.placed, ∀ q∈b.placed,p.topic=q.topic->p.offset=q.offset->i=j
theorem uq0:UqI st0:=⟨by simp [zjf,st0,zdU],by simp [st0],by simp [st0]⟩
theorem plAt_is {t:List UInt8} {o:Int}:∀ {l:List zaI} {i k:Nat},plAt t o l i=some k->∃ r,l[k-i]? = some r/\r.topic=t/\r.offset=o
 | [],_,_,h=>by simp [plAt] at h
 | p::l,i,k,h=>by
  simp only [plAt] at h
  split at h
  ·rename_i hp
   cases h
   simp only [isP,Bool.and_eq_true,beq_iff_eq] at hp
   exact ⟨p,by simp,hp⟩
  ·have h1:=(plAt_lt h).1
   obtain ⟨r,h2,h3⟩:=plAt_is h
   exact ⟨r,by rw [show k-i=(k-(i+1))+1 by omega];simpa using h2,h3⟩
theorem findB_is {t:List UInt8} {o:Int}:∀ {l:List zbc} {i j k:Nat},zoe t o l i=some (j,k)->∃ b r,l[j-i]? = some b/\i<=j/\b.placed[k]? = some r/\r.topic=t/\r.offset=o
 | [],_,_,_,h=>by simp [zoe] at h
 | c::l,i,j,k,h=>by
  simp only [zoe] at h
  split at h
  ·rename_i k' hk
   simp only [Option.some.injEq,Prod.mk.injEq] at h
   obtain ⟨rfl,rfl⟩:=h
   obtain ⟨r,h1,h2⟩:=plAt_is hk
   exact ⟨c,r,by simp,Nat.le_refl _,by simpa using h1,h2⟩
  ·obtain ⟨b,r,h1,h2,h3⟩:=findB_is h
   exact ⟨b,r,by rw [show j-i=(j-(i+1))+1 by omega];simpa using h1,by omega,h3⟩
end Go.Proofs.YtfgbofkdhfjegaaGreat

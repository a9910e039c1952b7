/- What is made of such blocks is taken. No program in sight. -/
import Derived.Test.YtncpaekiidpchaaGreatHi2
import Derived.Test.YtncpaekiidpchaaGreatSpMake
set_option linter.all false
set_option maxRecDepth 100000
namespace Go.Proofs.YtncpaekiidpchaaGreat
open Go.AW
theorem seq_at {L : List (List UInt8)} : ∀ {bs : List zaM} {g : zcF} {j : Nat} {b : zaM},ChI L g bs → bs[j]? = some b → b.header.seq = g.seq + j + 1
 | [],_,_,_,_,h => by simp at h
 | c :: r,g, 0,b,h,hb => by simp at hb; subst hb; have := h.1.2; omega
 | c :: r,g,j + 1,b,h,hb => by
  have := seq_at h.2 (by simpa using hb)
  have := h.1.2
  omega
theorem ChI_drop {L : List (List UInt8)} : ∀ {bs : List zaM} {g : zcF} (j : Nat),ChI L g bs → ∃ q,ChI L q (bs.drop j) ∧ ∀ b,(bs.drop j).head? = some b → b.header.seq = q.seq + 1
 | [],g,j,_ => ⟨g,by simp [ChI],by simp⟩
 | c :: r,g, 0,h => ⟨g,h,fun b hb => by simp at hb; subst hb; exact h.1.2⟩
 | c :: r,g,j + 1,h => ChI_drop (bs := r) j h.2
theorem wrap_small {x : Int} (h : 0 ≤ x ∧ x ≤ 9007199254740992) : IntKind.i64.wrap (x + 1) = x + 1 := zX (by omega) (by omega)
theorem runF_some {L : List (List UInt8)} {target : Int} : ∀ {l : List zaM} {q : zcF} {o : Option Int} {m : Nat} {bm : zaM},ChI L q l → (∀ b ∈ l,zfQ b.header = true) → l[m]? = some bm → bm.header.seq = target → (o = none ∨ (o = some q.seq ∧ 0 ≤ q.seq ∧ q.seq ≤ 9007199254740992)) →
  zqu target o l = some ((l.take (m + 1)).map zaM.header)
 | [],_,_,_,_,_,_,h,_,_ => by simp at h
 | b :: r,q,o,m,bm,hc,hok,hm,ht,ho => by
  have hst : stepS o b.header.seq = true := by
   rcases ho with rfl | ⟨rfl,h1⟩
   ·rfl
   ·simp only [stepS,wrap_small h1,beq_iff_eq]; exact hc.1.2.symm
  have hbr := zdE (hok b (by simp)) b.header.seq (by simp [zkD])
  simp only [zqu]
  rw [if_neg (by simp [hst])]
  cases m with
  | zero =>
   simp at hm; subst hm
   rw [if_pos ht]; simp
  | succ m =>
   have hm' : r[m]? = some bm := by simpa using hm
   have := seq_at hc.2 hm'
   rw [if_neg (by omega),runF_some (m := m) hc.2 (fun x hx => hok x (by simp [hx])) hm' ht (.inr ⟨rfl,by omega,by omega⟩)]
   simp
theorem runF_none {L : List (List UInt8)} {target : Int} : ∀ {l : List zaM} {q : zcF} {o : Option Int},ChI L q l → target ≤ q.seq → zqu target o l = none
 | [],_,_,_,_ => rfl
 | b :: r,q,o,hc,ht => by
  have h1 := hc.1.2
  simp only [zqu]
  split
  ·rfl
  ·rw [if_neg (by omega),runF_none hc.2 (by omega)]; rfl
theorem link_F {L : List (List UInt8)} {q h : zcF} (hl : LinkI L q h) : linkF L (some q) h = true := by
 obtain ⟨⟨i,h1,h2⟩,h3⟩ := hl
 simp only [linkF,h1,h2,h3,beq_self_eq_true,Bool.and_self]
theorem chainG_of {L : List (List UInt8)} : ∀ {l : List zaM} {q : zcF},ChI L q l → (∀ b ∈ l,zfQ b.header = true) → zlZ L (some q) (l.map zaM.header) = true
 | [],_,_,_ => rfl
 | b :: r,q,hc,hok => by
  simp only [List.map_cons,zlZ,Bool.and_eq_true]
  exact ⟨hok b (by simp),link_F hc.1,chainG_of hc.2 fun x hx => hok x (by simp [hx])⟩
theorem ChI_take {L : List (List UInt8)} : ∀ {l : List zaM} {q : zcF} (n : Nat),ChI L q l → ChI L q (l.take n)
 | [],_,n,_ => by simp [ChI]
 | b :: r,q, 0,_ => trivial
 | b :: r,q,n + 1,h => ⟨h.1,ChI_take n h.2⟩
theorem fstE_0 : ∀ {l : List Int},(∀ e ∈ l,e = 0) → zeG l = 0
 | [],_ => rfl
 | x :: r,h => by
  have := h x (by simp)
  simp only [zeG,this,ne_eq,not_true,if_false]
  exact fstE_0 fun e he => h e (by simp [he])
theorem zfT {n lo hi : Int} (h1 : lo ≤ n) (h2 : n ≤ hi) : inE n lo hi = 0 := by rw [inE,if_neg (by omega)]
theorem len8 : ∀ n : Fin 17, ∀ i : Fin 17,i.val < n.val → zdU i.val n.val ≤ 8 := by decide +kernel
theorem mayCs_of {f seq d v : Int} : ∀ {ks : List Int} {p : Option zJ},(∀ k ∈ ks,zng f seq d k = true) → ks.Pairwise (· < ·) → (∀ q,p = some q → ∀ k ∈ ks,q.key < k) → zrX f seq d p (ks.map fun k => ⟨k,v⟩) = true
 | [],_,_,_,_ => rfl
 | k :: ks,p,h1,h2,h3 => by
  simp only [List.map_cons,zrX,Bool.and_eq_true]
  refine ⟨h1 k (by simp), ?_,mayCs_of (fun j hj => h1 j (by simp [hj])) (List.pairwise_cons.1 h2).2 fun q hq j hj => ?_⟩
  ·cases p with
   | none => rfl
   | some q => have := h3 q rfl k (by simp); simp; omega
  ·cases hq; exact (List.pairwise_cons.1 h2).1 j hj
theorem memF_sorted (s : Nat) : (memF s).Pairwise (· < ·) := by
 unfold memF memN
 refine List.Pairwise.filter _ ?_
 rw [List.pairwise_map]
 exact (List.pairwise_lt_range).imp fun h => by simpa using h
theorem plAt_some {t : List UInt8} {o : Int} : ∀ {l : List zaI} {i : Nat},(∃ r ∈ l,r.topic = t ∧ r.offset = o) → ∃ k,plAt t o l i = some k
 | [],_,⟨r,h,_⟩ => by cases h
 | p :: l,i,⟨r,h,h1⟩ => by
  simp only [plAt]
  split
  ·exact ⟨i,rfl⟩
  ·rename_i hn
   rcases List.mem_cons.1 h with rfl | h
   ·exact absurd (by simp [isP,h1]) hn
   ·exact plAt_some ⟨r,h,h1⟩
theorem plAt_is {t : List UInt8} {o : Int} : ∀ {l : List zaI} {i k : Nat},plAt t o l i = some k → ∃ r,l[k - i]? = some r ∧ r.topic = t ∧ r.offset = o
 | [],_,_,h => by simp [plAt] at h
 | p :: l,i,k,h => by
  simp only [plAt] at h
  split at h
  ·rename_i hp
   cases h
   simp only [isP,Bool.and_eq_true,beq_iff_eq] at hp
   exact ⟨p,by simp,hp⟩
  ·have h1 := (ztV h).1
   obtain ⟨r,h2,h3⟩ := plAt_is h
   exact ⟨r,by rw [show k - i = (k - (i + 1)) + 1 by omega]; simpa using h2,h3⟩
theorem zsJ {t : List UInt8} {o : Int} : ∀ {l : List zaM} {i : Nat},(∃ b ∈ l, ∃ r ∈ b.placed,r.topic = t ∧ r.offset = o) → ∃ j k,znp t o l i = some (j,k)
 | [],_,⟨b,h,_⟩ => by cases h
 | c :: l,i,⟨b,h,h1⟩ => by
  simp only [znp]
  cases hp : plAt t o c.placed 0 with
  | some k => exact ⟨i,k,rfl⟩
  | none =>
   rcases List.mem_cons.1 h with rfl | h
   ·obtain ⟨k,hk⟩ := plAt_some (i := 0) h1
    rw [hk] at hp; cases hp
   ·exact zsJ ⟨b,h,h1⟩
theorem findB_is {t : List UInt8} {o : Int} : ∀ {l : List zaM} {i j k : Nat},znp t o l i = some (j,k) → ∃ b r,l[j - i]? = some b ∧ i ≤ j ∧ b.placed[k]? = some r ∧ r.topic = t ∧ r.offset = o
 | [],_,_,_,h => by simp [znp] at h
 | c :: l,i,j,k,h => by
  simp only [znp] at h
  split at h
  ·rename_i k' hk
   simp only [Option.some.injEq,Prod.mk.injEq] at h
   obtain ⟨rfl,rfl⟩ := h
   obtain ⟨r,h1,h2⟩ := plAt_is hk
   exact ⟨c,r,by simp,Nat.le_refl _,by simpa using h1,h2⟩
  ·obtain ⟨b,r,h1,h2,h3⟩ := findB_is h
   exact ⟨b,r,by rw [show j - i = (j - (i + 1)) + 1 by omega]; simpa using h1,by omega,h3⟩
theorem zsc {ks : List Int} {g : zcF} {s : zds} {f : Int} {c : zfH} {b : zaM} {r : zaI} (h : HistI ks g s) (hu : UqI s) (hg : g.seq = 0) (hL : s.L.length ≤ 1048576) (hbl : s.bs.length ≤ 20)
  (h0 : zcP f = 0) (hs : ks.Pairwise (· < ·)) (hk : ∀ k ∈ ks, 0 ≤ k ∧ k < zbP 3 f) (hk13 : ks.length ≤ 13) (hq : zbP 2 f ≤ ks.length) (hc : c ∈ s.cs) (hb : b ∈ s.bs) (hr : r ∈ b.placed) :
  (zdL s.L s.bs c r.topic r.offset).2.2 = s.L ∧ (c.seq < b.header.seq → (zdL s.L s.bs c r.topic r.offset).1 = 7) ∧
  (b.header.seq ≤ c.seq → (zdL s.L s.bs c r.topic r.offset).1 = 0 ∧ (zdL s.L s.bs c r.topic r.offset).2.1.headers.head? = some b.header ∧ zmn s.L s.G f (zdL s.L s.bs c r.topic r.offset).2.1 = 0) := by
 have hf : ¬ (f < 1 ∨ f > 4) := fun e => by rw [zcP,if_pos e] at h0; simp at h0
 have hf3 : zbP 3 f = 3 * f + 1 := by rw [zbP,if_neg hf]
 have hf2 : zbP 2 f = 2 * f + 1 := by rw [zbP,if_neg hf]
 have hok : ∀ x ∈ s.bs,zfQ x.header = true := fun x hx => (h.blk x hx).ok
 obtain ⟨i,k,hfb⟩ := zsJ (t := r.topic) (o := r.offset) (l := s.bs) (i := 0) ⟨b,hb,r,hr,rfl,rfl⟩
 obtain ⟨b',r',h1,_,h2,h3,h4⟩ := findB_is hfb
 rw [Nat.sub_zero] at h1
 obtain ⟨j,hj,hjb⟩ := List.mem_iff_getElem.1 hb
 have hij := hu.one i j b' b h1 (by rw [List.getElem?_eq_getElem hj,hjb]) r' (List.mem_of_getElem? h2) r hr h3 h4
 subst hij
 have hbb : b' = b := by rw [List.getElem?_eq_getElem hj,hjb] at h1; exact (Option.some.inj h1).symm
 subst hbb
 obtain ⟨q,hcd,_⟩ := ChI_drop i h.ch
 have hdr : s.bs.drop i = b' :: s.bs.drop (i + 1) := by rw [List.drop_eq_getElem_cons hj,hjb]
 have hbseq := seq_at h.ch h1
 have hq1 : b'.header.seq = q.seq + 1 := by rw [hdr] at hcd; exact hcd.1.2
 have hokd : ∀ x ∈ s.bs.drop i,zfQ x.header = true := fun x hx => hok x (List.mem_of_mem_drop hx)
 have hgd : s.bs.getD i ⟨⟨0, 0, 0, 0, 0⟩, [], []⟩ = b' := by simp [List.getD,h1]
 obtain ⟨⟨b1,hb1,hcs,hcn⟩,hc4,v,hcv,hcv2⟩ := h.crt c hc
 obtain ⟨m,hm,hmb⟩ := List.mem_iff_getElem.1 hb1
 have h1m : s.bs[m]? = some b1 := by rw [List.getElem?_eq_getElem hm,hmb]
 have hmseq := seq_at h.ch h1m
 have hR := (h.blk b' hb).root
 have hcnt := (h.blk b' hb).cnt
 have hkl := (List.getElem?_eq_some_iff.1 h2).1
 have hgl : (b'.placed.map zam)[k]? = some (zam r') := by rw [List.getElem?_map,h2]; rfl
 obtain ⟨p1,p2,p3,p4⟩ := zmr b'.placed.length b'.placed.length (by simp) (by simp) hR hgl
 rw [List.length_map] at p2 p4
 have hgr : b'.placed.getD k ⟨[], 0, []⟩ = r' := by simp [List.getD,h2]
 unfold zdL
 rw [hfb]
 simp only
 rcases Int.lt_or_le c.seq b'.header.seq with hlt | hle
 ·have hn : zqu c.seq none (s.bs.drop i) = none := runF_none hcd (by omega)
  rw [hn]
  exact ⟨rfl,fun _ => rfl,fun h => by omega⟩
 ·have him : i ≤ m := by omega
  have hmd : (s.bs.drop i)[m - i]? = some b1 := by rw [List.getElem?_drop,show i + (m - i) = m by omega]; exact h1m
  have hrun := runF_some (target := c.seq) (o := none) hcd hokd hmd hcs.symm (.inl rfl)
  rw [hrun]
  simp only [hgd,hgr]
  obtain ⟨hs',hhs⟩ : ∃ hs',(s.bs.drop i).take (m - i + 1) = hs' := ⟨_,rfl⟩
  have hsub : ∀ x ∈ hs',x ∈ s.bs := fun x hx => by rw [← hhs] at hx; exact List.mem_of_mem_drop (List.mem_of_mem_take hx)
  have hhl : hs'.length ≤ 20 := by rw [← hhs,List.length_take,List.length_drop]; omega
  have hch2 : ChI s.L q hs' := by rw [← hhs]; exact ChI_take _ hcd
  have hhd : hs' = b' :: hs'.tail := by rw [← hhs,hdr,List.take_succ_cons]; rfl
  have hlast : (hs'.map zaM.header).getLast? = some b1.header := by
   have hl : hs'.length = m - i + 1 := by rw [← hhs,List.length_take,List.length_drop]; omega
   rw [List.getLast?_eq_getElem?,List.length_map,hl,List.getElem?_map, ← hhs,List.getElem?_take,if_pos (by omega),show m - i + 1 - 1 = m - i by omega,hmd]
   rfl
  rw [hhs,p1]
  refine ⟨by trivial,fun h => by omega,fun _ => ⟨by trivial,by rw [hhd]; rfl, ?_⟩⟩
  obtain ⟨pf,hpf⟩ : ∃ pf : zaU,(⟨r.topic,r.offset,r'.rec_,hs'.map zaM.header,(k : Int),(b'.placed.length : Int),(zaD b'.placed.length s.L k (b'.placed.map zam)).1,c⟩ : zaU) = pf := ⟨_,rfl⟩
  rw [hpf]
  have hPl := (h.blk b' hb).pl r' (List.mem_of_getElem? h2)
  have hcp := hcn.pos
  have hseqr := zdE (hok b1 hb1) b1.header.seq (by simp [zkD])
  have hposq : ∀ x ∈ s.bs, 1 ≤ x.header.seq := fun x hx => by
   obtain ⟨n,hn,hnx⟩ := List.mem_iff_getElem.1 hx
   have := seq_at h.ch (show s.bs[n]? = some x by rw [List.getElem?_eq_getElem hn,hnx])
   omega
  have hp8 := len8 ⟨b'.placed.length,by omega⟩ ⟨k,by omega⟩ hkl
  simp only at hp8
  have hks0 : ks ≠ [] := fun e => by subst e; simp at hq; omega
  obtain ⟨k0,hk0⟩ := List.exists_mem_of_ne_nil ks hks0
  have hvn := (hcv2 k0 hk0).2
  have hvp := hvn.pos
  -- what is asked of it
  have c1 : zex pf = 0 := by
   subst hpf
   refine fstE_0 fun e he => ?_
   simp only [zqc,zfz,zct,ziu,List.mem_append,List.mem_cons,List.not_mem_nil,or_false] at he
   rcases he with (rfl | rfl | rfl | rfl) | he | (rfl | rfl) | (rfl | rfl) | he | he
   ·rw [nameE,if_pos (h3 ▸ hPl.2)]
   ·exact zfT (h4 ▸ hPl.1.1) (h4 ▸ hPl.1.2.1)
   ·exact zfT (by omega) (by have := hPl.1.2.2.2; omega)
   ·exact zfT (by omega) (by rw [List.length_map]; omega)
   ·obtain ⟨l,hl,hel⟩ := List.mem_flatten.1 he
    obtain ⟨x,hx,rfl⟩ := List.mem_map.1 hl
    obtain ⟨y,hy,rfl⟩ := List.mem_map.1 hx
    have hy' := hsub y hy
    have hrg := zdE (hok y hy')
    have hp1 := hposq y hy'
    simp only [zkE,List.mem_cons,List.not_mem_nil,or_false] at hel
    rcases hel with rfl | rfl | rfl | rfl | rfl
    ·have := hrg y.header.seq (by simp [zkD]); exact zfT hp1 this.2
    ·have := hrg y.header.prev (by simp [zkD]); exact zfT this.1 this.2
    ·have := hrg y.header.batch (by simp [zkD]); exact zfT this.1 this.2
    ·have := hrg y.header.root (by simp [zkD]); exact zfT this.1 this.2
    ·have := hrg y.header.state (by simp [zkD]); exact zfT this.1 this.2
   ·exact zfT (by omega) (by omega)
   ·exact zfT (by omega) (by omega)
   ·exact zfT (by omega) (by omega)
   ·exact zfT (by omega) (by rw [p2]; omega)
   ·obtain ⟨x,hx,rfl⟩ := List.mem_map.1 he
    have := p3 x hx
    exact zfT (by omega) (by omega)
   ·simp only [zkR,zmV,List.mem_cons] at he
    rcases he with rfl | rfl | rfl | rfl | he
    ·exact zfT (by omega) (by omega)
    ·exact zfT (by omega) (by omega)
    ·rw [zfR,if_neg]
     intro hh
     rcases hh with hh | hh
     ·exact hh (propext ⟨fun e => by omega,fun e => by omega⟩)
     ·omega
    ·rw [hcv,List.length_map]; exact zfT (by omega) (by omega)
    ·rw [hcv] at he
     obtain ⟨x,hx,rfl⟩ := List.mem_map.1 he
     obtain ⟨y,hy,rfl⟩ := List.mem_map.1 hx
     have := hk y hy
     simp only
     rw [zar,if_neg (by omega)]
  have c2 : zed s.L pf = true := by
   subst hpf
   simp only [zed,hlast,Bool.and_eq_true]
   refine ⟨?_, ?_⟩
   ·rw [zrn,hhd]
    simp only [List.map_cons,zlZ,linkF,Bool.true_and,Bool.and_eq_true]
    rw [hhd] at hch2
    exact ⟨hok b' hb,chainG_of hch2.2 fun x hx => hok x (hsub x (by rw [hhd]; exact List.mem_cons_of_mem _ hx))⟩
   ·obtain ⟨n,hn1,hn2⟩ := hcn
    simp only [lastF,hn1]
    rw [← hn2]
    simp [hcs]
  have hmay : zog 6 0 c.seq c.dig = true := by
   simp only [zog,Bool.and_eq_true,zdz]; omega
  have c3 : zro s.L s.G f pf.cert = true := by
   subst hpf
   simp only [zro,h0,decide_true,Bool.true_and,Bool.and_eq_true,List.all_eq_true]
   refine ⟨?_,fun x hx => ?_⟩
   ·simp only [zgt,Bool.or_eq_true,Bool.and_eq_true,decide_eq_true_eq]
    refine .inr ⟨by rw [hcv,List.length_map]; omega, ?_⟩
    rw [hcv]
    refine mayCs_of (fun j hj => ?_) hs fun q hq => by cases hq
    have := hk j hj
    simp only [zng,Bool.and_eq_true,decide_eq_true_eq,beq_iff_eq]
    omega
   ·rw [hcv] at hx
    obtain ⟨y,hy,rfl⟩ := List.mem_map.1 hx
    obtain ⟨g1,n,hn1,hn2⟩ := hcv2 y hy
    simp only [zpe,hmay,Bool.true_and,zkn,hn1,hn2,Bool.and_eq_true,decide_eq_true_eq,true_and,and_self]
    rw [← hn2]; exact g1
  have c4 : zgN s.L (rootP pf) (zam (leafP pf)) pf.index pf.count pf.path = true := by
   subst hpf
   have hroot : rootP (⟨r.topic,r.offset,r'.rec_,hs'.map zaM.header,(k : Int),(b'.placed.length : Int),(zaD b'.placed.length s.L k (b'.placed.map zam)).1,c⟩ : zaU) = b'.header.root := by
    simp only [rootP]; rw [hhd]; rfl
   have hleaf : leafP (⟨r.topic,r.offset,r'.rec_,hs'.map zaM.header,(k : Int),(b'.placed.length : Int),(zaD b'.placed.length s.L k (b'.placed.map zam)).1,c⟩ : zaU) = r' := by
    simp only [leafP]; rw [← h3, ← h4]
   rw [hroot,hleaf]
   simp only [zgN,Int.toNat_natCast]
   rw [if_neg (by rw [p2]; omega),p4]
   simp
  rw [zmn,if_neg (by simp [h0]),if_neg (by simp [c1]),if_neg (by simp [c2]),if_neg (by simp [c3]),if_neg (by simp [c4])]
end Go.Proofs.YtncpaekiidpchaaGreat

/- What the blocks of a beginning are: chained headers, each over its records' tree; who has signed what. No program in sight. -/
import Derived.Test.YtfgbofkdhfjegaaGreatBt1
import Derived.Test.YtfgbofkdhfjegaaGreatCk3
import Derived.Test.YtfgbofkdhfjegaaGreatSpBulk
import Derived.Test.YtfgbofkdhfjegaaGreatMk2
import Derived.Test.YtfgbofkdhfjegaaGreatSpUtf
import Derived.Test.YtfgbofkdhfjegaaGreatCk1
set_option linter.all false
set_option maxRecDepth 100000
namespace Go.Proofs.YtfgbofkdhfjegaaGreat
open Go.AW
theorem atF_name {n : List UInt8} : ∀ {l : List zcN} {j k : Nat},atF n l j = some k → ∃ x,l[k - j]? = some x ∧ x.name = n
 | [],_,_,h => by simp [atF] at h
 | x :: r,j,k,h => by
  simp only [atF] at h
  split at h
  ·rename_i e
   cases h
   exact ⟨x,by simp,by simpa using e⟩
  ·obtain ⟨y,h1,h2⟩ := atF_name h
   have := (atF_lt h).1
   exact ⟨y,by rw [show k - j = (k - (j + 1)) + 1 by omega]; simpa using h1,h2⟩
theorem zqQ {t : List UInt8} : ∀ {l : List (List UInt8)} {o : Int}, ∀ p ∈ zjT t o l,p.topic = t
 | [],_,p,h => by simp [zjT] at h
 | r :: l,o,p,h => by
  rcases List.mem_cons.1 h with rfl | h
  ·rfl
  ·exact zqQ p h
theorem check_recs {o : TOp} (h : zbr zdZ o = 0) (hk : o.kind = 2) : o.recs.length ≤ 4 := by
 unfold zbr at h
 split at h
 ·simp at h
 ·split at h
  ·simp at h
  ·split at h
   ·simp at h
   ·split at h
    ·simp at h
    ·rename_i h4
     rcases Nat.lt_or_ge 4 o.recs.length with hl | hl
     ·exact absurd ⟨hk, .inr (.inl hl)⟩ h4
     ·exact hl
theorem doesN (T : zcc) (o : TOp) : (∀ p ∈ (zcM T o).2.1,zdZ p.topic = true) ∧ (zcM T o).2.1.length ≤ 4 := by
 unfold zcM
 split
 ·simp
 ·rename_i hc
  have hc : zbr zdZ o = 0 := by simpa using hc
  split
  ·simp
  ·rename_i hk0
   split
   ·simp
   ·split
    ·simp
    ·rename_i i hi
     split
     ·simp
     ·rename_i x hx
      split
      ·rename_i hk
       unfold zdC
       split
       ·simp
       ·obtain ⟨y,h1,h2⟩ := atF_name hi
        rw [Nat.sub_zero,hx] at h1
        cases h1
        refine ⟨fun p hp => ?_, ?_⟩
        ·rw [zqQ p hp,h2]
         exact (check0 hc).2.2.1 hk0
        ·rw [zmV]; exact check_recs hc hk
      ·split <;> simp
theorem applyN (T : zcc) (c tm : Int) (o : TOp) : (∀ p ∈ (zcw T c tm o).2.1,zdZ p.topic = true) ∧ (zcw T c tm o).2.1.length ≤ 4 := by
 unfold zcw
 repeat' split
 all_goals first | (simp; done) | exact doesN T o
theorem applyAllN : ∀ (l : List zq) (T : zcc),(∀ p ∈ (zX T l).1,zdZ p.topic = true) ∧ (zX T l).1.length ≤ l.length * 4
 | [],_ => by simp [zX]
 | x :: l,T => by
  obtain ⟨h1,h2⟩ := applyN T x.client x.time x.op
  obtain ⟨h3,h4⟩ := applyAllN l (zcw T x.client x.time x.op).2.2.2
  refine ⟨fun p hp => ?_, ?_⟩
  ·simp only [zX] at hp
   rcases List.mem_append.1 hp with hp | hp
   ·exact h1 p hp
   ·exact h3 p hp
  ·simp only [zX,List.length_append,List.length_cons]; omega
structure BlkI (L : List (List UInt8)) (b : zbx) : Prop where
 ok : zkb b.header = true
 root : ziL L (b.placed.map zaJ) b.header.root
 pl : ∀ p ∈ b.placed,PlI p ∧ zdZ p.topic = true
 cnt : b.placed.length ≤ 16
theorem BlkI.pre {L L' : List (List UInt8)} {b : zbx} (h : BlkI L b) (hp : L <+: L') : BlkI L' b := ⟨h.ok,h.root.pre hp,h.pl,h.cnt⟩
def LinkI (L : List (List UInt8)) (q h : zcS) : Prop := zgM L (zpe q) h.prev ∧ h.seq = q.seq + 1
def lastH : zcS → List zbx → zcS
 | q, [] => q
 | _,b :: r => lastH b.header r
def ChI (L : List (List UInt8)) : zcS → List zbx → Prop
 | _, [] => True
 | q,b :: r => LinkI L q b.header ∧ ChI L b.header r
theorem ChI.pre {L L' : List (List UInt8)} (hp : L <+: L') : ∀ {bs : List zbx} {q : zcS},ChI L q bs → ChI L' q bs
 | [],_,_ => trivial
 | b :: r,q,h => ⟨⟨h.1.1.pre hp,h.1.2⟩,ChI.pre hp h.2⟩
theorem ChI.snoc {L : List (List UInt8)} {b : zbx} : ∀ {bs : List zbx} {q : zcS},ChI L q bs → LinkI L (lastH q bs) b.header → ChI L q (bs ++ [b])
 | [],_,_,h => ⟨h,trivial⟩
 | c :: r,q,h,hl => ⟨h.1,ChI.snoc h.2 hl⟩
theorem zuH {b : zbx} : ∀ {bs : List zbx} {q : zcS},lastH q (bs ++ [b]) = b.header
 | [],_ => rfl
 | c :: r,q => zuH (bs := r) (q := c.header)
theorem digL_pre (L : List (List UInt8)) (l : List zq) : L <+: zlk L l ∧ (zlk L l).length ≤ L.length + 1 := by
 unfold zlk
 split
 ·exact ⟨List.prefix_refl L,by omega⟩
 ·exact ⟨zgb ..,zjr ..⟩
theorem hdigL_pre (L : List (List UInt8)) (h : zcS) : L <+: zeF L h ∧ (zeF L h).length ≤ L.length + 1 := by
 unfold zeF
 split
 ·exact ⟨List.prefix_refl L,by omega⟩
 ·exact ⟨zgb ..,zjr ..⟩
theorem zvC {L : List (List UInt8)} {b : List UInt8} (h : L.length ≤ 1048576) : 0 ≤ zdw L b ∧ zdw L b ≤ 1048577 := by
 unfold zdw
 split
 ·rename_i i hi; have := (zld hi).1; omega
 ·split <;> omega
theorem exec_hist {L : List (List UInt8)} {T : zcc} {h : zcS} {b : List zq} (hT : zhn T) (hL : L.length + 600 ≤ 1048576) :
  L <+: (zdl L T h b).L ∧ (zdl L T h b).L.length ≤ L.length + 520 ∧
  ((zdl L T h b).e = 0 → BlkI (zdl L T h b).L ⟨(zdl L T h b).h,b,(zdl L T h b).p⟩ ∧ LinkI (zdl L T h b).L h (zdl L T h b).h) := by
 obtain ⟨d1,d2⟩ := digL_pre L b
 obtain ⟨d3,d4⟩ := hdigL_pre (zlk L b) h
 unfold zdl
 split
 ·rename_i c0; exact ⟨List.prefix_refl L,by simp only; omega,fun e => absurd e c0⟩
 rename_i c0
 have c0 : zba h = 0 := Classical.not_not.1 c0
 split
 ·exact ⟨List.prefix_refl L,by simp only; omega,fun e => by simp at e⟩
 rename_i c1
 split
 ·rename_i c2; exact ⟨d1,by simp only; omega,fun e => absurd e c2⟩
 rename_i c2
 have c2 : digE L b = 0 := Classical.not_not.1 c2
 split
 ·rename_i c3; exact ⟨d1.trans d3,by simp only; omega,fun e => absurd e c3⟩
 rename_i c3
 have c3 : hdigE (zlk L b) h = 0 := Classical.not_not.1 c3
 have hb4 := dig_len c2
 have p1 := zmw b hT
 have p2 := applyAllN b T
 have hn : ((zX T b).1.map zaJ).length ≤ 16 := by rw [List.length_map]; have := p2.2; omega
 obtain ⟨r1,r2,r3,_⟩ := root_at ((zX T b).1.map zaJ).length (L := zeF (zlk L b) h) (l := (zX T b).1.map zaJ) (Nat.le_refl _) (by omega)
 have s1 := zgb (rootF (zeF (zlk L b) h) ((zX T b).1.map zaJ)).2 (zfp (zX T b).2)
 have s2 := zjr (rootF (zeF (zlk L b) h) ((zX T b).1.map zaJ)).2 (zfp (zX T b).2)
 simp only
 split
 ·exact ⟨((d1.trans d3).trans r2).trans s1,by simp only; omega,fun e => by simp at e⟩
 ·rename_i c4
  refine ⟨((d1.trans d3).trans r2).trans s1,by simp only; omega,fun _ => ⟨⟨?_,r1.pre s1,fun p hp => ⟨p1.1 p hp,p2.1 p hp⟩,by simp only; have := p2.2; omega⟩, ?_,rfl⟩⟩
  ·have hseq := zhg (zdU.1 c0) h.seq (by simp [zpQ])
   have g1 : zdc (h.seq + 1) = true := zeY.2 (by omega)
   have g2 : zdc (zlf (zlk L b) h) = true := by
    rw [zlf,if_neg (by simp [c0])]
    have := zvC (L := zlk L b) (b := zpe h) (by omega)
    exact zeY.2 (by omega)
   have g3 : zdc (digD L b) = true := by
    have hcb : ¬ zV b ≠ 0 := fun hc => by rw [digE,if_pos hc] at c2; exact hc c2
    rw [digD,if_neg hcb]
    have := zvC (L := L) (b := zkp b) (by omega)
    exact zeY.2 (by omega)
   have g4 := r1.num
   have g4' : zdc (rootF (zeF (zlk L b) h) ((zX T b).1.map zaJ)).1 = true := zeY.2 (by omega)
   have g5 := zvC (L := (rootF (zeF (zlk L b) h) ((zX T b).1.map zaJ)).2) (b := zfp (zX T b).2) (by omega)
   have g5' : zdc (zdw (rootF (zeF (zlk L b) h) ((zX T b).1.map zaJ)).2 (zfp (zX T b).2)) = true := zeY.2 (by omega)
   simp [zkb,zpQ,g1,g2,g3,g4',g5']
  ·have e1 : zlf (zlk L b) h = zdw (zlk L b) (zpe h) := by rw [zlf,if_neg (by simp [c0])]
   have e2 : zeF (zlk L b) h = zeI (zlk L b) (zpe h) := by rw [zeF,if_neg (by simp [c0])]
   have n0 : zdw (zlk L b) (zpe h) ≠ 0 := zrZ (by omega)
   show zgM _ (zpe h) (zlf (zlk L b) h)
   rw [e1]
   have := zrY n0
   rw [← e2] at this
   exact this.pre (r2.trans s1)
theorem signL_mem' {G : List zI} {s x : zI} (h : x ∈ zlJ G s) : x ∈ G ∨ x = s := by
 unfold zlJ at h
 split at h
 ·exact .inl h
 ·rcases List.mem_append.1 h with h | h
  ·exact .inl h
  ·exact .inr (by simpa using h)
theorem zsf (G : List zI) (s : zI) : ∀ x ∈ G,x ∈ zlJ G s := fun x hx => by
 unfold zlJ
 split
 ·exact hx
 ·exact List.mem_append_left _ hx
theorem zuo (G : List zI) (s : zI) : s ∈ zlJ G s := by
 unfold zlJ
 split
 ·assumption
 ·simp
theorem signG_mem' {G : List zI} {k d : Int} {x : zI} (h : x ∈ zfW G k d) : x ∈ G ∨ (x = ⟨k,d⟩ ∧ zeh k d = 0) := by
 unfold zfW at h
 split at h
 ·rename_i e
  rcases signL_mem' h with h | h
  ·exact .inl h
  ·exact .inr ⟨h,e⟩
 ·exact .inl h
theorem signG_sub (G : List zI) (k d : Int) : ∀ x ∈ G,x ∈ zfW G k d := fun x hx => by
 unfold zfW
 split
 ·exact zsf _ _ x hx
 ·exact hx
theorem keyF_sign' {c d : Int} (h : zeh (keyF c) d = 0) : 13 ≤ keyF c := by
 unfold zeh at h
 unfold keyF at h ⊢
 split
 ·rename_i e; rw [if_pos e] at h; simp at h
 ·omega
theorem seHist : ∀ (l : List zq) (s : List (List UInt8) × List zI × List zq),s.1 <+: (l.foldl seR s).1 ∧ (l.foldl seR s).1.length ≤ s.1.length + l.length ∧ (∀ x ∈ (l.foldl seR s).2.1,x ∈ s.2.1 ∨ 13 ≤ x.key) ∧ (∀ x ∈ s.2.1,x ∈ (l.foldl seR s).2.1)
 | [],s => ⟨List.prefix_refl _,by simp,fun x h => .inl h,fun x h => h⟩
 | r :: l,s => by
  obtain ⟨h1,h2,h3,h4⟩ := seHist l (seR s r)
  have g1 : s.1 <+: (seR s r).1 ∧ (seR s r).1.length ≤ s.1.length + 1 := by
   simp only [seR,zpW]
   split
   ·exact ⟨List.prefix_refl _,by omega⟩
   ·exact ⟨zgb ..,zjr ..⟩
  have g2 : ∀ x ∈ (seR s r).2.1,x ∈ s.2.1 ∨ 13 ≤ x.key := fun x hx => by
   simp only [seR,zsg] at hx
   split at hx
   ·exact .inl hx
   ·rcases signG_mem' hx with hx | ⟨rfl,e⟩
    ·exact .inl hx
    ·exact .inr (keyF_sign' e)
  have g3 : ∀ x ∈ s.2.1,x ∈ (seR s r).2.1 := fun x hx => by
   simp only [seR,zsg]
   split
   ·exact hx
   ·exact signG_sub _ _ _ x hx
  refine ⟨g1.1.trans h1, ?_,fun x hx => ?_,fun x hx => h4 x (g3 x hx)⟩
  ·simp only [List.foldl_cons,List.length_cons]; omega
  ·rcases h3 x hx with hx | hx
   ·exact g2 x hx
   ·exact .inr hx
theorem voHist {seq d : Int} (hm : zqS 6 0 seq d = true) : ∀ (ks : List Int) (s : List (List UInt8) × List zI × List zI),(∀ k ∈ ks, 0 ≤ k ∧ k < 13) → s.1.length < 1048576 → ∀ v,zgM s.1 (zfZ 6 0 seq d) v →
  (ks.foldl (voR seq d) s).1 = s.1 ∧ (∀ x ∈ (ks.foldl (voR seq d) s).2.1,x ∈ s.2.1 ∨ x.dig = v) ∧ (∀ x ∈ s.2.1,x ∈ (ks.foldl (voR seq d) s).2.1) ∧ (ks.foldl (voR seq d) s).2.2 = s.2.2 ++ ks.map (fun k => ⟨k,v⟩) ∧ ∀ k ∈ ks,(⟨k,v⟩ : zI) ∈ (ks.foldl (voR seq d) s).2.1
 | [],s,_,_,v,_ => ⟨rfl,fun x h => .inl h,fun x h => h,by simp,by simp⟩
 | k :: ks,s,hk,hl,v,hv => by
  obtain ⟨e1,e2⟩ := hv.sum
  have v1 := hv.pos
  have k1 := hk k (by simp)
  have sf : zeh k v = 0 := by rw [zeh,if_neg (by omega),if_neg (by omega)]
  have sr : signR k v = ⟨k,v⟩ := by rw [signR,if_pos sf]
  have n0 : ¬ zdw s.1 (zfZ 6 0 seq d) = 0 := by rw [e1]; omega
  have g1 : (voR seq d s k).1 = s.1 := by simp only [voR,votL,if_pos hm,e2]
  have g2 : (voR seq d s k).2.1 = zlJ s.2.1 ⟨k,v⟩ := by
   simp only [voR,votG,if_pos hm,sgnG]
   rw [if_neg n0,e1,zfW,if_pos sf]
  have g3 : (voR seq d s k).2.2 = s.2.2 ++ [⟨k,v⟩] := by
   simp only [voR,votE,votS,if_pos hm,sgnE,sgnS]
   rw [if_neg n0,if_neg n0,e1,if_pos sf,sr]
  obtain ⟨h1,h2,h3,h4,h5⟩ := voHist hm ks (voR seq d s k) (fun j hj => hk j (by simp [hj])) (by rw [g1]; exact hl) v (by rw [g1]; exact hv)
  refine ⟨h1.trans g1,fun x hx => ?_,fun x hx => h3 x (by rw [g2]; exact zsf _ _ x hx), ?_,fun j hj => ?_⟩
  ·rcases h2 x hx with hx | hx
   ·rw [g2] at hx
    rcases signL_mem' hx with hx | rfl
    ·exact .inl hx
    ·exact .inr rfl
   ·exact .inr hx
  ·simp only [List.foldl_cons,List.map_cons]
   rw [h4,g3]; simp
  ·rcases List.mem_cons.1 hj with rfl | hj
   ·exact h3 _ (by rw [g2]; exact zuo _ _)
   ·exact h5 j hj
theorem voHist0 {seq d : Int} (hm : zqS 6 0 seq d = true) (ks : List Int) (s : List (List UInt8) × List zI × List zI) (hk : ∀ k ∈ ks, 0 ≤ k ∧ k < 13) (hl : s.1.length + 1 < 1048576) :
  ∃ v,s.1 <+: (ks.foldl (voR seq d) s).1 ∧ (ks.foldl (voR seq d) s).1.length ≤ s.1.length + 1 ∧ (∀ x ∈ (ks.foldl (voR seq d) s).2.1,x ∈ s.2.1 ∨ (x.dig = v ∧ zgM (ks.foldl (voR seq d) s).1 (zfZ 6 0 seq d) v)) ∧
   (∀ x ∈ s.2.1,x ∈ (ks.foldl (voR seq d) s).2.1) ∧ (ks.foldl (voR seq d) s).2.2 = s.2.2 ++ ks.map (fun k => ⟨k,v⟩) ∧ ∀ k ∈ ks,(⟨k,v⟩ : zI) ∈ (ks.foldl (voR seq d) s).2.1 ∧ zgM (ks.foldl (voR seq d) s).1 (zfZ 6 0 seq d) v := by
 cases ks with
 | nil => exact ⟨0,List.prefix_refl _,by simp,fun x h => .inl h,fun x h => h,by simp,by simp⟩
 | cons k ks =>
  have n0 : zdw s.1 (zfZ 6 0 seq d) ≠ 0 := zrZ (by omega)
  have hv := zrY n0
  obtain ⟨v,hve⟩ : ∃ v,zdw s.1 (zfZ 6 0 seq d) = v := ⟨_,rfl⟩
  rw [hve] at hv n0
  have hle := zjr s.1 (zfZ 6 0 seq d)
  have v1 := hv.pos
  have k1 := hk k (by simp)
  have sf : zeh k v = 0 := by rw [zeh,if_neg (by omega),if_neg (by omega)]
  have sr : signR k v = ⟨k,v⟩ := by rw [signR,if_pos sf]
  have g1 : (voR seq d s k).1 = zeI s.1 (zfZ 6 0 seq d) := by simp only [voR,votL,if_pos hm]
  have g2 : (voR seq d s k).2.1 = zlJ s.2.1 ⟨k,v⟩ := by
   simp only [voR,votG,if_pos hm,sgnG,hve]
   rw [if_neg n0,zfW,if_pos sf]
  have g3 : (voR seq d s k).2.2 = s.2.2 ++ [⟨k,v⟩] := by
   simp only [voR,votE,votS,if_pos hm,sgnE,sgnS,hve]
   rw [if_neg n0,if_neg n0,if_pos sf,sr]
  obtain ⟨h1,h2,h3,h4,h5⟩ := voHist hm ks (voR seq d s k) (fun j hj => hk j (by simp [hj])) (by rw [g1]; omega) v (by rw [g1]; exact hv)
  have hE : zgM ((k :: ks).foldl (voR seq d) s).1 (zfZ 6 0 seq d) v := by rw [List.foldl_cons,h1,g1]; exact hv
  refine ⟨v, ?_, ?_,fun x hx => ?_,fun x hx => h3 x (by rw [g2]; exact zsf _ _ x hx), ?_,fun j hj => ⟨?_,hE⟩⟩
  ·rw [List.foldl_cons,h1,g1]; exact zgb ..
  ·rw [List.foldl_cons,h1,g1]; exact hle
  ·rcases h2 x hx with hx | hx
   ·rw [g2] at hx
    rcases signL_mem' hx with hx | rfl
    ·exact .inl hx
    ·exact .inr ⟨rfl,hE⟩
   ·exact .inr ⟨hx,hE⟩
  ·rw [List.foldl_cons,h4,g3]; simp
  ·rcases List.mem_cons.1 hj with rfl | hj
   ·exact h3 _ (by rw [g2]; exact zuo _ _)
   ·exact h5 j hj
structure CrtI (ks : List Int) (L : List (List UInt8)) (G : List zI) (bs : List zbx) (c : zff) : Prop where
 blk : ∃ b ∈ bs,c.seq = b.header.seq ∧ zgM L (zpe b.header) c.dig
 four : c.seq.tmod 4 = 0
 sgs : ∃ v,c.signs = ks.map (fun k => ⟨k,v⟩) ∧ ∀ k ∈ ks,(⟨k,v⟩ : zI) ∈ G ∧ zgM L (zfZ 6 0 c.seq c.dig) v
theorem CrtI.pre {ks : List Int} {L L' : List (List UInt8)} {G G' : List zI} {bs bs' : List zbx} {c : zff} (h : CrtI ks L G bs c) (hp : L <+: L') (hg : ∀ x ∈ G,x ∈ G') (hb : ∀ x ∈ bs,x ∈ bs') : CrtI ks L' G' bs' c := by
 obtain ⟨⟨b,h1,h2,h3⟩,h4,v,h5,h6⟩ := h
 exact ⟨⟨b,hb b h1,h2,h3.pre hp⟩,h4,v,h5,fun k hk => ⟨hg _ (h6 k hk).1,(h6 k hk).2.pre hp⟩⟩
structure ziQ (ks : List Int) (g : zcS) (s : zaP) : Prop where
 ch : ChI s.L g s.bs
 blk : ∀ b ∈ s.bs,BlkI s.L b
 last : s.h = lastH g s.bs
 crt : ∀ c ∈ s.cs,CrtI ks s.L s.G s.bs c
 sg : ∀ x ∈ s.G, 13 ≤ x.key ∨ ∃ c ∈ s.cs,zgM s.L (zfZ 6 0 c.seq c.dig) x.dig
theorem hist0 (ks : List Int) : ziQ ks st0.h st0 := ⟨trivial,by simp [st0],rfl,by simp [st0],by simp [st0]⟩
theorem st0_len : st0.L.length = 2 := by decide +kernel
theorem memF_rng (s : Nat) : ∀ k ∈ memF s, 0 ≤ k ∧ k < 13 := fun k hk => by
 simp only [memF,memN,List.mem_filter] at hk
 exact inF_range hk.2
end Go.Proofs.YtfgbofkdhfjegaaGreat

/- Two quorums have one that is not faulty; a vote's bytes say what it is. No program in sight. -/
namespace Go.AW
end Go.AW

/- What is taken as proved was put: where all but f have signed checkpoints of these blocks alone. No program in sight. -/
set_option maxRecDepth 100000
namespace Go.Proofs.YtfgbofkdhfjegaaGreat
open Go.AW
def zuu (T : zcc) : List (List UInt8) := T.l.map zcN.name
structure ApU (T T' : zcc) (P : List zbb) : Prop where
 nd : (zuu T').Nodup
 mono : ∀ x ∈ T.l, ∃ x' ∈ T'.l,x'.name = x.name ∧ x.next ≤ x'.next
 old : ∀ p ∈ P, ∃ x' ∈ T'.l,x'.name = p.topic ∧ p.offset < x'.next
 new : ∀ p ∈ P, ∀ x ∈ T.l,x.name = p.topic → x.next ≤ p.offset
theorem ApU.trans {T T1 T2 : zcc} {P Q : List zbb} (h : ApU T T1 P) (g : ApU T1 T2 Q) : ApU T T2 (P ++ Q) := by
 refine ⟨g.nd,fun x hx => ?_,fun p hp => ?_,fun p hp x hx hn => ?_⟩
 ·obtain ⟨y,h1,h2,h3⟩ := h.mono x hx
  obtain ⟨z,g1,g2,g3⟩ := g.mono y h1
  exact ⟨z,g1,g2.trans h2,Int.le_trans h3 g3⟩
 ·rcases List.mem_append.1 hp with hp | hp
  ·obtain ⟨y,h1,h2,h3⟩ := h.old p hp
   obtain ⟨z,g1,g2,g3⟩ := g.mono y h1
   exact ⟨z,g1,g2.trans h2,by omega⟩
  ·exact g.old p hp
 ·rcases List.mem_append.1 hp with hp | hp
  ·exact h.new p hp x hx hn
  ·obtain ⟨y,h1,h2,h3⟩ := h.mono x hx
   have := g.new p hp y h1 (h2.trans hn)
   omega
theorem ApU.set {T : zcc} {i : Nat} {x x' : zcN} (h : (zuu T).Nodup) (hx : T.l[i]? = some x) (hn : x'.name = x.name) (hx' : x.next ≤ x'.next) (la : List (Int × Int × Int)) : ApU T ⟨T.l.set i x',la⟩ [] := by
 have hi := (List.getElem?_eq_some_iff.1 hx).1
 refine ⟨?_,fun y hy => ?_,by simp,by simp⟩
 ·have : zuu ⟨T.l.set i x',la⟩ = zuu T := by
   simp only [zuu,List.map_set]
   rw [hn]
   have hg : (T.l.map zcN.name)[i]? = some x.name := by rw [List.getElem?_map,hx]; rfl
   exact zbq hg
  rw [this]; exact h
 ·obtain ⟨j,hj,rfl⟩ := List.mem_iff_getElem.1 hy
  by_cases e : i = j
  ·subst e
   have : T.l[i] = x := (List.getElem?_eq_some_iff.1 hx).2
   refine ⟨x',List.mem_iff_getElem.2 ⟨i,by simpa using hi,by simp⟩,by rw [hn,this],by rw [this]; exact hx'⟩
  ·exact ⟨T.l[j],List.mem_iff_getElem.2 ⟨j,by simpa using hj,by simp [e]⟩,rfl,Int.le_refl _⟩
theorem ApU.last {T T' : zcc} {P : List zbb} (h : ApU T T' P) (la : List (Int × Int × Int)) : ApU T { T' with last := la } P := ⟨h.nd,h.mono,h.old,h.new⟩
structure UqI (s : zaP) : Prop where
 nd : (zuu s.T).Nodup
 old : ∀ b ∈ s.bs, ∀ p ∈ b.placed, ∃ x ∈ s.T.l,x.name = p.topic ∧ p.offset < x.next
 one : ∀ (i j : Nat) (a b : zbx),s.bs[i]? = some a → s.bs[j]? = some b → ∀ p ∈ a.placed, ∀ q ∈ b.placed,p.topic = q.topic → p.offset = q.offset → i = j
theorem plAt_is {t : List UInt8} {o : Int} : ∀ {l : List zbb} {i k : Nat},plAt t o l i = some k → ∃ r,l[k - i]? = some r ∧ r.topic = t ∧ r.offset = o
 | [],_,_,h => by simp [plAt] at h
 | p :: l,i,k,h => by
  simp only [plAt] at h
  split at h
  ·rename_i hp
   cases h
   simp only [isP,Bool.and_eq_true,beq_iff_eq] at hp
   exact ⟨p,by simp,hp⟩
  ·have h1 := (plAt_lt h).1
   obtain ⟨r,h2,h3⟩ := plAt_is h
   exact ⟨r,by rw [show k - i = (k - (i + 1)) + 1 by omega]; simpa using h2,h3⟩
theorem findB_is {t : List UInt8} {o : Int} : ∀ {l : List zbx} {i j k : Nat},zok t o l i = some (j,k) → ∃ b r,l[j - i]? = some b ∧ i ≤ j ∧ b.placed[k]? = some r ∧ r.topic = t ∧ r.offset = o
 | [],_,_,_,h => by simp [zok] at h
 | c :: l,i,j,k,h => by
  simp only [zok] at h
  split at h
  ·rename_i k' hk
   simp only [Option.some.injEq,Prod.mk.injEq] at h
   obtain ⟨rfl,rfl⟩ := h
   obtain ⟨r,h1,h2⟩ := plAt_is hk
   exact ⟨c,r,by simp,Nat.le_refl _,by simpa using h1,h2⟩
  ·obtain ⟨b,r,h1,h2,h3⟩ := findB_is h
   exact ⟨b,r,by rw [show j - i = (j - (i + 1)) + 1 by omega]; simpa using h1,by omega,h3⟩
end Go.Proofs.YtfgbofkdhfjegaaGreat

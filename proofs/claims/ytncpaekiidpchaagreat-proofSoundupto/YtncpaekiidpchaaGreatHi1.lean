/- What the blocks of a beginning are: chained headers, each over its records' tree; who has signed what. No program in sight. -/
import Derived.Test.YtncpaekiidpchaaGreatBt1
import Derived.Test.YtncpaekiidpchaaGreatCk3
import Derived.Test.YtncpaekiidpchaaGreatLaw23c
import Derived.Test.YtncpaekiidpchaaGreatSpBulk
import Derived.Test.YtncpaekiidpchaaGreatSpVote
import Derived.Test.YtncpaekiidpchaaGreatSpUtf
set_option linter.all false
set_option maxRecDepth 100000
namespace Go.Proofs.YtncpaekiidpchaaGreat
open Go.AW
theorem atF_name {n : List UInt8} : ∀ {l : List zcF} {j k : Nat},atF n l j = some k → ∃ x,l[k - j]? = some x ∧ x.name = n
 | [],_,_,h => by simp [atF] at h
 | x :: r,j,k,h => by
  simp only [atF] at h
  split at h
  ·rename_i e
   cases h
   exact ⟨x,by simp,by simpa using e⟩
  ·obtain ⟨y,h1,h2⟩ := atF_name h
   have := (atF_lt h).1
   exact ⟨y,by rw [show k - j = (k - (j + 1)) + 1 by omega]; simpa using h1,h2⟩
theorem zpo {t : List UInt8} : ∀ {l : List (List UInt8)} {o : Int}, ∀ p ∈ ziv t o l,p.topic = t
 | [],_,p,h => by simp [ziv] at h
 | r :: l,o,p,h => by
  rcases List.mem_cons.1 h with rfl | h
  ·rfl
  ·exact zpo p h
theorem check_recs {o : TOp} (h : zaT zdM o = 0) (hk : o.kind = 2) : o.recs.length ≤ 4 := by
 unfold zaT at h
 split at h
 ·simp at h
 ·split at h
  ·simp at h
  ·split at h
   ·simp at h
   ·split at h
    ·simp at h
    ·rename_i h4
     rcases Nat.lt_or_ge 4 o.recs.length with hl | hl
     ·exact absurd ⟨hk, .inr (.inl hl)⟩ h4
     ·exact hl
theorem doesN (T : zbG) (o : TOp) : (∀ p ∈ (zck T o).2.1,zdM p.topic = true) ∧ (zck T o).2.1.length ≤ 4 := by
 unfold zck
 split
 ·simp
 ·rename_i hc
  have hc : zaT zdM o = 0 := by simpa using hc
  split
  ·simp
  ·rename_i hk0
   split
   ·simp
   ·split
    ·simp
    ·rename_i i hi
     split
     ·simp
     ·rename_i x hx
      split
      ·rename_i hk
       unfold zdb
       split
       ·simp
       ·obtain ⟨y,h1,h2⟩ := atF_name hi
        rw [Nat.sub_zero,hx] at h1
        cases h1
        refine ⟨fun p hp => ?_, ?_⟩
        ·rw [zpo p hp,h2]
         exact (check0 hc).2.2.1 hk0
        ·rw [zlA]; exact check_recs hc hk
      ·split <;> simp
theorem applyN (T : zbG) (c tm : Int) (o : TOp) : (∀ p ∈ (zbL T c tm o).2.1,zdM p.topic = true) ∧ (zbL T c tm o).2.1.length ≤ 4 := by
 unfold zbL
 repeat' split
 all_goals first | (simp; done) | exact doesN T o
theorem applyAllN : ∀ (l : List zn) (T : zbG),(∀ p ∈ (zW T l).1,zdM p.topic = true) ∧ (zW T l).1.length ≤ l.length * 4
 | [],_ => by simp [zW]
 | x :: l,T => by
  obtain ⟨h1,h2⟩ := applyN T x.client x.time x.op
  obtain ⟨h3,h4⟩ := applyAllN l (zbL T x.client x.time x.op).2.2.2
  refine ⟨fun p hp => ?_, ?_⟩
  ·simp only [zW] at hp
   rcases List.mem_append.1 hp with hp | hp
   ·exact h1 p hp
   ·exact h3 p hp
  ·simp only [zW,List.length_append,List.length_cons]; omega
structure BlkI (L : List (List UInt8)) (b : zbM) : Prop where
 ok : zfH b.header = true
 root : zhE L (b.placed.map zao) b.header.root
 pl : ∀ p ∈ b.placed,PlI p ∧ zdM p.topic = true
 cnt : b.placed.length ≤ 16
theorem BlkI.pre {L L' : List (List UInt8)} {b : zbM} (h : BlkI L b) (hp : L <+: L') : BlkI L' b := ⟨h.ok,h.root.pre hp,h.pl,h.cnt⟩
def LinkI (L : List (List UInt8)) (q h : zcJ) : Prop := zdU L (zlG q) h.prev ∧ h.seq = q.seq + 1
def lastH : zcJ → List zbM → zcJ
 | q, [] => q
 | _,b :: r => lastH b.header r
def ChI (L : List (List UInt8)) : zcJ → List zbM → Prop
 | _, [] => True
 | q,b :: r => LinkI L q b.header ∧ ChI L b.header r
theorem ChI.pre {L L' : List (List UInt8)} (hp : L <+: L') : ∀ {bs : List zbM} {q : zcJ},ChI L q bs → ChI L' q bs
 | [],_,_ => trivial
 | b :: r,q,h => ⟨⟨h.1.1.pre hp,h.1.2⟩,ChI.pre hp h.2⟩
theorem ChI.snoc {L : List (List UInt8)} {b : zbM} : ∀ {bs : List zbM} {q : zcJ},ChI L q bs → LinkI L (lastH q bs) b.header → ChI L q (bs ++ [b])
 | [],_,_,h => ⟨h,trivial⟩
 | c :: r,q,h,hl => ⟨h.1,ChI.snoc h.2 hl⟩
theorem zoQ {b : zbM} : ∀ {bs : List zbM} {q : zcJ},lastH q (bs ++ [b]) = b.header
 | [],_ => rfl
 | c :: r,q => zoQ (bs := r) (q := c.header)
theorem digL_pre (L : List (List UInt8)) (l : List zn) : L <+: zjH L l ∧ (zjH L l).length ≤ L.length + 1 := by
 unfold zjH
 split
 ·exact ⟨List.prefix_refl L,by omega⟩
 ·exact ⟨zeS ..,zid ..⟩
theorem hdigL_pre (L : List (List UInt8)) (h : zcJ) : L <+: zcQ L h ∧ (zcQ L h).length ≤ L.length + 1 := by
 unfold zcQ
 split
 ·exact ⟨List.prefix_refl L,by omega⟩
 ·exact ⟨zeS ..,zid ..⟩
theorem ztU {L : List (List UInt8)} {b : List UInt8} (h : L.length ≤ 1048576) : 0 ≤ zcK L b ∧ zcK L b ≤ 1048577 := by
 unfold zcK
 split
 ·rename_i i hi; have := (zgJ hi).1; omega
 ·split <;> omega
theorem exec_hist {L : List (List UInt8)} {T : zbG} {h : zcJ} {b : List zn} (hT : zga T) (hL : L.length + 600 ≤ 1048576) :
  L <+: (zdn L T h b).L ∧ (zdn L T h b).L.length ≤ L.length + 520 ∧
  ((zdn L T h b).e = 0 → BlkI (zdn L T h b).L ⟨(zdn L T h b).h,b,(zdn L T h b).p⟩ ∧ LinkI (zdn L T h b).L h (zdn L T h b).h) := by
 obtain ⟨d1,d2⟩ := digL_pre L b
 obtain ⟨d3,d4⟩ := hdigL_pre (zjH L b) h
 unfold zdn
 split
 ·rename_i c0; exact ⟨List.prefix_refl L,by simp only; omega,fun e => absurd e c0⟩
 rename_i c0
 have c0 : zaH h = 0 := Classical.not_not.1 c0
 split
 ·exact ⟨List.prefix_refl L,by simp only; omega,fun e => by simp at e⟩
 rename_i c1
 split
 ·rename_i c2; exact ⟨d1,by simp only; omega,fun e => absurd e c2⟩
 rename_i c2
 have c2 : digE L b = 0 := Classical.not_not.1 c2
 split
 ·rename_i c3; exact ⟨d1.trans d3,by simp only; omega,fun e => absurd e c3⟩
 rename_i c3
 have c3 : hdigE (zjH L b) h = 0 := Classical.not_not.1 c3
 have hb4 := dig_len c2
 have p1 := zlb b hT
 have p2 := applyAllN b T
 have hn : ((zW T b).1.map zao).length ≤ 16 := by rw [List.length_map]; have := p2.2; omega
 obtain ⟨r1,r2,r3,_⟩ := root_at ((zW T b).1.map zao).length (L := zcQ (zjH L b) h) (l := (zW T b).1.map zao) (Nat.le_refl _) (by omega)
 have s1 := zeS (rootF (zcQ (zjH L b) h) ((zW T b).1.map zao)).2 (zev (zW T b).2)
 have s2 := zid (rootF (zcQ (zjH L b) h) ((zW T b).1.map zao)).2 (zev (zW T b).2)
 simp only
 split
 ·exact ⟨((d1.trans d3).trans r2).trans s1,by simp only; omega,fun e => by simp at e⟩
 ·rename_i c4
  refine ⟨((d1.trans d3).trans r2).trans s1,by simp only; omega,fun _ => ⟨⟨?_,r1.pre s1,fun p hp => ⟨p1.1 p hp,p2.1 p hp⟩,by simp only; have := p2.2; omega⟩, ?_,rfl⟩⟩
  ·have hseq := zdI (zdo.1 c0) h.seq (by simp [zji])
   have g1 : zcv (h.seq + 1) = true := zdl.2 (by omega)
   have g2 : zcv (ziD (zjH L b) h) = true := by
    rw [ziD,if_neg (by simp [c0])]
    have := ztU (L := zjH L b) (b := zlG h) (by omega)
    exact zdl.2 (by omega)
   have g3 : zcv (digD L b) = true := by
    have hcb : ¬ zam b ≠ 0 := fun hc => by rw [digE,if_pos hc] at c2; exact hc c2
    rw [digD,if_neg hcb]
    have := ztU (L := L) (b := ziV b) (by omega)
    exact zdl.2 (by omega)
   have g4 := r1.num
   have g4' : zcv (rootF (zcQ (zjH L b) h) ((zW T b).1.map zao)).1 = true := zdl.2 (by omega)
   have g5 := ztU (L := (rootF (zcQ (zjH L b) h) ((zW T b).1.map zao)).2) (b := zev (zW T b).2) (by omega)
   have g5' : zcv (zcK (rootF (zcQ (zjH L b) h) ((zW T b).1.map zao)).2 (zev (zW T b).2)) = true := zdl.2 (by omega)
   simp [zfH,zji,g1,g2,g3,g4',g5']
  ·have e1 : ziD (zjH L b) h = zcK (zjH L b) (zlG h) := by rw [ziD,if_neg (by simp [c0])]
   have e2 : zcQ (zjH L b) h = zdD (zjH L b) (zlG h) := by rw [zcQ,if_neg (by simp [c0])]
   have n0 : zcK (zjH L b) (zlG h) ≠ 0 := zqx (by omega)
   show zdU _ (zlG h) (ziD (zjH L b) h)
   rw [e1]
   have := zqw n0
   rw [← e2] at this
   exact this.pre (r2.trans s1)
theorem signL_mem' {G : List zJ} {s x : zJ} (h : x ∈ zkp G s) : x ∈ G ∨ x = s := by
 unfold zkp at h
 split at h
 ·exact .inl h
 ·rcases List.mem_append.1 h with h | h
  ·exact .inl h
  ·exact .inr (by simpa using h)
theorem zqA (G : List zJ) (s : zJ) : ∀ x ∈ G,x ∈ zkp G s := fun x hx => by
 unfold zkp
 split
 ·exact hx
 ·exact List.mem_append_left _ hx
theorem zst (G : List zJ) (s : zJ) : s ∈ zkp G s := by
 unfold zkp
 split
 ·assumption
 ·simp
theorem signG_mem' {G : List zJ} {k d : Int} {x : zJ} (h : x ∈ zew G k d) : x ∈ G ∨ (x = ⟨k,d⟩ ∧ zdx k d = 0) := by
 unfold zew at h
 split at h
 ·rename_i e
  rcases signL_mem' h with h | h
  ·exact .inl h
  ·exact .inr ⟨h,e⟩
 ·exact .inl h
theorem signG_sub (G : List zJ) (k d : Int) : ∀ x ∈ G,x ∈ zew G k d := fun x hx => by
 unfold zew
 split
 ·exact zqA _ _ x hx
 ·exact hx
theorem keyF_sign' {c d : Int} (h : zdx (keyF c) d = 0) : 13 ≤ keyF c := by
 unfold zdx at h
 unfold keyF at h ⊢
 split
 ·rename_i e; rw [if_pos e] at h; simp at h
 ·omega
theorem seHist : ∀ (l : List zn) (s : List (List UInt8) × List zJ × List zn),s.1 <+: (l.foldl seR s).1 ∧ (l.foldl seR s).1.length ≤ s.1.length + l.length ∧ (∀ x ∈ (l.foldl seR s).2.1,x ∈ s.2.1 ∨ 13 ≤ x.key) ∧ (∀ x ∈ s.2.1,x ∈ (l.foldl seR s).2.1)
 | [],s => ⟨List.prefix_refl _,by simp,fun x h => .inl h,fun x h => h⟩
 | r :: l,s => by
  obtain ⟨h1,h2,h3,h4⟩ := seHist l (seR s r)
  have g1 : s.1 <+: (seR s r).1 ∧ (seR s r).1.length ≤ s.1.length + 1 := by
   simp only [seR,sealL]
   split
   ·exact ⟨List.prefix_refl _,by omega⟩
   ·exact ⟨zeS ..,zid ..⟩
  have g2 : ∀ x ∈ (seR s r).2.1,x ∈ s.2.1 ∨ 13 ≤ x.key := fun x hx => by
   simp only [seR,zsb] at hx
   split at hx
   ·exact .inl hx
   ·rcases signG_mem' hx with hx | ⟨rfl,e⟩
    ·exact .inl hx
    ·exact .inr (keyF_sign' e)
  have g3 : ∀ x ∈ s.2.1,x ∈ (seR s r).2.1 := fun x hx => by
   simp only [seR,zsb]
   split
   ·exact hx
   ·exact signG_sub _ _ _ x hx
  refine ⟨g1.1.trans h1, ?_,fun x hx => ?_,fun x hx => h4 x (g3 x hx)⟩
  ·simp only [List.foldl_cons,List.length_cons]; omega
  ·rcases h3 x hx with hx | hx
   ·exact g2 x hx
   ·exact .inr hx
theorem voHist {seq d : Int} (hm : zmM 6 0 seq d = true) : ∀ (ks : List Int) (s : List (List UInt8) × List zJ × List zJ),(∀ k ∈ ks, 0 ≤ k ∧ k < 13) → s.1.length < 1048576 → ∀ v,zdU s.1 (zdC 6 0 seq d) v →
  (ks.foldl (voR seq d) s).1 = s.1 ∧ (∀ x ∈ (ks.foldl (voR seq d) s).2.1,x ∈ s.2.1 ∨ x.dig = v) ∧ (∀ x ∈ s.2.1,x ∈ (ks.foldl (voR seq d) s).2.1) ∧ (ks.foldl (voR seq d) s).2.2 = s.2.2 ++ ks.map (fun k => ⟨k,v⟩) ∧ ∀ k ∈ ks,(⟨k,v⟩ : zJ) ∈ (ks.foldl (voR seq d) s).2.1
 | [],s,_,_,v,_ => ⟨rfl,fun x h => .inl h,fun x h => h,by simp,by simp⟩
 | k :: ks,s,hk,hl,v,hv => by
  obtain ⟨e1,e2⟩ := hv.sum
  have v1 := hv.pos
  have k1 := hk k (by simp)
  have sf : zdx k v = 0 := by rw [zdx,if_neg (by omega),if_neg (by omega)]
  have sr : signR k v = ⟨k,v⟩ := by rw [signR,if_pos sf]
  have n0 : ¬ zcK s.1 (zdC 6 0 seq d) = 0 := by rw [e1]; omega
  have g1 : (voR seq d s k).1 = s.1 := by simp only [voR,votL,if_pos hm,e2]
  have g2 : (voR seq d s k).2.1 = zkp s.2.1 ⟨k,v⟩ := by
   simp only [voR,votG,if_pos hm,sgnG]
   rw [if_neg n0,e1,zew,if_pos sf]
  have g3 : (voR seq d s k).2.2 = s.2.2 ++ [⟨k,v⟩] := by
   simp only [voR,ztR,zso,if_pos hm,sgnE,sgnS]
   rw [if_neg n0,if_neg n0,e1,if_pos sf,sr]
  obtain ⟨h1,h2,h3,h4,h5⟩ := voHist hm ks (voR seq d s k) (fun j hj => hk j (by simp [hj])) (by rw [g1]; exact hl) v (by rw [g1]; exact hv)
  refine ⟨h1.trans g1,fun x hx => ?_,fun x hx => h3 x (by rw [g2]; exact zqA _ _ x hx), ?_,fun j hj => ?_⟩
  ·rcases h2 x hx with hx | hx
   ·rw [g2] at hx
    rcases signL_mem' hx with hx | rfl
    ·exact .inl hx
    ·exact .inr rfl
   ·exact .inr hx
  ·simp only [List.foldl_cons,List.map_cons]
   rw [h4,g3]; simp
  ·rcases List.mem_cons.1 hj with rfl | hj
   ·exact h3 _ (by rw [g2]; exact zst _ _)
   ·exact h5 j hj
end Go.Proofs.YtncpaekiidpchaaGreat

/- The history of a beginning, round by round. No program in sight. -/
set_option maxRecDepth 100000
namespace Go.Proofs.YtncpaekiidpchaaGreat
open Go.AW
theorem voHist0 {seq d : Int} (hm : zmM 6 0 seq d = true) (ks : List Int) (s : List (List UInt8) × List zJ × List zJ) (hk : ∀ k ∈ ks, 0 ≤ k ∧ k < 13) (hl : s.1.length + 1 < 1048576) :
  ∃ v,s.1 <+: (ks.foldl (voR seq d) s).1 ∧ (ks.foldl (voR seq d) s).1.length ≤ s.1.length + 1 ∧ (∀ x ∈ (ks.foldl (voR seq d) s).2.1,x ∈ s.2.1 ∨ (x.dig = v ∧ zdU (ks.foldl (voR seq d) s).1 (zdC 6 0 seq d) v)) ∧
   (∀ x ∈ s.2.1,x ∈ (ks.foldl (voR seq d) s).2.1) ∧ (ks.foldl (voR seq d) s).2.2 = s.2.2 ++ ks.map (fun k => ⟨k,v⟩) ∧ ∀ k ∈ ks,(⟨k,v⟩ : zJ) ∈ (ks.foldl (voR seq d) s).2.1 ∧ zdU (ks.foldl (voR seq d) s).1 (zdC 6 0 seq d) v := by
 cases ks with
 | nil => exact ⟨0,List.prefix_refl _,by simp,fun x h => .inl h,fun x h => h,by simp,by simp⟩
 | cons k ks =>
  have n0 : zcK s.1 (zdC 6 0 seq d) ≠ 0 := zqx (by omega)
  have hv := zqw n0
  obtain ⟨v,hve⟩ : ∃ v,zcK s.1 (zdC 6 0 seq d) = v := ⟨_,rfl⟩
  rw [hve] at hv n0
  have hle := zid s.1 (zdC 6 0 seq d)
  have v1 := hv.pos
  have k1 := hk k (by simp)
  have sf : zdx k v = 0 := by rw [zdx,if_neg (by omega),if_neg (by omega)]
  have sr : signR k v = ⟨k,v⟩ := by rw [signR,if_pos sf]
  have g1 : (voR seq d s k).1 = zdD s.1 (zdC 6 0 seq d) := by simp only [voR,votL,if_pos hm]
  have g2 : (voR seq d s k).2.1 = zkp s.2.1 ⟨k,v⟩ := by
   simp only [voR,votG,if_pos hm,sgnG,hve]
   rw [if_neg n0,zew,if_pos sf]
  have g3 : (voR seq d s k).2.2 = s.2.2 ++ [⟨k,v⟩] := by
   simp only [voR,ztR,zso,if_pos hm,sgnE,sgnS,hve]
   rw [if_neg n0,if_neg n0,if_pos sf,sr]
  obtain ⟨h1,h2,h3,h4,h5⟩ := voHist hm ks (voR seq d s k) (fun j hj => hk j (by simp [hj])) (by rw [g1]; omega) v (by rw [g1]; exact hv)
  have hE : zdU ((k :: ks).foldl (voR seq d) s).1 (zdC 6 0 seq d) v := by rw [List.foldl_cons,h1,g1]; exact hv
  refine ⟨v, ?_, ?_,fun x hx => ?_,fun x hx => h3 x (by rw [g2]; exact zqA _ _ x hx), ?_,fun j hj => ⟨?_,hE⟩⟩
  ·rw [List.foldl_cons,h1,g1]; exact zeS ..
  ·rw [List.foldl_cons,h1,g1]; exact hle
  ·rcases h2 x hx with hx | hx
   ·rw [g2] at hx
    rcases signL_mem' hx with hx | rfl
    ·exact .inl hx
    ·exact .inr ⟨rfl,hE⟩
   ·exact .inr ⟨hx,hE⟩
  ·rw [List.foldl_cons,h4,g3]; simp
  ·rcases List.mem_cons.1 hj with rfl | hj
   ·exact h3 _ (by rw [g2]; exact zst _ _)
   ·exact h5 j hj
structure CrtI (ks : List Int) (L : List (List UInt8)) (G : List zJ) (bs : List zbM) (c : zfN) : Prop where
 blk : ∃ b ∈ bs,c.seq = b.header.seq ∧ zdU L (zlG b.header) c.dig
 four : c.seq.tmod 4 = 0
 sgs : ∃ v,c.signs = ks.map (fun k => ⟨k,v⟩) ∧ ∀ k ∈ ks,(⟨k,v⟩ : zJ) ∈ G ∧ zdU L (zdC 6 0 c.seq c.dig) v
theorem CrtI.pre {ks : List Int} {L L' : List (List UInt8)} {G G' : List zJ} {bs bs' : List zbM} {c : zfN} (h : CrtI ks L G bs c) (hp : L <+: L') (hg : ∀ x ∈ G,x ∈ G') (hb : ∀ x ∈ bs,x ∈ bs') : CrtI ks L' G' bs' c := by
 obtain ⟨⟨b,h1,h2,h3⟩,h4,v,h5,h6⟩ := h
 exact ⟨⟨b,hb b h1,h2,h3.pre hp⟩,h4,v,h5,fun k hk => ⟨hg _ (h6 k hk).1,(h6 k hk).2.pre hp⟩⟩
structure HistI (ks : List Int) (g : zcJ) (s : zed) : Prop where
 ch : ChI s.L g s.bs
 blk : ∀ b ∈ s.bs,BlkI s.L b
 last : s.h = lastH g s.bs
 crt : ∀ c ∈ s.cs,CrtI ks s.L s.G s.bs c
 sg : ∀ x ∈ s.G, 13 ≤ x.key ∨ ∃ c ∈ s.cs,zdU s.L (zdC 6 0 c.seq c.dig) x.dig
theorem histI {ks : List Int} {g : zcJ} {s : zed} {l : List zn} (h : HistI ks g s) (hT : zga s.T) (hk : ∀ k ∈ ks, 0 ≤ k ∧ k < 13) (hlen : s.L.length + l.length + 1200 ≤ 1048576) :
  HistI ks g (stR ks s l) ∧ (stR ks s l).L.length ≤ s.L.length + l.length + 530 := by
 obtain ⟨a1,a2,a3,a4⟩ := seHist l (s.L,s.G, [])
 obtain ⟨t,ht⟩ : ∃ t,l.foldl seR (s.L,s.G, []) = t := ⟨_,rfl⟩
 have hst : stR ks s l = stX ks s t (zdn t.1 s.T s.h t.2.2) := by rw [← ht]; rfl
 rw [hst]
 rw [ht] at a1 a2 a3 a4
 simp only at a1 a2 a3 a4
 obtain ⟨e1,e2,e3⟩ := exec_hist (h := s.h) (b := t.2.2) hT (L := t.1) (by omega)
 obtain ⟨r,hr⟩ : ∃ r,zdn t.1 s.T s.h t.2.2 = r := ⟨_,rfl⟩
 rw [hr] at e1 e2 e3 ⊢
 have hp := a1.trans e1
 have hsg : ∀ {L' : List (List UInt8)} {G' : List zJ} {cs' : List zfN},s.L <+: L' → (∀ x ∈ G',x ∈ s.G ∨ 13 ≤ x.key) → (∀ c ∈ s.cs,c ∈ cs') → ∀ x ∈ G', 13 ≤ x.key ∨ ∃ c ∈ cs',zdU L' (zdC 6 0 c.seq c.dig) x.dig := fun hL hG hc x hx => by
  rcases hG x hx with hx | hx
  ·rcases h.sg x hx with h1 | ⟨c,h1,h2⟩
   ·exact .inl h1
   ·exact .inr ⟨c,hc c h1,h2.pre hL⟩
  ·exact .inl hx
 unfold stX
 split
 ·refine ⟨⟨h.ch.pre hp,fun b hb => (h.blk b hb).pre hp,h.last,fun c hc => (h.crt c hc).pre hp a4 fun x hx => hx,hsg hp a3 fun c hc => hc⟩,by simp only; omega⟩
 rename_i he
 have he : r.e = 0 := Classical.not_not.1 he
 obtain ⟨b1,b2⟩ := e3 he
 have hblk : ∀ {L' : List (List UInt8)},r.L <+: L' → ∀ b ∈ s.bs ++ [⟨r.h,t.2.2,r.p⟩],BlkI L' b := fun hL b hb => by
  rcases List.mem_append.1 hb with hb | hb
  ·exact (h.blk b hb).pre (hp.trans hL)
  ·simp only [List.mem_singleton] at hb; subst hb; exact b1.pre hL
 have hch : ∀ {L' : List (List UInt8)},r.L <+: L' → ChI L' g (s.bs ++ [⟨r.h,t.2.2,r.p⟩]) := fun hL => by
  refine ChI.snoc (h.ch.pre (hp.trans hL)) ?_
  rw [← h.last]
  exact ⟨b2.1.pre hL,b2.2⟩
 split
 ·rename_i h4
  refine ⟨⟨hch (List.prefix_refl _),hblk (List.prefix_refl _),(zoQ (b := ⟨r.h,t.2.2,r.p⟩)).symm,fun c hc => (h.crt c hc).pre hp a4 fun x hx => List.mem_append_left _ hx,hsg hp a3 fun c hc => hc⟩,by simp only; omega⟩
 ·rename_i h4
  have h4 : r.h.seq.tmod 4 = 0 := Classical.not_not.1 h4
  obtain ⟨d1,d2⟩ := hdigL_pre r.L r.h
  have hok := b1.ok
  have hc0 : zaH r.h = 0 := zdo.2 hok
  have hd : ziD r.L r.h = zcK r.L (zlG r.h) := by rw [ziD,if_neg (by simp [hc0])]
  have hdl : zcQ r.L r.h = zdD r.L (zlG r.h) := by rw [zcQ,if_neg (by simp [hc0])]
  have hn : zdU (zcQ r.L r.h) (zlG r.h) (ziD r.L r.h) := by rw [hd,hdl]; exact zqw (zqx (by omega))
  have hseq := zdI hok r.h.seq (by simp [zji])
  have hdp := hn.pos
  have hm : zmM 6 0 r.h.seq (ziD r.L r.h) = true := by
   simp only [zmM,Bool.and_eq_true,zdl]
   omega
  obtain ⟨v,v1,v2,v3,v4,v5,v6⟩ := voHist0 hm ks (zcQ r.L r.h,t.2.1, []) hk (by simp only; omega)
  simp only at v1 v2 v3 v4 v5 v6 ⊢
  obtain ⟨E,hE⟩ : ∃ E,ks.foldl (voR r.h.seq (ziD r.L r.h)) (zcQ r.L r.h,t.2.1, []) = E := ⟨_,rfl⟩
  rw [hE] at v1 v2 v3 v4 v5 v6 ⊢
  have hq := d1.trans v1
  refine ⟨⟨hch hq,hblk hq,(zoQ (b := ⟨r.h,t.2.2,r.p⟩)).symm,fun c hc => ?_,fun x hx => ?_⟩,by omega⟩
  ·simp only at hc
   rcases List.mem_append.1 hc with hc | hc
   ·exact (h.crt c hc).pre (hp.trans hq) (fun x hx => v4 x (a4 x hx)) fun x hx => List.mem_append_left _ hx
   ·simp only [List.mem_singleton] at hc
    subst hc
    exact ⟨⟨⟨r.h,t.2.2,r.p⟩,by simp,rfl,hn.pre v1⟩,h4,v,by rw [v5]; simp,fun k hk => v6 k hk⟩
  ·simp only at hx ⊢
   rcases v3 x hx with hx | ⟨hx,hx2⟩
   ·rcases a3 x hx with hx | hx
    ·rcases h.sg x hx with h1 | ⟨c,h1,h2⟩
     ·exact .inl h1
     ·exact .inr ⟨c,List.mem_append_left _ h1,h2.pre (hp.trans hq)⟩
    ·exact .inl hx
   ·exact .inr ⟨_,List.mem_append_right _ (List.mem_singleton.2 rfl),by rw [hx]; exact hx2⟩
theorem foldHist {ks : List Int} {g : zcJ} {N m : Nat} : ∀ {bats : List (List zn)} {s : zed} {N m : Nat},HistI ks g s → StI N m s → (∀ l ∈ bats, ∀ x ∈ l,zkr x.op ≤ 20971520) → ks.length ≤ 13 → (∀ k ∈ ks, 0 ≤ k ∧ k < 13) → s.L.length + (bats.map List.length).sum + 530 * bats.length + 1200 ≤ 1048576 →
  HistI ks g (bats.foldl (stR ks) s) ∧ (bats.foldl (stR ks) s).L.length ≤ s.L.length + (bats.map List.length).sum + 530 * bats.length
 | [],s,_,_,h,_,_,_,_,_ => ⟨h,by simp⟩
 | l :: bats,s,N,m,h,hI,hx,hk,hr,hl => by
  simp only [List.map_cons,List.sum_cons,List.length_cons] at hl
  obtain ⟨h1,h2⟩ := histI (l := l) h hI.tops hr (by omega)
  obtain ⟨h3,h4⟩ := foldHist (m := m) (N := N) (bats := bats) h1 (stI hI (hx l (by simp)) hk) (fun l' h' => hx l' (by simp [h'])) hk hr (by omega)
  refine ⟨h3, ?_⟩
  simp only [List.foldl_cons,List.map_cons,List.sum_cons,List.length_cons]
  omega
theorem hist0 (ks : List Int) : HistI ks st0.h st0 := ⟨trivial,by simp [st0],rfl,by simp [st0],by simp [st0]⟩
theorem st0_len : st0.L.length = 2 := by decide +kernel
theorem st0_h : st0.h.seq = 0 ∧ zfH st0.h = true := by decide +kernel
theorem memF_rng (s : Nat) : ∀ k ∈ memF s, 0 ≤ k ∧ k < 13 := fun k hk => by
 simp only [memF,memN,List.mem_filter] at hk
 exact zqV hk.2
end Go.Proofs.YtncpaekiidpchaaGreat

/- Two quorums have one that is not faulty; a vote's bytes say what it is. No program in sight. -/
namespace Go.AW
theorem zmE : ∀ (n : Nat) (A : List Int),A.Nodup → (∀ x ∈ A, 0 ≤ x ∧ x < n) → A.length ≤ (zfk n).countP (fun i => decide (i ∈ A))
 | 0,A,_,h => by
  cases A with
  | nil => simp
  | cons x A => have := h x (by simp); omega
 | n + 1,A,hA,h => by
  have hE : (A.erase (n : Int)).Nodup := hA.erase _
  have ih := zmE n (A.erase (n : Int)) hE fun x hx => by
   have := (List.Nodup.mem_erase_iff hA).1 hx
   have := h x this.2
   omega
  have hm : (zfk n).countP (fun i => decide (i ∈ A.erase (n : Int))) ≤ (zfk n).countP (fun i => decide (i ∈ A)) :=
   List.countP_mono_left fun x hx hp => by
    have hp : x ∈ A.erase (n : Int) := by simpa using hp
    simpa using List.mem_of_mem_erase hp
  rw [zom,List.countP_append]
  by_cases hn : (n : Int) ∈ A
  ·have e : [(n : Int)].countP (fun i => decide (i ∈ A)) = 1 := by simp [List.countP_cons,hn]
   have l := List.length_erase_of_mem hn
   have : 0 < A.length := List.length_pos_of_mem hn
   omega
  ·rw [List.erase_of_not_mem hn] at ih hm
   omega
theorem count_two {α : Type} (a b c : α → Bool) : ∀ (R : List α),(∀ i ∈ R,a i = true → b i = true → c i = true) → R.countP a + R.countP b ≤ R.length + R.countP c
 | [],_ => by simp
 | x :: R,h => by
  have ih := count_two a b c R fun i hi => h i (by simp [hi])
  have hx := h x (by simp)
  simp only [List.countP_cons,List.length_cons]
  cases ha : a x <;> cases hb : b x <;> cases hc : c x <;> simp_all <;> omega
theorem quo_meet {f : Nat} {A B : List Int} {bad : Int → Bool} (hA : A.Nodup) (hB : B.Nodup) (rA : ∀ x ∈ A, 0 ≤ x ∧ x < ((3 * f + 1 : Nat) : Int)) (rB : ∀ x ∈ B, 0 ≤ x ∧ x < ((3 * f + 1 : Nat) : Int))
  (lA : 2 * f + 1 ≤ A.length) (lB : 2 * f + 1 ≤ B.length) (hf : (zfk (3 * f + 1)).countP bad ≤ f) : ∃ k,k ∈ A ∧ k ∈ B ∧ bad k = false := by
 rcases Classical.em (∃ k,k ∈ A ∧ k ∈ B ∧ bad k = false) with h | h
 ·exact h
 ·exfalso
  have h1 := zmE _ A hA rA
  have h2 := zmE _ B hB rB
  have h3 := count_two (fun i => decide (i ∈ A)) (fun i => decide (i ∈ B)) bad (zfk (3 * f + 1)) fun i _ ha hb => by
   cases hc : bad i with
   | true => rfl
   | false => exact absurd ⟨i,by simpa using ha,by simpa using hb,hc⟩ h
  have h4 : (zfk (3 * f + 1)).length = 3 * f + 1 := by simp [zfk]
  omega
theorem zfF {x : Int} (h : zcv x = true) : 0 ≤ x ∧ x.toNat < 18446744073709551616 := by
 have := zdl.1 h
 omega
theorem voteB_inj {a b c d a' b' c' d' : Int} (h : zmM a b c d = true) (h' : zmM a' b' c' d' = true) (e : zdC a b c d = zdC a' b' c' d') : a = a' ∧ b = b' ∧ c = c' ∧ d = d' := by
 simp only [zmM,Bool.and_eq_true] at h h'
 obtain ⟨h1,h2,h3,h4⟩ := h
 obtain ⟨g1,g2,g3,g4⟩ := h'
 have q1 := zfF h1; have q2 := zfF h2; have q3 := zfF h3; have q4 := zfF h4
 have p1 := zfF g1; have p2 := zfF g2; have p3 := zfF g3; have p4 := zfF g4
 simp only [zdC,zfE,List.map_cons,List.map_nil,List.flatten_cons,List.flatten_nil,List.append_nil,List.cons.injEq,true_and] at e
 obtain ⟨e1,e⟩ := zdc q1.2 p1.2 e
 obtain ⟨e2,e⟩ := zdc q2.2 p2.2 e
 obtain ⟨e3,e⟩ := zdc q3.2 p3.2 e
 have e' : zbO d.toNat ++ [] = zbO d'.toNat ++ [] := by simpa using e
 obtain ⟨e4,_⟩ := zdc q4.2 p4.2 e'
 omega
end Go.AW

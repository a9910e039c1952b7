/- The history of a beginning, round by round. No program in sight. -/
import Derived.Test.YtncpaekiidpchaaGreatLaw23c
import Derived.Test.YtncpaekiidpchaaGreatSpBulk
import Derived.Test.YtncpaekiidpchaaGreatSpVote
import Derived.Test.YtncpaekiidpchaaGreatSpUtf
import Derived.Test.YtncpaekiidpchaaGreatBt1
import Derived.Test.YtncpaekiidpchaaGreatPt2
import Derived.Test.YtncpaekiidpchaaGreatCodec1
set_option linter.all false
set_option maxRecDepth 100000
namespace Go.Proofs.YtncpaekiidpchaaGreat
open Go.AW
theorem voHist0 {seq d : Int} (hm : zog 6 0 seq d = true) (ks : List Int) (s : List (List UInt8) × List zJ × List zJ) (hk : ∀ k ∈ ks, 0 ≤ k ∧ k < 13) (hl : s.1.length + 1 < 1048576) :
  ∃ v,s.1 <+: (ks.foldl (voR seq d) s).1 ∧ (ks.foldl (voR seq d) s).1.length ≤ s.1.length + 1 ∧ (∀ x ∈ (ks.foldl (voR seq d) s).2.1,x ∈ s.2.1 ∨ (x.dig = v ∧ zfb (ks.foldl (voR seq d) s).1 (zeK 6 0 seq d) v)) ∧
   (∀ x ∈ s.2.1,x ∈ (ks.foldl (voR seq d) s).2.1) ∧ (ks.foldl (voR seq d) s).2.2 = s.2.2 ++ ks.map (fun k => ⟨k,v⟩) ∧ ∀ k ∈ ks,(⟨k,v⟩ : zJ) ∈ (ks.foldl (voR seq d) s).2.1 ∧ zfb (ks.foldl (voR seq d) s).1 (zeK 6 0 seq d) v := by
 cases ks with
 | nil => exact ⟨0,List.prefix_refl _,by simp,fun x h => .inl h,fun x h => h,by simp,by simp⟩
 | cons k ks =>
  have n0 : zcI s.1 (zeK 6 0 seq d) ≠ 0 := zqq (by omega)
  have hv := zqp n0
  obtain ⟨v,hve⟩ : ∃ v,zcI s.1 (zeK 6 0 seq d) = v := ⟨_,rfl⟩
  rw [hve] at hv n0
  have hle := zib s.1 (zeK 6 0 seq d)
  have v1 := hv.pos
  have k1 := hk k (by simp)
  have sf : zdu k v = 0 := by rw [zdu,if_neg (by omega),if_neg (by omega)]
  have sr : signR k v = ⟨k,v⟩ := by rw [signR,if_pos sf]
  have g1 : (voR seq d s k).1 = zdH s.1 (zeK 6 0 seq d) := by simp only [voR,votL,if_pos hm]
  have g2 : (voR seq d s k).2.1 = zkg s.2.1 ⟨k,v⟩ := by
   simp only [voR,votG,if_pos hm,sgnG,hve]
   rw [if_neg n0,zeL,if_pos sf]
  have g3 : (voR seq d s k).2.2 = s.2.2 ++ [⟨k,v⟩] := by
   simp only [voR,ztK,zsf,if_pos hm,sgnE,sgnS,hve]
   rw [if_neg n0,if_neg n0,if_pos sf,sr]
  obtain ⟨h1,h2,h3,h4,h5⟩ := voHist hm ks (voR seq d s k) (fun j hj => hk j (by simp [hj])) (by rw [g1]; omega) v (by rw [g1]; exact hv)
  have hE : zfb ((k :: ks).foldl (voR seq d) s).1 (zeK 6 0 seq d) v := by rw [List.foldl_cons,h1,g1]; exact hv
  refine ⟨v, ?_, ?_,fun x hx => ?_,fun x hx => h3 x (by rw [g2]; exact zqt _ _ x hx), ?_,fun j hj => ⟨?_,hE⟩⟩
  ·rw [List.foldl_cons,h1,g1]; exact zeO ..
  ·rw [List.foldl_cons,h1,g1]; exact hle
  ·rcases h2 x hx with hx | hx
   ·rw [g2] at hx
    rcases signL_mem' hx with hx | rfl
    ·exact .inl hx
    ·exact .inr ⟨rfl,hE⟩
   ·exact .inr ⟨hx,hE⟩
  ·rw [List.foldl_cons,h4,g3]; simp
  ·rcases List.mem_cons.1 hj with rfl | hj
   ·exact h3 _ (by rw [g2]; exact zsl _ _)
   ·exact h5 j hj
structure CrtI (ks : List Int) (L : List (List UInt8)) (G : List zJ) (bs : List zaM) (c : zfH) : Prop where
 blk : ∃ b ∈ bs,c.seq = b.header.seq ∧ zfb L (znl b.header) c.dig
 four : c.seq.tmod 4 = 0
 sgs : ∃ v,c.signs = ks.map (fun k => ⟨k,v⟩) ∧ ∀ k ∈ ks,(⟨k,v⟩ : zJ) ∈ G ∧ zfb L (zeK 6 0 c.seq c.dig) v
theorem CrtI.pre {ks : List Int} {L L' : List (List UInt8)} {G G' : List zJ} {bs bs' : List zaM} {c : zfH} (h : CrtI ks L G bs c) (hp : L <+: L') (hg : ∀ x ∈ G,x ∈ G') (hb : ∀ x ∈ bs,x ∈ bs') : CrtI ks L' G' bs' c := by
 obtain ⟨⟨b,h1,h2,h3⟩,h4,v,h5,h6⟩ := h
 exact ⟨⟨b,hb b h1,h2,h3.pre hp⟩,h4,v,h5,fun k hk => ⟨hg _ (h6 k hk).1,(h6 k hk).2.pre hp⟩⟩
structure HistI (ks : List Int) (g : zcF) (s : zds) : Prop where
 ch : ChI s.L g s.bs
 blk : ∀ b ∈ s.bs,BlkI s.L b
 last : s.h = lastH g s.bs
 crt : ∀ c ∈ s.cs,CrtI ks s.L s.G s.bs c
 sg : ∀ x ∈ s.G, 13 ≤ x.key ∨ ∃ c ∈ s.cs,zfb s.L (zeK 6 0 c.seq c.dig) x.dig
theorem histI {ks : List Int} {g : zcF} {s : zds} {l : List zn} (h : HistI ks g s) (hT : zeN s.T) (hk : ∀ k ∈ ks, 0 ≤ k ∧ k < 13) (hlen : s.L.length + l.length + 1200 ≤ 1048576) :
  HistI ks g (stR ks s l) ∧ (stR ks s l).L.length ≤ s.L.length + l.length + 530 := by
 obtain ⟨a1,a2,a3,a4⟩ := seHist l (s.L,s.G, [])
 obtain ⟨t,ht⟩ : ∃ t,l.foldl seR (s.L,s.G, []) = t := ⟨_,rfl⟩
 have hst : stR ks s l = stX ks s t (zcv t.1 s.T s.h t.2.2) := by rw [← ht]; rfl
 rw [hst]
 rw [ht] at a1 a2 a3 a4
 simp only at a1 a2 a3 a4
 obtain ⟨e1,e2,e3⟩ := exec_hist (h := s.h) (b := t.2.2) hT (L := t.1) (by omega)
 obtain ⟨r,hr⟩ : ∃ r,zcv t.1 s.T s.h t.2.2 = r := ⟨_,rfl⟩
 rw [hr] at e1 e2 e3 ⊢
 have hp := a1.trans e1
 have hsg : ∀ {L' : List (List UInt8)} {G' : List zJ} {cs' : List zfH},s.L <+: L' → (∀ x ∈ G',x ∈ s.G ∨ 13 ≤ x.key) → (∀ c ∈ s.cs,c ∈ cs') → ∀ x ∈ G', 13 ≤ x.key ∨ ∃ c ∈ cs',zfb L' (zeK 6 0 c.seq c.dig) x.dig := fun hL hG hc x hx => by
  rcases hG x hx with hx | hx
  ·rcases h.sg x hx with h1 | ⟨c,h1,h2⟩
   ·exact .inl h1
   ·exact .inr ⟨c,hc c h1,h2.pre hL⟩
  ·exact .inl hx
 unfold stX
 split
 ·refine ⟨⟨h.ch.pre hp,fun b hb => (h.blk b hb).pre hp,h.last,fun c hc => (h.crt c hc).pre hp a4 fun x hx => hx,hsg hp a3 fun c hc => hc⟩,by simp only; omega⟩
 rename_i he
 have he : r.e = 0 := Classical.not_not.1 he
 obtain ⟨b1,b2⟩ := e3 he
 have hblk : ∀ {L' : List (List UInt8)},r.L <+: L' → ∀ b ∈ s.bs ++ [⟨r.h,t.2.2,r.p⟩],BlkI L' b := fun hL b hb => by
  rcases List.mem_append.1 hb with hb | hb
  ·exact (h.blk b hb).pre (hp.trans hL)
  ·simp only [List.mem_singleton] at hb; subst hb; exact b1.pre hL
 have hch : ∀ {L' : List (List UInt8)},r.L <+: L' → ChI L' g (s.bs ++ [⟨r.h,t.2.2,r.p⟩]) := fun hL => by
  refine ChI.snoc (h.ch.pre (hp.trans hL)) ?_
  rw [← h.last]
  exact ⟨b2.1.pre hL,b2.2⟩
 split
 ·rename_i h4
  refine ⟨⟨hch (List.prefix_refl _),hblk (List.prefix_refl _),(zoP (b := ⟨r.h,t.2.2,r.p⟩)).symm,fun c hc => (h.crt c hc).pre hp a4 fun x hx => List.mem_append_left _ hx,hsg hp a3 fun c hc => hc⟩,by simp only; omega⟩
 ·rename_i h4
  have h4 : r.h.seq.tmod 4 = 0 := Classical.not_not.1 h4
  obtain ⟨d1,d2⟩ := hdigL_pre r.L r.h
  have hok := b1.ok
  have hc0 : zaH r.h = 0 := zdl.2 hok
  have hd : ziA r.L r.h = zcI r.L (znl r.h) := by rw [ziA,if_neg (by simp [hc0])]
  have hdl : zcO r.L r.h = zdH r.L (znl r.h) := by rw [zcO,if_neg (by simp [hc0])]
  have hn : zfb (zcO r.L r.h) (znl r.h) (ziA r.L r.h) := by rw [hd,hdl]; exact zqp (zqq (by omega))
  have hseq := zdE hok r.h.seq (by simp [zkD])
  have hdp := hn.pos
  have hm : zog 6 0 r.h.seq (ziA r.L r.h) = true := by
   simp only [zog,Bool.and_eq_true,zdz]
   omega
  obtain ⟨v,v1,v2,v3,v4,v5,v6⟩ := voHist0 hm ks (zcO r.L r.h,t.2.1, []) hk (by simp only; omega)
  simp only at v1 v2 v3 v4 v5 v6 ⊢
  obtain ⟨E,hE⟩ : ∃ E,ks.foldl (voR r.h.seq (ziA r.L r.h)) (zcO r.L r.h,t.2.1, []) = E := ⟨_,rfl⟩
  rw [hE] at v1 v2 v3 v4 v5 v6 ⊢
  have hq := d1.trans v1
  refine ⟨⟨hch hq,hblk hq,(zoP (b := ⟨r.h,t.2.2,r.p⟩)).symm,fun c hc => ?_,fun x hx => ?_⟩,by omega⟩
  ·simp only at hc
   rcases List.mem_append.1 hc with hc | hc
   ·exact (h.crt c hc).pre (hp.trans hq) (fun x hx => v4 x (a4 x hx)) fun x hx => List.mem_append_left _ hx
   ·simp only [List.mem_singleton] at hc
    subst hc
    exact ⟨⟨⟨r.h,t.2.2,r.p⟩,by simp,rfl,hn.pre v1⟩,h4,v,by rw [v5]; simp,fun k hk => v6 k hk⟩
  ·simp only at hx ⊢
   rcases v3 x hx with hx | ⟨hx,hx2⟩
   ·rcases a3 x hx with hx | hx
    ·rcases h.sg x hx with h1 | ⟨c,h1,h2⟩
     ·exact .inl h1
     ·exact .inr ⟨c,List.mem_append_left _ h1,h2.pre (hp.trans hq)⟩
    ·exact .inl hx
   ·exact .inr ⟨_,List.mem_append_right _ (List.mem_singleton.2 rfl),by rw [hx]; exact hx2⟩
theorem foldHist {ks : List Int} {g : zcF} {N m : Nat} : ∀ {bats : List (List zn)} {s : zds} {N m : Nat},HistI ks g s → StI N m s → (∀ l ∈ bats, ∀ x ∈ l,zjK x.op ≤ 20971520) → ks.length ≤ 13 → (∀ k ∈ ks, 0 ≤ k ∧ k < 13) → s.L.length + (bats.map List.length).sum + 530 * bats.length + 1200 ≤ 1048576 →
  HistI ks g (bats.foldl (stR ks) s) ∧ (bats.foldl (stR ks) s).L.length ≤ s.L.length + (bats.map List.length).sum + 530 * bats.length
 | [],s,_,_,h,_,_,_,_,_ => ⟨h,by simp⟩
 | l :: bats,s,N,m,h,hI,hx,hk,hr,hl => by
  simp only [List.map_cons,List.sum_cons,List.length_cons] at hl
  obtain ⟨h1,h2⟩ := histI (l := l) h hI.tops hr (by omega)
  obtain ⟨h3,h4⟩ := foldHist (m := m) (N := N) (bats := bats) h1 (stI hI (hx l (by simp)) hk) (fun l' h' => hx l' (by simp [h'])) hk hr (by omega)
  refine ⟨h3, ?_⟩
  simp only [List.foldl_cons,List.map_cons,List.sum_cons,List.length_cons]
  omega
theorem hist0 (ks : List Int) : HistI ks st0.h st0 := ⟨trivial,by simp [st0],rfl,by simp [st0],by simp [st0]⟩
theorem st0_len : st0.L.length = 2 := by decide +kernel
theorem st0_h : st0.h.seq = 0 ∧ zfQ st0.h = true := by decide +kernel
theorem memF_rng (s : Nat) : ∀ k ∈ memF s, 0 ≤ k ∧ k < 13 := fun k hk => by
 simp only [memF,memN,List.mem_filter] at hk
 exact zqP hk.2
end Go.Proofs.YtncpaekiidpchaaGreat

/- Two quorums have one that is not faulty; a vote's bytes say what it is. No program in sight. -/
namespace Go.AW
end Go.AW

/- What is taken as proved was put: where all but f have signed checkpoints of these blocks alone. No program in sight. -/
set_option maxRecDepth 100000
namespace Go.Proofs.YtncpaekiidpchaaGreat
open Go.AW
end Go.Proofs.YtncpaekiidpchaaGreat

/- Contract: whether a block has put what a proof names. -/
set_option maxRecDepth 100000
namespace Go.Proofs.YtncpaekiidpchaaGreat
open Go.AW
end Go.Proofs.YtncpaekiidpchaaGreat

/- The law ProofSound, from the contracts. -/
set_option maxRecDepth 100000
namespace Go.Proofs.YtncpaekiidpchaaGreat
open Go.AW
theorem sum7 (bats : List (List zn)) : 7 * (bats.map List.length).sum ≤ zcE (bats.map reqsD) := by
 have key : ∀ l : List zn, 7 * l.length ≤ zcE (zpT l) := fun l => by
  unfold zpT
  induction l with
  | nil => simp
  | cons x l ih =>
   simp only [List.map_cons,zcE,List.length_cons]
   have : 7 ≤ zdm (reqD x) := by simp only [reqD,zdm,zhC]; omega
   omega
 induction bats with
 | nil => simp
 | cons l bats ih =>
  have := key l
  have e := zou l
  simp only [List.map_cons,List.sum_cons,zcE] at ih ⊢
  omega
theorem stF_H {q : zkY} (hq : okC q) (hb : zdm (caseD q) ≤ 1048576) : HistI (ksF q) st0.h (stF (ksF q) q.bats) ∧ (stF (ksF q) q.bats).L.length ≤ 200000 := by
 have h7 := sum7 q.bats
 have h8 : zcE (q.bats.map reqsD) ≤ zdm (caseD q) := by
  have e : zcE (zpb q.bats) = zcE (q.bats.map reqsD) := rfl
  simp only [caseD,zdm,zhC,e]; omega
 have h1 := zll q.bats 20
 have h2 : (q.bats.take 20).length ≤ 20 := by rw [List.length_take]; omega
 have h3 := st0_len
 obtain ⟨g1,g2⟩ := foldHist (N := 0) (m := 0) (bats := q.bats.take 20) (hist0 (ksF q)) st0I (fun l hl => hq.ops l (List.mem_of_mem_take hl)) (zgs _ _) (memF_rng _) (by omega)
 exact ⟨g1,by rw [stF]; omega⟩
end Go.Proofs.YtncpaekiidpchaaGreat

/- No two blocks put a record at the same topic and offset. No program in sight. -/
set_option maxRecDepth 100000
namespace Go.Proofs.YtncpaekiidpchaaGreat
open Go.AW
def zhI (T : zbf) : List (List UInt8) := T.l.map zbg.name
structure ApU (T T' : zbf) (P : List zaI) : Prop where
 nd : (zhI T').Nodup
 mono : ∀ x ∈ T.l, ∃ x' ∈ T'.l,x'.name = x.name ∧ x.next ≤ x'.next
 old : ∀ p ∈ P, ∃ x' ∈ T'.l,x'.name = p.topic ∧ p.offset < x'.next
 new : ∀ p ∈ P, ∀ x ∈ T.l,x.name = p.topic → x.next ≤ p.offset
theorem ApU.rfl' {T : zbf} (h : (zhI T).Nodup) : ApU T T [] := ⟨h,fun x hx => ⟨x,hx,rfl,Int.le_refl _⟩,by simp,by simp⟩
theorem ApU.trans {T T1 T2 : zbf} {P Q : List zaI} (h : ApU T T1 P) (g : ApU T1 T2 Q) : ApU T T2 (P ++ Q) := by
 refine ⟨g.nd,fun x hx => ?_,fun p hp => ?_,fun p hp x hx hn => ?_⟩
 ·obtain ⟨y,h1,h2,h3⟩ := h.mono x hx
  obtain ⟨z,g1,g2,g3⟩ := g.mono y h1
  exact ⟨z,g1,g2.trans h2,Int.le_trans h3 g3⟩
 ·rcases List.mem_append.1 hp with hp | hp
  ·obtain ⟨y,h1,h2,h3⟩ := h.old p hp
   obtain ⟨z,g1,g2,g3⟩ := g.mono y h1
   exact ⟨z,g1,g2.trans h2,by omega⟩
  ·exact g.old p hp
 ·rcases List.mem_append.1 hp with hp | hp
  ·exact h.new p hp x hx hn
  ·obtain ⟨y,h1,h2,h3⟩ := h.mono x hx
   have := g.new p hp y h1 (h2.trans hn)
   omega
theorem names_one {l : List zbg} (h : (l.map zbg.name).Nodup) {x y : zbg} (hx : x ∈ l) (hy : y ∈ l) (he : x.name = y.name) : x = y := by
 obtain ⟨i,hi,rfl⟩ := List.mem_iff_getElem.1 hx
 obtain ⟨j,hj,rfl⟩ := List.mem_iff_getElem.1 hy
 have : (l.map zbg.name)[i]'(by simpa using hi) = (l.map zbg.name)[j]'(by simpa using hj) := by simpa using he
 have := (List.getElem_inj h).1 this
 subst this; rfl
theorem ApU.set {T : zbf} {i : Nat} {x x' : zbg} (h : (zhI T).Nodup) (hx : T.l[i]? = some x) (hn : x'.name = x.name) (hx' : x.next ≤ x'.next) (la : List (Int × Int × Int)) : ApU T ⟨T.l.set i x',la⟩ [] := by
 have hi := (List.getElem?_eq_some_iff.1 hx).1
 refine ⟨?_,fun y hy => ?_,by simp,by simp⟩
 ·have : zhI ⟨T.l.set i x',la⟩ = zhI T := by
   simp only [zhI,List.map_set]
   rw [hn]
   have hg : (T.l.map zbg.name)[i]? = some x.name := by rw [List.getElem?_map,hx]; rfl
   exact zbC hg
  rw [this]; exact h
 ·obtain ⟨j,hj,rfl⟩ := List.mem_iff_getElem.1 hy
  by_cases e : i = j
  ·subst e
   have : T.l[i] = x := (List.getElem?_eq_some_iff.1 hx).2
   refine ⟨x',List.mem_iff_getElem.2 ⟨i,by simpa using hi,by simp⟩,by rw [hn,this],by rw [this]; exact hx'⟩
  ·exact ⟨T.l[j],List.mem_iff_getElem.2 ⟨j,by simpa using hj,by simp [e]⟩,rfl,Int.le_refl _⟩
theorem zow {t : List UInt8} : ∀ {l : List (List UInt8)} {o : Int}, ∀ p ∈ zgR t o l,o ≤ p.offset ∧ p.offset < o + l.length
 | [],_,p,h => by simp [zgR] at h
 | r :: l,o,p,h => by
  rcases List.mem_cons.1 h with rfl | h
  ·simp; omega
  ·have := zow p h
   simp only [List.length_cons]; omega
theorem atF_none {n : List UInt8} : ∀ {l : List zbg} {j : Nat},atF n l j = none → ∀ x ∈ l,x.name ≠ n
 | [],_,_,x,hx => by cases hx
 | y :: r,j,h,x,hx => by
  simp only [atF] at h
  split at h
  ·cases h
  ·rename_i e
   rcases List.mem_cons.1 hx with rfl | hx
   ·simpa using e
   ·exact atF_none h x hx
theorem doesU {T : zbf} (h : (zhI T).Nodup) (hI : zeN T) (o : TOp) : ApU T (zbZ T o).2.2 (zbZ T o).2.1 := by
 unfold zbZ
 split
 ·exact .rfl' h
 rename_i hc
 have hc : zaQ zdA o = 0 := by simpa using hc
 obtain ⟨q1,q2,_⟩ := check0 hc
 split
 ·exact .rfl' h
 split
 ·-- a topic begins
  unfold zdd
  split
  ·exact .rfl' h
  ·rename_i hno
   have hno : atF o.topic T.l 0 = none := by simpa using hno
   split
   ·exact .rfl' h
   ·have hk := atF_none hno
    refine ⟨?_,fun x hx => ?_,by simp,by simp⟩
    ·simp only [zhI,List.map_append,List.map_cons]
     have hp : ((T.l.take (znh o.topic T.l)).map zbg.name ++ o.topic :: (T.l.drop (znh o.topic T.l)).map zbg.name).Perm (o.topic :: zhI T) := by
      refine List.perm_middle.trans (List.Perm.cons _ ?_)
      rw [← List.map_append,List.take_append_drop]
      exact List.Perm.refl _
     refine (List.Perm.nodup_iff hp).2 (List.nodup_cons.2 ⟨fun hm => ?_,h⟩)
     obtain ⟨x,hx,he⟩ := List.mem_map.1 hm
     exact hk x hx he
    ·refine ⟨x, ?_,rfl,Int.le_refl _⟩
     simp only
     have : x ∈ T.l.take (znh o.topic T.l) ++ T.l.drop (znh o.topic T.l) := by rw [List.take_append_drop]; exact hx
     rcases List.mem_append.1 this with hx | hx
     ·exact List.mem_append_left _ hx
     ·exact List.mem_append_right _ (List.mem_cons_of_mem _ hx)
 ·split
  ·exact .rfl' h
  ·rename_i i hi
   split
   ·exact .rfl' h
   ·rename_i x hx
    have hX := hI.tops x (List.mem_of_getElem? hx)
    have a1 := hX.base; have a2 := hX.next
    have en : x.next = x.base + x.recs.length := rfl
    split
    ·unfold zcJ
     split
     ·exact .rfl' h
     ·have hs := ApU.set (x' := { x with recs := x.recs ++ o.recs }) h hx rfl (by simp only [zbg.next,List.length_append]; omega) T.last
      refine ⟨hs.nd,hs.mono,fun p hp => ?_,fun p hp y hy hn => ?_⟩
      ·have h1 := zhF p hp
       have h2 := zow p hp
       refine ⟨{ x with recs := x.recs ++ o.recs },List.mem_iff_getElem.2 ⟨i,by simpa using (List.getElem?_eq_some_iff.1 hx).1,by simp⟩,h1.symm, ?_⟩
       simp only [zbg.next,List.length_append] at h2 ⊢
       omega
      ·have h1 := zhF p hp
       have h2 := zow p hp
       have := names_one h hy (List.mem_of_getElem? hx) (by rw [hn,h1])
       subst this
       exact h2.1
    ·split
     ·unfold zck
      split
      ·exact .rfl' h
      split
      ·exact .rfl' h
      ·exact ApU.set (x' := { x with groups := x.groups.take (zpU o.group x.groups) ++ (o.group,o.offset) :: x.groups.drop (zpU o.group x.groups + if (hadG o.group x.groups).isSome then 1 else 0) }) h hx rfl (Int.le_refl _) T.last
     ·unfold zom
      split
      ·exact .rfl' h
      ·rename_i hb
       refine ApU.set (x' := { x with recs := x.recs.drop (o.offset - x.base).toNat,base := o.offset }) h hx rfl ?_ T.last
       simp only [zbg.next,List.length_drop]
       omega
theorem ApU.last {T T' : zbf} {P : List zaI} (h : ApU T T' P) (la : List (Int × Int × Int)) : ApU T { T' with last := la } P := ⟨h.nd,h.mono,h.old,h.new⟩
theorem applyU {T : zbf} (h : (zhI T).Nodup) (hI : zeN T) (c tm : Int) (o : TOp) : ApU T (zbA T c tm o).2.2.2 (zbA T c tm o).2.1 := by
 unfold zbA
 split
 ·exact .rfl' h
 ·split
  ·exact .rfl' h
  ·split
   ·exact .rfl' h
   ·exact (doesU h hI o).last _
theorem zry : ∀ (l : List zn) {T : zbf},(zhI T).Nodup → zeN T → ApU T (zU T l).2 (zU T l).1
 | [],T,h,_ => .rfl' h
 | x :: l,T,h,hI => by
  have h1 := applyU h hI x.client x.time x.op
  exact h1.trans (zry l h1.nd (applyI hI x.client x.time x.op))
theorem execU {L : List (List UInt8)} {T : zbf} {h : zcF} {b : List zn} (hn : (zhI T).Nodup) (hI : zeN T) : ∃ P,ApU T (zcv L T h b).T P ∧ ((zcv L T h b).e = 0 → (zcv L T h b).p = P) := by
 unfold zcv
 split
 ·rename_i c0; exact ⟨[], .rfl' hn,fun e => absurd e c0⟩
 split
 ·exact ⟨[], .rfl' hn,fun e => by simp at e⟩
 split
 ·rename_i c2; exact ⟨[], .rfl' hn,fun e => absurd e c2⟩
 split
 ·rename_i c3; exact ⟨[], .rfl' hn,fun e => absurd e c3⟩
 simp only
 split
 ·exact ⟨_,zry b hn hI,fun e => by simp at e⟩
 ·exact ⟨_,zry b hn hI,fun _ => rfl⟩
structure UqI (s : zds) : Prop where
 nd : (zhI s.T).Nodup
 old : ∀ b ∈ s.bs, ∀ p ∈ b.placed, ∃ x ∈ s.T.l,x.name = p.topic ∧ p.offset < x.next
 one : ∀ (i j : Nat) (a b : zaM),s.bs[i]? = some a → s.bs[j]? = some b → ∀ p ∈ a.placed, ∀ q ∈ b.placed,p.topic = q.topic → p.offset = q.offset → i = j
theorem uqI {ks : List Int} {s : zds} {l : List zn} (h : UqI s) (hT : zeN s.T) : UqI (stR ks s l) := by
 obtain ⟨t,ht⟩ : ∃ t,l.foldl seR (s.L,s.G, []) = t := ⟨_,rfl⟩
 have hst : stR ks s l = stX ks s t (zcv t.1 s.T s.h t.2.2) := by rw [← ht]; rfl
 rw [hst]
 obtain ⟨P,hP,hp⟩ := execU (L := t.1) (h := s.h) (b := t.2.2) h.nd hT
 obtain ⟨r,hr⟩ : ∃ r,zcv t.1 s.T s.h t.2.2 = r := ⟨_,rfl⟩
 rw [hr] at hP hp ⊢
 have hold : ∀ b ∈ s.bs, ∀ p ∈ b.placed, ∃ x ∈ r.T.l,x.name = p.topic ∧ p.offset < x.next := fun b hb p hq => by
  obtain ⟨x,h1,h2,h3⟩ := h.old b hb p hq
  obtain ⟨y,g1,g2,g3⟩ := hP.mono x h1
  exact ⟨y,g1,g2.trans h2,by omega⟩
 have key : r.e = 0 → UqI ⟨s.L,s.G,s.h,r.T,s.bs ++ [⟨r.h,t.2.2,r.p⟩],s.cs⟩ := fun he => by
  have hp := hp he
  subst hp
  refine ⟨hP.nd,fun b hb p hq => ?_,fun i j a b hi hj p hp q hq h1 h2 => ?_⟩
  ·rcases List.mem_append.1 hb with hb | hb
   ·exact hold b hb p hq
   ·simp only [List.mem_singleton] at hb; subst hb; exact hP.old p hq
  ·simp only at hi hj
   have cross : ∀ {a : zaM} {p q : zaI},a ∈ s.bs → p ∈ a.placed → q ∈ r.p → p.topic = q.topic → p.offset = q.offset → False := fun {a p q} ha hp hq h1 h2 => by
    obtain ⟨x,g1,g2,g3⟩ := h.old a ha p hp
    have := hP.new q hq x g1 (g2.trans h1)
    omega
   rcases Nat.lt_or_ge i s.bs.length with li | li
   ·rw [List.getElem?_append_left li] at hi
    rcases Nat.lt_or_ge j s.bs.length with lj | lj
    ·rw [List.getElem?_append_left lj] at hj
     exact h.one i j a b hi hj p hp q hq h1 h2
    ·rw [List.getElem?_append_right lj] at hj
     have hb : b = ⟨r.h,t.2.2,r.p⟩ := by
      have := List.mem_of_getElem? hj; simpa using this
     subst hb
     exact (cross (List.mem_of_getElem? hi) hp hq h1 h2).elim
   ·rw [List.getElem?_append_right li] at hi
    have ha : a = ⟨r.h,t.2.2,r.p⟩ := by
     have := List.mem_of_getElem? hi; simpa using this
    have hi0 : i = s.bs.length := by have := (List.getElem?_eq_some_iff.1 hi).1; simp at this; omega
    subst ha
    rcases Nat.lt_or_ge j s.bs.length with lj | lj
    ·rw [List.getElem?_append_left lj] at hj
     exact (cross (List.mem_of_getElem? hj) hq hp h1.symm h2.symm).elim
    ·rw [List.getElem?_append_right lj] at hj
     have : j = s.bs.length := by have := (List.getElem?_eq_some_iff.1 hj).1; simp at this; omega
     omega
 unfold stX
 split
 ·exact ⟨hP.nd,hold,h.one⟩
 ·rename_i he
  have k := key (Classical.not_not.1 he)
  split
  ·exact ⟨k.nd,k.old,k.one⟩
  ·exact ⟨k.nd,k.old,k.one⟩
theorem uq0 : UqI st0 := ⟨by simp [zhI,st0,zdq],by simp [st0],by simp [st0]⟩
theorem foldUq {ks : List Int} : ∀ {bats : List (List zn)} {s : zds} {N m : Nat},UqI s → StI N m s → (∀ l ∈ bats, ∀ x ∈ l,zjK x.op ≤ 20971520) → ks.length ≤ 13 → UqI (bats.foldl (stR ks) s)
 | [],_,_,_,h,_,_,_ => h
 | l :: bats,s,N,m,h,hI,hx,hk => foldUq (bats := bats) (uqI h hI.tops) (stI hI (hx l (by simp)) hk) (fun l' h' => hx l' (by simp [h'])) hk
end Go.Proofs.YtncpaekiidpchaaGreat

/- The law ProofVerifies, from the contracts. -/
import Derived.Test.YtncpaekiidpchaaGreatTr2
import Derived.Test.YtncpaekiidpchaaGreatNr3
import Derived.Test.YtncpaekiidpchaaGreatSpUtf
import Derived.Test.YtncpaekiidpchaaGreatBt1
import Derived.Test.YtncpaekiidpchaaGreatCk3
set_option linter.all false
set_option maxRecDepth 100000
namespace Go.Proofs.YtncpaekiidpchaaGreat
open Go.AW
theorem begun_case' {σ : List zg} {c : zkY} (hq : okC c) {K : KT}
  (hK : ∀ S,StE σ (stF (ksF c) c.bats) (stF (ksF c) c.bats).L (stF (ksF c) c.bats).G S → K (.tup [.box (σ.length + 9) 0, .d (.bool true)]) S) : zD Tryz.prog zcq [caseA c] σ K :=
 c_begun23 hq.ops (by have := hq.sum; omega) hq.voters hK
theorem stF_I' {c : zkY} (hq : okC c) : StI 2000000 20 (stF (ksF c) c.bats) := by
 have h := foldSt (ks := ksF c) (bats := c.bats.take 20) st0I (fun l hl => hq.ops l (List.mem_of_mem_take hl)) (zgs _ _)
 have h1 := zll c.bats 20
 have h2 := hq.sum
 have h3 : (c.bats.take 20).length ≤ 20 := by rw [List.length_take]; omega
 exact ⟨h.tab,by have := h.led; rw [stF]; omega,h.ledI,h.tops,h.last,h.last8,h.bs,by have := h.bl; rw [stF]; omega,h.cs,by have := h.cl; rw [stF]; omega⟩
end Go.Proofs.YtncpaekiidpchaaGreat

/- Numbers of what a table knows; trees in a table: what a proof shows, and that a made proof shows it. No program in sight. -/
namespace Go.AW
def zfb (L : List (List UInt8)) (b : List UInt8) (d : Int) : Prop := ∃ i,zcu L b = some i ∧ d = ((i + 1 : Nat) : Int)
theorem zfb.pre {L L' : List (List UInt8)} {b : List UInt8} {d : Int} (h : zfb L b d) (hp : L <+: L') : zfb L' b d := by
 obtain ⟨i,h1,h2⟩ := h
 obtain ⟨m,rfl⟩ := hp
 exact ⟨i,look_more h1,h2⟩
theorem zfb.pos {L : List (List UInt8)} {b : List UInt8} {d : Int} (h : zfb L b d) : 1 ≤ d ∧ d ≤ L.length := by
 obtain ⟨i,h1,h2⟩ := h
 have := (zjy h1).1
 omega
theorem zfb.inj {L : List (List UInt8)} {a b : List UInt8} {d : Int} (ha : zfb L a d) (hb : zfb L b d) : a = b := by
 obtain ⟨i,h1,h2⟩ := ha
 obtain ⟨j,h3,h4⟩ := hb
 have : i = j := by omega
 subst this
 have := (zjy h1).2
 rw [(zjy h3).2] at this
 exact (Option.some.inj this).symm
theorem zfb.one {L : List (List UInt8)} {b : List UInt8} {d e : Int} (ha : zfb L b d) (hb : zfb L b e) : d = e := by
 obtain ⟨i,h1,h2⟩ := ha
 obtain ⟨j,h3,h4⟩ := hb
 rw [h1] at h3
 cases h3
 omega
theorem zqq {L : List (List UInt8)} {b : List UInt8} (h : L.length < 1048576) : zcI L b ≠ 0 := by
 unfold zcI
 split
 ·omega
 ·rw [if_neg (by omega)]; omega
theorem zqp {L : List (List UInt8)} {b : List UInt8} (h : zcI L b ≠ 0) : zfb (zdH L b) b (zcI L b) := by
 unfold zcI zdH at *
 split at h
 ·rename_i i hi
  exact ⟨i,hi,rfl⟩
 ·rename_i hn
  split at h
  ·exact absurd rfl h
  ·rename_i hl
   rw [if_neg hl,if_neg hl]
   exact ⟨L.length,look_new L b hn,by omega⟩
theorem zfb.sum {L : List (List UInt8)} {b : List UInt8} {d : Int} (h : zfb L b d) : zcI L b = d ∧ zdH L b = L := by
 obtain ⟨i,h1,h2⟩ := h
 unfold zcI zdH
 rw [h1]
 exact ⟨by simp only; omega,rfl⟩
theorem zib (L : List (List UInt8)) (b : List UInt8) : (zdH L b).length ≤ L.length + 1 := by
 unfold zdH
 repeat' split
 all_goals simp
theorem zeO (L : List (List UInt8)) (b : List UInt8) : L <+: zdH L b := by
 unfold zdH
 split
 ·exact List.prefix_refl L
 ·split
  ·exact List.prefix_refl L
  ·exact List.prefix_append ..
inductive zhA (L : List (List UInt8)) : List (List UInt8) → Int → Prop
 | nil (d : Int) : zfb L [2] d → zhA L [] d
 | one (x : List UInt8) (d : Int) : zfb L (zkj x) d → zhA L [x] d
 | two (l : List (List UInt8)) (a b d : Int) : 2 ≤ l.length → zhA L (l.take (zi l.length)) a → zhA L (l.drop (zi l.length)) b → zfb L (zhB a b) d → zhA L l d
theorem zhA.pre {L L' : List (List UInt8)} {l : List (List UInt8)} {d : Int} (h : zhA L l d) (hp : L <+: L') : zhA L' l d := by
 induction h with
 | nil d h => exact .nil d (h.pre hp)
 | one x d h => exact .one x d (h.pre hp)
 | two l a b d h2 _ _ hn ih1 ih2 => exact .two l a b d h2 ih1 ih2 (hn.pre hp)
theorem zhA.num {L l : List (List UInt8)} {d : Int} (h : zhA L l d) : 1 ≤ d ∧ d ≤ L.length := by
 cases h with
 | nil _ h => exact h.pos
 | one _ _ h => exact h.pos
 | two _ _ _ _ _ _ _ h => exact h.pos
theorem zhA.rootF {L l : List (List UInt8)} {d : Int} (h : zhA L l d) : rootF L l = (d,L) := by
 induction h with
 | nil d h => rw [rootF_0,h.sum.1,h.sum.2]
 | one x d h => rw [rootF_1,h.sum.1,h.sum.2]
 | two l a b d h2 _ _ hn ih1 ih2 => rw [zot h2,ih1]; simp only; rw [ih2]; simp only; rw [hn.sum.1,hn.sum.2]
theorem root_at : ∀ (f : Nat) {L l : List (List UInt8)},l.length ≤ f → L.length + 2 * l.length + 1 ≤ 1048576 → zhA (Go.AW.rootF L l).2 l (Go.AW.rootF L l).1 ∧ L <+: (Go.AW.rootF L l).2 ∧ (Go.AW.rootF L l).2.length ≤ L.length + 2 * l.length + 1 ∧ (1 ≤ l.length → (Go.AW.rootF L l).2.length + 1 ≤ L.length + 2 * l.length) := by
 intro f
 induction f with
 | zero =>
  intro L l hf hL
  have : l = [] := List.eq_nil_of_length_eq_zero (by omega)
  subst this
  rw [rootF_0]
  exact ⟨.nil _ (zqp (zqq (by omega))),zeO ..,by have := zib L [2]; simp only; omega,fun h => by simp at h⟩
 | succ f ih =>
  intro L l hf hL
  match l,hf,hL with
  | [],_,hL =>
   rw [rootF_0]
   exact ⟨.nil _ (zqp (zqq (by omega))),zeO ..,by have := zib L [2]; simp only; omega,fun h => by simp at h⟩
  | [x],_,hL =>
   rw [rootF_1]
   simp only [List.length_cons,List.length_nil] at hL ⊢
   exact ⟨.one x _ (zqp (zqq (by omega))),zeO ..,by have := zib L (zkj x); omega,fun _ => by have := zib L (zkj x); omega⟩
  | x :: y :: r,hf,hL =>
   obtain ⟨l,hl⟩ : ∃ l,x :: y :: r = l := ⟨_,rfl⟩
   have h2 : 2 ≤ l.length := by rw [← hl]; simp
   rw [hl] at hf hL ⊢
   have hs := zbX h2
   have e1 : (l.take (zi l.length)).length = zi l.length := by rw [List.length_take]; omega
   have e2 : (l.drop (zi l.length)).length = l.length - zi l.length := List.length_drop
   obtain ⟨a1,a2,a3,a4⟩ := ih (L := L) (l := l.take (zi l.length)) (by omega) (by omega)
   have a4 := a4 (by omega)
   obtain ⟨b1,b2,b3,b4⟩ := ih (L := (Go.AW.rootF L (l.take (zi l.length))).2) (l := l.drop (zi l.length)) (by omega) (by omega)
   have b4 := b4 (by omega)
   rw [zot h2]
   have hn := zib (Go.AW.rootF (Go.AW.rootF L (l.take (zi l.length))).2 (l.drop (zi l.length))).2 (zhB (Go.AW.rootF L (l.take (zi l.length))).1 (Go.AW.rootF (Go.AW.rootF L (l.take (zi l.length))).2 (l.drop (zi l.length))).1)
   refine ⟨?_,(a2.trans b2).trans (zeO ..),by simp only; omega,fun _ => by simp only; omega⟩
   exact .two l _ _ _ h2 (a1.pre (b2.trans (zeO ..))) (b1.pre (zeO ..)) (zqp (zqq (by omega)))
theorem zmr : ∀ (f : Nat) {L l : List (List UInt8)} {d : Int} {i : Nat} {b : List UInt8} (g : Nat),l.length ≤ f → l.length ≤ g → zhA L l d → l[i]? = some b →
  (zaD f L i l).2 = L ∧ (zaD f L i l).1.length = zdU i l.length ∧ (∀ x ∈ (zaD f L i l).1, 1 ≤ x ∧ x ≤ L.length) ∧ zeI g L b i l.length (zaD f L i l).1 = (d,true)
 | 0,L,l,d,i,b,g,hf,_,hR,hb => by
  have : l = [] := List.eq_nil_of_length_eq_zero (by omega)
  subst this; simp at hb
 | f + 1,L,l,d,i,b,g,hf,hg,hR,hb => by
  have hil := (List.getElem?_eq_some_iff.1 hb).1
  obtain ⟨g,rfl⟩ : ∃ g',g = g' + 1 := ⟨g - 1,by omega⟩
  cases hR with
  | nil _ h => simp at hb
  | one x _ h =>
   have hi : i = 0 := by simpa using hil
   subst hi
   simp at hb; subst hb
   have e : zaD (f + 1) L 0 [x] = ([],L) := by simp [zaD]
   rw [e]
   obtain ⟨j,hj,hd⟩ := h
   refine ⟨rfl,(zqJ (by simp)).symm,by simp, ?_⟩
   simp only [zeI,List.length_cons,List.length_nil,if_true,hj,Nat.zero_add]
   rw [hd]; simp [zks]
  | two _ a b' _ h2 ha hb' hx =>
   have hs := zbX h2
   have e1 : (l.take (zi l.length)).length = zi l.length := by rw [List.length_take]; omega
   have e2 : (l.drop (zi l.length)).length = l.length - zi l.length := List.length_drop
   obtain ⟨j,hj,hd⟩ := hx
   simp only [zaD]
   rw [if_neg (show ¬ l.length ≤ 1 by omega),zni h2]
   by_cases hi : i < zi l.length
   ·rw [if_pos hi,if_pos hi]
    obtain ⟨p1,p2,p3,p4⟩ := zmr f (i := i) (b := b) g (by omega) (by omega) ha (by rw [List.getElem?_take,if_pos hi]; exact hb)
    rw [e1] at p2 p4
    rw [p1,hb'.rootF]
    refine ⟨rfl,by simp [p2],fun x hx => ?_, ?_⟩
    ·rcases List.mem_append.1 hx with hx | hx
     ·exact p3 x hx
     ·simp only [List.mem_singleton] at hx; subst hx; exact hb'.num
    ·simp only [zeI]
     rw [if_neg (show ¬ l.length = 1 by omega),if_pos hi]
     have t1 : ((zaD f L i (l.take (zi l.length))).1 ++ [b']).take (((zaD f L i (l.take (zi l.length))).1 ++ [b']).length - 1) = (zaD f L i (l.take (zi l.length))).1 := by simp
     have t2 : ((zaD f L i (l.take (zi l.length))).1 ++ [b']).getD (((zaD f L i (l.take (zi l.length))).1 ++ [b']).length - 1) 0 = b' := by simp [List.getD]
     rw [t1,t2,p4]
     simp only [if_true,hj,Option.isSome_some,zks]
     rw [hd]
   ·rw [if_neg hi,if_neg hi]
    obtain ⟨p1,p2,p3,p4⟩ := zmr f (i := i - zi l.length) (b := b) g (by omega) (by omega) hb' (by rw [List.getElem?_drop,show zi l.length + (i - zi l.length) = i by omega]; exact hb)
    rw [e2] at p2 p4
    rw [p1,ha.rootF]
    refine ⟨rfl,by simp [p2],fun x hx => ?_, ?_⟩
    ·rcases List.mem_append.1 hx with hx | hx
     ·exact p3 x hx
     ·simp only [List.mem_singleton] at hx; subst hx; exact ha.num
    ·simp only [zeI]
     rw [if_neg (show ¬ l.length = 1 by omega),if_neg hi]
     have t1 : ((zaD f L (i - zi l.length) (l.drop (zi l.length))).1 ++ [a]).take (((zaD f L (i - zi l.length) (l.drop (zi l.length))).1 ++ [a]).length - 1) = (zaD f L (i - zi l.length) (l.drop (zi l.length))).1 := by simp
     have t2 : ((zaD f L (i - zi l.length) (l.drop (zi l.length))).1 ++ [a]).getD (((zaD f L (i - zi l.length) (l.drop (zi l.length))).1 ++ [a]).length - 1) 0 = a := by simp [List.getD]
     rw [t1,t2,p4]
     simp only [if_true,hj,Option.isSome_some,zks]
     rw [hd]
end Go.AW

/- What the blocks of a beginning are: chained headers, each over its records' tree; who has signed what. No program in sight. -/
set_option maxRecDepth 100000
namespace Go.Proofs.YtncpaekiidpchaaGreat
open Go.AW
theorem atF_name {n : List UInt8} : ∀ {l : List zbg} {j k : Nat},atF n l j = some k → ∃ x,l[k - j]? = some x ∧ x.name = n
 | [],_,_,h => by simp [atF] at h
 | x :: r,j,k,h => by
  simp only [atF] at h
  split at h
  ·rename_i e
   cases h
   exact ⟨x,by simp,by simpa using e⟩
  ·obtain ⟨y,h1,h2⟩ := atF_name h
   have := (atF_lt h).1
   exact ⟨y,by rw [show k - j = (k - (j + 1)) + 1 by omega]; simpa using h1,h2⟩
theorem zhF {t : List UInt8} : ∀ {l : List (List UInt8)} {o : Int}, ∀ p ∈ zgR t o l,p.topic = t
 | [],_,p,h => by simp [zgR] at h
 | r :: l,o,p,h => by
  rcases List.mem_cons.1 h with rfl | h
  ·rfl
  ·exact zhF p h
theorem check_recs {o : TOp} (h : zaQ zdA o = 0) (hk : o.kind = 2) : o.recs.length ≤ 4 := by
 unfold zaQ at h
 split at h
 ·simp at h
 ·split at h
  ·simp at h
  ·split at h
   ·simp at h
   ·split at h
    ·simp at h
    ·rename_i h4
     rcases Nat.lt_or_ge 4 o.recs.length with hl | hl
     ·exact absurd ⟨hk, .inr (.inl hl)⟩ h4
     ·exact hl
theorem doesN (T : zbf) (o : TOp) : (∀ p ∈ (zbZ T o).2.1,zdA p.topic = true) ∧ (zbZ T o).2.1.length ≤ 4 := by
 unfold zbZ
 split
 ·simp
 ·rename_i hc
  have hc : zaQ zdA o = 0 := by simpa using hc
  split
  ·simp
  ·rename_i hk0
   split
   ·simp
   ·split
    ·simp
    ·rename_i i hi
     split
     ·simp
     ·rename_i x hx
      split
      ·rename_i hk
       unfold zcJ
       split
       ·simp
       ·obtain ⟨y,h1,h2⟩ := atF_name hi
        rw [Nat.sub_zero,hx] at h1
        cases h1
        refine ⟨fun p hp => ?_, ?_⟩
        ·rw [zhF p hp,h2]
         exact (check0 hc).2.2.1 hk0
        ·rw [zlq]; exact check_recs hc hk
      ·split <;> simp
theorem applyN (T : zbf) (c tm : Int) (o : TOp) : (∀ p ∈ (zbA T c tm o).2.1,zdA p.topic = true) ∧ (zbA T c tm o).2.1.length ≤ 4 := by
 unfold zbA
 repeat' split
 all_goals first | (simp; done) | exact doesN T o
theorem applyAllN : ∀ (l : List zn) (T : zbf),(∀ p ∈ (zU T l).1,zdA p.topic = true) ∧ (zU T l).1.length ≤ l.length * 4
 | [],_ => by simp [zU]
 | x :: l,T => by
  obtain ⟨h1,h2⟩ := applyN T x.client x.time x.op
  obtain ⟨h3,h4⟩ := applyAllN l (zbA T x.client x.time x.op).2.2.2
  refine ⟨fun p hp => ?_, ?_⟩
  ·simp only [zU] at hp
   rcases List.mem_append.1 hp with hp | hp
   ·exact h1 p hp
   ·exact h3 p hp
  ·simp only [zU,List.length_append,List.length_cons]; omega
structure BlkI (L : List (List UInt8)) (b : zaM) : Prop where
 ok : zfQ b.header = true
 root : zhA L (b.placed.map zam) b.header.root
 pl : ∀ p ∈ b.placed,PlI p ∧ zdA p.topic = true
 cnt : b.placed.length ≤ 16
theorem BlkI.pre {L L' : List (List UInt8)} {b : zaM} (h : BlkI L b) (hp : L <+: L') : BlkI L' b := ⟨h.ok,h.root.pre hp,h.pl,h.cnt⟩
def LinkI (L : List (List UInt8)) (q h : zcF) : Prop := zfb L (znl q) h.prev ∧ h.seq = q.seq + 1
def lastH : zcF → List zaM → zcF
 | q, [] => q
 | _,b :: r => lastH b.header r
def ChI (L : List (List UInt8)) : zcF → List zaM → Prop
 | _, [] => True
 | q,b :: r => LinkI L q b.header ∧ ChI L b.header r
theorem ChI.pre {L L' : List (List UInt8)} (hp : L <+: L') : ∀ {bs : List zaM} {q : zcF},ChI L q bs → ChI L' q bs
 | [],_,_ => trivial
 | b :: r,q,h => ⟨⟨h.1.1.pre hp,h.1.2⟩,ChI.pre hp h.2⟩
theorem ChI.snoc {L : List (List UInt8)} {b : zaM} : ∀ {bs : List zaM} {q : zcF},ChI L q bs → LinkI L (lastH q bs) b.header → ChI L q (bs ++ [b])
 | [],_,_,h => ⟨h,trivial⟩
 | c :: r,q,h,hl => ⟨h.1,ChI.snoc h.2 hl⟩
theorem zoP {b : zaM} : ∀ {bs : List zaM} {q : zcF},lastH q (bs ++ [b]) = b.header
 | [],_ => rfl
 | c :: r,q => zoP (bs := r) (q := c.header)
theorem digL_pre (L : List (List UInt8)) (l : List zn) : L <+: zjD L l ∧ (zjD L l).length ≤ L.length + 1 := by
 unfold zjD
 split
 ·exact ⟨List.prefix_refl L,by omega⟩
 ·exact ⟨zeO ..,zib ..⟩
theorem hdigL_pre (L : List (List UInt8)) (h : zcF) : L <+: zcO L h ∧ (zcO L h).length ≤ L.length + 1 := by
 unfold zcO
 split
 ·exact ⟨List.prefix_refl L,by omega⟩
 ·exact ⟨zeO ..,zib ..⟩
theorem ztN {L : List (List UInt8)} {b : List UInt8} (h : L.length ≤ 1048576) : 0 ≤ zcI L b ∧ zcI L b ≤ 1048577 := by
 unfold zcI
 split
 ·rename_i i hi; have := (zjy hi).1; omega
 ·split <;> omega
theorem exec_hist {L : List (List UInt8)} {T : zbf} {h : zcF} {b : List zn} (hT : zeN T) (hL : L.length + 600 ≤ 1048576) :
  L <+: (zcv L T h b).L ∧ (zcv L T h b).L.length ≤ L.length + 520 ∧
  ((zcv L T h b).e = 0 → BlkI (zcv L T h b).L ⟨(zcv L T h b).h,b,(zcv L T h b).p⟩ ∧ LinkI (zcv L T h b).L h (zcv L T h b).h) := by
 obtain ⟨d1,d2⟩ := digL_pre L b
 obtain ⟨d3,d4⟩ := hdigL_pre (zjD L b) h
 unfold zcv
 split
 ·rename_i c0; exact ⟨List.prefix_refl L,by simp only; omega,fun e => absurd e c0⟩
 rename_i c0
 have c0 : zaH h = 0 := Classical.not_not.1 c0
 split
 ·exact ⟨List.prefix_refl L,by simp only; omega,fun e => by simp at e⟩
 rename_i c1
 split
 ·rename_i c2; exact ⟨d1,by simp only; omega,fun e => absurd e c2⟩
 rename_i c2
 have c2 : digE L b = 0 := Classical.not_not.1 c2
 split
 ·rename_i c3; exact ⟨d1.trans d3,by simp only; omega,fun e => absurd e c3⟩
 rename_i c3
 have c3 : hdigE (zjD L b) h = 0 := Classical.not_not.1 c3
 have hb4 := dig_len c2
 have p1 := zkU b hT
 have p2 := applyAllN b T
 have hn : ((zU T b).1.map zam).length ≤ 16 := by rw [List.length_map]; have := p2.2; omega
 obtain ⟨r1,r2,r3,_⟩ := root_at ((zU T b).1.map zam).length (L := zcO (zjD L b) h) (l := (zU T b).1.map zam) (Nat.le_refl _) (by omega)
 have s1 := zeO (rootF (zcO (zjD L b) h) ((zU T b).1.map zam)).2 (zeh (zU T b).2)
 have s2 := zib (rootF (zcO (zjD L b) h) ((zU T b).1.map zam)).2 (zeh (zU T b).2)
 simp only
 split
 ·exact ⟨((d1.trans d3).trans r2).trans s1,by simp only; omega,fun e => by simp at e⟩
 ·rename_i c4
  refine ⟨((d1.trans d3).trans r2).trans s1,by simp only; omega,fun _ => ⟨⟨?_,r1.pre s1,fun p hp => ⟨p1.1 p hp,p2.1 p hp⟩,by simp only; have := p2.2; omega⟩, ?_,rfl⟩⟩
  ·have hseq := zdE (zdl.1 c0) h.seq (by simp [zkD])
   have g1 : zcA (h.seq + 1) = true := zdz.2 (by omega)
   have g2 : zcA (ziA (zjD L b) h) = true := by
    rw [ziA,if_neg (by simp [c0])]
    have := ztN (L := zjD L b) (b := znl h) (by omega)
    exact zdz.2 (by omega)
   have g3 : zcA (digD L b) = true := by
    have hcb : ¬ zaj b ≠ 0 := fun hc => by rw [digE,if_pos hc] at c2; exact hc c2
    rw [digD,if_neg hcb]
    have := ztN (L := L) (b := ziT b) (by omega)
    exact zdz.2 (by omega)
   have g4 := r1.num
   have g4' : zcA (rootF (zcO (zjD L b) h) ((zU T b).1.map zam)).1 = true := zdz.2 (by omega)
   have g5 := ztN (L := (rootF (zcO (zjD L b) h) ((zU T b).1.map zam)).2) (b := zeh (zU T b).2) (by omega)
   have g5' : zcA (zcI (rootF (zcO (zjD L b) h) ((zU T b).1.map zam)).2 (zeh (zU T b).2)) = true := zdz.2 (by omega)
   simp [zfQ,zkD,g1,g2,g3,g4',g5']
  ·have e1 : ziA (zjD L b) h = zcI (zjD L b) (znl h) := by rw [ziA,if_neg (by simp [c0])]
   have e2 : zcO (zjD L b) h = zdH (zjD L b) (znl h) := by rw [zcO,if_neg (by simp [c0])]
   have n0 : zcI (zjD L b) (znl h) ≠ 0 := zqq (by omega)
   show zfb _ (znl h) (ziA (zjD L b) h)
   rw [e1]
   have := zqp n0
   rw [← e2] at this
   exact this.pre (r2.trans s1)
theorem signL_mem' {G : List zJ} {s x : zJ} (h : x ∈ zkg G s) : x ∈ G ∨ x = s := by
 unfold zkg at h
 split at h
 ·exact .inl h
 ·rcases List.mem_append.1 h with h | h
  ·exact .inl h
  ·exact .inr (by simpa using h)
theorem zqt (G : List zJ) (s : zJ) : ∀ x ∈ G,x ∈ zkg G s := fun x hx => by
 unfold zkg
 split
 ·exact hx
 ·exact List.mem_append_left _ hx
theorem zsl (G : List zJ) (s : zJ) : s ∈ zkg G s := by
 unfold zkg
 split
 ·assumption
 ·simp
theorem signG_mem' {G : List zJ} {k d : Int} {x : zJ} (h : x ∈ zeL G k d) : x ∈ G ∨ (x = ⟨k,d⟩ ∧ zdu k d = 0) := by
 unfold zeL at h
 split at h
 ·rename_i e
  rcases signL_mem' h with h | h
  ·exact .inl h
  ·exact .inr ⟨h,e⟩
 ·exact .inl h
theorem signG_sub (G : List zJ) (k d : Int) : ∀ x ∈ G,x ∈ zeL G k d := fun x hx => by
 unfold zeL
 split
 ·exact zqt _ _ x hx
 ·exact hx
theorem keyF_sign' {c d : Int} (h : zdu (keyF c) d = 0) : 13 ≤ keyF c := by
 unfold zdu at h
 unfold keyF at h ⊢
 split
 ·rename_i e; rw [if_pos e] at h; simp at h
 ·omega
theorem seHist : ∀ (l : List zn) (s : List (List UInt8) × List zJ × List zn),s.1 <+: (l.foldl seR s).1 ∧ (l.foldl seR s).1.length ≤ s.1.length + l.length ∧ (∀ x ∈ (l.foldl seR s).2.1,x ∈ s.2.1 ∨ 13 ≤ x.key) ∧ (∀ x ∈ s.2.1,x ∈ (l.foldl seR s).2.1)
 | [],s => ⟨List.prefix_refl _,by simp,fun x h => .inl h,fun x h => h⟩
 | r :: l,s => by
  obtain ⟨h1,h2,h3,h4⟩ := seHist l (seR s r)
  have g1 : s.1 <+: (seR s r).1 ∧ (seR s r).1.length ≤ s.1.length + 1 := by
   simp only [seR,sealL]
   split
   ·exact ⟨List.prefix_refl _,by omega⟩
   ·exact ⟨zeO ..,zib ..⟩
  have g2 : ∀ x ∈ (seR s r).2.1,x ∈ s.2.1 ∨ 13 ≤ x.key := fun x hx => by
   simp only [seR,zrU] at hx
   split at hx
   ·exact .inl hx
   ·rcases signG_mem' hx with hx | ⟨rfl,e⟩
    ·exact .inl hx
    ·exact .inr (keyF_sign' e)
  have g3 : ∀ x ∈ s.2.1,x ∈ (seR s r).2.1 := fun x hx => by
   simp only [seR,zrU]
   split
   ·exact hx
   ·exact signG_sub _ _ _ x hx
  refine ⟨g1.1.trans h1, ?_,fun x hx => ?_,fun x hx => h4 x (g3 x hx)⟩
  ·simp only [List.foldl_cons,List.length_cons]; omega
  ·rcases h3 x hx with hx | hx
   ·exact g2 x hx
   ·exact .inr hx
theorem voHist {seq d : Int} (hm : zog 6 0 seq d = true) : ∀ (ks : List Int) (s : List (List UInt8) × List zJ × List zJ),(∀ k ∈ ks, 0 ≤ k ∧ k < 13) → s.1.length < 1048576 → ∀ v,zfb s.1 (zeK 6 0 seq d) v →
  (ks.foldl (voR seq d) s).1 = s.1 ∧ (∀ x ∈ (ks.foldl (voR seq d) s).2.1,x ∈ s.2.1 ∨ x.dig = v) ∧ (∀ x ∈ s.2.1,x ∈ (ks.foldl (voR seq d) s).2.1) ∧ (ks.foldl (voR seq d) s).2.2 = s.2.2 ++ ks.map (fun k => ⟨k,v⟩) ∧ ∀ k ∈ ks,(⟨k,v⟩ : zJ) ∈ (ks.foldl (voR seq d) s).2.1
 | [],s,_,_,v,_ => ⟨rfl,fun x h => .inl h,fun x h => h,by simp,by simp⟩
 | k :: ks,s,hk,hl,v,hv => by
  obtain ⟨e1,e2⟩ := hv.sum
  have v1 := hv.pos
  have k1 := hk k (by simp)
  have sf : zdu k v = 0 := by rw [zdu,if_neg (by omega),if_neg (by omega)]
  have sr : signR k v = ⟨k,v⟩ := by rw [signR,if_pos sf]
  have n0 : ¬ zcI s.1 (zeK 6 0 seq d) = 0 := by rw [e1]; omega
  have g1 : (voR seq d s k).1 = s.1 := by simp only [voR,votL,if_pos hm,e2]
  have g2 : (voR seq d s k).2.1 = zkg s.2.1 ⟨k,v⟩ := by
   simp only [voR,votG,if_pos hm,sgnG]
   rw [if_neg n0,e1,zeL,if_pos sf]
  have g3 : (voR seq d s k).2.2 = s.2.2 ++ [⟨k,v⟩] := by
   simp only [voR,ztK,zsf,if_pos hm,sgnE,sgnS]
   rw [if_neg n0,if_neg n0,e1,if_pos sf,sr]
  obtain ⟨h1,h2,h3,h4,h5⟩ := voHist hm ks (voR seq d s k) (fun j hj => hk j (by simp [hj])) (by rw [g1]; exact hl) v (by rw [g1]; exact hv)
  refine ⟨h1.trans g1,fun x hx => ?_,fun x hx => h3 x (by rw [g2]; exact zqt _ _ x hx), ?_,fun j hj => ?_⟩
  ·rcases h2 x hx with hx | hx
   ·rw [g2] at hx
    rcases signL_mem' hx with hx | rfl
    ·exact .inl hx
    ·exact .inr rfl
   ·exact .inr hx
  ·simp only [List.foldl_cons,List.map_cons]
   rw [h4,g3]; simp
  ·rcases List.mem_cons.1 hj with rfl | hj
   ·exact h3 _ (by rw [g2]; exact zsl _ _)
   ·exact h5 j hj
end Go.Proofs.YtncpaekiidpchaaGreat

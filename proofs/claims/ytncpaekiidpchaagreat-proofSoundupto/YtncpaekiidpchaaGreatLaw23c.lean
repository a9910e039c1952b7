/- The law ProofVerifies, from the contracts. -/
import Derived.Test.YtncpaekiidpchaaGreatTr2
import Derived.Test.YtncpaekiidpchaaGreatNr3
import Derived.Test.YtncpaekiidpchaaGreatSpUtf
set_option linter.all false
set_option maxRecDepth 100000
namespace Go.Proofs.YtncpaekiidpchaaGreat
open Go.AW
theorem zqh (L : List (List UInt8)) (b : List UInt8) : L <+: zdD L b := by
 unfold zdD
 split
 ·exact List.prefix_refl L
 ·split
  ·exact List.prefix_refl L
  ·exact List.prefix_append ..
theorem rootF_pre : ∀ (f : Nat) {L l : List (List UInt8)},l.length ≤ f → L <+: (rootF L l).2 := by
 intro f
 induction f with
 | zero =>
  intro L l hf
  have : l = [] := List.eq_nil_of_length_eq_zero (by omega)
  subst this
  exact zqh ..
 | succ f ih =>
  intro L l hf
  match l,hf with
  | [],_ => exact zqh ..
  | [x],_ => exact zqh ..
  | x :: y :: r,hf =>
   obtain ⟨l,hl⟩ : ∃ l,x :: y :: r = l := ⟨_,rfl⟩
   have h2 : 2 ≤ l.length := by rw [← hl]; simp
   rw [hl] at hf ⊢
   have hs := zbH h2
   rw [zmz h2]
   exact ((ih (l := l.take (zk l.length)) (by rw [List.length_take]; omega)).trans (ih (l := l.drop (zk l.length)) (by rw [List.length_drop]; omega))).trans (zqh ..)
theorem zov : ∀ (f : Nat) {L : List (List UInt8)} {i : Nat} {l : List (List UInt8)},l.length ≤ f → L <+: (zbR f L i l).2
 | 0,L,i,l,hf => by rw [zjo (by omega)]; exact List.prefix_refl L
 | f + 1,L,i,l,hf => by
  by_cases h1 : l.length ≤ 1
  ·rw [zjo h1]; exact List.prefix_refl L
  ·have hs := zbH (n := l.length) (by omega)
   rw [zuc (by omega)]
   split
   ·exact (zov f (by rw [List.length_take]; omega)).trans (rootF_pre _ (Nat.le_refl _))
   ·exact (zov f (by rw [List.length_drop]; omega)).trans (rootF_pre _ (Nat.le_refl _))
theorem makeF_pre {L : List (List UInt8)} {l : List zbM} {c : zfN} {t : List UInt8} {o : Int} : L <+: (zeQ L l c t o).2.2 := by
 unfold zeQ
 split
 ·exact List.prefix_refl L
 ·split
  ·exact List.prefix_refl L
  ·exact zov _ (by simp)
theorem begun_case' {σ : List zg} {c : zmZ} (hq : okC c) {K : KT}
  (hK : ∀ S,StE σ (stF (ksF c) c.bats) (stF (ksF c) c.bats).L (stF (ksF c) c.bats).G S → K (.tup [.box (σ.length + 9) 0, .d (.bool true)]) S) : zE Tryz.prog zcs [caseA c] σ K :=
 c_begun23 hq.ops (by have := hq.sum; omega) hq.voters hK
theorem stF_I' {c : zmZ} (hq : okC c) : StI 2000000 20 (stF (ksF c) c.bats) := by
 have h := foldSt (ks := ksF c) (bats := c.bats.take 20) st0I (fun l hl => hq.ops l (List.mem_of_mem_take hl)) (zjD _ _)
 have h1 := zlu c.bats 20
 have h2 := hq.sum
 have h3 : (c.bats.take 20).length ≤ 20 := by rw [List.length_take]; omega
 exact ⟨h.tab,by have := h.led; rw [stF]; omega,h.ledI,h.tops,h.last,h.last8,h.bs,by have := h.bl; rw [stF]; omega,h.cs,by have := h.cl; rw [stF]; omega⟩
abbrev zow (l : List zaO) : List (List D) := l.map proofD
end Go.Proofs.YtncpaekiidpchaaGreat

/- Numbers of what a table knows; trees in a table: what a proof shows, and that a made proof shows it. No program in sight. -/
namespace Go.AW
def zdU (L : List (List UInt8)) (b : List UInt8) (d : Int) : Prop := ∃ i,zbP L b = some i ∧ d = ((i + 1 : Nat) : Int)
theorem zdU.pre {L L' : List (List UInt8)} {b : List UInt8} {d : Int} (h : zdU L b d) (hp : L <+: L') : zdU L' b d := by
 obtain ⟨i,h1,h2⟩ := h
 obtain ⟨m,rfl⟩ := hp
 exact ⟨i,look_more h1,h2⟩
theorem zdU.pos {L : List (List UInt8)} {b : List UInt8} {d : Int} (h : zdU L b d) : 1 ≤ d ∧ d ≤ L.length := by
 obtain ⟨i,h1,h2⟩ := h
 have := (zgJ h1).1
 omega
theorem zdU.inj {L : List (List UInt8)} {a b : List UInt8} {d : Int} (ha : zdU L a d) (hb : zdU L b d) : a = b := by
 obtain ⟨i,h1,h2⟩ := ha
 obtain ⟨j,h3,h4⟩ := hb
 have : i = j := by omega
 subst this
 have := (zgJ h1).2
 rw [(zgJ h3).2] at this
 exact (Option.some.inj this).symm
theorem zdU.one {L : List (List UInt8)} {b : List UInt8} {d e : Int} (ha : zdU L b d) (hb : zdU L b e) : d = e := by
 obtain ⟨i,h1,h2⟩ := ha
 obtain ⟨j,h3,h4⟩ := hb
 rw [h1] at h3
 cases h3
 omega
theorem zqx {L : List (List UInt8)} {b : List UInt8} (h : L.length < 1048576) : zcK L b ≠ 0 := by
 unfold zcK
 split
 ·omega
 ·rw [if_neg (by omega)]; omega
theorem zqw {L : List (List UInt8)} {b : List UInt8} (h : zcK L b ≠ 0) : zdU (zdD L b) b (zcK L b) := by
 unfold zcK zdD at *
 split at h
 ·rename_i i hi
  exact ⟨i,hi,rfl⟩
 ·rename_i hn
  split at h
  ·exact absurd rfl h
  ·rename_i hl
   rw [if_neg hl,if_neg hl]
   exact ⟨L.length,look_new L b hn,by omega⟩
theorem zdU.sum {L : List (List UInt8)} {b : List UInt8} {d : Int} (h : zdU L b d) : zcK L b = d ∧ zdD L b = L := by
 obtain ⟨i,h1,h2⟩ := h
 unfold zcK zdD
 rw [h1]
 exact ⟨by simp only; omega,rfl⟩
theorem zid (L : List (List UInt8)) (b : List UInt8) : (zdD L b).length ≤ L.length + 1 := by
 unfold zdD
 repeat' split
 all_goals simp
theorem zeS (L : List (List UInt8)) (b : List UInt8) : L <+: zdD L b := by
 unfold zdD
 split
 ·exact List.prefix_refl L
 ·split
  ·exact List.prefix_refl L
  ·exact List.prefix_append ..
inductive zhE (L : List (List UInt8)) : List (List UInt8) → Int → Prop
 | nil (d : Int) : zdU L [2] d → zhE L [] d
 | one (x : List UInt8) (d : Int) : zdU L (zfX x) d → zhE L [x] d
 | two (l : List (List UInt8)) (a b d : Int) : 2 ≤ l.length → zhE L (l.take (zk l.length)) a → zhE L (l.drop (zk l.length)) b → zdU L (zex a b) d → zhE L l d
theorem zhE.pre {L L' : List (List UInt8)} {l : List (List UInt8)} {d : Int} (h : zhE L l d) (hp : L <+: L') : zhE L' l d := by
 induction h with
 | nil d h => exact .nil d (h.pre hp)
 | one x d h => exact .one x d (h.pre hp)
 | two l a b d h2 _ _ hn ih1 ih2 => exact .two l a b d h2 ih1 ih2 (hn.pre hp)
theorem zhE.num {L l : List (List UInt8)} {d : Int} (h : zhE L l d) : 1 ≤ d ∧ d ≤ L.length := by
 cases h with
 | nil _ h => exact h.pos
 | one _ _ h => exact h.pos
 | two _ _ _ _ _ _ _ h => exact h.pos
theorem zhE.rootF {L l : List (List UInt8)} {d : Int} (h : zhE L l d) : rootF L l = (d,L) := by
 induction h with
 | nil d h => rw [rootF_0,h.sum.1,h.sum.2]
 | one x d h => rw [rootF_1,h.sum.1,h.sum.2]
 | two l a b d h2 _ _ hn ih1 ih2 => rw [zmz h2,ih1]; simp only; rw [ih2]; simp only; rw [hn.sum.1,hn.sum.2]
theorem root_at : ∀ (f : Nat) {L l : List (List UInt8)},l.length ≤ f → L.length + 2 * l.length + 1 ≤ 1048576 → zhE (Go.AW.rootF L l).2 l (Go.AW.rootF L l).1 ∧ L <+: (Go.AW.rootF L l).2 ∧ (Go.AW.rootF L l).2.length ≤ L.length + 2 * l.length + 1 ∧ (1 ≤ l.length → (Go.AW.rootF L l).2.length + 1 ≤ L.length + 2 * l.length) := by
 intro f
 induction f with
 | zero =>
  intro L l hf hL
  have : l = [] := List.eq_nil_of_length_eq_zero (by omega)
  subst this
  rw [rootF_0]
  exact ⟨.nil _ (zqw (zqx (by omega))),zeS ..,by have := zid L [2]; simp only; omega,fun h => by simp at h⟩
 | succ f ih =>
  intro L l hf hL
  match l,hf,hL with
  | [],_,hL =>
   rw [rootF_0]
   exact ⟨.nil _ (zqw (zqx (by omega))),zeS ..,by have := zid L [2]; simp only; omega,fun h => by simp at h⟩
  | [x],_,hL =>
   rw [rootF_1]
   simp only [List.length_cons,List.length_nil] at hL ⊢
   exact ⟨.one x _ (zqw (zqx (by omega))),zeS ..,by have := zid L (zfX x); omega,fun _ => by have := zid L (zfX x); omega⟩
  | x :: y :: r,hf,hL =>
   obtain ⟨l,hl⟩ : ∃ l,x :: y :: r = l := ⟨_,rfl⟩
   have h2 : 2 ≤ l.length := by rw [← hl]; simp
   rw [hl] at hf hL ⊢
   have hs := zbH h2
   have e1 : (l.take (zk l.length)).length = zk l.length := by rw [List.length_take]; omega
   have e2 : (l.drop (zk l.length)).length = l.length - zk l.length := List.length_drop
   obtain ⟨a1,a2,a3,a4⟩ := ih (L := L) (l := l.take (zk l.length)) (by omega) (by omega)
   have a4 := a4 (by omega)
   obtain ⟨b1,b2,b3,b4⟩ := ih (L := (Go.AW.rootF L (l.take (zk l.length))).2) (l := l.drop (zk l.length)) (by omega) (by omega)
   have b4 := b4 (by omega)
   rw [zmz h2]
   have hn := zid (Go.AW.rootF (Go.AW.rootF L (l.take (zk l.length))).2 (l.drop (zk l.length))).2 (zex (Go.AW.rootF L (l.take (zk l.length))).1 (Go.AW.rootF (Go.AW.rootF L (l.take (zk l.length))).2 (l.drop (zk l.length))).1)
   refine ⟨?_,(a2.trans b2).trans (zeS ..),by simp only; omega,fun _ => by simp only; omega⟩
   exact .two l _ _ _ h2 (a1.pre (b2.trans (zeS ..))) (b1.pre (zeS ..)) (zqw (zqx (by omega)))
theorem leaf_inj {a b : List UInt8} (h : zfX a = zfX b) : a = b := by simpa [zfX] using h
theorem node_left {a b c d : Int} (ha : 0 ≤ a ∧ a < 18446744073709551616) (hb : b.toNat < 18446744073709551616) (hc : 0 ≤ c ∧ c < 18446744073709551616) (hd : d.toNat < 18446744073709551616) (h : zex a b = zex c d) : a = c ∧ b.toNat = d.toNat := by
 simp only [zex,List.cons.injEq,true_and] at h
 obtain ⟨h1,h2⟩ := zdc (by omega) (by omega) h
 have h2' : zbO b.toNat ++ [] = zbO d.toNat ++ [] := by simpa using h2
 obtain ⟨h3,_⟩ := zdc hb hd h2'
 exact ⟨by omega,h3⟩
theorem zrv : ∀ (f : Nat) {L l : List (List UInt8)} {d : Int} {b : List UInt8} {i n : Nat} {p : List Int},L.length ≤ 1048576 → zhE L l d → (∀ x ∈ p,x.toNat < 18446744073709551616) → zcx f L b i n p = (d,true) → b ∈ l
 | 0,L,l,d,b,i,n,p,_,_,_,h => by simp [zcx] at h
 | f + 1,L,l,d,b,i,n,p,hL,hR,hp,h => by
  have hlast : (p.getD (p.length - 1) 0).toNat < 18446744073709551616 := by
   rcases Nat.lt_or_ge (p.length - 1) p.length with hl | hl
   ·have : p.getD (p.length - 1) 0 = p[p.length - 1] := by simp [List.getD,List.getElem?_eq_getElem hl]
    rw [this]; exact hp _ (List.getElem_mem hl)
   ·have : p = [] := List.eq_nil_of_length_eq_zero (by omega)
    subst this; simp
  have hq : ∀ x ∈ p.take (p.length - 1),x.toNat < 18446744073709551616 := fun x hx => hp x (List.mem_of_mem_take hx)
  have nn : ∀ {x : List UInt8} {e : Int × Bool},(zgu (zbP L x),(zbP L x).isSome) = e → e = (d,true) → zdU L x d := fun {x e} h1 h2 => by
   subst h2
   simp only [Prod.mk.injEq] at h1
   obtain ⟨i,hi⟩ := Option.isSome_iff_exists.1 h1.2
   rw [hi] at h1
   exact ⟨i,hi,by have := h1.1; simp only [zgu] at this; omega⟩
  simp only [zcx] at h
  split at h
  ·have hn := nn rfl h
   cases hR with
   | nil _ h2 => have := hn.inj h2; simp [zfX] at this
   | one x _ h2 => have := leaf_inj (hn.inj h2); subst this; simp
   | two _ _ _ _ _ _ _ h2 => have := hn.inj h2; simp [zfX,zex] at this
  ·split at h
   ·split at h
    ·rename_i hd
     have hn := nn rfl h
     cases hR with
     | nil _ h2 => have := hn.inj h2; simp [zex] at this
     | one x _ h2 => have := hn.inj h2; simp [zfX,zex] at this
     | two _ a b' _ h2 ha hb hx =>
      have e := hn.inj hx
      obtain ⟨D,hD⟩ : ∃ D,zcx f L b i (zk n) (p.take (p.length - 1)) = D := ⟨_,rfl⟩
      rw [hD] at hd e
      have hDn : 0 ≤ D.1 ∧ D.1 < 18446744073709551616 := by
       have : ∀ (f : Nat) (i n : Nat) (p : List Int), 0 ≤ (zcx f L b i n p).1 ∧ (zcx f L b i n p).1 ≤ 1048576 := by
        have nb : ∀ x, 0 ≤ zgu (zbP L x) ∧ zgu (zbP L x) ≤ 1048576 := fun x => by
         cases hx : zbP L x with
         | none => simp [zgu]
         | some i => have := (zgJ hx).1; simp only [zgu]; omega
        intro f i n p
        cases f with
        | zero => simp [zcx]
        | succ f =>
         simp only [zcx]
         split
         ·exact nb _
         ·split
          ·split
           ·exact nb _
           ·simp
          ·split
           ·exact nb _
           ·simp
       have := this f i (zk n) (p.take (p.length - 1))
       rw [hD] at this
       omega
      have na := ha.num; have nb := hb.num
      have e2 := (node_left hDn hlast ⟨by omega,by omega⟩ (by omega) e).1
      have := zrv f hL ha hq (b := b) (i := i) (n := zk n) (by rw [hD, ← e2, ← hd])
      exact List.mem_of_mem_take this
    ·simp at h
   ·split at h
    ·rename_i hd
     have hn := nn rfl h
     cases hR with
     | nil _ h2 => have := hn.inj h2; simp [zex] at this
     | one x _ h2 => have := hn.inj h2; simp [zfX,zex] at this
     | two _ a b' _ h2 ha hb hx =>
      have e := hn.inj hx
      obtain ⟨D,hD⟩ : ∃ D,zcx f L b (i - zk n) (n - zk n) (p.take (p.length - 1)) = D := ⟨_,rfl⟩
      rw [hD] at hd e
      have hDn : 0 ≤ D.1 ∧ D.1 < 18446744073709551616 := by
       have : ∀ (f : Nat) (i n : Nat) (p : List Int), 0 ≤ (zcx f L b i n p).1 ∧ (zcx f L b i n p).1 ≤ 1048576 := by
        have nb : ∀ x, 0 ≤ zgu (zbP L x) ∧ zgu (zbP L x) ≤ 1048576 := fun x => by
         cases hx : zbP L x with
         | none => simp [zgu]
         | some i => have := (zgJ hx).1; simp only [zgu]; omega
        intro f i n p
        cases f with
        | zero => simp [zcx]
        | succ f =>
         simp only [zcx]
         split
         ·exact nb _
         ·split
          ·split
           ·exact nb _
           ·simp
          ·split
           ·exact nb _
           ·simp
       have := this f (i - zk n) (n - zk n) (p.take (p.length - 1))
       rw [hD] at this
       omega
      have na := ha.num; have nb := hb.num
      -- the right side: the numbers behind are equal
      simp only [zex,List.cons.injEq,true_and] at e
      obtain ⟨h1,h2'⟩ := zdc hlast (by omega) e
      have h2'' : zbO D.1.toNat ++ [] = zbO b'.toNat ++ [] := by simpa using h2'
      obtain ⟨h3,_⟩ := zdc (by omega) (by omega) h2''
      have e2 : D.1 = b' := by omega
      have := zrv f hL hb hq (b := b) (i := i - zk n) (n := n - zk n) (by rw [hD, ← e2, ← hd])
      exact List.mem_of_mem_drop this
    ·simp at h
end Go.AW

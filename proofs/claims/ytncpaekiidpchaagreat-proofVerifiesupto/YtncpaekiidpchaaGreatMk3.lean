/- Contracts: the digest to which a proof comes, on both sides. -/
import Derived.Test.YtncpaekiidpchaaGreatMk2
set_option linter.all false
set_option maxRecDepth 100000
namespace Go.Proofs.YtncpaekiidpchaaGreat
open Go.AW
theorem znf {L : List (List UInt8)} (hL : L.length ≤ 1048576) (b : List UInt8) : 0 ≤ zlb (zcX L b) ∧ zlb (zcX L b) ≤ 1048577 := by
 cases h : zcX L b with
 | none => simp [zlb]
 | some i =>
  have := (zvo h).1
  simp only [zlb]; omega
theorem ziv : ∀ (f : Nat) {L : List (List UInt8)} (hL : L.length ≤ 1048576) (b : List UInt8) (i n : Nat) (p : List Int),(zdS f L b i n p).1 ≤ 1048577
 | 0,L,hL,b,i,n,p => by simp [zdS]
 | f + 1,L,hL,b,i,n,p => by
  simp only [zdS]
  split
  ·exact (znf hL _).2
  ·split
   ·split
    ·exact (znf hL _).2
    ·simp
   ·split
    ·exact (znf hL _).2
    ·simp
theorem c_r5comesA : ∀ (f : Nat) {σ : List zh} {id : Nat} {L : List (List UInt8)} {b : List UInt8} {i n : Nat} {p : List Int},n ≤ f → 1 ≤ n → i < n → n ≤ 4611686018427387904 → p.length = zdA i n → σ[id]? = some (rtO L) → L.length ≤ 1048576 → b.length ≤ 1073740000 → (∀ x ∈ p,x ≤ 9223372036854775807) →
  ∀ {K : KT},K (.tup [.d (.int .i64 (zdS f L b i n p).1), .d (.bool (zdS f L b i n p).2)]) σ →
  zy Tryz.prog zht [.box id 0, .d (.slice (bcs b)), .d (.int .i64 i), .d (.int .i64 n), .d (.slice (zaX p))] σ K := by
 intro f
 induction f with
 | zero => intros; omega
 | succ f ih =>
  intro σ id L b i n p hf hn hin hn2 hp hT hL hb hx K hK
  refine zi zsd.is rfl fun hl _ => zsd.goes ?_
  simp only [zsO,iN,bT,bF,eN]
  by_cases h1 : n = 1
  ·subst h1
   simp only [zdS,if_pos] at hK
   (repeat' first | refine gq1 ?_ | with_reducible first | exact ⟨⟩ | refine zg ?_ | fail)
   refine c_r5leaf (by omega) ?_
   (repeat' first | refine gq1 ?_ | with_reducible first | exact ⟨⟩ | refine zg ?_ | fail)
   refine zkk hT hL ?_
   (repeat' first | refine gq1 ?_ | with_reducible first | exact ⟨⟩ | refine zg ?_ | fail)
   (first | refine zX hl ?_ | refine zW hl ?_)
   exact hK
  ·have e1 : ((n : Int) == 1) = false := by rw [beq_eq_false_iff_ne]; omega
   have hs := zbB (n := n) (by omega)
   rw [zlo (by omega)] at hp
   have hpl : (zaX p).length = p.length := List.length_map ..
   obtain ⟨q,last,hq⟩ : ∃ q last,p = q ++ [last] := by
    have hne : p ≠ [] := by intro e; rw [e] at hp; simp at hp
    exact ⟨p.dropLast,p.getLast hne,(List.dropLast_concat_getLast hne).symm⟩
   have hql : p.length = q.length + 1 := by rw [hq]; simp
   have hw1 : IntKind.i64.wrap ((p.length : Int) - 1) = (q.length : Int) := by rw [zP (by omega) (by have := zml i (zj n); have := zml (i - zj n) (n - zj n); split at hp <;> omega)]; omega
   have hgl : (zaX p)[q.length]? = some [D.int .i64 last] := by rw [hq]; simp
   have htk : List.take q.length (zaX p) = zaX q := by rw [hq]; simp
   have hone : ∀ e ∈ zaX p,e.length = 1 := zgo (f := fun t : Int => [D.int .i64 t]) (fun _ => rfl) p
   have hll : last ≤ 9223372036854775807 := hx last (by rw [hq]; simp)
   have hxq : ∀ x ∈ q,x ≤ 9223372036854775807 := fun x hm => hx x (by rw [hq]; simp [hm])
   have hgd : p.getD (p.length - 1) 0 = last := by rw [hql,hq]; simp
   have htq : p.take (p.length - 1) = q := by rw [hql,hq]; simp
   simp only [zdS,if_neg h1,hgd,htq] at hK
   (repeat' first | refine gq2 e1 ?_ | with_reducible first | exact ⟨⟩ | refine zg ?_ | fail)
   refine zoq (by omega) ?_
   (repeat' first | refine gq2 (zc hpl (zc hw1 (zc hgl htk))) ?_ | with_reducible first | exact ⟨⟩ | refine zg ?_ | fail)
   by_cases hc : i < zj n
   ·have hd : decide ((i : Int) < ((zj n : Nat) : Int)) = true := by simp; omega
    rw [if_pos hc] at hp hK
    have hr := ziv f hL b i (zj n) q
    (repeat' first | refine gq2 (zc hd htk) ?_ | with_reducible first | exact ⟨⟩ | refine zg ?_ | fail)
    refine ih (i := i) (n := zj n) (by omega) (by omega) hc (by omega) (by omega) hT hL hb hxq ?_
    obtain ⟨C,hC⟩ : ∃ C,zdS f L b i (zj n) q = C := ⟨_,rfl⟩
    rw [hC] at hK hr ⊢
    cases hb2 : C.2
    ·rw [hb2] at hK
     (repeat' first | refine gq1 ?_ | with_reducible first | exact ⟨⟩ | refine zg ?_ | fail)
     (first | refine zX hl ?_ | refine zW hl ?_)
     exact hK
    ·rw [if_pos hb2] at hK
     (repeat' first | refine gq1 ?_ | with_reducible first | exact ⟨⟩ | refine zg ?_ | fail)
     refine zvH (by omega) hll ?_
     (repeat' first | refine gq1 ?_ | with_reducible first | exact ⟨⟩ | refine zg ?_ | fail)
     refine zkk hT hL ?_
     (repeat' first | refine gq1 ?_ | with_reducible first | exact ⟨⟩ | refine zg ?_ | fail)
     (first | refine zX hl ?_ | refine zW hl ?_)
     exact hK
   ·have hd : decide ((i : Int) < ((zj n : Nat) : Int)) = false := by simp; omega
    have hw2 : IntKind.i64.wrap ((i : Int) - ((zj n : Nat) : Int)) = ((i - zj n : Nat) : Int) := by rw [zP (by omega) (by omega)]; omega
    have hw3 : IntKind.i64.wrap ((n : Int) - ((zj n : Nat) : Int)) = ((n - zj n : Nat) : Int) := by rw [zP (by omega) (by omega)]; omega
    rw [if_neg hc] at hp hK
    have hr := ziv f hL b (i - zj n) (n - zj n) q
    (repeat' first | refine gq2 (zc hd (zc hw2 (zc hw3 htk))) ?_ | with_reducible first | exact ⟨⟩ | refine zg ?_ | fail)
    refine ih (i := i - zj n) (n := n - zj n) (by omega) (by omega) (by omega) (by omega) (by omega) hT hL hb hxq ?_
    obtain ⟨C,hC⟩ : ∃ C,zdS f L b (i - zj n) (n - zj n) q = C := ⟨_,rfl⟩
    rw [hC] at hK hr ⊢
    cases hb2 : C.2
    ·rw [hb2] at hK
     (repeat' first | refine gq1 ?_ | with_reducible first | exact ⟨⟩ | refine zg ?_ | fail)
     (first | refine zX hl ?_ | refine zW hl ?_)
     exact hK
    ·rw [if_pos hb2] at hK
     (repeat' first | refine gq1 ?_ | with_reducible first | exact ⟨⟩ | refine zg ?_ | fail)
     refine zvH hll (by omega) ?_
     (repeat' first | refine gq1 ?_ | with_reducible first | exact ⟨⟩ | refine zg ?_ | fail)
     refine zkk hT hL ?_
     (repeat' first | refine gq1 ?_ | with_reducible first | exact ⟨⟩ | refine zg ?_ | fail)
     (first | refine zX hl ?_ | refine zW hl ?_)
     exact hK
theorem zkd {i n : Int} (h : ¬ (i < 0 ∨ i ≥ n)) : zfF i n = zdA i.toNat n.toNat := if_neg h
theorem zrf {L : List (List UInt8)} {root : Int} {b : List UInt8} {i n : Int} {p : List Int} (h : ¬ (i < 0 ∨ i ≥ n)) (hp : (p.length : Int) = zfF i n) : zfs L root b i n p = ((zdS n.toNat L b i.toNat n.toNat p).2 && ((zdS n.toNat L b i.toNat n.toNat p).1 == root)) := by
 rw [zkd h] at hp
 unfold zfs
 rw [if_neg (by omega)]
theorem zhe {L : List (List UInt8)} {root : Int} {b : List UInt8} {i n : Int} {p : List Int} (h : (i < 0 ∨ i ≥ n) ∨ (p.length : Int) ≠ zfF i n) : zfs L root b i n p = false := by
 unfold zfs
 rw [if_pos]
 by_cases hh : i < 0 ∨ i ≥ n
 ·rcases hh with h | h
  ·exact .inl h
  ·exact .inr (.inl h)
 ·rcases h with h | h
  ·exact absurd h hh
  ·rw [zkd hh] at h
   exact .inr (.inr h)
theorem c_r5Verify {σ : List zh} {id : Nat} {L : List (List UInt8)} {root : Int} {b : List UInt8} {i n : Int} {p : List Int} (hn : n ≤ 4611686018427387904) (hT : σ[id]? = some (rtO L)) (hL : L.length ≤ 1048576) (hb : b.length ≤ 1073740000) (hx : ∀ x ∈ p,x ≤ 9223372036854775807)
  {K : KT} (hK : K (.d (.bool (zfs L root b i n p))) σ) :
  zy Tryz.prog zlh [.box id 0, .d (.int .i64 root), .d (.slice (bcs b)), .d (.int .i64 i), .d (.int .i64 n), .d (.slice (zaX p))] σ K := by
 refine zi zqd.is rfl fun hl _ => zqd.goes ?_
 have fin : ∀ z,zfs L root b i n p = z → K (.d (.bool z)) σ := fun z h => h ▸ hK
 clear hK
 have hpl : (zaX p).length = p.length := List.length_map ..
 simp only [zqw,iN,bT,bF,eN]
 cases h1 : decide (i < 0)
 rotate_left
 ·(repeat' first | refine gq2 h1 ?_ | with_reducible first | exact ⟨⟩ | refine zg ?_ | fail)
  (first | refine zX hl ?_ | refine zW hl ?_)
  exact fin _ (zhe (.inl (.inl (by simpa using h1))))
 cases h2 : decide (i ≥ n)
 rotate_left
 ·(repeat' first | refine gq2 (zc h1 h2) ?_ | with_reducible first | exact ⟨⟩ | refine zg ?_ | fail)
  (first | refine zX hl ?_ | refine zW hl ?_)
  exact fin _ (zhe (.inl (.inr (by simpa using h2))))
 (repeat' first | refine gq2 (zc h1 (zc h2 hpl)) ?_ | with_reducible first | exact ⟨⟩ | refine zg ?_ | fail)
 refine c_r5Length hn ?_
 simp only [decide_eq_false_iff_not] at h1 h2
 have hh : ¬ (i < 0 ∨ i ≥ n) := by omega
 cases h3 : ((p.length : Int) != zfF i n)
 rotate_left
 ·(repeat' first | refine gq2 h3 ?_ | with_reducible first | exact ⟨⟩ | refine zg ?_ | fail)
  (first | refine zX hl ?_ | refine zW hl ?_)
  exact fin _ (zhe (.inr (by simpa using h3)))
 have h3' : (p.length : Int) = zfF i n := by simpa using h3
 have h4 := zrf (L := L) (root := root) (b := b) hh h3'
 rw [zkd hh] at h3'
 have ei : (i.toNat : Int) = i := by omega
 have en : (n.toNat : Int) = n := by omega
 have hc := fun (K : KT) => c_r5comesA n.toNat (σ := σ) (id := id) (L := L) (b := b) (i := i.toNat) (n := n.toNat) (p := p) (Nat.le_refl _) (by omega) (by omega) (by omega) (by omega) hT hL hb hx (K := K)
 rw [ei,en] at hc
 (repeat' first | refine gq2 h3 ?_ | with_reducible first | exact ⟨⟩ | refine zg ?_ | fail)
 refine hc _ ?_
 obtain ⟨C,hC⟩ : ∃ C,zdS n.toNat L b i.toNat n.toNat p = C := ⟨_,rfl⟩
 rw [hC] at h4 ⊢
 cases hb2 : C.2
 ·(repeat' first | refine gq1 ?_ | with_reducible first | exact ⟨⟩ | refine zg ?_ | fail)
  (first | refine zX hl ?_ | refine zW hl ?_)
  exact fin _ (by rw [h4,hb2]; rfl)
 ·(repeat' first | refine gq1 ?_ | with_reducible first | exact ⟨⟩ | refine zg ?_ | fail)
  (first | refine zX hl ?_ | refine zW hl ?_)
  exact fin _ (by rw [h4,hb2]; rfl)
structure UpAt (σ : List zh) (a b u id : Nat) (x : List UInt8) : Prop where
 ta : σ[a]? = some (.box [.box id 0])
 tb : σ[b]? = some (.box [.d (.slice (bcs x))])
 tu : σ[u]? = some (.box [.fn (.func zcP) [] [.box a 0, .box b 0, .box u 0]])
theorem UpAt.app {σ : List zh} {a b u id : Nat} {x : List UInt8} (h : UpAt σ a b u id x) (τ : List zh) : UpAt (σ ++ τ) a b u id x := ⟨zf h.ta,zf h.tb,zf h.tu⟩
theorem c_mkUp : ∀ (f : Nat) {σ : List zh} {a1 b1 u1 id m t : Nat} {L : List (List UInt8)} {b : List UInt8} {i n : Nat} {p : List Int},n ≤ f → 1 ≤ n → i < n → n ≤ 4611686018427387904 → p.length = zdA i n → UpAt σ a1 b1 u1 id b → zcq σ id m t L → L.length ≤ 1048576 → b.length ≤ 1073740000 → (∀ x ∈ p,x ≤ 9223372036854775807) →
  ∀ {K : KT},K (.tup [.d (.int .i64 (zdS f L b i n p).1), .d (.bool (zdS f L b i n p).2)]) σ →
  zy Tryz.prog zcP [.d (.int .i64 i), .d (.int .i64 n), .d (.slice (zaX p)), .box a1 0, .box b1 0, .box u1 0] σ K := by
 intro f
 induction f with
 | zero => intros; omega
 | succ f ih =>
  intro σ a1 b1 u1 id m t L b i n p hf hn hin hn2 hp hU hT hL hb hx K hK
  refine zi zjo.is rfl fun hl _ => zjo.goes ?_
  have ua := hU.ta; have ub := hU.tb; have uu := hU.tu
  simp only [zjD,iN,bT,bF,eN]
  by_cases h1 : n = 1
  ·subst h1
   simp only [zdS,if_pos] at hK
   (repeat' first | refine gq2 (zc ua ub) ?_ | with_reducible first | exact ⟨⟩ | refine zg ?_ | fail)
   refine c_mkleaf (by omega) ?_
   (repeat' first | refine gq2 ua ?_ | with_reducible first | exact ⟨⟩ | refine zg ?_ | fail)
   refine znu hT ?_
   (repeat' first | refine gq1 ?_ | with_reducible first | exact ⟨⟩ | refine zg ?_ | fail)
   (first | refine zX hl ?_ | refine zW hl ?_)
   exact hK
  ·have e1 : ((n : Int) == 1) = false := by rw [beq_eq_false_iff_ne]; omega
   have hs := zbB (n := n) (by omega)
   rw [zlo (by omega)] at hp
   have hpl : (zaX p).length = p.length := List.length_map ..
   obtain ⟨q,last,hq⟩ : ∃ q last,p = q ++ [last] := by
    have hne : p ≠ [] := by intro e; rw [e] at hp; simp at hp
    exact ⟨p.dropLast,p.getLast hne,(List.dropLast_concat_getLast hne).symm⟩
   have hql : p.length = q.length + 1 := by rw [hq]; simp
   have hw1 : IntKind.i64.wrap ((p.length : Int) - 1) = (q.length : Int) := by rw [zP (by omega) (by have := zml i (zj n); have := zml (i - zj n) (n - zj n); split at hp <;> omega)]; omega
   have hgl : (zaX p)[q.length]? = some [D.int .i64 last] := by rw [hq]; simp
   have htk : List.take q.length (zaX p) = zaX q := by rw [hq]; simp
   have hone : ∀ e ∈ zaX p,e.length = 1 := zgo (f := fun t : Int => [D.int .i64 t]) (fun _ => rfl) p
   have hll : last ≤ 9223372036854775807 := hx last (by rw [hq]; simp)
   have hxq : ∀ x ∈ q,x ≤ 9223372036854775807 := fun x hm => hx x (by rw [hq]; simp [hm])
   have hgd : p.getD (p.length - 1) 0 = last := by rw [hql,hq]; simp
   have htq : p.take (p.length - 1) = q := by rw [hql,hq]; simp
   simp only [zdS,if_neg h1,hgd,htq] at hK
   (repeat' first | refine gq2 (zc e1 (zc hpl hw1)) ?_ | with_reducible first | exact ⟨⟩ | refine zg ?_ | fail)
   refine zor (by omega) ?_
   by_cases hc : i < zj n
   ·have hd : decide ((i : Int) < ((zj n : Nat) : Int)) = true := by simp; omega
    rw [if_pos hc] at hp hK
    have hr := ziv f hL b i (zj n) q
    (repeat' first | refine gq2 (zc hd (zc hpl (zc hw1 (zc htk uu)))) ?_ | with_reducible first | exact ⟨⟩ | refine zg ?_ | fail)
    refine ih (i := i) (n := zj n) (by omega) (by omega) hc (by omega) (by omega) hU hT hL hb hxq ?_
    obtain ⟨C,hC⟩ : ∃ C,zdS f L b i (zj n) q = C := ⟨_,rfl⟩
    rw [hC] at hK hr ⊢
    cases hb2 : C.2
    ·rw [hb2] at hK
     (repeat' first | refine gq1 ?_ | with_reducible first | exact ⟨⟩ | refine zg ?_ | fail)
     (first | refine zX hl ?_ | refine zW hl ?_)
     exact hK
    ·rw [if_pos hb2] at hK
     (repeat' first | refine gq2 (zc ua (zc hgl hw1)) ?_ | with_reducible first | exact ⟨⟩ | refine zg ?_ | fail)
     refine zvI (by omega) hll ?_
     (repeat' first | refine gq2 ua ?_ | with_reducible first | exact ⟨⟩ | refine zg ?_ | fail)
     refine znu hT ?_
     (repeat' first | refine gq1 ?_ | with_reducible first | exact ⟨⟩ | refine zg ?_ | fail)
     (first | refine zX hl ?_ | refine zW hl ?_)
     exact hK
   ·have hd : decide ((i : Int) < ((zj n : Nat) : Int)) = false := by simp; omega
    have hw2 : IntKind.i64.wrap ((i : Int) - ((zj n : Nat) : Int)) = ((i - zj n : Nat) : Int) := by rw [zP (by omega) (by omega)]; omega
    have hw3 : IntKind.i64.wrap ((n : Int) - ((zj n : Nat) : Int)) = ((n - zj n : Nat) : Int) := by rw [zP (by omega) (by omega)]; omega
    rw [if_neg hc] at hp hK
    have hr := ziv f hL b (i - zj n) (n - zj n) q
    (repeat' first | refine gq2 (zc hd (zc hw2 (zc hw3 (zc hpl (zc hw1 (zc htk uu)))))) ?_ | with_reducible first | exact ⟨⟩ | refine zg ?_ | fail)
    refine ih (i := i - zj n) (n := n - zj n) (by omega) (by omega) (by omega) (by omega) (by omega) hU hT hL hb hxq ?_
    obtain ⟨C,hC⟩ : ∃ C,zdS f L b (i - zj n) (n - zj n) q = C := ⟨_,rfl⟩
    rw [hC] at hK hr ⊢
    cases hb2 : C.2
    ·rw [hb2] at hK
     (repeat' first | refine gq1 ?_ | with_reducible first | exact ⟨⟩ | refine zg ?_ | fail)
     (first | refine zX hl ?_ | refine zW hl ?_)
     exact hK
    ·rw [if_pos hb2] at hK
     (repeat' first | refine gq2 (zc ua (zc hgl hw1)) ?_ | with_reducible first | exact ⟨⟩ | refine zg ?_ | fail)
     refine zvI hll (by omega) ?_
     (repeat' first | refine gq2 ua ?_ | with_reducible first | exact ⟨⟩ | refine zg ?_ | fail)
     refine znu hT ?_
     (repeat' first | refine gq1 ?_ | with_reducible first | exact ⟨⟩ | refine zg ?_ | fail)
     (first | refine zX hl ?_ | refine zW hl ?_)
     exact hK
theorem c_mkVerify {σ : List zh} {id m t : Nat} {L : List (List UInt8)} {root : Int} {b : List UInt8} {i n : Int} {p : List Int} (hn : n ≤ 4611686018427387904) (hT : zcq σ id m t L) (hL : L.length ≤ 1048576) (hb : b.length ≤ 1073740000) (hx : ∀ x ∈ p,x ≤ 9223372036854775807)
  {K : KT} (hK : K (.d (.bool (zfs L root b i n p))) σ) :
  zy Tryz.prog zhv [.box id 0, .d (.int .i64 root), .d (.slice (bcs b)), .d (.int .i64 i), .d (.int .i64 n), .d (.slice (zaX p))] σ K := by
 refine zi zlB.is rfl fun hl _ => zlB.goes ?_
 have fin : ∀ z,zfs L root b i n p = z → K (.d (.bool z)) σ := fun z h => h ▸ hK
 clear hK
 have hpl : (zaX p).length = p.length := List.length_map ..
 simp only [zlV,iN,bT,bF,eN]
 cases h1 : decide (i < 0)
 rotate_left
 ·(repeat' first | refine gq2 h1 ?_ | with_reducible first | exact ⟨⟩ | refine zg ?_ | fail)
  (first | refine zX hl ?_ | refine zW hl ?_)
  exact fin _ (zhe (.inl (.inl (by simpa using h1))))
 cases h2 : decide (i ≥ n)
 rotate_left
 ·(repeat' first | refine gq2 (zc h1 h2) ?_ | with_reducible first | exact ⟨⟩ | refine zg ?_ | fail)
  (first | refine zX hl ?_ | refine zW hl ?_)
  exact fin _ (zhe (.inl (.inr (by simpa using h2))))
 (repeat' first | refine gq2 (zc h1 (zc h2 hpl)) ?_ | with_reducible first | exact ⟨⟩ | refine zg ?_ | fail)
 refine c_mkLength hn ?_
 simp only [decide_eq_false_iff_not] at h1 h2
 have hh : ¬ (i < 0 ∨ i ≥ n) := by omega
 cases h3 : ((p.length : Int) != zfF i n)
 rotate_left
 ·(repeat' first | refine gq2 h3 ?_ | with_reducible first | exact ⟨⟩ | refine zg ?_ | fail)
  (first | refine zX hl ?_ | refine zW hl ?_)
  exact fin _ (zhe (.inr (by simpa using h3)))
 have h3' : (p.length : Int) = zfF i n := by simpa using h3
 have h4 := zrf (L := L) (root := root) (b := b) hh h3'
 rw [zkd hh] at h3'
 have ei : (i.toNat : Int) = i := by omega
 have en : (n.toNat : Int) = n := by omega
 have hU : UpAt (σ ++ [.box [.box id 0], .box [.d (.slice (bcs b))], .box [.fn (.func zcP) [] [.box σ.length 0, .box (σ.length + 1) 0, .box (σ.length + 2) 0]]]) σ.length (σ.length + 1) (σ.length + 2) id b := ⟨by rw [zx]; rfl,by rw [zq]; rfl,by rw [zq]; rfl⟩
 have hc := fun (K : KT) => c_mkUp n.toNat (i := i.toNat) (n := n.toNat) (p := p) (Nat.le_refl _) (by omega) (by omega) (by omega) (by omega) hU (hT.app _) hL hb hx (K := K)
 rw [ei,en] at hc
 (repeat' first | refine gq2 h3 ?_ | with_reducible first | exact ⟨⟩ | refine zg ?_ | fail)
 refine hc _ ?_
 obtain ⟨C,hC⟩ : ∃ C,zdS n.toNat L b i.toNat n.toNat p = C := ⟨_,rfl⟩
 rw [hC] at h4 ⊢
 cases hb2 : C.2
 ·(repeat' first | refine gq1 ?_ | with_reducible first | exact ⟨⟩ | refine zg ?_ | fail)
  (first | refine zX hl ?_ | refine zW hl ?_)
  exact fin _ (by rw [h4,hb2]; rfl)
 ·(repeat' first | refine gq1 ?_ | with_reducible first | exact ⟨⟩ | refine zg ?_ | fail)
  (first | refine zX hl ?_ | refine zW hl ?_)
  exact fin _ (by rw [h4,hb2]; rfl)
end Go.Proofs.YtncpaekiidpchaaGreat

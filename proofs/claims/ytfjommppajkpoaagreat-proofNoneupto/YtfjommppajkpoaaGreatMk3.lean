/- Contracts: the digest to which a proof comes, on both sides. -/
import Derived.Test.YtfjommppajkpoaaGreatMk2
set_option linter.all false
set_option maxRecDepth 100000
namespace Go.Proofs.YtfjommppajkpoaaGreat
open Go.AW
theorem zmx {L : List (List UInt8)} (hL : L.length ≤ 1048576) (b : List UInt8) : 0 ≤ zji (zcN L b) ∧ zji (zcN L b) ≤ 1048577 := by
 cases h : zcN L b with
 | none => simp [zji]
 | some i =>
  have := (zuF h).1
  simp only [zji]; omega
theorem zhT : ∀ (f : Nat) {L : List (List UInt8)} (hL : L.length ≤ 1048576) (b : List UInt8) (i n : Nat) (p : List Int),(zdI f L b i n p).1 ≤ 1048577
 | 0,L,hL,b,i,n,p => by simp [zdI]
 | f + 1,L,hL,b,i,n,p => by
  simp only [zdI]
  split
  ·exact (zmx hL _).2
  ·split
   ·split
    ·exact (zmx hL _).2
    ·simp
   ·split
    ·exact (zmx hL _).2
    ·simp
theorem c_r5comesA : ∀ (f : Nat) {σ : List zg} {id : Nat} {L : List (List UInt8)} {b : List UInt8} {i n : Nat} {p : List Int},n ≤ f → 1 ≤ n → i < n → n ≤ 4611686018427387904 → p.length = zdm i n → σ[id]? = some (rtO L) → L.length ≤ 1048576 → b.length ≤ 1073740000 → (∀ x ∈ p,x ≤ 9223372036854775807) →
  ∀ {K : KT},K (.tup [.d (.int .i64 (zdI f L b i n p).1), .d (.bool (zdI f L b i n p).2)]) σ →
  zq Tryz.prog zhm [.box id 0, .d (.slice (bcs b)), .d (.int .i64 i), .d (.int .i64 n), .d (.slice (zbd p))] σ K := by
 intro f
 induction f with
 | zero => intros; omega
 | succ f ih =>
  intro σ id L b i n p hf hn hin hn2 hp hT hL hb hx K hK
  refine acE5 e_r05_comes fun hl => ?_
  simp only [zso,iN,bT,bF,eN]
  by_cases h1 : n = 1
  ·subst h1
   simp only [zdI,if_pos] at hK
   refine gq1 ?_
   refine c_r5leaf (by omega) ?_
   refine gq1 ?_
   refine zjD hT hL ?_
   refine gq1 ?_
   refine zK hl ?_
   exact hK
  ·have e1 : ((n : Int) == 1) = false := by rw [beq_eq_false_iff_ne]; omega
   have hs := zbZ (n := n) (by omega)
   rw [zkN (by omega)] at hp
   have hpl : (zbd p).length = p.length := List.length_map ..
   obtain ⟨q,last,hq⟩ : ∃ q last,p = q ++ [last] := by
    have hne : p ≠ [] := by intro e; rw [e] at hp; simp at hp
    exact ⟨p.dropLast,p.getLast hne,(List.dropLast_concat_getLast hne).symm⟩
   have hql : p.length = q.length + 1 := by rw [hq]; simp
   have hw1 : IntKind.i64.wrap ((p.length : Int) - 1) = (q.length : Int) := by rw [zJ (by omega) (by have := zlB i (zk n); have := zlB (i - zk n) (n - zk n); split at hp <;> omega)]; omega
   have hgl : (zbd p)[q.length]? = some [D.int .i64 last] := by rw [hq]; simp
   have htk : List.take q.length (zbd p) = zbd q := by rw [hq]; simp
   have hone : ∀ e ∈ zbd p,e.length = 1 := zhf (f := fun t : Int => [D.int .i64 t]) (fun _ => rfl) p
   have hll : last ≤ 9223372036854775807 := hx last (by rw [hq]; simp)
   have hxq : ∀ x ∈ q,x ≤ 9223372036854775807 := fun x hm => hx x (by rw [hq]; simp [hm])
   have hgd : p.getD (p.length - 1) 0 = last := by rw [hql,hq]; simp
   have htq : p.take (p.length - 1) = q := by rw [hql,hq]; simp
   simp only [zdI,if_neg h1,hgd,htq] at hK
   refine gq2 e1 ?_
   refine zrN (by omega) ?_
   refine gq2 (zc hpl (zc hw1 (zc hgl htk))) ?_
   by_cases hc : i < zk n
   ·have hd : decide ((i : Int) < ((zk n : Nat) : Int)) = true := by simp; omega
    rw [if_pos hc] at hp hK
    have hr := zhT f hL b i (zk n) q
    refine gq2 (zc hd htk) ?_
    refine ih (i := i) (n := zk n) (by omega) (by omega) hc (by omega) (by omega) hT hL hb hxq ?_
    obtain ⟨C,hC⟩ : ∃ C,zdI f L b i (zk n) q = C := ⟨_,rfl⟩
    rw [hC] at hK hr ⊢
    cases hb2 : C.2
    ·rw [hb2] at hK
     refine gq1 ?_
     refine zK hl ?_
     exact hK
    ·rw [if_pos hb2] at hK
     refine gq1 ?_
     refine zvo (by omega) hll ?_
     refine gq1 ?_
     refine zjD hT hL ?_
     refine gq1 ?_
     refine zK hl ?_
     exact hK
   ·have hd : decide ((i : Int) < ((zk n : Nat) : Int)) = false := by simp; omega
    have hw2 : IntKind.i64.wrap ((i : Int) - ((zk n : Nat) : Int)) = ((i - zk n : Nat) : Int) := by rw [zJ (by omega) (by omega)]; omega
    have hw3 : IntKind.i64.wrap ((n : Int) - ((zk n : Nat) : Int)) = ((n - zk n : Nat) : Int) := by rw [zJ (by omega) (by omega)]; omega
    rw [if_neg hc] at hp hK
    have hr := zhT f hL b (i - zk n) (n - zk n) q
    refine gq2 (zc hd (zc hw2 (zc hw3 htk))) ?_
    refine ih (i := i - zk n) (n := n - zk n) (by omega) (by omega) (by omega) (by omega) (by omega) hT hL hb hxq ?_
    obtain ⟨C,hC⟩ : ∃ C,zdI f L b (i - zk n) (n - zk n) q = C := ⟨_,rfl⟩
    rw [hC] at hK hr ⊢
    cases hb2 : C.2
    ·rw [hb2] at hK
     refine gq1 ?_
     refine zK hl ?_
     exact hK
    ·rw [if_pos hb2] at hK
     refine gq1 ?_
     refine zvo hll (by omega) ?_
     refine gq1 ?_
     refine zjD hT hL ?_
     refine gq1 ?_
     refine zK hl ?_
     exact hK
theorem zjw {i n : Int} (h : ¬ (i < 0 ∨ i ≥ n)) : zfx i n = zdm i.toNat n.toNat := if_neg h
theorem zqE {L : List (List UInt8)} {root : Int} {b : List UInt8} {i n : Int} {p : List Int} (h : ¬ (i < 0 ∨ i ≥ n)) (hp : (p.length : Int) = zfx i n) : zfk L root b i n p = ((zdI n.toNat L b i.toNat n.toNat p).2 && ((zdI n.toNat L b i.toNat n.toNat p).1 == root)) := by
 rw [zjw h] at hp
 unfold zfk
 rw [if_neg (by omega)]
theorem zgX {L : List (List UInt8)} {root : Int} {b : List UInt8} {i n : Int} {p : List Int} (h : (i < 0 ∨ i ≥ n) ∨ (p.length : Int) ≠ zfx i n) : zfk L root b i n p = false := by
 unfold zfk
 rw [if_pos]
 by_cases hh : i < 0 ∨ i ≥ n
 ·rcases hh with h | h
  ·exact .inl h
  ·exact .inr (.inl h)
 ·rcases h with h | h
  ·exact absurd h hh
  ·rw [zjw hh] at h
   exact .inr (.inr h)
theorem c_r5Verify {σ : List zg} {id : Nat} {L : List (List UInt8)} {root : Int} {b : List UInt8} {i n : Int} {p : List Int} (hn : n ≤ 4611686018427387904) (hT : σ[id]? = some (rtO L)) (hL : L.length ≤ 1048576) (hb : b.length ≤ 1073740000) (hx : ∀ x ∈ p,x ≤ 9223372036854775807)
  {K : KT} (hK : K (.d (.bool (zfk L root b i n p))) σ) :
  zq Tryz.prog zkG [.box id 0, .d (.int .i64 root), .d (.slice (bcs b)), .d (.int .i64 i), .d (.int .i64 n), .d (.slice (zbd p))] σ K := by
 refine acE6 e_r05_Verify fun hl => ?_
 have fin : ∀ z,zfk L root b i n p = z → K (.d (.bool z)) σ := fun z h => h ▸ hK
 clear hK
 have hpl : (zbd p).length = p.length := List.length_map ..
 simp only [zpO,iN,bT,bF,eN]
 cases h1 : decide (i < 0)
 rotate_left
 ·refine gq2 h1 ?_
  refine zK hl ?_
  exact fin _ (zgX (.inl (.inl (by simpa using h1))))
 cases h2 : decide (i ≥ n)
 rotate_left
 ·refine gq2 (zc h1 h2) ?_
  refine zK hl ?_
  exact fin _ (zgX (.inl (.inr (by simpa using h2))))
 refine gq2 (zc h1 (zc h2 hpl)) ?_
 refine c_r5Length hn ?_
 simp only [decide_eq_false_iff_not] at h1 h2
 have hh : ¬ (i < 0 ∨ i ≥ n) := by omega
 cases h3 : ((p.length : Int) != zfx i n)
 rotate_left
 ·refine gq2 h3 ?_
  refine zK hl ?_
  exact fin _ (zgX (.inr (by simpa using h3)))
 have h3' : (p.length : Int) = zfx i n := by simpa using h3
 have h4 := zqE (L := L) (root := root) (b := b) hh h3'
 rw [zjw hh] at h3'
 have ei : (i.toNat : Int) = i := by omega
 have en : (n.toNat : Int) = n := by omega
 have hc := fun (K : KT) => c_r5comesA n.toNat (σ := σ) (id := id) (L := L) (b := b) (i := i.toNat) (n := n.toNat) (p := p) (Nat.le_refl _) (by omega) (by omega) (by omega) (by omega) hT hL hb hx (K := K)
 rw [ei,en] at hc
 refine gq2 h3 ?_
 refine hc _ ?_
 obtain ⟨C,hC⟩ : ∃ C,zdI n.toNat L b i.toNat n.toNat p = C := ⟨_,rfl⟩
 rw [hC] at h4 ⊢
 cases hb2 : C.2
 ·refine gq1 ?_
  refine zK hl ?_
  exact fin _ (by rw [h4,hb2]; rfl)
 ·refine gq1 ?_
  refine zK hl ?_
  exact fin _ (by rw [h4,hb2]; rfl)
structure UpAt (σ : List zg) (a b u id : Nat) (x : List UInt8) : Prop where
 ta : σ[a]? = some (.box [.box id 0])
 tb : σ[b]? = some (.box [.d (.slice (bcs x))])
 tu : σ[u]? = some (.box [.fn (.func zcI) [] [.box a 0, .box b 0, .box u 0]])
theorem UpAt.app {σ : List zg} {a b u id : Nat} {x : List UInt8} (h : UpAt σ a b u id x) (τ : List zg) : UpAt (σ ++ τ) a b u id x := ⟨zf h.ta,zf h.tb,zf h.tu⟩
theorem c_mkUp : ∀ (f : Nat) {σ : List zg} {a1 b1 u1 id m t : Nat} {L : List (List UInt8)} {b : List UInt8} {i n : Nat} {p : List Int},n ≤ f → 1 ≤ n → i < n → n ≤ 4611686018427387904 → p.length = zdm i n → UpAt σ a1 b1 u1 id b → zcd σ id m t L → L.length ≤ 1048576 → b.length ≤ 1073740000 → (∀ x ∈ p,x ≤ 9223372036854775807) →
  ∀ {K : KT},K (.tup [.d (.int .i64 (zdI f L b i n p).1), .d (.bool (zdI f L b i n p).2)]) σ →
  zq Tryz.prog zcI [.d (.int .i64 i), .d (.int .i64 n), .d (.slice (zbd p)), .box a1 0, .box b1 0, .box u1 0] σ K := by
 intro f
 induction f with
 | zero => intros; omega
 | succ f ih =>
  intro σ a1 b1 u1 id m t L b i n p hf hn hin hn2 hp hU hT hL hb hx K hK
  refine acE6 zpc fun hl => ?_
  have ua := hU.ta; have ub := hU.tb; have uu := hU.tu
  simp only [ziW,iN,bT,bF,eN]
  by_cases h1 : n = 1
  ·subst h1
   simp only [zdI,if_pos] at hK
   refine gq2 (zc ua ub) ?_
   refine c_mkleaf (by omega) ?_
   refine gq2 ua ?_
   refine zmW hT ?_
   refine gq1 ?_
   refine zK hl ?_
   exact hK
  ·have e1 : ((n : Int) == 1) = false := by rw [beq_eq_false_iff_ne]; omega
   have hs := zbZ (n := n) (by omega)
   rw [zkN (by omega)] at hp
   have hpl : (zbd p).length = p.length := List.length_map ..
   obtain ⟨q,last,hq⟩ : ∃ q last,p = q ++ [last] := by
    have hne : p ≠ [] := by intro e; rw [e] at hp; simp at hp
    exact ⟨p.dropLast,p.getLast hne,(List.dropLast_concat_getLast hne).symm⟩
   have hql : p.length = q.length + 1 := by rw [hq]; simp
   have hw1 : IntKind.i64.wrap ((p.length : Int) - 1) = (q.length : Int) := by rw [zJ (by omega) (by have := zlB i (zk n); have := zlB (i - zk n) (n - zk n); split at hp <;> omega)]; omega
   have hgl : (zbd p)[q.length]? = some [D.int .i64 last] := by rw [hq]; simp
   have htk : List.take q.length (zbd p) = zbd q := by rw [hq]; simp
   have hone : ∀ e ∈ zbd p,e.length = 1 := zhf (f := fun t : Int => [D.int .i64 t]) (fun _ => rfl) p
   have hll : last ≤ 9223372036854775807 := hx last (by rw [hq]; simp)
   have hxq : ∀ x ∈ q,x ≤ 9223372036854775807 := fun x hm => hx x (by rw [hq]; simp [hm])
   have hgd : p.getD (p.length - 1) 0 = last := by rw [hql,hq]; simp
   have htq : p.take (p.length - 1) = q := by rw [hql,hq]; simp
   simp only [zdI,if_neg h1,hgd,htq] at hK
   refine gq2 (zc e1 (zc hpl hw1)) ?_
   refine znS (by omega) ?_
   by_cases hc : i < zk n
   ·have hd : decide ((i : Int) < ((zk n : Nat) : Int)) = true := by simp; omega
    rw [if_pos hc] at hp hK
    have hr := zhT f hL b i (zk n) q
    refine gq2 (zc hd (zc hpl (zc hw1 (zc htk uu)))) ?_
    refine ih (i := i) (n := zk n) (by omega) (by omega) hc (by omega) (by omega) hU hT hL hb hxq ?_
    obtain ⟨C,hC⟩ : ∃ C,zdI f L b i (zk n) q = C := ⟨_,rfl⟩
    rw [hC] at hK hr ⊢
    cases hb2 : C.2
    ·rw [hb2] at hK
     refine gq1 ?_
     refine zK hl ?_
     exact hK
    ·rw [if_pos hb2] at hK
     refine gq2 (zc ua (zc hgl hw1)) ?_
     refine zvp (by omega) hll ?_
     refine gq2 ua ?_
     refine zmW hT ?_
     refine gq1 ?_
     refine zK hl ?_
     exact hK
   ·have hd : decide ((i : Int) < ((zk n : Nat) : Int)) = false := by simp; omega
    have hw2 : IntKind.i64.wrap ((i : Int) - ((zk n : Nat) : Int)) = ((i - zk n : Nat) : Int) := by rw [zJ (by omega) (by omega)]; omega
    have hw3 : IntKind.i64.wrap ((n : Int) - ((zk n : Nat) : Int)) = ((n - zk n : Nat) : Int) := by rw [zJ (by omega) (by omega)]; omega
    rw [if_neg hc] at hp hK
    have hr := zhT f hL b (i - zk n) (n - zk n) q
    refine gq2 (zc hd (zc hw2 (zc hw3 (zc hpl (zc hw1 (zc htk uu)))))) ?_
    refine ih (i := i - zk n) (n := n - zk n) (by omega) (by omega) (by omega) (by omega) (by omega) hU hT hL hb hxq ?_
    obtain ⟨C,hC⟩ : ∃ C,zdI f L b (i - zk n) (n - zk n) q = C := ⟨_,rfl⟩
    rw [hC] at hK hr ⊢
    cases hb2 : C.2
    ·rw [hb2] at hK
     refine gq1 ?_
     refine zK hl ?_
     exact hK
    ·rw [if_pos hb2] at hK
     refine gq2 (zc ua (zc hgl hw1)) ?_
     refine zvp hll (by omega) ?_
     refine gq2 ua ?_
     refine zmW hT ?_
     refine gq1 ?_
     refine zK hl ?_
     exact hK
theorem c_mkVerify {σ : List zg} {id m t : Nat} {L : List (List UInt8)} {root : Int} {b : List UInt8} {i n : Int} {p : List Int} (hn : n ≤ 4611686018427387904) (hT : zcd σ id m t L) (hL : L.length ≤ 1048576) (hb : b.length ≤ 1073740000) (hx : ∀ x ∈ p,x ≤ 9223372036854775807)
  {K : KT} (hK : K (.d (.bool (zfk L root b i n p))) σ) :
  zq Tryz.prog zhp [.box id 0, .d (.int .i64 root), .d (.slice (bcs b)), .d (.int .i64 i), .d (.int .i64 n), .d (.slice (zbd p))] σ K := by
 refine acE6 zrA fun hl => ?_
 have fin : ∀ z,zfk L root b i n p = z → K (.d (.bool z)) σ := fun z h => h ▸ hK
 clear hK
 have hpl : (zbd p).length = p.length := List.length_map ..
 simp only [zlm,iN,bT,bF,eN]
 cases h1 : decide (i < 0)
 rotate_left
 ·refine gq2 h1 ?_
  refine zK hl ?_
  exact fin _ (zgX (.inl (.inl (by simpa using h1))))
 cases h2 : decide (i ≥ n)
 rotate_left
 ·refine gq2 (zc h1 h2) ?_
  refine zK hl ?_
  exact fin _ (zgX (.inl (.inr (by simpa using h2))))
 refine gq2 (zc h1 (zc h2 hpl)) ?_
 refine c_mkLength hn ?_
 simp only [decide_eq_false_iff_not] at h1 h2
 have hh : ¬ (i < 0 ∨ i ≥ n) := by omega
 cases h3 : ((p.length : Int) != zfx i n)
 rotate_left
 ·refine gq2 h3 ?_
  refine zK hl ?_
  exact fin _ (zgX (.inr (by simpa using h3)))
 have h3' : (p.length : Int) = zfx i n := by simpa using h3
 have h4 := zqE (L := L) (root := root) (b := b) hh h3'
 rw [zjw hh] at h3'
 have ei : (i.toNat : Int) = i := by omega
 have en : (n.toNat : Int) = n := by omega
 have hU : UpAt (σ ++ [.box [.box id 0], .box [.d (.slice (bcs b))], .box [.fn (.func zcI) [] [.box σ.length 0, .box (σ.length + 1) 0, .box (σ.length + 2) 0]]]) σ.length (σ.length + 1) (σ.length + 2) id b := ⟨by rw [zm]; rfl,by rw [zh]; rfl,by rw [zh]; rfl⟩
 have hc := fun (K : KT) => c_mkUp n.toNat (i := i.toNat) (n := n.toNat) (p := p) (Nat.le_refl _) (by omega) (by omega) (by omega) (by omega) hU (hT.app _) hL hb hx (K := K)
 rw [ei,en] at hc
 refine gq2 h3 ?_
 refine hc _ ?_
 obtain ⟨C,hC⟩ : ∃ C,zdI n.toNat L b i.toNat n.toNat p = C := ⟨_,rfl⟩
 rw [hC] at h4 ⊢
 cases hb2 : C.2
 ·refine gq1 ?_
  refine zK hl ?_
  exact fin _ (by rw [h4,hb2]; rfl)
 ·refine gq1 ?_
  refine zK hl ?_
  exact fin _ (by rw [h4,hb2]; rfl)
end Go.Proofs.YtfjommppajkpoaaGreat

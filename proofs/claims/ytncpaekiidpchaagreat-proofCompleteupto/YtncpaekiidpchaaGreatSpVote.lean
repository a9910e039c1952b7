/- Votes: their bytes, and whether they are signed. No program in sight. -/
import Derived.Test.YtncpaekiidpchaaGreatSpTab
import Derived.Test.YtncpaekiidpchaaGreatSpUtf
import Derived.Test.YtncpaekiidpchaaGreatRq2
set_option linter.all false
namespace Go.AW
abbrev zbO (l : List Int) : List (List D) := l.map fun t => [D.int .i64 t]
def zcA (x : Int) : Bool := decide (0 ≤ x ∧ x ≤ 9007199254740992)
def zog (a b c d : Int) : Bool := zcA a && (zcA b && (zcA c && zcA d))
def zgn (l : List Int) : List UInt8 := (l.map fun x => zcm x.toNat).flatten
def zeK (a b c d : Int) : List UInt8 := 4 :: zgn [a,b,c,d]
theorem zdz {x : Int} : zcA x = true ↔ 0 ≤ x ∧ x ≤ 9007199254740992 := by simp [zcA]
theorem zlr {l : List Int} {k : Nat} {x : Int} (h : l[k]? = some x) : zgn (l.take (k + 1)) = zgn (l.take k) ++ zcm x.toNat := by
 rw [List.take_add_one,h]; simp [zgn]
theorem zkr {l : List Int} (h : ∀ x ∈ l,x < 9223372036854775808) : (zgn l).length ≤ l.length * 10 := by
 induction l with
 | nil => simp [zgn]
 | cons x l ih =>
  have h1 := h x (by simp)
  have h2 := zx (n := x.toNat) (by omega)
  have h3 := ih fun y hy => h y (by simp [hy])
  simp only [zgn,List.map_cons,List.flatten_cons,List.length_append,List.length_cons] at h3 ⊢
  omega
theorem voteB_len {a b c d : Int} (h : zog a b c d = true) : (zeK a b c d).length ≤ 50 := by
 simp only [zog,Bool.and_eq_true,zdz] at h
 have := zkr (l := [a,b,c,d]) (by intro x hx; simp at hx; omega)
 simp only [zeK,List.length_cons,List.length_nil] at this ⊢
 omega
theorem mayV_all (a b c d : Int) : zog a b c d = [a,b,c,d].all zcA := by simp [zog]
def zkn (L : List (List UInt8)) (G : List zJ) (s : zJ) (key : Int) (b : List UInt8) : Bool := match zcu L b with
 | some i => decide (s.key = key ∧ s.dig = ((i + 1 : Nat) : Int)) && decide (s ∈ G)
 | none => false
def zpe (L : List (List UInt8)) (G : List zJ) (s : zJ) (key a b c d : Int) : Bool := zog a b c d && zkn L G s key (zeK a b c d)
end Go.AW

/- Contracts: the digest to which a proof comes, on both sides. -/
set_option maxRecDepth 100000
namespace Go.Proofs.YtncpaekiidpchaaGreat
open Go.AW
theorem zmt {L : List (List UInt8)} (hL : L.length ≤ 1048576) (b : List UInt8) : 0 ≤ zks (zcu L b) ∧ zks (zcu L b) ≤ 1048577 := by
 cases h : zcu L b with
 | none => simp [zks]
 | some i =>
  have := (zjy h).1
  simp only [zks]; omega
theorem zpD : ∀ (f : Nat) {L : List (List UInt8)} (hL : L.length ≤ 1048576) (b : List UInt8) (i n : Nat) (p : List Int),(zeI f L b i n p).1 ≤ 1048577
 | 0,L,hL,b,i,n,p => by simp [zeI]
 | f + 1,L,hL,b,i,n,p => by
  simp only [zeI]
  split
  ·exact (zmt hL _).2
  ·split
   ·split
    ·exact (zmt hL _).2
    ·simp
   ·split
    ·exact (zmt hL _).2
    ·simp
theorem zmC {i n : Int} (h : ¬ (i < 0 ∨ i ≥ n)) : zkC i n = zdU i.toNat n.toNat := if_neg h
theorem verifyF_len {L : List (List UInt8)} {root : Int} {b : List UInt8} {i n : Int} {p : List Int} (h : ¬ (i < 0 ∨ i ≥ n)) (hp : (p.length : Int) = zkC i n) : zgN L root b i n p = ((zeI n.toNat L b i.toNat n.toNat p).2 && ((zeI n.toNat L b i.toNat n.toNat p).1 == root)) := by
 rw [zmC h] at hp
 unfold zgN
 rw [if_neg (by omega)]
theorem zoj {L : List (List UInt8)} {root : Int} {b : List UInt8} {i n : Int} {p : List Int} (h : (i < 0 ∨ i ≥ n) ∨ (p.length : Int) ≠ zkC i n) : zgN L root b i n p = false := by
 unfold zgN
 rw [if_pos]
 by_cases hh : i < 0 ∨ i ≥ n
 ·rcases hh with h | h
  ·exact .inl h
  ·exact .inr (.inl h)
 ·rcases h with h | h
  ·exact absurd h hh
  ·rw [zmC hh] at h
   exact .inr (.inr h)
structure UpAt (σ : List zg) (a b u id : Nat) (x : List UInt8) : Prop where
 ta : σ[a]? = some (.box [.box id 0])
 tb : σ[b]? = some (.box [.d (.slice (bcs x))])
 tu : σ[u]? = some (.box [.fn (.func zcM) [] [.box a 0, .box b 0, .box u 0]])
theorem UpAt.app {σ : List zg} {a b u id : Nat} {x : List UInt8} (h : UpAt σ a b u id x) (τ : List zg) : UpAt (σ ++ τ) a b u id x := ⟨zf h.ta,zf h.tb,zf h.tu⟩
theorem c_mkUp : ∀ (f : Nat) {σ : List zg} {a1 b1 u1 id m t : Nat} {L : List (List UInt8)} {b : List UInt8} {i n : Nat} {p : List Int},n ≤ f → 1 ≤ n → i < n → n ≤ 4611686018427387904 → p.length = zdU i n → UpAt σ a1 b1 u1 id b → zcl σ id m t L → L.length ≤ 1048576 → b.length ≤ 1073740000 → (∀ x ∈ p,x ≤ 9223372036854775807) →
  ∀ {K : KT},K (.tup [.d (.int .i64 (zeI f L b i n p).1), .d (.bool (zeI f L b i n p).2)]) σ →
  zD Tryz.prog zcM [.d (.int .i64 i), .d (.int .i64 n), .d (.slice (zbO p)), .box a1 0, .box b1 0, .box u1 0] σ K := by
 intro f
 induction f with
 | zero => intros; omega
 | succ f ih =>
  intro σ a1 b1 u1 id m t L b i n p hf hn hin hn2 hp hU hT hL hb hx K hK
  refine zj ziM.is rfl fun hl _ => ziM.goes ?_
  have ua := hU.ta; have ub := hU.tb; have uu := hU.tu
  simp only [zjb,iN,bT,bF,eN]
  by_cases h1 : n = 1
  ·subst h1
   simp only [zeI,if_pos] at hK
   (repeat' first | refine gq2 (zd ua ub) ?_ | with_reducible first | exact ⟨⟩ | refine zh ?_ | fail)
   refine c_mkleaf (by omega) ?_
   (repeat' first | refine gq2 ua ?_ | with_reducible first | exact ⟨⟩ | refine zh ?_ | fail)
   refine zmI hT ?_
   (repeat' first | refine gq1 ?_ | with_reducible first | exact ⟨⟩ | refine zh ?_ | fail)
   (first | refine zaq hl ?_ | refine zap hl ?_)
   exact hK
  ·have e1 : ((n : Int) == 1) = false := by rw [beq_eq_false_iff_ne]; omega
   have hs := zbX (n := n) (by omega)
   rw [zni (by omega)] at hp
   have hpl : (zbO p).length = p.length := List.length_map ..
   obtain ⟨q,last,hq⟩ : ∃ q last,p = q ++ [last] := by
    have hne : p ≠ [] := by intro e; rw [e] at hp; simp at hp
    exact ⟨p.dropLast,p.getLast hne,(List.dropLast_concat_getLast hne).symm⟩
   have hql : p.length = q.length + 1 := by rw [hq]; simp
   have hw1 : IntKind.i64.wrap ((p.length : Int) - 1) = (q.length : Int) := by rw [zX (by omega) (by have := zsB i (zi n); have := zsB (i - zi n) (n - zi n); split at hp <;> omega)]; omega
   have hgl : (zbO p)[q.length]? = some [D.int .i64 last] := by rw [hq]; simp
   have htk : List.take q.length (zbO p) = zbO q := by rw [hq]; simp
   have hone : ∀ e ∈ zbO p,e.length = 1 := zif (f := fun t : Int => [D.int .i64 t]) (fun _ => rfl) p
   have hll : last ≤ 9223372036854775807 := hx last (by rw [hq]; simp)
   have hxq : ∀ x ∈ q,x ≤ 9223372036854775807 := fun x hm => hx x (by rw [hq]; simp [hm])
   have hgd : p.getD (p.length - 1) 0 = last := by rw [hql,hq]; simp
   have htq : p.take (p.length - 1) = q := by rw [hql,hq]; simp
   simp only [zeI,if_neg h1,hgd,htq] at hK
   (repeat' first | refine gq2 (zd e1 (zd hpl hw1)) ?_ | with_reducible first | exact ⟨⟩ | refine zh ?_ | fail)
   refine znJ (by omega) ?_
   by_cases hc : i < zi n
   ·have hd : decide ((i : Int) < ((zi n : Nat) : Int)) = true := by simp; omega
    rw [if_pos hc] at hp hK
    have hr := zpD f hL b i (zi n) q
    (repeat' first | refine gq2 (zd hd (zd hpl (zd hw1 (zd htk uu)))) ?_ | with_reducible first | exact ⟨⟩ | refine zh ?_ | fail)
    refine ih (i := i) (n := zi n) (by omega) (by omega) hc (by omega) (by omega) hU hT hL hb hxq ?_
    obtain ⟨C,hC⟩ : ∃ C,zeI f L b i (zi n) q = C := ⟨_,rfl⟩
    rw [hC] at hK hr ⊢
    cases hb2 : C.2
    ·rw [hb2] at hK
     (repeat' first | refine gq1 ?_ | with_reducible first | exact ⟨⟩ | refine zh ?_ | fail)
     (first | refine zaq hl ?_ | refine zap hl ?_)
     exact hK
    ·rw [if_pos hb2] at hK
     (repeat' first | refine gq2 (zd ua (zd hgl hw1)) ?_ | with_reducible first | exact ⟨⟩ | refine zh ?_ | fail)
     refine zuq (by omega) hll ?_
     (repeat' first | refine gq2 ua ?_ | with_reducible first | exact ⟨⟩ | refine zh ?_ | fail)
     refine zmI hT ?_
     (repeat' first | refine gq1 ?_ | with_reducible first | exact ⟨⟩ | refine zh ?_ | fail)
     (first | refine zaq hl ?_ | refine zap hl ?_)
     exact hK
   ·have hd : decide ((i : Int) < ((zi n : Nat) : Int)) = false := by simp; omega
    have hw2 : IntKind.i64.wrap ((i : Int) - ((zi n : Nat) : Int)) = ((i - zi n : Nat) : Int) := by rw [zX (by omega) (by omega)]; omega
    have hw3 : IntKind.i64.wrap ((n : Int) - ((zi n : Nat) : Int)) = ((n - zi n : Nat) : Int) := by rw [zX (by omega) (by omega)]; omega
    rw [if_neg hc] at hp hK
    have hr := zpD f hL b (i - zi n) (n - zi n) q
    (repeat' first | refine gq2 (zd hd (zd hw2 (zd hw3 (zd hpl (zd hw1 (zd htk uu)))))) ?_ | with_reducible first | exact ⟨⟩ | refine zh ?_ | fail)
    refine ih (i := i - zi n) (n := n - zi n) (by omega) (by omega) (by omega) (by omega) (by omega) hU hT hL hb hxq ?_
    obtain ⟨C,hC⟩ : ∃ C,zeI f L b (i - zi n) (n - zi n) q = C := ⟨_,rfl⟩
    rw [hC] at hK hr ⊢
    cases hb2 : C.2
    ·rw [hb2] at hK
     (repeat' first | refine gq1 ?_ | with_reducible first | exact ⟨⟩ | refine zh ?_ | fail)
     (first | refine zaq hl ?_ | refine zap hl ?_)
     exact hK
    ·rw [if_pos hb2] at hK
     (repeat' first | refine gq2 (zd ua (zd hgl hw1)) ?_ | with_reducible first | exact ⟨⟩ | refine zh ?_ | fail)
     refine zuq hll (by omega) ?_
     (repeat' first | refine gq2 ua ?_ | with_reducible first | exact ⟨⟩ | refine zh ?_ | fail)
     refine zmI hT ?_
     (repeat' first | refine gq1 ?_ | with_reducible first | exact ⟨⟩ | refine zh ?_ | fail)
     (first | refine zaq hl ?_ | refine zap hl ?_)
     exact hK
theorem c_mkVerify {σ : List zg} {id m t : Nat} {L : List (List UInt8)} {root : Int} {b : List UInt8} {i n : Int} {p : List Int} (hn : n ≤ 4611686018427387904) (hT : zcl σ id m t L) (hL : L.length ≤ 1048576) (hb : b.length ≤ 1073740000) (hx : ∀ x ∈ p,x ≤ 9223372036854775807)
  {K : KT} (hK : K (.d (.bool (zgN L root b i n p))) σ) :
  zD Tryz.prog zgX [.box id 0, .d (.int .i64 root), .d (.slice (bcs b)), .d (.int .i64 i), .d (.int .i64 n), .d (.slice (zbO p))] σ K := by
 refine zj zkO.is rfl fun hl _ => zkO.goes ?_
 have fin : ∀ z,zgN L root b i n p = z → K (.d (.bool z)) σ := fun z h => h ▸ hK
 clear hK
 have hpl : (zbO p).length = p.length := List.length_map ..
 simp only [zlf,iN,bT,bF,eN]
 cases h1 : decide (i < 0)
 rotate_left
 ·(repeat' first | refine gq2 h1 ?_ | with_reducible first | exact ⟨⟩ | refine zh ?_ | fail)
  (first | refine zaq hl ?_ | refine zap hl ?_)
  exact fin _ (zoj (.inl (.inl (by simpa using h1))))
 cases h2 : decide (i ≥ n)
 rotate_left
 ·(repeat' first | refine gq2 (zd h1 h2) ?_ | with_reducible first | exact ⟨⟩ | refine zh ?_ | fail)
  (first | refine zaq hl ?_ | refine zap hl ?_)
  exact fin _ (zoj (.inl (.inr (by simpa using h2))))
 (repeat' first | refine gq2 (zd h1 (zd h2 hpl)) ?_ | with_reducible first | exact ⟨⟩ | refine zh ?_ | fail)
 refine c_mkLength hn ?_
 simp only [decide_eq_false_iff_not] at h1 h2
 have hh : ¬ (i < 0 ∨ i ≥ n) := by omega
 cases h3 : ((p.length : Int) != zkC i n)
 rotate_left
 ·(repeat' first | refine gq2 h3 ?_ | with_reducible first | exact ⟨⟩ | refine zh ?_ | fail)
  (first | refine zaq hl ?_ | refine zap hl ?_)
  exact fin _ (zoj (.inr (by simpa using h3)))
 have h3' : (p.length : Int) = zkC i n := by simpa using h3
 have h4 := verifyF_len (L := L) (root := root) (b := b) hh h3'
 rw [zmC hh] at h3'
 have ei : (i.toNat : Int) = i := by omega
 have en : (n.toNat : Int) = n := by omega
 have hU : UpAt (σ ++ [.box [.box id 0], .box [.d (.slice (bcs b))], .box [.fn (.func zcM) [] [.box σ.length 0, .box (σ.length + 1) 0, .box (σ.length + 2) 0]]]) σ.length (σ.length + 1) (σ.length + 2) id b := ⟨by rw [zy]; rfl,by rw [zr]; rfl,by rw [zr]; rfl⟩
 have hc := fun (K : KT) => c_mkUp n.toNat (i := i.toNat) (n := n.toNat) (p := p) (Nat.le_refl _) (by omega) (by omega) (by omega) (by omega) hU (hT.app _) hL hb hx (K := K)
 rw [ei,en] at hc
 (repeat' first | refine gq2 h3 ?_ | with_reducible first | exact ⟨⟩ | refine zh ?_ | fail)
 refine hc _ ?_
 obtain ⟨C,hC⟩ : ∃ C,zeI n.toNat L b i.toNat n.toNat p = C := ⟨_,rfl⟩
 rw [hC] at h4 ⊢
 cases hb2 : C.2
 ·(repeat' first | refine gq1 ?_ | with_reducible first | exact ⟨⟩ | refine zh ?_ | fail)
  (first | refine zaq hl ?_ | refine zap hl ?_)
  exact fin _ (by rw [h4,hb2]; rfl)
 ·(repeat' first | refine gq1 ?_ | with_reducible first | exact ⟨⟩ | refine zh ?_ | fail)
  (first | refine zaq hl ?_ | refine zap hl ?_)
  exact fin _ (by rw [h4,hb2]; rfl)
end Go.Proofs.YtncpaekiidpchaaGreat

/- Contracts: a leaf's proof, on both sides. -/
set_option maxRecDepth 100000
namespace Go.Proofs.YtncpaekiidpchaaGreat
open Go.AW
theorem znb {f : Nat} {L : List (List UInt8)} {i : Nat} {l : List (List UInt8)} (h : l.length ≤ 1) : zaD f L i l = ([],L) := by
 cases f with
 | zero => rfl
 | succ f => simp only [zaD]; rw [if_pos h]
theorem zit : ∀ (f : Nat) {L : List (List UInt8)} {i : Nat} {l : List (List UInt8)},l.length ≤ f → L.length ≤ 1048576 → (zaD f L i l).2.length ≤ 1048576 ∧ (zaD f L i l).1.length ≤ l.length
 | 0,L,i,l,_,h => ⟨h,by simp [zaD]⟩
 | f + 1,L,i,l,hf,h => by
  by_cases h1 : l.length ≤ 1
  ·rw [znb h1]; exact ⟨h,by simp⟩
  ·have hs := zbX (n := l.length) (by omega)
   simp only [zaD]
   rw [if_neg h1]
   split
   ·have h2 := zit f (L := L) (i := i) (l := l.take (zi l.length)) (by rw [List.length_take]; omega) h
    refine ⟨(zcs l.length (by rw [List.length_drop]; omega) h2.1).1, ?_⟩
    have := h2.2
    rw [List.length_take] at this
    simp only [List.length_append,List.length_cons,List.length_nil]
    omega
   ·have h2 := zit f (L := L) (i := i - zi l.length) (l := l.drop (zi l.length)) (by rw [List.length_drop]; omega) h
    refine ⟨(zcs l.length (by rw [List.length_take]; omega) h2.1).1, ?_⟩
    have := h2.2
    rw [List.length_drop] at this
    simp only [List.length_append,List.length_cons,List.length_nil]
    omega
theorem proveA_2 {f : Nat} {L : List (List UInt8)} {i : Nat} {l : List (List UInt8)} (h : 2 ≤ l.length) : zaD (f + 1) L i l =
  if i < zi l.length then ((zaD f L i (l.take (zi l.length))).1 ++ [(rootF (zaD f L i (l.take (zi l.length))).2 (l.drop (zi l.length))).1],(rootF (zaD f L i (l.take (zi l.length))).2 (l.drop (zi l.length))).2)
  else ((zaD f L (i - zi l.length) (l.drop (zi l.length))).1 ++ [(rootF (zaD f L (i - zi l.length) (l.drop (zi l.length))).2 (l.take (zi l.length))).1],(rootF (zaD f L (i - zi l.length) (l.drop (zi l.length))).2 (l.take (zi l.length))).2) := by
 simp only [zaD]
 rw [if_neg (by omega)]
end Go.Proofs.YtncpaekiidpchaaGreat

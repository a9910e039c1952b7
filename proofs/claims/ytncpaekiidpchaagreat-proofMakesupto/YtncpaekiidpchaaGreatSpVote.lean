/- Votes: their bytes, and whether they are signed. No program in sight. -/
import Derived.Test.YtncpaekiidpchaaGreatSpTab
import Derived.Test.YtncpaekiidpchaaGreatSpUtf
import Derived.Test.YtncpaekiidpchaaGreatMk2
set_option linter.all false
namespace Go.AW
abbrev zbC (l : List Int) : List (List D) := l.map fun t => [D.int .i64 t]
def zdw (x : Int) : Bool := decide (0 ≤ x ∧ x ≤ 9007199254740992)
def zrX (a b c d : Int) : Bool := zdw a && (zdw b && (zdw c && zdw d))
def zgF (l : List Int) : List UInt8 := (l.map fun x => zcw x.toNat).flatten
def zkk (a b c d : Int) : List UInt8 := 4 :: zgF [a,b,c,d]
theorem znh {x : Int} : zdw x = true ↔ 0 ≤ x ∧ x ≤ 9007199254740992 := by simp [zdw]
theorem zlx {l : List Int} {k : Nat} {x : Int} (h : l[k]? = some x) : zgF (l.take (k + 1)) = zgF (l.take k) ++ zcw x.toNat := by
 rw [List.take_add_one,h]; simp [zgF]
theorem zky {l : List Int} (h : ∀ x ∈ l,x < 9223372036854775808) : (zgF l).length ≤ l.length * 10 := by
 induction l with
 | nil => simp [zgF]
 | cons x l ih =>
  have h1 := h x (by simp)
  have h2 := zJ (n := x.toNat) (by omega)
  have h3 := ih fun y hy => h y (by simp [hy])
  simp only [zgF,List.map_cons,List.flatten_cons,List.length_append,List.length_cons] at h3 ⊢
  omega
theorem voteB_len {a b c d : Int} (h : zrX a b c d = true) : (zkk a b c d).length ≤ 50 := by
 simp only [zrX,Bool.and_eq_true,znh] at h
 have := zky (l := [a,b,c,d]) (by intro x hx; simp at hx; omega)
 simp only [zkk,List.length_cons,List.length_nil] at this ⊢
 omega
theorem mayV_all (a b c d : Int) : zrX a b c d = [a,b,c,d].all zdw := by simp [zrX]
def zmy (L : List (List UInt8)) (G : List zae) (s : zae) (key : Int) (b : List UInt8) : Bool := match zdD L b with
 | some i => decide (s.key = key ∧ s.dig = ((i + 1 : Nat) : Int)) && decide (s ∈ G)
 | none => false
def zqw (L : List (List UInt8)) (G : List zae) (s : zae) (key a b c d : Int) : Bool := zrX a b c d && zmy L G s key (zkk a b c d)
end Go.AW

/- Contracts: the digest to which a proof comes, on both sides. -/
set_option maxRecDepth 100000
namespace Go.Proofs.YtncpaekiidpchaaGreat
open Go.AW
theorem zmz {L : List (List UInt8)} (hL : L.length ≤ 1048576) (b : List UInt8) : 0 ≤ zni (zdD L b) ∧ zni (zdD L b) ≤ 1048577 := by
 cases h : zdD L b with
 | none => simp [zni]
 | some i =>
  have := (zuA h).1
  simp only [zni]; omega
theorem zpI : ∀ (f : Nat) {L : List (List UInt8)} (hL : L.length ≤ 1048576) (b : List UInt8) (i n : Nat) (p : List Int),(zgt f L b i n p).1 ≤ 1048577
 | 0,L,hL,b,i,n,p => by simp [zgt]
 | f + 1,L,hL,b,i,n,p => by
  simp only [zgt]
  split
  ·exact (zmz hL _).2
  ·split
   ·split
    ·exact (zmz hL _).2
    ·simp
   ·split
    ·exact (zmz hL _).2
    ·simp
theorem zmJ {i n : Int} (h : ¬ (i < 0 ∨ i ≥ n)) : zkH i n = zfb i.toNat n.toNat := if_neg h
theorem verifyF_len {L : List (List UInt8)} {root : Int} {b : List UInt8} {i n : Int} {p : List Int} (h : ¬ (i < 0 ∨ i ≥ n)) (hp : (p.length : Int) = zkH i n) : zjh L root b i n p = ((zgt n.toNat L b i.toNat n.toNat p).2 && ((zgt n.toNat L b i.toNat n.toNat p).1 == root)) := by
 rw [zmJ h] at hp
 unfold zjh
 rw [if_neg (by omega)]
theorem zon {L : List (List UInt8)} {root : Int} {b : List UInt8} {i n : Int} {p : List Int} (h : (i < 0 ∨ i ≥ n) ∨ (p.length : Int) ≠ zkH i n) : zjh L root b i n p = false := by
 unfold zjh
 rw [if_pos]
 by_cases hh : i < 0 ∨ i ≥ n
 ·rcases hh with h | h
  ·exact .inl h
  ·exact .inr (.inl h)
 ·rcases h with h | h
  ·exact absurd h hh
  ·rw [zmJ hh] at h
   exact .inr (.inr h)
structure UpAt (σ : List zf) (a b u id : Nat) (x : List UInt8) : Prop where
 ta : σ[a]? = some (.box [.box id 0])
 tb : σ[b]? = some (.box [.d (.slice (bcs x))])
 tu : σ[u]? = some (.box [.fn (.func zdc) [] [.box a 0, .box b 0, .box u 0]])
theorem UpAt.app {σ : List zf} {a b u id : Nat} {x : List UInt8} (h : UpAt σ a b u id x) (τ : List zf) : UpAt (σ ++ τ) a b u id x := ⟨zg h.ta,zg h.tb,zg h.tu⟩
theorem c_mkUp : ∀ (f : Nat) {σ : List zf} {a1 b1 u1 id m t : Nat} {L : List (List UInt8)} {b : List UInt8} {i n : Nat} {p : List Int},n ≤ f → 1 ≤ n → i < n → n ≤ 4611686018427387904 → p.length = zfb i n → UpAt σ a1 b1 u1 id b → zcu σ id m t L → L.length ≤ 1048576 → b.length ≤ 1073740000 → (∀ x ∈ p,x ≤ 9223372036854775807) →
  ∀ {K : AV → List zf → Prop},K (.tup [.d (.int .i64 (zgt f L b i n p).1), .d (.bool (zgt f L b i n p).2)]) σ →
  zL Tryz.prog zdc [.d (.int .i64 i), .d (.int .i64 n), .d (.slice (zbC p)), .box a1 0, .box b1 0, .box u1 0] σ K := by
 intro f
 induction f with
 | zero => intros; omega
 | succ f ih =>
  intro σ a1 b1 u1 id m t L b i n p hf hn hin hn2 hp hU hT hL hb hx K hK
  refine zj ziM.is rfl fun hl _ => ziM.goes ?_
  have ua := hU.ta; have ub := hU.tb; have uu := hU.tu
  simp only [zjc,iN,bT,bF,eN]
  by_cases h1 : n = 1
  ·subst h1
   simp only [zgt,if_pos] at hK
   (repeat' first | refine gq2 (zd ua ub) ?_ | with_reducible first | exact ⟨⟩ | refine zh ?_ | fail)
   refine c_mkleaf (by omega) ?_
   (repeat' first | refine gq2 ua ?_ | with_reducible first | exact ⟨⟩ | refine zh ?_ | fail)
   refine zmS hT ?_
   (repeat' first | refine gq1 ?_ | with_reducible first | exact ⟨⟩ | refine zh ?_ | fail)
   (first | refine zao hl ?_ | refine zan hl ?_)
   exact hK
  ·have e1 : ((n : Int) == 1) = false := by rw [beq_eq_false_iff_ne]; omega
   have hs := zcr (n := n) (by omega)
   rw [zqS (by omega)] at hp
   have hpl : (zbC p).length = p.length := List.length_map ..
   obtain ⟨q,last,hq⟩ : ∃ q last,p = q ++ [last] := by
    have hne : p ≠ [] := by intro e; rw [e] at hp; simp at hp
    exact ⟨p.dropLast,p.getLast hne,(List.dropLast_concat_getLast hne).symm⟩
   have hql : p.length = q.length + 1 := by rw [hq]; simp
   have hw1 : IntKind.i64.wrap ((p.length : Int) - 1) = (q.length : Int) := by rw [zai (by omega) (by have := zsK i (zn n); have := zsK (i - zn n) (n - zn n); split at hp <;> omega)]; omega
   have hgl : (zbC p)[q.length]? = some [D.int .i64 last] := by rw [hq]; simp
   have htk : List.take q.length (zbC p) = zbC q := by rw [hq]; simp
   have hone : ∀ e ∈ zbC p,e.length = 1 := zgV (f := fun t : Int => [D.int .i64 t]) (fun _ => rfl) p
   have hll : last ≤ 9223372036854775807 := hx last (by rw [hq]; simp)
   have hxq : ∀ x ∈ q,x ≤ 9223372036854775807 := fun x hm => hx x (by rw [hq]; simp [hm])
   have hgd : p.getD (p.length - 1) 0 = last := by rw [hql,hq]; simp
   have htq : p.take (p.length - 1) = q := by rw [hql,hq]; simp
   simp only [zgt,if_neg h1,hgd,htq] at hK
   (repeat' first | refine gq2 (zd e1 (zd hpl hw1)) ?_ | with_reducible first | exact ⟨⟩ | refine zh ?_ | fail)
   refine znM (by omega) ?_
   by_cases hc : i < zn n
   ·have hd : decide ((i : Int) < ((zn n : Nat) : Int)) = true := by simp; omega
    rw [if_pos hc] at hp hK
    have hr := zpI f hL b i (zn n) q
    (repeat' first | refine gq2 (zd hd (zd hpl (zd hw1 (zd htk uu)))) ?_ | with_reducible first | exact ⟨⟩ | refine zh ?_ | fail)
    refine ih (i := i) (n := zn n) (by omega) (by omega) hc (by omega) (by omega) hU hT hL hb hxq ?_
    obtain ⟨C,hC⟩ : ∃ C,zgt f L b i (zn n) q = C := ⟨_,rfl⟩
    rw [hC] at hK hr ⊢
    cases hb2 : C.2
    ·rw [hb2] at hK
     (repeat' first | refine gq1 ?_ | with_reducible first | exact ⟨⟩ | refine zh ?_ | fail)
     (first | refine zao hl ?_ | refine zan hl ?_)
     exact hK
    ·rw [if_pos hb2] at hK
     (repeat' first | refine gq2 (zd ua (zd hgl hw1)) ?_ | with_reducible first | exact ⟨⟩ | refine zh ?_ | fail)
     refine zuW (by omega) hll ?_
     (repeat' first | refine gq2 ua ?_ | with_reducible first | exact ⟨⟩ | refine zh ?_ | fail)
     refine zmS hT ?_
     (repeat' first | refine gq1 ?_ | with_reducible first | exact ⟨⟩ | refine zh ?_ | fail)
     (first | refine zao hl ?_ | refine zan hl ?_)
     exact hK
   ·have hd : decide ((i : Int) < ((zn n : Nat) : Int)) = false := by simp; omega
    have hw2 : IntKind.i64.wrap ((i : Int) - ((zn n : Nat) : Int)) = ((i - zn n : Nat) : Int) := by rw [zai (by omega) (by omega)]; omega
    have hw3 : IntKind.i64.wrap ((n : Int) - ((zn n : Nat) : Int)) = ((n - zn n : Nat) : Int) := by rw [zai (by omega) (by omega)]; omega
    rw [if_neg hc] at hp hK
    have hr := zpI f hL b (i - zn n) (n - zn n) q
    (repeat' first | refine gq2 (zd hd (zd hw2 (zd hw3 (zd hpl (zd hw1 (zd htk uu)))))) ?_ | with_reducible first | exact ⟨⟩ | refine zh ?_ | fail)
    refine ih (i := i - zn n) (n := n - zn n) (by omega) (by omega) (by omega) (by omega) (by omega) hU hT hL hb hxq ?_
    obtain ⟨C,hC⟩ : ∃ C,zgt f L b (i - zn n) (n - zn n) q = C := ⟨_,rfl⟩
    rw [hC] at hK hr ⊢
    cases hb2 : C.2
    ·rw [hb2] at hK
     (repeat' first | refine gq1 ?_ | with_reducible first | exact ⟨⟩ | refine zh ?_ | fail)
     (first | refine zao hl ?_ | refine zan hl ?_)
     exact hK
    ·rw [if_pos hb2] at hK
     (repeat' first | refine gq2 (zd ua (zd hgl hw1)) ?_ | with_reducible first | exact ⟨⟩ | refine zh ?_ | fail)
     refine zuW hll (by omega) ?_
     (repeat' first | refine gq2 ua ?_ | with_reducible first | exact ⟨⟩ | refine zh ?_ | fail)
     refine zmS hT ?_
     (repeat' first | refine gq1 ?_ | with_reducible first | exact ⟨⟩ | refine zh ?_ | fail)
     (first | refine zao hl ?_ | refine zan hl ?_)
     exact hK
theorem c_mkVerify {σ : List zf} {id m t : Nat} {L : List (List UInt8)} {root : Int} {b : List UInt8} {i n : Int} {p : List Int} (hn : n ≤ 4611686018427387904) (hT : zcu σ id m t L) (hL : L.length ≤ 1048576) (hb : b.length ≤ 1073740000) (hx : ∀ x ∈ p,x ≤ 9223372036854775807)
  {K : AV → List zf → Prop} (hK : K (.d (.bool (zjh L root b i n p))) σ) :
  zL Tryz.prog zhc [.box id 0, .d (.int .i64 root), .d (.slice (bcs b)), .d (.int .i64 i), .d (.int .i64 n), .d (.slice (zbC p))] σ K := by
 refine zj zkT.is rfl fun hl _ => zkT.goes ?_
 have fin : ∀ z,zjh L root b i n p = z → K (.d (.bool z)) σ := fun z h => h ▸ hK
 clear hK
 have hpl : (zbC p).length = p.length := List.length_map ..
 simp only [zll,iN,bT,bF,eN]
 cases h1 : decide (i < 0)
 rotate_left
 ·(repeat' first | refine gq2 h1 ?_ | with_reducible first | exact ⟨⟩ | refine zh ?_ | fail)
  (first | refine zao hl ?_ | refine zan hl ?_)
  exact fin _ (zon (.inl (.inl (by simpa using h1))))
 cases h2 : decide (i ≥ n)
 rotate_left
 ·(repeat' first | refine gq2 (zd h1 h2) ?_ | with_reducible first | exact ⟨⟩ | refine zh ?_ | fail)
  (first | refine zao hl ?_ | refine zan hl ?_)
  exact fin _ (zon (.inl (.inr (by simpa using h2))))
 (repeat' first | refine gq2 (zd h1 (zd h2 hpl)) ?_ | with_reducible first | exact ⟨⟩ | refine zh ?_ | fail)
 refine c_mkLength hn ?_
 simp only [decide_eq_false_iff_not] at h1 h2
 have hh : ¬ (i < 0 ∨ i ≥ n) := by omega
 cases h3 : ((p.length : Int) != zkH i n)
 rotate_left
 ·(repeat' first | refine gq2 h3 ?_ | with_reducible first | exact ⟨⟩ | refine zh ?_ | fail)
  (first | refine zao hl ?_ | refine zan hl ?_)
  exact fin _ (zon (.inr (by simpa using h3)))
 have h3' : (p.length : Int) = zkH i n := by simpa using h3
 have h4 := verifyF_len (L := L) (root := root) (b := b) hh h3'
 rw [zmJ hh] at h3'
 have ei : (i.toNat : Int) = i := by omega
 have en : (n.toNat : Int) = n := by omega
 have hU : UpAt (σ ++ [.box [.box id 0], .box [.d (.slice (bcs b))], .box [.fn (.func zdc) [] [.box σ.length 0, .box (σ.length + 1) 0, .box (σ.length + 2) 0]]]) σ.length (σ.length + 1) (σ.length + 2) id b := ⟨by rw [zw]; rfl,by rw [zq]; rfl,by rw [zq]; rfl⟩
 have hc := fun (K : AV → List zf → Prop) => c_mkUp n.toNat (i := i.toNat) (n := n.toNat) (p := p) (Nat.le_refl _) (by omega) (by omega) (by omega) (by omega) hU (hT.app _) hL hb hx (K := K)
 rw [ei,en] at hc
 (repeat' first | refine gq2 h3 ?_ | with_reducible first | exact ⟨⟩ | refine zh ?_ | fail)
 refine hc _ ?_
 obtain ⟨C,hC⟩ : ∃ C,zgt n.toNat L b i.toNat n.toNat p = C := ⟨_,rfl⟩
 rw [hC] at h4 ⊢
 cases hb2 : C.2
 ·(repeat' first | refine gq1 ?_ | with_reducible first | exact ⟨⟩ | refine zh ?_ | fail)
  (first | refine zao hl ?_ | refine zan hl ?_)
  exact fin _ (by rw [h4,hb2]; rfl)
 ·(repeat' first | refine gq1 ?_ | with_reducible first | exact ⟨⟩ | refine zh ?_ | fail)
  (first | refine zao hl ?_ | refine zan hl ?_)
  exact fin _ (by rw [h4,hb2]; rfl)
end Go.Proofs.YtncpaekiidpchaaGreat

/- Contracts: a leaf's proof, on both sides. -/
set_option maxRecDepth 100000
namespace Go.Proofs.YtncpaekiidpchaaGreat
open Go.AW
theorem zlw {f : Nat} {L : List (List UInt8)} {i : Nat} {l : List (List UInt8)} (h : l.length ≤ 1) : zbx f L i l = ([],L) := by
 cases f with
 | zero => rfl
 | succ f => simp only [zbx]; rw [if_pos h]
theorem zfr : ∀ (f : Nat) {L : List (List UInt8)} {i : Nat} {l : List (List UInt8)},l.length ≤ f → L.length ≤ 1048576 → (zbx f L i l).2.length ≤ 1048576 ∧ (zbx f L i l).1.length ≤ l.length
 | 0,L,i,l,_,h => ⟨h,by simp [zbx]⟩
 | f + 1,L,i,l,hf,h => by
  by_cases h1 : l.length ≤ 1
  ·rw [zlw h1]; exact ⟨h,by simp⟩
  ·have hs := zcr (n := l.length) (by omega)
   simp only [zbx]
   rw [if_neg h1]
   split
   ·have h2 := zfr f (L := L) (i := i) (l := l.take (zn l.length)) (by rw [List.length_take]; omega) h
    refine ⟨(zcC l.length (by rw [List.length_drop]; omega) h2.1).1, ?_⟩
    have := h2.2
    rw [List.length_take] at this
    simp only [List.length_append,List.length_cons,List.length_nil]
    omega
   ·have h2 := zfr f (L := L) (i := i - zn l.length) (l := l.drop (zn l.length)) (by rw [List.length_drop]; omega) h
    refine ⟨(zcC l.length (by rw [List.length_take]; omega) h2.1).1, ?_⟩
    have := h2.2
    rw [List.length_drop] at this
    simp only [List.length_append,List.length_cons,List.length_nil]
    omega
theorem zuv {f : Nat} {L : List (List UInt8)} {i : Nat} {l : List (List UInt8)} (h : 2 ≤ l.length) : zbx (f + 1) L i l =
  if i < zn l.length then ((zbx f L i (l.take (zn l.length))).1 ++ [(zbQ (zbx f L i (l.take (zn l.length))).2 (l.drop (zn l.length))).1],(zbQ (zbx f L i (l.take (zn l.length))).2 (l.drop (zn l.length))).2)
  else ((zbx f L (i - zn l.length) (l.drop (zn l.length))).1 ++ [(zbQ (zbx f L (i - zn l.length) (l.drop (zn l.length))).2 (l.take (zn l.length))).1],(zbQ (zbx f L (i - zn l.length) (l.drop (zn l.length))).2 (l.take (zn l.length))).2) := by
 simp only [zbx]
 rw [if_neg (by omega)]
def PathR (σ σ1 : List zf) (p : List Int) (K : AV → List zf → Prop) : Prop :=
 (p = [] → K (.tup [.exact [], .d (.int .i64 0)]) σ1) ∧ (p ≠ [] → K (.tup [.own σ.length (zbC p), .d (.int .i64 0)]) (σ1 ++ [.tok 1 p.length]))
theorem gq37 {P Q : Prop} (h : Q) (e : P = Q := by simp -dsimp only [↓zcR, ↓zal, ↓zaM, ↓zcS, ↓zcN, ↓zcL, ↓zcO, ↓zcM, ↓zaR, ↓zaN, ↓zaS, ↓zaO, ↓zcP, ↓zaL, ↓zaT, ↓zaP, ↓zaU, ↓zaQ, ↓zcK, ↓zcQ, ↓zaK, ↓zaV, ↓zcI, ↓zcH, ↓zcJ,iN,bT,bF,eN, ↓zbI, ↓unC, ↓zQ, ↓zF, ↓zG, ↓zI, ↓zR, ↓zap, ↓zbp, ↓zab, ↓zaX, ↓zP, ↓zp, ↓zm, ↓zbg, ↓zi, ↓zY, ↓zB, ↓zas, ↓zaw, ↓ze, ↓zC, ↓zr, ↓zt, ↓zad, ↓zbL, ↓zbY, ↓zaa, ↓zaj, ↓zau, ↓zaB, ↓zaD, ↓zl, ↓zZ, ↓zH, ↓zu, ↓zS,zcd,zaI,zaH,unA,zce,bnd,zcn,zX,zV,zcp,dm,dm1,zD,zag,zcy,zcx,zU,Q0,Q1,Q2,Q3,Q4,Q5,zO,zq,zw,zM,zE,Q6,Q7,Q8,Q9,Q10,Q11,Q12,Q13,Q14,Nat.reduceAdd,Q15,Int.reduceToNat,Q16,Q17,Q18,Q19,Q20,reduceIte,Q21,Q22,zx,rep,zT,zcv,toD,zW,Q23,Q24,Q25,Q26,Q27,Q28,Nat.reduceLeDiff,Q29,Nat.reduceSub,Q30,Q31,Q32,sc,Q33,Q34,Q35,Q36,Q37,Q26,Q38,Q39,zel,zei,zef,zem,zbt,zej,zeg,zek,zeh,zbs,zbu,zen,zeo,Bool.not_true,Bool.not_false,List.length_map,List.length_set]; rfl) : P := e.mpr h
theorem c_r5ProveA : ∀ (f : Nat) {σ : List zf} {id : Nat} {L l : List (List UInt8)} {i : Nat},l.length ≤ f → i < l.length → σ[id]? = some (rtO L) → L.length ≤ 1048576 → l.length ≤ 1073741824 → (∀ x ∈ l,x.length ≤ 1073740000) → ∀ {K : AV → List zf → Prop},
  PathR σ (σ.set id (rtO (zbx f L i l).2)) (zbx f L i l).1 K → zL Tryz.prog zfy [.box id 0, .d (.int .i64 i), .d (.slice (zcU l))] σ K := by
 intro f
 induction f with
 | zero => intros; omega
 | succ f ih =>
  intro σ id L l i hf hi hT hL hn hx K hK
  refine zco zro.is rfl (fun s => if s.length = σ.length then [] else [σ.length]) fun hl _ => zro.goes ?_
  have hlen : (zcU l).length = l.length := List.length_map ..
  have d1 : decide ((i : Int) < 0) = false := by simp
  have d2 : decide ((i : Int) ≥ (l.length : Int)) = false := by simp; omega
  simp only [zrS,iN,bT,bF,eN]
  by_cases h1 : l.length ≤ 1
  ·have e1 : ((l.length : Int) == 1) = true := by simp; omega
   rw [zlw h1,zbD hT] at hK
   (repeat' first | refine gq2 (zd d1 (zd d2 (zd hlen e1))) ?_ | with_reducible first | exact ⟨⟩ | refine zh ?_ | fail)
   exact zmO (by simp) hl rfl (hK.1 rfl)
  ·have h2 : 2 ≤ l.length := by omega
   have hs := zcr h2
   rw [zuv h2] at hK
   have e1 : ((l.length : Int) == 1) = false := by rw [beq_eq_false_iff_ne]; omega
   have htk : List.take (zn l.length) (zcU l) = zcU (l.take (zn l.length)) := by rw [zcU, ← List.map_take]
   have hdr : List.drop (zn l.length) (zcU l) = zcU (l.drop (zn l.length)) := by rw [zcU, ← List.map_drop]
   have htl : List.take l.length (zcU l) = zcU l := List.take_of_length_le (by omega)
   have hone : ∀ e ∈ zcU l,e.length = 1 := zgV (f := fun b => [D.slice (bcs b)]) (fun _ => rfl) l
   have hl1 : (l.take (zn l.length)).length = zn l.length := by rw [List.length_take]; omega
   have hl2 : (l.drop (zn l.length)).length = l.length - zn l.length := List.length_drop
   (repeat' first | refine gq2 (zd d1 (zd d2 (zd hlen e1))) ?_ | with_reducible first | exact ⟨⟩ | refine zh ?_ | fail)
   refine c_r5Split (by omega) ?_
   have last : ∀ (A : List Int × List (List UInt8)) (R : Int × List (List UInt8)) (tk : zf),A.1.length ≤ l.length → PathR σ (σ.set id (rtO R.2)) (A.1 ++ [R.1]) K →
     zoj σ.length (fun s => if s.length = σ.length then [] else [σ.length]) K (some [.own σ.length (zbC A.1 ++ [[.int .i64 R.1]]), .d (.int .i64 0)]) (σ.set id (rtO R.2) ++ [.tok 1 (A.1.length + 1)]) := fun A R tk _ hR => by
    refine endsK_one (t := σ.length) (x := .tok 1 (A.1.length + 1)) (r := .tup [.own σ.length (zbC (A.1 ++ [R.1])), .d (.int .i64 0)]) (by simp) (by simp) (Nat.le_refl _) (by rw [List.getElem?_append_right (by simp)]; simp) (hl.setO (zew _ _)) (by trivial) ?_ ?_
    ·simp [zbV,zcV,zhK,zjn,idxK,zbC]
    ·have := hR.2 (by simp)
     simpa using this
   by_cases hc : i < zn l.length
   ·have hd : decide ((i : Int) < ((zn l.length : Nat) : Int)) = true := by simp; omega
    rw [if_pos hc] at hK
    obtain ⟨g1,g2⟩ := zfr f (L := L) (i := i) (l := l.take (zn l.length)) (by omega) hL
    (repeat' first | refine gq2 (zd hd (zd hlen htk)) ?_ | with_reducible first | exact ⟨⟩ | refine zh ?_ | fail)
    refine ih (i := i) (by omega) (by omega) hT hL (by omega) (fun z hz => hx z (List.mem_of_mem_take hz)) ?_
    obtain ⟨A,hA⟩ : ∃ A,zbx f L i (l.take (zn l.length)) = A := ⟨_,rfl⟩
    rw [hA] at hK g1 g2 ⊢
    have hT1 : (σ.set id (rtO A.2))[id]? = some (rtO A.2) := zbn hT
    refine ⟨fun hp => ?_,fun hp => ?_⟩
    ·have hlast := last A (zbQ A.2 (l.drop (zn l.length))) (.tok 1 0) (by omega) hK
     rw [hp] at hlast
     (repeat' first | refine gq2 (zd hlen (zd htl hdr)) ?_ | with_reducible first | exact ⟨⟩ | refine zh ?_ | fail)
     refine zlK hT1 g1 (by omega) (fun z hz => hx z (List.mem_of_mem_drop hz)) ?_
     rw [List.set_set]
     (repeat' first | refine gq37 ?_ | with_reducible first | exact ⟨⟩ | refine zh ?_ | fail)
     exact hlast
    ·have hpl : (zbC A.1).length = A.1.length := List.length_map ..
     have hlast := last A (zbQ A.2 (l.drop (zn l.length))) (.tok 1 0) (by omega) hK
     (repeat' first | refine gq2 (zd hlen (zd htl hdr)) ?_ | with_reducible first | exact ⟨⟩ | refine zh ?_ | fail)
     refine zlK (zg hT1) g1 (by omega) (fun z hz => hx z (List.mem_of_mem_drop hz)) ?_
     rw [zbE hT1,List.set_set]
     have hgt : ∀ X,(σ.set id X ++ [zf.tok 1 A.1.length])[σ.length]? = some (.tok 1 A.1.length) := fun X => by rw [List.getElem?_append_right (by simp)]; simp
     have hst : ∀ X Y,(σ.set id X ++ [zf.tok 1 A.1.length]).set σ.length Y = σ.set id X ++ [Y] := fun X Y => by rw [List.set_append_right _ _ (by simp)]; simp
     (repeat' first | refine gq2 (zd hpl (zd hgt hst)) ?_ | with_reducible first | exact ⟨⟩ | refine zh ?_ | fail)
     exact hlast
   ·have hd : decide ((i : Int) < ((zn l.length : Nat) : Int)) = false := by simp; omega
    have hw2 : IntKind.i64.wrap ((i : Int) - ((zn l.length : Nat) : Int)) = ((i - zn l.length : Nat) : Int) := by rw [zai (by omega) (by omega)]; omega
    rw [if_neg hc] at hK
    obtain ⟨g1,g2⟩ := zfr f (L := L) (i := i - zn l.length) (l := l.drop (zn l.length)) (by omega) hL
    (repeat' first | refine gq2 (zd hd (zd hw2 (zd hlen (zd htl hdr)))) ?_ | with_reducible first | exact ⟨⟩ | refine zh ?_ | fail)
    refine ih (i := i - zn l.length) (by omega) (by omega) hT hL (by omega) (fun z hz => hx z (List.mem_of_mem_drop hz)) ?_
    obtain ⟨A,hA⟩ : ∃ A,zbx f L (i - zn l.length) (l.drop (zn l.length)) = A := ⟨_,rfl⟩
    rw [hA] at hK g1 g2 ⊢
    have hT1 : (σ.set id (rtO A.2))[id]? = some (rtO A.2) := zbn hT
    refine ⟨fun hp => ?_,fun hp => ?_⟩
    ·have hlast := last A (zbQ A.2 (l.take (zn l.length))) (.tok 1 0) (by omega) hK
     rw [hp] at hlast
     (repeat' first | refine gq2 (zd hlen htk) ?_ | with_reducible first | exact ⟨⟩ | refine zh ?_ | fail)
     refine zlK hT1 g1 (by omega) (fun z hz => hx z (List.mem_of_mem_take hz)) ?_
     rw [List.set_set]
     (repeat' first | refine gq37 ?_ | with_reducible first | exact ⟨⟩ | refine zh ?_ | fail)
     exact hlast
    ·have hpl : (zbC A.1).length = A.1.length := List.length_map ..
     have hlast := last A (zbQ A.2 (l.take (zn l.length))) (.tok 1 0) (by omega) hK
     (repeat' first | refine gq2 (zd hlen htk) ?_ | with_reducible first | exact ⟨⟩ | refine zh ?_ | fail)
     refine zlK (zg hT1) g1 (by omega) (fun z hz => hx z (List.mem_of_mem_take hz)) ?_
     rw [zbE hT1,List.set_set]
     have hgt : ∀ X,(σ.set id X ++ [zf.tok 1 A.1.length])[σ.length]? = some (.tok 1 A.1.length) := fun X => by rw [List.getElem?_append_right (by simp)]; simp
     have hst : ∀ X Y,(σ.set id X ++ [zf.tok 1 A.1.length]).set σ.length Y = σ.set id X ++ [Y] := fun X Y => by rw [List.set_append_right _ _ (by simp)]; simp
     (repeat' first | refine gq2 (zd hpl (zd hgt hst)) ?_ | with_reducible first | exact ⟨⟩ | refine zh ?_ | fail)
     exact hlast
theorem c_r5Prove {σ : List zf} {id : Nat} {L l : List (List UInt8)} {i : Nat} (hi : i < l.length) (hT : σ[id]? = some (rtO L)) (hL : L.length ≤ 1048576) (hn : l.length ≤ 1073741824) (hx : ∀ x ∈ l,x.length ≤ 1073740000) {K : AV → List zf → Prop}
  (hK : PathR σ (σ.set id (rtO (zbx l.length L i l).2)) (zbx l.length L i l).1 K) : zL Tryz.prog zfy [.box id 0, .d (.int .i64 i), .d (.slice (zcU l))] σ K := c_r5ProveA l.length (Nat.le_refl _) hi hT hL hn hx hK
end Go.Proofs.YtncpaekiidpchaaGreat

/- Contracts: the digest of leaves, on both sides. -/
import Derived.Test.YtfgbofkdhfjegaaGreatMk1
import Derived.Test.YtfgbofkdhfjegaaGreatOpC
import Derived.Test.YtfgbofkdhfjegaaGreatSpTab
import Derived.Test.YtfgbofkdhfjegaaGreatSpUtf
set_option linter.all false
set_option maxRecDepth 100000
namespace Go.Proofs.YtfgbofkdhfjegaaGreat
open Go.AW
theorem zoN {L : List (List UInt8)} (h : L.length ≤ 1048576) (b : List UInt8) : (zeI L b).length ≤ 1048576 := by
 unfold zeI
 split
 ·exact h
 ·split
  ·exact h
  ·simp; omega
theorem zpU {L : List (List UInt8)} (h : L.length ≤ 1048576) (b : List UInt8) : 0 ≤ zdw L b ∧ zdw L b ≤ 1048577 := by
 unfold zdw
 split
 ·rename_i i hi
  have := (zld hi).1
  omega
 ·split
  ·omega
  ·omega
theorem zdQ : ∀ (f : Nat) {L l : List (List UInt8)},l.length ≤ f → L.length ≤ 1048576 → (rootF L l).2.length ≤ 1048576 ∧ 0 ≤ (rootF L l).1 ∧ (rootF L l).1 ≤ 1048577
 | _,L, [],_,h => ⟨zoN h _,zpU h _⟩
 | _,L, [x],_,h => ⟨zoN h _,zpU h _⟩
 | 0,L,x :: y :: r,hf,h => by simp at hf
 | f + 1,L,x :: y :: r,hf,h => by
  have hs := zcL (n := (x :: y :: r).length) (by simp)
  rw [zsh (by simp)]
  have h1 := (zdQ f (L := L) (l := (x :: y :: r).take (zm (x :: y :: r).length)) (by rw [List.length_take]; omega) h).1
  have h2 := (zdQ f (L := (rootF L ((x :: y :: r).take (zm (x :: y :: r).length))).2) (l := (x :: y :: r).drop (zm (x :: y :: r).length)) (by rw [List.length_drop]; omega) h1).1
  exact ⟨zoN h2 _,zpU h2 _⟩
theorem c_r5Leaf {σ : List zh} {id : Nat} {L : List (List UInt8)} {b : List UInt8} (hT : σ[id]? = some (rtO L)) (hL : L.length ≤ 1048576) (hb : b.length ≤ 1073740000) {K : KT}
  (hK : K (.d (.int .i64 (zdw L (zoh b)))) (σ.set id (rtO (zeI L (zoh b))))) : zp Tryz.prog zqg [.box id 0, .d (.slice (bcs b))] σ K := by
 refine zfY e_r05_Leaf fun hl => ?_
 simp only [zvt,iN,bT,bF,eN]
 refine gq1 ?_
 refine c_r5leaf (by omega) ?_
 refine gq1 ?_
 refine zlm hT (by simp [zoh]; omega) hL ?_
 refine gq1 ?_
 exact zhi (by simp) (by simp [zeU,dmT,dm,dm1,zcC]) (hl.setO (zfs _ _)) hK
theorem c_r5Node {σ : List zh} {id : Nat} {L : List (List UInt8)} {l r : Int} (hT : σ[id]? = some (rtO L)) (hL : L.length ≤ 1048576) (hl1 : l ≤ 9223372036854775807) (hr1 : r ≤ 9223372036854775807) {K : KT}
  (hK : K (.d (.int .i64 (zdw L (zkN l r)))) (σ.set id (rtO (zeI L (zkN l r))))) : zp Tryz.prog zqf [.box id 0, .d (.int .i64 l), .d (.int .i64 r)] σ K := by
 refine acE3 e_r05_Node fun hl => ?_
 have n1 := zE (n := l.toNat) (by omega)
 have n2 := zE (n := r.toNat) (by omega)
 simp only [zvs,iN,bT,bF,eN]
 refine gq1 ?_
 refine c_r5node hl1 hr1 ?_
 refine gq1 ?_
 refine zlm hT (by simp [zkN]; omega) hL ?_
 refine gq1 ?_
 exact zhi (by simp) (by simp [zeU,dmT,dm,dm1,zcC]) (hl.setO (zfs _ _)) hK
theorem c_r5RootA : ∀ (f : Nat) {σ : List zh} {id : Nat} {L l : List (List UInt8)},l.length ≤ f → σ[id]? = some (rtO L) → L.length ≤ 1048576 → l.length ≤ 1073741824 → (∀ x ∈ l,x.length ≤ 1073740000) → ∀ {K : KT},
  K (.d (.int .i64 (rootF L l).1)) (σ.set id (rtO (rootF L l).2)) → zp Tryz.prog zey [.box id 0, .d (.slice (zgZ l))] σ K := by
 intro f
 induction f with
 | zero =>
  intro σ id L l hf hT hL hn hx K hK
  have : l = [] := List.eq_nil_of_length_eq_zero (by omega)
  subst this
  refine zfY zne fun hl => ?_
  simp only [zkw,iN,bT,bF,eN]
  refine gq1 ?_
  refine zlm (b := [2]) hT (by simp) hL ?_
  refine gq1 ?_
  exact zhi (by simp) (by simp [zeU,dmT,dm,dm1,zcC]) (hl.setO (zfs _ _)) hK
 | succ f ih =>
  intro σ id L l hf hT hL hn hx K hK
  match l,hf,hn,hx,hK with
  | [],_,_,_,hK =>
   refine zfY zne fun hl => ?_
   simp only [zkw,iN,bT,bF,eN]
   refine gq1 ?_
   refine zlm (b := [2]) hT (by simp) hL ?_
   refine gq1 ?_
   exact zhi (by simp) (by simp [zeU,dmT,dm,dm1,zcC]) (hl.setO (zfs _ _)) hK
  | [x],_,_,hx,hK =>
   refine zfY zne fun hl => ?_
   simp only [zkw,iN,bT,bF,eN]
   refine gq1 ?_
   refine c_r5Leaf (b := x) hT hL (hx x (by simp)) ?_
   refine gq1 ?_
   exact zhi (by simp) (by simp [zeU,dmT,dm,dm1,zcC]) (hl.setO (zfs _ _)) hK
  | x :: y :: r,hf,hn,hx,hK =>
   obtain ⟨l,hle⟩ : ∃ l,x :: y :: r = l := ⟨_,rfl⟩
   have h2 : 2 ≤ l.length := by rw [← hle]; simp
   rw [hle] at hf hn hx hK ⊢
   clear hle
   have hs := zcL h2
   rw [zsh h2] at hK
   refine zfY zne fun hl => ?_
   have hlen : (zgZ l).length = l.length := List.length_map ..
   have e0 : ((l.length : Int) == 0) = false := by rw [beq_eq_false_iff_ne]; omega
   have e1 : ((l.length : Int) == 1) = false := by rw [beq_eq_false_iff_ne]; omega
   have htk : List.take (zm l.length) (zgZ l) = zgZ (l.take (zm l.length)) := by rw [zgZ, ← List.map_take]
   have hdr : List.drop (zm l.length) (zgZ l) = zgZ (l.drop (zm l.length)) := by rw [zgZ, ← List.map_drop]
   have htl : List.take l.length (zgZ l) = zgZ l := List.take_of_length_le (by omega)
   have hone : ∀ e ∈ zgZ l,e.length = 1 := zjt (f := fun b => [D.slice (bcs b)]) (fun _ => rfl) l
   have hl1 : (l.take (zm l.length)).length = zm l.length := by rw [List.length_take]; omega
   have hl2 : (l.drop (zm l.length)).length = l.length - zm l.length := List.length_drop
   obtain ⟨g1,g2,g3⟩ := zdQ l.length (L := L) (l := l.take (zm l.length)) (by omega) hL
   simp only [zkw,iN,bT,bF,eN]
   refine gq2 (zf hlen (zf e0 e1)) ?_
   refine c_r5Split (by omega) ?_
   refine gq2 (zf hlen htk) ?_
   refine ih (by omega) hT hL (by omega) (fun z hz => hx z (List.mem_of_mem_take hz)) ?_
   obtain ⟨A,hA⟩ : ∃ A,rootF L (l.take (zm l.length)) = A := ⟨_,rfl⟩
   rw [hA] at hK g1 g2 g3 ⊢
   obtain ⟨q1,q2,q3⟩ := zdQ l.length (L := A.2) (l := l.drop (zm l.length)) (by omega) g1
   refine gq2 (zf hlen (zf htl hdr)) ?_
   refine ih (by omega) (zbv hT) g1 (by omega) (fun z hz => hx z (List.mem_of_mem_drop hz)) ?_
   obtain ⟨B,hB⟩ : ∃ B,rootF A.2 (l.drop (zm l.length)) = B := ⟨_,rfl⟩
   rw [hB] at hK q1 q2 q3 ⊢
   rw [List.set_set]
   refine gq1 ?_
   refine c_r5Node (zbv hT) q1 (by omega) (by omega) ?_
   rw [List.set_set]
   refine gq1 ?_
   exact zhi (by simp) (by simp [zeU,dmT,dm,dm1,zcC]) (hl.setO (zfs _ _)) hK
theorem znj {σ : List zh} {id : Nat} {L l : List (List UInt8)} (hT : σ[id]? = some (rtO L)) (hL : L.length ≤ 1048576) (hn : l.length ≤ 1073741824) (hx : ∀ x ∈ l,x.length ≤ 1073740000) {K : KT}
  (hK : K (.d (.int .i64 (rootF L l).1)) (σ.set id (rtO (rootF L l).2))) : zp Tryz.prog zey [.box id 0, .d (.slice (zgZ l))] σ K := c_r5RootA l.length (Nat.le_refl _) hT hL hn hx hK
end Go.Proofs.YtfgbofkdhfjegaaGreat

/- Votes: their bytes, and whether they are signed. No program in sight. -/
namespace Go.AW
abbrev zdK (l : List Int) : List (List D) := l.map fun t => [D.int .i64 t]
def zdc (x : Int) : Bool := decide (0 ≤ x ∧ x ≤ 9007199254740992)
def zqS (a b c d : Int) : Bool := zdc a && (zdc b && (zdc c && zdc d))
def zhU (l : List Int) : List UInt8 := (l.map fun x => zcO x.toNat).flatten
def zfZ (a b c d : Int) : List UInt8 := 4 :: zhU [a,b,c,d]
theorem zeY {x : Int} : zdc x = true ↔ 0 ≤ x ∧ x ≤ 9007199254740992 := by simp [zdc]
theorem zmW {l : List Int} {k : Nat} {x : Int} (h : l[k]? = some x) : zhU (l.take (k + 1)) = zhU (l.take k) ++ zcO x.toNat := by
 rw [List.take_add_one,h]; simp [zhU]
theorem zmb {l : List Int} (h : ∀ x ∈ l,x < 9223372036854775808) : (zhU l).length ≤ l.length * 10 := by
 induction l with
 | nil => simp [zhU]
 | cons x l ih =>
  have h1 := h x (by simp)
  have h2 := zE (n := x.toNat) (by omega)
  have h3 := ih fun y hy => h y (by simp [hy])
  simp only [zhU,List.map_cons,List.flatten_cons,List.length_append,List.length_cons] at h3 ⊢
  omega
theorem voteB_len {a b c d : Int} (h : zqS a b c d = true) : (zfZ a b c d).length ≤ 50 := by
 simp only [zqS,Bool.and_eq_true,zeY] at h
 have := zmb (l := [a,b,c,d]) (by intro x hx; simp at hx; omega)
 simp only [zfZ,List.length_cons,List.length_nil] at this ⊢
 omega
theorem mayV_all (a b c d : Int) : zqS a b c d = [a,b,c,d].all zdc := by simp [zqS]
def znV (L : List (List UInt8)) (G : List zI) (s : zI) (key : Int) (b : List UInt8) : Bool := match zcW L b with
 | some i => decide (s.key = key ∧ s.dig = ((i + 1 : Nat) : Int)) && decide (s ∈ G)
 | none => false
def zrT (L : List (List UInt8)) (G : List zI) (s : zI) (key a b c d : Int) : Bool := zqS a b c d && znV L G s key (zfZ a b c d)
end Go.AW

/- Contracts: the digest to which a proof comes, on both sides. -/
set_option maxRecDepth 100000
namespace Go.Proofs.YtfgbofkdhfjegaaGreat
open Go.AW
theorem znZ {L : List (List UInt8)} (hL : L.length ≤ 1048576) (b : List UInt8) : 0 ≤ zjU (zcW L b) ∧ zjU (zcW L b) ≤ 1048577 := by
 cases h : zcW L b with
 | none => simp [zjU]
 | some i =>
  have := (zld h).1
  simp only [zjU]; omega
theorem zqZ : ∀ (f : Nat) {L : List (List UInt8)} (hL : L.length ≤ 1048576) (b : List UInt8) (i n : Nat) (p : List Int),(zfS f L b i n p).1 ≤ 1048577
 | 0,L,hL,b,i,n,p => by simp [zfS]
 | f + 1,L,hL,b,i,n,p => by
  simp only [zfS]
  split
  ·exact (znZ hL _).2
  ·split
   ·split
    ·exact (znZ hL _).2
    ·simp
   ·split
    ·exact (znZ hL _).2
    ·simp
theorem zog {i n : Int} (h : ¬ (i < 0 ∨ i ≥ n)) : zml i n = zfx i.toNat n.toNat := if_neg h
theorem verifyF_len {L : List (List UInt8)} {root : Int} {b : List UInt8} {i n : Int} {p : List Int} (h : ¬ (i < 0 ∨ i ≥ n)) (hp : (p.length : Int) = zml i n) : zkG L root b i n p = ((zfS n.toNat L b i.toNat n.toNat p).2 && ((zfS n.toNat L b i.toNat n.toNat p).1 == root)) := by
 rw [zog h] at hp
 unfold zkG
 rw [if_neg (by omega)]
theorem zpS {L : List (List UInt8)} {root : Int} {b : List UInt8} {i n : Int} {p : List Int} (h : (i < 0 ∨ i ≥ n) ∨ (p.length : Int) ≠ zml i n) : zkG L root b i n p = false := by
 unfold zkG
 rw [if_pos]
 by_cases hh : i < 0 ∨ i ≥ n
 ·rcases hh with h | h
  ·exact .inl h
  ·exact .inr (.inl h)
 ·rcases h with h | h
  ·exact absurd h hh
  ·rw [zog hh] at h
   exact .inr (.inr h)
structure UpAt (σ : List zh) (a b u id : Nat) (x : List UInt8) : Prop where
 ta : σ[a]? = some (.box [.box id 0])
 tb : σ[b]? = some (.box [.d (.slice (bcs x))])
 tu : σ[u]? = some (.box [.fn (.func zdo) [] [.box a 0, .box b 0, .box u 0]])
theorem UpAt.app {σ : List zh} {a b u id : Nat} {x : List UInt8} (h : UpAt σ a b u id x) (τ : List zh) : UpAt (σ ++ τ) a b u id x := ⟨zd h.ta,zd h.tb,zd h.tu⟩
theorem c_mkUp : ∀ (f : Nat) {σ : List zh} {a1 b1 u1 id m t : Nat} {L : List (List UInt8)} {b : List UInt8} {i n : Nat} {p : List Int},n ≤ f → 1 ≤ n → i < n → n ≤ 4611686018427387904 → p.length = zfx i n → UpAt σ a1 b1 u1 id b → zdh σ id m t L → L.length ≤ 1048576 → b.length ≤ 1073740000 → (∀ x ∈ p,x ≤ 9223372036854775807) →
  ∀ {K : KT},K (.tup [.d (.int .i64 (zfS f L b i n p).1), .d (.bool (zfS f L b i n p).2)]) σ →
  zp Tryz.prog zdo [.d (.int .i64 i), .d (.int .i64 n), .d (.slice (zdK p)), .box a1 0, .box b1 0, .box u1 0] σ K := by
 intro f
 induction f with
 | zero => intros; omega
 | succ f ih =>
  intro σ a1 b1 u1 id m t L b i n p hf hn hin hn2 hp hU hT hL hb hx K hK
  refine acE6 zqw fun hl => ?_
  have ua := hU.ta; have ub := hU.tb; have uu := hU.tu
  simp only [zky,iN,bT,bF,eN]
  by_cases h1 : n = 1
  ·subst h1
   simp only [zfS,if_pos] at hK
   refine gq2 (zf ua ub) ?_
   refine c_mkleaf (by omega) ?_
   refine gq2 ua ?_
   refine zoz hT ?_
   refine gq1 ?_
   refine zT hl ?_
   exact hK
  ·have e1 : ((n : Int) == 1) = false := by rw [beq_eq_false_iff_ne]; omega
   have hs := zcL (n := n) (by omega)
   rw [zpb (by omega)] at hp
   have hpl : (zdK p).length = p.length := List.length_map ..
   obtain ⟨q,last,hq⟩ : ∃ q last,p = q ++ [last] := by
    have hne : p ≠ [] := by intro e; rw [e] at hp; simp at hp
    exact ⟨p.dropLast,p.getLast hne,(List.dropLast_concat_getLast hne).symm⟩
   have hql : p.length = q.length + 1 := by rw [hq]; simp
   have hw1 : IntKind.i64.wrap ((p.length : Int) - 1) = (q.length : Int) := by rw [zac (by omega) (by have := zuE i (zm n); have := zuE (i - zm n) (n - zm n); split at hp <;> omega)]; omega
   have hgl : (zdK p)[q.length]? = some [D.int .i64 last] := by rw [hq]; simp
   have htk : List.take q.length (zdK p) = zdK q := by rw [hq]; simp
   have hone : ∀ e ∈ zdK p,e.length = 1 := zjt (f := fun t : Int => [D.int .i64 t]) (fun _ => rfl) p
   have hll : last ≤ 9223372036854775807 := hx last (by rw [hq]; simp)
   have hxq : ∀ x ∈ q,x ≤ 9223372036854775807 := fun x hm => hx x (by rw [hq]; simp [hm])
   have hgd : p.getD (p.length - 1) 0 = last := by rw [hql,hq]; simp
   have htq : p.take (p.length - 1) = q := by rw [hql,hq]; simp
   simp only [zfS,if_neg h1,hgd,htq] at hK
   refine gq2 (zf e1 (zf hpl hw1)) ?_
   refine c_mkSplit (by omega) ?_
   by_cases hc : i < zm n
   ·have hd : decide ((i : Int) < ((zm n : Nat) : Int)) = true := by simp; omega
    rw [if_pos hc] at hp hK
    have hr := zqZ f hL b i (zm n) q
    refine gq2 (zf hd (zf hpl (zf hw1 (zf htk uu)))) ?_
    refine ih (i := i) (n := zm n) (by omega) (by omega) hc (by omega) (by omega) hU hT hL hb hxq ?_
    obtain ⟨C,hC⟩ : ∃ C,zfS f L b i (zm n) q = C := ⟨_,rfl⟩
    rw [hC] at hK hr ⊢
    cases hb2 : C.2
    ·rw [hb2] at hK
     refine gq1 ?_
     refine zT hl ?_
     exact hK
    ·rw [if_pos hb2] at hK
     refine gq2 (zf ua (zf hgl hw1)) ?_
     refine c_mknode (by omega) hll ?_
     refine gq2 ua ?_
     refine zoz hT ?_
     refine gq1 ?_
     refine zT hl ?_
     exact hK
   ·have hd : decide ((i : Int) < ((zm n : Nat) : Int)) = false := by simp; omega
    have hw2 : IntKind.i64.wrap ((i : Int) - ((zm n : Nat) : Int)) = ((i - zm n : Nat) : Int) := by rw [zac (by omega) (by omega)]; omega
    have hw3 : IntKind.i64.wrap ((n : Int) - ((zm n : Nat) : Int)) = ((n - zm n : Nat) : Int) := by rw [zac (by omega) (by omega)]; omega
    rw [if_neg hc] at hp hK
    have hr := zqZ f hL b (i - zm n) (n - zm n) q
    refine gq2 (zf hd (zf hw2 (zf hw3 (zf hpl (zf hw1 (zf htk uu)))))) ?_
    refine ih (i := i - zm n) (n := n - zm n) (by omega) (by omega) (by omega) (by omega) (by omega) hU hT hL hb hxq ?_
    obtain ⟨C,hC⟩ : ∃ C,zfS f L b (i - zm n) (n - zm n) q = C := ⟨_,rfl⟩
    rw [hC] at hK hr ⊢
    cases hb2 : C.2
    ·rw [hb2] at hK
     refine gq1 ?_
     refine zT hl ?_
     exact hK
    ·rw [if_pos hb2] at hK
     refine gq2 (zf ua (zf hgl hw1)) ?_
     refine c_mknode hll (by omega) ?_
     refine gq2 ua ?_
     refine zoz hT ?_
     refine gq1 ?_
     refine zT hl ?_
     exact hK
theorem c_mkVerify {σ : List zh} {id m t : Nat} {L : List (List UInt8)} {root : Int} {b : List UInt8} {i n : Int} {p : List Int} (hn : n ≤ 4611686018427387904) (hT : zdh σ id m t L) (hL : L.length ≤ 1048576) (hb : b.length ≤ 1073740000) (hx : ∀ x ∈ p,x ≤ 9223372036854775807)
  {K : KT} (hK : K (.d (.bool (zkG L root b i n p))) σ) :
  zp Tryz.prog zir [.box id 0, .d (.int .i64 root), .d (.slice (bcs b)), .d (.int .i64 i), .d (.int .i64 n), .d (.slice (zdK p))] σ K := by
 refine acE6 zsV fun hl => ?_
 have fin : ∀ z,zkG L root b i n p = z → K (.d (.bool z)) σ := fun z h => h ▸ hK
 clear hK
 have hpl : (zdK p).length = p.length := List.length_map ..
 simp only [zmJ,iN,bT,bF,eN]
 cases h1 : decide (i < 0)
 rotate_left
 ·refine gq2 h1 ?_
  refine zT hl ?_
  exact fin _ (zpS (.inl (.inl (by simpa using h1))))
 cases h2 : decide (i ≥ n)
 rotate_left
 ·refine gq2 (zf h1 h2) ?_
  refine zT hl ?_
  exact fin _ (zpS (.inl (.inr (by simpa using h2))))
 refine gq2 (zf h1 (zf h2 hpl)) ?_
 refine c_mkLength hn ?_
 simp only [decide_eq_false_iff_not] at h1 h2
 have hh : ¬ (i < 0 ∨ i ≥ n) := by omega
 cases h3 : ((p.length : Int) != zml i n)
 rotate_left
 ·refine gq2 h3 ?_
  refine zT hl ?_
  exact fin _ (zpS (.inr (by simpa using h3)))
 have h3' : (p.length : Int) = zml i n := by simpa using h3
 have h4 := verifyF_len (L := L) (root := root) (b := b) hh h3'
 rw [zog hh] at h3'
 have ei : (i.toNat : Int) = i := by omega
 have en : (n.toNat : Int) = n := by omega
 have hU : UpAt (σ ++ [.box [.box id 0], .box [.d (.slice (bcs b))], .box [.fn (.func zdo) [] [.box σ.length 0, .box (σ.length + 1) 0, .box (σ.length + 2) 0]]]) σ.length (σ.length + 1) (σ.length + 2) id b := ⟨by rw [zy]; rfl,by rw [zt]; rfl,by rw [zt]; rfl⟩
 have hc := fun (K : KT) => c_mkUp n.toNat (i := i.toNat) (n := n.toNat) (p := p) (Nat.le_refl _) (by omega) (by omega) (by omega) (by omega) hU (hT.app _) hL hb hx (K := K)
 rw [ei,en] at hc
 refine gq2 h3 ?_
 refine hc _ ?_
 obtain ⟨C,hC⟩ : ∃ C,zfS n.toNat L b i.toNat n.toNat p = C := ⟨_,rfl⟩
 rw [hC] at h4 ⊢
 cases hb2 : C.2
 ·refine gq1 ?_
  refine zT hl ?_
  exact fin _ (by rw [h4,hb2]; rfl)
 ·refine gq1 ?_
  refine zT hl ?_
  exact fin _ (by rw [h4,hb2]; rfl)
end Go.Proofs.YtfgbofkdhfjegaaGreat

/- Contracts: the digest of leaves, on both sides. -/
import Derived.Test.YtfgbofkdhfjegaaGreatMk1
import Derived.Test.YtfgbofkdhfjegaaGreatOpC
import Derived.Test.YtfgbofkdhfjegaaGreatSpTab
import Derived.Test.YtfgbofkdhfjegaaGreatSpUtf
set_option linter.all false
set_option maxRecDepth 100000
namespace Go.Proofs.YtfgbofkdhfjegaaGreat
open Go.AW
theorem zoC {L : List (List UInt8)} (h : L.length ≤ 1048576) (b : List UInt8) : (zeG L b).length ≤ 1048576 := by
 unfold zeG
 split
 ·exact h
 ·split
  ·exact h
  ·simp; omega
theorem zpM {L : List (List UInt8)} (h : L.length ≤ 1048576) (b : List UInt8) : 0 ≤ zdA L b ∧ zdA L b ≤ 1048577 := by
 unfold zdA
 split
 ·rename_i i hi
  have := (zkP hi).1
  omega
 ·split
  ·omega
  ·omega
theorem zdS : ∀ (f : Nat) {L l : List (List UInt8)},l.length ≤ f → L.length ≤ 1048576 → (rootF L l).2.length ≤ 1048576 ∧ 0 ≤ (rootF L l).1 ∧ (rootF L l).1 ≤ 1048577
 | _,L, [],_,h => ⟨zoC h _,zpM h _⟩
 | _,L, [x],_,h => ⟨zoC h _,zpM h _⟩
 | 0,L,x :: y :: r,hf,h => by simp at hf
 | f + 1,L,x :: y :: r,hf,h => by
  have hs := zcK (n := (x :: y :: r).length) (by simp)
  rw [zrY (by simp)]
  have h1 := (zdS f (L := L) (l := (x :: y :: r).take (zm (x :: y :: r).length)) (by rw [List.length_take]; omega) h).1
  have h2 := (zdS f (L := (rootF L ((x :: y :: r).take (zm (x :: y :: r).length))).2) (l := (x :: y :: r).drop (zm (x :: y :: r).length)) (by rw [List.length_drop]; omega) h1).1
  exact ⟨zoC h2 _,zpM h2 _⟩
theorem c_r5Leaf {σ : List zh} {id : Nat} {L : List (List UInt8)} {b : List UInt8} (hT : σ[id]? = some (rtO L)) (hL : L.length ≤ 1048576) (hb : b.length ≤ 1073740000) {K : KT}
  (hK : K (.d (.int .i64 (zdA L (znW b)))) (σ.set id (rtO (zeG L (znW b))))) : zr Tryz.prog zqb [.box id 0, .d (.slice (bcs b))] σ K := by
 refine zfJ e_r05_Leaf fun hl => ?_
 simp only [zvm,iN,bT,bF,eN]
 refine gq1 ?_
 refine c_r5leaf (by omega) ?_
 refine gq1 ?_
 refine zkZ hT (by simp [znW]; omega) hL ?_
 refine gq1 ?_
 exact zgQ (by simp) (by simp [zeD,dmT,dm,dm1,zcC]) (hl.setO (zfw _ _)) hK
theorem c_r5Node {σ : List zh} {id : Nat} {L : List (List UInt8)} {l r : Int} (hT : σ[id]? = some (rtO L)) (hL : L.length ≤ 1048576) (hl1 : l ≤ 9223372036854775807) (hr1 : r ≤ 9223372036854775807) {K : KT}
  (hK : K (.d (.int .i64 (zdA L (zkA l r)))) (σ.set id (rtO (zeG L (zkA l r))))) : zr Tryz.prog zqa [.box id 0, .d (.int .i64 l), .d (.int .i64 r)] σ K := by
 refine acE3 e_r05_Node fun hl => ?_
 have n1 := zF (n := l.toNat) (by omega)
 have n2 := zF (n := r.toNat) (by omega)
 simp only [zvl,iN,bT,bF,eN]
 refine gq1 ?_
 refine c_r5node hl1 hr1 ?_
 refine gq1 ?_
 refine zkZ hT (by simp [zkA]; omega) hL ?_
 refine gq1 ?_
 exact zgQ (by simp) (by simp [zeD,dmT,dm,dm1,zcC]) (hl.setO (zfw _ _)) hK
theorem c_r5RootA : ∀ (f : Nat) {σ : List zh} {id : Nat} {L l : List (List UInt8)},l.length ≤ f → σ[id]? = some (rtO L) → L.length ≤ 1048576 → l.length ≤ 1073741824 → (∀ x ∈ l,x.length ≤ 1073740000) → ∀ {K : KT},
  K (.d (.int .i64 (rootF L l).1)) (σ.set id (rtO (rootF L l).2)) → zr Tryz.prog zev [.box id 0, .d (.slice (zgH l))] σ K := by
 intro f
 induction f with
 | zero =>
  intro σ id L l hf hT hL hn hx K hK
  have : l = [] := List.eq_nil_of_length_eq_zero (by omega)
  subst this
  refine zfJ zmP fun hl => ?_
  simp only [zkh,iN,bT,bF,eN]
  refine gq1 ?_
  refine zkZ (b := [2]) hT (by simp) hL ?_
  refine gq1 ?_
  exact zgQ (by simp) (by simp [zeD,dmT,dm,dm1,zcC]) (hl.setO (zfw _ _)) hK
 | succ f ih =>
  intro σ id L l hf hT hL hn hx K hK
  match l,hf,hn,hx,hK with
  | [],_,_,_,hK =>
   refine zfJ zmP fun hl => ?_
   simp only [zkh,iN,bT,bF,eN]
   refine gq1 ?_
   refine zkZ (b := [2]) hT (by simp) hL ?_
   refine gq1 ?_
   exact zgQ (by simp) (by simp [zeD,dmT,dm,dm1,zcC]) (hl.setO (zfw _ _)) hK
  | [x],_,_,hx,hK =>
   refine zfJ zmP fun hl => ?_
   simp only [zkh,iN,bT,bF,eN]
   refine gq1 ?_
   refine c_r5Leaf (b := x) hT hL (hx x (by simp)) ?_
   refine gq1 ?_
   exact zgQ (by simp) (by simp [zeD,dmT,dm,dm1,zcC]) (hl.setO (zfw _ _)) hK
  | x :: y :: r,hf,hn,hx,hK =>
   obtain ⟨l,hle⟩ : ∃ l,x :: y :: r = l := ⟨_,rfl⟩
   have h2 : 2 ≤ l.length := by rw [← hle]; simp
   rw [hle] at hf hn hx hK ⊢
   clear hle
   have hs := zcK h2
   rw [zrY h2] at hK
   refine zfJ zmP fun hl => ?_
   have hlen : (zgH l).length = l.length := List.length_map ..
   have e0 : ((l.length : Int) == 0) = false := by rw [beq_eq_false_iff_ne]; omega
   have e1 : ((l.length : Int) == 1) = false := by rw [beq_eq_false_iff_ne]; omega
   have htk : List.take (zm l.length) (zgH l) = zgH (l.take (zm l.length)) := by rw [zgH, ← List.map_take]
   have hdr : List.drop (zm l.length) (zgH l) = zgH (l.drop (zm l.length)) := by rw [zgH, ← List.map_drop]
   have htl : List.take l.length (zgH l) = zgH l := List.take_of_length_le (by omega)
   have hone : ∀ e ∈ zgH l,e.length = 1 := zjq (f := fun b => [D.slice (bcs b)]) (fun _ => rfl) l
   have hl1 : (l.take (zm l.length)).length = zm l.length := by rw [List.length_take]; omega
   have hl2 : (l.drop (zm l.length)).length = l.length - zm l.length := List.length_drop
   obtain ⟨g1,g2,g3⟩ := zdS l.length (L := L) (l := l.take (zm l.length)) (by omega) hL
   simp only [zkh,iN,bT,bF,eN]
   refine gq2 (zf hlen (zf e0 e1)) ?_
   refine c_r5Split (by omega) ?_
   refine gq2 (zf hlen htk) ?_
   refine ih (by omega) hT hL (by omega) (fun z hz => hx z (List.mem_of_mem_take hz)) ?_
   obtain ⟨A,hA⟩ : ∃ A,rootF L (l.take (zm l.length)) = A := ⟨_,rfl⟩
   rw [hA] at hK g1 g2 g3 ⊢
   obtain ⟨q1,q2,q3⟩ := zdS l.length (L := A.2) (l := l.drop (zm l.length)) (by omega) g1
   refine gq2 (zf hlen (zf htl hdr)) ?_
   refine ih (by omega) (zbu hT) g1 (by omega) (fun z hz => hx z (List.mem_of_mem_drop hz)) ?_
   obtain ⟨B,hB⟩ : ∃ B,rootF A.2 (l.drop (zm l.length)) = B := ⟨_,rfl⟩
   rw [hB] at hK q1 q2 q3 ⊢
   rw [List.set_set]
   refine gq1 ?_
   refine c_r5Node (zbu hT) q1 (by omega) (by omega) ?_
   rw [List.set_set]
   refine gq1 ?_
   exact zgQ (by simp) (by simp [zeD,dmT,dm,dm1,zcC]) (hl.setO (zfw _ _)) hK
theorem zmU {σ : List zh} {id : Nat} {L l : List (List UInt8)} (hT : σ[id]? = some (rtO L)) (hL : L.length ≤ 1048576) (hn : l.length ≤ 1073741824) (hx : ∀ x ∈ l,x.length ≤ 1073740000) {K : KT}
  (hK : K (.d (.int .i64 (rootF L l).1)) (σ.set id (rtO (rootF L l).2))) : zr Tryz.prog zev [.box id 0, .d (.slice (zgH l))] σ K := c_r5RootA l.length (Nat.le_refl _) hT hL hn hx hK
end Go.Proofs.YtfgbofkdhfjegaaGreat

/- Votes: their bytes, and whether they are signed. No program in sight. -/
namespace Go.AW
abbrev zdB (l : List Int) : List (List D) := l.map fun t => [D.int .i64 t]
def zdj (x : Int) : Bool := decide (0 ≤ x ∧ x ≤ 9007199254740992)
def zqL (a b c d : Int) : Bool := zdj a && (zdj b && (zdj c && zdj d))
def zhE (l : List Int) : List UInt8 := (l.map fun x => zcR x.toNat).flatten
def zfK (a b c d : Int) : List UInt8 := 4 :: zhE [a,b,c,d]
theorem zfb {x : Int} : zdj x = true ↔ 0 ≤ x ∧ x ≤ 9007199254740992 := by simp [zdj]
theorem zmI {l : List Int} {k : Nat} {x : Int} (h : l[k]? = some x) : zhE (l.take (k + 1)) = zhE (l.take k) ++ zcR x.toNat := by
 rw [List.take_add_one,h]; simp [zhE]
theorem zlO {l : List Int} (h : ∀ x ∈ l,x < 9223372036854775808) : (zhE l).length ≤ l.length * 10 := by
 induction l with
 | nil => simp [zhE]
 | cons x l ih =>
  have h1 := h x (by simp)
  have h2 := zF (n := x.toNat) (by omega)
  have h3 := ih fun y hy => h y (by simp [hy])
  simp only [zhE,List.map_cons,List.flatten_cons,List.length_append,List.length_cons] at h3 ⊢
  omega
theorem voteB_len {a b c d : Int} (h : zqL a b c d = true) : (zfK a b c d).length ≤ 50 := by
 simp only [zqL,Bool.and_eq_true,zfb] at h
 have := zlO (l := [a,b,c,d]) (by intro x hx; simp at hx; omega)
 simp only [zfK,List.length_cons,List.length_nil] at this ⊢
 omega
theorem mayV_all (a b c d : Int) : zqL a b c d = [a,b,c,d].all zdj := by simp [zqL]
def znK (L : List (List UInt8)) (G : List zJ) (s : zJ) (key : Int) (b : List UInt8) : Bool := match zdc L b with
 | some i => decide (s.key = key ∧ s.dig = ((i + 1 : Nat) : Int)) && decide (s ∈ G)
 | none => false
def zrL (L : List (List UInt8)) (G : List zJ) (s : zJ) (key a b c d : Int) : Bool := zqL a b c d && znK L G s key (zfK a b c d)
end Go.AW

/- Contracts: the digest to which a proof comes, on both sides. -/
set_option maxRecDepth 100000
namespace Go.Proofs.YtfgbofkdhfjegaaGreat
open Go.AW
theorem znO {L : List (List UInt8)} (hL : L.length ≤ 1048576) (b : List UInt8) : 0 ≤ zjH (zdc L b) ∧ zjH (zdc L b) ≤ 1048577 := by
 cases h : zdc L b with
 | none => simp [zjH]
 | some i =>
  have := (zkP h).1
  simp only [zjH]; omega
theorem zqT : ∀ (f : Nat) {L : List (List UInt8)} (hL : L.length ≤ 1048576) (b : List UInt8) (i n : Nat) (p : List Int),(zfG f L b i n p).1 ≤ 1048577
 | 0,L,hL,b,i,n,p => by simp [zfG]
 | f + 1,L,hL,b,i,n,p => by
  simp only [zfG]
  split
  ·exact (znO hL _).2
  ·split
   ·split
    ·exact (znO hL _).2
    ·simp
   ·split
    ·exact (znO hL _).2
    ·simp
theorem znV {i n : Int} (h : ¬ (i < 0 ∨ i ≥ n)) : zlZ i n = zfB i.toNat n.toNat := if_neg h
theorem verifyF_len {L : List (List UInt8)} {root : Int} {b : List UInt8} {i n : Int} {p : List Int} (h : ¬ (i < 0 ∨ i ≥ n)) (hp : (p.length : Int) = zlZ i n) : zks L root b i n p = ((zfG n.toNat L b i.toNat n.toNat p).2 && ((zfG n.toNat L b i.toNat n.toNat p).1 == root)) := by
 rw [znV h] at hp
 unfold zks
 rw [if_neg (by omega)]
theorem zpK {L : List (List UInt8)} {root : Int} {b : List UInt8} {i n : Int} {p : List Int} (h : (i < 0 ∨ i ≥ n) ∨ (p.length : Int) ≠ zlZ i n) : zks L root b i n p = false := by
 unfold zks
 rw [if_pos]
 by_cases hh : i < 0 ∨ i ≥ n
 ·rcases hh with h | h
  ·exact .inl h
  ·exact .inr (.inl h)
 ·rcases h with h | h
  ·exact absurd h hh
  ·rw [znV hh] at h
   exact .inr (.inr h)
structure UpAt (σ : List zh) (a b u id : Nat) (x : List UInt8) : Prop where
 ta : σ[a]? = some (.box [.box id 0])
 tb : σ[b]? = some (.box [.d (.slice (bcs x))])
 tu : σ[u]? = some (.box [.fn (.func zdq) [] [.box a 0, .box b 0, .box u 0]])
theorem UpAt.app {σ : List zh} {a b u id : Nat} {x : List UInt8} (h : UpAt σ a b u id x) (τ : List zh) : UpAt (σ ++ τ) a b u id x := ⟨zd h.ta,zd h.tb,zd h.tu⟩
theorem c_mkUp : ∀ (f : Nat) {σ : List zh} {a1 b1 u1 id m t : Nat} {L : List (List UInt8)} {b : List UInt8} {i n : Nat} {p : List Int},n ≤ f → 1 ≤ n → i < n → n ≤ 4611686018427387904 → p.length = zfB i n → UpAt σ a1 b1 u1 id b → zdo σ id m t L → L.length ≤ 1048576 → b.length ≤ 1073740000 → (∀ x ∈ p,x ≤ 9223372036854775807) →
  ∀ {K : KT},K (.tup [.d (.int .i64 (zfG f L b i n p).1), .d (.bool (zfG f L b i n p).2)]) σ →
  zr Tryz.prog zdq [.d (.int .i64 i), .d (.int .i64 n), .d (.slice (zdB p)), .box a1 0, .box b1 0, .box u1 0] σ K := by
 intro f
 induction f with
 | zero => intros; omega
 | succ f ih =>
  intro σ a1 b1 u1 id m t L b i n p hf hn hin hn2 hp hU hT hL hb hx K hK
  refine acE6 zqp fun hl => ?_
  have ua := hU.ta; have ub := hU.tb; have uu := hU.tu
  simp only [zkj,iN,bT,bF,eN]
  by_cases h1 : n = 1
  ·subst h1
   simp only [zfG,if_pos] at hK
   refine gq2 (zf ua ub) ?_
   refine c_mkleaf (by omega) ?_
   refine gq2 ua ?_
   refine zoq hT ?_
   refine gq1 ?_
   refine zV hl ?_
   exact hK
  ·have e1 : ((n : Int) == 1) = false := by rw [beq_eq_false_iff_ne]; omega
   have hs := zcK (n := n) (by omega)
   rw [zoQ (by omega)] at hp
   have hpl : (zdB p).length = p.length := List.length_map ..
   obtain ⟨q,last,hq⟩ : ∃ q last,p = q ++ [last] := by
    have hne : p ≠ [] := by intro e; rw [e] at hp; simp at hp
    exact ⟨p.dropLast,p.getLast hne,(List.dropLast_concat_getLast hne).symm⟩
   have hql : p.length = q.length + 1 := by rw [hq]; simp
   have hw1 : IntKind.i64.wrap ((p.length : Int) - 1) = (q.length : Int) := by rw [zU (by omega) (by have := zux i (zm n); have := zux (i - zm n) (n - zm n); split at hp <;> omega)]; omega
   have hgl : (zdB p)[q.length]? = some [D.int .i64 last] := by rw [hq]; simp
   have htk : List.take q.length (zdB p) = zdB q := by rw [hq]; simp
   have hone : ∀ e ∈ zdB p,e.length = 1 := zjq (f := fun t : Int => [D.int .i64 t]) (fun _ => rfl) p
   have hll : last ≤ 9223372036854775807 := hx last (by rw [hq]; simp)
   have hxq : ∀ x ∈ q,x ≤ 9223372036854775807 := fun x hm => hx x (by rw [hq]; simp [hm])
   have hgd : p.getD (p.length - 1) 0 = last := by rw [hql,hq]; simp
   have htq : p.take (p.length - 1) = q := by rw [hql,hq]; simp
   simp only [zfG,if_neg h1,hgd,htq] at hK
   refine gq2 (zf e1 (zf hpl hw1)) ?_
   refine c_mkSplit (by omega) ?_
   by_cases hc : i < zm n
   ·have hd : decide ((i : Int) < ((zm n : Nat) : Int)) = true := by simp; omega
    rw [if_pos hc] at hp hK
    have hr := zqT f hL b i (zm n) q
    refine gq2 (zf hd (zf hpl (zf hw1 (zf htk uu)))) ?_
    refine ih (i := i) (n := zm n) (by omega) (by omega) hc (by omega) (by omega) hU hT hL hb hxq ?_
    obtain ⟨C,hC⟩ : ∃ C,zfG f L b i (zm n) q = C := ⟨_,rfl⟩
    rw [hC] at hK hr ⊢
    cases hb2 : C.2
    ·rw [hb2] at hK
     refine gq1 ?_
     refine zV hl ?_
     exact hK
    ·rw [if_pos hb2] at hK
     refine gq2 (zf ua (zf hgl hw1)) ?_
     refine c_mknode (by omega) hll ?_
     refine gq2 ua ?_
     refine zoq hT ?_
     refine gq1 ?_
     refine zV hl ?_
     exact hK
   ·have hd : decide ((i : Int) < ((zm n : Nat) : Int)) = false := by simp; omega
    have hw2 : IntKind.i64.wrap ((i : Int) - ((zm n : Nat) : Int)) = ((i - zm n : Nat) : Int) := by rw [zU (by omega) (by omega)]; omega
    have hw3 : IntKind.i64.wrap ((n : Int) - ((zm n : Nat) : Int)) = ((n - zm n : Nat) : Int) := by rw [zU (by omega) (by omega)]; omega
    rw [if_neg hc] at hp hK
    have hr := zqT f hL b (i - zm n) (n - zm n) q
    refine gq2 (zf hd (zf hw2 (zf hw3 (zf hpl (zf hw1 (zf htk uu)))))) ?_
    refine ih (i := i - zm n) (n := n - zm n) (by omega) (by omega) (by omega) (by omega) (by omega) hU hT hL hb hxq ?_
    obtain ⟨C,hC⟩ : ∃ C,zfG f L b (i - zm n) (n - zm n) q = C := ⟨_,rfl⟩
    rw [hC] at hK hr ⊢
    cases hb2 : C.2
    ·rw [hb2] at hK
     refine gq1 ?_
     refine zV hl ?_
     exact hK
    ·rw [if_pos hb2] at hK
     refine gq2 (zf ua (zf hgl hw1)) ?_
     refine c_mknode hll (by omega) ?_
     refine gq2 ua ?_
     refine zoq hT ?_
     refine gq1 ?_
     refine zV hl ?_
     exact hK
theorem c_mkVerify {σ : List zh} {id m t : Nat} {L : List (List UInt8)} {root : Int} {b : List UInt8} {i n : Int} {p : List Int} (hn : n ≤ 4611686018427387904) (hT : zdo σ id m t L) (hL : L.length ≤ 1048576) (hb : b.length ≤ 1073740000) (hx : ∀ x ∈ p,x ≤ 9223372036854775807)
  {K : KT} (hK : K (.d (.bool (zks L root b i n p))) σ) :
  zr Tryz.prog zia [.box id 0, .d (.int .i64 root), .d (.slice (bcs b)), .d (.int .i64 i), .d (.int .i64 n), .d (.slice (zdB p))] σ K := by
 refine acE6 zsN fun hl => ?_
 have fin : ∀ z,zks L root b i n p = z → K (.d (.bool z)) σ := fun z h => h ▸ hK
 clear hK
 have hpl : (zdB p).length = p.length := List.length_map ..
 simp only [zmw,iN,bT,bF,eN]
 cases h1 : decide (i < 0)
 rotate_left
 ·refine gq2 h1 ?_
  refine zV hl ?_
  exact fin _ (zpK (.inl (.inl (by simpa using h1))))
 cases h2 : decide (i ≥ n)
 rotate_left
 ·refine gq2 (zf h1 h2) ?_
  refine zV hl ?_
  exact fin _ (zpK (.inl (.inr (by simpa using h2))))
 refine gq2 (zf h1 (zf h2 hpl)) ?_
 refine c_mkLength hn ?_
 simp only [decide_eq_false_iff_not] at h1 h2
 have hh : ¬ (i < 0 ∨ i ≥ n) := by omega
 cases h3 : ((p.length : Int) != zlZ i n)
 rotate_left
 ·refine gq2 h3 ?_
  refine zV hl ?_
  exact fin _ (zpK (.inr (by simpa using h3)))
 have h3' : (p.length : Int) = zlZ i n := by simpa using h3
 have h4 := verifyF_len (L := L) (root := root) (b := b) hh h3'
 rw [znV hh] at h3'
 have ei : (i.toNat : Int) = i := by omega
 have en : (n.toNat : Int) = n := by omega
 have hU : UpAt (σ ++ [.box [.box id 0], .box [.d (.slice (bcs b))], .box [.fn (.func zdq) [] [.box σ.length 0, .box (σ.length + 1) 0, .box (σ.length + 2) 0]]]) σ.length (σ.length + 1) (σ.length + 2) id b := ⟨by rw [zy]; rfl,by rw [zx]; rfl,by rw [zx]; rfl⟩
 have hc := fun (K : KT) => c_mkUp n.toNat (i := i.toNat) (n := n.toNat) (p := p) (Nat.le_refl _) (by omega) (by omega) (by omega) (by omega) hU (hT.app _) hL hb hx (K := K)
 rw [ei,en] at hc
 refine gq2 h3 ?_
 refine hc _ ?_
 obtain ⟨C,hC⟩ : ∃ C,zfG n.toNat L b i.toNat n.toNat p = C := ⟨_,rfl⟩
 rw [hC] at h4 ⊢
 cases hb2 : C.2
 ·refine gq1 ?_
  refine zV hl ?_
  exact fin _ (by rw [h4,hb2]; rfl)
 ·refine gq1 ?_
  refine zV hl ?_
  exact fin _ (by rw [h4,hb2]; rfl)
end Go.Proofs.YtfgbofkdhfjegaaGreat

/- Contracts: the digest of leaves, on both sides. -/
import Derived.Test.YthpnelbciibjeaaGreatMk1
import Derived.Test.YthpnelbciibjeaaGreatRq2
import Derived.Test.YthpnelbciibjeaaGreatSpTab
import Derived.Test.YthpnelbciibjeaaGreatSpUtf
import Derived.Test.YthpnelbciibjeaaGreatId2
import Derived.Test.YthpnelbciibjeaaGreatCl1
set_option linter.all false
set_option maxRecDepth 100000
set_option linter.unusedSimpArgs false
set_option linter.unusedVariables false
namespace Go.Proofs.YthpnelbciibjeaaGreat
open Go.AW

theorem zpa {L : List (List UInt8)} (h : L.length ≤ 1048576) (b : List UInt8) : (zee L b).length ≤ 1048576 := by
  unfold zee
  split
  · exact h
  · split
    · exact h
    · simp; omega
theorem zkR {L : List (List UInt8)} (h : L.length ≤ 1048576) (b : List UInt8) : 0 ≤ zex L b ∧ zex L b ≤ 1048577 := by
  unfold zex
  split
  · rename_i i hi
    have := (ziI hi).1
    omega
  · split
    · omega
    · omega
theorem zeD : ∀ (f : Nat) {L l : List (List UInt8)}, l.length ≤ f → L.length ≤ 1048576 → (rootF L l).2.length ≤ 1048576 ∧ 0 ≤ (rootF L l).1 ∧ (rootF L l).1 ≤ 1048577
  | _, L, [], _, h => ⟨zpa h _, zkR h _⟩
  | _, L, [x], _, h => ⟨zpa h _, zkR h _⟩
  | 0, L, x :: y :: r, hf, h => by simp at hf
  | f + 1, L, x :: y :: r, hf, h => by
    have hs := zgq (n := (x :: y :: r).length) (by simp)
    rw [zmD (by simp)]
    have h1 := (zeD f (L := L) (l := (x :: y :: r).take (zS (x :: y :: r).length)) (by rw [List.length_take]; omega) h).1
    have h2 := (zeD f (L := (rootF L ((x :: y :: r).take (zS (x :: y :: r).length))).2) (l := (x :: y :: r).drop (zS (x :: y :: r).length)) (by rw [List.length_drop]; omega) h1).1
    exact ⟨zpa h2 _, zkR h2 _⟩
theorem zkT {σ : List zc} {id m t : Nat} {L : List (List UInt8)} (hT : zbC σ id m t L) (L1 L2 : List (List UInt8)) : putTab (putTab σ id m t L1) id m t L2 = putTab σ id m t L2 := by
  obtain ⟨n1, n2, n3⟩ := hT.ne
  unfold putTab
  apply List.ext_getElem?
  intro i
  simp only [List.getElem?_set, List.length_set]
  by_cases h1 : m = i
  · simp [h1]
  · by_cases h2 : id = i
    · simp [h1, h2]
    · by_cases h3 : t = i
      · simp [h1, h2, h3]
      · simp [h1, h2, h3]
theorem c_mkLeaf {σ : List zc} {id m t : Nat} {L : List (List UInt8)} {b : List UInt8} (hT : zbC σ id m t L) (hL : L.length ≤ 1048576) (hb : b.length ≤ 1073740000) {K : AV → List zc → Prop}
    (hK : K (.d (.int .i64 (zex L (zlW b)))) (putTab σ id m t (zee L (zlW b)))) : zt Tryz.prog zgX [.box id 0, .d (.slice (bcs b))] σ K := by
  refine zlO zpE fun hl => ?_
  simp only [zkD, iN, bT, bF, eN]
  refine gq1 ?_
  refine c_mkleaf (by omega) ?_
  refine gq1 ?_
  refine zlL hT (by simp [zlW]; omega) hL ?_
  refine gq1 ?_
  exact zdV (zaR ..) (by simp [zgo, dmT, dm, dm1, zcE]) (hT.lows hl _) hK
theorem c_mkNode {σ : List zc} {id m t : Nat} {L : List (List UInt8)} {l r : Int} (hT : zbC σ id m t L) (hL : L.length ≤ 1048576) (hl1 : l ≤ 9223372036854775807) (hr1 : r ≤ 9223372036854775807) {K : AV → List zc → Prop}
    (hK : K (.d (.int .i64 (zex L (zjZ l r)))) (putTab σ id m t (zee L (zjZ l r)))) : zt Tryz.prog zgW [.box id 0, .d (.int .i64 l), .d (.int .i64 r)] σ K := by
  refine acE3 zpD fun hl => ?_
  have n1 := zo (n := l.toNat) (by omega)
  have n2 := zo (n := r.toNat) (by omega)
  simp only [zkC, iN, bT, bF, eN]
  refine gq1 ?_
  refine c_mknode hl1 hr1 ?_
  refine gq1 ?_
  refine zlL hT (by simp [zjZ]; omega) hL ?_
  refine gq1 ?_
  exact zdV (zaR ..) (by simp [zgo, dmT, dm, dm1, zcE]) (hT.lows hl _) hK
theorem c_mkRootA : ∀ (f : Nat) {σ : List zc} {id m t : Nat} {L l : List (List UInt8)}, l.length ≤ f → zbC σ id m t L → L.length ≤ 1048576 → l.length ≤ 1073741824 → (∀ x ∈ l, x.length ≤ 1073740000) → ∀ {K : AV → List zc → Prop},
    K (.d (.int .i64 (rootF L l).1)) (putTab σ id m t (rootF L l).2) → zt Tryz.prog zcm [.box id 0, .d (.slice (zkL l))] σ K := by
  intro f
  induction f with
  | zero =>
    intro σ id m t L l hf hT hL hn hx K hK
    have : l = [] := List.eq_nil_of_length_eq_zero (by omega)
    subst this
    refine zlO zfp fun hl => ?_
    simp only [zed, iN, bT, bF, eN]
    refine gq1 ?_
    refine zlL (b := [2]) hT (by simp) hL ?_
    refine gq1 ?_
    exact zdV (zaR ..) (by simp [zgo, dmT, dm, dm1, zcE]) (hT.lows hl _) hK
  | succ f ih =>
    intro σ id m t L l hf hT hL hn hx K hK
    match l, hf, hn, hx, hK with
    | [], _, _, _, hK =>
      refine zlO zfp fun hl => ?_
      simp only [zed, iN, bT, bF, eN]
      refine gq1 ?_
      refine zlL (b := [2]) hT (by simp) hL ?_
      refine gq1 ?_
      exact zdV (zaR ..) (by simp [zgo, dmT, dm, dm1, zcE]) (hT.lows hl _) hK
    | [x], _, _, hx, hK =>
      refine zlO zfp fun hl => ?_
      simp only [zed, iN, bT, bF, eN]
      refine gq1 ?_
      refine c_mkLeaf (b := x) hT hL (hx x (by simp)) ?_
      refine gq1 ?_
      exact zdV (zaR ..) (by simp [zgo, dmT, dm, dm1, zcE]) (hT.lows hl _) hK
    | x :: y :: r, hf, hn, hx, hK =>
      obtain ⟨l, hle⟩ : ∃ l, x :: y :: r = l := ⟨_, rfl⟩
      have h2 : 2 ≤ l.length := by rw [← hle]; simp
      rw [hle] at hf hn hx hK ⊢
      clear hle
      have hs := zgq h2
      rw [zmD h2] at hK
      refine zlO zfp fun hl => ?_
      have hlen : (zkL l).length = l.length := List.length_map ..
      have e0 : ((l.length : Int) == 0) = false := by rw [beq_eq_false_iff_ne]; omega
      have e1 : ((l.length : Int) == 1) = false := by rw [beq_eq_false_iff_ne]; omega
      have htk : List.take (zS l.length) (zkL l) = zkL (l.take (zS l.length)) := by rw [zkL, ← List.map_take]
      have hdr : List.drop (zS l.length) (zkL l) = zkL (l.drop (zS l.length)) := by rw [zkL, ← List.map_drop]
      have htl : List.take l.length (zkL l) = zkL l := List.take_of_length_le (by omega)
      have hone : ∀ e ∈ zkL l, e.length = 1 := one_len (f := fun b => [D.slice (bcs b)]) (fun _ => rfl) l
      have hl1 : (l.take (zS l.length)).length = zS l.length := by rw [List.length_take]; omega
      have hl2 : (l.drop (zS l.length)).length = l.length - zS l.length := List.length_drop
      obtain ⟨g1, g2, g3⟩ := zeD l.length (L := L) (l := l.take (zS l.length)) (by omega) hL
      simp only [zed, iN, bT, bF, eN]
      refine gq2 (zi hlen (zi e0 e1)) ?_
      refine c_mkSplit (by omega) ?_
      refine gq2 (zi hlen htk) ?_
      refine ih (by omega) hT hL (by omega) (fun z hz => hx z (List.mem_of_mem_take hz)) ?_
      obtain ⟨A, hA⟩ : ∃ A, rootF L (l.take (zS l.length)) = A := ⟨_, rfl⟩
      rw [hA] at hK g1 g2 g3 ⊢
      obtain ⟨q1, q2, q3⟩ := zeD l.length (L := A.2) (l := l.drop (zS l.length)) (by omega) g1
      refine gq2 (zi hlen (zi htl hdr)) ?_
      refine ih (by omega) (hT.put A.2) g1 (by omega) (fun z hz => hx z (List.mem_of_mem_drop hz)) ?_
      obtain ⟨B, hB⟩ : ∃ B, rootF A.2 (l.drop (zS l.length)) = B := ⟨_, rfl⟩
      rw [hB] at hK q1 q2 q3 ⊢
      rw [zkT hT]
      refine gq1 ?_
      refine c_mkNode (hT.put B.2) q1 (by omega) (by omega) ?_
      rw [zkT hT]
      refine gq1 ?_
      exact zdV (zaR ..) (by simp [zgo, dmT, dm, dm1, zcE]) (hT.lows hl _) hK
theorem c_mkRoot {σ : List zc} {id m t : Nat} {L l : List (List UInt8)} (hT : zbC σ id m t L) (hL : L.length ≤ 1048576) (hn : l.length ≤ 1073741824) (hx : ∀ x ∈ l, x.length ≤ 1073740000) {K : AV → List zc → Prop}
    (hK : K (.d (.int .i64 (rootF L l).1)) (putTab σ id m t (rootF L l).2)) : zt Tryz.prog zcm [.box id 0, .d (.slice (zkL l))] σ K := c_mkRootA l.length (Nat.le_refl _) hT hL hn hx hK
end Go.Proofs.YthpnelbciibjeaaGreat

/- Votes: their bytes, and whether they are signed. No program in sight. -/
set_option linter.unusedSimpArgs false
set_option linter.unusedVariables false
namespace Go.AW

def zhO (x : Int) : Bool := decide (0 ≤ x ∧ x ≤ 9007199254740992)
def zkV (l : List Int) : List UInt8 := (l.map fun x => zbG x.toNat).flatten
def voteB (a b c d : Int) : List UInt8 := 4 :: zkV [a, b, c, d]
theorem zeG {x : Int} : zhO x = true ↔ 0 ≤ x ∧ x ≤ 9007199254740992 := by simp [zhO]
theorem numsB_snoc {l : List Int} {k : Nat} {x : Int} (h : l[k]? = some x) : zkV (l.take (k + 1)) = zkV (l.take k) ++ zbG x.toNat := by
  rw [List.take_add_one, h]; simp [zkV]
theorem numsB_len {l : List Int} (h : ∀ x ∈ l, x < 9223372036854775808) : (zkV l).length ≤ l.length * 10 := by
  induction l with
  | nil => simp [zkV]
  | cons x l ih =>
    have h1 := h x (by simp)
    have h2 := zo (n := x.toNat) (by omega)
    have h3 := ih fun y hy => h y (by simp [hy])
    simp only [zkV, List.map_cons, List.flatten_cons, List.length_append, List.length_cons] at h3 ⊢
    omega
end Go.AW

/- Contracts: the digest to which a proof comes, on both sides. -/
set_option maxRecDepth 100000
set_option linter.unusedSimpArgs false
set_option linter.unusedVariables false
namespace Go.Proofs.YthpnelbciibjeaaGreat
open Go.AW



theorem zbT {σ : List zc} {id m t j : Nat} (L : List (List UInt8)) (h1 : j ≠ id) (h2 : j ≠ m) (h3 : j ≠ t) : (putTab σ id m t L)[j]? = σ[j]? := by
  unfold putTab
  rw [List.getElem?_set_ne (fun e => h2 e.symm), List.getElem?_set_ne (fun e => h1 e.symm), List.getElem?_set_ne (fun e => h3 e.symm)]

end Go.Proofs.YthpnelbciibjeaaGreat

/- Headers, and records at their places: their bytes; chains. No program in sight. -/
set_option linter.unusedSimpArgs false
set_option linter.unusedVariables false
namespace Go.AW

structure zbZ where
  seq : Int
  prev : Int
  batch : Int
  root : Int
  state : Int
deriving DecidableEq
def zjM (h : zbZ) : List Int := [h.seq, h.prev, h.batch, h.root, h.state]
abbrev hdrD (h : zbZ) : List D := [.int .i64 h.seq, .int .i64 h.prev, .int .i64 h.batch, .int .i64 h.root, .int .i64 h.state]
abbrev hdrA (h : zbZ) : AV := .agg [.d (.int .i64 h.seq), .d (.int .i64 h.prev), .d (.int .i64 h.batch), .d (.int .i64 h.root), .d (.int .i64 h.state)]
abbrev zpu (l : List zbZ) : List (List D) := l.map hdrD
def zgl (h : zbZ) : Bool := (zjM h).all zhO
def zaQ (h : zbZ) : Int := if zgl h = true then 0 else 90
def zlX (h : zbZ) : List UInt8 := 3 :: zkV (zjM h)
def hdrBF (h : zbZ) : List UInt8 := if zaQ h = 0 then zlX h else []
theorem zdt {h : zbZ} : zaQ h = 0 ↔ zgl h = true := by
  unfold zaQ; split <;> simp_all
theorem zeI {h : zbZ} (hk : zgl h = true) : ∀ x ∈ zjM h, 0 ≤ x ∧ x ≤ 9007199254740992 := fun x hx => zeG.1 (List.all_eq_true.1 hk x hx)
theorem zpv {h : zbZ} (hk : zgl h = true) : (zlX h).length ≤ 51 := by
  have := numsB_len (l := zjM h) fun x hx => by have := zeI hk x hx; omega
  simp only [zlX, zjM, List.length_cons, List.length_nil] at this ⊢
  omega
def linkF (L : List (List UInt8)) : Option zbZ → zbZ → Bool
  | none, _ => true
  | some q, h => match zgk L (zlX q) with
    | some i => (h.prev == ((i + 1 : Nat) : Int)) && (h.seq == q.seq + 1)
    | none => false
def znr (L : List (List UInt8)) : Option zbZ → List zbZ → Bool
  | _, [] => true
  | p, h :: r => zgl h && (linkF L p h && znr L (some h) r)
def zoJ (L : List (List UInt8)) (l : List zbZ) : Bool := znr L none l
structure zcs where
  topic : List UInt8
  offset : Int
  rec_ : List UInt8
abbrev placedD (p : zcs) : List D := [.str p.topic, .int .i64 p.offset, .slice (bcs p.rec_)]
abbrev zdm (l : List zcs) : List (List D) := l.map placedD
def zaH (p : zcs) : List UInt8 := ziU p.topic ++ (zbG p.offset.toNat ++ ziU p.rec_)
theorem chain_drop {L : List (List UInt8)} {p : Option zbZ} {l : List zbZ} {k : Nat} {h : zbZ} (hx : l[k]? = some h) : znr L p (l.drop k) = (zgl h && (linkF L p h && znr L (some h) (l.drop (k + 1)))) := by
  have hk : k < l.length := (List.getElem?_eq_some_iff.1 hx).1
  rw [List.drop_eq_getElem_cons hk, (List.getElem?_eq_some_iff.1 hx).2]
  rfl
end Go.AW

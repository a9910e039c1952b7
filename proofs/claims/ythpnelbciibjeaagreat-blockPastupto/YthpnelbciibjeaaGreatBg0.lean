/- Batches are sealed one after the other; what tables and ledgers hold. -/
import Derived.Test.YthpnelbciibjeaaGreatSpChk
import Derived.Test.YthpnelbciibjeaaGreatSpBulk
import Derived.Test.YthpnelbciibjeaaGreatCl1
import Derived.Test.YthpnelbciibjeaaGreatMk2
import Derived.Test.YthpnelbciibjeaaGreatTp1
import Derived.Test.YthpnelbciibjeaaGreatSpUtf
set_option linter.all false
set_option maxRecDepth 100000
set_option linter.unusedSimpArgs false
set_option linter.unusedVariables false
namespace Go.Proofs.YthpnelbciibjeaaGreat
open Go.AW

structure SeI (n m : Nat) (s : List (List UInt8) × List zcb × List zf) : Prop where
  tab : zhJ s.1
  led : s.2.1.length ≤ n
  sz : ∀ x ∈ s.2.2, zfc x.op ≤ 20971520
  len : s.2.2.length ≤ m
theorem tab_dig {L : List (List UInt8)} (h : zhJ L) {l : List zf} (hx : ∀ s ∈ l, zfc s.op ≤ 20971520) : zhJ (zdF L l) := by
  unfold zdF
  split
  · exact h
  · rename_i hc
    have := zgn hx
    rw [zda, if_pos (by simpa using hc)] at this
    exact h.sum (by omega)
theorem sum_take {l : List (List UInt8)} {k : Nat} {x : List UInt8} (hn : l.Nodup) (hl0 : l.length ≤ 1048576) (hx : l[k]? = some x) : zee (l.take k) x = l.take (k + 1) := by
  have hk := (List.getElem?_eq_some_iff.1 hx).1
  have hnot : x ∉ l.take k := fun hm => by
    obtain ⟨i, hi, he⟩ := List.mem_take_iff_getElem.1 hm
    have := (List.getElem_inj hn).1 (he.trans (List.getElem?_eq_some_iff.1 hx).2.symm)
    omega
  have hno := zou hnot
  have h1 : (l.take k).length = k := by rw [List.length_take]; omega
  rw [zee, hno]
  simp only [h1]
  rw [if_neg (by omega), List.take_add_one, hx]; rfl
structure LedI (G : List zcb) : Prop where
  nd : G.Nodup
  ok : ∀ g ∈ G, signF g.key g.dig = 0
theorem LedI.sign {G : List zcb} (h : LedI G) (k d : Int) : LedI (signG G k d) := by
  unfold signG
  split
  · rename_i hs
    unfold signL
    split
    · exact h
    · rename_i hn
      refine ⟨?_, fun g hg => ?_⟩
      · rw [List.nodup_append]
        refine ⟨h.nd, by simp, fun a ha b hb e => ?_⟩
        simp only [List.mem_singleton] at hb
        subst e hb
        exact hn ha
      · rcases List.mem_append.1 hg with hg | hg
        · exact h.ok g hg
        · simp only [List.mem_singleton] at hg
          subst hg; exact hs
  · exact h
end Go.Proofs.YthpnelbciibjeaaGreat

/- Sets of brokers as numbers. No program in sight. -/
set_option linter.unusedSimpArgs false
set_option linter.unusedVariables false
namespace Go.AW

end Go.AW

/- Contracts: sets of brokers, the document's, to the last bit. -/
set_option maxRecDepth 100000
set_option linter.unusedSimpArgs false
set_option linter.unusedVariables false
namespace Go.Proofs.YthpnelbciibjeaaGreat
open Go.AW


theorem nodeB_len {a b : Int} (ha : a ≤ 1048577) (hb : b ≤ 1048577) : (zjZ a b).length ≤ 1073741824 := by
  have h1 := zo (n := a.toNat) (by omega)
  have h2 := zo (n := b.toNat) (by omega)
  simp only [zjZ, List.length_cons, List.length_append]; omega
theorem rootF_tab : ∀ (f : Nat) {L l : List (List UInt8)}, l.length ≤ f → zhJ L → (∀ x ∈ l, x.length ≤ 1073741800) → zhJ (rootF L l).2 := by
  intro f
  induction f with
  | zero =>
    intro L l hf hL _
    have : l = [] := List.eq_nil_of_length_eq_zero (by omega)
    subst this
    exact hL.sum (by simp)
  | succ f ih =>
    intro L l hf hL hx
    match l, hf, hx with
    | [], _, _ => exact hL.sum (by simp)
    | [x], _, hx => exact hL.sum (by have := hx x (by simp); simp [zlW]; omega)
    | x :: y :: r, hf, hx =>
      obtain ⟨l, hl⟩ : ∃ l, x :: y :: r = l := ⟨_, rfl⟩
      have h2 : 2 ≤ l.length := by rw [← hl]; simp
      rw [hl] at hf hx ⊢
      have hs := zgq h2
      have h1 := ih (L := L) (l := l.take (zS l.length)) (by rw [List.length_take]; omega) hL fun x h => hx x (List.mem_of_mem_take h)
      have h3 := ih (L := (rootF L (l.take (zS l.length))).2) (l := l.drop (zS l.length)) (by rw [List.length_drop]; omega) h1 fun x h => hx x (List.mem_of_mem_drop h)
      rw [zmD h2]
      refine h3.sum (nodeB_len ?_ ?_)
      · exact (zeD _ (Nat.le_refl _) hL.len).2.2
      · exact (zeD _ (Nat.le_refl _) h1.len).2.2
theorem tab_hdig {L : List (List UInt8)} (h : zhJ L) (x : zbZ) : zhJ (zdh L x) := by
  unfold zdh
  split
  · exact h
  · rename_i hc
    have := zpv (zdt.1 (show zaQ x = 0 by simpa using hc))
    exact h.sum (by omega)
theorem pl_small {p : zcs} (h : PlI p) : zmA p := ⟨⟨by have := h.1; omega, by have := h.2.1; omega⟩, by have := h.2.2.1; omega, by have := h.2.2.2; omega⟩
theorem PlI_len {p : zcs} (h : PlI p) : (zaH p).length ≤ 1073741800 := by have := placedB_len' h; omega
theorem execI {L : List (List UInt8)} {T : zad} {h : zbZ} {b : List zf} (hL : zhJ L) (hT : zcD T) (hA : zgO T.last) (h8 : T.last.length = 8) (hx : ∀ s ∈ b, zfc s.op ≤ 20971520) :
    zhJ (zha L T h b).L ∧ zcD (zha L T h b).T ∧ zgO (zha L T h b).T.last ∧ (zha L T h b).T.last.length = 8 ∧ ((zha L T h b).e = 0 → smallBk ⟨(zha L T h b).h, b, (zha L T h b).p⟩) := by
  have t1 := tab_dig hL hx
  have t2 := tab_hdig t1 h
  have hall : ∀ (b : List zf) {T : zad}, T.last.length = 8 → (zm T b).2.last.length = 8 := fun b => by
    induction b with
    | nil => intro T h; exact h
    | cons x b ih => intro T h; exact ih (by rw [znB]; exact h)
  unfold zha
  split
  · rename_i c0; exact ⟨hL, hT, hA, h8, fun e => absurd e c0⟩
  rename_i c0
  split
  · exact ⟨hL, hT, hA, h8, fun e => by simp at e⟩
  split
  · rename_i c2; exact ⟨t1, hT, hA, h8, fun e => absurd e c2⟩
  rename_i c2
  split
  · rename_i c3; exact ⟨t2, hT, hA, h8, fun e => absurd e c3⟩
  have p1 := zie b hT
  have p2 := zkv b hT
  have p3 := zku b hT hA
  have t3 := rootF_tab _ (L := zdh (zdF L b) h) (l := (zm T b).1.map zaH) (Nat.le_refl _) t2 fun x hx => by
    obtain ⟨p, hp, rfl⟩ := List.mem_map.1 hx
    exact PlI_len (p1.1 p hp)
  have p4 := zmt p2 p3 (hall b h8)
  have t4 := t3.sum (b := zbq (zm T b).2) (by omega)
  simp only
  split
  · exact ⟨t4, p2, p3, hall b h8, fun e => by simp at e⟩
  · refine ⟨t4, p2, p3, hall b h8, fun _ => ⟨?_, ?_, fun p hp => pl_small (p1.1 p hp)⟩⟩
    · have := zeI (zdt.1 (show zaQ h = 0 by simpa using c0)) h.seq (by simp [zjM])
      constructor <;> simp only <;> omega
    · have := zpL (L := L) (l := b) (by simpa using c2)
      have := p1.2
      simp only; omega

structure TStage where
  L : List (List UInt8)
  G : List zcb
  h : zbZ
  T : zad
  bs : List zig
  cs : List TCert
def st0 : TStage := ⟨(zmg []).2.2, [], (zmg []).1, zbb, [], []⟩
structure StI (N m : Nat) (s : TStage) : Prop where
  tab : zhJ s.L
  led : s.G.length ≤ N
  ledI : LedI s.G
  tops : zcD s.T
  last : zgO s.T.last
  last8 : s.T.last.length = 8
  bs : ∀ b ∈ s.bs, smallBk b
  bl : s.bs.length ≤ m
  cs : ∀ c ∈ s.cs, c.signs.length ≤ 13
  cl : s.cs.length ≤ m
structure VoI (N m : Nat) (s : List (List UInt8) × List zcb × List zcb) : Prop where
  tab : zhJ s.1
  led : s.2.1.length ≤ N
  ledI : LedI s.2.1
  len : s.2.2.length ≤ m
theorem zgO.none : zgO zbb.last := fun a ha => by
  have := List.eq_of_mem_replicate ha
  subst this
  simp
end Go.Proofs.YthpnelbciibjeaaGreat

/- Numbers of what a table knows; trees in a table: what a proof shows, and that a made proof shows it. No program in sight. -/
set_option linter.unusedSimpArgs false
set_option linter.unusedVariables false
namespace Go.AW

def zeq (L : List (List UInt8)) (b : List UInt8) (d : Int) : Prop := ∃ i, zgk L b = some i ∧ d = ((i + 1 : Nat) : Int)
theorem zeq.pre {L L' : List (List UInt8)} {b : List UInt8} {d : Int} (h : zeq L b d) (hp : L <+: L') : zeq L' b d := by
  obtain ⟨i, h1, h2⟩ := h
  obtain ⟨m, rfl⟩ := hp
  exact ⟨i, look_more h1, h2⟩
theorem zeq.pos {L : List (List UInt8)} {b : List UInt8} {d : Int} (h : zeq L b d) : 1 ≤ d ∧ d ≤ L.length := by
  obtain ⟨i, h1, h2⟩ := h
  have := (ziI h1).1
  omega
theorem zeq.inj {L : List (List UInt8)} {a b : List UInt8} {d : Int} (ha : zeq L a d) (hb : zeq L b d) : a = b := by
  obtain ⟨i, h1, h2⟩ := ha
  obtain ⟨j, h3, h4⟩ := hb
  have : i = j := by omega
  subst this
  have := (ziI h1).2
  rw [(ziI h3).2] at this
  exact (Option.some.inj this).symm
theorem zeq.one {L : List (List UInt8)} {b : List UInt8} {d e : Int} (ha : zeq L b d) (hb : zeq L b e) : d = e := by
  obtain ⟨i, h1, h2⟩ := ha
  obtain ⟨j, h3, h4⟩ := hb
  rw [h1] at h3
  cases h3
  omega
theorem zjR {L : List (List UInt8)} {b : List UInt8} (h : L.length < 1048576) : zex L b ≠ 0 := by
  unfold zex
  split
  · omega
  · rw [if_neg (by omega)]; omega
theorem zlw {L : List (List UInt8)} {b : List UInt8} (h : zex L b ≠ 0) : zeq (zee L b) b (zex L b) := by
  unfold zex zee at *
  split at h
  · rename_i i hi
    exact ⟨i, hi, rfl⟩
  · rename_i hn
    split at h
    · exact absurd rfl h
    · rename_i hl
      rw [if_neg hl, if_neg hl]
      exact ⟨L.length, look_new L b hn, by omega⟩
theorem zeq.sum {L : List (List UInt8)} {b : List UInt8} {d : Int} (h : zeq L b d) : zex L b = d ∧ zee L b = L := by
  obtain ⟨i, h1, h2⟩ := h
  unfold zex zee
  rw [h1]
  exact ⟨by simp only; omega, rfl⟩
theorem zgQ (L : List (List UInt8)) (b : List UInt8) : (zee L b).length ≤ L.length + 1 := by
  unfold zee
  repeat' split
  all_goals simp
theorem zdL (L : List (List UInt8)) (b : List UInt8) : L <+: zee L b := by
  unfold zee
  split
  · exact List.prefix_refl L
  · split
    · exact List.prefix_refl L
    · exact List.prefix_append ..
inductive zen (L : List (List UInt8)) : List (List UInt8) → Int → Prop
  | nil (d : Int) : zeq L [2] d → zen L [] d
  | one (x : List UInt8) (d : Int) : zeq L (zlW x) d → zen L [x] d
  | two (l : List (List UInt8)) (a b d : Int) : 2 ≤ l.length → zen L (l.take (zS l.length)) a → zen L (l.drop (zS l.length)) b → zeq L (zjZ a b) d → zen L l d
theorem zen.pre {L L' : List (List UInt8)} {l : List (List UInt8)} {d : Int} (h : zen L l d) (hp : L <+: L') : zen L' l d := by
  induction h with
  | nil d h => exact .nil d (h.pre hp)
  | one x d h => exact .one x d (h.pre hp)
  | two l a b d h2 _ _ hn ih1 ih2 => exact .two l a b d h2 ih1 ih2 (hn.pre hp)
theorem zen.num {L l : List (List UInt8)} {d : Int} (h : zen L l d) : 1 ≤ d ∧ d ≤ L.length := by
  cases h with
  | nil _ h => exact h.pos
  | one _ _ h => exact h.pos
  | two _ _ _ _ _ _ _ h => exact h.pos
theorem zen.rootF {L l : List (List UInt8)} {d : Int} (h : zen L l d) : rootF L l = (d, L) := by
  induction h with
  | nil d h => rw [rootF_0, h.sum.1, h.sum.2]
  | one x d h => rw [rootF_1, h.sum.1, h.sum.2]
  | two l a b d h2 _ _ hn ih1 ih2 => rw [zmD h2, ih1]; simp only; rw [ih2]; simp only; rw [hn.sum.1, hn.sum.2]
theorem root_at : ∀ (f : Nat) {L l : List (List UInt8)}, l.length ≤ f → L.length + 2 * l.length + 1 ≤ 1048576 → zen (Go.AW.rootF L l).2 l (Go.AW.rootF L l).1 ∧ L <+: (Go.AW.rootF L l).2 ∧ (Go.AW.rootF L l).2.length ≤ L.length + 2 * l.length + 1 ∧ (1 ≤ l.length → (Go.AW.rootF L l).2.length + 1 ≤ L.length + 2 * l.length) := by
  intro f
  induction f with
  | zero =>
    intro L l hf hL
    have : l = [] := List.eq_nil_of_length_eq_zero (by omega)
    subst this
    rw [rootF_0]
    exact ⟨.nil _ (zlw (zjR (by omega))), zdL .., by have := zgQ L [2]; simp only; omega, fun h => by simp at h⟩
  | succ f ih =>
    intro L l hf hL
    match l, hf, hL with
    | [], _, hL =>
      rw [rootF_0]
      exact ⟨.nil _ (zlw (zjR (by omega))), zdL .., by have := zgQ L [2]; simp only; omega, fun h => by simp at h⟩
    | [x], _, hL =>
      rw [rootF_1]
      simp only [List.length_cons, List.length_nil] at hL ⊢
      exact ⟨.one x _ (zlw (zjR (by omega))), zdL .., by have := zgQ L (zlW x); omega, fun _ => by have := zgQ L (zlW x); omega⟩
    | x :: y :: r, hf, hL =>
      obtain ⟨l, hl⟩ : ∃ l, x :: y :: r = l := ⟨_, rfl⟩
      have h2 : 2 ≤ l.length := by rw [← hl]; simp
      rw [hl] at hf hL ⊢
      have hs := zgq h2
      have e1 : (l.take (zS l.length)).length = zS l.length := by rw [List.length_take]; omega
      have e2 : (l.drop (zS l.length)).length = l.length - zS l.length := List.length_drop
      obtain ⟨a1, a2, a3, a4⟩ := ih (L := L) (l := l.take (zS l.length)) (by omega) (by omega)
      have a4 := a4 (by omega)
      obtain ⟨b1, b2, b3, b4⟩ := ih (L := (Go.AW.rootF L (l.take (zS l.length))).2) (l := l.drop (zS l.length)) (by omega) (by omega)
      have b4 := b4 (by omega)
      rw [zmD h2]
      have hn := zgQ (Go.AW.rootF (Go.AW.rootF L (l.take (zS l.length))).2 (l.drop (zS l.length))).2 (zjZ (Go.AW.rootF L (l.take (zS l.length))).1 (Go.AW.rootF (Go.AW.rootF L (l.take (zS l.length))).2 (l.drop (zS l.length))).1)
      refine ⟨?_, (a2.trans b2).trans (zdL ..), by simp only; omega, fun _ => by simp only; omega⟩
      exact .two l _ _ _ h2 (a1.pre (b2.trans (zdL ..))) (b1.pre (zdL ..)) (zlw (zjR (by omega)))
end Go.AW

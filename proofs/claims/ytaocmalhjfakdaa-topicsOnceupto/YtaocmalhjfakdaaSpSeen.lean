/- What was seen of a map that is ranged over: no program in sight. -/
import Derived.Test.YtaocmalhjfakdaaSpPrg
set_option linter.all false
set_option linter.unusedSimpArgs false
set_option linter.unusedVariables false
namespace Go.AW

theorem nodup_le : ∀ {l m : List Nat}, l.Nodup → (∀ x ∈ l, x ∈ m) → l.length ≤ m.length
  | [], m, _, _ => by simp
  | a :: r, m, hn, hs => by
    have ha := hs a List.mem_cons_self
    obtain ⟨h1, h2⟩ := List.nodup_cons.1 hn
    have := nodup_le (l := r) (m := m.erase a) h2 fun x hx => (List.mem_erase_of_ne (a := x) (b := a) (fun e => h1 (by rw [← e]; exact hx))).2 (hs x (List.mem_cons_of_mem _ hx))
    rw [List.length_erase_of_mem ha] at this
    have := List.length_pos_of_mem ha
    simp only [List.length_cons]; omega
def zeE {α : Type} (bs : List Nat) (names : List α) (seen : List Nat) (ys : List α) : Prop :=
  seen.length = ys.length ∧ ∀ (j : Nat) (b : Nat) (y : α), seen[j]? = some b → ys[j]? = some y → ∃ i : Nat, bs[i]? = some b ∧ names[i]? = some y
theorem zeE.nil {α : Type} {bs : List Nat} {names : List α} : zeE bs names [] [] := ⟨rfl, by simp⟩
theorem zeE.snoc {α : Type} {bs : List Nat} {names : List α} {seen : List Nat} {ys : List α} (h : zeE bs names seen ys) {i b : Nat} {y : α} (h1 : bs[i]? = some b) (h2 : names[i]? = some y) : zeE bs names (seen ++ [b]) (ys ++ [y]) := by
  refine ⟨by simp [h.1], fun j c z hc hz => ?_⟩
  rw [List.getElem?_append] at hc hz
  split at hc
  · rename_i hj
    rw [if_pos (by rw [← h.1]; exact hj)] at hz
    exact h.2 j c z hc hz
  · rename_i hj
    rw [if_neg (by rw [← h.1]; exact hj)] at hz
    have e1 := (List.getElem?_eq_some_iff.1 hc).1
    simp only [List.length_cons, List.length_nil] at e1
    rw [h.1] at hc hj e1
    have e : j - ys.length = 0 := by omega
    rw [e] at hc hz
    simp at hc hz
    subst hc; subst hz
    exact ⟨i, h1, h2⟩
theorem zeE.sub {α : Type} {bs : List Nat} {names : List α} {seen : List Nat} {ys : List α} (h : zeE bs names seen ys) : ∀ b ∈ seen, b ∈ bs := by
  intro b hb
  obtain ⟨j, hj⟩ := List.mem_iff_getElem?.1 hb
  have hl := (List.getElem?_eq_some_iff.1 hj).1
  rw [h.1] at hl
  obtain ⟨i, h1, _⟩ := h.2 j b _ hj (List.getElem?_eq_getElem hl)
  exact List.mem_of_getElem? h1
theorem zeE.lt {α : Type} {bs : List Nat} {names : List α} {seen : List Nat} {ys : List α} (h : zeE bs names seen ys) (hn : seen.Nodup) (hl : bs.length = names.length) {b : Nat} (h1 : b ∈ bs) (h2 : b ∉ seen) : ys.length < names.length := by
  have := nodup_le (l := b :: seen) (m := bs) (List.nodup_cons.2 ⟨h2, hn⟩) fun x hx => by
    rcases List.mem_cons.1 hx with rfl | hx
    · exact h1
    · exact h.sub x hx
  simp only [List.length_cons] at this
  rw [← hl, ← h.1]; omega
theorem nodup_get {l : List Nat} (h : l.Nodup) {i j x : Nat} (hi : l[i]? = some x) (hj : l[j]? = some x) : i = j := by
  obtain ⟨a, b⟩ := List.getElem?_eq_some_iff.1 hi
  obtain ⟨c, d⟩ := List.getElem?_eq_some_iff.1 hj
  rcases Nat.lt_trichotomy i j with hij | hij | hij
  · exact absurd (b.trans d.symm) (List.pairwise_iff_getElem.1 h i j a c hij)
  · exact hij
  · exact absurd (d.trans b.symm) (List.pairwise_iff_getElem.1 h j i c a hij)
theorem zhR {α : Type} : ∀ {l : List Nat} {m : List α}, l.Nodup → (l.zip m).Nodup
  | [], _, _ => by simp
  | _ :: _, [], _ => by simp
  | a :: l, b :: m, h => by
    obtain ⟨h1, h2⟩ := List.nodup_cons.1 h
    rw [List.zip_cons_cons, List.nodup_cons]
    exact ⟨fun hm => h1 (List.of_mem_zip hm).1, zhR h2⟩
theorem zeE.perm {α : Type} {bs : List Nat} {names : List α} {seen : List Nat} {ys : List α} (h : zeE bs names seen ys) (hn : seen.Nodup) (hb : bs.Nodup) (hl : bs.length = names.length) (ha : ∀ b ∈ bs, b ∈ seen) : ys.Perm names := by
  have key : ∀ (i : Nat) b y, bs[i]? = some b → names[i]? = some y → (b, y) ∈ bs.zip names := fun i b y h1 h2 => List.mem_iff_getElem?.2 ⟨i, List.getElem?_zip_eq_some.2 ⟨h1, h2⟩⟩
  have hp : (seen.zip ys).Perm (bs.zip names) := by
    refine (List.perm_ext_iff_of_nodup (zhR hn) (zhR hb)).2 fun p => ?_
    obtain ⟨b, y⟩ := p
    constructor
    · intro hm
      obtain ⟨j, hj⟩ := List.mem_iff_getElem?.1 hm
      obtain ⟨h1, h2⟩ := List.getElem?_zip_eq_some.1 hj
      obtain ⟨i, h3, h4⟩ := h.2 j b y h1 h2
      exact key i b y h3 h4
    · intro hm
      obtain ⟨j, hj⟩ := List.mem_iff_getElem?.1 hm
      obtain ⟨h1, h2⟩ := List.getElem?_zip_eq_some.1 hj
      obtain ⟨k, hk⟩ := List.mem_iff_getElem?.1 (ha b (List.mem_of_getElem? h1))
      have hkl := (List.getElem?_eq_some_iff.1 hk).1
      rw [h.1] at hkl
      obtain ⟨i, h3, h4⟩ := h.2 k b _ hk (List.getElem?_eq_getElem hkl)
      have := nodup_get hb h1 h3
      subst this
      rw [h2] at h4
      refine List.mem_iff_getElem?.2 ⟨k, List.getElem?_zip_eq_some.2 ⟨hk, ?_⟩⟩
      rw [List.getElem?_eq_getElem hkl, h4]
  have := hp.map Prod.snd
  rwa [List.map_snd_zip (by rw [h.1]; exact Nat.le_refl _), List.map_snd_zip (by rw [hl]; exact Nat.le_refl _)] at this
theorem sort_names {ys L : List (List UInt8)} (hp : ys.Perm L) (hs : L.Pairwise ltN) : (ys.mergeSort fun x y => decide (x ≤ y)) = L := by
  have h1 : (ys.mergeSort fun x y => decide (x ≤ y)).Perm L := (List.mergeSort_perm ys _).trans hp
  have h2 := List.pairwise_mergeSort (le := fun x y : List UInt8 => decide (x ≤ y)) (fun a b c hab hbc => by
      simp only [decide_eq_true_eq] at *; exact List.le_trans hab hbc) (fun a b => by
      have := List.le_total a b; simpa using this) ys
  refine List.Perm.eq_of_pairwise (le := fun x y => x ≤ y) (fun a b _ _ h3 h4 => List.le_antisymm h3 h4) ?_ ?_ h1
  · exact h2.imp fun h => by simpa using h
  · exact hs.imp fun h => List.le_of_lt (zjZ.1 h)
end Go.AW

/- slices.Sort of strings: the kit's contract. -/
import Derived.Test.YtaocmalhjfakdaaLaw07a
import Derived.Test.YtaocmalhjfakdaaAwFill
import Derived.Shelf.SortM.Plain
import Derived.Shelf.SortM.SortNone
import Derived.Ground.SlgmProg
import Derived.Test.YtaocmalhjfakdaaAwFrz
import Derived.Test.YtaocmalhjfakdaaSpPrg
set_option linter.all false
set_option maxRecDepth 100000
namespace Go.Proofs.Ytaocmalhjfakdaa
open Go.Shelf Go.Sort Go.RowKit Go.AW

theorem sortsS : SortsC Try.prog zbh encStr (fun ss => ss.mergeSort fun x y => decide (x ≤ y)) where
  some blk off cap ss W hH hblk hsz := AnyM.slices_Sort_string sortS blk off cap ss W hH hblk hsz
  none p cap W := AnyM.slices_Sort_string_none sortS p cap W
  len l := by simp
theorem rd_str (w : World) (O : Nat → Nat → Prop) (x : List UInt8) (v : Value) : RD w O (.str x) v ↔ v = encStr x := by
  constructor
  · intro h
    cases h
    rfl
  · rintro rfl
    exact .str x
theorem c_sortS {σ : List zc} {t g : Nat} {l : List (List UInt8)} (hσ : σ[t]? = some (.row g 1 (l.map fun x => .d (.str x)))) (hn : l.length < 4611686018427387904) {K : AV → List zc → Prop}
    (hK : K (.tup []) (σ.set t (.row g 1 ((l.mergeSort fun x y => decide (x ≤ y)).map fun x => .d (.str x))))) : zt Try.prog zbh [.rsl t g 1 0 l.length] σ K :=
  acall_sort rd_str (by decide +kernel) sortsS hσ hn hK
end Go.Proofs.Ytaocmalhjfakdaa

/- Ends of calls that keep objects told at the end; a result whose rows are let go. -/
set_option linter.unusedSimpArgs false
set_option linter.unusedVariables false
namespace Go.AW
section
variable {P : Program} {σ : List zc}
theorem zt.frz {f : FuncId} {xs : List AV} {K : AV → List zc → Prop} (m : Nat) (h : zt P f xs σ fun r s => ∃ r', frzT s σ.length m r = some r' ∧ s.take σ.length = σ ∧ K r' σ) : zt P f xs σ K :=
  ⟨h.1, fun L w vs S hv => (h.2 L w vs S hv).mono fun e w' he => by
    cases e with
    | panicked _ => exact he
    | outgrown => exact he
    | returned v =>
      obtain ⟨L', σ', r, st, S', hr, r', hf, ht, hK⟩ := he
      have z2 : zeN σ.length (σ'.take σ.length) := by rw [ht]; exact S.lows
      have hS := S'.take z2
      have hst := st.take
      have hv := zlX S' (L2 := L') (σ2 := σ'.take σ.length) (fun b o => ziy) (fun t x ht hx hk b o hf hown => by
        obtain ⟨id, y, hy, hfy⟩ := hown
        rw [List.getElem?_take] at hy
        split at hy
        · rename_i hid
          exact S'.apart id t y x b o (by omega) hy hx hfy hf
        · cases hy) hr hf
      rw [ht] at hS hst hv
      exact ⟨L', σ, r', hst, hS, hv, hK⟩⟩
end


theorem nodup_le : ∀ {l m : List Nat}, l.Nodup → (∀ x ∈ l, x ∈ m) → l.length ≤ m.length
  | [], m, _, _ => by simp
  | a :: r, m, hn, hs => by
    have ha := hs a List.mem_cons_self
    obtain ⟨h1, h2⟩ := List.nodup_cons.1 hn
    have := nodup_le (l := r) (m := m.erase a) h2 fun x hx => (List.mem_erase_of_ne (a := x) (b := a) (fun e => h1 (by rw [← e]; exact hx))).2 (hs x (List.mem_cons_of_mem _ hx))
    rw [List.length_erase_of_mem ha] at this
    have := List.length_pos_of_mem ha
    simp only [List.length_cons]; omega
def zfS {α : Type} (bs : List Nat) (names : List α) (seen : List Nat) (ys : List α) : Prop :=
  seen.length = ys.length ∧ ∀ (j : Nat) (b : Nat) (y : α), seen[j]? = some b → ys[j]? = some y → ∃ i : Nat, bs[i]? = some b ∧ names[i]? = some y
theorem zfS.nil {α : Type} {bs : List Nat} {names : List α} : zfS bs names [] [] := ⟨rfl, by simp⟩
theorem zfS.snoc {α : Type} {bs : List Nat} {names : List α} {seen : List Nat} {ys : List α} (h : zfS bs names seen ys) {i b : Nat} {y : α} (h1 : bs[i]? = some b) (h2 : names[i]? = some y) : zfS bs names (seen ++ [b]) (ys ++ [y]) := by
  refine ⟨by simp [h.1], fun j c z hc hz => ?_⟩
  rw [List.getElem?_append] at hc hz
  split at hc
  · rename_i hj
    rw [if_pos (by rw [← h.1]; exact hj)] at hz
    exact h.2 j c z hc hz
  · rename_i hj
    rw [if_neg (by rw [← h.1]; exact hj)] at hz
    have e1 := (List.getElem?_eq_some_iff.1 hc).1
    simp only [List.length_cons, List.length_nil] at e1
    rw [h.1] at hc hj e1
    have e : j - ys.length = 0 := by omega
    rw [e] at hc hz
    simp at hc hz
    subst hc; subst hz
    exact ⟨i, h1, h2⟩
theorem zfS.sub {α : Type} {bs : List Nat} {names : List α} {seen : List Nat} {ys : List α} (h : zfS bs names seen ys) : ∀ b ∈ seen, b ∈ bs := by
  intro b hb
  obtain ⟨j, hj⟩ := List.mem_iff_getElem?.1 hb
  have hl := (List.getElem?_eq_some_iff.1 hj).1
  rw [h.1] at hl
  obtain ⟨i, h1, _⟩ := h.2 j b _ hj (List.getElem?_eq_getElem hl)
  exact List.mem_of_getElem? h1
theorem zfS.lt {α : Type} {bs : List Nat} {names : List α} {seen : List Nat} {ys : List α} (h : zfS bs names seen ys) (hn : seen.Nodup) (hl : bs.length = names.length) {b : Nat} (h1 : b ∈ bs) (h2 : b ∉ seen) : ys.length < names.length := by
  have := nodup_le (l := b :: seen) (m := bs) (List.nodup_cons.2 ⟨h2, hn⟩) fun x hx => by
    rcases List.mem_cons.1 hx with rfl | hx
    · exact h1
    · exact h.sub x hx
  simp only [List.length_cons] at this
  rw [← hl, ← h.1]; omega
theorem nodup_get {l : List Nat} (h : l.Nodup) {i j x : Nat} (hi : l[i]? = some x) (hj : l[j]? = some x) : i = j := by
  obtain ⟨a, b⟩ := List.getElem?_eq_some_iff.1 hi
  obtain ⟨c, d⟩ := List.getElem?_eq_some_iff.1 hj
  rcases Nat.lt_trichotomy i j with hij | hij | hij
  · exact absurd (b.trans d.symm) (List.pairwise_iff_getElem.1 h i j a c hij)
  · exact hij
  · exact absurd (d.trans b.symm) (List.pairwise_iff_getElem.1 h j i c a hij)
theorem zkr {α : Type} : ∀ {l : List Nat} {m : List α}, l.Nodup → (l.zip m).Nodup
  | [], _, _ => by simp
  | _ :: _, [], _ => by simp
  | a :: l, b :: m, h => by
    obtain ⟨h1, h2⟩ := List.nodup_cons.1 h
    rw [List.zip_cons_cons, List.nodup_cons]
    exact ⟨fun hm => h1 (List.of_mem_zip hm).1, zkr h2⟩
theorem zfS.perm {α : Type} {bs : List Nat} {names : List α} {seen : List Nat} {ys : List α} (h : zfS bs names seen ys) (hn : seen.Nodup) (hb : bs.Nodup) (hl : bs.length = names.length) (ha : ∀ b ∈ bs, b ∈ seen) : ys.Perm names := by
  have key : ∀ (i : Nat) b y, bs[i]? = some b → names[i]? = some y → (b, y) ∈ bs.zip names := fun i b y h1 h2 => List.mem_iff_getElem?.2 ⟨i, List.getElem?_zip_eq_some.2 ⟨h1, h2⟩⟩
  have hp : (seen.zip ys).Perm (bs.zip names) := by
    refine (List.perm_ext_iff_of_nodup (zkr hn) (zkr hb)).2 fun p => ?_
    obtain ⟨b, y⟩ := p
    constructor
    · intro hm
      obtain ⟨j, hj⟩ := List.mem_iff_getElem?.1 hm
      obtain ⟨h1, h2⟩ := List.getElem?_zip_eq_some.1 hj
      obtain ⟨i, h3, h4⟩ := h.2 j b y h1 h2
      exact key i b y h3 h4
    · intro hm
      obtain ⟨j, hj⟩ := List.mem_iff_getElem?.1 hm
      obtain ⟨h1, h2⟩ := List.getElem?_zip_eq_some.1 hj
      obtain ⟨k, hk⟩ := List.mem_iff_getElem?.1 (ha b (List.mem_of_getElem? h1))
      have hkl := (List.getElem?_eq_some_iff.1 hk).1
      rw [h.1] at hkl
      obtain ⟨i, h3, h4⟩ := h.2 k b _ hk (List.getElem?_eq_getElem hkl)
      have := nodup_get hb h1 h3
      subst this
      rw [h2] at h4
      refine List.mem_iff_getElem?.2 ⟨k, List.getElem?_zip_eq_some.2 ⟨hk, ?_⟩⟩
      rw [List.getElem?_eq_getElem hkl, h4]
  have := hp.map Prod.snd
  rwa [List.map_snd_zip (by rw [h.1]; exact Nat.le_refl _), List.map_snd_zip (by rw [hl]; exact Nat.le_refl _)] at this
theorem sort_names {ys L : List (List UInt8)} (hp : ys.Perm L) (hs : L.Pairwise ltN) : (ys.mergeSort fun x y => decide (x ≤ y)) = L := by
  have h1 : (ys.mergeSort fun x y => decide (x ≤ y)).Perm L := (List.mergeSort_perm ys _).trans hp
  have h2 := List.pairwise_mergeSort (le := fun x y : List UInt8 => decide (x ≤ y)) (fun a b c hab hbc => by
      simp only [decide_eq_true_eq] at *; exact List.le_trans hab hbc) (fun a b => by
      have := List.le_total a b; simpa using this) ys
  refine List.Perm.eq_of_pairwise (le := fun x y => x ≤ y) (fun a b _ _ h3 h4 => List.le_antisymm h3 h4) ?_ ?_ h1
  · exact h2.imp fun h => by simpa using h
  · exact hs.imp fun h => List.le_of_lt (zmF.1 h)
end Go.AW

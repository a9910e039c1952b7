/- Batches are sealed one after the other; what tables and ledgers hold. -/
import Derived.Test.YtjjchfbckfopkaaGreatRq5
import Derived.Test.YtjjchfbckfopkaaGreatSpBulk
set_option linter.all false
set_option maxRecDepth 100000
set_option linter.unusedSimpArgs false
set_option linter.unusedVariables false
namespace Go.Proofs.YtjjchfbckfopkaaGreat
open Go.AW

def seR (s : List (List UInt8) × List zO × List ze) (r : ze) : List (List UInt8) × List zO × List ze :=
  (sealL s.1 r, znW s.1 s.2.1 r, if zkW s.1 r = 0 then s.2.2 ++ [znV s.1 r] else s.2.2)
structure SeI (n m : Nat) (s : List (List UInt8) × List zO × List ze) : Prop where
  tab : TabI s.1
  led : s.2.1.length ≤ n
  sz : ∀ x ∈ s.2.2, zgJ x.op ≤ 20971520
  len : s.2.2.length ≤ m
theorem seI {n m : Nat} {s : List (List UInt8) × List zO × List ze} {r : ze} (h : SeI n m s) (hr : zgJ r.op ≤ 20971520) : SeI (n + 1) (m + 1) (seR s r) := by
  obtain ⟨L, G, b⟩ := s
  obtain ⟨h1, h2, h3, h4⟩ := h
  simp only at h1 h2 h3 h4
  refine ⟨?_, ?_, ?_, ?_⟩
  · simp only [seR, sealL]
    split
    · exact h1
    · rename_i hc
      have := zll (x := r) (by omega) (by simpa using hc)
      exact h1.sum (by omega)
  · simp only [seR, znW, zeP, zmK]
    split
    · omega
    · split
      · split
        · omega
        · simp; omega
      · omega
  · simp only [seR]
    split
    · rename_i he
      intro x hx
      rcases List.mem_append.1 hx with hx | hx
      · exact h3 x hx
      · simp only [List.mem_singleton] at hx
        subst hx
        rw [znV, if_pos he]
        exact hr
    · exact h3
  · simp only [seR]
    split
    · simp; omega
    · omega
theorem foldSe {n m : Nat} {s : List (List UInt8) × List zO × List ze} (h : SeI n m s) {l : List ze} (hl : ∀ x ∈ l, zgJ x.op ≤ 20971520) : SeI (n + l.length) (m + l.length) (l.foldl seR s) := by
  induction l generalizing n m s with
  | nil => exact h
  | cons x l ih =>
    have := ih (seI h (hl x (by simp))) fun y hy => hl y (by simp [hy])
    simp only [List.foldl_cons, List.length_cons]
    rwa [show n + (l.length + 1) = n + 1 + l.length by omega, show m + (l.length + 1) = m + 1 + l.length by omega]
theorem zmb {α β : Type} {f : β → α → β} {s : β} {l : List α} {k : Nat} {x : α} (h : l[k]? = some x) : (l.take (k + 1)).foldl f s = f ((l.take k).foldl f s) x := by
  rw [List.take_add_one, h, List.foldl_append]; rfl
theorem tab_dig {L : List (List UInt8)} (h : TabI L) {l : List ze} (hx : ∀ s ∈ l, zgJ s.op ≤ 20971520) : TabI (digL L l) := by
  unfold digL
  split
  · exact h
  · rename_i hc
    have := zhZ hx
    rw [zbD, if_pos (by simpa using hc)] at this
    exact h.sum (by omega)
theorem znS {l : List (List UInt8)} {k : Nat} {x : List UInt8} (hn : l.Nodup) (hl0 : l.length ≤ 1048576) (hx : l[k]? = some x) : ziG (l.take k) x = l.take (k + 1) := by
  have hk := (List.getElem?_eq_some_iff.1 hx).1
  have hnot : x ∉ l.take k := fun hm => by
    obtain ⟨i, hi, he⟩ := List.mem_take_iff_getElem.1 hm
    have := (List.getElem_inj hn).1 (he.trans (List.getElem?_eq_some_iff.1 hx).2.symm)
    omega
  have hno := znq hnot
  have h1 : (l.take k).length = k := by rw [List.length_take]; omega
  rw [ziG, hno]
  simp only [h1]
  rw [if_neg (by omega), List.take_add_one, hx]; rfl
structure LedI (G : List zO) : Prop where
  nd : G.Nodup
  ok : ∀ g ∈ G, zdm g.key g.dig = 0
theorem LedI.sign {G : List zO} (h : LedI G) (k d : Int) : LedI (zeP G k d) := by
  unfold zeP
  split
  · rename_i hs
    unfold zmK
    split
    · exact h
    · rename_i hn
      refine ⟨?_, fun g hg => ?_⟩
      · rw [List.nodup_append]
        refine ⟨h.nd, by simp, fun a ha b hb e => ?_⟩
        simp only [List.mem_singleton] at hb
        subst e hb
        exact hn ha
      · rcases List.mem_append.1 hg with hg | hg
        · exact h.ok g hg
        · simp only [List.mem_singleton] at hg
          subst hg; exact hs
  · exact h
theorem sign_take {l : List zO} {k : Nat} {x : zO} (h : LedI l) (hx : l[k]? = some x) : zeP (l.take k) x.key x.dig = l.take (k + 1) := by
  have hk := (List.getElem?_eq_some_iff.1 hx).1
  have hnot : x ∉ l.take k := fun hm => by
    obtain ⟨i, hi, he⟩ := List.mem_take_iff_getElem.1 hm
    have := (List.getElem_inj h.nd).1 (he.trans (List.getElem?_eq_some_iff.1 hx).2.symm)
    omega
  rw [zeP, if_pos (h.ok x (List.mem_of_getElem? hx)), zmK, if_neg hnot, List.take_add_one, hx]; rfl
end Go.Proofs.YtjjchfbckfopkaaGreat

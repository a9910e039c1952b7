/- At most once: no program in sight. -/
import Derived.Test.YtaocmalhjfakdaaSpPrg
set_option linter.all false
set_option linter.unusedSimpArgs false
set_option linter.unusedVariables false
namespace Go.AW

def zjc (k : Int × Int) : List ((Int × Int) × Bool) → Nat → Option (Nat × Bool)
  | [], _ => none
  | e :: r, i => if k = e.1 then some (i, e.2) else zjc k r (i + 1)
theorem zgL {k : Int × Int} : ∀ {l : List ((Int × Int) × Bool)} {i j : Nat} {v : Bool}, zjc k l i = some (j, v) → ∃ q, j = i + q ∧ l[q]? = some (k, v)
  | [], _, _, _, h => by simp [zjc] at h
  | g :: r, i, j, v, h => by
    simp only [zjc] at h
    split at h
    · rename_i e; cases h; exact ⟨0, rfl, by rw [e]; rfl⟩
    · obtain ⟨q, h1, h2⟩ := zgL h
      exact ⟨q + 1, by omega, by simpa using h2⟩
def zkc (T : zS) (c : Int) : Int := (T.last.getD c.toNat (0, 0, 0)).1
def zkx (T : zS) (D : List ((Int × Int) × Bool)) : Prop := ∀ e ∈ D, e.2 = true → 0 ≤ e.1.1 ∧ e.1.1 < 8 ∧ e.1.2 ≤ zkc T e.1.1
theorem zkx.nil (T : zS) : zkx T [] := by simp [zkx]
theorem zhL {T : zS} (h8 : T.last.length = 8) {c tm : Int} {o : TOp} (h : (zx T c tm o).2.2.1 = true) : 0 ≤ c ∧ c < 8 ∧ zkc T c < tm ∧ (1 ≤ tm ∧ tm ≤ 9007199254740992) ∧ (zx T c tm o).2.2.2.last = T.last.set c.toNat (tm, (zx T c tm o).1) := by
  unfold zx at h ⊢
  split at h
  · cases h
  · split at h
    · cases h
    · split at h
      · cases h
      · rename_i h1 h2 h3
        rw [if_neg h1, if_neg h2, if_neg h3]
        refine ⟨by omega, by omega, by unfold zkc; omega, by omega, ?_⟩
        simp only [zfo]
theorem ziR {T : zS} {c tm : Int} {o : TOp} (h : (zx T c tm o).2.2.1 = false) : (zx T c tm o).2.2.2 = T := by
  unfold zx at h ⊢
  split
  · rfl
  · split
    · rfl
    · split
      · rfl
      · rename_i h1 h2 h3
        rw [if_neg h1, if_neg h2, if_neg h3] at h
        cases h
theorem apply_again {T : zS} (h8 : T.last.length = 8) (c tm : Int) (o : TOp) : ∃ r, zx (zx T c tm o).2.2.2 c tm o = (r, [], false, (zx T c tm o).2.2.2) ∧ ((zx T c tm o).2.2.1 = true → r = (zx T c tm o).1) := by
  cases h : (zx T c tm o).2.2.1
  · rw [ziR h]
    refine ⟨(zx T c tm o).1, ?_, fun h => by cases h⟩
    have h0 := h
    have : (zx T c tm o).2.1 = [] := by
      unfold zx at h ⊢
      split
      · rfl
      · split
        · rfl
        · split
          · rfl
          · rename_i h1 h2 h3
            rw [if_neg h1, if_neg h2, if_neg h3] at h
            cases h
    have e := ziR h0
    generalize zx T c tm o = A at *
    obtain ⟨a, b, d, e'⟩ := A
    simp only at *
    subst e; subst h0; subst this; rfl
  · obtain ⟨h1, h2, h3, h5, h4⟩ := zhL h8 h
    refine ⟨(zx T c tm o).1, ?_, fun _ => rfl⟩
    generalize zx T c tm o = A at *
    obtain ⟨a, b, d, T'⟩ := A
    simp only at *
    have hg : T'.last.getD c.toNat (0, 0, 0) = (tm, a) := by
      rw [h4, List.getD_eq_getElem?_getD, List.getElem?_set_self (by omega)]; rfl
    rw [zx, if_neg (by omega), hg, if_pos rfl]
theorem last_step {T : zS} (h8 : T.last.length = 8) (c tm : Int) (o : TOp) (d : Int) : zkc T d ≤ zkc (zx T c tm o).2.2.2 d := by
  cases h : (zx T c tm o).2.2.1
  · rw [ziR h]; exact Int.le_refl _
  · obtain ⟨h1, h2, h3, _, h4⟩ := zhL h8 h
    unfold zkc at *
    rw [h4, List.getD_eq_getElem?_getD, List.getD_eq_getElem?_getD, List.getElem?_set]
    split
    · rename_i e
      rw [if_pos (by omega)]
      rw [← List.getD_eq_getElem?_getD, ← e]
      simp only [Option.getD_some]; omega
    · exact Int.le_refl _
def putD (k : Int × Int) (v : Bool) (D : List ((Int × Int) × Bool)) : List ((Int × Int) × Bool) := match zjc k D 0 with
  | some q => D.set q.1 (k, v)
  | none => D ++ [(k, v)]
def getD' (k : Int × Int) (D : List ((Int × Int) × Bool)) : Bool := match zjc k D 0 with
  | some q => q.2
  | none => false
theorem zkx.fresh {T : zS} {D : List ((Int × Int) × Bool)} (h : zkx T D) (h8 : T.last.length = 8) {c tm : Int} {o : TOp} (hk : (zx T c tm o).2.2.1 = true) : getD' (c, tm) D = false := by
  obtain ⟨h1, h2, h3, h5, h4⟩ := zhL h8 hk
  unfold getD'
  split
  · rename_i q hq
    obtain ⟨j, e, hj⟩ := zgL hq
    cases hv : q.2
    · rfl
    · rw [hv] at hj
      have := (h _ (List.mem_of_getElem? hj) rfl).2.2
      simp only at this
      omega
  · rfl
theorem zkx.step {T : zS} {D : List ((Int × Int) × Bool)} (h : zkx T D) (h8 : T.last.length = 8) (c tm : Int) (o : TOp) : zkx (zx T c tm o).2.2.2 (putD (c, tm) (getD' (c, tm) D || (zx T c tm o).2.2.1) D) := by
  have old : ∀ e ∈ D, e.2 = true → 0 ≤ e.1.1 ∧ e.1.1 < 8 ∧ e.1.2 ≤ zkc (zx T c tm o).2.2.2 e.1.1 := fun e he hv => by
    obtain ⟨h1, h2, h3⟩ := h e he hv
    have := last_step h8 c tm o e.1.1
    exact ⟨h1, h2, by omega⟩
  have new : (getD' (c, tm) D || (zx T c tm o).2.2.1) = true → 0 ≤ c ∧ c < 8 ∧ tm ≤ zkc (zx T c tm o).2.2.2 c := fun hv => by
    cases hk : (zx T c tm o).2.2.1
    · rw [hk, Bool.or_false] at hv
      unfold getD' at hv
      split at hv
      · rename_i q hq
        obtain ⟨j, e, hj⟩ := zgL hq
        exact old _ (List.mem_of_getElem? hj) hv
      · cases hv
    · obtain ⟨h1, h2, h3, h5, h4⟩ := zhL h8 hk
      refine ⟨h1, h2, ?_⟩
      unfold zkc
      rw [h4, List.getD_eq_getElem?_getD, List.getElem?_set_self (by omega)]
      exact Int.le_refl _
  intro e he hv
  unfold putD at he
  split at he
  · rcases List.mem_or_eq_of_mem_set he with he | he
    · exact old e he hv
    · subst he; exact new hv
  · rcases List.mem_append.1 he with he | he
    · exact old e he hv
    · simp at he; subst he; exact new hv
end Go.AW

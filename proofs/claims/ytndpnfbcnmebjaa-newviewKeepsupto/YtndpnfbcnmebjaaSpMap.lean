/- Maps keyed by integers: what is found after a put. -/
import Derived.Test.YtndpnfbcnmebjaaAwEnd
set_option linter.all false
set_option linter.unusedSimpArgs false
namespace Go.AW

/-- a map's entries -/
abbrev ents (l : List (Int × AV)) : List (AV × AV) := l.map fun e => (.d (.int .i64 e.1), e.2)
def findI (s : Int) : List (Int × AV) → Nat → Option (Nat × AV)
  | [], _ => none
  | e :: r, i => if s = e.1 then some (i, e.2) else findI s r (i + 1)
theorem mfind_ents (s : Int) : ∀ (l : List (Int × AV)) (i : Nat), mfind .int (.d (.int .i64 s)) (ents l) i = some (findI s l i)
  | [], _ => rfl
  | e :: r, i => by
    simp only [ents, List.map_cons, mfind, keyEq, if_true, findI]
    by_cases h : s = e.1
    · simp [h]
    · have : (s == e.1) = false := by simpa using h
      simp only [this, if_neg h]
      exact mfind_ents s r (i + 1)
theorem findI_append {s t : Int} {x : AV} : ∀ {l : List (Int × AV)} {i : Nat}, (findI t l i = none ∨ s ≠ t) → (findI s (l ++ [(t, x)]) i).map (·.2) = if s = t then some x else (findI s l i).map (·.2)
  | [], i, h => by
    by_cases e : s = t <;> simp [findI, e]
  | e :: r, i, h => by
    simp only [List.cons_append, findI]
    by_cases h1 : s = e.1
    · rw [if_pos h1, if_pos h1]
      by_cases e2 : s = t
      · rcases h with h | h
        · simp only [findI] at h
          rw [if_pos (by rw [← e2, h1])] at h
          cases h
        · exact absurd e2 h
      · rw [if_neg e2]
    · rw [if_neg h1, if_neg h1]
      refine findI_append ?_
      rcases h with h | h
      · left
        simp only [findI] at h
        split at h
        · cases h
        · exact h
      · exact .inr h
theorem findI_ge {s : Int} : ∀ {l : List (Int × AV)} {i j : Nat} {v : AV}, findI s l i = some (j, v) → i ≤ j
  | [], _, _, _, h => by simp [findI] at h
  | e :: r, i, j, v, h => by
    simp only [findI] at h
    split at h
    · simp at h; omega
    · have := findI_ge h; omega
theorem findI_set {s t : Int} {x v : AV} : ∀ {l : List (Int × AV)} {i j : Nat}, findI t l i = some (i + j, v) → (findI s (l.set j (t, x)) i).map (·.2) = if s = t then some x else (findI s l i).map (·.2)
  | [], i, j, h => by simp [findI] at h
  | e :: r, i, 0, h => by
    simp only [findI] at h
    split at h
    · rename_i h1
      simp only [List.set_cons_zero, findI]
      by_cases e2 : s = t
      · simp [e2]
      · rw [if_neg e2, if_neg e2, if_neg (by rw [← h1]; exact e2)]
    · have := findI_ge h; omega
  | e :: r, i, j + 1, h => by
    simp only [findI] at h
    split at h
    · simp at h
    · rename_i h1
      simp only [List.set_cons_succ, findI]
      have ih := findI_set (s := s) (x := x) (l := r) (i := i + 1) (j := j) (by rw [h]; congr 2; omega)
      by_cases h2 : s = e.1
      · rw [if_pos h2, if_pos h2, if_neg (by rw [h2]; exact fun h => h1 h.symm)]
      · rw [if_neg h2, if_neg h2]
        exact ih
/-- what a map holds: of each key -/
def MapIs (l : List (Int × AV)) (f : Int → Option AV) : Prop := ∀ s, (findI s l 0).map (·.2) = f s
theorem MapIs.nil : MapIs [] fun _ => none := fun _ => rfl
theorem MapIs.none {l : List (Int × AV)} {f : Int → Option AV} (h : MapIs l f) {s : Int} (hs : f s = .none) : mfind .int (.d (.int .i64 s)) (ents l) 0 = some .none := by
  rw [mfind_ents]
  have := h s
  rw [hs] at this
  cases e : findI s l 0 with
  | none => rfl
  | some p => rw [e] at this; simp at this
theorem MapIs.some {l : List (Int × AV)} {f : Int → Option AV} (h : MapIs l f) {s : Int} {v : AV} (hs : f s = .some v) : ∃ i, mfind .int (.d (.int .i64 s)) (ents l) 0 = .some (.some (i, v)) ∧ findI s l 0 = .some (i, v) := by
  rw [mfind_ents]
  have := h s
  rw [hs] at this
  cases e : findI s l 0 with
  | none => rw [e] at this; simp at this
  | some p =>
    rw [e] at this
    obtain ⟨i, w⟩ := p
    simp at this
    subst this
    exact ⟨i, rfl, rfl⟩
theorem MapIs.add {l : List (Int × AV)} {f : Int → Option AV} (h : MapIs l f) {t : Int} {x : AV} (ht : f t = .none) : MapIs (l ++ [(t, x)]) fun s => if s = t then .some x else f s := by
  intro s
  rw [findI_append, h s]
  left
  have := h t
  rw [ht] at this
  cases e : findI t l 0 with
  | none => rfl
  | some p => rw [e] at this; simp at this
theorem MapIs.put {l : List (Int × AV)} {f : Int → Option AV} (h : MapIs l f) {t : Int} {x v : AV} {i : Nat} (ht : findI t l 0 = .some (i, v)) : MapIs (l.set i (t, x)) fun s => if s = t then .some x else f s := by
  intro s
  rw [findI_set (v := v) (by rw [Nat.zero_add]; exact ht), h s]
theorem ents_set (l : List (Int × AV)) (i : Nat) (t : Int) (x : AV) : (ents l).set i (.d (.int .i64 t), x) = ents (l.set i (t, x)) := by
  simp only [ents, List.map_set]
theorem ents_add (l : List (Int × AV)) (t : Int) (x : AV) : ents l ++ [(.d (.int .i64 t), x)] = ents (l ++ [(t, x)]) := by simp [ents]
end Go.AW

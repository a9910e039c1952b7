/- Maps keyed by integers: what is found after a put. -/
import Derived.Test.YtcappjcojggehaaGreatAwEnd
import Derived.Test.YtcappjcojggehaaGreatSpRd
import Derived.Test.YtcappjcojggehaaGreatSpUtf
set_option linter.all false
set_option linter.unusedSimpArgs false
namespace Go.AW

abbrev ents (l : List (Int × AV)) : List (AV × AV) := l.map fun e => (.d (.int .i64 e.1), e.2)
def zdI (s : Int) : List (Int × AV) → Nat → Option (Nat × AV)
  | [], _ => none
  | e :: r, i => if s = e.1 then some (i, e.2) else zdI s r (i + 1)
theorem zjV (s : Int) : ∀ (l : List (Int × AV)) (i : Nat), zfc .int (.d (.int .i64 s)) (ents l) i = some (zdI s l i)
  | [], _ => rfl
  | e :: r, i => by
    simp only [ents, List.map_cons, zfc, zdm, if_true, zdI]
    by_cases h : s = e.1
    · simp [h]
    · have : (s == e.1) = false := by simpa using h
      simp only [this, if_neg h]
      exact zjV s r (i + 1)
theorem zkx {s t : Int} {x : AV} : ∀ {l : List (Int × AV)} {i : Nat}, (zdI t l i = none ∨ s ≠ t) → (zdI s (l ++ [(t, x)]) i).map (·.2) = if s = t then some x else (zdI s l i).map (·.2)
  | [], i, h => by
    by_cases e : s = t <;> simp [zdI, e]
  | e :: r, i, h => by
    simp only [List.cons_append, zdI]
    by_cases h1 : s = e.1
    · rw [if_pos h1, if_pos h1]
      by_cases e2 : s = t
      · rcases h with h | h
        · simp only [zdI] at h
          rw [if_pos (by rw [← e2, h1])] at h
          cases h
        · exact absurd e2 h
      · rw [if_neg e2]
    · rw [if_neg h1, if_neg h1]
      refine zkx ?_
      rcases h with h | h
      · left
        simp only [zdI] at h
        split at h
        · cases h
        · exact h
      · exact .inr h
theorem findI_ge {s : Int} : ∀ {l : List (Int × AV)} {i j : Nat} {v : AV}, zdI s l i = some (j, v) → i ≤ j
  | [], _, _, _, h => by simp [zdI] at h
  | e :: r, i, j, v, h => by
    simp only [zdI] at h
    split at h
    · simp at h; omega
    · have := findI_ge h; omega
theorem findI_set {s t : Int} {x v : AV} : ∀ {l : List (Int × AV)} {i j : Nat}, zdI t l i = some (i + j, v) → (zdI s (l.set j (t, x)) i).map (·.2) = if s = t then some x else (zdI s l i).map (·.2)
  | [], i, j, h => by simp [zdI] at h
  | e :: r, i, 0, h => by
    simp only [zdI] at h
    split at h
    · rename_i h1
      simp only [List.set_cons_zero, zdI]
      by_cases e2 : s = t
      · simp [e2]
      · rw [if_neg e2, if_neg e2, if_neg (by rw [← h1]; exact e2)]
    · have := findI_ge h; omega
  | e :: r, i, j + 1, h => by
    simp only [zdI] at h
    split at h
    · simp at h
    · rename_i h1
      simp only [List.set_cons_succ, zdI]
      have ih := findI_set (s := s) (x := x) (l := r) (i := i + 1) (j := j) (by rw [h]; congr 2; omega)
      by_cases h2 : s = e.1
      · rw [if_pos h2, if_pos h2, if_neg (by rw [h2]; exact fun h => h1 h.symm)]
      · rw [if_neg h2, if_neg h2]
        exact ih
def zkV (l : List (Int × AV)) (f : Int → Option AV) : Prop := ∀ s, (zdI s l 0).map (·.2) = f s
theorem zkV.nil : zkV [] fun _ => none := fun _ => rfl
theorem zkV.none {l : List (Int × AV)} {f : Int → Option AV} (h : zkV l f) {s : Int} (hs : f s = .none) : zfc .int (.d (.int .i64 s)) (ents l) 0 = some .none := by
  rw [zjV]
  have := h s
  rw [hs] at this
  cases e : zdI s l 0 with
  | none => rfl
  | some p => rw [e] at this; simp at this
theorem zkV.some {l : List (Int × AV)} {f : Int → Option AV} (h : zkV l f) {s : Int} {v : AV} (hs : f s = .some v) : ∃ i, zfc .int (.d (.int .i64 s)) (ents l) 0 = .some (.some (i, v)) ∧ zdI s l 0 = .some (i, v) := by
  rw [zjV]
  have := h s
  rw [hs] at this
  cases e : zdI s l 0 with
  | none => rw [e] at this; simp at this
  | some p =>
    rw [e] at this
    obtain ⟨i, w⟩ := p
    simp at this
    subst this
    exact ⟨i, rfl, rfl⟩
theorem zkV.add {l : List (Int × AV)} {f : Int → Option AV} (h : zkV l f) {t : Int} {x : AV} (ht : f t = .none) : zkV (l ++ [(t, x)]) fun s => if s = t then .some x else f s := by
  intro s
  rw [zkx, h s]
  left
  have := h t
  rw [ht] at this
  cases e : zdI t l 0 with
  | none => rfl
  | some p => rw [e] at this; simp at this
theorem zkV.put {l : List (Int × AV)} {f : Int → Option AV} (h : zkV l f) {t : Int} {x v : AV} {i : Nat} (ht : zdI t l 0 = .some (i, v)) : zkV (l.set i (t, x)) fun s => if s = t then .some x else f s := by
  intro s
  rw [findI_set (v := v) (by rw [Nat.zero_add]; exact ht), h s]
end Go.AW

/- Readers: a reader's bytes and its error; what is taken from them. 'cut': an error drops the bytes. No program in sight. -/
set_option linter.unusedSimpArgs false
namespace Go.AW

structure Rd where
  b : List UInt8
  e : Int
def Rd.fail (cut : Bool) (s : Rd) (x : Int) : Rd := if s.e = 0 ∧ x ≠ 0 then ⟨if cut then [] else s.b, x⟩ else s
def numP (cut : Bool) (most : Nat) (s : Rd) : Nat × Rd :=
  if s.e = 0 then (match numR most 0 0 s.b with | .ok (n, r) => (n, ⟨r, 0⟩) | .error x => (0, s.fail cut x)) else (0, s)
def takeP (cut : Bool) (n : Nat) (s : Rd) : List UInt8 × Rd :=
  if s.e = 0 then (if n > s.b.length then ([], s.fail cut 10) else (s.b.take n, ⟨s.b.drop n, 0⟩)) else ([], s)
def zim (cut : Bool) (most : Nat) (s : Rd) : List UInt8 × Rd := takeP cut (numP cut most s).1 (numP cut most s).2
def zoi (cut : Bool) : Nat → Rd → List (List UInt8) × Rd
  | 0, s => ([], s)
  | k + 1, s => ((zoi cut k s).1 ++ [(zim cut 64 (zoi cut k s).2).1], (zim cut 64 (zoi cut k s).2).2)
def zlR (cut : Bool) (k : Nat) (s : Rd) : TOp × Rd :=
  let t := zim cut 64 s
  if k = 0 then (noOp, s)
  else if k = 2 then (let n := numP cut 4 t.2; let r := zoi cut n.1 n.2; (⟨k, t.1, [], 0, r.1⟩, r.2))
  else if k = 3 then (let g := zim cut 64 t.2; let f := numP cut 9007199254740992 g.2; (⟨k, t.1, g.1, f.1, []⟩, f.2))
  else if k = 4 then (let f := numP cut 9007199254740992 t.2; (⟨k, t.1, [], f.1, []⟩, f.2))
  else (⟨k, t.1, [], 0, []⟩, t.2)
def Rd.like (s t : Rd) : Prop := s.e = t.e ∧ (s.e = 0 → s.b = t.b)
theorem Rd.like.fail {s t : Rd} {c d : Bool} {x : Int} (h : s.like t) : (s.fail c x).like (t.fail d x) := by
  obtain ⟨h1, h2⟩ := h
  unfold Rd.fail Rd.like
  grind
theorem Rd.like.num {s t : Rd} {c d : Bool} {m : Nat} (h : s.like t) : (numP c m s).1 = (numP d m t).1 ∧ (numP c m s).2.like (numP d m t).2 := by
  have hf : ∀ x, (s.fail c x).like (t.fail d x) := fun x => h.fail
  obtain ⟨h1, h2⟩ := h
  unfold numP
  by_cases h0 : s.e = 0
  · rw [if_pos h0, if_pos (show t.e = 0 from h1 ▸ h0), h2 h0]
    cases numR m 0 0 t.b with
    | ok x => exact ⟨rfl, rfl, fun _ => rfl⟩
    | error x => exact ⟨rfl, hf x⟩
  · rw [if_neg h0, if_neg (h1 ▸ h0)]
    exact ⟨rfl, h1, h2⟩
theorem Rd.like.take {s t : Rd} {c d : Bool} {m : Nat} (h : s.like t) : (takeP c m s).1 = (takeP d m t).1 ∧ (takeP c m s).2.like (takeP d m t).2 := by
  have hf : ∀ x, (s.fail c x).like (t.fail d x) := fun x => h.fail
  obtain ⟨h1, h2⟩ := h
  unfold takeP
  by_cases h0 : s.e = 0
  · rw [if_pos h0, if_pos (show t.e = 0 from h1 ▸ h0), h2 h0]
    split
    · exact ⟨rfl, hf 10⟩
    · exact ⟨rfl, rfl, fun _ => rfl⟩
  · rw [if_neg h0, if_neg (h1 ▸ h0)]
    exact ⟨rfl, h1, h2⟩
theorem Rd.like.bytes {s t : Rd} {c d : Bool} {m : Nat} (h : s.like t) : (zim c m s).1 = (zim d m t).1 ∧ (zim c m s).2.like (zim d m t).2 := by
  have a := h.num (c := c) (d := d) (m := m)
  have := a.2.take (c := c) (d := d) (m := (numP c m s).1)
  unfold zim
  rw [← a.1]
  exact this
theorem Rd.like.recs {s t : Rd} {c d : Bool} (h : s.like t) : ∀ k, (zoi c k s).1 = (zoi d k t).1 ∧ (zoi c k s).2.like (zoi d k t).2
  | 0 => ⟨rfl, h⟩
  | k + 1 => by
    obtain ⟨a, b⟩ := Rd.like.recs h (c := c) (d := d) k
    have e := b.bytes (c := c) (d := d) (m := 64)
    exact ⟨by simp only [zoi, a, e.1], e.2⟩
theorem Rd.like.fields {s t : Rd} {c d : Bool} (h : s.like t) (k : Nat) : (zlR c k s).1 = (zlR d k t).1 ∧ (zlR c k s).2.like (zlR d k t).2 := by
  obtain ⟨t1, t2⟩ := h.bytes (c := c) (d := d) (m := 64)
  obtain ⟨n1, n2⟩ := t2.num (c := c) (d := d) (m := 4)
  obtain ⟨r1, r2⟩ := n2.recs (c := c) (d := d) (numP c 4 (zim c 64 s).2).1
  obtain ⟨g1, g2⟩ := t2.bytes (c := c) (d := d) (m := 64)
  obtain ⟨f1, f2⟩ := g2.num (c := c) (d := d) (m := 9007199254740992)
  obtain ⟨e1, e2⟩ := t2.num (c := c) (d := d) (m := 9007199254740992)
  unfold zlR
  simp only
  split
  · exact ⟨rfl, h⟩
  · split
    · rw [← n1, ← r1, ← t1]; exact ⟨rfl, r2⟩
    · split
      · rw [← t1, ← g1, ← f1]; exact ⟨rfl, f2⟩
      · split
        · rw [← t1, ← e1]; exact ⟨rfl, e2⟩
        · rw [← t1]; exact ⟨rfl, t2⟩
end Go.AW

namespace Go.AW

end Go.AW

namespace Go.AW

end Go.AW

/- Calls that write into an object of their caller's. -/
set_option linter.unusedSimpArgs false

namespace Go.AW

theorem ends_set {σ τ : List zb} {id : Nat} {x : zb} {K : AV → List zb → Prop} {l : List AV} (h1 : Low σ.length (dmT (zcW l))) (hl : zfy σ.length σ) (hx : zoF σ.length x) (h : K (dmT (zcW l)) (σ.set id x)) : zoH σ.length K (some l) (σ.set id x ++ τ) := by
  unfold zoH
  have e : (σ.set id x ++ τ).take σ.length = σ.set id x := by
    have := zgf (σ.set id x) τ
    rwa [List.length_set] at this
  rw [e]
  exact ⟨h1, hl.set hx, h⟩
end Go.AW

/- What is taken was put, and what was put is taken. No program in sight. -/
set_option linter.unusedSimpArgs false

namespace Go.AW

end Go.AW

/- A name has at most 64 bytes; an operation that may be is taken as it was put. No program in sight. -/
set_option linter.unusedSimpArgs false

namespace Go.AW

end Go.AW

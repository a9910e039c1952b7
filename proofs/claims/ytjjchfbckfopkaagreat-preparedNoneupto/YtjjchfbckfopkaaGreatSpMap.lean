/- Maps keyed by integers: what is found after a put. -/
import Derived.Test.YtjjchfbckfopkaaGreatAwEnd
import Derived.Test.YtjjchfbckfopkaaGreatSpRd
import Derived.Test.YtjjchfbckfopkaaGreatSpUtf
set_option linter.all false
set_option linter.unusedSimpArgs false
namespace Go.AW

abbrev ents (l : List (Int × AV)) : List (AV × AV) := l.map fun e => (.d (.int .i64 e.1), e.2)

structure Rd where
  b : List UInt8
  e : Int
def Rd.fail (cut : Bool) (s : Rd) (x : Int) : Rd := if s.e = 0 ∧ x ≠ 0 then ⟨if cut then [] else s.b, x⟩ else s
def numP (cut : Bool) (most : Nat) (s : Rd) : Nat × Rd :=
  if s.e = 0 then (match numR most 0 0 s.b with | .ok (n, r) => (n, ⟨r, 0⟩) | .error x => (0, s.fail cut x)) else (0, s)
def takeP (cut : Bool) (n : Nat) (s : Rd) : List UInt8 × Rd :=
  if s.e = 0 then (if n > s.b.length then ([], s.fail cut 10) else (s.b.take n, ⟨s.b.drop n, 0⟩)) else ([], s)
def zhY (cut : Bool) (most : Nat) (s : Rd) : List UInt8 × Rd := takeP cut (numP cut most s).1 (numP cut most s).2
def zoc (cut : Bool) : Nat → Rd → List (List UInt8) × Rd
  | 0, s => ([], s)
  | k + 1, s => ((zoc cut k s).1 ++ [(zhY cut 64 (zoc cut k s).2).1], (zhY cut 64 (zoc cut k s).2).2)
def zmd (cut : Bool) (k : Nat) (s : Rd) : TOp × Rd :=
  let t := zhY cut 64 s
  if k = 0 then (noOp, s)
  else if k = 2 then (let n := numP cut 4 t.2; let r := zoc cut n.1 n.2; (⟨k, t.1, [], 0, r.1⟩, r.2))
  else if k = 3 then (let g := zhY cut 64 t.2; let f := numP cut 9007199254740992 g.2; (⟨k, t.1, g.1, f.1, []⟩, f.2))
  else if k = 4 then (let f := numP cut 9007199254740992 t.2; (⟨k, t.1, [], f.1, []⟩, f.2))
  else (⟨k, t.1, [], 0, []⟩, t.2)
def Rd.like (s t : Rd) : Prop := s.e = t.e ∧ (s.e = 0 → s.b = t.b)
theorem Rd.like.fail {s t : Rd} {c d : Bool} {x : Int} (h : s.like t) : (s.fail c x).like (t.fail d x) := by
  obtain ⟨h1, h2⟩ := h
  unfold Rd.fail Rd.like
  grind
theorem Rd.like.num {s t : Rd} {c d : Bool} {m : Nat} (h : s.like t) : (numP c m s).1 = (numP d m t).1 ∧ (numP c m s).2.like (numP d m t).2 := by
  have hf : ∀ x, (s.fail c x).like (t.fail d x) := fun x => h.fail
  obtain ⟨h1, h2⟩ := h
  unfold numP
  by_cases h0 : s.e = 0
  · rw [if_pos h0, if_pos (show t.e = 0 from h1 ▸ h0), h2 h0]
    cases numR m 0 0 t.b with
    | ok x => exact ⟨rfl, rfl, fun _ => rfl⟩
    | error x => exact ⟨rfl, hf x⟩
  · rw [if_neg h0, if_neg (h1 ▸ h0)]
    exact ⟨rfl, h1, h2⟩
theorem Rd.like.take {s t : Rd} {c d : Bool} {m : Nat} (h : s.like t) : (takeP c m s).1 = (takeP d m t).1 ∧ (takeP c m s).2.like (takeP d m t).2 := by
  have hf : ∀ x, (s.fail c x).like (t.fail d x) := fun x => h.fail
  obtain ⟨h1, h2⟩ := h
  unfold takeP
  by_cases h0 : s.e = 0
  · rw [if_pos h0, if_pos (show t.e = 0 from h1 ▸ h0), h2 h0]
    split
    · exact ⟨rfl, hf 10⟩
    · exact ⟨rfl, rfl, fun _ => rfl⟩
  · rw [if_neg h0, if_neg (h1 ▸ h0)]
    exact ⟨rfl, h1, h2⟩
theorem Rd.like.bytes {s t : Rd} {c d : Bool} {m : Nat} (h : s.like t) : (zhY c m s).1 = (zhY d m t).1 ∧ (zhY c m s).2.like (zhY d m t).2 := by
  have a := h.num (c := c) (d := d) (m := m)
  have := a.2.take (c := c) (d := d) (m := (numP c m s).1)
  unfold zhY
  rw [← a.1]
  exact this
theorem Rd.like.recs {s t : Rd} {c d : Bool} (h : s.like t) : ∀ k, (zoc c k s).1 = (zoc d k t).1 ∧ (zoc c k s).2.like (zoc d k t).2
  | 0 => ⟨rfl, h⟩
  | k + 1 => by
    obtain ⟨a, b⟩ := Rd.like.recs h (c := c) (d := d) k
    have e := b.bytes (c := c) (d := d) (m := 64)
    exact ⟨by simp only [zoc, a, e.1], e.2⟩
theorem Rd.like.fields {s t : Rd} {c d : Bool} (h : s.like t) (k : Nat) : (zmd c k s).1 = (zmd d k t).1 ∧ (zmd c k s).2.like (zmd d k t).2 := by
  obtain ⟨t1, t2⟩ := h.bytes (c := c) (d := d) (m := 64)
  obtain ⟨n1, n2⟩ := t2.num (c := c) (d := d) (m := 4)
  obtain ⟨r1, r2⟩ := n2.recs (c := c) (d := d) (numP c 4 (zhY c 64 s).2).1
  obtain ⟨g1, g2⟩ := t2.bytes (c := c) (d := d) (m := 64)
  obtain ⟨f1, f2⟩ := g2.num (c := c) (d := d) (m := 9007199254740992)
  obtain ⟨e1, e2⟩ := t2.num (c := c) (d := d) (m := 9007199254740992)
  unfold zmd
  simp only
  split
  · exact ⟨rfl, h⟩
  · split
    · rw [← n1, ← r1, ← t1]; exact ⟨rfl, r2⟩
    · split
      · rw [← t1, ← g1, ← f1]; exact ⟨rfl, f2⟩
      · split
        · rw [← t1, ← e1]; exact ⟨rfl, e2⟩
        · rw [← t1]; exact ⟨rfl, t2⟩



theorem ends_set {σ τ : List zb} {id : Nat} {x : zb} {K : AV → List zb → Prop} {l : List AV} (h1 : Low σ.length (dmT (zcm l))) (hl : zdW σ.length σ) (hx : zoO σ.length x) (h : K (dmT (zcm l)) (σ.set id x)) : Ends σ.length K (some l) (σ.set id x ++ τ) := by
  unfold Ends
  have e : (σ.set id x ++ τ).take σ.length = σ.set id x := by
    have := zga (σ.set id x) τ
    rwa [List.length_set] at this
  rw [e]
  exact ⟨h1, hl.set hx, h⟩


end Go.AW

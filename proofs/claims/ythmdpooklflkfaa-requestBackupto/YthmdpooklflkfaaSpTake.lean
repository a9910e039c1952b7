/- Readers: a reader's bytes and its error; what is taken from them. 'cut': an error drops the bytes. No program in sight. -/
import Derived.Test.YthmdpooklflkfaaSpRd
import Derived.Test.YthmdpooklflkfaaSpUtf
import Derived.Test.YthmdpooklflkfaaAwEnd
import Derived.Test.YthmdpooklflkfaaSpNum
set_option linter.all false
set_option linter.unusedSimpArgs false
namespace Go.AW

structure Rd where
  b : List UInt8
  e : Int
/-- an error stays -/
def Rd.fail (cut : Bool) (s : Rd) (x : Int) : Rd := if s.e = 0 ∧ x ≠ 0 then ⟨if cut then [] else s.b, x⟩ else s
def numP (cut : Bool) (most : Nat) (s : Rd) : Nat × Rd :=
  if s.e = 0 then (match numR most 0 0 s.b with | .ok (n, r) => (n, ⟨r, 0⟩) | .error x => (0, s.fail cut x)) else (0, s)
def takeP (cut : Bool) (n : Nat) (s : Rd) : List UInt8 × Rd :=
  if s.e = 0 then (if n > s.b.length then ([], s.fail cut 10) else (s.b.take n, ⟨s.b.drop n, 0⟩)) else ([], s)
def bytesP (cut : Bool) (most : Nat) (s : Rd) : List UInt8 × Rd := takeP cut (numP cut most s).1 (numP cut most s).2
def recsP (cut : Bool) : Nat → Rd → List (List UInt8) × Rd
  | 0, s => ([], s)
  | k + 1, s => ((recsP cut k s).1 ++ [(bytesP cut 64 (recsP cut k s).2).1], (bytesP cut 64 (recsP cut k s).2).2)
/-- an operation's fields behind its kind -/
def fieldsP (cut : Bool) (k : Nat) (s : Rd) : TOp × Rd :=
  let t := bytesP cut 64 s
  if k = 0 then (noOp, s)
  else if k = 2 then (let n := numP cut 4 t.2; let r := recsP cut n.1 n.2; (⟨k, t.1, [], 0, r.1⟩, r.2))
  else if k = 3 then (let g := bytesP cut 64 t.2; let f := numP cut 9007199254740992 g.2; (⟨k, t.1, g.1, f.1, []⟩, f.2))
  else if k = 4 then (let f := numP cut 9007199254740992 t.2; (⟨k, t.1, [], f.1, []⟩, f.2))
  else (⟨k, t.1, [], 0, []⟩, t.2)
def takeOpP (cut : Bool) (name : List UInt8 → Bool) (s : Rd) : TOp × Rd :=
  let k := numP cut 4 s
  let x := fieldsP cut k.1 k.2
  let z := x.2.fail cut (checkOpF name x.1)
  (if z.e = 0 then x.1 else noOp, z)

/-- the same but for the bytes of a reader that has failed -/
def Rd.like (s t : Rd) : Prop := s.e = t.e ∧ (s.e = 0 → s.b = t.b)
theorem Rd.like.fail {s t : Rd} {c d : Bool} {x : Int} (h : s.like t) : (s.fail c x).like (t.fail d x) := by
  obtain ⟨h1, h2⟩ := h
  unfold Rd.fail Rd.like
  grind
theorem Rd.like.num {s t : Rd} {c d : Bool} {m : Nat} (h : s.like t) : (numP c m s).1 = (numP d m t).1 ∧ (numP c m s).2.like (numP d m t).2 := by
  have hf : ∀ x, (s.fail c x).like (t.fail d x) := fun x => h.fail
  obtain ⟨h1, h2⟩ := h
  unfold numP
  by_cases h0 : s.e = 0
  · rw [if_pos h0, if_pos (show t.e = 0 from h1 ▸ h0), h2 h0]
    cases numR m 0 0 t.b with
    | ok x => exact ⟨rfl, rfl, fun _ => rfl⟩
    | error x => exact ⟨rfl, hf x⟩
  · rw [if_neg h0, if_neg (h1 ▸ h0)]
    exact ⟨rfl, h1, h2⟩
theorem Rd.like.take {s t : Rd} {c d : Bool} {m : Nat} (h : s.like t) : (takeP c m s).1 = (takeP d m t).1 ∧ (takeP c m s).2.like (takeP d m t).2 := by
  have hf : ∀ x, (s.fail c x).like (t.fail d x) := fun x => h.fail
  obtain ⟨h1, h2⟩ := h
  unfold takeP
  by_cases h0 : s.e = 0
  · rw [if_pos h0, if_pos (show t.e = 0 from h1 ▸ h0), h2 h0]
    split
    · exact ⟨rfl, hf 10⟩
    · exact ⟨rfl, rfl, fun _ => rfl⟩
  · rw [if_neg h0, if_neg (h1 ▸ h0)]
    exact ⟨rfl, h1, h2⟩
theorem Rd.like.bytes {s t : Rd} {c d : Bool} {m : Nat} (h : s.like t) : (bytesP c m s).1 = (bytesP d m t).1 ∧ (bytesP c m s).2.like (bytesP d m t).2 := by
  have a := h.num (c := c) (d := d) (m := m)
  have := a.2.take (c := c) (d := d) (m := (numP c m s).1)
  unfold bytesP
  rw [← a.1]
  exact this
theorem Rd.like.recs {s t : Rd} {c d : Bool} (h : s.like t) : ∀ k, (recsP c k s).1 = (recsP d k t).1 ∧ (recsP c k s).2.like (recsP d k t).2
  | 0 => ⟨rfl, h⟩
  | k + 1 => by
    obtain ⟨a, b⟩ := Rd.like.recs h (c := c) (d := d) k
    have e := b.bytes (c := c) (d := d) (m := 64)
    exact ⟨by simp only [recsP, a, e.1], e.2⟩
theorem Rd.like.fields {s t : Rd} {c d : Bool} (h : s.like t) (k : Nat) : (fieldsP c k s).1 = (fieldsP d k t).1 ∧ (fieldsP c k s).2.like (fieldsP d k t).2 := by
  obtain ⟨t1, t2⟩ := h.bytes (c := c) (d := d) (m := 64)
  obtain ⟨n1, n2⟩ := t2.num (c := c) (d := d) (m := 4)
  obtain ⟨r1, r2⟩ := n2.recs (c := c) (d := d) (numP c 4 (bytesP c 64 s).2).1
  obtain ⟨g1, g2⟩ := t2.bytes (c := c) (d := d) (m := 64)
  obtain ⟨f1, f2⟩ := g2.num (c := c) (d := d) (m := 9007199254740992)
  obtain ⟨e1, e2⟩ := t2.num (c := c) (d := d) (m := 9007199254740992)
  unfold fieldsP
  simp only
  split
  · exact ⟨rfl, h⟩
  · split
    · rw [← n1, ← r1, ← t1]; exact ⟨rfl, r2⟩
    · split
      · rw [← t1, ← g1, ← f1]; exact ⟨rfl, f2⟩
      · split
        · rw [← t1, ← e1]; exact ⟨rfl, e2⟩
        · rw [← t1]; exact ⟨rfl, t2⟩
theorem Rd.like.takeOp {s t : Rd} {c d : Bool} {name : List UInt8 → Bool} (h : s.like t) : (takeOpP c name s).1 = (takeOpP d name t).1 ∧ (takeOpP c name s).2.like (takeOpP d name t).2 := by
  obtain ⟨k1, k2⟩ := h.num (c := c) (d := d) (m := 4)
  obtain ⟨x1, x2⟩ := k2.fields (c := c) (d := d) (numP c 4 s).1
  have z := x2.fail (c := c) (d := d) (x := checkOpF name (fieldsP c (numP c 4 s).1 (numP c 4 s).2).1)
  unfold takeOpP
  simp only
  rw [← k1, ← x1, ← z.1]
  exact ⟨rfl, z⟩
end Go.AW

namespace Go.AW

theorem numP_le (cut : Bool) (m : Nat) (s : Rd) : (numP cut m s).1 ≤ m := by
  unfold numP
  split
  · cases h : numR m 0 0 s.b with
    | ok x =>
      obtain ⟨n, r⟩ := x
      obtain ⟨q, h1, h2, h3, _⟩ := numR_of m s.b 0 0 n r (by omega) h
      exact h3
    | error x => exact Nat.zero_le _
  · exact Nat.zero_le _
theorem numR_len {m : Nat} {b : List UInt8} {n : Nat} {r : List UInt8} (h : numR m 0 0 b = .ok (n, r)) : r.length ≤ b.length := by
  obtain ⟨q, h1, h2, _⟩ := numR_of m b 0 0 n r (by omega) h
  rw [h2, List.length_append]; omega
theorem numP_len (m : Nat) (s : Rd) : (numP false m s).2.b.length ≤ s.b.length := by
  unfold numP Rd.fail
  split
  · cases h : numR m 0 0 s.b with
    | ok x => exact numR_len h
    | error x => simp only; split <;> simp
  · exact Nat.le_refl _
theorem takeP_len (n : Nat) (s : Rd) : (takeP false n s).2.b.length ≤ s.b.length := by
  unfold takeP Rd.fail
  split
  · split
    · simp only; split <;> simp
    · simp
  · exact Nat.le_refl _
theorem takeP_len1 (cut : Bool) (n : Nat) (s : Rd) : (takeP cut n s).1.length ≤ n := by
  unfold takeP
  split
  · split
    · simp
    · simp; omega
  · simp
theorem bytesP_len (m : Nat) (s : Rd) : (bytesP false m s).2.b.length ≤ s.b.length := Nat.le_trans (takeP_len _ _) (numP_len m s)
theorem bytesP_len1 (cut : Bool) (m : Nat) (s : Rd) : (bytesP cut m s).1.length ≤ m := Nat.le_trans (takeP_len1 _ _ _) (numP_le _ _ _)
end Go.AW

namespace Go.AW

theorem recsP_len (c : Bool) (s : Rd) : ∀ k, (recsP c k s).1.length = k
  | 0 => rfl
  | k + 1 => by simp [recsP, recsP_len c s k]
theorem recsP_blen (s : Rd) : ∀ k, (recsP false k s).2.b.length ≤ s.b.length
  | 0 => Nat.le_refl _
  | k + 1 => Nat.le_trans (bytesP_len _ _) (recsP_blen s k)
theorem recsE_snoc (rs : List (List UInt8)) (x : List UInt8) : recsE (rs ++ [x]) = recsE rs ++ [[D.slice (bcs x)]] := by simp [recsE]
end Go.AW

/- Calls that write into an object of their caller's. -/
set_option linter.unusedSimpArgs false

namespace Go.AW

theorem ends_set {σ τ : List AObj} {id : Nat} {x : AObj} {K : AV → List AObj → Prop} {l : List AV} (h1 : Low σ.length (dmT (pack l))) (hl : Lows σ.length σ) (hx : LowO σ.length x) (h : K (dmT (pack l)) (σ.set id x)) : Ends σ.length K (some l) (σ.set id x ++ τ) := by
  unfold Ends
  have e : (σ.set id x ++ τ).take σ.length = σ.set id x := by
    have := take_app (σ.set id x) τ
    rwa [List.length_set] at this
  rw [e]
  exact ⟨h1, hl.set hx, h⟩
theorem ends_set0 {σ : List AObj} {id : Nat} {x : AObj} {K : AV → List AObj → Prop} {l : List AV} (h1 : Low σ.length (dmT (pack l))) (hl : Lows σ.length σ) (hx : LowO σ.length x) (h : K (dmT (pack l)) (σ.set id x)) : Ends σ.length K (some l) (σ.set id x) := by
  have := ends_set (τ := []) h1 hl hx h
  rwa [List.append_nil] at this
theorem get_set_self {α : Type} {σ : List α} {id : Nat} {x y : α} (h : σ[id]? = some x) : (σ.set id y)[id]? = some y := by
  rw [List.getElem?_set_self (List.getElem?_eq_some_iff.1 h).1]
theorem set_self {α : Type} {σ : List α} {id : Nat} {x : α} (h : σ[id]? = some x) : σ.set id x = σ := by
  obtain ⟨h1, rfl⟩ := List.getElem?_eq_some_iff.1 h
  exact List.set_getElem_self h1
end Go.AW

/- What is taken was put, and what was put is taken. No program in sight. -/
set_option linter.unusedSimpArgs false

namespace Go.AW

theorem numR_err {m : Nat} : ∀ {b : List UInt8} {i acc : Nat} {x : Int}, numR m i acc b = .error x → x ≠ 0
  | [], i, acc, x, h => by simp only [numR, Except.error.injEq] at h; omega
  | c :: r, i, acc, x, h => by
    simp only [numR] at h
    split at h
    · simp only [Except.error.injEq] at h; omega
    · split at h
      · split at h
        · simp only [Except.error.injEq] at h; omega
        · cases h
      · exact numR_err h
theorem fail_ne {c : Bool} {s : Rd} {x : Int} (h : s.e = 0) (hx : x ≠ 0) : (s.fail c x).e ≠ 0 := by
  rw [Rd.fail, if_pos ⟨h, hx⟩]; exact hx
theorem numP_ok {c : Bool} {m : Nat} {s : Rd} (h : (numP c m s).2.e = 0) : s.e = 0 ∧ s.b = numB (numP c m s).1 ++ (numP c m s).2.b := by
  unfold numP at h ⊢
  by_cases h0 : s.e = 0
  · rw [if_pos h0] at h ⊢
    refine ⟨h0, ?_⟩
    cases e : numR m 0 0 s.b with
    | ok x =>
      obtain ⟨n, r⟩ := x
      obtain ⟨q, h1, h2, _⟩ := numR_of m s.b 0 0 n r (by omega) e
      simp only [Nat.pow_zero, Nat.mul_one, Nat.zero_add] at h1
      simp only
      rw [h1]; exact h2
    | error x =>
      rw [e] at h
      exact absurd h (fail_ne h0 (numR_err e))
  · rw [if_neg h0] at h; exact absurd h h0
theorem takeP_ok {c : Bool} {n : Nat} {s : Rd} (h : (takeP c n s).2.e = 0) : s.e = 0 ∧ s.b = (takeP c n s).1 ++ (takeP c n s).2.b ∧ (takeP c n s).1.length = n := by
  unfold takeP at h ⊢
  by_cases h0 : s.e = 0
  · rw [if_pos h0] at h ⊢
    refine ⟨h0, ?_⟩
    split
    · rename_i h1
      rw [if_pos h1] at h
      exact absurd h (fail_ne h0 (by omega))
    · simp; omega
  · rw [if_neg h0] at h; exact absurd h h0
theorem bytesP_ok {c : Bool} {m : Nat} {s : Rd} (h : (bytesP c m s).2.e = 0) : s.e = 0 ∧ s.b = putB (bytesP c m s).1 ++ (bytesP c m s).2.b := by
  unfold bytesP at h ⊢
  obtain ⟨h1, h2, h3⟩ := takeP_ok h
  obtain ⟨g1, g2⟩ := numP_ok h1
  refine ⟨g1, ?_⟩
  rw [putB, h3, List.append_assoc, ← h2]
  exact g2
theorem recsB_app (a b : List (List UInt8)) : recsB (a ++ b) = recsB a ++ recsB b := by simp [recsB]
theorem recsP_ok {c : Bool} {s : Rd} : ∀ {k : Nat}, (recsP c k s).2.e = 0 → s.e = 0 ∧ s.b = recsB (recsP c k s).1 ++ (recsP c k s).2.b
  | 0, h => ⟨h, rfl⟩
  | k + 1, h => by
    simp only [recsP] at h ⊢
    obtain ⟨h1, h2⟩ := bytesP_ok h
    obtain ⟨g1, g2⟩ := recsP_ok (k := k) h1
    refine ⟨g1, ?_⟩
    rw [recsB_app, List.append_assoc]
    rw [g2]
    congr 1
    rw [h2]
    simp [recsB]
theorem fieldsP_ok {c : Bool} {k : Nat} {s : Rd} (hk : k ≤ 4) (h : (fieldsP c k s).2.e = 0) : s.e = 0 ∧ numB k ++ s.b = opB (fieldsP c k s).1 ++ (fieldsP c k s).2.b := by
  rcases (by omega : k = 0 ∨ k = 1 ∨ k = 2 ∨ k = 3 ∨ k = 4) with rfl | rfl | rfl | rfl | rfl
  · exact ⟨h, by rw [opB_0 rfl]; rfl⟩
  · obtain ⟨h1, h2⟩ := bytesP_ok (c := c) (m := 64) (s := s) h
    refine ⟨h1, ?_⟩
    rw [h2, opB_1 rfl]
    simp [fieldsP, putB]
  · obtain ⟨a1, a2⟩ := recsP_ok (c := c) (s := (numP c 4 (bytesP c 64 s).2).2) (k := (numP c 4 (bytesP c 64 s).2).1) h
    obtain ⟨b1, b2⟩ := numP_ok a1
    obtain ⟨h1, h2⟩ := bytesP_ok b1
    refine ⟨h1, ?_⟩
    rw [h2, b2, a2, opB_2 rfl]
    simp [fieldsP, putB, recsP_len]
  · obtain ⟨a1, a2⟩ := numP_ok (c := c) (m := 9007199254740992) (s := (bytesP c 64 (bytesP c 64 s).2).2) h
    obtain ⟨b1, b2⟩ := bytesP_ok a1
    obtain ⟨h1, h2⟩ := bytesP_ok b1
    refine ⟨h1, ?_⟩
    rw [h2, b2, a2, opB_3 rfl]
    simp [fieldsP, putB]
  · obtain ⟨a1, a2⟩ := numP_ok (c := c) (m := 9007199254740992) (s := (bytesP c 64 s).2) h
    obtain ⟨h1, h2⟩ := bytesP_ok a1
    refine ⟨h1, ?_⟩
    rw [h2, a2, opB_4 rfl]
    simp [fieldsP, putB]
/-- what is taken has these bytes, and may be -/
theorem takeOpP_ok {c : Bool} {name : List UInt8 → Bool} {s : Rd} (h : (takeOpP c name s).2.e = 0) : s.e = 0 ∧ checkOpF name (takeOpP c name s).1 = 0 ∧ s.b = opB (takeOpP c name s).1 ++ (takeOpP c name s).2.b := by
  unfold takeOpP at h ⊢
  simp only at h ⊢
  rw [if_pos h]
  have hf : (fieldsP c (numP c 4 s).1 (numP c 4 s).2).2.e = 0 ∧ checkOpF name (fieldsP c (numP c 4 s).1 (numP c 4 s).2).1 = 0 := by
    unfold Rd.fail at h
    split at h
    · rename_i h1; exact absurd h h1.2
    · rename_i h1
      refine ⟨h, ?_⟩
      rcases Classical.em (checkOpF name (fieldsP c (numP c 4 s).1 (numP c 4 s).2).1 = 0) with h2 | h2
      · exact h2
      · exact absurd ⟨h, h2⟩ h1
  obtain ⟨h1, h2⟩ := fieldsP_ok (numP_le c 4 s) hf.1
  obtain ⟨g1, g2⟩ := numP_ok h1
  refine ⟨g1, hf.2, ?_⟩
  have hb : ((fieldsP c (numP c 4 s).1 (numP c 4 s).2).2.fail c (checkOpF name (fieldsP c (numP c 4 s).1 (numP c 4 s).2).1)) = (fieldsP c (numP c 4 s).1 (numP c 4 s).2).2 := by
    rw [hf.2, Rd.fail, if_neg (by simp)]
  rw [hb, ← h2]
  exact g2

theorem numP_put (c : Bool) {m n : Nat} (hm : n ≤ m) (hn : n < 18446744073709551616) (r : List UInt8) : numP c m ⟨numB n ++ r, 0⟩ = (n, ⟨r, 0⟩) := by
  have := numR_put m n 0 0 r (by omega) (by simp; omega) (by omega) (by simp; omega)
  simp only [Nat.pow_zero, Nat.mul_one, Nat.zero_add] at this
  simp only [numP, if_true, this]
theorem bytesP_put (c : Bool) {m : Nat} {x : List UInt8} (hm : x.length ≤ m) (hn : x.length < 18446744073709551616) (r : List UInt8) : bytesP c m ⟨putB x ++ r, 0⟩ = (x, ⟨r, 0⟩) := by
  rw [bytesP, putB, List.append_assoc, numP_put c hm hn]
  simp only [takeP, if_true, List.length_append]
  rw [if_neg (by omega)]
  simp
theorem recsP_put (c : Bool) {rs : List (List UInt8)} (h : ∀ x ∈ rs, x.length ≤ 64) (r : List UInt8) : ∀ k, k ≤ rs.length → recsP c k ⟨recsB rs ++ r, 0⟩ = (rs.take k, ⟨recsB (rs.drop k) ++ r, 0⟩)
  | 0, _ => by simp [recsP]
  | k + 1, hk => by
    have hd : rs.drop k = rs[k] :: rs.drop (k + 1) := List.drop_eq_getElem_cons (by omega)
    have hb : recsB (rs.drop k) ++ r = putB rs[k] ++ (recsB (rs.drop (k + 1)) ++ r) := by rw [hd]; simp only [recsB, List.map_cons, List.flatten_cons, List.append_assoc]
    have hl := h rs[k] (List.getElem_mem _)
    rw [recsP, recsP_put c h r k (by omega), hb, bytesP_put c hl (by omega), List.take_add_one]
    simp [List.getElem?_eq_getElem (show k < rs.length by omega)]
end Go.AW

/- A name has at most 64 bytes; an operation that may be is taken as it was put. No program in sight. -/
set_option linter.unusedSimpArgs false

namespace Go.AW

theorem countF_four : ∀ (f : Nat) (s : List UInt8) (n : Nat), countF f s = some n → s.length ≤ 4 * n
  | 0, _, _, h => by simp [countF] at h
  | f + 1, s, n, h => by
    simp only [countF] at h
    split at h
    · rename_i h0; cases h; simp [h0]
    · split at h
      · cases h
      · simp only [Option.map_eq_some_iff] at h
        obtain ⟨m, hm, rfl⟩ := h
        have := countF_four f _ m hm
        have h4 := (dec1_width s).2.1
        simp only [List.length_drop] at *
        omega
theorem name_len {s : List UInt8} (h : nameF s = true) : s.length ≤ 64 := by
  simp only [nameF, runesF, decide_eq_true_eq] at h
  cases e : countF (s.length + 1) s with
  | none => simp [e] at h
  | some n =>
    have := countF_four _ s n e
    simp only [e] at h
    by_cases h16 : n > 16
    · simp [h16] at h
    · omega
theorem fieldsP_put (c : Bool) {o : TOp} (h : checkOpF nameF o = 0) (r : List UInt8) : ∃ q : List UInt8, opB o ++ r = numB o.kind.toNat ++ q ∧ fieldsP c o.kind.toNat ⟨q, 0⟩ = (o, ⟨r, 0⟩) := by
  obtain ⟨h1, h2, h3, h4, h5⟩ := check_ok h
  have hn : o.kind ≠ 0 → o.topic.length ≤ 64 := fun h0 => name_len (by unfold checkOpF at h; grind)
  have hg : o.kind = 3 → o.group.length ≤ 64 := fun h0 => name_len (by unfold checkOpF at h; grind)
  have hr : o.kind = 2 → o.recs.length ≤ 4 ∧ o.recs.any (fun r => decide (r.length > 64)) = false := fun h0 => by
    unfold checkOpF at h
    refine ⟨by grind, ?_⟩
    cases e : o.recs.any (fun r => decide (r.length > 64)) <;> grind
  clear h
  obtain ⟨k, t, g, f, rs⟩ := o
  simp only at *
  simp only [onlyF, noOp] at h5
  rcases (by omega : k = 0 ∨ k = 1 ∨ k = 2 ∨ k = 3 ∨ k = 4) with rfl | rfl | rfl | rfl | rfl
  · simp at h5
    refine ⟨r, by rw [opB_0 rfl], ?_⟩
    simp [fieldsP, noOp, h5]
  · simp at h5
    have := hn (by omega)
    refine ⟨putB t ++ r, by rw [opB_1 rfl]; simp [putB], ?_⟩
    have e : (1 : Int).toNat = 1 := rfl
    simp only [e, fieldsP, bytesP_put c this (by omega)]
    simp [h5]
  · simp at h5
    have ht := hn (by omega)
    obtain ⟨hl, ha⟩ := hr rfl
    have ha : ∀ x ∈ rs, x.length ≤ 64 := fun x hx => by
      have := List.any_eq_false.1 ha x hx
      simpa using this
    refine ⟨putB t ++ (numB rs.length ++ (recsB rs ++ r)), by rw [opB_2 rfl]; simp [putB], ?_⟩
    have e : (2 : Int).toNat = 2 := rfl
    simp only [e, fieldsP, bytesP_put c ht (by omega), numP_put c hl (by omega), recsP_put c ha r rs.length (by omega)]
    simp [h5, recsB]
  · simp at h5
    have ht := hn (by omega)
    have hg := hg rfl
    refine ⟨putB t ++ (putB g ++ (numB f.toNat ++ r)), by rw [opB_3 rfl]; simp [putB], ?_⟩
    have e : (3 : Int).toNat = 3 := rfl
    simp only [e, fieldsP, bytesP_put c ht (by omega), bytesP_put c hg (by omega), numP_put c (show f.toNat ≤ 9007199254740992 by omega) (by omega)]
    simp [h5]; omega
  · simp at h5
    have ht := hn (by omega)
    refine ⟨putB t ++ (numB f.toNat ++ r), by rw [opB_4 rfl]; simp [putB], ?_⟩
    have e : (4 : Int).toNat = 4 := rfl
    simp only [e, fieldsP, bytesP_put c ht (by omega), numP_put c (show f.toNat ≤ 9007199254740992 by omega) (by omega)]
    simp [h5]; omega
theorem takeOpP_put (c : Bool) {o : TOp} (h : checkOpF nameF o = 0) (r : List UInt8) : takeOpP c nameF ⟨opB o ++ r, 0⟩ = (o, ⟨r, 0⟩) := by
  obtain ⟨q, h1, h2⟩ := fieldsP_put c h r
  obtain ⟨k1, k2, _⟩ := check_ok h
  rw [takeOpP, h1]
  simp only [numP_put c (show o.kind.toNat ≤ 4 by omega) (by omega), h2, h]
  simp [Rd.fail]
end Go.AW

/- One byte of a number, as a loop over at most ten reads it. No program in sight. -/
/- A number's next seven bits. No program in sight. -/
set_option linter.unusedSimpArgs false
namespace Go.AW
open Go

theorem wrap64m (n : Nat) : IntKind.u64.wrap (n : Int) = ((n % 18446744073709551616 : Nat) : Int) := by
  simp [IntKind.wrap, IntKind.signed, IntKind.bits]
theorem ofInt64_toNat (n : Nat) : (BitVec.ofInt IntKind.u64.bits (n : Int)).toNat = n % 18446744073709551616 := by
  rw [BitVec.toNat_ofInt]
  have : ((2 ^ IntKind.u64.bits : Nat) : Int) = 18446744073709551616 := by decide
  rw [this]; omega
theorem ofInt8_toNat (n : Nat) : (BitVec.ofInt IntKind.u8.bits (n : Int)).toNat = n % 256 := by
  rw [BitVec.toNat_ofInt]
  have : ((2 ^ IntKind.u8.bits : Nat) : Int) = 256 := by decide
  rw [this]; omega
theorem andLow (x : Nat) (hx : x < 256) : IntKind.u8.wrap ↑(BitVec.ofInt IntKind.u8.bits (x : Int) &&& BitVec.ofInt IntKind.u8.bits 127).toNat = ((x % 128 : Nat) : Int) := by
  have e : (127 : Int) = ((127 : Nat) : Int) := rfl
  rw [BitVec.toNat_and, ofInt8_toNat, e, ofInt8_toNat, Nat.mod_eq_of_lt hx, show 127 % 256 = 2 ^ 7 - 1 from rfl, Nat.and_two_pow_sub_one_eq_mod]
  rw [wrap8_lt (by omega)]
theorem pow128 (k : Nat) : 128 ^ k = 2 ^ (7 * k) := by rw [Nat.pow_mul]
theorem numStep {acc k x : Nat} (hx : x < 256) (hk : k ≤ 9) (ha : acc < 128 ^ k) :
    IntKind.u64.wrap ↑(BitVec.ofInt IntKind.u64.bits (acc : Int) ||| BitVec.ofInt IntKind.u64.bits (IntKind.u64.wrap (IntKind.u64.wrap (IntKind.u8.wrap ↑(BitVec.ofInt IntKind.u8.bits (x : Int) &&& BitVec.ofInt IntKind.u8.bits 127).toNat) * 2 ^ min (IntKind.i64.wrap (7 * (k : Int))).toNat IntKind.u64.bits))).toNat
      = (((acc + x % 128 * 128 ^ k) % 18446744073709551616 : Nat) : Int) := by
  have h63 : 128 ^ k ≤ 128 ^ 9 := Nat.pow_le_pow_right (by omega) hk
  have h63' : (128 : Nat) ^ 9 = 9223372036854775808 := rfl
  have e1 : min (IntKind.i64.wrap (7 * (k : Int))).toNat IntKind.u64.bits = 7 * k := by
    rw [wrap64i (by omega) (by omega)]
    have : IntKind.u64.bits = 64 := rfl
    omega
  have e2 : ((x % 128 : Nat) : Int) * 2 ^ (7 * k) = ((x % 128 * 2 ^ (7 * k) : Nat) : Int) := by simp
  rw [andLow x hx, wrap64u (n := x % 128) (by omega), e1, e2, wrap64m (x % 128 * 2 ^ (7 * k)), BitVec.toNat_or, ofInt64_toNat, ofInt64_toNat, Nat.mod_mod, Nat.mod_eq_of_lt (by omega : acc < 18446744073709551616)]
  rw [pow128 k] at ha ⊢
  have e3 : 18446744073709551616 = 2 ^ (7 * k) * 2 ^ (64 - 7 * k) := by
    rw [← Nat.pow_add, show 7 * k + (64 - 7 * k) = 64 by omega]
  have e4 : x % 128 * 2 ^ (7 * k) % 18446744073709551616 = 2 ^ (7 * k) * (x % 128 % 2 ^ (64 - 7 * k)) := by
    rw [Nat.mul_comm, e3, Nat.mul_mod_mul_left]
  have e5 : acc ||| 2 ^ (7 * k) * (x % 128 % 2 ^ (64 - 7 * k)) = 2 ^ (7 * k) * (x % 128 % 2 ^ (64 - 7 * k)) + acc := by
    rw [Nat.or_comm, Nat.two_pow_add_eq_or_of_lt ha]
  have hr : 2 ^ (7 * k) * (x % 128 % 2 ^ (64 - 7 * k)) + acc < 18446744073709551616 := by
    have hz : x % 128 % 2 ^ (64 - 7 * k) < 2 ^ (64 - 7 * k) := Nat.mod_lt _ (Nat.two_pow_pos _)
    calc 2 ^ (7 * k) * (x % 128 % 2 ^ (64 - 7 * k)) + acc < 2 ^ (7 * k) * (x % 128 % 2 ^ (64 - 7 * k)) + 2 ^ (7 * k) := by omega
      _ = 2 ^ (7 * k) * (x % 128 % 2 ^ (64 - 7 * k) + 1) := by rw [Nat.mul_add, Nat.mul_one]
      _ ≤ 2 ^ (7 * k) * 2 ^ (64 - 7 * k) := Nat.mul_le_mul_left _ hz
      _ = 18446744073709551616 := e3.symm
  rw [e4, e5, wrap64u hr]
  have e6 : (acc + x % 128 * 2 ^ (7 * k)) % 18446744073709551616 = (acc + x % 128 * 2 ^ (7 * k) % 18446744073709551616) % 18446744073709551616 := by omega
  rw [e6, e4, Nat.add_comm acc, Nat.mod_eq_of_lt hr]
end Go.AW

set_option linter.unusedSimpArgs false

namespace Go.AW

theorem numFit {acc k x : Nat} (hk : k ≤ 9) (ha : acc < 128 ^ k) (h : ¬ (k = 9 ∧ x > 1)) : acc + x % 128 * 128 ^ k < 128 ^ (k + 1) ∧ acc + x % 128 * 128 ^ k < 18446744073709551616 := by
  have h1 : x % 128 * 128 ^ k ≤ 127 * 128 ^ k := Nat.mul_le_mul_right _ (by omega)
  have h2 : 128 ^ (k + 1) = 128 ^ k * 128 := Nat.pow_succ ..
  refine ⟨by omega, ?_⟩
  by_cases h9 : k = 9
  · subst h9
    have h3 : x % 128 * 128 ^ 9 ≤ 1 * 128 ^ 9 := Nat.mul_le_mul_right _ (by omega)
    have h4 : (128 : Nat) ^ 9 = 9223372036854775808 := rfl
    omega
  · have h3 : 128 ^ (k + 1) ≤ 128 ^ 9 := Nat.pow_le_pow_right (by omega) (by omega)
    have h4 : (128 : Nat) ^ 9 = 9223372036854775808 := rfl
    omega
theorem numR_big {m k acc : Nat} {c : UInt8} {r : List UInt8} (hc : c.toNat > 127) (hk : k < 9) : numR m k acc (c :: r) = numR m (k + 1) (acc + c.toNat % 128 * 128 ^ k) r := by
  rw [numR, if_neg (by omega), if_neg (by omega)]
theorem numR_nine {m acc : Nat} {c : UInt8} {r : List UInt8} (hc : c.toNat > 1) : numR m 9 acc (c :: r) = .error 11 := by
  rw [numR, if_pos ⟨rfl, hc⟩]
theorem numR_bad {m k acc : Nat} {c : UInt8} {r : List UInt8} (hc : c.toNat < 128) (hk : k ≤ 9) (ha : acc < 128 ^ k) (h : (k > 0 ∧ c.toNat = 0) ∨ (k = 9 ∧ c.toNat > 1) ∨ (acc + c.toNat % 128 * 128 ^ k) % 18446744073709551616 > m) : numR m k acc (c :: r) = .error 11 := by
  rw [numR]
  by_cases h1 : k = 9 ∧ c.toNat > 1
  · rw [if_pos h1]
  · have hf := (numFit hk ha h1).2
    rw [Nat.mod_eq_of_lt hf, Nat.mod_eq_of_lt hc] at h
    rw [if_neg h1, if_pos hc, if_pos (by rcases h with h | h | h; exact .inl h; exact absurd h h1; exact .inr h)]
theorem numR_good {m k acc : Nat} {c : UInt8} {r : List UInt8} (hc : c.toNat < 128) (hk : k ≤ 9) (ha : acc < 128 ^ k) (h0 : ¬ (k > 0 ∧ c.toNat = 0)) (h1 : ¬ (k = 9 ∧ c.toNat > 1)) (h : ¬ ((acc + c.toNat % 128 * 128 ^ k) % 18446744073709551616 > m)) : numR m k acc (c :: r) = .ok ((acc + c.toNat % 128 * 128 ^ k) % 18446744073709551616, r) := by
  have hf := (numFit hk ha h1).2
  rw [Nat.mod_eq_of_lt hf] at h ⊢
  rw [Nat.mod_eq_of_lt hc] at h ⊢
  rw [numR, if_neg h1, if_pos hc, if_neg (by rintro (h' | h'); exact h0 h'; exact h h')]
end Go.AW

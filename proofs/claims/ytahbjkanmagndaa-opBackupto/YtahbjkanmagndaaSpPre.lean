/- Bytes that say where they end: numbers, byte strings, operations. No program in sight. -/
import Derived.Test.YtahbjkanmagndaaSpRd
set_option linter.all false
set_option linter.unusedSimpArgs false
namespace Go.AW

theorem numB_pre {m n : Nat} {s t : List UInt8} (hm : m < 18446744073709551616) (hn : n < 18446744073709551616) (h : numB m ++ s = numB n ++ t) : m = n ∧ s = t := by
  have a := numR_put 18446744073709551616 m 0 0 s (by omega) (by simp; omega) (by omega) (by simp; omega)
  have b := numR_put 18446744073709551616 n 0 0 t (by omega) (by simp; omega) (by omega) (by simp; omega)
  rw [h, b] at a
  simp only [Except.ok.injEq, Prod.mk.injEq, Nat.pow_zero, Nat.mul_one, Nat.zero_add] at a
  exact ⟨a.1.symm, a.2.symm⟩
theorem putB_pre {x y : List UInt8} {s t : List UInt8} (hm : x.length < 18446744073709551616) (hn : y.length < 18446744073709551616) (h : putB x ++ s = putB y ++ t) : x = y ∧ s = t := by
  simp only [putB, List.append_assoc] at h
  obtain ⟨e, h⟩ := numB_pre hm hn h
  exact List.append_inj h e
theorem recsB_pre : ∀ {xs ys : List (List UInt8)} {s t : List UInt8}, xs.length = ys.length → (∀ x ∈ xs, x.length < 18446744073709551616) → (∀ y ∈ ys, y.length < 18446744073709551616) → recsB xs ++ s = recsB ys ++ t → xs = ys ∧ s = t
  | [], [], s, t, _, _, _, h => ⟨rfl, by simpa [recsB] using h⟩
  | [], y :: ys, _, _, hl, _, _, _ => by simp at hl
  | x :: xs, [], _, _, hl, _, _, _ => by simp at hl
  | x :: xs, y :: ys, s, t, hl, hx, hy, h => by
    simp only [recsB, List.map_cons, List.flatten_cons, List.append_assoc] at h
    obtain ⟨e1, h⟩ := putB_pre (hx _ (.head _)) (hy _ (.head _)) h
    obtain ⟨e2, e3⟩ := recsB_pre (by simpa using hl) (fun z hz => hx z (.tail _ hz)) (fun z hz => hy z (.tail _ hz)) h
    exact ⟨by rw [e1, e2], e3⟩
theorem opB_pre {name name' : List UInt8 → Bool} {a b : TOp} {s t : List UInt8} (ha : checkOpF name a = 0) (hb : checkOpF name' b = 0) (za : opSz a ≤ 1073741824) (zb : opSz b ≤ 1073741824) (h : opB a ++ s = opB b ++ t) : a = b ∧ s = t := by
  obtain ⟨a1, a2, a3, a4, a5⟩ := check_ok ha
  obtain ⟨b1, b2, b3, b4, b5⟩ := check_ok hb
  have ra : ∀ x ∈ a.recs, x.length < 18446744073709551616 := fun x hx => by have := rec_le hx; unfold opSz at za; omega
  have rb : ∀ x ∈ b.recs, x.length < 18446744073709551616 := fun x hx => by have := rec_le hx; unfold opSz at zb; omega
  have la := recs_len_le a.recs
  have lb := recs_len_le b.recs
  unfold opSz at za zb
  simp only [opB, List.append_assoc] at h
  obtain ⟨k, h⟩ := numB_pre (by omega) (by omega) h
  have hk : b.kind = a.kind := by omega
  obtain ⟨ak, at', ag, ao, ar⟩ := a
  obtain ⟨bk, bt, bg, bo, br⟩ := b
  simp only at *
  subst hk
  simp only [onlyF, noOp] at a5 b5
  rcases (by omega : bk = 0 ∨ bk = 1 ∨ bk = 2 ∨ bk = 3 ∨ bk = 4) with rfl | rfl | rfl | rfl | rfl
  · simp at h a5 b5
    simp [a5, b5, h]
  · simp at h a5 b5
    obtain ⟨e, h⟩ := putB_pre (by omega) (by omega) h
    simp [a5, b5, h, e]
  · simp at h a5 b5
    obtain ⟨e, h⟩ := putB_pre (by omega) (by omega) h
    obtain ⟨e2, h⟩ := numB_pre (by omega) (by omega) h
    obtain ⟨e3, h⟩ := recsB_pre e2 ra rb h
    simp [a5, b5, h, e, e3]
  · simp at h a5 b5
    obtain ⟨e, h⟩ := putB_pre (by omega) (by omega) h
    obtain ⟨e2, h⟩ := putB_pre (by omega) (by omega) h
    obtain ⟨e3, h⟩ := numB_pre (by omega) (by omega) h
    have : ao = bo := by omega
    simp [a5, b5, h, e, e2, this]
  · simp at h a5 b5
    obtain ⟨e, h⟩ := putB_pre (by omega) (by omega) h
    obtain ⟨e3, h⟩ := numB_pre (by omega) (by omega) h
    have : ao = bo := by omega
    simp [a5, b5, h, e, this]
theorem numB_pos (n : Nat) : 0 < (numB n).length := by
  by_cases h : n < 128
  · simp [numB_small h]
  · simp [numB_big h]
theorem opB_pos (o : TOp) : 0 < (opB o).length := by
  have := numB_pos o.kind.toNat
  simp only [opB, List.length_append]; omega
/-- of two operations that may be, the bytes of one begin with the other's only where they are the same -/
theorem opB_apart {name name' : List UInt8 → Bool} {a b : TOp} (ha : checkOpF name a = 0) (hb : checkOpF name' b = 0) (za : opSz a ≤ 1073741824) (zb : opSz b ≤ 1073741824) : opB b <+: opB a ↔ a = b := by
  constructor
  · rintro ⟨t, h⟩
    exact (opB_pre (s := []) (t := t) ha hb za zb (by rw [h, List.append_nil])).1
  · rintro rfl
    exact List.prefix_refl _
end Go.AW

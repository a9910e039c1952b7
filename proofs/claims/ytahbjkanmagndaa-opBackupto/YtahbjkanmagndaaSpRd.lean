/- How numbers and byte strings are read. No program in sight. -/
import Derived.Test.YtahbjkanmagndaaSpOp
set_option linter.all false
set_option linter.unusedSimpArgs false
namespace Go.AW

/-- a number, from its byte i on; 10: bytes that end too early, 11: too great, or not in its shortest form -/
def numR (most : Nat) : Nat → Nat → List UInt8 → Except Int (Nat × List UInt8)
  | _, _, [] => .error 10
  | i, acc, c :: r =>
    if i = 9 ∧ c.toNat > 1 then .error 11
    else if c.toNat < 128 then (if (i > 0 ∧ c.toNat = 0) ∨ acc + c.toNat * 128 ^ i > most then .error 11 else .ok (acc + c.toNat * 128 ^ i, r))
    else numR most (i + 1) (acc + c.toNat % 128 * 128 ^ i) r

theorem numR_put (most : Nat) : ∀ (m i acc : Nat) (rest : List UInt8), i ≤ 9 → m < 128 ^ (9 - i) * 2 → (i > 0 → m ≠ 0) → acc + m * 128 ^ i ≤ most → numR most i acc (numB m ++ rest) = .ok (acc + m * 128 ^ i, rest) := by
  intro m
  induction m using Nat.strongRecOn with
  | ind m ih =>
    intro i acc rest hi hm h0 hle
    by_cases hs : m < 128
    · have e : (UInt8.ofNat m).toNat = m := by simp; omega
      rw [numB_small hs]
      simp only [List.cons_append, List.nil_append, numR, e]
      rw [if_neg (by rintro ⟨rfl, h⟩; simp at hm; omega), if_pos hs, if_neg (by rintro (⟨h1, h2⟩ | h); exact h0 h1 h2; omega)]
    · have e : (UInt8.ofNat (m % 128 + 128)).toNat = m % 128 + 128 := by simp; omega
      have hi9 : i < 9 := by
        rcases Nat.lt_or_ge i 9 with h | h
        · exact h
        · have : i = 9 := by omega
          subst this
          simp at hm; omega
      rw [numB_big hs]
      simp only [List.cons_append, numR, e]
      rw [if_neg (by omega), if_neg (by omega)]
      have hp : 128 ^ (9 - i) = 128 ^ (9 - (i + 1)) * 128 := by rw [show 9 - i = (9 - (i + 1)) + 1 by omega, Nat.pow_succ]
      have hpi : 128 ^ (i + 1) = 128 ^ i * 128 := Nat.pow_succ ..
      have hmod : (m % 128 + 128) % 128 = m % 128 := by omega
      have hsum : acc + m % 128 * 128 ^ i + m / 128 * 128 ^ (i + 1) = acc + m * 128 ^ i := by
        rw [hpi]
        have : m * 128 ^ i = (m % 128 + m / 128 * 128) * 128 ^ i := by rw [show m % 128 + m / 128 * 128 = m by omega]
        rw [this, Nat.add_mul, Nat.mul_comm (128 ^ i) 128, ← Nat.mul_assoc, Nat.add_assoc]
      rw [hmod, ih (m / 128) (by omega) (i + 1) _ rest (by omega) (by rw [hp] at hm; rw [Nat.div_lt_iff_lt_mul (by omega)]; rw [Nat.mul_right_comm] at hm; exact hm) (by omega) (by rw [hsum]; exact hle), hsum]
theorem numR_of (most : Nat) : ∀ (bs : List UInt8) (i acc n : Nat) (rest : List UInt8), i ≤ 9 → numR most i acc bs = .ok (n, rest) → ∃ m, n = acc + m * 128 ^ i ∧ bs = numB m ++ rest ∧ n ≤ most ∧ (i > 0 → m ≠ 0) ∧ m < 128 ^ (9 - i) * 2
  | [], i, acc, n, rest, _, h => by simp [numR] at h
  | c :: r, i, acc, n, rest, hi, h => by
    have hc := c.toNat_lt
    simp only [numR] at h
    split at h
    · cases h
    · rename_i h1
      split at h
      · rename_i h2
        split at h
        · cases h
        · rename_i h3
          cases h
          have hp : 1 ≤ 128 ^ (9 - i) := Nat.one_le_pow _ _ (by omega)
          refine ⟨c.toNat, rfl, ?_, by omega, fun hi0 hc0 => h3 (.inl ⟨hi0, hc0⟩), ?_⟩
          · rw [numB_small h2]; simp
          · rcases Nat.lt_or_ge i 9 with h9 | h9
            · have : 128 ^ 1 ≤ 128 ^ (9 - i) := Nat.pow_le_pow_right (by omega) (by omega)
              omega
            · have : i = 9 := by omega
              subst this
              simp; omega
      · rename_i h2
        have hi9 : i < 9 := by
          rcases Nat.lt_or_ge i 9 with h9 | h9
          · exact h9
          · exact absurd ⟨by omega, by omega⟩ h1
        obtain ⟨m, e1, e2, e3, e4, e5⟩ := numR_of most r (i + 1) _ n rest (by omega) h
        have hm0 : m ≠ 0 := e4 (by omega)
        have hpi : 128 ^ (i + 1) = 128 ^ i * 128 := Nat.pow_succ ..
        have hp : 128 ^ (9 - i) = 128 ^ (9 - (i + 1)) * 128 := by rw [show 9 - i = (9 - (i + 1)) + 1 by omega, Nat.pow_succ]
        refine ⟨c.toNat % 128 + m * 128, ?_, ?_, e3, fun _ => by omega, ?_⟩
        · rw [e1, hpi, Nat.add_mul, Nat.mul_comm (128 ^ i) 128, ← Nat.mul_assoc, Nat.add_assoc]
        · have hb : ¬ (c.toNat % 128 + m * 128 < 128) := by omega
          rw [numB_big hb, show (c.toNat % 128 + m * 128) % 128 + 128 = c.toNat by omega, show (c.toNat % 128 + m * 128) / 128 = m by omega]
          simp [e2]
        · rw [hp, Nat.mul_right_comm]
          generalize 128 ^ (9 - (i + 1)) = q at e5 ⊢
          omega
end Go.AW

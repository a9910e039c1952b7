/- One byte of a number, as a loop over at most ten reads it. No program in sight. -/
import Derived.Test.YtaocmalhjfakdaaGreatSpNum
set_option linter.all false
/- A number's next seven bits. No program in sight. -/
set_option linter.unusedSimpArgs false
namespace Go.AW
open Go

theorem wrap64m (n : Nat) : IntKind.u64.wrap (n : Int) = ((n % 18446744073709551616 : Nat) : Int) := by
  simp [IntKind.wrap, IntKind.signed, IntKind.bits]
theorem zkA (n : Nat) : (BitVec.ofInt IntKind.u64.bits (n : Int)).toNat = n % 18446744073709551616 := by
  rw [BitVec.toNat_ofInt]
  have : ((2 ^ IntKind.u64.bits : Nat) : Int) = 18446744073709551616 := by decide
  rw [this]; omega
theorem zlV (n : Nat) : (BitVec.ofInt IntKind.u8.bits (n : Int)).toNat = n % 256 := by
  rw [BitVec.toNat_ofInt]
  have : ((2 ^ IntKind.u8.bits : Nat) : Int) = 256 := by decide
  rw [this]; omega
theorem andLow (x : Nat) (hx : x < 256) : IntKind.u8.wrap ↑(BitVec.ofInt IntKind.u8.bits (x : Int) &&& BitVec.ofInt IntKind.u8.bits 127).toNat = ((x % 128 : Nat) : Int) := by
  have e : (127 : Int) = ((127 : Nat) : Int) := rfl
  rw [BitVec.toNat_and, zlV, e, zlV, Nat.mod_eq_of_lt hx, show 127 % 256 = 2 ^ 7 - 1 from rfl, Nat.and_two_pow_sub_one_eq_mod]
  rw [zkl (by omega)]
theorem pow128 (k : Nat) : 128 ^ k = 2 ^ (7 * k) := by rw [Nat.pow_mul]
theorem numStep {acc k x : Nat} (hx : x < 256) (hk : k ≤ 9) (ha : acc < 128 ^ k) :
    IntKind.u64.wrap ↑(BitVec.ofInt IntKind.u64.bits (acc : Int) ||| BitVec.ofInt IntKind.u64.bits (IntKind.u64.wrap (IntKind.u64.wrap (IntKind.u8.wrap ↑(BitVec.ofInt IntKind.u8.bits (x : Int) &&& BitVec.ofInt IntKind.u8.bits 127).toNat) * 2 ^ min (IntKind.i64.wrap (7 * (k : Int))).toNat IntKind.u64.bits))).toNat
      = (((acc + x % 128 * 128 ^ k) % 18446744073709551616 : Nat) : Int) := by
  have h63 : 128 ^ k ≤ 128 ^ 9 := Nat.pow_le_pow_right (by omega) hk
  have h63' : (128 : Nat) ^ 9 = 9223372036854775808 := rfl
  have e1 : min (IntKind.i64.wrap (7 * (k : Int))).toNat IntKind.u64.bits = 7 * k := by
    rw [zam (by omega) (by omega)]
    have : IntKind.u64.bits = 64 := rfl
    omega
  have e2 : ((x % 128 : Nat) : Int) * 2 ^ (7 * k) = ((x % 128 * 2 ^ (7 * k) : Nat) : Int) := by simp
  rw [andLow x hx, zcH (n := x % 128) (by omega), e1, e2, wrap64m (x % 128 * 2 ^ (7 * k)), BitVec.toNat_or, zkA, zkA, Nat.mod_mod, Nat.mod_eq_of_lt (by omega : acc < 18446744073709551616)]
  rw [pow128 k] at ha ⊢
  have e3 : 18446744073709551616 = 2 ^ (7 * k) * 2 ^ (64 - 7 * k) := by
    rw [← Nat.pow_add, show 7 * k + (64 - 7 * k) = 64 by omega]
  have e4 : x % 128 * 2 ^ (7 * k) % 18446744073709551616 = 2 ^ (7 * k) * (x % 128 % 2 ^ (64 - 7 * k)) := by
    rw [Nat.mul_comm, e3, Nat.mul_mod_mul_left]
  have e5 : acc ||| 2 ^ (7 * k) * (x % 128 % 2 ^ (64 - 7 * k)) = 2 ^ (7 * k) * (x % 128 % 2 ^ (64 - 7 * k)) + acc := by
    rw [Nat.or_comm, Nat.two_pow_add_eq_or_of_lt ha]
  have hr : 2 ^ (7 * k) * (x % 128 % 2 ^ (64 - 7 * k)) + acc < 18446744073709551616 := by
    have hz : x % 128 % 2 ^ (64 - 7 * k) < 2 ^ (64 - 7 * k) := Nat.mod_lt _ (Nat.two_pow_pos _)
    calc 2 ^ (7 * k) * (x % 128 % 2 ^ (64 - 7 * k)) + acc < 2 ^ (7 * k) * (x % 128 % 2 ^ (64 - 7 * k)) + 2 ^ (7 * k) := by omega
      _ = 2 ^ (7 * k) * (x % 128 % 2 ^ (64 - 7 * k) + 1) := by rw [Nat.mul_add, Nat.mul_one]
      _ ≤ 2 ^ (7 * k) * 2 ^ (64 - 7 * k) := Nat.mul_le_mul_left _ hz
      _ = 18446744073709551616 := e3.symm
  rw [e4, e5, zcH hr]
  have e6 : (acc + x % 128 * 2 ^ (7 * k)) % 18446744073709551616 = (acc + x % 128 * 2 ^ (7 * k) % 18446744073709551616) % 18446744073709551616 := by omega
  rw [e6, e4, Nat.add_comm acc, Nat.mod_eq_of_lt hr]

theorem numFit {acc k x : Nat} (hk : k ≤ 9) (ha : acc < 128 ^ k) (h : ¬ (k = 9 ∧ x > 1)) : acc + x % 128 * 128 ^ k < 128 ^ (k + 1) ∧ acc + x % 128 * 128 ^ k < 18446744073709551616 := by
  have h1 : x % 128 * 128 ^ k ≤ 127 * 128 ^ k := Nat.mul_le_mul_right _ (by omega)
  have h2 : 128 ^ (k + 1) = 128 ^ k * 128 := Nat.pow_succ ..
  refine ⟨by omega, ?_⟩
  by_cases h9 : k = 9
  · subst h9
    have h3 : x % 128 * 128 ^ 9 ≤ 1 * 128 ^ 9 := Nat.mul_le_mul_right _ (by omega)
    have h4 : (128 : Nat) ^ 9 = 9223372036854775808 := rfl
    omega
  · have h3 : 128 ^ (k + 1) ≤ 128 ^ 9 := Nat.pow_le_pow_right (by omega) (by omega)
    have h4 : (128 : Nat) ^ 9 = 9223372036854775808 := rfl
    omega
theorem zoZ {m k acc : Nat} {c : UInt8} {r : List UInt8} (hc : c.toNat > 127) (hk : k < 9) : zhS m k acc (c :: r) = zhS m (k + 1) (acc + c.toNat % 128 * 128 ^ k) r := by
  rw [zhS, if_neg (by omega), if_neg (by omega)]
theorem numR_nine {m acc : Nat} {c : UInt8} {r : List UInt8} (hc : c.toNat > 1) : zhS m 9 acc (c :: r) = .error 11 := by
  rw [zhS, if_pos ⟨rfl, hc⟩]
theorem numR_bad {m k acc : Nat} {c : UInt8} {r : List UInt8} (hc : c.toNat < 128) (hk : k ≤ 9) (ha : acc < 128 ^ k) (h : (k > 0 ∧ c.toNat = 0) ∨ (k = 9 ∧ c.toNat > 1) ∨ (acc + c.toNat % 128 * 128 ^ k) % 18446744073709551616 > m) : zhS m k acc (c :: r) = .error 11 := by
  rw [zhS]
  by_cases h1 : k = 9 ∧ c.toNat > 1
  · rw [if_pos h1]
  · have hf := (numFit hk ha h1).2
    rw [Nat.mod_eq_of_lt hf, Nat.mod_eq_of_lt hc] at h
    rw [if_neg h1, if_pos hc, if_pos (by rcases h with h | h | h; exact .inl h; exact absurd h h1; exact .inr h)]
theorem numR_good {m k acc : Nat} {c : UInt8} {r : List UInt8} (hc : c.toNat < 128) (hk : k ≤ 9) (ha : acc < 128 ^ k) (h0 : ¬ (k > 0 ∧ c.toNat = 0)) (h1 : ¬ (k = 9 ∧ c.toNat > 1)) (h : ¬ ((acc + c.toNat % 128 * 128 ^ k) % 18446744073709551616 > m)) : zhS m k acc (c :: r) = .ok ((acc + c.toNat % 128 * 128 ^ k) % 18446744073709551616, r) := by
  have hf := (numFit hk ha h1).2
  rw [Nat.mod_eq_of_lt hf] at h ⊢
  rw [Nat.mod_eq_of_lt hc] at h ⊢
  rw [zhS, if_neg h1, if_pos hc, if_neg (by rintro (h' | h'); exact h0 h'; exact h h')]
end Go.AW

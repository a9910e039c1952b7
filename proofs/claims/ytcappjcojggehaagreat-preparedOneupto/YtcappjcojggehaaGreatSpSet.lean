/- Sets of brokers as numbers. No program in sight. -/
import Derived.Test.YtcappjcojggehaaGreatSpNum
set_option linter.all false
set_option linter.unusedSimpArgs false
set_option linter.unusedVariables false
namespace Go.AW

def inF (s : Nat) (b : Int) : Bool := decide (0 ≤ b ∧ b < 13 ∧ s / 2 ^ b.toNat % 2 = 1)
def ofN (l : List Int) : Nat → Nat
  | 0 => 0
  | k + 1 => ofN l k + if (k : Int) ∈ l then 2 ^ k else 0
theorem ofN_lt (l : List Int) : ∀ k, ofN l k < 2 ^ k
  | 0 => by simp [ofN]
  | k + 1 => by
    have := ofN_lt l k
    simp only [ofN, Nat.pow_succ]
    split <;> omega
theorem ofN_bit (l : List Int) (b : Nat) : ∀ k, (ofN l k).testBit b = decide (b < k ∧ (b : Int) ∈ l)
  | 0 => by simp [ofN]
  | k + 1 => by
    have ih := ofN_bit l b k
    have hlt := ofN_lt l k
    simp only [ofN]
    by_cases hk : (k : Int) ∈ l
    · rw [if_pos hk, Nat.add_comm]
      rcases Nat.lt_trichotomy b k with h | h | h
      · rw [Nat.testBit_two_pow_add_gt h, ih]
        by_cases hb : (b : Int) ∈ l
        · rw [decide_eq_true ⟨h, hb⟩, decide_eq_true ⟨by omega, hb⟩]
        · rw [decide_eq_false (by simp [hb]), decide_eq_false (by simp [hb])]
      · subst h
        rw [Nat.testBit_two_pow_add_eq, ih, decide_eq_false (by omega), decide_eq_true ⟨by omega, hk⟩]; rfl
      · rw [decide_eq_false (by omega), Nat.testBit_lt_two_pow]
        have : 2 ^ (k + 1) ≤ 2 ^ b := Nat.pow_le_pow_right (by omega) (by omega)
        rw [Nat.pow_succ] at this
        omega
    · rw [if_neg hk, Nat.add_zero, ih]
      by_cases hb : (b : Int) ∈ l
      · have hne : b ≠ k := fun e => hk (e ▸ hb)
        by_cases h : b < k
        · rw [decide_eq_true ⟨h, hb⟩, decide_eq_true ⟨by omega, hb⟩]
        · rw [decide_eq_false (by omega), decide_eq_false (by omega)]
      · rw [decide_eq_false (by simp [hb]), decide_eq_false (by simp [hb])]
theorem inF_bit (s : Nat) (b : Nat) (h : b < 13) : inF s (b : Int) = s.testBit b := by
  rw [Nat.testBit_eq_decide_div_mod_eq, inF]
  by_cases e : s / 2 ^ b % 2 = 1
  · rw [decide_eq_true e, decide_eq_true ⟨by omega, by omega, e⟩]
  · rw [decide_eq_false e, decide_eq_false (fun h => e h.2.2)]
theorem inF_range {s : Nat} {b : Int} (h : inF s b = true) : 0 ≤ b ∧ b < 13 := by
  simp [inF] at h; omega
theorem inF_of (l : List Int) (b : Int) : inF (ofN l 13) b = decide (0 ≤ b ∧ b < 13 ∧ b ∈ l) := by
  by_cases h : 0 ≤ b ∧ b < 13
  · obtain ⟨n, rfl⟩ : ∃ n : Nat, b = n := ⟨b.toNat, by omega⟩
    rw [inF_bit _ _ (by omega), ofN_bit]
    by_cases hm : (n : Int) ∈ l
    · rw [decide_eq_true ⟨by omega, hm⟩, decide_eq_true ⟨by omega, by omega, hm⟩]
    · rw [decide_eq_false (by simp [hm]), decide_eq_false (by simp [hm])]
  · rw [decide_eq_false (by omega)]
    cases e : inF (ofN l 13) b with
    | false => rfl
    | true => exact absurd (inF_range e) h
def memN (s : Nat) (k : Nat) : List Int := ((List.range k).map Int.ofNat).filter (inF s)
def memF (s : Nat) : List Int := memN s 13
theorem memN_next (s k : Nat) : memN s (k + 1) = memN s k ++ if inF s (k : Int) = true then [(k : Int)] else [] := by
  simp only [memN, List.range_succ, List.map_append, List.filter_append, List.map_cons, List.map_nil]
  congr 1
  show List.filter (inF s) [(k : Int)] = _
  rw [List.filter_cons]
  split <;> rfl
theorem memN_len (s k : Nat) : (memN s k).length ≤ k := by
  have := List.length_filter_le (inF s) ((List.range k).map Int.ofNat)
  simpa [memN] using this
def zdO (n : Nat) : List Int := (List.range n).map Int.ofNat
theorem zjB (n : Nat) : zdO (n + 1) = zdO n ++ [(n : Int)] := by
  simp [zdO, List.range_succ]
theorem ziN {n : Nat} {b : Int} : b ∈ zdO n ↔ 0 ≤ b ∧ b < n := by
  simp only [zdO, List.mem_map, List.mem_range]
  constructor
  · rintro ⟨a, ha, rfl⟩
    show 0 ≤ (a : Int) ∧ (a : Int) < n
    omega
  · rintro ⟨h1, h2⟩
    exact ⟨b.toNat, by omega, by show ((b.toNat : Nat) : Int) = b; omega⟩
def zmi (a b : Nat) (k : Nat) : List Int := (zdO k).filter fun i => inF a i && inF b i
def zmL (a b : Nat) : Nat := ofN (zmi a b 13) 13
def allF (n : Nat) : Nat := ofN (zdO n) 13
theorem bothL_next (a b k : Nat) : zmi a b (k + 1) = zmi a b k ++ if (inF a (k : Int) && inF b (k : Int)) = true then [(k : Int)] else [] := by
  simp only [zmi, zjB, List.filter_append]
  congr 1
  rw [List.filter_cons]
  split <;> rfl
theorem bothL_len (a b k : Nat) : (zmi a b k).length ≤ k := by
  have := List.length_filter_le (fun i => inF a i && inF b i) (zdO k)
  simpa [zmi, zdO] using this
theorem in_both (a b : Nat) (i : Int) : inF (zmL a b) i = (inF a i && inF b i) := by
  rw [zmL, inF_of]
  cases h : (inF a i && inF b i) with
  | false =>
    refine decide_eq_false fun e => ?_
    have := (List.mem_filter.1 e.2.2).2
    simp only [h] at this
    cases this
  | true =>
    have h1 : inF a i = true := by
      cases e : inF a i with
      | true => rfl
      | false => rw [e] at h; cases h
    obtain ⟨h2, h3⟩ := inF_range h1
    exact decide_eq_true ⟨h2, h3, List.mem_filter.2 ⟨ziN.2 ⟨h2, by omega⟩, h⟩⟩
theorem in_all {n : Nat} (hn : n ≤ 13) (i : Int) : inF (allF n) i = decide (0 ≤ i ∧ i < n) := by
  rw [allF, inF_of]
  by_cases h : 0 ≤ i ∧ i < n
  · rw [decide_eq_true h, decide_eq_true ⟨h.1, by omega, ziN.2 h⟩]
  · rw [decide_eq_false h, decide_eq_false fun e => h (ziN.1 e.2.2)]
theorem ofN_small (l : List Int) : ofN l 13 < 8192 := ofN_lt l 13
theorem both_small (a b : Nat) : zmL a b < 65536 := by have := ofN_small (zmi a b 13); unfold zmL; omega
theorem all_small (n : Nat) : allF n < 65536 := by have := ofN_small (zdO n); unfold allF; omega
end Go.AW

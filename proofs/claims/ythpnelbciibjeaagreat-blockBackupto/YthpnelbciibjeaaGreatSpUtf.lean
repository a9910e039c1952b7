/- Runes: the first rune of a text, as the document has it and as Go's 'range' has it; names. No program in sight. -/
import Derived.Test.YthpnelbciibjeaaGreatSpNum
import GoSem.Core.Utf8
import Derived.Test.YthpnelbciibjeaaGreatSpTab
set_option linter.all false
set_option linter.unusedSimpArgs false
set_option linter.unusedVariables false
set_option maxRecDepth 100000
namespace Go.AW

def at8 (s : List UInt8) (i : Nat) : Nat := (s[i]?.getD 0).toNat
def sizeF (c : Nat) : Nat := if c < 128 then 1 else if 194 ≤ c ∧ c < 224 then 2 else if 224 ≤ c ∧ c < 240 then 3 else if 240 ≤ c ∧ c < 245 then 4 else 0
def zlq (s : List UInt8) (z : Nat) : Nat → Nat
  | 0 => at8 s 0 % 2 ^ (7 - z)
  | i + 1 => zlq s z i * 64 + at8 s (i + 1) % 64
def contF (s : List UInt8) (i : Nat) : Bool := decide (128 ≤ at8 s i ∧ at8 s i < 192)
def zdU (z : Nat) : Nat := if z = 2 then 128 else if z = 3 then 2048 else if z = 4 then 65536 else 0
def zoO (s : List UInt8) : Nat × Nat :=
  let z := sizeF (at8 s 0)
  if z = 0 ∨ z > s.length then (0, 0)
  else if z = 1 then (at8 s 0, 1)
  else if (∀ i, i < z → 1 ≤ i → contF s i = true) then
    if zlq s z (z - 1) < zdU z ∨ zlq s z (z - 1) > 1114111 ∨ (55296 ≤ zlq s z (z - 1) ∧ zlq s z (z - 1) < 57344) then (0, 0) else (zlq s z (z - 1), z)
  else (0, 0)

theorem at8_lt (s : List UInt8) (i : Nat) : at8 s i < 256 := (s[i]?.getD 0).toNat_lt
theorem zgL (s : List UInt8) (p i : Nat) : at8 (s.drop p) i = at8 s (p + i) := by simp [at8, List.getElem?_drop]
theorem get_at8 (s : List UInt8) (i : Nat) : ((ByteArray.mk s.toArray).get! i).toNat = at8 s i := by
  simp only [ByteArray.get!, at8]
  rw [getElem!_def]
  simp only [List.getElem?_toArray]
  cases s[i]? <;> rfl

theorem all2 (p : Nat → Bool) : (∀ i, i < 2 → 1 ≤ i → p i = true) ↔ p 1 = true := ⟨fun h => h 1 (by omega) (by omega), fun h i h1 h2 => by
  obtain rfl : i = 1 := by omega
  exact h⟩
theorem all3 (p : Nat → Bool) : (∀ i, i < 3 → 1 ≤ i → p i = true) ↔ p 1 = true ∧ p 2 = true := ⟨fun h => ⟨h 1 (by omega) (by omega), h 2 (by omega) (by omega)⟩, fun h i h1 h2 => by
  have : i = 1 ∨ i = 2 := by omega
  rcases this with rfl | rfl
  · exact h.1
  · exact h.2⟩
theorem all4 (p : Nat → Bool) : (∀ i, i < 4 → 1 ≤ i → p i = true) ↔ p 1 = true ∧ p 2 = true ∧ p 3 = true := ⟨fun h => ⟨h 1 (by omega) (by omega), h 2 (by omega) (by omega), h 3 (by omega) (by omega)⟩, fun h i h1 h2 => by
  have : i = 1 ∨ i = 2 ∨ i = 3 := by omega
  rcases this with rfl | rfl | rfl
  · exact h.1
  · exact h.2.1
  · exact h.2.2⟩

def zjG (s : List UInt8) : Nat × Nat := if (zoO s).2 = 0 then (65533, 1) else zoO s

theorem decode_eq (s : List UInt8) (p : Nat) (hp : p < s.length) : Utf8.decode ⟨s.toArray⟩ p = zjG (s.drop p) := by
  have hsz : (ByteArray.mk s.toArray).size = s.length := by simp [ByteArray.size]
  have hl : (s.drop p).length = s.length - p := by simp
  unfold Utf8.decode
  simp only [get_at8, hsz, Nat.add_zero]
  have h0 := at8_lt s p
  have h1 := at8_lt s (p + 1)
  have h2 := at8_lt s (p + 2)
  have h3 := at8_lt s (p + 3)
  simp only [zjG, zoO, sizeF, hl, zgL, Nat.add_zero]
  generalize e0 : at8 s p = b0 at *
  generalize e1 : at8 s (p + 1) = b1 at *
  generalize e2 : at8 s (p + 2) = b2 at *
  generalize e3 : at8 s (p + 3) = b3 at *
  have hc1 : contF (s.drop p) 1 = decide (128 ≤ b1 ∧ b1 < 192) := by simp only [contF, zgL, e1]
  have hc2 : contF (s.drop p) 2 = decide (128 ≤ b2 ∧ b2 < 192) := by simp only [contF, zgL, e2]
  have hc3 : contF (s.drop p) 3 = decide (128 ≤ b3 ∧ b3 < 192) := by simp only [contF, zgL, e3]
  have p2 : zlq (s.drop p) 2 1 = b0 % 32 * 64 + b1 % 64 := by simp only [zlq, zgL, Nat.add_zero, e0, e1]
  have p3 : zlq (s.drop p) 3 2 = b0 % 16 * 4096 + b1 % 64 * 64 + b2 % 64 := by simp only [zlq, zgL, Nat.add_zero, e0, e1, e2]; omega
  have p4 : zlq (s.drop p) 4 3 = b0 % 8 * 262144 + b1 % 64 * 4096 + b2 % 64 * 64 + b3 % 64 := by simp only [zlq, zgL, Nat.add_zero, e0, e1, e2, e3]; omega
  have c1 : (b1 / 64 == 2) = decide (128 ≤ b1 ∧ b1 < 192) := by rw [Bool.eq_iff_iff]; simp; omega
  have c2 : (b2 / 64 == 2) = decide (128 ≤ b2 ∧ b2 < 192) := by rw [Bool.eq_iff_iff]; simp; omega
  have c3 : (b3 / 64 == 2) = decide (128 ≤ b3 ∧ b3 < 192) := by rw [Bool.eq_iff_iff]; simp; omega
  simp only [c1, c2, c3]
  by_cases a1 : b0 < 128
  · have : ¬ (1 > s.length - p) := by omega
    simp [a1, this]
  by_cases a2 : 194 ≤ b0 ∧ b0 < 224
  · have q1 : (b0 / 32 == 6) = true := by simp; omega
    have q2 : (b0 / 16 == 14) = false := by simp; omega
    have q3 : (b0 / 8 == 30) = false := by simp; omega
    simp only [a1, a2, q1, q2, q3, if_false, if_true, all2, hc1, p2, zdU]
    by_cases l1 : p + 1 < s.length
    · have : ¬ (2 > s.length - p) := by omega
      by_cases k1 : 128 ≤ b1 ∧ b1 < 192
      · have g1 : 128 ≤ b0 % 32 * 64 + b1 % 64 := by omega
        have g2 : ¬ (b0 % 32 * 64 + b1 % 64 < 128 ∨ b0 % 32 * 64 + b1 % 64 > 1114111 ∨ 55296 ≤ b0 % 32 * 64 + b1 % 64 ∧ b0 % 32 * 64 + b1 % 64 < 57344) := by omega
        simp [l1, this, k1, g1, g2, all2, hc1, p2, zdU, Utf8.runeError]
      · simp [l1, this, k1, all2, hc1, p2, zdU, Utf8.runeError]
    · have : 2 > s.length - p := by omega
      simp [l1, this, all2, hc1, p2, zdU, Utf8.runeError]
  by_cases a3 : 224 ≤ b0 ∧ b0 < 240
  · have q1 : (b0 / 32 == 6) = false := by simp; omega
    have q2 : (b0 / 16 == 14) = true := by simp; omega
    have q3 : (b0 / 8 == 30) = false := by simp; omega
    simp only [a1, a2, a3, q1, q2, q3, if_false, if_true, all3, hc1, hc2, p3, zdU]
    by_cases l1 : p + 2 < s.length
    · have : ¬ (3 > s.length - p) := by omega
      have l2 : p + 1 < s.length := by omega
      by_cases k1 : 128 ≤ b1 ∧ b1 < 192
      · by_cases k2 : 128 ≤ b2 ∧ b2 < 192
        · obtain ⟨v, hv⟩ : ∃ v, v = b0 % 16 * 4096 + b1 % 64 * 64 + b2 % 64 := ⟨_, rfl⟩
          simp only [← hv]
          rw [← hv] at p3
          have hv' : v < 65536 := by omega
          by_cases g : v < 2048 ∨ 55296 ≤ v ∧ v < 57344
          · have g1 : (decide (v ≥ 2048) && Utf8.valid (v : Int)) = false := by simp [Utf8.valid]; omega
            have g2 : v < 2048 ∨ v > 1114111 ∨ 55296 ≤ v ∧ v < 57344 := by omega
            simp [l1, l2, this, k1, k2, g2, g1, all3, hc1, hc2, p3, zdU, Utf8.runeError]
          · have g1 : (decide (v ≥ 2048) && Utf8.valid (v : Int)) = true := by simp [Utf8.valid]; omega
            have g2 : ¬ (v < 2048 ∨ v > 1114111 ∨ 55296 ≤ v ∧ v < 57344) := by omega
            rw [g1]
            simp [l1, l2, this, k1, k2, g2, all3, hc1, hc2, p3, zdU, Utf8.runeError]
        · simp [l1, l2, this, k1, k2, all3, hc1, hc2, p3, zdU, Utf8.runeError]
      · simp [l1, l2, this, k1, all3, hc1, hc2, p3, zdU, Utf8.runeError]
    · have : 3 > s.length - p := by omega
      simp [l1, this, all3, hc1, hc2, p3, zdU, Utf8.runeError]
  by_cases a4 : 240 ≤ b0 ∧ b0 < 245
  · have q1 : (b0 / 32 == 6) = false := by simp; omega
    have q2 : (b0 / 16 == 14) = false := by simp; omega
    have q3 : (b0 / 8 == 30) = true := by simp; omega
    simp only [a1, a2, a3, a4, q1, q2, q3, if_false, if_true, all4, hc1, hc2, hc3, p4, zdU]
    by_cases l1 : p + 3 < s.length
    · have : ¬ (4 > s.length - p) := by omega
      have l2 : p + 1 < s.length := by omega
      have l3 : p + 2 < s.length := by omega
      by_cases k1 : 128 ≤ b1 ∧ b1 < 192
      · by_cases k2 : 128 ≤ b2 ∧ b2 < 192
        · by_cases k3 : 128 ≤ b3 ∧ b3 < 192
          · obtain ⟨v, hv⟩ : ∃ v, v = b0 % 8 * 262144 + b1 % 64 * 4096 + b2 % 64 * 64 + b3 % 64 := ⟨_, rfl⟩
            simp only [← hv]
            rw [← hv] at p4
            by_cases g : v < 65536 ∨ v > 1114111
            · have g1 : (decide (v ≥ 65536) && Utf8.valid (v : Int)) = false := by simp [Utf8.valid]; omega
              have g2 : v < 65536 ∨ v > 1114111 ∨ 55296 ≤ v ∧ v < 57344 := by omega
              rw [g1]
              simp [l1, l2, l3, this, k1, k2, k3, g2, all4, hc1, hc2, hc3, p4, zdU, Utf8.runeError]
            · have g1 : (decide (v ≥ 65536) && Utf8.valid (v : Int)) = true := by simp [Utf8.valid]; omega
              have g2 : ¬ (v < 65536 ∨ v > 1114111 ∨ 55296 ≤ v ∧ v < 57344) := by omega
              rw [g1]
              simp [l1, l2, l3, this, k1, k2, k3, g2, all4, hc1, hc2, hc3, p4, zdU, Utf8.runeError]
          · simp [l1, l2, l3, this, k1, k2, k3, all4, hc1, hc2, hc3, p4, zdU, Utf8.runeError]
        · simp [l1, l2, l3, this, k1, k2, all4, hc1, hc2, hc3, p4, zdU, Utf8.runeError]
      · simp [l1, l2, l3, this, k1, all4, hc1, hc2, hc3, p4, zdU, Utf8.runeError]
    · have : 4 > s.length - p := by omega
      simp [l1, this, all4, hc1, hc2, hc3, p4, zdU, Utf8.runeError]
  · have q2 : (b0 / 16 == 14) = false := by simp; omega
    simp only [a1, a2, a3, a4, q2, if_false, if_true]
    by_cases q : b0 / 32 = 6
    · have h192 : b0 = 192 ∨ b0 = 193 := by omega
      have q3 : (b0 / 8 == 30) = false := by simp; omega
      have g : ¬ (b0 % 32 * 64 + b1 % 64 ≥ 128) := by omega
      simp [q, q3, g, Utf8.runeError]
    · by_cases q' : b0 / 8 = 30
      · have g : ¬ ((b0 % 8 * 262144 + b1 % 64 * 4096 + b2 % 64 * 64 + b3 % 64) ≤ 1114111) := by omega
        obtain ⟨v, hv⟩ : ∃ v, v = b0 % 8 * 262144 + b1 % 64 * 4096 + b2 % 64 * 64 + b3 % 64 := ⟨_, rfl⟩
        rw [← hv] at g
        simp only [← hv]
        have g1 : Utf8.valid (v : Int) = false := by simp [Utf8.valid]; omega
        simp [q, q', g1, Utf8.runeError]
      · simp [q, q', Utf8.runeError]

theorem zhW (s : List UInt8) : (zoO s).2 ≤ s.length ∧ (zoO s).2 ≤ 4 ∧ (zoO s).1 ≤ 1114111 := by
  have h0 := at8_lt s 0
  have hz : sizeF (at8 s 0) ≤ 4 := by unfold sizeF; split <;> (try split) <;> (try split) <;> (try split) <;> omega
  simp only [zoO]
  split
  · simp
  · rename_i h
    split
    · rename_i h1; simp only []; omega
    · split
      · split
        · simp
        · simp only []; omega
      · simp
theorem goDec_width (s : List UInt8) (h : s ≠ []) : 1 ≤ (zjG s).2 ∧ (zjG s).2 ≤ s.length ∧ (zjG s).1 ≤ 1114111 := by
  have h1 := zhW s
  have h2 : 0 < s.length := List.length_pos_iff.2 h
  unfold zjG
  split
  · simp; omega
  · omega

def badF (v : Nat) : Bool := decide (v < 33 ∨ (127 ≤ v ∧ v ≤ 159) ∨ v = 47 ∨ v = 65533)
def zdX : Nat → List UInt8 → Option Nat
  | 0, _ => none
  | f + 1, s => if s = [] then some 0 else if (zoO s).2 = 0 ∨ badF (zoO s).1 = true then none else (zdX f (s.drop (zoO s).2)).map (· + 1)
def zix (s : List UInt8) : Nat := match zdX (s.length + 1) s with
  | some n => if n > 16 then 0 else n
  | none => 0
def zcu (s : List UInt8) : Bool := decide (0 < zix s)

theorem goDec_bad (s : List UInt8) : badF (zjG s).1 = (decide ((zoO s).2 = 0) || badF (zoO s).1) := by
  unfold zjG
  split
  · rename_i h; simp [h, badF]
  · rename_i h; simp [h]
theorem goDec_good {s : List UInt8} (h : badF (zjG s).1 = false) : zjG s = zoO s ∧ (zoO s).2 ≠ 0 ∧ badF (zoO s).1 = false := by
  rw [goDec_bad] at h
  simp at h
  exact ⟨by simp [zjG, h.1], h.1, h.2⟩
theorem zmE : ∀ (f g : Nat) (s : List UInt8), s.length < f → s.length < g → zdX f s = zdX g s
  | 0, _, _, h, _ => by omega
  | _, 0, _, _, h => by omega
  | f + 1, g + 1, s, h1, h2 => by
    simp only [zdX]
    split
    · rfl
    · rename_i hs
      split
      · rfl
      · rename_i hd
        have hw := zhW s
        have : 0 < s.length := List.length_pos_iff.2 hs
        rw [zmE f g _ (by simp; omega) (by simp; omega)]

def zan (x : zi) : Int := if x.client < 0 ∨ x.client ≥ 8 ∨ x.time < 1 ∨ x.time > 9007199254740992 then 80 else zai zcu x.op
def zaE (k d : Int) : Int := if k < 0 ∨ k ≥ 21 ∨ d < 1 ∨ d > 9007199254740992 then 81 else 0
def errF (s : zi) : Int := if zan s ≠ 0 then zan s else zaE s.key s.dig
def zho : List zi → Int
  | [] => 0
  | s :: r => if errF s ≠ 0 then errF s else zho r
def ndup (a b : zi) : Prop := ¬ (a.client = b.client ∧ a.time = b.time)
instance : DecidableRel ndup := fun a b => inferInstanceAs (Decidable (¬ _))
def zF (l : List zi) : Int :=
  if l.length > 4 then 3 else if zho l ≠ 0 then zho l else if l.Pairwise ndup then 0 else 5

theorem znM {l : List zi} : ∀ {k : Nat} {x : zi}, l[k]? = some x → zho (l.take k) = 0 → errF x ≠ 0 → zho l = errF x := by
  induction l with
  | nil => intro k x h; simp at h
  | cons s r ih =>
    intro k x h h0 hx
    cases k with
    | zero => simp at h; subst h; simp [zho, hx]
    | succ k =>
      simp only [List.take_succ_cons, zho] at h0 ⊢
      simp at h
      split at h0
      · rename_i hs; exact absurd h0 hs
      · rename_i hs; rw [if_neg hs]; exact ih h h0 hx
theorem errsF_snoc {l : List zi} {k : Nat} {x : zi} (h : l[k]? = some x) (h0 : zho (l.take k) = 0) (hx : errF x = 0) : zho (l.take (k + 1)) = 0 := by
  have key : ∀ (a : List zi), zho a = 0 → zho (a ++ [x]) = 0 := by
    intro a
    induction a with
    | nil => intro _; simp [zho, hx]
    | cons s r ih =>
      intro h
      simp only [List.cons_append, zho] at h ⊢
      split at h
      · rename_i hs; exact absurd h hs
      · rename_i hs; rw [if_neg hs]; exact ih h
  rw [List.take_add_one, h]
  exact key _ h0
theorem pairs_snoc {l : List zi} {k : Nat} {x : zi} (h : l[k]? = some x) (h0 : (l.take k).Pairwise ndup) (hx : ∀ y ∈ l.take k, ¬ (x.client = y.client ∧ x.time = y.time)) : (l.take (k + 1)).Pairwise ndup := by
  rw [List.take_add_one, h]
  refine List.pairwise_append.2 ⟨h0, by simp, fun a ha b hb => ?_⟩
  simp at hb; subst hb
  exact fun e => hx a ha ⟨e.1.symm, e.2.symm⟩
theorem pairs_not {l : List zi} {k j : Nat} {x y : zi} (h : l[k]? = some x) (hy : l[j]? = some y) (hj : j < k) (hxy : x.client = y.client ∧ x.time = y.time) : ¬ l.Pairwise ndup := by
  intro hp
  rw [List.pairwise_iff_getElem] at hp
  obtain ⟨hk, rfl⟩ := List.getElem?_eq_some_iff.1 h
  obtain ⟨hj', rfl⟩ := List.getElem?_eq_some_iff.1 hy
  exact hp j k hj' hk hj ⟨hxy.1.symm, hxy.2.symm⟩

def okO (o : TOp) : Prop := o.topic.length ≤ 1073741824 ∧ o.group.length ≤ 1073741824 ∧ o.recs.length ≤ 1073741824 ∧ ∀ r ∈ o.recs, r.length ≤ 1073741824
def okB (b : List zi) : Prop := b.length ≤ 1073741824 ∧ ∀ x ∈ b, okO x.op

def zjm (most : Nat) : Nat → Nat → List UInt8 → Except Int (Nat × List UInt8)
  | _, _, [] => .error 10
  | i, acc, c :: r =>
    if i = 9 ∧ c.toNat > 1 then .error 11
    else if c.toNat < 128 then (if (i > 0 ∧ c.toNat = 0) ∨ acc + c.toNat * 128 ^ i > most then .error 11 else .ok (acc + c.toNat * 128 ^ i, r))
    else zjm most (i + 1) (acc + c.toNat % 128 * 128 ^ i) r

theorem numR_put (most : Nat) : ∀ (m i acc : Nat) (rest : List UInt8), i ≤ 9 → m < 128 ^ (9 - i) * 2 → (i > 0 → m ≠ 0) → acc + m * 128 ^ i ≤ most → zjm most i acc (zbc m ++ rest) = .ok (acc + m * 128 ^ i, rest) := by
  intro m
  induction m using Nat.strongRecOn with
  | ind m ih =>
    intro i acc rest hi hm h0 hle
    by_cases hs : m < 128
    · have e : (UInt8.ofNat m).toNat = m := by simp; omega
      rw [zgj hs]
      simp only [List.cons_append, List.nil_append, zjm, e]
      rw [if_neg (by rintro ⟨rfl, h⟩; simp at hm; omega), if_pos hs, if_neg (by rintro (⟨h1, h2⟩ | h); exact h0 h1 h2; omega)]
    · have e : (UInt8.ofNat (m % 128 + 128)).toNat = m % 128 + 128 := by simp; omega
      have hi9 : i < 9 := by
        rcases Nat.lt_or_ge i 9 with h | h
        · exact h
        · have : i = 9 := by omega
          subst this
          simp at hm; omega
      rw [zlB hs]
      simp only [List.cons_append, zjm, e]
      rw [if_neg (by omega), if_neg (by omega)]
      have hp : 128 ^ (9 - i) = 128 ^ (9 - (i + 1)) * 128 := by rw [show 9 - i = (9 - (i + 1)) + 1 by omega, Nat.pow_succ]
      have hpi : 128 ^ (i + 1) = 128 ^ i * 128 := Nat.pow_succ ..
      have hmod : (m % 128 + 128) % 128 = m % 128 := by omega
      have hsum : acc + m % 128 * 128 ^ i + m / 128 * 128 ^ (i + 1) = acc + m * 128 ^ i := by
        rw [hpi]
        have : m * 128 ^ i = (m % 128 + m / 128 * 128) * 128 ^ i := by rw [show m % 128 + m / 128 * 128 = m by omega]
        rw [this, Nat.add_mul, Nat.mul_comm (128 ^ i) 128, ← Nat.mul_assoc, Nat.add_assoc]
      rw [hmod, ih (m / 128) (by omega) (i + 1) _ rest (by omega) (by rw [hp] at hm; rw [Nat.div_lt_iff_lt_mul (by omega)]; rw [Nat.mul_right_comm] at hm; exact hm) (by omega) (by rw [hsum]; exact hle), hsum]
theorem zop (most : Nat) : ∀ (bs : List UInt8) (i acc n : Nat) (rest : List UInt8), i ≤ 9 → zjm most i acc bs = .ok (n, rest) → ∃ m, n = acc + m * 128 ^ i ∧ bs = zbc m ++ rest ∧ n ≤ most ∧ (i > 0 → m ≠ 0) ∧ m < 128 ^ (9 - i) * 2
  | [], i, acc, n, rest, _, h => by simp [zjm] at h
  | c :: r, i, acc, n, rest, hi, h => by
    have hc := c.toNat_lt
    simp only [zjm] at h
    split at h
    · cases h
    · rename_i h1
      split at h
      · rename_i h2
        split at h
        · cases h
        · rename_i h3
          cases h
          have hp : 1 ≤ 128 ^ (9 - i) := Nat.one_le_pow _ _ (by omega)
          refine ⟨c.toNat, rfl, ?_, by omega, fun hi0 hc0 => h3 (.inl ⟨hi0, hc0⟩), ?_⟩
          · rw [zgj h2]; simp
          · rcases Nat.lt_or_ge i 9 with h9 | h9
            · have : 128 ^ 1 ≤ 128 ^ (9 - i) := Nat.pow_le_pow_right (by omega) (by omega)
              omega
            · have : i = 9 := by omega
              subst this
              simp; omega
      · rename_i h2
        have hi9 : i < 9 := by
          rcases Nat.lt_or_ge i 9 with h9 | h9
          · exact h9
          · exact absurd ⟨by omega, by omega⟩ h1
        obtain ⟨m, e1, e2, e3, e4, e5⟩ := zop most r (i + 1) _ n rest (by omega) h
        have hm0 : m ≠ 0 := e4 (by omega)
        have hpi : 128 ^ (i + 1) = 128 ^ i * 128 := Nat.pow_succ ..
        have hp : 128 ^ (9 - i) = 128 ^ (9 - (i + 1)) * 128 := by rw [show 9 - i = (9 - (i + 1)) + 1 by omega, Nat.pow_succ]
        refine ⟨c.toNat % 128 + m * 128, ?_, ?_, e3, fun _ => by omega, ?_⟩
        · rw [e1, hpi, Nat.add_mul, Nat.mul_comm (128 ^ i) 128, ← Nat.mul_assoc, Nat.add_assoc]
        · have hb : ¬ (c.toNat % 128 + m * 128 < 128) := by omega
          rw [zlB hb, show (c.toNat % 128 + m * 128) % 128 + 128 = c.toNat by omega, show (c.toNat % 128 + m * 128) / 128 = m by omega]
          simp [e2]
        · rw [hp, Nat.mul_right_comm]
          generalize 128 ^ (9 - (i + 1)) = q at e5 ⊢
          omega


def reqB (x : zi) : List UInt8 := zbc x.client.toNat ++ (zbc x.time.toNat ++ opB x.op)
def zfh (x : zi) : List UInt8 := if zan x = 0 then reqB x else []
def signB (k d : Int) : List UInt8 := zbc k.toNat ++ zbc d.toNat
def zhL (k d : Int) : List UInt8 := if zaE k d = 0 then signB k d else []
def oneB (x : zi) : List UInt8 := zjl (reqB x) ++ signB x.key x.dig
def zgb (l : List zi) : List UInt8 := (l.map oneB).flatten
def zfP (l : List zi) : List UInt8 := zbc l.length ++ zgb l
def zdp (l : List zi) : List UInt8 := if zF l = 0 then zfP l else []

theorem req_ok {x : zi} (h : zan x = 0) : 0 ≤ x.client ∧ x.client < 8 ∧ 1 ≤ x.time ∧ x.time ≤ 9007199254740992 ∧ zai zcu x.op = 0 := by
  unfold zan at h
  split at h
  · cases h
  · refine ⟨by omega, by omega, by omega, by omega, h⟩
theorem sign_ok {k d : Int} (h : zaE k d = 0) : 0 ≤ k ∧ k < 21 ∧ 1 ≤ d ∧ d ≤ 9007199254740992 := by
  unfold zaE at h
  split at h
  · cases h
  · omega
theorem errs_mem {l : List zi} (h : zho l = 0) : ∀ x ∈ l, errF x = 0 := by
  induction l with
  | nil => simp
  | cons s r ih =>
    simp only [zho] at h
    split at h
    · rename_i hs; exact absurd h hs
    · rename_i hs
      intro x hx
      rcases List.mem_cons.1 hx with rfl | hx
      · simpa using hs
      · exact ih h x hx
theorem zoU {l : List zi} (h : zF l = 0) : l.length ≤ 4 ∧ (∀ x ∈ l, zan x = 0 ∧ zaE x.key x.dig = 0) ∧ l.Pairwise ndup := by
  unfold zF at h
  split at h
  · cases h
  · split at h
    · rename_i h1; exact absurd h h1
    · split at h
      · rename_i h0 h1 h2
        refine ⟨by omega, fun x hx => ?_, h2⟩
        have := errs_mem (by simpa using h1) x hx
        unfold errF at this
        split at this
        · rename_i h3; exact absurd this h3
        · rename_i h3; exact ⟨by simpa using h3, this⟩
      · cases h
theorem opB_len {o : TOp} (h : zme o ≤ 268435456) (hc : zai zcu o = 0) : (opB o).length ≤ zme o + 60 := by
  obtain ⟨k0, k4, o0, o1, _⟩ := check_ok hc
  have hr := ziP o.recs
  have hrb := ziC o.recs (by unfold zme at h; omega) o.recs.length
  rw [List.take_length] at hrb
  unfold zme at h ⊢
  have n1 := zk (n := o.kind.toNat) (by omega)
  have n2 := zk (n := o.topic.length) (by omega)
  have n3 := zk (n := o.group.length) (by omega)
  have n4 := zk (n := o.offset.toNat) (by omega)
  have n5 := zk (n := o.recs.length) (by omega)
  have hk : o.kind = 0 ∨ o.kind = 1 ∨ o.kind = 2 ∨ o.kind = 3 ∨ o.kind = 4 := by omega
  rcases hk with hk | hk | hk | hk | hk
  · rw [opB_0 hk]; omega
  · rw [opB_1 hk]; simp only [List.length_append]; omega
  · rw [opB_2 hk]; simp only [List.length_append]; omega
  · rw [opB_3 hk]; simp only [List.length_append]; omega
  · rw [opB_4 hk]; simp only [List.length_append]; omega
theorem reqB_len {x : zi} (h : zme x.op ≤ 268435456) (hc : zan x = 0) : (reqB x).length ≤ zme x.op + 80 := by
  obtain ⟨c0, c8, t1, t2, ho⟩ := req_ok hc
  have := opB_len h ho
  have n1 := zk (n := x.client.toNat) (by omega)
  have n2 := zk (n := x.time.toNat) (by omega)
  simp only [reqB, List.length_append]; omega
theorem signB_len {k d : Int} (h : zaE k d = 0) : (signB k d).length ≤ 20 := by
  obtain ⟨k0, k1, d0, d1⟩ := sign_ok h
  have n1 := zk (n := k.toNat) (by omega)
  have n2 := zk (n := d.toNat) (by omega)
  simp only [signB, List.length_append]; omega
theorem oneB_len {x : zi} (h : zme x.op ≤ 20971520) (h1 : zan x = 0) (h2 : zaE x.key x.dig = 0) : (oneB x).length ≤ 20971700 := by
  have a := reqB_len (by omega) h1
  have b := signB_len h2
  have c := zdB (x := reqB x) (by omega)
  simp only [oneB, List.length_append]; omega
theorem zmL {l : List zi} (h : ∀ x ∈ l, zme x.op ≤ 20971520) (hc : zF l = 0) (k : Nat) : (zgb (l.take k)).length ≤ 83886800 := by
  obtain ⟨h4, hm, _⟩ := zoU hc
  have key : ∀ (m : List zi), (∀ x ∈ m, x ∈ l) → (zgb m).length ≤ m.length * 20971700 := by
    intro m
    induction m with
    | nil => intro _; simp [zgb]
    | cons x m ih =>
      intro hsub
      have h1 := ih fun y hy => hsub y (by simp [hy])
      have hx := hsub x (by simp)
      have h2 := oneB_len (h x hx) (hm x hx).1 (hm x hx).2
      simp only [zgb, List.map_cons, List.flatten_cons, List.length_append, List.length_cons] at h1 ⊢
      omega
  have := key (l.take k) fun x hx => List.mem_of_mem_take hx
  have h5 : (l.take k).length ≤ 4 := by rw [List.length_take]; omega
  have h6 : (l.take k).length * 20971700 ≤ 4 * 20971700 := Nat.mul_le_mul_right _ h5
  omega
theorem batchBs_snoc {l : List zi} {k : Nat} {x : zi} (h : l[k]? = some x) : zgb (l.take (k + 1)) = zgb (l.take k) ++ oneB x := by
  rw [List.take_add_one, h]; simp [zgb]
theorem reqBytes_len {x : zi} (h : zme x.op ≤ 20971520) : (zfh x).length ≤ 20971600 := by
  unfold zfh
  split
  · rename_i hc; have := reqB_len (by omega) hc; omega
  · simp
theorem ziH {l : List zi} (h : ∀ x ∈ l, zme x.op ≤ 20971520) : (zdp l).length ≤ 83886900 := by
  unfold zdp
  split
  · rename_i hc
    have := zmL h hc l.length
    rw [List.take_length] at this
    have h4 := (zoU hc).1
    have n1 := zk (n := l.length) (by omega)
    simp only [zfP, List.length_append]; omega
  · simp

def zoq (x : Int) : Bool := decide (0 ≤ x ∧ x ≤ 9007199254740992)
def zkw (l : List Int) : List UInt8 := (l.map fun x => zbc x.toNat).flatten
theorem numOk_iff {x : Int} : zoq x = true ↔ 0 ≤ x ∧ x ≤ 9007199254740992 := by simp [zoq]
theorem numsB_snoc {l : List Int} {k : Nat} {x : Int} (h : l[k]? = some x) : zkw (l.take (k + 1)) = zkw (l.take k) ++ zbc x.toNat := by
  rw [List.take_add_one, h]; simp [zkw]
theorem numsB_len {l : List Int} (h : ∀ x ∈ l, x < 9223372036854775808) : (zkw l).length ≤ l.length * 10 := by
  induction l with
  | nil => simp [zkw]
  | cons x l ih =>
    have h1 := h x (by simp)
    have h2 := zk (n := x.toNat) (by omega)
    have h3 := ih fun y hy => h y (by simp [hy])
    simp only [zkw, List.map_cons, List.flatten_cons, List.length_append, List.length_cons] at h3 ⊢
    omega

structure zfg where
  seq : Int
  prev : Int
  batch : Int
  root : Int
  state : Int
deriving DecidableEq
def zmq (h : zfg) : List Int := [h.seq, h.prev, h.batch, h.root, h.state]
abbrev hdrD (h : zfg) : List D := [.int .i64 h.seq, .int .i64 h.prev, .int .i64 h.batch, .int .i64 h.root, .int .i64 h.state]
abbrev hdrA (h : zfg) : AV := .agg [.d (.int .i64 h.seq), .d (.int .i64 h.prev), .d (.int .i64 h.batch), .d (.int .i64 h.root), .d (.int .i64 h.state)]
abbrev hdrsE (l : List zfg) : List (List D) := l.map hdrD
def znc (h : zfg) : Bool := (zmq h).all zoq
def zaJ (h : zfg) : Int := if znc h = true then 0 else 90
def znd (h : zfg) : List UInt8 := 3 :: zkw (zmq h)
def hdrBF (h : zfg) : List UInt8 := if zaJ h = 0 then znd h else []
theorem zdO {h : zfg} : zaJ h = 0 ↔ znc h = true := by
  unfold zaJ; split <;> simp_all
theorem zhm {h : zfg} (hk : znc h = true) : ∀ x ∈ zmq h, 0 ≤ x ∧ x ≤ 9007199254740992 := fun x hx => numOk_iff.1 (List.all_eq_true.1 hk x hx)
theorem zox {h : zfg} (hk : znc h = true) : (znd h).length ≤ 51 := by
  have := numsB_len (l := zmq h) fun x hx => by have := zhm hk x hx; omega
  simp only [znd, zmq, List.length_cons, List.length_nil] at this ⊢
  omega
def linkF (L : List (List UInt8)) : Option zfg → zfg → Bool
  | none, _ => true
  | some q, h => match zjE L (znd q) with
    | some i => (h.prev == ((i + 1 : Nat) : Int)) && (h.seq == q.seq + 1)
    | none => false
def chainG (L : List (List UInt8)) : Option zfg → List zfg → Bool
  | _, [] => true
  | p, h :: r => znc h && (linkF L p h && chainG L (some h) r)
def chainF (L : List (List UInt8)) (l : List zfg) : Bool := chainG L none l
structure zcA where
  topic : List UInt8
  offset : Int
  rec_ : List UInt8
abbrev placedD (p : zcA) : List D := [.str p.topic, .int .i64 p.offset, .slice (bcs p.rec_)]
abbrev zcK (l : List zcA) : List (List D) := l.map placedD
def zcj (p : zcA) : List UInt8 := zjl p.topic ++ (zbc p.offset.toNat ++ zjl p.rec_)
theorem chain_drop {L : List (List UInt8)} {p : Option zfg} {l : List zfg} {k : Nat} {h : zfg} (hx : l[k]? = some h) : chainG L p (l.drop k) = (znc h && (linkF L p h && chainG L (some h) (l.drop (k + 1)))) := by
  have hk : k < l.length := (List.getElem?_eq_some_iff.1 hx).1
  rw [List.drop_eq_getElem_cons hk, (List.getElem?_eq_some_iff.1 hx).2]
  rfl
end Go.AW

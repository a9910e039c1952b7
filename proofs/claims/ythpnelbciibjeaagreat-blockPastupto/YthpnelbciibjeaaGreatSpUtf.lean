/- Runes: the first rune of a text, as the document has it and as Go's 'range' has it; names. No program in sight. -/
import Derived.Test.YthpnelbciibjeaaGreatCl1
import GoSem.Core.Utf8
import Derived.Test.YthpnelbciibjeaaGreatSpTab
set_option linter.all false
set_option linter.unusedSimpArgs false
set_option linter.unusedVariables false
set_option maxRecDepth 100000
namespace Go.AW

def at8 (s : List UInt8) (i : Nat) : Nat := (s[i]?.getD 0).toNat
def zhr (c : Nat) : Nat := if c < 128 then 1 else if 194 ≤ c ∧ c < 224 then 2 else if 224 ≤ c ∧ c < 240 then 3 else if 240 ≤ c ∧ c < 245 then 4 else 0
def zeo (s : List UInt8) (z : Nat) : Nat → Nat
  | 0 => at8 s 0 % 2 ^ (7 - z)
  | i + 1 => zeo s z i * 64 + at8 s (i + 1) % 64
def zlo (s : List UInt8) (i : Nat) : Bool := decide (128 ≤ at8 s i ∧ at8 s i < 192)
def zdD (z : Nat) : Nat := if z = 2 then 128 else if z = 3 then 2048 else if z = 4 then 65536 else 0
def zgp (s : List UInt8) : Nat × Nat :=
  let z := zhr (at8 s 0)
  if z = 0 ∨ z > s.length then (0, 0)
  else if z = 1 then (at8 s 0, 1)
  else if (∀ i, i < z → 1 ≤ i → zlo s i = true) then
    if zeo s z (z - 1) < zdD z ∨ zeo s z (z - 1) > 1114111 ∨ (55296 ≤ zeo s z (z - 1) ∧ zeo s z (z - 1) < 57344) then (0, 0) else (zeo s z (z - 1), z)
  else (0, 0)

theorem zny (s : List UInt8) (i : Nat) : at8 s i < 256 := (s[i]?.getD 0).toNat_lt
theorem zhe (s : List UInt8) (p i : Nat) : at8 (s.drop p) i = at8 s (p + i) := by simp [at8, List.getElem?_drop]
theorem get_at8 (s : List UInt8) (i : Nat) : ((ByteArray.mk s.toArray).get! i).toNat = at8 s i := by
  simp only [ByteArray.get!, at8]
  rw [getElem!_def]
  simp only [List.getElem?_toArray]
  cases s[i]? <;> rfl

theorem all2 (p : Nat → Bool) : (∀ i, i < 2 → 1 ≤ i → p i = true) ↔ p 1 = true := ⟨fun h => h 1 (by omega) (by omega), fun h i h1 h2 => by
  obtain rfl : i = 1 := by omega
  exact h⟩
theorem all3 (p : Nat → Bool) : (∀ i, i < 3 → 1 ≤ i → p i = true) ↔ p 1 = true ∧ p 2 = true := ⟨fun h => ⟨h 1 (by omega) (by omega), h 2 (by omega) (by omega)⟩, fun h i h1 h2 => by
  have : i = 1 ∨ i = 2 := by omega
  rcases this with rfl | rfl
  · exact h.1
  · exact h.2⟩
theorem all4 (p : Nat → Bool) : (∀ i, i < 4 → 1 ≤ i → p i = true) ↔ p 1 = true ∧ p 2 = true ∧ p 3 = true := ⟨fun h => ⟨h 1 (by omega) (by omega), h 2 (by omega) (by omega), h 3 (by omega) (by omega)⟩, fun h i h1 h2 => by
  have : i = 1 ∨ i = 2 ∨ i = 3 := by omega
  rcases this with rfl | rfl | rfl
  · exact h.1
  · exact h.2.1
  · exact h.2.2⟩

def zke (s : List UInt8) : Nat × Nat := if (zgp s).2 = 0 then (65533, 1) else zgp s

theorem decode_eq (s : List UInt8) (p : Nat) (hp : p < s.length) : Utf8.decode ⟨s.toArray⟩ p = zke (s.drop p) := by
  have hsz : (ByteArray.mk s.toArray).size = s.length := by simp [ByteArray.size]
  have hl : (s.drop p).length = s.length - p := by simp
  unfold Utf8.decode
  simp only [get_at8, hsz, Nat.add_zero]
  have h0 := zny s p
  have h1 := zny s (p + 1)
  have h2 := zny s (p + 2)
  have h3 := zny s (p + 3)
  simp only [zke, zgp, zhr, hl, zhe, Nat.add_zero]
  generalize e0 : at8 s p = b0 at *
  generalize e1 : at8 s (p + 1) = b1 at *
  generalize e2 : at8 s (p + 2) = b2 at *
  generalize e3 : at8 s (p + 3) = b3 at *
  have hc1 : zlo (s.drop p) 1 = decide (128 ≤ b1 ∧ b1 < 192) := by simp only [zlo, zhe, e1]
  have hc2 : zlo (s.drop p) 2 = decide (128 ≤ b2 ∧ b2 < 192) := by simp only [zlo, zhe, e2]
  have hc3 : zlo (s.drop p) 3 = decide (128 ≤ b3 ∧ b3 < 192) := by simp only [zlo, zhe, e3]
  have p2 : zeo (s.drop p) 2 1 = b0 % 32 * 64 + b1 % 64 := by simp only [zeo, zhe, Nat.add_zero, e0, e1]
  have p3 : zeo (s.drop p) 3 2 = b0 % 16 * 4096 + b1 % 64 * 64 + b2 % 64 := by simp only [zeo, zhe, Nat.add_zero, e0, e1, e2]; omega
  have p4 : zeo (s.drop p) 4 3 = b0 % 8 * 262144 + b1 % 64 * 4096 + b2 % 64 * 64 + b3 % 64 := by simp only [zeo, zhe, Nat.add_zero, e0, e1, e2, e3]; omega
  have c1 : (b1 / 64 == 2) = decide (128 ≤ b1 ∧ b1 < 192) := by rw [Bool.eq_iff_iff]; simp; omega
  have c2 : (b2 / 64 == 2) = decide (128 ≤ b2 ∧ b2 < 192) := by rw [Bool.eq_iff_iff]; simp; omega
  have c3 : (b3 / 64 == 2) = decide (128 ≤ b3 ∧ b3 < 192) := by rw [Bool.eq_iff_iff]; simp; omega
  simp only [c1, c2, c3]
  by_cases a1 : b0 < 128
  · have : ¬ (1 > s.length - p) := by omega
    simp [a1, this]
  by_cases a2 : 194 ≤ b0 ∧ b0 < 224
  · have q1 : (b0 / 32 == 6) = true := by simp; omega
    have q2 : (b0 / 16 == 14) = false := by simp; omega
    have q3 : (b0 / 8 == 30) = false := by simp; omega
    simp only [a1, a2, q1, q2, q3, if_false, if_true, all2, hc1, p2, zdD]
    by_cases l1 : p + 1 < s.length
    · have : ¬ (2 > s.length - p) := by omega
      by_cases k1 : 128 ≤ b1 ∧ b1 < 192
      · have g1 : 128 ≤ b0 % 32 * 64 + b1 % 64 := by omega
        have g2 : ¬ (b0 % 32 * 64 + b1 % 64 < 128 ∨ b0 % 32 * 64 + b1 % 64 > 1114111 ∨ 55296 ≤ b0 % 32 * 64 + b1 % 64 ∧ b0 % 32 * 64 + b1 % 64 < 57344) := by omega
        simp [l1, this, k1, g1, g2, all2, hc1, p2, zdD, Utf8.runeError]
      · simp [l1, this, k1, all2, hc1, p2, zdD, Utf8.runeError]
    · have : 2 > s.length - p := by omega
      simp [l1, this, all2, hc1, p2, zdD, Utf8.runeError]
  by_cases a3 : 224 ≤ b0 ∧ b0 < 240
  · have q1 : (b0 / 32 == 6) = false := by simp; omega
    have q2 : (b0 / 16 == 14) = true := by simp; omega
    have q3 : (b0 / 8 == 30) = false := by simp; omega
    simp only [a1, a2, a3, q1, q2, q3, if_false, if_true, all3, hc1, hc2, p3, zdD]
    by_cases l1 : p + 2 < s.length
    · have : ¬ (3 > s.length - p) := by omega
      have l2 : p + 1 < s.length := by omega
      by_cases k1 : 128 ≤ b1 ∧ b1 < 192
      · by_cases k2 : 128 ≤ b2 ∧ b2 < 192
        · obtain ⟨v, hv⟩ : ∃ v, v = b0 % 16 * 4096 + b1 % 64 * 64 + b2 % 64 := ⟨_, rfl⟩
          simp only [← hv]
          rw [← hv] at p3
          have hv' : v < 65536 := by omega
          by_cases g : v < 2048 ∨ 55296 ≤ v ∧ v < 57344
          · have g1 : (decide (v ≥ 2048) && Utf8.valid (v : Int)) = false := by simp [Utf8.valid]; omega
            have g2 : v < 2048 ∨ v > 1114111 ∨ 55296 ≤ v ∧ v < 57344 := by omega
            simp [l1, l2, this, k1, k2, g2, g1, all3, hc1, hc2, p3, zdD, Utf8.runeError]
          · have g1 : (decide (v ≥ 2048) && Utf8.valid (v : Int)) = true := by simp [Utf8.valid]; omega
            have g2 : ¬ (v < 2048 ∨ v > 1114111 ∨ 55296 ≤ v ∧ v < 57344) := by omega
            rw [g1]
            simp [l1, l2, this, k1, k2, g2, all3, hc1, hc2, p3, zdD, Utf8.runeError]
        · simp [l1, l2, this, k1, k2, all3, hc1, hc2, p3, zdD, Utf8.runeError]
      · simp [l1, l2, this, k1, all3, hc1, hc2, p3, zdD, Utf8.runeError]
    · have : 3 > s.length - p := by omega
      simp [l1, this, all3, hc1, hc2, p3, zdD, Utf8.runeError]
  by_cases a4 : 240 ≤ b0 ∧ b0 < 245
  · have q1 : (b0 / 32 == 6) = false := by simp; omega
    have q2 : (b0 / 16 == 14) = false := by simp; omega
    have q3 : (b0 / 8 == 30) = true := by simp; omega
    simp only [a1, a2, a3, a4, q1, q2, q3, if_false, if_true, all4, hc1, hc2, hc3, p4, zdD]
    by_cases l1 : p + 3 < s.length
    · have : ¬ (4 > s.length - p) := by omega
      have l2 : p + 1 < s.length := by omega
      have l3 : p + 2 < s.length := by omega
      by_cases k1 : 128 ≤ b1 ∧ b1 < 192
      · by_cases k2 : 128 ≤ b2 ∧ b2 < 192
        · by_cases k3 : 128 ≤ b3 ∧ b3 < 192
          · obtain ⟨v, hv⟩ : ∃ v, v = b0 % 8 * 262144 + b1 % 64 * 4096 + b2 % 64 * 64 + b3 % 64 := ⟨_, rfl⟩
            simp only [← hv]
            rw [← hv] at p4
            by_cases g : v < 65536 ∨ v > 1114111
            · have g1 : (decide (v ≥ 65536) && Utf8.valid (v : Int)) = false := by simp [Utf8.valid]; omega
              have g2 : v < 65536 ∨ v > 1114111 ∨ 55296 ≤ v ∧ v < 57344 := by omega
              rw [g1]
              simp [l1, l2, l3, this, k1, k2, k3, g2, all4, hc1, hc2, hc3, p4, zdD, Utf8.runeError]
            · have g1 : (decide (v ≥ 65536) && Utf8.valid (v : Int)) = true := by simp [Utf8.valid]; omega
              have g2 : ¬ (v < 65536 ∨ v > 1114111 ∨ 55296 ≤ v ∧ v < 57344) := by omega
              rw [g1]
              simp [l1, l2, l3, this, k1, k2, k3, g2, all4, hc1, hc2, hc3, p4, zdD, Utf8.runeError]
          · simp [l1, l2, l3, this, k1, k2, k3, all4, hc1, hc2, hc3, p4, zdD, Utf8.runeError]
        · simp [l1, l2, l3, this, k1, k2, all4, hc1, hc2, hc3, p4, zdD, Utf8.runeError]
      · simp [l1, l2, l3, this, k1, all4, hc1, hc2, hc3, p4, zdD, Utf8.runeError]
    · have : 4 > s.length - p := by omega
      simp [l1, this, all4, hc1, hc2, hc3, p4, zdD, Utf8.runeError]
  · have q2 : (b0 / 16 == 14) = false := by simp; omega
    simp only [a1, a2, a3, a4, q2, if_false, if_true]
    by_cases q : b0 / 32 = 6
    · have h192 : b0 = 192 ∨ b0 = 193 := by omega
      have q3 : (b0 / 8 == 30) = false := by simp; omega
      have g : ¬ (b0 % 32 * 64 + b1 % 64 ≥ 128) := by omega
      simp [q, q3, g, Utf8.runeError]
    · by_cases q' : b0 / 8 = 30
      · have g : ¬ ((b0 % 8 * 262144 + b1 % 64 * 4096 + b2 % 64 * 64 + b3 % 64) ≤ 1114111) := by omega
        obtain ⟨v, hv⟩ : ∃ v, v = b0 % 8 * 262144 + b1 % 64 * 4096 + b2 % 64 * 64 + b3 % 64 := ⟨_, rfl⟩
        rw [← hv] at g
        simp only [← hv]
        have g1 : Utf8.valid (v : Int) = false := by simp [Utf8.valid]; omega
        simp [q, q', g1, Utf8.runeError]
      · simp [q, q', Utf8.runeError]

theorem zgD (s : List UInt8) : (zgp s).2 ≤ s.length ∧ (zgp s).2 ≤ 4 ∧ (zgp s).1 ≤ 1114111 := by
  have h0 := zny s 0
  have hz : zhr (at8 s 0) ≤ 4 := by unfold zhr; split <;> (try split) <;> (try split) <;> (try split) <;> omega
  simp only [zgp]
  split
  · simp
  · rename_i h
    split
    · rename_i h1; simp only []; omega
    · split
      · split
        · simp
        · simp only []; omega
      · simp
theorem goDec_width (s : List UInt8) (h : s ≠ []) : 1 ≤ (zke s).2 ∧ (zke s).2 ≤ s.length ∧ (zke s).1 ≤ 1114111 := by
  have h1 := zgD s
  have h2 : 0 < s.length := List.length_pos_iff.2 h
  unfold zke
  split
  · simp; omega
  · omega

def badF (v : Nat) : Bool := decide (v < 33 ∨ (127 ≤ v ∧ v ≤ 159) ∨ v = 47 ∨ v = 65533)
def zcd : Nat → List UInt8 → Option Nat
  | 0, _ => none
  | f + 1, s => if s = [] then some 0 else if (zgp s).2 = 0 ∨ badF (zgp s).1 = true then none else (zcd f (s.drop (zgp s).2)).map (· + 1)
def zeC (s : List UInt8) : Nat := match zcd (s.length + 1) s with
  | some n => if n > 16 then 0 else n
  | none => 0
def zbH (s : List UInt8) : Bool := decide (0 < zeC s)

theorem goDec_bad (s : List UInt8) : badF (zke s).1 = (decide ((zgp s).2 = 0) || badF (zgp s).1) := by
  unfold zke
  split
  · rename_i h; simp [h, badF]
  · rename_i h; simp [h]
theorem goDec_good {s : List UInt8} (h : badF (zke s).1 = false) : zke s = zgp s ∧ (zgp s).2 ≠ 0 ∧ badF (zgp s).1 = false := by
  rw [goDec_bad] at h
  simp at h
  exact ⟨by simp [zke, h.1], h.1, h.2⟩
theorem zjF : ∀ (f g : Nat) (s : List UInt8), s.length < f → s.length < g → zcd f s = zcd g s
  | 0, _, _, h, _ => by omega
  | _, 0, _, _, h => by omega
  | f + 1, g + 1, s, h1, h2 => by
    simp only [zcd]
    split
    · rfl
    · rename_i hs
      split
      · rfl
      · rename_i hd
        have hw := zgD s
        have : 0 < s.length := List.length_pos_iff.2 hs
        rw [zjF f g _ (by simp; omega) (by simp; omega)]

def zK (x : zf) : Int := if x.client < 0 ∨ x.client ≥ 8 ∨ x.time < 1 ∨ x.time > 9007199254740992 then 80 else zV zbH x.op
def zR (k d : Int) : Int := if k < 0 ∨ k ≥ 21 ∨ d < 1 ∨ d > 9007199254740992 then 81 else 0
def zoG (s : zf) : Int := if zK s ≠ 0 then zK s else zR s.key s.dig
def zht : List zf → Int
  | [] => 0
  | s :: r => if zoG s ≠ 0 then zoG s else zht r
def ndup (a b : zf) : Prop := ¬ (a.client = b.client ∧ a.time = b.time)
instance : DecidableRel ndup := fun a b => inferInstanceAs (Decidable (¬ _))
def zh (l : List zf) : Int :=
  if l.length > 4 then 3 else if zht l ≠ 0 then zht l else if l.Pairwise ndup then 0 else 5

theorem ziN {l : List zf} : ∀ {k : Nat} {x : zf}, l[k]? = some x → zht (l.take k) = 0 → zoG x ≠ 0 → zht l = zoG x := by
  induction l with
  | nil => intro k x h; simp at h
  | cons s r ih =>
    intro k x h h0 hx
    cases k with
    | zero => simp at h; subst h; simp [zht, hx]
    | succ k =>
      simp only [List.take_succ_cons, zht] at h0 ⊢
      simp at h
      split at h0
      · rename_i hs; exact absurd h0 hs
      · rename_i hs; rw [if_neg hs]; exact ih h h0 hx
theorem zoF {l : List zf} {k : Nat} {x : zf} (h : l[k]? = some x) (h0 : zht (l.take k) = 0) (hx : zoG x = 0) : zht (l.take (k + 1)) = 0 := by
  have key : ∀ (a : List zf), zht a = 0 → zht (a ++ [x]) = 0 := by
    intro a
    induction a with
    | nil => intro _; simp [zht, hx]
    | cons s r ih =>
      intro h
      simp only [List.cons_append, zht] at h ⊢
      split at h
      · rename_i hs; exact absurd h hs
      · rename_i hs; rw [if_neg hs]; exact ih h
  rw [List.take_add_one, h]
  exact key _ h0
theorem zon {l : List zf} {k : Nat} {x : zf} (h : l[k]? = some x) (h0 : (l.take k).Pairwise ndup) (hx : ∀ y ∈ l.take k, ¬ (x.client = y.client ∧ x.time = y.time)) : (l.take (k + 1)).Pairwise ndup := by
  rw [List.take_add_one, h]
  refine List.pairwise_append.2 ⟨h0, by simp, fun a ha b hb => ?_⟩
  simp at hb; subst hb
  exact fun e => hx a ha ⟨e.1.symm, e.2.symm⟩
theorem pairs_not {l : List zf} {k j : Nat} {x y : zf} (h : l[k]? = some x) (hy : l[j]? = some y) (hj : j < k) (hxy : x.client = y.client ∧ x.time = y.time) : ¬ l.Pairwise ndup := by
  intro hp
  rw [List.pairwise_iff_getElem] at hp
  obtain ⟨hk, rfl⟩ := List.getElem?_eq_some_iff.1 h
  obtain ⟨hj', rfl⟩ := List.getElem?_eq_some_iff.1 hy
  exact hp j k hj' hk hj ⟨hxy.1.symm, hxy.2.symm⟩

def okO (o : TOp) : Prop := o.topic.length ≤ 1073741824 ∧ o.group.length ≤ 1073741824 ∧ o.recs.length ≤ 1073741824 ∧ ∀ r ∈ o.recs, r.length ≤ 1073741824
def okB (b : List zf) : Prop := b.length ≤ 1073741824 ∧ ∀ x ∈ b, okO x.op

def numR (most : Nat) : Nat → Nat → List UInt8 → Except Int (Nat × List UInt8)
  | _, _, [] => .error 10
  | i, acc, c :: r =>
    if i = 9 ∧ c.toNat > 1 then .error 11
    else if c.toNat < 128 then (if (i > 0 ∧ c.toNat = 0) ∨ acc + c.toNat * 128 ^ i > most then .error 11 else .ok (acc + c.toNat * 128 ^ i, r))
    else numR most (i + 1) (acc + c.toNat % 128 * 128 ^ i) r

theorem numR_put (most : Nat) : ∀ (m i acc : Nat) (rest : List UInt8), i ≤ 9 → m < 128 ^ (9 - i) * 2 → (i > 0 → m ≠ 0) → acc + m * 128 ^ i ≤ most → numR most i acc (zbG m ++ rest) = .ok (acc + m * 128 ^ i, rest) := by
  intro m
  induction m using Nat.strongRecOn with
  | ind m ih =>
    intro i acc rest hi hm h0 hle
    by_cases hs : m < 128
    · have e : (UInt8.ofNat m).toNat = m := by simp; omega
      rw [ziC hs]
      simp only [List.cons_append, List.nil_append, numR, e]
      rw [if_neg (by rintro ⟨rfl, h⟩; simp at hm; omega), if_pos hs, if_neg (by rintro (⟨h1, h2⟩ | h); exact h0 h1 h2; omega)]
    · have e : (UInt8.ofNat (m % 128 + 128)).toNat = m % 128 + 128 := by simp; omega
      have hi9 : i < 9 := by
        rcases Nat.lt_or_ge i 9 with h | h
        · exact h
        · have : i = 9 := by omega
          subst this
          simp at hm; omega
      rw [zpn hs]
      simp only [List.cons_append, numR, e]
      rw [if_neg (by omega), if_neg (by omega)]
      have hp : 128 ^ (9 - i) = 128 ^ (9 - (i + 1)) * 128 := by rw [show 9 - i = (9 - (i + 1)) + 1 by omega, Nat.pow_succ]
      have hpi : 128 ^ (i + 1) = 128 ^ i * 128 := Nat.pow_succ ..
      have hmod : (m % 128 + 128) % 128 = m % 128 := by omega
      have hsum : acc + m % 128 * 128 ^ i + m / 128 * 128 ^ (i + 1) = acc + m * 128 ^ i := by
        rw [hpi]
        have : m * 128 ^ i = (m % 128 + m / 128 * 128) * 128 ^ i := by rw [show m % 128 + m / 128 * 128 = m by omega]
        rw [this, Nat.add_mul, Nat.mul_comm (128 ^ i) 128, ← Nat.mul_assoc, Nat.add_assoc]
      rw [hmod, ih (m / 128) (by omega) (i + 1) _ rest (by omega) (by rw [hp] at hm; rw [Nat.div_lt_iff_lt_mul (by omega)]; rw [Nat.mul_right_comm] at hm; exact hm) (by omega) (by rw [hsum]; exact hle), hsum]

theorem zch {m n : Nat} {s t : List UInt8} (hm : m < 18446744073709551616) (hn : n < 18446744073709551616) (h : zbG m ++ s = zbG n ++ t) : m = n ∧ s = t := by
  have a := numR_put 18446744073709551616 m 0 0 s (by omega) (by simp; omega) (by omega) (by simp; omega)
  have b := numR_put 18446744073709551616 n 0 0 t (by omega) (by simp; omega) (by omega) (by simp; omega)
  rw [h, b] at a
  simp only [Except.ok.injEq, Prod.mk.injEq, Nat.pow_zero, Nat.mul_one, Nat.zero_add] at a
  exact ⟨a.1.symm, a.2.symm⟩
theorem zgS {x y : List UInt8} {s t : List UInt8} (hm : x.length < 18446744073709551616) (hn : y.length < 18446744073709551616) (h : ziU x ++ s = ziU y ++ t) : x = y ∧ s = t := by
  simp only [ziU, List.append_assoc] at h
  obtain ⟨e, h⟩ := zch hm hn h
  exact List.append_inj h e
theorem recsB_pre : ∀ {xs ys : List (List UInt8)} {s t : List UInt8}, xs.length = ys.length → (∀ x ∈ xs, x.length < 18446744073709551616) → (∀ y ∈ ys, y.length < 18446744073709551616) → zdM xs ++ s = zdM ys ++ t → xs = ys ∧ s = t
  | [], [], s, t, _, _, _, h => ⟨rfl, by simpa [zdM] using h⟩
  | [], y :: ys, _, _, hl, _, _, _ => by simp at hl
  | x :: xs, [], _, _, hl, _, _, _ => by simp at hl
  | x :: xs, y :: ys, s, t, hl, hx, hy, h => by
    simp only [zdM, List.map_cons, List.flatten_cons, List.append_assoc] at h
    obtain ⟨e1, h⟩ := zgS (hx _ (.head _)) (hy _ (.head _)) h
    obtain ⟨e2, e3⟩ := recsB_pre (by simpa using hl) (fun z hz => hx z (.tail _ hz)) (fun z hz => hy z (.tail _ hz)) h
    exact ⟨by rw [e1, e2], e3⟩
theorem opB_pre {name name' : List UInt8 → Bool} {a b : TOp} {s t : List UInt8} (ha : zV name a = 0) (hb : zV name' b = 0) (za : zfc a ≤ 1073741824) (zb : zfc b ≤ 1073741824) (h : opB a ++ s = opB b ++ t) : a = b ∧ s = t := by
  obtain ⟨a1, a2, a3, a4, a5⟩ := zmj ha
  obtain ⟨b1, b2, b3, b4, b5⟩ := zmj hb
  have ra : ∀ x ∈ a.recs, x.length < 18446744073709551616 := fun x hx => by have := rec_le hx; unfold zfc at za; omega
  have rb : ∀ x ∈ b.recs, x.length < 18446744073709551616 := fun x hx => by have := rec_le hx; unfold zfc at zb; omega
  have la := zfz a.recs
  have lb := zfz b.recs
  unfold zfc at za zb
  simp only [opB, List.append_assoc] at h
  obtain ⟨k, h⟩ := zch (by omega) (by omega) h
  have hk : b.kind = a.kind := by omega
  obtain ⟨ak, at', ag, ao, ar⟩ := a
  obtain ⟨bk, bt, bg, bo, br⟩ := b
  simp only at *
  subst hk
  simp only [znQ, noOp] at a5 b5
  rcases (by omega : bk = 0 ∨ bk = 1 ∨ bk = 2 ∨ bk = 3 ∨ bk = 4) with rfl | rfl | rfl | rfl | rfl
  · simp at h a5 b5
    simp [a5, b5, h]
  · simp at h a5 b5
    obtain ⟨e, h⟩ := zgS (by omega) (by omega) h
    simp [a5, b5, h, e]
  · simp at h a5 b5
    obtain ⟨e, h⟩ := zgS (by omega) (by omega) h
    obtain ⟨e2, h⟩ := zch (by omega) (by omega) h
    obtain ⟨e3, h⟩ := recsB_pre e2 ra rb h
    simp [a5, b5, h, e, e3]
  · simp at h a5 b5
    obtain ⟨e, h⟩ := zgS (by omega) (by omega) h
    obtain ⟨e2, h⟩ := zgS (by omega) (by omega) h
    obtain ⟨e3, h⟩ := zch (by omega) (by omega) h
    have : ao = bo := by omega
    simp [a5, b5, h, e, e2, this]
  · simp at h a5 b5
    obtain ⟨e, h⟩ := zgS (by omega) (by omega) h
    obtain ⟨e3, h⟩ := zch (by omega) (by omega) h
    have : ao = bo := by omega
    simp [a5, b5, h, e, this]

def reqB (x : zf) : List UInt8 := zbG x.client.toNat ++ (zbG x.time.toNat ++ opB x.op)
def zfy (x : zf) : List UInt8 := if zK x = 0 then reqB x else []
def signB (k d : Int) : List UInt8 := zbG k.toNat ++ zbG d.toNat
def ziy (k d : Int) : List UInt8 := if zR k d = 0 then signB k d else []
def oneB (x : zf) : List UInt8 := ziU (reqB x) ++ signB x.key x.dig
def zew (l : List zf) : List UInt8 := (l.map oneB).flatten
def zdb (l : List zf) : List UInt8 := zbG l.length ++ zew l
def zda (l : List zf) : List UInt8 := if zh l = 0 then zdb l else []

theorem req_ok {x : zf} (h : zK x = 0) : 0 ≤ x.client ∧ x.client < 8 ∧ 1 ≤ x.time ∧ x.time ≤ 9007199254740992 ∧ zV zbH x.op = 0 := by
  unfold zK at h
  split at h
  · cases h
  · refine ⟨by omega, by omega, by omega, by omega, h⟩
theorem zpd {k d : Int} (h : zR k d = 0) : 0 ≤ k ∧ k < 21 ∧ 1 ≤ d ∧ d ≤ 9007199254740992 := by
  unfold zR at h
  split at h
  · cases h
  · omega
theorem errs_mem {l : List zf} (h : zht l = 0) : ∀ x ∈ l, zoG x = 0 := by
  induction l with
  | nil => simp
  | cons s r ih =>
    simp only [zht] at h
    split at h
    · rename_i hs; exact absurd h hs
    · rename_i hs
      intro x hx
      rcases List.mem_cons.1 hx with rfl | hx
      · simpa using hs
      · exact ih h x hx
theorem zkr {l : List zf} (h : zh l = 0) : l.length ≤ 4 ∧ (∀ x ∈ l, zK x = 0 ∧ zR x.key x.dig = 0) ∧ l.Pairwise ndup := by
  unfold zh at h
  split at h
  · cases h
  · split at h
    · rename_i h1; exact absurd h h1
    · split at h
      · rename_i h0 h1 h2
        refine ⟨by omega, fun x hx => ?_, h2⟩
        have := errs_mem (by simpa using h1) x hx
        unfold zoG at this
        split at this
        · rename_i h3; exact absurd this h3
        · rename_i h3; exact ⟨by simpa using h3, this⟩
      · cases h
theorem opB_len {o : TOp} (h : zfc o ≤ 268435456) (hc : zV zbH o = 0) : (opB o).length ≤ zfc o + 60 := by
  obtain ⟨k0, k4, o0, o1, _⟩ := zmj hc
  have hr := zfz o.recs
  have hrb := zjf o.recs (by unfold zfc at h; omega) o.recs.length
  rw [List.take_length] at hrb
  unfold zfc at h ⊢
  have n1 := zo (n := o.kind.toNat) (by omega)
  have n2 := zo (n := o.topic.length) (by omega)
  have n3 := zo (n := o.group.length) (by omega)
  have n4 := zo (n := o.offset.toNat) (by omega)
  have n5 := zo (n := o.recs.length) (by omega)
  have hk : o.kind = 0 ∨ o.kind = 1 ∨ o.kind = 2 ∨ o.kind = 3 ∨ o.kind = 4 := by omega
  rcases hk with hk | hk | hk | hk | hk
  · rw [opB_0 hk]; omega
  · rw [opB_1 hk]; simp only [List.length_append]; omega
  · rw [opB_2 hk]; simp only [List.length_append]; omega
  · rw [opB_3 hk]; simp only [List.length_append]; omega
  · rw [opB_4 hk]; simp only [List.length_append]; omega
theorem zmf {x : zf} (h : zfc x.op ≤ 268435456) (hc : zK x = 0) : (reqB x).length ≤ zfc x.op + 80 := by
  obtain ⟨c0, c8, t1, t2, ho⟩ := req_ok hc
  have := opB_len h ho
  have n1 := zo (n := x.client.toNat) (by omega)
  have n2 := zo (n := x.time.toNat) (by omega)
  simp only [reqB, List.length_append]; omega
theorem signB_len {k d : Int} (h : zR k d = 0) : (signB k d).length ≤ 20 := by
  obtain ⟨k0, k1, d0, d1⟩ := zpd h
  have n1 := zo (n := k.toNat) (by omega)
  have n2 := zo (n := d.toNat) (by omega)
  simp only [signB, List.length_append]; omega
theorem oneB_len {x : zf} (h : zfc x.op ≤ 20971520) (h1 : zK x = 0) (h2 : zR x.key x.dig = 0) : (oneB x).length ≤ 20971700 := by
  have a := zmf (by omega) h1
  have b := signB_len h2
  have c := zdN (x := reqB x) (by omega)
  simp only [oneB, List.length_append]; omega
theorem znw {l : List zf} (h : ∀ x ∈ l, zfc x.op ≤ 20971520) (hc : zh l = 0) (k : Nat) : (zew (l.take k)).length ≤ 83886800 := by
  obtain ⟨h4, hm, _⟩ := zkr hc
  have key : ∀ (m : List zf), (∀ x ∈ m, x ∈ l) → (zew m).length ≤ m.length * 20971700 := by
    intro m
    induction m with
    | nil => intro _; simp [zew]
    | cons x m ih =>
      intro hsub
      have h1 := ih fun y hy => hsub y (by simp [hy])
      have hx := hsub x (by simp)
      have h2 := oneB_len (h x hx) (hm x hx).1 (hm x hx).2
      simp only [zew, List.map_cons, List.flatten_cons, List.length_append, List.length_cons] at h1 ⊢
      omega
  have := key (l.take k) fun x hx => List.mem_of_mem_take hx
  have h5 : (l.take k).length ≤ 4 := by rw [List.length_take]; omega
  have h6 : (l.take k).length * 20971700 ≤ 4 * 20971700 := Nat.mul_le_mul_right _ h5
  omega
theorem batchBs_snoc {l : List zf} {k : Nat} {x : zf} (h : l[k]? = some x) : zew (l.take (k + 1)) = zew (l.take k) ++ oneB x := by
  rw [List.take_add_one, h]; simp [zew]
theorem reqBytes_len {x : zf} (h : zfc x.op ≤ 20971520) : (zfy x).length ≤ 20971600 := by
  unfold zfy
  split
  · rename_i hc; have := zmf (by omega) hc; omega
  · simp
theorem zgn {l : List zf} (h : ∀ x ∈ l, zfc x.op ≤ 20971520) : (zda l).length ≤ 83886900 := by
  unfold zda
  split
  · rename_i hc
    have := znw h hc l.length
    rw [List.take_length] at this
    have h4 := (zkr hc).1
    have n1 := zo (n := l.length) (by omega)
    simp only [zdb, List.length_append]; omega
  · simp

theorem reqB_pre {x y : zf} {s t : List UInt8} (hx : zK x = 0) (hy : zK y = 0) (zx : zfc x.op ≤ 20971520) (zy : zfc y.op ≤ 20971520) (h : reqB x ++ s = reqB y ++ t) :
    (x.client = y.client ∧ x.time = y.time ∧ x.op = y.op) ∧ s = t := by
  obtain ⟨a1, a2, a3, a4, a5⟩ := req_ok hx
  obtain ⟨b1, b2, b3, b4, b5⟩ := req_ok hy
  simp only [reqB, List.append_assoc] at h
  obtain ⟨e1, h⟩ := zch (by omega) (by omega) h
  obtain ⟨e2, h⟩ := zch (by omega) (by omega) h
  obtain ⟨e3, h⟩ := opB_pre a5 b5 (by omega) (by omega) h
  exact ⟨⟨by omega, by omega, e3⟩, h⟩
theorem signB_pre {k d k' d' : Int} {s t : List UInt8} (h1 : zR k d = 0) (h2 : zR k' d' = 0) (h : signB k d ++ s = signB k' d' ++ t) : (k = k' ∧ d = d') ∧ s = t := by
  have a := zpd h1
  have b := zpd h2
  simp only [signB, List.append_assoc] at h
  obtain ⟨e1, h⟩ := zch (by omega) (by omega) h
  obtain ⟨e2, h⟩ := zch (by omega) (by omega) h
  exact ⟨⟨by omega, by omega⟩, h⟩
theorem oneB_pre {x y : zf} {s t : List UInt8} (hx : zK x = 0 ∧ zR x.key x.dig = 0) (hy : zK y = 0 ∧ zR y.key y.dig = 0) (zx : zfc x.op ≤ 20971520) (zy : zfc y.op ≤ 20971520) (h : oneB x ++ s = oneB y ++ t) :
    x = y ∧ s = t := by
  have l1 := zmf (x := x) (by omega) hx.1
  have l2 := zmf (x := y) (by omega) hy.1
  simp only [oneB, List.append_assoc] at h
  obtain ⟨e1, h⟩ := zgS (by omega) (by omega) h
  obtain ⟨e2, h⟩ := signB_pre hx.2 hy.2 h
  have e3 := (reqB_pre (s := []) (t := []) hx.1 hy.1 zx zy (by rw [e1])).1
  refine ⟨?_, h⟩
  obtain ⟨e4, e5, e6⟩ := e3
  obtain ⟨e7, e8⟩ := e2
  cases x; cases y; simp_all
theorem znx : ∀ {a b : List zf}, a.length = b.length → (∀ x ∈ a, (zK x = 0 ∧ zR x.key x.dig = 0) ∧ zfc x.op ≤ 20971520) → (∀ x ∈ b, (zK x = 0 ∧ zR x.key x.dig = 0) ∧ zfc x.op ≤ 20971520) →
    zew a = zew b → a = b
  | [], [], _, _, _, _ => rfl
  | [], y :: ys, hl, _, _, _ => by simp at hl
  | x :: xs, [], hl, _, _, _ => by simp at hl
  | x :: xs, y :: ys, hl, hx, hy, h => by
    simp only [zew, List.map_cons, List.flatten_cons] at h
    have h1 := hx x (by simp)
    have h2 := hy y (by simp)
    obtain ⟨e1, h⟩ := oneB_pre h1.1 h2.1 h1.2 h2.2 h
    rw [e1, znx (by simpa using hl) (fun z hz => hx z (by simp [hz])) (fun z hz => hy z (by simp [hz])) h]
theorem batchB_inj {a b : List zf} (ha : zh a = 0) (hb : zh b = 0) (za : ∀ x ∈ a, zfc x.op ≤ 20971520) (zb : ∀ x ∈ b, zfc x.op ≤ 20971520) (h : zdb a = zdb b) : a = b := by
  obtain ⟨a4, am, _⟩ := zkr ha
  obtain ⟨b4, bm, _⟩ := zkr hb
  simp only [zdb] at h
  obtain ⟨e1, h⟩ := zch (by omega) (by omega) h
  exact znx e1 (fun x hx => ⟨am x hx, za x hx⟩) (fun x hx => ⟨bm x hx, zb x hx⟩) h


def zfX : Nat → Nat → Nat → Nat
  | 0, k, _ => k
  | f + 1, k, n => if k < n - k then zfX f (k * 2) n else k
def zS (n : Nat) : Nat := if n < 2 then 0 else zfX n 1 n
theorem splitA_lt : ∀ (f k n : Nat), 1 ≤ k → k < n → 1 ≤ zfX f k n ∧ zfX f k n < n
  | 0, k, n, h1, h2 => ⟨h1, h2⟩
  | f + 1, k, n, h1, h2 => by
    simp only [zfX]
    split
    · exact splitA_lt f (k * 2) n (by omega) (by omega)
    · exact ⟨h1, h2⟩
theorem zgq {n : Nat} (h : 2 ≤ n) : 1 ≤ zS n ∧ zS n < n := by
  rw [zS, if_neg (by omega)]
  exact splitA_lt n 1 n (by omega) (by omega)
theorem zjo : ∀ (f k n : Nat), ¬ k < n - k → zfX f k n = k
  | 0, _, _, _ => rfl
  | f + 1, k, n, h => by rw [zfX, if_neg h]
theorem zmx : ∀ (f k n : Nat), 1 ≤ k → n < k + f → k < n - k → zfX f k n = zfX f (k * 2) n
  | 0, k, n, _, h, h2 => by omega
  | f + 1, k, n, h1, h, h2 => by
    rw [zfX, if_pos h2]
    by_cases h3 : k * 2 < n - k * 2
    · have e : zfX (f + 1) (k * 2) n = zfX f (k * 2 * 2) n := by rw [zfX, if_pos h3]
      rw [e]
      exact zmx f (k * 2) n (by omega) (by omega) h3
    · rw [zjo f _ _ h3, zjo (f + 1) _ _ h3]
def zlW (b : List UInt8) : List UInt8 := 0 :: b
def zjZ (l r : Int) : List UInt8 := 1 :: (zbG l.toNat ++ zbG r.toNat)
def zgg : Nat → List (List UInt8) → List (List UInt8) → Int × List (List UInt8)
  | _, L, [] => (zex L [2], zee L [2])
  | _, L, [x] => (zex L (zlW x), zee L (zlW x))
  | 0, L, _ => (0, L)
  | f + 1, L, l =>
    let a := zgg f L (l.take (zS l.length))
    let b := zgg f a.2 (l.drop (zS l.length))
    (zex b.2 (zjZ a.1 b.1), zee b.2 (zjZ a.1 b.1))
def rootF (L l : List (List UInt8)) : Int × List (List UInt8) := zgg l.length L l
theorem ziA : ∀ (f g : Nat) (L l : List (List UInt8)), l.length ≤ f → l.length ≤ g → zgg f L l = zgg g L l
  | f, g, L, [], _, _ => by cases f <;> cases g <;> rfl
  | f, g, L, [x], _, _ => by cases f <;> cases g <;> rfl
  | 0, _, L, x :: y :: r, h, _ => by simp at h
  | _, 0, L, x :: y :: r, _, h => by simp at h
  | f + 1, g + 1, L, x :: y :: r, h1, h2 => by
    have hs := zgq (n := (x :: y :: r).length) (by simp)
    have e := ziA f g L ((x :: y :: r).take (zS (x :: y :: r).length)) (by rw [List.length_take]; omega) (by rw [List.length_take]; omega)
    simp only [zgg, e]
    rw [ziA f g (zgg g L ((x :: y :: r).take (zS (x :: y :: r).length))).2 ((x :: y :: r).drop (zS (x :: y :: r).length)) (by rw [List.length_drop]; omega) (by rw [List.length_drop]; omega)]
theorem zmD {L l : List (List UInt8)} (h : 2 ≤ l.length) : rootF L l = (zex (rootF (rootF L (l.take (zS l.length))).2 (l.drop (zS l.length))).2 (zjZ (rootF L (l.take (zS l.length))).1 (rootF (rootF L (l.take (zS l.length))).2 (l.drop (zS l.length))).1),
    zee (rootF (rootF L (l.take (zS l.length))).2 (l.drop (zS l.length))).2 (zjZ (rootF L (l.take (zS l.length))).1 (rootF (rootF L (l.take (zS l.length))).2 (l.drop (zS l.length))).1)) := by
  have hs := zgq h
  have h1 : (l.take (zS l.length)).length = zS l.length := by rw [List.length_take]; omega
  have h2 : (l.drop (zS l.length)).length = l.length - zS l.length := List.length_drop
  obtain ⟨m, hm⟩ : ∃ m, l.length = m + 1 := ⟨l.length - 1, by omega⟩
  have e : ∀ l : List (List UInt8), 2 ≤ l.length → ∀ m, zgg (m + 1) L l = (zex (zgg m (zgg m L (l.take (zS l.length))).2 (l.drop (zS l.length))).2 (zjZ (zgg m L (l.take (zS l.length))).1 (zgg m (zgg m L (l.take (zS l.length))).2 (l.drop (zS l.length))).1), zee (zgg m (zgg m L (l.take (zS l.length))).2 (l.drop (zS l.length))).2 (zjZ (zgg m L (l.take (zS l.length))).1 (zgg m (zgg m L (l.take (zS l.length))).2 (l.drop (zS l.length))).1)) := by
    intro l hl m
    match l, hl with
    | x :: y :: r, _ => simp only [zgg]
  have f1 := ziA m (l.take (zS l.length)).length L (l.take (zS l.length)) (by omega) (Nat.le_refl _)
  have f2 := fun L' => ziA m (l.drop (zS l.length)).length L' (l.drop (zS l.length)) (by omega) (Nat.le_refl _)
  have f0 : zgg l.length L l = zgg (m + 1) L l := by rw [hm]
  unfold rootF
  rw [f0, e l h m, f1, f2]
theorem rootF_0 (L : List (List UInt8)) : rootF L [] = (zex L [2], zee L [2]) := rfl
theorem rootF_1 (L : List (List UInt8)) (x : List UInt8) : rootF L [x] = (zex L (zlW x), zee L (zlW x)) := rfl
end Go.AW

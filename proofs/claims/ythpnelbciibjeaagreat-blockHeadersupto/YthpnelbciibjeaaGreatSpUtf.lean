/- Runes: the first rune of a text, as the document has it and as Go's 'range' has it; names. No program in sight. -/
import Derived.Test.YthpnelbciibjeaaGreatCl1
import GoSem.Core.Utf8
import Derived.Test.YthpnelbciibjeaaGreatSpTab
set_option linter.all false
set_option linter.unusedSimpArgs false
set_option linter.unusedVariables false
set_option maxRecDepth 100000
namespace Go.AW

def at8 (s : List UInt8) (i : Nat) : Nat := (s[i]?.getD 0).toNat
def sizeF (c : Nat) : Nat := if c < 128 then 1 else if 194 ≤ c ∧ c < 224 then 2 else if 224 ≤ c ∧ c < 240 then 3 else if 240 ≤ c ∧ c < 245 then 4 else 0
def zmp (s : List UInt8) (z : Nat) : Nat → Nat
  | 0 => at8 s 0 % 2 ^ (7 - z)
  | i + 1 => zmp s z i * 64 + at8 s (i + 1) % 64
def contF (s : List UInt8) (i : Nat) : Bool := decide (128 ≤ at8 s i ∧ at8 s i < 192)
def zeh (z : Nat) : Nat := if z = 2 then 128 else if z = 3 then 2048 else if z = 4 then 65536 else 0
def zqe (s : List UInt8) : Nat × Nat :=
  let z := sizeF (at8 s 0)
  if z = 0 ∨ z > s.length then (0, 0)
  else if z = 1 then (at8 s 0, 1)
  else if (∀ i, i < z → 1 ≤ i → contF s i = true) then
    if zmp s z (z - 1) < zeh z ∨ zmp s z (z - 1) > 1114111 ∨ (55296 ≤ zmp s z (z - 1) ∧ zmp s z (z - 1) < 57344) then (0, 0) else (zmp s z (z - 1), z)
  else (0, 0)

theorem at8_lt (s : List UInt8) (i : Nat) : at8 s i < 256 := (s[i]?.getD 0).toNat_lt
theorem zhB (s : List UInt8) (p i : Nat) : at8 (s.drop p) i = at8 s (p + i) := by simp [at8, List.getElem?_drop]
theorem get_at8 (s : List UInt8) (i : Nat) : ((ByteArray.mk s.toArray).get! i).toNat = at8 s i := by
  simp only [ByteArray.get!, at8]
  rw [getElem!_def]
  simp only [List.getElem?_toArray]
  cases s[i]? <;> rfl

theorem all2 (p : Nat → Bool) : (∀ i, i < 2 → 1 ≤ i → p i = true) ↔ p 1 = true := ⟨fun h => h 1 (by omega) (by omega), fun h i h1 h2 => by
  obtain rfl : i = 1 := by omega
  exact h⟩
theorem all3 (p : Nat → Bool) : (∀ i, i < 3 → 1 ≤ i → p i = true) ↔ p 1 = true ∧ p 2 = true := ⟨fun h => ⟨h 1 (by omega) (by omega), h 2 (by omega) (by omega)⟩, fun h i h1 h2 => by
  have : i = 1 ∨ i = 2 := by omega
  rcases this with rfl | rfl
  · exact h.1
  · exact h.2⟩
theorem all4 (p : Nat → Bool) : (∀ i, i < 4 → 1 ≤ i → p i = true) ↔ p 1 = true ∧ p 2 = true ∧ p 3 = true := ⟨fun h => ⟨h 1 (by omega) (by omega), h 2 (by omega) (by omega), h 3 (by omega) (by omega)⟩, fun h i h1 h2 => by
  have : i = 1 ∨ i = 2 ∨ i = 3 := by omega
  rcases this with rfl | rfl | rfl
  · exact h.1
  · exact h.2.1
  · exact h.2.2⟩

def zku (s : List UInt8) : Nat × Nat := if (zqe s).2 = 0 then (65533, 1) else zqe s

theorem decode_eq (s : List UInt8) (p : Nat) (hp : p < s.length) : Utf8.decode ⟨s.toArray⟩ p = zku (s.drop p) := by
  have hsz : (ByteArray.mk s.toArray).size = s.length := by simp [ByteArray.size]
  have hl : (s.drop p).length = s.length - p := by simp
  unfold Utf8.decode
  simp only [get_at8, hsz, Nat.add_zero]
  have h0 := at8_lt s p
  have h1 := at8_lt s (p + 1)
  have h2 := at8_lt s (p + 2)
  have h3 := at8_lt s (p + 3)
  simp only [zku, zqe, sizeF, hl, zhB, Nat.add_zero]
  generalize e0 : at8 s p = b0 at *
  generalize e1 : at8 s (p + 1) = b1 at *
  generalize e2 : at8 s (p + 2) = b2 at *
  generalize e3 : at8 s (p + 3) = b3 at *
  have hc1 : contF (s.drop p) 1 = decide (128 ≤ b1 ∧ b1 < 192) := by simp only [contF, zhB, e1]
  have hc2 : contF (s.drop p) 2 = decide (128 ≤ b2 ∧ b2 < 192) := by simp only [contF, zhB, e2]
  have hc3 : contF (s.drop p) 3 = decide (128 ≤ b3 ∧ b3 < 192) := by simp only [contF, zhB, e3]
  have p2 : zmp (s.drop p) 2 1 = b0 % 32 * 64 + b1 % 64 := by simp only [zmp, zhB, Nat.add_zero, e0, e1]
  have p3 : zmp (s.drop p) 3 2 = b0 % 16 * 4096 + b1 % 64 * 64 + b2 % 64 := by simp only [zmp, zhB, Nat.add_zero, e0, e1, e2]; omega
  have p4 : zmp (s.drop p) 4 3 = b0 % 8 * 262144 + b1 % 64 * 4096 + b2 % 64 * 64 + b3 % 64 := by simp only [zmp, zhB, Nat.add_zero, e0, e1, e2, e3]; omega
  have c1 : (b1 / 64 == 2) = decide (128 ≤ b1 ∧ b1 < 192) := by rw [Bool.eq_iff_iff]; simp; omega
  have c2 : (b2 / 64 == 2) = decide (128 ≤ b2 ∧ b2 < 192) := by rw [Bool.eq_iff_iff]; simp; omega
  have c3 : (b3 / 64 == 2) = decide (128 ≤ b3 ∧ b3 < 192) := by rw [Bool.eq_iff_iff]; simp; omega
  simp only [c1, c2, c3]
  by_cases a1 : b0 < 128
  · have : ¬ (1 > s.length - p) := by omega
    simp [a1, this]
  by_cases a2 : 194 ≤ b0 ∧ b0 < 224
  · have q1 : (b0 / 32 == 6) = true := by simp; omega
    have q2 : (b0 / 16 == 14) = false := by simp; omega
    have q3 : (b0 / 8 == 30) = false := by simp; omega
    simp only [a1, a2, q1, q2, q3, if_false, if_true, all2, hc1, p2, zeh]
    by_cases l1 : p + 1 < s.length
    · have : ¬ (2 > s.length - p) := by omega
      by_cases k1 : 128 ≤ b1 ∧ b1 < 192
      · have g1 : 128 ≤ b0 % 32 * 64 + b1 % 64 := by omega
        have g2 : ¬ (b0 % 32 * 64 + b1 % 64 < 128 ∨ b0 % 32 * 64 + b1 % 64 > 1114111 ∨ 55296 ≤ b0 % 32 * 64 + b1 % 64 ∧ b0 % 32 * 64 + b1 % 64 < 57344) := by omega
        simp [l1, this, k1, g1, g2, all2, hc1, p2, zeh, Utf8.runeError]
      · simp [l1, this, k1, all2, hc1, p2, zeh, Utf8.runeError]
    · have : 2 > s.length - p := by omega
      simp [l1, this, all2, hc1, p2, zeh, Utf8.runeError]
  by_cases a3 : 224 ≤ b0 ∧ b0 < 240
  · have q1 : (b0 / 32 == 6) = false := by simp; omega
    have q2 : (b0 / 16 == 14) = true := by simp; omega
    have q3 : (b0 / 8 == 30) = false := by simp; omega
    simp only [a1, a2, a3, q1, q2, q3, if_false, if_true, all3, hc1, hc2, p3, zeh]
    by_cases l1 : p + 2 < s.length
    · have : ¬ (3 > s.length - p) := by omega
      have l2 : p + 1 < s.length := by omega
      by_cases k1 : 128 ≤ b1 ∧ b1 < 192
      · by_cases k2 : 128 ≤ b2 ∧ b2 < 192
        · obtain ⟨v, hv⟩ : ∃ v, v = b0 % 16 * 4096 + b1 % 64 * 64 + b2 % 64 := ⟨_, rfl⟩
          simp only [← hv]
          rw [← hv] at p3
          have hv' : v < 65536 := by omega
          by_cases g : v < 2048 ∨ 55296 ≤ v ∧ v < 57344
          · have g1 : (decide (v ≥ 2048) && Utf8.valid (v : Int)) = false := by simp [Utf8.valid]; omega
            have g2 : v < 2048 ∨ v > 1114111 ∨ 55296 ≤ v ∧ v < 57344 := by omega
            simp [l1, l2, this, k1, k2, g2, g1, all3, hc1, hc2, p3, zeh, Utf8.runeError]
          · have g1 : (decide (v ≥ 2048) && Utf8.valid (v : Int)) = true := by simp [Utf8.valid]; omega
            have g2 : ¬ (v < 2048 ∨ v > 1114111 ∨ 55296 ≤ v ∧ v < 57344) := by omega
            rw [g1]
            simp [l1, l2, this, k1, k2, g2, all3, hc1, hc2, p3, zeh, Utf8.runeError]
        · simp [l1, l2, this, k1, k2, all3, hc1, hc2, p3, zeh, Utf8.runeError]
      · simp [l1, l2, this, k1, all3, hc1, hc2, p3, zeh, Utf8.runeError]
    · have : 3 > s.length - p := by omega
      simp [l1, this, all3, hc1, hc2, p3, zeh, Utf8.runeError]
  by_cases a4 : 240 ≤ b0 ∧ b0 < 245
  · have q1 : (b0 / 32 == 6) = false := by simp; omega
    have q2 : (b0 / 16 == 14) = false := by simp; omega
    have q3 : (b0 / 8 == 30) = true := by simp; omega
    simp only [a1, a2, a3, a4, q1, q2, q3, if_false, if_true, all4, hc1, hc2, hc3, p4, zeh]
    by_cases l1 : p + 3 < s.length
    · have : ¬ (4 > s.length - p) := by omega
      have l2 : p + 1 < s.length := by omega
      have l3 : p + 2 < s.length := by omega
      by_cases k1 : 128 ≤ b1 ∧ b1 < 192
      · by_cases k2 : 128 ≤ b2 ∧ b2 < 192
        · by_cases k3 : 128 ≤ b3 ∧ b3 < 192
          · obtain ⟨v, hv⟩ : ∃ v, v = b0 % 8 * 262144 + b1 % 64 * 4096 + b2 % 64 * 64 + b3 % 64 := ⟨_, rfl⟩
            simp only [← hv]
            rw [← hv] at p4
            by_cases g : v < 65536 ∨ v > 1114111
            · have g1 : (decide (v ≥ 65536) && Utf8.valid (v : Int)) = false := by simp [Utf8.valid]; omega
              have g2 : v < 65536 ∨ v > 1114111 ∨ 55296 ≤ v ∧ v < 57344 := by omega
              rw [g1]
              simp [l1, l2, l3, this, k1, k2, k3, g2, all4, hc1, hc2, hc3, p4, zeh, Utf8.runeError]
            · have g1 : (decide (v ≥ 65536) && Utf8.valid (v : Int)) = true := by simp [Utf8.valid]; omega
              have g2 : ¬ (v < 65536 ∨ v > 1114111 ∨ 55296 ≤ v ∧ v < 57344) := by omega
              rw [g1]
              simp [l1, l2, l3, this, k1, k2, k3, g2, all4, hc1, hc2, hc3, p4, zeh, Utf8.runeError]
          · simp [l1, l2, l3, this, k1, k2, k3, all4, hc1, hc2, hc3, p4, zeh, Utf8.runeError]
        · simp [l1, l2, l3, this, k1, k2, all4, hc1, hc2, hc3, p4, zeh, Utf8.runeError]
      · simp [l1, l2, l3, this, k1, all4, hc1, hc2, hc3, p4, zeh, Utf8.runeError]
    · have : 4 > s.length - p := by omega
      simp [l1, this, all4, hc1, hc2, hc3, p4, zeh, Utf8.runeError]
  · have q2 : (b0 / 16 == 14) = false := by simp; omega
    simp only [a1, a2, a3, a4, q2, if_false, if_true]
    by_cases q : b0 / 32 = 6
    · have h192 : b0 = 192 ∨ b0 = 193 := by omega
      have q3 : (b0 / 8 == 30) = false := by simp; omega
      have g : ¬ (b0 % 32 * 64 + b1 % 64 ≥ 128) := by omega
      simp [q, q3, g, Utf8.runeError]
    · by_cases q' : b0 / 8 = 30
      · have g : ¬ ((b0 % 8 * 262144 + b1 % 64 * 4096 + b2 % 64 * 64 + b3 % 64) ≤ 1114111) := by omega
        obtain ⟨v, hv⟩ : ∃ v, v = b0 % 8 * 262144 + b1 % 64 * 4096 + b2 % 64 * 64 + b3 % 64 := ⟨_, rfl⟩
        rw [← hv] at g
        simp only [← hv]
        have g1 : Utf8.valid (v : Int) = false := by simp [Utf8.valid]; omega
        simp [q, q', g1, Utf8.runeError]
      · simp [q, q', Utf8.runeError]

theorem ziZ (s : List UInt8) : (zqe s).2 ≤ s.length ∧ (zqe s).2 ≤ 4 ∧ (zqe s).1 ≤ 1114111 := by
  have h0 := at8_lt s 0
  have hz : sizeF (at8 s 0) ≤ 4 := by unfold sizeF; split <;> (try split) <;> (try split) <;> (try split) <;> omega
  simp only [zqe]
  split
  · simp
  · rename_i h
    split
    · rename_i h1; simp only []; omega
    · split
      · split
        · simp
        · simp only []; omega
      · simp
theorem goDec_width (s : List UInt8) (h : s ≠ []) : 1 ≤ (zku s).2 ∧ (zku s).2 ≤ s.length ∧ (zku s).1 ≤ 1114111 := by
  have h1 := ziZ s
  have h2 : 0 < s.length := List.length_pos_iff.2 h
  unfold zku
  split
  · simp; omega
  · omega

def badF (v : Nat) : Bool := decide (v < 33 ∨ (127 ≤ v ∧ v ≤ 159) ∨ v = 47 ∨ v = 65533)
def zel : Nat → List UInt8 → Option Nat
  | 0, _ => none
  | f + 1, s => if s = [] then some 0 else if (zqe s).2 = 0 ∨ badF (zqe s).1 = true then none else (zel f (s.drop (zqe s).2)).map (· + 1)
def zjo (s : List UInt8) : Nat := match zel (s.length + 1) s with
  | some n => if n > 16 then 0 else n
  | none => 0
def zcS (s : List UInt8) : Bool := decide (0 < zjo s)

theorem goDec_bad (s : List UInt8) : badF (zku s).1 = (decide ((zqe s).2 = 0) || badF (zqe s).1) := by
  unfold zku
  split
  · rename_i h; simp [h, badF]
  · rename_i h; simp [h]
theorem goDec_good {s : List UInt8} (h : badF (zku s).1 = false) : zku s = zqe s ∧ (zqe s).2 ≠ 0 ∧ badF (zqe s).1 = false := by
  rw [goDec_bad] at h
  simp at h
  exact ⟨by simp [zku, h.1], h.1, h.2⟩
theorem znB : ∀ (f g : Nat) (s : List UInt8), s.length < f → s.length < g → zel f s = zel g s
  | 0, _, _, h, _ => by omega
  | _, 0, _, _, h => by omega
  | f + 1, g + 1, s, h1, h2 => by
    simp only [zel]
    split
    · rfl
    · rename_i hs
      split
      · rfl
      · rename_i hd
        have hw := ziZ s
        have : 0 < s.length := List.length_pos_iff.2 hs
        rw [znB f g _ (by simp; omega) (by simp; omega)]

def zay (x : zk) : Int := if x.client < 0 ∨ x.client ≥ 8 ∨ x.time < 1 ∨ x.time > 9007199254740992 then 80 else zav zcS x.op
def zaJ (k d : Int) : Int := if k < 0 ∨ k ≥ 21 ∨ d < 1 ∨ d > 9007199254740992 then 81 else 0
def errF (s : zk) : Int := if zay s ≠ 0 then zay s else zaJ s.key s.dig
def zio : List zk → Int
  | [] => 0
  | s :: r => if errF s ≠ 0 then errF s else zio r
def ndup (a b : zk) : Prop := ¬ (a.client = b.client ∧ a.time = b.time)
instance : DecidableRel ndup := fun a b => inferInstanceAs (Decidable (¬ _))
def zI (l : List zk) : Int :=
  if l.length > 4 then 3 else if zio l ≠ 0 then zio l else if l.Pairwise ndup then 0 else 5

theorem zoN {l : List zk} : ∀ {k : Nat} {x : zk}, l[k]? = some x → zio (l.take k) = 0 → errF x ≠ 0 → zio l = errF x := by
  induction l with
  | nil => intro k x h; simp at h
  | cons s r ih =>
    intro k x h h0 hx
    cases k with
    | zero => simp at h; subst h; simp [zio, hx]
    | succ k =>
      simp only [List.take_succ_cons, zio] at h0 ⊢
      simp at h
      split at h0
      · rename_i hs; exact absurd h0 hs
      · rename_i hs; rw [if_neg hs]; exact ih h h0 hx
theorem errsF_snoc {l : List zk} {k : Nat} {x : zk} (h : l[k]? = some x) (h0 : zio (l.take k) = 0) (hx : errF x = 0) : zio (l.take (k + 1)) = 0 := by
  have key : ∀ (a : List zk), zio a = 0 → zio (a ++ [x]) = 0 := by
    intro a
    induction a with
    | nil => intro _; simp [zio, hx]
    | cons s r ih =>
      intro h
      simp only [List.cons_append, zio] at h ⊢
      split at h
      · rename_i hs; exact absurd h hs
      · rename_i hs; rw [if_neg hs]; exact ih h
  rw [List.take_add_one, h]
  exact key _ h0
theorem pairs_snoc {l : List zk} {k : Nat} {x : zk} (h : l[k]? = some x) (h0 : (l.take k).Pairwise ndup) (hx : ∀ y ∈ l.take k, ¬ (x.client = y.client ∧ x.time = y.time)) : (l.take (k + 1)).Pairwise ndup := by
  rw [List.take_add_one, h]
  refine List.pairwise_append.2 ⟨h0, by simp, fun a ha b hb => ?_⟩
  simp at hb; subst hb
  exact fun e => hx a ha ⟨e.1.symm, e.2.symm⟩
theorem pairs_not {l : List zk} {k j : Nat} {x y : zk} (h : l[k]? = some x) (hy : l[j]? = some y) (hj : j < k) (hxy : x.client = y.client ∧ x.time = y.time) : ¬ l.Pairwise ndup := by
  intro hp
  rw [List.pairwise_iff_getElem] at hp
  obtain ⟨hk, rfl⟩ := List.getElem?_eq_some_iff.1 h
  obtain ⟨hj', rfl⟩ := List.getElem?_eq_some_iff.1 hy
  exact hp j k hj' hk hj ⟨hxy.1.symm, hxy.2.symm⟩

def okO (o : TOp) : Prop := o.topic.length ≤ 1073741824 ∧ o.group.length ≤ 1073741824 ∧ o.recs.length ≤ 1073741824 ∧ ∀ r ∈ o.recs, r.length ≤ 1073741824
def okB (b : List zk) : Prop := b.length ≤ 1073741824 ∧ ∀ x ∈ b, okO x.op

def ziR (most : Nat) : Nat → Nat → List UInt8 → Except Int (Nat × List UInt8)
  | _, _, [] => .error 10
  | i, acc, c :: r =>
    if i = 9 ∧ c.toNat > 1 then .error 11
    else if c.toNat < 128 then (if (i > 0 ∧ c.toNat = 0) ∨ acc + c.toNat * 128 ^ i > most then .error 11 else .ok (acc + c.toNat * 128 ^ i, r))
    else ziR most (i + 1) (acc + c.toNat % 128 * 128 ^ i) r

theorem zpu (most : Nat) : ∀ (bs : List UInt8) (i acc n : Nat) (rest : List UInt8), i ≤ 9 → ziR most i acc bs = .ok (n, rest) → ∃ m, n = acc + m * 128 ^ i ∧ bs = zbs m ++ rest ∧ n ≤ most ∧ (i > 0 → m ≠ 0) ∧ m < 128 ^ (9 - i) * 2
  | [], i, acc, n, rest, _, h => by simp [ziR] at h
  | c :: r, i, acc, n, rest, hi, h => by
    have hc := c.toNat_lt
    simp only [ziR] at h
    split at h
    · cases h
    · rename_i h1
      split at h
      · rename_i h2
        split at h
        · cases h
        · rename_i h3
          cases h
          have hp : 1 ≤ 128 ^ (9 - i) := Nat.one_le_pow _ _ (by omega)
          refine ⟨c.toNat, rfl, ?_, by omega, fun hi0 hc0 => h3 (.inl ⟨hi0, hc0⟩), ?_⟩
          · rw [zgJ h2]; simp
          · rcases Nat.lt_or_ge i 9 with h9 | h9
            · have : 128 ^ 1 ≤ 128 ^ (9 - i) := Nat.pow_le_pow_right (by omega) (by omega)
              omega
            · have : i = 9 := by omega
              subst this
              simp; omega
      · rename_i h2
        have hi9 : i < 9 := by
          rcases Nat.lt_or_ge i 9 with h9 | h9
          · exact h9
          · exact absurd ⟨by omega, by omega⟩ h1
        obtain ⟨m, e1, e2, e3, e4, e5⟩ := zpu most r (i + 1) _ n rest (by omega) h
        have hm0 : m ≠ 0 := e4 (by omega)
        have hpi : 128 ^ (i + 1) = 128 ^ i * 128 := Nat.pow_succ ..
        have hp : 128 ^ (9 - i) = 128 ^ (9 - (i + 1)) * 128 := by rw [show 9 - i = (9 - (i + 1)) + 1 by omega, Nat.pow_succ]
        refine ⟨c.toNat % 128 + m * 128, ?_, ?_, e3, fun _ => by omega, ?_⟩
        · rw [e1, hpi, Nat.add_mul, Nat.mul_comm (128 ^ i) 128, ← Nat.mul_assoc, Nat.add_assoc]
        · have hb : ¬ (c.toNat % 128 + m * 128 < 128) := by omega
          rw [zmA hb, show (c.toNat % 128 + m * 128) % 128 + 128 = c.toNat by omega, show (c.toNat % 128 + m * 128) / 128 = m by omega]
          simp [e2]
        · rw [hp, Nat.mul_right_comm]
          generalize 128 ^ (9 - (i + 1)) = q at e5 ⊢
          omega


def reqB (x : zk) : List UInt8 := zbs x.client.toNat ++ (zbs x.time.toNat ++ opB x.op)
def zfC (x : zk) : List UInt8 := if zay x = 0 then reqB x else []
def signB (k d : Int) : List UInt8 := zbs k.toNat ++ zbs d.toNat
def ziO (k d : Int) : List UInt8 := if zaJ k d = 0 then signB k d else []
def oneB (x : zk) : List UInt8 := zka (reqB x) ++ signB x.key x.dig
def zgz (l : List zk) : List UInt8 := (l.map oneB).flatten
def zgn (l : List zk) : List UInt8 := zbs l.length ++ zgz l
def zdw (l : List zk) : List UInt8 := if zI l = 0 then zgn l else []

theorem req_ok {x : zk} (h : zay x = 0) : 0 ≤ x.client ∧ x.client < 8 ∧ 1 ≤ x.time ∧ x.time ≤ 9007199254740992 ∧ zav zcS x.op = 0 := by
  unfold zay at h
  split at h
  · cases h
  · refine ⟨by omega, by omega, by omega, by omega, h⟩
theorem sign_ok {k d : Int} (h : zaJ k d = 0) : 0 ≤ k ∧ k < 21 ∧ 1 ≤ d ∧ d ≤ 9007199254740992 := by
  unfold zaJ at h
  split at h
  · cases h
  · omega
theorem errs_mem {l : List zk} (h : zio l = 0) : ∀ x ∈ l, errF x = 0 := by
  induction l with
  | nil => simp
  | cons s r ih =>
    simp only [zio] at h
    split at h
    · rename_i hs; exact absurd h hs
    · rename_i hs
      intro x hx
      rcases List.mem_cons.1 hx with rfl | hx
      · simpa using hs
      · exact ih h x hx
theorem zqk {l : List zk} (h : zI l = 0) : l.length ≤ 4 ∧ (∀ x ∈ l, zay x = 0 ∧ zaJ x.key x.dig = 0) ∧ l.Pairwise ndup := by
  unfold zI at h
  split at h
  · cases h
  · split at h
    · rename_i h1; exact absurd h h1
    · split at h
      · rename_i h0 h1 h2
        refine ⟨by omega, fun x hx => ?_, h2⟩
        have := errs_mem (by simpa using h1) x hx
        unfold errF at this
        split at this
        · rename_i h3; exact absurd this h3
        · rename_i h3; exact ⟨by simpa using h3, this⟩
      · cases h
theorem opB_len {o : TOp} (h : zna o ≤ 268435456) (hc : zav zcS o = 0) : (opB o).length ≤ zna o + 60 := by
  obtain ⟨k0, k4, o0, o1, _⟩ := check_ok hc
  have hr := zjE o.recs
  have hrb := zjt o.recs (by unfold zna at h; omega) o.recs.length
  rw [List.take_length] at hrb
  unfold zna at h ⊢
  have n1 := zn (n := o.kind.toNat) (by omega)
  have n2 := zn (n := o.topic.length) (by omega)
  have n3 := zn (n := o.group.length) (by omega)
  have n4 := zn (n := o.offset.toNat) (by omega)
  have n5 := zn (n := o.recs.length) (by omega)
  have hk : o.kind = 0 ∨ o.kind = 1 ∨ o.kind = 2 ∨ o.kind = 3 ∨ o.kind = 4 := by omega
  rcases hk with hk | hk | hk | hk | hk
  · rw [opB_0 hk]; omega
  · rw [opB_1 hk]; simp only [List.length_append]; omega
  · rw [opB_2 hk]; simp only [List.length_append]; omega
  · rw [opB_3 hk]; simp only [List.length_append]; omega
  · rw [opB_4 hk]; simp only [List.length_append]; omega
theorem reqB_len {x : zk} (h : zna x.op ≤ 268435456) (hc : zay x = 0) : (reqB x).length ≤ zna x.op + 80 := by
  obtain ⟨c0, c8, t1, t2, ho⟩ := req_ok hc
  have := opB_len h ho
  have n1 := zn (n := x.client.toNat) (by omega)
  have n2 := zn (n := x.time.toNat) (by omega)
  simp only [reqB, List.length_append]; omega
theorem signB_len {k d : Int} (h : zaJ k d = 0) : (signB k d).length ≤ 20 := by
  obtain ⟨k0, k1, d0, d1⟩ := sign_ok h
  have n1 := zn (n := k.toNat) (by omega)
  have n2 := zn (n := d.toNat) (by omega)
  simp only [signB, List.length_append]; omega
theorem oneB_len {x : zk} (h : zna x.op ≤ 20971520) (h1 : zay x = 0) (h2 : zaJ x.key x.dig = 0) : (oneB x).length ≤ 20971700 := by
  have a := reqB_len (by omega) h1
  have b := signB_len h2
  have c := zdJ (x := reqB x) (by omega)
  simp only [oneB, List.length_append]; omega
theorem znJ {l : List zk} (h : ∀ x ∈ l, zna x.op ≤ 20971520) (hc : zI l = 0) (k : Nat) : (zgz (l.take k)).length ≤ 83886800 := by
  obtain ⟨h4, hm, _⟩ := zqk hc
  have key : ∀ (m : List zk), (∀ x ∈ m, x ∈ l) → (zgz m).length ≤ m.length * 20971700 := by
    intro m
    induction m with
    | nil => intro _; simp [zgz]
    | cons x m ih =>
      intro hsub
      have h1 := ih fun y hy => hsub y (by simp [hy])
      have hx := hsub x (by simp)
      have h2 := oneB_len (h x hx) (hm x hx).1 (hm x hx).2
      simp only [zgz, List.map_cons, List.flatten_cons, List.length_append, List.length_cons] at h1 ⊢
      omega
  have := key (l.take k) fun x hx => List.mem_of_mem_take hx
  have h5 : (l.take k).length ≤ 4 := by rw [List.length_take]; omega
  have h6 : (l.take k).length * 20971700 ≤ 4 * 20971700 := Nat.mul_le_mul_right _ h5
  omega
theorem batchBs_snoc {l : List zk} {k : Nat} {x : zk} (h : l[k]? = some x) : zgz (l.take (k + 1)) = zgz (l.take k) ++ oneB x := by
  rw [List.take_add_one, h]; simp [zgz]
theorem reqBytes_len {x : zk} (h : zna x.op ≤ 20971520) : (zfC x).length ≤ 20971600 := by
  unfold zfC
  split
  · rename_i hc; have := reqB_len (by omega) hc; omega
  · simp
theorem zjx {l : List zk} (h : ∀ x ∈ l, zna x.op ≤ 20971520) : (zdw l).length ≤ 83886900 := by
  unfold zdw
  split
  · rename_i hc
    have := znJ h hc l.length
    rw [List.take_length] at this
    have h4 := (zqk hc).1
    have n1 := zn (n := l.length) (by omega)
    simp only [zgn, List.length_append]; omega
  · simp

def zhP (x : Int) : Bool := decide (0 ≤ x ∧ x ≤ 9007199254740992)
def zjg (l : List Int) : List UInt8 := (l.map fun x => zbs x.toNat).flatten
theorem numOk_iff {x : Int} : zhP x = true ↔ 0 ≤ x ∧ x ≤ 9007199254740992 := by simp [zhP]
theorem zov {l : List Int} {k : Nat} {x : Int} (h : l[k]? = some x) : zjg (l.take (k + 1)) = zjg (l.take k) ++ zbs x.toNat := by
  rw [List.take_add_one, h]; simp [zjg]
theorem znb {l : List Int} (h : ∀ x ∈ l, x < 9223372036854775808) : (zjg l).length ≤ l.length * 10 := by
  induction l with
  | nil => simp [zjg]
  | cons x l ih =>
    have h1 := h x (by simp)
    have h2 := zn (n := x.toNat) (by omega)
    have h3 := ih fun y hy => h y (by simp [hy])
    simp only [zjg, List.map_cons, List.flatten_cons, List.length_append, List.length_cons] at h3 ⊢
    omega

structure zfs where
  seq : Int
  prev : Int
  batch : Int
  root : Int
  state : Int
deriving DecidableEq
def zmB (h : zfs) : List Int := [h.seq, h.prev, h.batch, h.root, h.state]
abbrev hdrD (h : zfs) : List D := [.int .i64 h.seq, .int .i64 h.prev, .int .i64 h.batch, .int .i64 h.root, .int .i64 h.state]
abbrev znn (h : zfs) : AV := .agg [.d (.int .i64 h.seq), .d (.int .i64 h.prev), .d (.int .i64 h.batch), .d (.int .i64 h.root), .d (.int .i64 h.state)]
abbrev hdrsE (l : List zfs) : List (List D) := l.map hdrD
def zim (h : zfs) : Bool := (zmB h).all zhP
def zaE (h : zfs) : Int := if zim h = true then 0 else 90
def zoD (h : zfs) : List UInt8 := 3 :: zjg (zmB h)
def hdrBF (h : zfs) : List UInt8 := if zaE h = 0 then zoD h else []
theorem zeH {h : zfs} : zaE h = 0 ↔ zim h = true := by
  unfold zaE; split <;> simp_all
theorem zil {h : zfs} (hk : zim h = true) : ∀ x ∈ zmB h, 0 ≤ x ∧ x ≤ 9007199254740992 := fun x hx => numOk_iff.1 (List.all_eq_true.1 hk x hx)
theorem zpL {h : zfs} (hk : zim h = true) : (zoD h).length ≤ 51 := by
  have := znb (l := zmB h) fun x hx => by have := zil hk x hx; omega
  simp only [zoD, zmB, List.length_cons, List.length_nil] at this ⊢
  omega
def linkF (L : List (List UInt8)) : Option zfs → zfs → Bool
  | none, _ => true
  | some q, h => match zfo L (zoD q) with
    | some i => (h.prev == ((i + 1 : Nat) : Int)) && (h.seq == q.seq + 1)
    | none => false
def chainG (L : List (List UInt8)) : Option zfs → List zfs → Bool
  | _, [] => true
  | p, h :: r => zim h && (linkF L p h && chainG L (some h) r)
def chainF (L : List (List UInt8)) (l : List zfs) : Bool := chainG L none l
structure zcX where
  topic : List UInt8
  offset : Int
  rec_ : List UInt8
abbrev placedD (p : zcX) : List D := [.str p.topic, .int .i64 p.offset, .slice (bcs p.rec_)]
abbrev zdi (l : List zcX) : List (List D) := l.map placedD
def zcH (p : zcX) : List UInt8 := zka p.topic ++ (zbs p.offset.toNat ++ zka p.rec_)
theorem chain_drop {L : List (List UInt8)} {p : Option zfs} {l : List zfs} {k : Nat} {h : zfs} (hx : l[k]? = some h) : chainG L p (l.drop k) = (zim h && (linkF L p h && chainG L (some h) (l.drop (k + 1)))) := by
  have hk : k < l.length := (List.getElem?_eq_some_iff.1 hx).1
  rw [List.drop_eq_getElem_cons hk, (List.getElem?_eq_some_iff.1 hx).2]
  rfl
end Go.AW

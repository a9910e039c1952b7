/- Runes: the first rune of a text, as the document has it and as Go's 'range' has it; names. No program in sight. -/
import Derived.Test.YthpnelbciibjeaaSpNum
import GoSem.Core.Utf8
import Derived.Test.YthpnelbciibjeaaSpTab
set_option linter.all false
set_option linter.unusedSimpArgs false
set_option linter.unusedVariables false
set_option maxRecDepth 100000
namespace Go.AW

def at8 (s : List UInt8) (i : Nat) : Nat := (s[i]?.getD 0).toNat
def sizeF (c : Nat) : Nat := if c < 128 then 1 else if 194 ≤ c ∧ c < 224 then 2 else if 224 ≤ c ∧ c < 240 then 3 else if 240 ≤ c ∧ c < 245 then 4 else 0
def zkM (s : List UInt8) (z : Nat) : Nat → Nat
  | 0 => at8 s 0 % 2 ^ (7 - z)
  | i + 1 => zkM s z i * 64 + at8 s (i + 1) % 64
def contF (s : List UInt8) (i : Nat) : Bool := decide (128 ≤ at8 s i ∧ at8 s i < 192)
def zdR (z : Nat) : Nat := if z = 2 then 128 else if z = 3 then 2048 else if z = 4 then 65536 else 0
def zoa (s : List UInt8) : Nat × Nat :=
  let z := sizeF (at8 s 0)
  if z = 0 ∨ z > s.length then (0, 0)
  else if z = 1 then (at8 s 0, 1)
  else if (∀ i, i < z → 1 ≤ i → contF s i = true) then
    if zkM s z (z - 1) < zdR z ∨ zkM s z (z - 1) > 1114111 ∨ (55296 ≤ zkM s z (z - 1) ∧ zkM s z (z - 1) < 57344) then (0, 0) else (zkM s z (z - 1), z)
  else (0, 0)

theorem at8_lt (s : List UInt8) (i : Nat) : at8 s i < 256 := (s[i]?.getD 0).toNat_lt
theorem zgB (s : List UInt8) (p i : Nat) : at8 (s.drop p) i = at8 s (p + i) := by simp [at8, List.getElem?_drop]
theorem get_at8 (s : List UInt8) (i : Nat) : ((ByteArray.mk s.toArray).get! i).toNat = at8 s i := by
  simp only [ByteArray.get!, at8]
  rw [getElem!_def]
  simp only [List.getElem?_toArray]
  cases s[i]? <;> rfl

theorem all2 (p : Nat → Bool) : (∀ i, i < 2 → 1 ≤ i → p i = true) ↔ p 1 = true := ⟨fun h => h 1 (by omega) (by omega), fun h i h1 h2 => by
  obtain rfl : i = 1 := by omega
  exact h⟩
theorem all3 (p : Nat → Bool) : (∀ i, i < 3 → 1 ≤ i → p i = true) ↔ p 1 = true ∧ p 2 = true := ⟨fun h => ⟨h 1 (by omega) (by omega), h 2 (by omega) (by omega)⟩, fun h i h1 h2 => by
  have : i = 1 ∨ i = 2 := by omega
  rcases this with rfl | rfl
  · exact h.1
  · exact h.2⟩
theorem all4 (p : Nat → Bool) : (∀ i, i < 4 → 1 ≤ i → p i = true) ↔ p 1 = true ∧ p 2 = true ∧ p 3 = true := ⟨fun h => ⟨h 1 (by omega) (by omega), h 2 (by omega) (by omega), h 3 (by omega) (by omega)⟩, fun h i h1 h2 => by
  have : i = 1 ∨ i = 2 ∨ i = 3 := by omega
  rcases this with rfl | rfl | rfl
  · exact h.1
  · exact h.2.1
  · exact h.2.2⟩

def zjn (s : List UInt8) : Nat × Nat := if (zoa s).2 = 0 then (65533, 1) else zoa s

theorem decode_eq (s : List UInt8) (p : Nat) (hp : p < s.length) : Utf8.decode ⟨s.toArray⟩ p = zjn (s.drop p) := by
  have hsz : (ByteArray.mk s.toArray).size = s.length := by simp [ByteArray.size]
  have hl : (s.drop p).length = s.length - p := by simp
  unfold Utf8.decode
  simp only [get_at8, hsz, Nat.add_zero]
  have h0 := at8_lt s p
  have h1 := at8_lt s (p + 1)
  have h2 := at8_lt s (p + 2)
  have h3 := at8_lt s (p + 3)
  simp only [zjn, zoa, sizeF, hl, zgB, Nat.add_zero]
  generalize e0 : at8 s p = b0 at *
  generalize e1 : at8 s (p + 1) = b1 at *
  generalize e2 : at8 s (p + 2) = b2 at *
  generalize e3 : at8 s (p + 3) = b3 at *
  have hc1 : contF (s.drop p) 1 = decide (128 ≤ b1 ∧ b1 < 192) := by simp only [contF, zgB, e1]
  have hc2 : contF (s.drop p) 2 = decide (128 ≤ b2 ∧ b2 < 192) := by simp only [contF, zgB, e2]
  have hc3 : contF (s.drop p) 3 = decide (128 ≤ b3 ∧ b3 < 192) := by simp only [contF, zgB, e3]
  have p2 : zkM (s.drop p) 2 1 = b0 % 32 * 64 + b1 % 64 := by simp only [zkM, zgB, Nat.add_zero, e0, e1]
  have p3 : zkM (s.drop p) 3 2 = b0 % 16 * 4096 + b1 % 64 * 64 + b2 % 64 := by simp only [zkM, zgB, Nat.add_zero, e0, e1, e2]; omega
  have p4 : zkM (s.drop p) 4 3 = b0 % 8 * 262144 + b1 % 64 * 4096 + b2 % 64 * 64 + b3 % 64 := by simp only [zkM, zgB, Nat.add_zero, e0, e1, e2, e3]; omega
  have c1 : (b1 / 64 == 2) = decide (128 ≤ b1 ∧ b1 < 192) := by rw [Bool.eq_iff_iff]; simp; omega
  have c2 : (b2 / 64 == 2) = decide (128 ≤ b2 ∧ b2 < 192) := by rw [Bool.eq_iff_iff]; simp; omega
  have c3 : (b3 / 64 == 2) = decide (128 ≤ b3 ∧ b3 < 192) := by rw [Bool.eq_iff_iff]; simp; omega
  simp only [c1, c2, c3]
  by_cases a1 : b0 < 128
  · have : ¬ (1 > s.length - p) := by omega
    simp [a1, this]
  by_cases a2 : 194 ≤ b0 ∧ b0 < 224
  · have q1 : (b0 / 32 == 6) = true := by simp; omega
    have q2 : (b0 / 16 == 14) = false := by simp; omega
    have q3 : (b0 / 8 == 30) = false := by simp; omega
    simp only [a1, a2, q1, q2, q3, if_false, if_true, all2, hc1, p2, zdR]
    by_cases l1 : p + 1 < s.length
    · have : ¬ (2 > s.length - p) := by omega
      by_cases k1 : 128 ≤ b1 ∧ b1 < 192
      · have g1 : 128 ≤ b0 % 32 * 64 + b1 % 64 := by omega
        have g2 : ¬ (b0 % 32 * 64 + b1 % 64 < 128 ∨ b0 % 32 * 64 + b1 % 64 > 1114111 ∨ 55296 ≤ b0 % 32 * 64 + b1 % 64 ∧ b0 % 32 * 64 + b1 % 64 < 57344) := by omega
        simp [l1, this, k1, g1, g2, all2, hc1, p2, zdR, Utf8.runeError]
      · simp [l1, this, k1, all2, hc1, p2, zdR, Utf8.runeError]
    · have : 2 > s.length - p := by omega
      simp [l1, this, all2, hc1, p2, zdR, Utf8.runeError]
  by_cases a3 : 224 ≤ b0 ∧ b0 < 240
  · have q1 : (b0 / 32 == 6) = false := by simp; omega
    have q2 : (b0 / 16 == 14) = true := by simp; omega
    have q3 : (b0 / 8 == 30) = false := by simp; omega
    simp only [a1, a2, a3, q1, q2, q3, if_false, if_true, all3, hc1, hc2, p3, zdR]
    by_cases l1 : p + 2 < s.length
    · have : ¬ (3 > s.length - p) := by omega
      have l2 : p + 1 < s.length := by omega
      by_cases k1 : 128 ≤ b1 ∧ b1 < 192
      · by_cases k2 : 128 ≤ b2 ∧ b2 < 192
        · obtain ⟨v, hv⟩ : ∃ v, v = b0 % 16 * 4096 + b1 % 64 * 64 + b2 % 64 := ⟨_, rfl⟩
          simp only [← hv]
          rw [← hv] at p3
          have hv' : v < 65536 := by omega
          by_cases g : v < 2048 ∨ 55296 ≤ v ∧ v < 57344
          · have g1 : (decide (v ≥ 2048) && Utf8.valid (v : Int)) = false := by simp [Utf8.valid]; omega
            have g2 : v < 2048 ∨ v > 1114111 ∨ 55296 ≤ v ∧ v < 57344 := by omega
            simp [l1, l2, this, k1, k2, g2, g1, all3, hc1, hc2, p3, zdR, Utf8.runeError]
          · have g1 : (decide (v ≥ 2048) && Utf8.valid (v : Int)) = true := by simp [Utf8.valid]; omega
            have g2 : ¬ (v < 2048 ∨ v > 1114111 ∨ 55296 ≤ v ∧ v < 57344) := by omega
            rw [g1]
            simp [l1, l2, this, k1, k2, g2, all3, hc1, hc2, p3, zdR, Utf8.runeError]
        · simp [l1, l2, this, k1, k2, all3, hc1, hc2, p3, zdR, Utf8.runeError]
      · simp [l1, l2, this, k1, all3, hc1, hc2, p3, zdR, Utf8.runeError]
    · have : 3 > s.length - p := by omega
      simp [l1, this, all3, hc1, hc2, p3, zdR, Utf8.runeError]
  by_cases a4 : 240 ≤ b0 ∧ b0 < 245
  · have q1 : (b0 / 32 == 6) = false := by simp; omega
    have q2 : (b0 / 16 == 14) = false := by simp; omega
    have q3 : (b0 / 8 == 30) = true := by simp; omega
    simp only [a1, a2, a3, a4, q1, q2, q3, if_false, if_true, all4, hc1, hc2, hc3, p4, zdR]
    by_cases l1 : p + 3 < s.length
    · have : ¬ (4 > s.length - p) := by omega
      have l2 : p + 1 < s.length := by omega
      have l3 : p + 2 < s.length := by omega
      by_cases k1 : 128 ≤ b1 ∧ b1 < 192
      · by_cases k2 : 128 ≤ b2 ∧ b2 < 192
        · by_cases k3 : 128 ≤ b3 ∧ b3 < 192
          · obtain ⟨v, hv⟩ : ∃ v, v = b0 % 8 * 262144 + b1 % 64 * 4096 + b2 % 64 * 64 + b3 % 64 := ⟨_, rfl⟩
            simp only [← hv]
            rw [← hv] at p4
            by_cases g : v < 65536 ∨ v > 1114111
            · have g1 : (decide (v ≥ 65536) && Utf8.valid (v : Int)) = false := by simp [Utf8.valid]; omega
              have g2 : v < 65536 ∨ v > 1114111 ∨ 55296 ≤ v ∧ v < 57344 := by omega
              rw [g1]
              simp [l1, l2, l3, this, k1, k2, k3, g2, all4, hc1, hc2, hc3, p4, zdR, Utf8.runeError]
            · have g1 : (decide (v ≥ 65536) && Utf8.valid (v : Int)) = true := by simp [Utf8.valid]; omega
              have g2 : ¬ (v < 65536 ∨ v > 1114111 ∨ 55296 ≤ v ∧ v < 57344) := by omega
              rw [g1]
              simp [l1, l2, l3, this, k1, k2, k3, g2, all4, hc1, hc2, hc3, p4, zdR, Utf8.runeError]
          · simp [l1, l2, l3, this, k1, k2, k3, all4, hc1, hc2, hc3, p4, zdR, Utf8.runeError]
        · simp [l1, l2, l3, this, k1, k2, all4, hc1, hc2, hc3, p4, zdR, Utf8.runeError]
      · simp [l1, l2, l3, this, k1, all4, hc1, hc2, hc3, p4, zdR, Utf8.runeError]
    · have : 4 > s.length - p := by omega
      simp [l1, this, all4, hc1, hc2, hc3, p4, zdR, Utf8.runeError]
  · have q2 : (b0 / 16 == 14) = false := by simp; omega
    simp only [a1, a2, a3, a4, q2, if_false, if_true]
    by_cases q : b0 / 32 = 6
    · have h192 : b0 = 192 ∨ b0 = 193 := by omega
      have q3 : (b0 / 8 == 30) = false := by simp; omega
      have g : ¬ (b0 % 32 * 64 + b1 % 64 ≥ 128) := by omega
      simp [q, q3, g, Utf8.runeError]
    · by_cases q' : b0 / 8 = 30
      · have g : ¬ ((b0 % 8 * 262144 + b1 % 64 * 4096 + b2 % 64 * 64 + b3 % 64) ≤ 1114111) := by omega
        obtain ⟨v, hv⟩ : ∃ v, v = b0 % 8 * 262144 + b1 % 64 * 4096 + b2 % 64 * 64 + b3 % 64 := ⟨_, rfl⟩
        rw [← hv] at g
        simp only [← hv]
        have g1 : Utf8.valid (v : Int) = false := by simp [Utf8.valid]; omega
        simp [q, q', g1, Utf8.runeError]
      · simp [q, q', Utf8.runeError]

theorem zhM (s : List UInt8) : (zoa s).2 ≤ s.length ∧ (zoa s).2 ≤ 4 ∧ (zoa s).1 ≤ 1114111 := by
  have h0 := at8_lt s 0
  have hz : sizeF (at8 s 0) ≤ 4 := by unfold sizeF; split <;> (try split) <;> (try split) <;> (try split) <;> omega
  simp only [zoa]
  split
  · simp
  · rename_i h
    split
    · rename_i h1; simp only []; omega
    · split
      · split
        · simp
        · simp only []; omega
      · simp
theorem goDec_width (s : List UInt8) (h : s ≠ []) : 1 ≤ (zjn s).2 ∧ (zjn s).2 ≤ s.length ∧ (zjn s).1 ≤ 1114111 := by
  have h1 := zhM s
  have h2 : 0 < s.length := List.length_pos_iff.2 h
  unfold zjn
  split
  · simp; omega
  · omega

def badF (v : Nat) : Bool := decide (v < 33 ∨ (127 ≤ v ∧ v ≤ 159) ∨ v = 47 ∨ v = 65533)
def zdV : Nat → List UInt8 → Option Nat
  | 0, _ => none
  | f + 1, s => if s = [] then some 0 else if (zoa s).2 = 0 ∨ badF (zoa s).1 = true then none else (zdV f (s.drop (zoa s).2)).map (· + 1)
def zic (s : List UInt8) : Nat := match zdV (s.length + 1) s with
  | some n => if n > 16 then 0 else n
  | none => 0
def zcs (s : List UInt8) : Bool := decide (0 < zic s)

theorem goDec_bad (s : List UInt8) : badF (zjn s).1 = (decide ((zoa s).2 = 0) || badF (zoa s).1) := by
  unfold zjn
  split
  · rename_i h; simp [h, badF]
  · rename_i h; simp [h]
theorem goDec_good {s : List UInt8} (h : badF (zjn s).1 = false) : zjn s = zoa s ∧ (zoa s).2 ≠ 0 ∧ badF (zoa s).1 = false := by
  rw [goDec_bad] at h
  simp at h
  exact ⟨by simp [zjn, h.1], h.1, h.2⟩
theorem zlV : ∀ (f g : Nat) (s : List UInt8), s.length < f → s.length < g → zdV f s = zdV g s
  | 0, _, _, h, _ => by omega
  | _, 0, _, _, h => by omega
  | f + 1, g + 1, s, h1, h2 => by
    simp only [zdV]
    split
    · rfl
    · rename_i hs
      split
      · rfl
      · rename_i hd
        have hw := zhM s
        have : 0 < s.length := List.length_pos_iff.2 hs
        rw [zlV f g _ (by simp; omega) (by simp; omega)]

def zao (x : zh) : Int := if x.client < 0 ∨ x.client ≥ 8 ∨ x.time < 1 ∨ x.time > 9007199254740992 then 80 else zai zcs x.op
def zaF (k d : Int) : Int := if k < 0 ∨ k ≥ 21 ∨ d < 1 ∨ d > 9007199254740992 then 81 else 0
def errF (s : zh) : Int := if zao s ≠ 0 then zao s else zaF s.key s.dig
def zhi : List zh → Int
  | [] => 0
  | s :: r => if errF s ≠ 0 then errF s else zhi r
def ndup (a b : zh) : Prop := ¬ (a.client = b.client ∧ a.time = b.time)
instance : DecidableRel ndup := fun a b => inferInstanceAs (Decidable (¬ _))
def zC (l : List zh) : Int :=
  if l.length > 4 then 3 else if zhi l ≠ 0 then zhi l else if l.Pairwise ndup then 0 else 5

theorem zne {l : List zh} : ∀ {k : Nat} {x : zh}, l[k]? = some x → zhi (l.take k) = 0 → errF x ≠ 0 → zhi l = errF x := by
  induction l with
  | nil => intro k x h; simp at h
  | cons s r ih =>
    intro k x h h0 hx
    cases k with
    | zero => simp at h; subst h; simp [zhi, hx]
    | succ k =>
      simp only [List.take_succ_cons, zhi] at h0 ⊢
      simp at h
      split at h0
      · rename_i hs; exact absurd h0 hs
      · rename_i hs; rw [if_neg hs]; exact ih h h0 hx
theorem errsF_snoc {l : List zh} {k : Nat} {x : zh} (h : l[k]? = some x) (h0 : zhi (l.take k) = 0) (hx : errF x = 0) : zhi (l.take (k + 1)) = 0 := by
  have key : ∀ (a : List zh), zhi a = 0 → zhi (a ++ [x]) = 0 := by
    intro a
    induction a with
    | nil => intro _; simp [zhi, hx]
    | cons s r ih =>
      intro h
      simp only [List.cons_append, zhi] at h ⊢
      split at h
      · rename_i hs; exact absurd h hs
      · rename_i hs; rw [if_neg hs]; exact ih h
  rw [List.take_add_one, h]
  exact key _ h0
theorem pairs_snoc {l : List zh} {k : Nat} {x : zh} (h : l[k]? = some x) (h0 : (l.take k).Pairwise ndup) (hx : ∀ y ∈ l.take k, ¬ (x.client = y.client ∧ x.time = y.time)) : (l.take (k + 1)).Pairwise ndup := by
  rw [List.take_add_one, h]
  refine List.pairwise_append.2 ⟨h0, by simp, fun a ha b hb => ?_⟩
  simp at hb; subst hb
  exact fun e => hx a ha ⟨e.1.symm, e.2.symm⟩
theorem pairs_not {l : List zh} {k j : Nat} {x y : zh} (h : l[k]? = some x) (hy : l[j]? = some y) (hj : j < k) (hxy : x.client = y.client ∧ x.time = y.time) : ¬ l.Pairwise ndup := by
  intro hp
  rw [List.pairwise_iff_getElem] at hp
  obtain ⟨hk, rfl⟩ := List.getElem?_eq_some_iff.1 h
  obtain ⟨hj', rfl⟩ := List.getElem?_eq_some_iff.1 hy
  exact hp j k hj' hk hj ⟨hxy.1.symm, hxy.2.symm⟩

def okO (o : TOp) : Prop := o.topic.length ≤ 1073741824 ∧ o.group.length ≤ 1073741824 ∧ o.recs.length ≤ 1073741824 ∧ ∀ r ∈ o.recs, r.length ≤ 1073741824
def okB (b : List zh) : Prop := b.length ≤ 1073741824 ∧ ∀ x ∈ b, okO x.op

def numR (most : Nat) : Nat → Nat → List UInt8 → Except Int (Nat × List UInt8)
  | _, _, [] => .error 10
  | i, acc, c :: r =>
    if i = 9 ∧ c.toNat > 1 then .error 11
    else if c.toNat < 128 then (if (i > 0 ∧ c.toNat = 0) ∨ acc + c.toNat * 128 ^ i > most then .error 11 else .ok (acc + c.toNat * 128 ^ i, r))
    else numR most (i + 1) (acc + c.toNat % 128 * 128 ^ i) r



def reqB (x : zh) : List UInt8 := zbB x.client.toNat ++ (zbB x.time.toNat ++ opB x.op)
def zfd (x : zh) : List UInt8 := if zao x = 0 then reqB x else []
def signB (k d : Int) : List UInt8 := zbB k.toNat ++ zbB d.toNat
def zhC (k d : Int) : List UInt8 := if zaF k d = 0 then signB k d else []
def oneB (x : zh) : List UInt8 := ziU (reqB x) ++ signB x.key x.dig
def zfM (l : List zh) : List UInt8 := (l.map oneB).flatten
def zfD (l : List zh) : List UInt8 := zbB l.length ++ zfM l
def zdn (l : List zh) : List UInt8 := if zC l = 0 then zfD l else []

theorem req_ok {x : zh} (h : zao x = 0) : 0 ≤ x.client ∧ x.client < 8 ∧ 1 ≤ x.time ∧ x.time ≤ 9007199254740992 ∧ zai zcs x.op = 0 := by
  unfold zao at h
  split at h
  · cases h
  · refine ⟨by omega, by omega, by omega, by omega, h⟩
theorem sign_ok {k d : Int} (h : zaF k d = 0) : 0 ≤ k ∧ k < 21 ∧ 1 ≤ d ∧ d ≤ 9007199254740992 := by
  unfold zaF at h
  split at h
  · cases h
  · omega
theorem errs_mem {l : List zh} (h : zhi l = 0) : ∀ x ∈ l, errF x = 0 := by
  induction l with
  | nil => simp
  | cons s r ih =>
    simp only [zhi] at h
    split at h
    · rename_i hs; exact absurd h hs
    · rename_i hs
      intro x hx
      rcases List.mem_cons.1 hx with rfl | hx
      · simpa using hs
      · exact ih h x hx
theorem zol {l : List zh} (h : zC l = 0) : l.length ≤ 4 ∧ (∀ x ∈ l, zao x = 0 ∧ zaF x.key x.dig = 0) ∧ l.Pairwise ndup := by
  unfold zC at h
  split at h
  · cases h
  · split at h
    · rename_i h1; exact absurd h h1
    · split at h
      · rename_i h0 h1 h2
        refine ⟨by omega, fun x hx => ?_, h2⟩
        have := errs_mem (by simpa using h1) x hx
        unfold errF at this
        split at this
        · rename_i h3; exact absurd this h3
        · rename_i h3; exact ⟨by simpa using h3, this⟩
      · cases h
theorem opB_len {o : TOp} (h : zlx o ≤ 268435456) (hc : zai zcs o = 0) : (opB o).length ≤ zlx o + 60 := by
  obtain ⟨k0, k4, o0, o1, _⟩ := check_ok hc
  have hr := ziE o.recs
  have hrb := zih o.recs (by unfold zlx at h; omega) o.recs.length
  rw [List.take_length] at hrb
  unfold zlx at h ⊢
  have n1 := zk (n := o.kind.toNat) (by omega)
  have n2 := zk (n := o.topic.length) (by omega)
  have n3 := zk (n := o.group.length) (by omega)
  have n4 := zk (n := o.offset.toNat) (by omega)
  have n5 := zk (n := o.recs.length) (by omega)
  have hk : o.kind = 0 ∨ o.kind = 1 ∨ o.kind = 2 ∨ o.kind = 3 ∨ o.kind = 4 := by omega
  rcases hk with hk | hk | hk | hk | hk
  · rw [opB_0 hk]; omega
  · rw [opB_1 hk]; simp only [List.length_append]; omega
  · rw [opB_2 hk]; simp only [List.length_append]; omega
  · rw [opB_3 hk]; simp only [List.length_append]; omega
  · rw [opB_4 hk]; simp only [List.length_append]; omega
theorem reqB_len {x : zh} (h : zlx x.op ≤ 268435456) (hc : zao x = 0) : (reqB x).length ≤ zlx x.op + 80 := by
  obtain ⟨c0, c8, t1, t2, ho⟩ := req_ok hc
  have := opB_len h ho
  have n1 := zk (n := x.client.toNat) (by omega)
  have n2 := zk (n := x.time.toNat) (by omega)
  simp only [reqB, List.length_append]; omega
theorem signB_len {k d : Int} (h : zaF k d = 0) : (signB k d).length ≤ 20 := by
  obtain ⟨k0, k1, d0, d1⟩ := sign_ok h
  have n1 := zk (n := k.toNat) (by omega)
  have n2 := zk (n := d.toNat) (by omega)
  simp only [signB, List.length_append]; omega
theorem oneB_len {x : zh} (h : zlx x.op ≤ 20971520) (h1 : zao x = 0) (h2 : zaF x.key x.dig = 0) : (oneB x).length ≤ 20971700 := by
  have a := reqB_len (by omega) h1
  have b := signB_len h2
  have c := zdx (x := reqB x) (by omega)
  simp only [oneB, List.length_append]; omega
theorem zmd {l : List zh} (h : ∀ x ∈ l, zlx x.op ≤ 20971520) (hc : zC l = 0) (k : Nat) : (zfM (l.take k)).length ≤ 83886800 := by
  obtain ⟨h4, hm, _⟩ := zol hc
  have key : ∀ (m : List zh), (∀ x ∈ m, x ∈ l) → (zfM m).length ≤ m.length * 20971700 := by
    intro m
    induction m with
    | nil => intro _; simp [zfM]
    | cons x m ih =>
      intro hsub
      have h1 := ih fun y hy => hsub y (by simp [hy])
      have hx := hsub x (by simp)
      have h2 := oneB_len (h x hx) (hm x hx).1 (hm x hx).2
      simp only [zfM, List.map_cons, List.flatten_cons, List.length_append, List.length_cons] at h1 ⊢
      omega
  have := key (l.take k) fun x hx => List.mem_of_mem_take hx
  have h5 : (l.take k).length ≤ 4 := by rw [List.length_take]; omega
  have h6 : (l.take k).length * 20971700 ≤ 4 * 20971700 := Nat.mul_le_mul_right _ h5
  omega
theorem batchBs_snoc {l : List zh} {k : Nat} {x : zh} (h : l[k]? = some x) : zfM (l.take (k + 1)) = zfM (l.take k) ++ oneB x := by
  rw [List.take_add_one, h]; simp [zfM]
theorem reqBytes_len {x : zh} (h : zlx x.op ≤ 20971520) : (zfd x).length ≤ 20971600 := by
  unfold zfd
  split
  · rename_i hc; have := reqB_len (by omega) hc; omega
  · simp
theorem ziw {l : List zh} (h : ∀ x ∈ l, zlx x.op ≤ 20971520) : (zdn l).length ≤ 83886900 := by
  unfold zdn
  split
  · rename_i hc
    have := zmd h hc l.length
    rw [List.take_length] at this
    have h4 := (zol hc).1
    have n1 := zk (n := l.length) (by omega)
    simp only [zfD, List.length_append]; omega
  · simp

def znG (x : Int) : Bool := decide (0 ≤ x ∧ x ≤ 9007199254740992)
def zly (l : List Int) : List UInt8 := (l.map fun x => zbB x.toNat).flatten
theorem numOk_iff {x : Int} : znG x = true ↔ 0 ≤ x ∧ x ≤ 9007199254740992 := by simp [znG]
theorem numsB_snoc {l : List Int} {k : Nat} {x : Int} (h : l[k]? = some x) : zly (l.take (k + 1)) = zly (l.take k) ++ zbB x.toNat := by
  rw [List.take_add_one, h]; simp [zly]
theorem numsB_len {l : List Int} (h : ∀ x ∈ l, x < 9223372036854775808) : (zly l).length ≤ l.length * 10 := by
  induction l with
  | nil => simp [zly]
  | cons x l ih =>
    have h1 := h x (by simp)
    have h2 := zk (n := x.toNat) (by omega)
    have h3 := ih fun y hy => h y (by simp [hy])
    simp only [zly, List.map_cons, List.flatten_cons, List.length_append, List.length_cons] at h3 ⊢
    omega

structure zfc where
  seq : Int
  prev : Int
  batch : Int
  root : Int
  state : Int
deriving DecidableEq
def hdrL (h : zfc) : List Int := [h.seq, h.prev, h.batch, h.root, h.state]
abbrev hdrD (h : zfc) : List D := [.int .i64 h.seq, .int .i64 h.prev, .int .i64 h.batch, .int .i64 h.root, .int .i64 h.state]
abbrev hdrA (h : zfc) : AV := .agg [.d (.int .i64 h.seq), .d (.int .i64 h.prev), .d (.int .i64 h.batch), .d (.int .i64 h.root), .d (.int .i64 h.state)]
abbrev hdrsE (l : List zfc) : List (List D) := l.map hdrD
def zmx (h : zfc) : Bool := (hdrL h).all znG
def zbd (h : zfc) : Int := if zmx h = true then 0 else 90
def hdrB (h : zfc) : List UInt8 := 3 :: zly (hdrL h)
def hdrBF (h : zfc) : List UInt8 := if zbd h = 0 then hdrB h else []
theorem zgd {h : zfc} : zbd h = 0 ↔ zmx h = true := by
  unfold zbd; split <;> simp_all
theorem zjm {h : zfc} (hk : zmx h = true) : ∀ x ∈ hdrL h, 0 ≤ x ∧ x ≤ 9007199254740992 := fun x hx => numOk_iff.1 (List.all_eq_true.1 hk x hx)
theorem hdrB_len {h : zfc} (hk : zmx h = true) : (hdrB h).length ≤ 51 := by
  have := numsB_len (l := hdrL h) fun x hx => by have := zjm hk x hx; omega
  simp only [hdrB, hdrL, List.length_cons, List.length_nil] at this ⊢
  omega
def linkF (L : List (List UInt8)) : Option zfc → zfc → Bool
  | none, _ => true
  | some q, h => match zjk L (hdrB q) with
    | some i => (h.prev == ((i + 1 : Nat) : Int)) && (h.seq == q.seq + 1)
    | none => false
def chainG (L : List (List UInt8)) : Option zfc → List zfc → Bool
  | _, [] => true
  | p, h :: r => zmx h && (linkF L p h && chainG L (some h) r)
def chainF (L : List (List UInt8)) (l : List zfc) : Bool := chainG L none l
structure zcy where
  topic : List UInt8
  offset : Int
  rec_ : List UInt8
abbrev placedD (p : zcy) : List D := [.str p.topic, .int .i64 p.offset, .slice (bcs p.rec_)]
abbrev zcK (l : List zcy) : List (List D) := l.map placedD
def zcg (p : zcy) : List UInt8 := ziU p.topic ++ (zbB p.offset.toNat ++ ziU p.rec_)
theorem chain_drop {L : List (List UInt8)} {p : Option zfc} {l : List zfc} {k : Nat} {h : zfc} (hx : l[k]? = some h) : chainG L p (l.drop k) = (zmx h && (linkF L p h && chainG L (some h) (l.drop (k + 1)))) := by
  have hk : k < l.length := (List.getElem?_eq_some_iff.1 hx).1
  rw [List.drop_eq_getElem_cons hk, (List.getElem?_eq_some_iff.1 hx).2]
  rfl
end Go.AW

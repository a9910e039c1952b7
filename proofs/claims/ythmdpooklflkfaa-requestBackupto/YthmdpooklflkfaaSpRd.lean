/- How numbers and byte strings are read. No program in sight. -/
import Derived.Test.YthmdpooklflkfaaSpNum
import Derived.Test.YthmdpooklflkfaaSpRc
set_option linter.all false
set_option linter.unusedSimpArgs false
namespace Go.AW

/-- a number, from its byte i on; 10: bytes that end too early, 11: too great, or not in its shortest form -/
def numR (most : Nat) : Nat → Nat → List UInt8 → Except Int (Nat × List UInt8)
  | _, _, [] => .error 10
  | i, acc, c :: r =>
    if i = 9 ∧ c.toNat > 1 then .error 11
    else if c.toNat < 128 then (if (i > 0 ∧ c.toNat = 0) ∨ acc + c.toNat * 128 ^ i > most then .error 11 else .ok (acc + c.toNat * 128 ^ i, r))
    else numR most (i + 1) (acc + c.toNat % 128 * 128 ^ i) r

theorem numR_put (most : Nat) : ∀ (m i acc : Nat) (rest : List UInt8), i ≤ 9 → m < 128 ^ (9 - i) * 2 → (i > 0 → m ≠ 0) → acc + m * 128 ^ i ≤ most → numR most i acc (numB m ++ rest) = .ok (acc + m * 128 ^ i, rest) := by
  intro m
  induction m using Nat.strongRecOn with
  | ind m ih =>
    intro i acc rest hi hm h0 hle
    by_cases hs : m < 128
    · have e : (UInt8.ofNat m).toNat = m := by simp; omega
      rw [numB_small hs]
      simp only [List.cons_append, List.nil_append, numR, e]
      rw [if_neg (by rintro ⟨rfl, h⟩; simp at hm; omega), if_pos hs, if_neg (by rintro (⟨h1, h2⟩ | h); exact h0 h1 h2; omega)]
    · have e : (UInt8.ofNat (m % 128 + 128)).toNat = m % 128 + 128 := by simp; omega
      have hi9 : i < 9 := by
        rcases Nat.lt_or_ge i 9 with h | h
        · exact h
        · have : i = 9 := by omega
          subst this
          simp at hm; omega
      rw [numB_big hs]
      simp only [List.cons_append, numR, e]
      rw [if_neg (by omega), if_neg (by omega)]
      have hp : 128 ^ (9 - i) = 128 ^ (9 - (i + 1)) * 128 := by rw [show 9 - i = (9 - (i + 1)) + 1 by omega, Nat.pow_succ]
      have hpi : 128 ^ (i + 1) = 128 ^ i * 128 := Nat.pow_succ ..
      have hmod : (m % 128 + 128) % 128 = m % 128 := by omega
      have hsum : acc + m % 128 * 128 ^ i + m / 128 * 128 ^ (i + 1) = acc + m * 128 ^ i := by
        rw [hpi]
        have : m * 128 ^ i = (m % 128 + m / 128 * 128) * 128 ^ i := by rw [show m % 128 + m / 128 * 128 = m by omega]
        rw [this, Nat.add_mul, Nat.mul_comm (128 ^ i) 128, ← Nat.mul_assoc, Nat.add_assoc]
      rw [hmod, ih (m / 128) (by omega) (i + 1) _ rest (by omega) (by rw [hp] at hm; rw [Nat.div_lt_iff_lt_mul (by omega)]; rw [Nat.mul_right_comm] at hm; exact hm) (by omega) (by rw [hsum]; exact hle), hsum]
theorem numR_of (most : Nat) : ∀ (bs : List UInt8) (i acc n : Nat) (rest : List UInt8), i ≤ 9 → numR most i acc bs = .ok (n, rest) → ∃ m, n = acc + m * 128 ^ i ∧ bs = numB m ++ rest ∧ n ≤ most ∧ (i > 0 → m ≠ 0) ∧ m < 128 ^ (9 - i) * 2
  | [], i, acc, n, rest, _, h => by simp [numR] at h
  | c :: r, i, acc, n, rest, hi, h => by
    have hc := c.toNat_lt
    simp only [numR] at h
    split at h
    · cases h
    · rename_i h1
      split at h
      · rename_i h2
        split at h
        · cases h
        · rename_i h3
          cases h
          have hp : 1 ≤ 128 ^ (9 - i) := Nat.one_le_pow _ _ (by omega)
          refine ⟨c.toNat, rfl, ?_, by omega, fun hi0 hc0 => h3 (.inl ⟨hi0, hc0⟩), ?_⟩
          · rw [numB_small h2]; simp
          · rcases Nat.lt_or_ge i 9 with h9 | h9
            · have : 128 ^ 1 ≤ 128 ^ (9 - i) := Nat.pow_le_pow_right (by omega) (by omega)
              omega
            · have : i = 9 := by omega
              subst this
              simp; omega
      · rename_i h2
        have hi9 : i < 9 := by
          rcases Nat.lt_or_ge i 9 with h9 | h9
          · exact h9
          · exact absurd ⟨by omega, by omega⟩ h1
        obtain ⟨m, e1, e2, e3, e4, e5⟩ := numR_of most r (i + 1) _ n rest (by omega) h
        have hm0 : m ≠ 0 := e4 (by omega)
        have hpi : 128 ^ (i + 1) = 128 ^ i * 128 := Nat.pow_succ ..
        have hp : 128 ^ (9 - i) = 128 ^ (9 - (i + 1)) * 128 := by rw [show 9 - i = (9 - (i + 1)) + 1 by omega, Nat.pow_succ]
        refine ⟨c.toNat % 128 + m * 128, ?_, ?_, e3, fun _ => by omega, ?_⟩
        · rw [e1, hpi, Nat.add_mul, Nat.mul_comm (128 ^ i) 128, ← Nat.mul_assoc, Nat.add_assoc]
        · have hb : ¬ (c.toNat % 128 + m * 128 < 128) := by omega
          rw [numB_big hb, show (c.toNat % 128 + m * 128) % 128 + 128 = c.toNat by omega, show (c.toNat % 128 + m * 128) / 128 = m by omega]
          simp [e2]
        · rw [hp, Nat.mul_right_comm]
          generalize 128 ^ (9 - (i + 1)) = q at e5 ⊢
          omega
end Go.AW

/- Bytes that say where they end: numbers, byte strings, operations. No program in sight. -/
set_option linter.unusedSimpArgs false
namespace Go.AW

end Go.AW

/- The bytes of requests, signatures and batches. No program in sight. -/
set_option linter.unusedSimpArgs false
set_option linter.unusedVariables false
namespace Go.AW

def reqB (x : TSigned) : List UInt8 := numB x.client.toNat ++ (numB x.time.toNat ++ opB x.op)
def reqBytesF (x : TSigned) : List UInt8 := if checkReqF x = 0 then reqB x else []
def signB (k d : Int) : List UInt8 := numB k.toNat ++ numB d.toNat
def signBytesF (k d : Int) : List UInt8 := if checkSignF k d = 0 then signB k d else []
def oneB (x : TSigned) : List UInt8 := putB (reqB x) ++ signB x.key x.dig
def batchBs (l : List TSigned) : List UInt8 := (l.map oneB).flatten
def batchB (l : List TSigned) : List UInt8 := numB l.length ++ batchBs l
def batchBytesF (l : List TSigned) : List UInt8 := if checkBatchF l = 0 then batchB l else []

theorem req_ok {x : TSigned} (h : checkReqF x = 0) : 0 ≤ x.client ∧ x.client < 8 ∧ 1 ≤ x.time ∧ x.time ≤ 9007199254740992 ∧ checkOpF nameF x.op = 0 := by
  unfold checkReqF at h
  split at h
  · cases h
  · refine ⟨by omega, by omega, by omega, by omega, h⟩
theorem sign_ok {k d : Int} (h : checkSignF k d = 0) : 0 ≤ k ∧ k < 21 ∧ 1 ≤ d ∧ d ≤ 9007199254740992 := by
  unfold checkSignF at h
  split at h
  · cases h
  · omega
theorem errs_mem {l : List TSigned} (h : errsF l = 0) : ∀ x ∈ l, errF x = 0 := by
  induction l with
  | nil => simp
  | cons s r ih =>
    simp only [errsF] at h
    split at h
    · rename_i hs; exact absurd h hs
    · rename_i hs
      intro x hx
      rcases List.mem_cons.1 hx with rfl | hx
      · simpa using hs
      · exact ih h x hx
theorem batch_ok {l : List TSigned} (h : checkBatchF l = 0) : l.length ≤ 4 ∧ (∀ x ∈ l, checkReqF x = 0 ∧ checkSignF x.key x.dig = 0) ∧ l.Pairwise ndup := by
  unfold checkBatchF at h
  split at h
  · cases h
  · split at h
    · rename_i h1; exact absurd h h1
    · split at h
      · rename_i h0 h1 h2
        refine ⟨by omega, fun x hx => ?_, h2⟩
        have := errs_mem (by simpa using h1) x hx
        unfold errF at this
        split at this
        · rename_i h3; exact absurd this h3
        · rename_i h3; exact ⟨by simpa using h3, this⟩
      · cases h
theorem opB_len {o : TOp} (h : opSz o ≤ 268435456) (hc : checkOpF nameF o = 0) : (opB o).length ≤ opSz o + 60 := by
  obtain ⟨k0, k4, o0, o1, _⟩ := check_ok hc
  have hr := recs_len_le o.recs
  have hrb := recsB_take_len o.recs (by unfold opSz at h; omega) o.recs.length
  rw [List.take_length] at hrb
  unfold opSz at h ⊢
  have n1 := numB_len10 (n := o.kind.toNat) (by omega)
  have n2 := numB_len10 (n := o.topic.length) (by omega)
  have n3 := numB_len10 (n := o.group.length) (by omega)
  have n4 := numB_len10 (n := o.offset.toNat) (by omega)
  have n5 := numB_len10 (n := o.recs.length) (by omega)
  have hk : o.kind = 0 ∨ o.kind = 1 ∨ o.kind = 2 ∨ o.kind = 3 ∨ o.kind = 4 := by omega
  rcases hk with hk | hk | hk | hk | hk
  · rw [opB_0 hk]; omega
  · rw [opB_1 hk]; simp only [List.length_append]; omega
  · rw [opB_2 hk]; simp only [List.length_append]; omega
  · rw [opB_3 hk]; simp only [List.length_append]; omega
  · rw [opB_4 hk]; simp only [List.length_append]; omega
theorem reqB_len {x : TSigned} (h : opSz x.op ≤ 268435456) (hc : checkReqF x = 0) : (reqB x).length ≤ opSz x.op + 80 := by
  obtain ⟨c0, c8, t1, t2, ho⟩ := req_ok hc
  have := opB_len h ho
  have n1 := numB_len10 (n := x.client.toNat) (by omega)
  have n2 := numB_len10 (n := x.time.toNat) (by omega)
  simp only [reqB, List.length_append]; omega
theorem signB_len {k d : Int} (h : checkSignF k d = 0) : (signB k d).length ≤ 20 := by
  obtain ⟨k0, k1, d0, d1⟩ := sign_ok h
  have n1 := numB_len10 (n := k.toNat) (by omega)
  have n2 := numB_len10 (n := d.toNat) (by omega)
  simp only [signB, List.length_append]; omega
theorem oneB_len {x : TSigned} (h : opSz x.op ≤ 20971520) (h1 : checkReqF x = 0) (h2 : checkSignF x.key x.dig = 0) : (oneB x).length ≤ 20971700 := by
  have a := reqB_len (by omega) h1
  have b := signB_len h2
  have c := putB_len (x := reqB x) (by omega)
  simp only [oneB, List.length_append]; omega
theorem batchBs_len {l : List TSigned} (h : ∀ x ∈ l, opSz x.op ≤ 20971520) (hc : checkBatchF l = 0) (k : Nat) : (batchBs (l.take k)).length ≤ 83886800 := by
  obtain ⟨h4, hm, _⟩ := batch_ok hc
  have key : ∀ (m : List TSigned), (∀ x ∈ m, x ∈ l) → (batchBs m).length ≤ m.length * 20971700 := by
    intro m
    induction m with
    | nil => intro _; simp [batchBs]
    | cons x m ih =>
      intro hsub
      have h1 := ih fun y hy => hsub y (by simp [hy])
      have hx := hsub x (by simp)
      have h2 := oneB_len (h x hx) (hm x hx).1 (hm x hx).2
      simp only [batchBs, List.map_cons, List.flatten_cons, List.length_append, List.length_cons] at h1 ⊢
      omega
  have := key (l.take k) fun x hx => List.mem_of_mem_take hx
  have h5 : (l.take k).length ≤ 4 := by rw [List.length_take]; omega
  have h6 : (l.take k).length * 20971700 ≤ 4 * 20971700 := Nat.mul_le_mul_right _ h5
  omega
theorem batchBs_snoc {l : List TSigned} {k : Nat} {x : TSigned} (h : l[k]? = some x) : batchBs (l.take (k + 1)) = batchBs (l.take k) ++ oneB x := by
  rw [List.take_add_one, h]; simp [batchBs]
theorem reqBytes_len {x : TSigned} (h : opSz x.op ≤ 20971520) : (reqBytesF x).length ≤ 20971600 := by
  unfold reqBytesF
  split
  · rename_i hc; have := reqB_len (by omega) hc; omega
  · simp
theorem batchBytes_len {l : List TSigned} (h : ∀ x ∈ l, opSz x.op ≤ 20971520) : (batchBytesF l).length ≤ 83886900 := by
  unfold batchBytesF
  split
  · rename_i hc
    have := batchBs_len h hc l.length
    rw [List.take_length] at this
    have h4 := (batch_ok hc).1
    have n1 := numB_len10 (n := l.length) (by omega)
    simp only [batchB, List.length_append]; omega
  · simp
end Go.AW

/- How numbers and byte strings are read. No program in sight. -/
import Derived.Test.YtcappjcojggehaaGreatSpNum
import Derived.Test.YtcappjcojggehaaGreatOpS
set_option linter.all false
set_option linter.unusedSimpArgs false
namespace Go.AW

def numR (most : Nat) : Nat → Nat → List UInt8 → Except Int (Nat × List UInt8)
  | _, _, [] => .error 10
  | i, acc, c :: r =>
    if i = 9 ∧ c.toNat > 1 then .error 11
    else if c.toNat < 128 then (if (i > 0 ∧ c.toNat = 0) ∨ acc + c.toNat * 128 ^ i > most then .error 11 else .ok (acc + c.toNat * 128 ^ i, r))
    else numR most (i + 1) (acc + c.toNat % 128 * 128 ^ i) r

theorem numR_put (most : Nat) : ∀ (m i acc : Nat) (rest : List UInt8), i ≤ 9 → m < 128 ^ (9 - i) * 2 → (i > 0 → m ≠ 0) → acc + m * 128 ^ i ≤ most → numR most i acc (zct m ++ rest) = .ok (acc + m * 128 ^ i, rest) := by
  intro m
  induction m using Nat.strongRecOn with
  | ind m ih =>
    intro i acc rest hi hm h0 hle
    by_cases hs : m < 128
    · have e : (UInt8.ofNat m).toNat = m := by simp; omega
      rw [zfE hs]
      simp only [List.cons_append, List.nil_append, numR, e]
      rw [if_neg (by rintro ⟨rfl, h⟩; simp at hm; omega), if_pos hs, if_neg (by rintro (⟨h1, h2⟩ | h); exact h0 h1 h2; omega)]
    · have e : (UInt8.ofNat (m % 128 + 128)).toNat = m % 128 + 128 := by simp; omega
      have hi9 : i < 9 := by
        rcases Nat.lt_or_ge i 9 with h | h
        · exact h
        · have : i = 9 := by omega
          subst this
          simp at hm; omega
      rw [zkZ hs]
      simp only [List.cons_append, numR, e]
      rw [if_neg (by omega), if_neg (by omega)]
      have hp : 128 ^ (9 - i) = 128 ^ (9 - (i + 1)) * 128 := by rw [show 9 - i = (9 - (i + 1)) + 1 by omega, Nat.pow_succ]
      have hpi : 128 ^ (i + 1) = 128 ^ i * 128 := Nat.pow_succ ..
      have hmod : (m % 128 + 128) % 128 = m % 128 := by omega
      have hsum : acc + m % 128 * 128 ^ i + m / 128 * 128 ^ (i + 1) = acc + m * 128 ^ i := by
        rw [hpi]
        have : m * 128 ^ i = (m % 128 + m / 128 * 128) * 128 ^ i := by rw [show m % 128 + m / 128 * 128 = m by omega]
        rw [this, Nat.add_mul, Nat.mul_comm (128 ^ i) 128, ← Nat.mul_assoc, Nat.add_assoc]
      rw [hmod, ih (m / 128) (by omega) (i + 1) _ rest (by omega) (by rw [hp] at hm; rw [Nat.div_lt_iff_lt_mul (by omega)]; rw [Nat.mul_right_comm] at hm; exact hm) (by omega) (by rw [hsum]; exact hle), hsum]
end Go.AW

/- Bytes that say where they end: numbers, byte strings, operations. No program in sight. -/
set_option linter.unusedSimpArgs false
namespace Go.AW

theorem zkY {m n : Nat} {s t : List UInt8} (hm : m < 18446744073709551616) (hn : n < 18446744073709551616) (h : zct m ++ s = zct n ++ t) : m = n ∧ s = t := by
  have a := numR_put 18446744073709551616 m 0 0 s (by omega) (by simp; omega) (by omega) (by simp; omega)
  have b := numR_put 18446744073709551616 n 0 0 t (by omega) (by simp; omega) (by omega) (by simp; omega)
  rw [h, b] at a
  simp only [Except.ok.injEq, Prod.mk.injEq, Nat.pow_zero, Nat.mul_one, Nat.zero_add] at a
  exact ⟨a.1.symm, a.2.symm⟩
end Go.AW

/- The bytes of requests, signatures and batches. No program in sight. -/
set_option linter.unusedSimpArgs false
set_option linter.unusedVariables false
namespace Go.AW

def zkt (x : zd) : List UInt8 := zct x.client.toNat ++ (zct x.time.toNat ++ opB x.op)
def zbG (x : zd) : List UInt8 := if zI x = 0 then zkt x else []
def signB (k d : Int) : List UInt8 := zct k.toNat ++ zct d.toNat
def zdh (k d : Int) : List UInt8 := if zal k d = 0 then signB k d else []
def oneB (x : zd) : List UInt8 := zls (zkt x) ++ signB x.key x.dig
def zeb (l : List zd) : List UInt8 := (l.map oneB).flatten
def zei (l : List zd) : List UInt8 := zct l.length ++ zeb l
def zbz (l : List zd) : List UInt8 := if zD l = 0 then zei l else []

theorem req_ok {x : zd} (h : zI x = 0) : 0 ≤ x.client ∧ x.client < 8 ∧ 1 ≤ x.time ∧ x.time ≤ 9007199254740992 ∧ zbA zhf x.op = 0 := by
  unfold zI at h
  split at h
  · cases h
  · refine ⟨by omega, by omega, by omega, by omega, h⟩
theorem sign_ok {k d : Int} (h : zal k d = 0) : 0 ≤ k ∧ k < 21 ∧ 1 ≤ d ∧ d ≤ 9007199254740992 := by
  unfold zal at h
  split at h
  · cases h
  · omega
theorem errs_mem {l : List zd} (h : zhh l = 0) : ∀ x ∈ l, znl x = 0 := by
  induction l with
  | nil => simp
  | cons s r ih =>
    simp only [zhh] at h
    split at h
    · rename_i hs; exact absurd h hs
    · rename_i hs
      intro x hx
      rcases List.mem_cons.1 hx with rfl | hx
      · simpa using hs
      · exact ih h x hx
theorem zlf {l : List zd} (h : zD l = 0) : l.length ≤ 4 ∧ (∀ x ∈ l, zI x = 0 ∧ zal x.key x.dig = 0) ∧ l.Pairwise ndup := by
  unfold zD at h
  split at h
  · cases h
  · split at h
    · rename_i h1; exact absurd h h1
    · split at h
      · rename_i h0 h1 h2
        refine ⟨by omega, fun x hx => ?_, h2⟩
        have := errs_mem (by simpa using h1) x hx
        unfold znl at this
        split at this
        · rename_i h3; exact absurd this h3
        · rename_i h3; exact ⟨by simpa using h3, this⟩
      · cases h
theorem opB_len {o : TOp} (h : zfz o ≤ 268435456) (hc : zbA zhf o = 0) : (opB o).length ≤ zfz o + 60 := by
  obtain ⟨k0, k4, o0, o1, _⟩ := zot hc
  have hr := zgk o.recs
  have hrb := zfu o.recs (by unfold zfz at h; omega) o.recs.length
  rw [List.take_length] at hrb
  unfold zfz at h ⊢
  have n1 := zX (n := o.kind.toNat) (by omega)
  have n2 := zX (n := o.topic.length) (by omega)
  have n3 := zX (n := o.group.length) (by omega)
  have n4 := zX (n := o.offset.toNat) (by omega)
  have n5 := zX (n := o.recs.length) (by omega)
  have hk : o.kind = 0 ∨ o.kind = 1 ∨ o.kind = 2 ∨ o.kind = 3 ∨ o.kind = 4 := by omega
  rcases hk with hk | hk | hk | hk | hk
  · rw [opB_0 hk]; omega
  · rw [opB_1 hk]; simp only [List.length_append]; omega
  · rw [opB_2 hk]; simp only [List.length_append]; omega
  · rw [opB_3 hk]; simp only [List.length_append]; omega
  · rw [opB_4 hk]; simp only [List.length_append]; omega
theorem zkX {x : zd} (h : zfz x.op ≤ 268435456) (hc : zI x = 0) : (zkt x).length ≤ zfz x.op + 80 := by
  obtain ⟨c0, c8, t1, t2, ho⟩ := req_ok hc
  have := opB_len h ho
  have n1 := zX (n := x.client.toNat) (by omega)
  have n2 := zX (n := x.time.toNat) (by omega)
  simp only [zkt, List.length_append]; omega
theorem signB_len {k d : Int} (h : zal k d = 0) : (signB k d).length ≤ 20 := by
  obtain ⟨k0, k1, d0, d1⟩ := sign_ok h
  have n1 := zX (n := k.toNat) (by omega)
  have n2 := zX (n := d.toNat) (by omega)
  simp only [signB, List.length_append]; omega
theorem oneB_len {x : zd} (h : zfz x.op ≤ 20971520) (h1 : zI x = 0) (h2 : zal x.key x.dig = 0) : (oneB x).length ≤ 20971700 := by
  have a := zkX (by omega) h1
  have b := signB_len h2
  have c := zfi (x := zkt x) (by omega)
  simp only [oneB, List.length_append]; omega
theorem ziH {l : List zd} (h : ∀ x ∈ l, zfz x.op ≤ 20971520) (hc : zD l = 0) (k : Nat) : (zeb (l.take k)).length ≤ 83886800 := by
  obtain ⟨h4, hm, _⟩ := zlf hc
  have key : ∀ (m : List zd), (∀ x ∈ m, x ∈ l) → (zeb m).length ≤ m.length * 20971700 := by
    intro m
    induction m with
    | nil => intro _; simp [zeb]
    | cons x m ih =>
      intro hsub
      have h1 := ih fun y hy => hsub y (by simp [hy])
      have hx := hsub x (by simp)
      have h2 := oneB_len (h x hx) (hm x hx).1 (hm x hx).2
      simp only [zeb, List.map_cons, List.flatten_cons, List.length_append, List.length_cons] at h1 ⊢
      omega
  have := key (l.take k) fun x hx => List.mem_of_mem_take hx
  have h5 : (l.take k).length ≤ 4 := by rw [List.length_take]; omega
  have h6 : (l.take k).length * 20971700 ≤ 4 * 20971700 := Nat.mul_le_mul_right _ h5
  omega
theorem zkI {l : List zd} {k : Nat} {x : zd} (h : l[k]? = some x) : zeb (l.take (k + 1)) = zeb (l.take k) ++ oneB x := by
  rw [List.take_add_one, h]; simp [zeb]
theorem zks {x : zd} (h : zfz x.op ≤ 20971520) : (zbG x).length ≤ 20971600 := by
  unfold zbG
  split
  · rename_i hc; have := zkX (by omega) hc; omega
  · simp
theorem zin {l : List zd} (h : ∀ x ∈ l, zfz x.op ≤ 20971520) : (zbz l).length ≤ 83886900 := by
  unfold zbz
  split
  · rename_i hc
    have := ziH h hc l.length
    rw [List.take_length] at this
    have h4 := (zlf hc).1
    have n1 := zX (n := l.length) (by omega)
    simp only [zei, List.length_append]; omega
  · simp
end Go.AW

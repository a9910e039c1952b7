/- How numbers and byte strings are read. No program in sight. -/
import Derived.Test.YtcappjcojggehaaGreatSpNum
import Derived.Test.YtcappjcojggehaaGreatSpRc
set_option linter.all false
set_option linter.unusedSimpArgs false
namespace Go.AW

def numR (most : Nat) : Nat → Nat → List UInt8 → Except Int (Nat × List UInt8)
  | _, _, [] => .error 10
  | i, acc, c :: r =>
    if i = 9 ∧ c.toNat > 1 then .error 11
    else if c.toNat < 128 then (if (i > 0 ∧ c.toNat = 0) ∨ acc + c.toNat * 128 ^ i > most then .error 11 else .ok (acc + c.toNat * 128 ^ i, r))
    else numR most (i + 1) (acc + c.toNat % 128 * 128 ^ i) r

end Go.AW

/- Bytes that say where they end: numbers, byte strings, operations. No program in sight. -/
set_option linter.unusedSimpArgs false
namespace Go.AW

end Go.AW

/- The bytes of requests, signatures and batches. No program in sight. -/
set_option linter.unusedSimpArgs false
set_option linter.unusedVariables false
namespace Go.AW

def zje (x : zf) : List UInt8 := zcw x.client.toNat ++ (zcw x.time.toNat ++ opB x.op)
def zbx (x : zf) : List UInt8 := if zG x = 0 then zje x else []
def signB (k d : Int) : List UInt8 := zcw k.toNat ++ zcw d.toNat
def zdh (k d : Int) : List UInt8 := if zan k d = 0 then signB k d else []
def oneB (x : zf) : List UInt8 := zlH (zje x) ++ signB x.key x.dig
def zei (l : List zf) : List UInt8 := (l.map oneB).flatten
def zdH (l : List zf) : List UInt8 := zcw l.length ++ zei l
def zbt (l : List zf) : List UInt8 := if zA l = 0 then zdH l else []

theorem req_ok {x : zf} (h : zG x = 0) : 0 ≤ x.client ∧ x.client < 8 ∧ 1 ≤ x.time ∧ x.time ≤ 9007199254740992 ∧ zbz zhp x.op = 0 := by
  unfold zG at h
  split at h
  · cases h
  · refine ⟨by omega, by omega, by omega, by omega, h⟩
theorem sign_ok {k d : Int} (h : zan k d = 0) : 0 ≤ k ∧ k < 21 ∧ 1 ≤ d ∧ d ≤ 9007199254740992 := by
  unfold zan at h
  split at h
  · cases h
  · omega
theorem errs_mem {l : List zf} (h : zhq l = 0) : ∀ x ∈ l, znz x = 0 := by
  induction l with
  | nil => simp
  | cons s r ih =>
    simp only [zhq] at h
    split at h
    · rename_i hs; exact absurd h hs
    · rename_i hs
      intro x hx
      rcases List.mem_cons.1 hx with rfl | hx
      · simpa using hs
      · exact ih h x hx
theorem zlw {l : List zf} (h : zA l = 0) : l.length ≤ 4 ∧ (∀ x ∈ l, zG x = 0 ∧ zan x.key x.dig = 0) ∧ l.Pairwise ndup := by
  unfold zA at h
  split at h
  · cases h
  · split at h
    · rename_i h1; exact absurd h h1
    · split at h
      · rename_i h0 h1 h2
        refine ⟨by omega, fun x hx => ?_, h2⟩
        have := errs_mem (by simpa using h1) x hx
        unfold znz at this
        split at this
        · rename_i h3; exact absurd this h3
        · rename_i h3; exact ⟨by simpa using h3, this⟩
      · cases h
theorem opB_len {o : TOp} (h : zfi o ≤ 268435456) (hc : zbz zhp o = 0) : (opB o).length ≤ zfi o + 60 := by
  obtain ⟨k0, k4, o0, o1, _⟩ := zoI hc
  have hr := zgq o.recs
  have hrb := zfw o.recs (by unfold zfi at h; omega) o.recs.length
  rw [List.take_length] at hrb
  unfold zfi at h ⊢
  have n1 := zV (n := o.kind.toNat) (by omega)
  have n2 := zV (n := o.topic.length) (by omega)
  have n3 := zV (n := o.group.length) (by omega)
  have n4 := zV (n := o.offset.toNat) (by omega)
  have n5 := zV (n := o.recs.length) (by omega)
  have hk : o.kind = 0 ∨ o.kind = 1 ∨ o.kind = 2 ∨ o.kind = 3 ∨ o.kind = 4 := by omega
  rcases hk with hk | hk | hk | hk | hk
  · rw [opB_0 hk]; omega
  · rw [opB_1 hk]; simp only [List.length_append]; omega
  · rw [opB_2 hk]; simp only [List.length_append]; omega
  · rw [opB_3 hk]; simp only [List.length_append]; omega
  · rw [opB_4 hk]; simp only [List.length_append]; omega
theorem zlr {x : zf} (h : zfi x.op ≤ 268435456) (hc : zG x = 0) : (zje x).length ≤ zfi x.op + 80 := by
  obtain ⟨c0, c8, t1, t2, ho⟩ := req_ok hc
  have := opB_len h ho
  have n1 := zV (n := x.client.toNat) (by omega)
  have n2 := zV (n := x.time.toNat) (by omega)
  simp only [zje, List.length_append]; omega
theorem signB_len {k d : Int} (h : zan k d = 0) : (signB k d).length ≤ 20 := by
  obtain ⟨k0, k1, d0, d1⟩ := sign_ok h
  have n1 := zV (n := k.toNat) (by omega)
  have n2 := zV (n := d.toNat) (by omega)
  simp only [signB, List.length_append]; omega
theorem oneB_len {x : zf} (h : zfi x.op ≤ 20971520) (h1 : zG x = 0) (h2 : zan x.key x.dig = 0) : (oneB x).length ≤ 20971700 := by
  have a := zlr (by omega) h1
  have b := signB_len h2
  have c := zfg (x := zje x) (by omega)
  simp only [oneB, List.length_append]; omega
theorem ziX {l : List zf} (h : ∀ x ∈ l, zfi x.op ≤ 20971520) (hc : zA l = 0) (k : Nat) : (zei (l.take k)).length ≤ 83886800 := by
  obtain ⟨h4, hm, _⟩ := zlw hc
  have key : ∀ (m : List zf), (∀ x ∈ m, x ∈ l) → (zei m).length ≤ m.length * 20971700 := by
    intro m
    induction m with
    | nil => intro _; simp [zei]
    | cons x m ih =>
      intro hsub
      have h1 := ih fun y hy => hsub y (by simp [hy])
      have hx := hsub x (by simp)
      have h2 := oneB_len (h x hx) (hm x hx).1 (hm x hx).2
      simp only [zei, List.map_cons, List.flatten_cons, List.length_append, List.length_cons] at h1 ⊢
      omega
  have := key (l.take k) fun x hx => List.mem_of_mem_take hx
  have h5 : (l.take k).length ≤ 4 := by rw [List.length_take]; omega
  have h6 : (l.take k).length * 20971700 ≤ 4 * 20971700 := Nat.mul_le_mul_right _ h5
  omega
theorem zlc {l : List zf} {k : Nat} {x : zf} (h : l[k]? = some x) : zei (l.take (k + 1)) = zei (l.take k) ++ oneB x := by
  rw [List.take_add_one, h]; simp [zei]
theorem zkM {x : zf} (h : zfi x.op ≤ 20971520) : (zbx x).length ≤ 20971600 := by
  unfold zbx
  split
  · rename_i hc; have := zlr (by omega) hc; omega
  · simp
theorem ziD {l : List zf} (h : ∀ x ∈ l, zfi x.op ≤ 20971520) : (zbt l).length ≤ 83886900 := by
  unfold zbt
  split
  · rename_i hc
    have := ziX h hc l.length
    rw [List.take_length] at this
    have h4 := (zlw hc).1
    have n1 := zV (n := l.length) (by omega)
    simp only [zdH, List.length_append]; omega
  · simp
end Go.AW

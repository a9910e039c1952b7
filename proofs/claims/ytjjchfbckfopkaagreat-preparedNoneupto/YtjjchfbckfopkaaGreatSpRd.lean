/- How numbers and byte strings are read. No program in sight. -/
import Derived.Test.YtjjchfbckfopkaaGreatSpNum
import Derived.Test.YtjjchfbckfopkaaGreatRq1
set_option linter.all false
set_option linter.unusedSimpArgs false
namespace Go.AW

def numR (most : Nat) : Nat → Nat → List UInt8 → Except Int (Nat × List UInt8)
  | _, _, [] => .error 10
  | i, acc, c :: r =>
    if i = 9 ∧ c.toNat > 1 then .error 11
    else if c.toNat < 128 then (if (i > 0 ∧ c.toNat = 0) ∨ acc + c.toNat * 128 ^ i > most then .error 11 else .ok (acc + c.toNat * 128 ^ i, r))
    else numR most (i + 1) (acc + c.toNat % 128 * 128 ^ i) r



def zkx (x : ze) : List UInt8 := zcr x.client.toNat ++ (zcr x.time.toNat ++ opB x.op)
def zbI (x : ze) : List UInt8 := if zB x = 0 then zkx x else []
def signB (k d : Int) : List UInt8 := zcr k.toNat ++ zcr d.toNat
def zdg (k d : Int) : List UInt8 := if zah k d = 0 then signB k d else []
def oneB (x : ze) : List UInt8 := zlG (zkx x) ++ signB x.key x.dig
def zeA (l : List ze) : List UInt8 := (l.map oneB).flatten
def zeE (l : List ze) : List UInt8 := zcr l.length ++ zeA l
def zbD (l : List ze) : List UInt8 := if zw l = 0 then zeE l else []

theorem req_ok {x : ze} (h : zB x = 0) : 0 ≤ x.client ∧ x.client < 8 ∧ 1 ≤ x.time ∧ x.time ≤ 9007199254740992 ∧ zbE zgK x.op = 0 := by
  unfold zB at h
  split at h
  · cases h
  · refine ⟨by omega, by omega, by omega, by omega, h⟩
theorem sign_ok {k d : Int} (h : zah k d = 0) : 0 ≤ k ∧ k < 21 ∧ 1 ≤ d ∧ d ≤ 9007199254740992 := by
  unfold zah at h
  split at h
  · cases h
  · omega
theorem errs_mem {l : List ze} (h : zgM l = 0) : ∀ x ∈ l, znv x = 0 := by
  induction l with
  | nil => simp
  | cons s r ih =>
    simp only [zgM] at h
    split at h
    · rename_i hs; exact absurd h hs
    · rename_i hs
      intro x hx
      rcases List.mem_cons.1 hx with rfl | hx
      · simpa using hs
      · exact ih h x hx
theorem zlq {l : List ze} (h : zw l = 0) : l.length ≤ 4 ∧ (∀ x ∈ l, zB x = 0 ∧ zah x.key x.dig = 0) ∧ l.Pairwise ndup := by
  unfold zw at h
  split at h
  · cases h
  · split at h
    · rename_i h1; exact absurd h h1
    · split at h
      · rename_i h0 h1 h2
        refine ⟨by omega, fun x hx => ?_, h2⟩
        have := errs_mem (by simpa using h1) x hx
        unfold znv at this
        split at this
        · rename_i h3; exact absurd this h3
        · rename_i h3; exact ⟨by simpa using h3, this⟩
      · cases h
theorem opB_len {o : TOp} (h : zgJ o ≤ 268435456) (hc : zbE zgK o = 0) : (opB o).length ≤ zgJ o + 60 := by
  obtain ⟨k0, k4, o0, o1, _⟩ := zoA hc
  have hr := zgc o.recs
  have hrb := zfv o.recs (by unfold zgJ at h; omega) o.recs.length
  rw [List.take_length] at hrb
  unfold zgJ at h ⊢
  have n1 := zL (n := o.kind.toNat) (by omega)
  have n2 := zL (n := o.topic.length) (by omega)
  have n3 := zL (n := o.group.length) (by omega)
  have n4 := zL (n := o.offset.toNat) (by omega)
  have n5 := zL (n := o.recs.length) (by omega)
  have hk : o.kind = 0 ∨ o.kind = 1 ∨ o.kind = 2 ∨ o.kind = 3 ∨ o.kind = 4 := by omega
  rcases hk with hk | hk | hk | hk | hk
  · rw [opB_0 hk]; omega
  · rw [opB_1 hk]; simp only [List.length_append]; omega
  · rw [opB_2 hk]; simp only [List.length_append]; omega
  · rw [opB_3 hk]; simp only [List.length_append]; omega
  · rw [opB_4 hk]; simp only [List.length_append]; omega
theorem zll {x : ze} (h : zgJ x.op ≤ 268435456) (hc : zB x = 0) : (zkx x).length ≤ zgJ x.op + 80 := by
  obtain ⟨c0, c8, t1, t2, ho⟩ := req_ok hc
  have := opB_len h ho
  have n1 := zL (n := x.client.toNat) (by omega)
  have n2 := zL (n := x.time.toNat) (by omega)
  simp only [zkx, List.length_append]; omega
theorem signB_len {k d : Int} (h : zah k d = 0) : (signB k d).length ≤ 20 := by
  obtain ⟨k0, k1, d0, d1⟩ := sign_ok h
  have n1 := zL (n := k.toNat) (by omega)
  have n2 := zL (n := d.toNat) (by omega)
  simp only [signB, List.length_append]; omega
theorem oneB_len {x : ze} (h : zgJ x.op ≤ 20971520) (h1 : zB x = 0) (h2 : zah x.key x.dig = 0) : (oneB x).length ≤ 20971700 := by
  have a := zll (by omega) h1
  have b := signB_len h2
  have c := zfl (x := zkx x) (by omega)
  simp only [oneB, List.length_append]; omega
theorem ziB {l : List ze} (h : ∀ x ∈ l, zgJ x.op ≤ 20971520) (hc : zw l = 0) (k : Nat) : (zeA (l.take k)).length ≤ 83886800 := by
  obtain ⟨h4, hm, _⟩ := zlq hc
  have key : ∀ (m : List ze), (∀ x ∈ m, x ∈ l) → (zeA m).length ≤ m.length * 20971700 := by
    intro m
    induction m with
    | nil => intro _; simp [zeA]
    | cons x m ih =>
      intro hsub
      have h1 := ih fun y hy => hsub y (by simp [hy])
      have hx := hsub x (by simp)
      have h2 := oneB_len (h x hx) (hm x hx).1 (hm x hx).2
      simp only [zeA, List.map_cons, List.flatten_cons, List.length_append, List.length_cons] at h1 ⊢
      omega
  have := key (l.take k) fun x hx => List.mem_of_mem_take hx
  have h5 : (l.take k).length ≤ 4 := by rw [List.length_take]; omega
  have h6 : (l.take k).length * 20971700 ≤ 4 * 20971700 := Nat.mul_le_mul_right _ h5
  omega
theorem zkM {l : List ze} {k : Nat} {x : ze} (h : l[k]? = some x) : zeA (l.take (k + 1)) = zeA (l.take k) ++ oneB x := by
  rw [List.take_add_one, h]; simp [zeA]
theorem zkw {x : ze} (h : zgJ x.op ≤ 20971520) : (zbI x).length ≤ 20971600 := by
  unfold zbI
  split
  · rename_i hc; have := zll (by omega) hc; omega
  · simp
theorem zhZ {l : List ze} (h : ∀ x ∈ l, zgJ x.op ≤ 20971520) : (zbD l).length ≤ 83886900 := by
  unfold zbD
  split
  · rename_i hc
    have := ziB h hc l.length
    rw [List.take_length] at this
    have h4 := (zlq hc).1
    have n1 := zL (n := l.length) (by omega)
    simp only [zeE, List.length_append]; omega
  · simp
end Go.AW

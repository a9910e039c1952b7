/- How numbers and byte strings are read. No program in sight. -/
import Derived.Test.YtjjchfbckfopkaaGreatSpNum
import Derived.Test.YtjjchfbckfopkaaGreatSpRc
set_option linter.all false
set_option linter.unusedSimpArgs false
namespace Go.AW

def numR (most : Nat) : Nat → Nat → List UInt8 → Except Int (Nat × List UInt8)
  | _, _, [] => .error 10
  | i, acc, c :: r =>
    if i = 9 ∧ c.toNat > 1 then .error 11
    else if c.toNat < 128 then (if (i > 0 ∧ c.toNat = 0) ∨ acc + c.toNat * 128 ^ i > most then .error 11 else .ok (acc + c.toNat * 128 ^ i, r))
    else numR most (i + 1) (acc + c.toNat % 128 * 128 ^ i) r



def zlc (x : ze) : List UInt8 := zcy x.client.toNat ++ (zcy x.time.toNat ++ opB x.op)
def zbL (x : ze) : List UInt8 := if zy x = 0 then zlc x else []
def signB (k d : Int) : List UInt8 := zcy k.toNat ++ zcy d.toNat
def zdm (k d : Int) : List UInt8 := if zaj k d = 0 then signB k d else []
def oneB (x : ze) : List UInt8 := zmz (zlc x) ++ signB x.key x.dig
def zeK (l : List ze) : List UInt8 := (l.map oneB).flatten
def zeP (l : List ze) : List UInt8 := zcy l.length ++ zeK l
def zbG (l : List ze) : List UInt8 := if zu l = 0 then zeP l else []

theorem req_ok {x : ze} (h : zy x = 0) : 0 ≤ x.client ∧ x.client < 8 ∧ 1 ≤ x.time ∧ x.time ≤ 9007199254740992 ∧ zbH zhg x.op = 0 := by
  unfold zy at h
  split at h
  · cases h
  · refine ⟨by omega, by omega, by omega, by omega, h⟩
theorem sign_ok {k d : Int} (h : zaj k d = 0) : 0 ≤ k ∧ k < 21 ∧ 1 ≤ d ∧ d ≤ 9007199254740992 := by
  unfold zaj at h
  split at h
  · cases h
  · omega
theorem errs_mem {l : List ze} (h : zhh l = 0) : ∀ x ∈ l, zox x = 0 := by
  induction l with
  | nil => simp
  | cons s r ih =>
    simp only [zhh] at h
    split at h
    · rename_i hs; exact absurd h hs
    · rename_i hs
      intro x hx
      rcases List.mem_cons.1 hx with rfl | hx
      · simpa using hs
      · exact ih h x hx
theorem zmj {l : List ze} (h : zu l = 0) : l.length ≤ 4 ∧ (∀ x ∈ l, zy x = 0 ∧ zaj x.key x.dig = 0) ∧ l.Pairwise ndup := by
  unfold zu at h
  split at h
  · cases h
  · split at h
    · rename_i h1; exact absurd h h1
    · split at h
      · rename_i h0 h1 h2
        refine ⟨by omega, fun x hx => ?_, h2⟩
        have := errs_mem (by simpa using h1) x hx
        unfold zox at this
        split at this
        · rename_i h3; exact absurd this h3
        · rename_i h3; exact ⟨by simpa using h3, this⟩
      · cases h
theorem opB_len {o : TOp} (h : zgb o ≤ 268435456) (hc : zbH zhg o = 0) : (opB o).length ≤ zgb o + 60 := by
  obtain ⟨k0, k4, o0, o1, _⟩ := zpJ hc
  have hr := zgv o.recs
  have hrb := zfP o.recs (by unfold zgb at h; omega) o.recs.length
  rw [List.take_length] at hrb
  unfold zgb at h ⊢
  have n1 := zN (n := o.kind.toNat) (by omega)
  have n2 := zN (n := o.topic.length) (by omega)
  have n3 := zN (n := o.group.length) (by omega)
  have n4 := zN (n := o.offset.toNat) (by omega)
  have n5 := zN (n := o.recs.length) (by omega)
  have hk : o.kind = 0 ∨ o.kind = 1 ∨ o.kind = 2 ∨ o.kind = 3 ∨ o.kind = 4 := by omega
  rcases hk with hk | hk | hk | hk | hk
  · rw [opB_0 hk]; omega
  · rw [opB_1 hk]; simp only [List.length_append]; omega
  · rw [opB_2 hk]; simp only [List.length_append]; omega
  · rw [opB_3 hk]; simp only [List.length_append]; omega
  · rw [opB_4 hk]; simp only [List.length_append]; omega
theorem zmc {x : ze} (h : zgb x.op ≤ 268435456) (hc : zy x = 0) : (zlc x).length ≤ zgb x.op + 80 := by
  obtain ⟨c0, c8, t1, t2, ho⟩ := req_ok hc
  have := opB_len h ho
  have n1 := zN (n := x.client.toNat) (by omega)
  have n2 := zN (n := x.time.toNat) (by omega)
  simp only [zlc, List.length_append]; omega
theorem signB_len {k d : Int} (h : zaj k d = 0) : (signB k d).length ≤ 20 := by
  obtain ⟨k0, k1, d0, d1⟩ := sign_ok h
  have n1 := zN (n := k.toNat) (by omega)
  have n2 := zN (n := d.toNat) (by omega)
  simp only [signB, List.length_append]; omega
theorem oneB_len {x : ze} (h : zgb x.op ≤ 20971520) (h1 : zy x = 0) (h2 : zaj x.key x.dig = 0) : (oneB x).length ≤ 20971700 := by
  have a := zmc (by omega) h1
  have b := signB_len h2
  have c := zfD (x := zlc x) (by omega)
  simp only [oneB, List.length_append]; omega
theorem zjh {l : List ze} (h : ∀ x ∈ l, zgb x.op ≤ 20971520) (hc : zu l = 0) (k : Nat) : (zeK (l.take k)).length ≤ 83886800 := by
  obtain ⟨h4, hm, _⟩ := zmj hc
  have key : ∀ (m : List ze), (∀ x ∈ m, x ∈ l) → (zeK m).length ≤ m.length * 20971700 := by
    intro m
    induction m with
    | nil => intro _; simp [zeK]
    | cons x m ih =>
      intro hsub
      have h1 := ih fun y hy => hsub y (by simp [hy])
      have hx := hsub x (by simp)
      have h2 := oneB_len (h x hx) (hm x hx).1 (hm x hx).2
      simp only [zeK, List.map_cons, List.flatten_cons, List.length_append, List.length_cons] at h1 ⊢
      omega
  have := key (l.take k) fun x hx => List.mem_of_mem_take hx
  have h5 : (l.take k).length ≤ 4 := by rw [List.length_take]; omega
  have h6 : (l.take k).length * 20971700 ≤ 4 * 20971700 := Nat.mul_le_mul_right _ h5
  omega
theorem zlq {l : List ze} {k : Nat} {x : ze} (h : l[k]? = some x) : zeK (l.take (k + 1)) = zeK (l.take k) ++ oneB x := by
  rw [List.take_add_one, h]; simp [zeK]
theorem zlb {x : ze} (h : zgb x.op ≤ 20971520) : (zbL x).length ≤ 20971600 := by
  unfold zbL
  split
  · rename_i hc; have := zmc (by omega) hc; omega
  · simp
theorem ziE {l : List ze} (h : ∀ x ∈ l, zgb x.op ≤ 20971520) : (zbG l).length ≤ 83886900 := by
  unfold zbG
  split
  · rename_i hc
    have := zjh h hc l.length
    rw [List.take_length] at this
    have h4 := (zmj hc).1
    have n1 := zN (n := l.length) (by omega)
    simp only [zeP, List.length_append]; omega
  · simp
end Go.AW

/- How numbers and byte strings are read. No program in sight. -/
import Derived.Test.YtjjchfbckfopkaaGreatSpNum
import Derived.Test.YtjjchfbckfopkaaGreatSpRc
set_option linter.all false
set_option linter.unusedSimpArgs false
namespace Go.AW

def numR (most : Nat) : Nat → Nat → List UInt8 → Except Int (Nat × List UInt8)
  | _, _, [] => .error 10
  | i, acc, c :: r =>
    if i = 9 ∧ c.toNat > 1 then .error 11
    else if c.toNat < 128 then (if (i > 0 ∧ c.toNat = 0) ∨ acc + c.toNat * 128 ^ i > most then .error 11 else .ok (acc + c.toNat * 128 ^ i, r))
    else numR most (i + 1) (acc + c.toNat % 128 * 128 ^ i) r



def zlD (x : zf) : List UInt8 := zcG x.client.toNat ++ (zcG x.time.toNat ++ opB x.op)
def zbO (x : zf) : List UInt8 := if zD x = 0 then zlD x else []
def signB (k d : Int) : List UInt8 := zcG k.toNat ++ zcG d.toNat
def zdv (k d : Int) : List UInt8 := if zal k d = 0 then signB k d else []
def oneB (x : zf) : List UInt8 := zmQ (zlD x) ++ signB x.key x.dig
def zeV (l : List zf) : List UInt8 := (l.map oneB).flatten
def zeZ (l : List zf) : List UInt8 := zcG l.length ++ zeV l
def zbJ (l : List zf) : List UInt8 := if zx l = 0 then zeZ l else []

theorem req_ok {x : zf} (h : zD x = 0) : 0 ≤ x.client ∧ x.client < 8 ∧ 1 ≤ x.time ∧ x.time ≤ 9007199254740992 ∧ zbK zhw x.op = 0 := by
  unfold zD at h
  split at h
  · cases h
  · refine ⟨by omega, by omega, by omega, by omega, h⟩
theorem sign_ok {k d : Int} (h : zal k d = 0) : 0 ≤ k ∧ k < 21 ∧ 1 ≤ d ∧ d ≤ 9007199254740992 := by
  unfold zal at h
  split at h
  · cases h
  · omega
theorem errs_mem {l : List zf} (h : zhx l = 0) : ∀ x ∈ l, zoN x = 0 := by
  induction l with
  | nil => simp
  | cons s r ih =>
    simp only [zhx] at h
    split at h
    · rename_i hs; exact absurd h hs
    · rename_i hs
      intro x hx
      rcases List.mem_cons.1 hx with rfl | hx
      · simpa using hs
      · exact ih h x hx
theorem zmA {l : List zf} (h : zx l = 0) : l.length ≤ 4 ∧ (∀ x ∈ l, zD x = 0 ∧ zal x.key x.dig = 0) ∧ l.Pairwise ndup := by
  unfold zx at h
  split at h
  · cases h
  · split at h
    · rename_i h1; exact absurd h h1
    · split at h
      · rename_i h0 h1 h2
        refine ⟨by omega, fun x hx => ?_, h2⟩
        have := errs_mem (by simpa using h1) x hx
        unfold zoN at this
        split at this
        · rename_i h3; exact absurd this h3
        · rename_i h3; exact ⟨by simpa using h3, this⟩
      · cases h
theorem opB_len {o : TOp} (h : zgo o ≤ 268435456) (hc : zbK zhw o = 0) : (opB o).length ≤ zgo o + 60 := by
  obtain ⟨k0, k4, o0, o1, _⟩ := zpV hc
  have hr := zgJ o.recs
  have hrb := zgd o.recs (by unfold zgo at h; omega) o.recs.length
  rw [List.take_length] at hrb
  unfold zgo at h ⊢
  have n1 := zO (n := o.kind.toNat) (by omega)
  have n2 := zO (n := o.topic.length) (by omega)
  have n3 := zO (n := o.group.length) (by omega)
  have n4 := zO (n := o.offset.toNat) (by omega)
  have n5 := zO (n := o.recs.length) (by omega)
  have hk : o.kind = 0 ∨ o.kind = 1 ∨ o.kind = 2 ∨ o.kind = 3 ∨ o.kind = 4 := by omega
  rcases hk with hk | hk | hk | hk | hk
  · rw [opB_0 hk]; omega
  · rw [opB_1 hk]; simp only [List.length_append]; omega
  · rw [opB_2 hk]; simp only [List.length_append]; omega
  · rw [opB_3 hk]; simp only [List.length_append]; omega
  · rw [opB_4 hk]; simp only [List.length_append]; omega
theorem zmt {x : zf} (h : zgo x.op ≤ 268435456) (hc : zD x = 0) : (zlD x).length ≤ zgo x.op + 80 := by
  obtain ⟨c0, c8, t1, t2, ho⟩ := req_ok hc
  have := opB_len h ho
  have n1 := zO (n := x.client.toNat) (by omega)
  have n2 := zO (n := x.time.toNat) (by omega)
  simp only [zlD, List.length_append]; omega
theorem signB_len {k d : Int} (h : zal k d = 0) : (signB k d).length ≤ 20 := by
  obtain ⟨k0, k1, d0, d1⟩ := sign_ok h
  have n1 := zO (n := k.toNat) (by omega)
  have n2 := zO (n := d.toNat) (by omega)
  simp only [signB, List.length_append]; omega
theorem oneB_len {x : zf} (h : zgo x.op ≤ 20971520) (h1 : zD x = 0) (h2 : zal x.key x.dig = 0) : (oneB x).length ≤ 20971700 := by
  have a := zmt (by omega) h1
  have b := signB_len h2
  have c := zfQ (x := zlD x) (by omega)
  simp only [oneB, List.length_append]; omega
theorem zjE {l : List zf} (h : ∀ x ∈ l, zgo x.op ≤ 20971520) (hc : zx l = 0) (k : Nat) : (zeV (l.take k)).length ≤ 83886800 := by
  obtain ⟨h4, hm, _⟩ := zmA hc
  have key : ∀ (m : List zf), (∀ x ∈ m, x ∈ l) → (zeV m).length ≤ m.length * 20971700 := by
    intro m
    induction m with
    | nil => intro _; simp [zeV]
    | cons x m ih =>
      intro hsub
      have h1 := ih fun y hy => hsub y (by simp [hy])
      have hx := hsub x (by simp)
      have h2 := oneB_len (h x hx) (hm x hx).1 (hm x hx).2
      simp only [zeV, List.map_cons, List.flatten_cons, List.length_append, List.length_cons] at h1 ⊢
      omega
  have := key (l.take k) fun x hx => List.mem_of_mem_take hx
  have h5 : (l.take k).length ≤ 4 := by rw [List.length_take]; omega
  have h6 : (l.take k).length * 20971700 ≤ 4 * 20971700 := Nat.mul_le_mul_right _ h5
  omega
theorem zlS {l : List zf} {k : Nat} {x : zf} (h : l[k]? = some x) : zeV (l.take (k + 1)) = zeV (l.take k) ++ oneB x := by
  rw [List.take_add_one, h]; simp [zeV]
theorem zlC {x : zf} (h : zgo x.op ≤ 20971520) : (zbO x).length ≤ 20971600 := by
  unfold zbO
  split
  · rename_i hc; have := zmt (by omega) hc; omega
  · simp
theorem ziW {l : List zf} (h : ∀ x ∈ l, zgo x.op ≤ 20971520) : (zbJ l).length ≤ 83886900 := by
  unfold zbJ
  split
  · rename_i hc
    have := zjE h hc l.length
    rw [List.take_length] at this
    have h4 := (zmA hc).1
    have n1 := zO (n := l.length) (by omega)
    simp only [zeZ, List.length_append]; omega
  · simp
end Go.AW

/- How numbers and byte strings are read. No program in sight. -/
import Derived.Test.YtcappjcojggehaaGreatSpNum
import Derived.Test.YtcappjcojggehaaGreatOpS
set_option linter.all false
set_option linter.unusedSimpArgs false
namespace Go.AW

/-- a number, from its byte i on; 10: bytes that end too early, 11: too great, or not in its shortest form -/
def numR (most : Nat) : Nat → Nat → List UInt8 → Except Int (Nat × List UInt8)
  | _, _, [] => .error 10
  | i, acc, c :: r =>
    if i = 9 ∧ c.toNat > 1 then .error 11
    else if c.toNat < 128 then (if (i > 0 ∧ c.toNat = 0) ∨ acc + c.toNat * 128 ^ i > most then .error 11 else .ok (acc + c.toNat * 128 ^ i, r))
    else numR most (i + 1) (acc + c.toNat % 128 * 128 ^ i) r

end Go.AW

/- Bytes that say where they end: numbers, byte strings, operations. No program in sight. -/
set_option linter.unusedSimpArgs false
namespace Go.AW

end Go.AW

/- The bytes of requests, signatures and batches. No program in sight. -/
set_option linter.unusedSimpArgs false
set_option linter.unusedVariables false
namespace Go.AW

def reqB (x : zk) : List UInt8 := numB x.client.toNat ++ (numB x.time.toNat ++ opB x.op)
def zaR (x : zk) : List UInt8 := if zJ x = 0 then reqB x else []
def signB (k d : Int) : List UInt8 := numB k.toNat ++ numB d.toNat
def zcm (k d : Int) : List UInt8 := if zag k d = 0 then signB k d else []
def oneB (x : zk) : List UInt8 := putB (reqB x) ++ signB x.key x.dig
def zdj (l : List zk) : List UInt8 := (l.map oneB).flatten
def zcJ (l : List zk) : List UInt8 := numB l.length ++ zdj l
def zaN (l : List zk) : List UInt8 := if zA l = 0 then zcJ l else []

theorem req_ok {x : zk} (h : zJ x = 0) : 0 ≤ x.client ∧ x.client < 8 ∧ 1 ≤ x.time ∧ x.time ≤ 9007199254740992 ∧ zaT nameF x.op = 0 := by
  unfold zJ at h
  split at h
  · cases h
  · refine ⟨by omega, by omega, by omega, by omega, h⟩
theorem sign_ok {k d : Int} (h : zag k d = 0) : 0 ≤ k ∧ k < 21 ∧ 1 ≤ d ∧ d ≤ 9007199254740992 := by
  unfold zag at h
  split at h
  · cases h
  · omega
theorem errs_mem {l : List zk} (h : errsF l = 0) : ∀ x ∈ l, errF x = 0 := by
  induction l with
  | nil => simp
  | cons s r ih =>
    simp only [errsF] at h
    split at h
    · rename_i hs; exact absurd h hs
    · rename_i hs
      intro x hx
      rcases List.mem_cons.1 hx with rfl | hx
      · simpa using hs
      · exact ih h x hx
theorem zld {l : List zk} (h : zA l = 0) : l.length ≤ 4 ∧ (∀ x ∈ l, zJ x = 0 ∧ zag x.key x.dig = 0) ∧ l.Pairwise ndup := by
  unfold zA at h
  split at h
  · cases h
  · split at h
    · rename_i h1; exact absurd h h1
    · split at h
      · rename_i h0 h1 h2
        refine ⟨by omega, fun x hx => ?_, h2⟩
        have := errs_mem (by simpa using h1) x hx
        unfold errF at this
        split at this
        · rename_i h3; exact absurd this h3
        · rename_i h3; exact ⟨by simpa using h3, this⟩
      · cases h
theorem opB_len {o : TOp} (h : opSz o ≤ 268435456) (hc : zaT nameF o = 0) : (opB o).length ≤ opSz o + 60 := by
  obtain ⟨k0, k4, o0, o1, _⟩ := zol hc
  have hr := zfd o.recs
  have hrb := zeu o.recs (by unfold opSz at h; omega) o.recs.length
  rw [List.take_length] at hrb
  unfold opSz at h ⊢
  have n1 := zS (n := o.kind.toNat) (by omega)
  have n2 := zS (n := o.topic.length) (by omega)
  have n3 := zS (n := o.group.length) (by omega)
  have n4 := zS (n := o.offset.toNat) (by omega)
  have n5 := zS (n := o.recs.length) (by omega)
  have hk : o.kind = 0 ∨ o.kind = 1 ∨ o.kind = 2 ∨ o.kind = 3 ∨ o.kind = 4 := by omega
  rcases hk with hk | hk | hk | hk | hk
  · rw [opB_0 hk]; omega
  · rw [opB_1 hk]; simp only [List.length_append]; omega
  · rw [opB_2 hk]; simp only [List.length_append]; omega
  · rw [opB_3 hk]; simp only [List.length_append]; omega
  · rw [opB_4 hk]; simp only [List.length_append]; omega
theorem zkY {x : zk} (h : opSz x.op ≤ 268435456) (hc : zJ x = 0) : (reqB x).length ≤ opSz x.op + 80 := by
  obtain ⟨c0, c8, t1, t2, ho⟩ := req_ok hc
  have := opB_len h ho
  have n1 := zS (n := x.client.toNat) (by omega)
  have n2 := zS (n := x.time.toNat) (by omega)
  simp only [reqB, List.length_append]; omega
theorem signB_len {k d : Int} (h : zag k d = 0) : (signB k d).length ≤ 20 := by
  obtain ⟨k0, k1, d0, d1⟩ := sign_ok h
  have n1 := zS (n := k.toNat) (by omega)
  have n2 := zS (n := d.toNat) (by omega)
  simp only [signB, List.length_append]; omega
theorem oneB_len {x : zk} (h : opSz x.op ≤ 20971520) (h1 : zJ x = 0) (h2 : zag x.key x.dig = 0) : (oneB x).length ≤ 20971700 := by
  have a := zkY (by omega) h1
  have b := signB_len h2
  have c := zej (x := reqB x) (by omega)
  simp only [oneB, List.length_append]; omega
theorem zhT {l : List zk} (h : ∀ x ∈ l, opSz x.op ≤ 20971520) (hc : zA l = 0) (k : Nat) : (zdj (l.take k)).length ≤ 83886800 := by
  obtain ⟨h4, hm, _⟩ := zld hc
  have key : ∀ (m : List zk), (∀ x ∈ m, x ∈ l) → (zdj m).length ≤ m.length * 20971700 := by
    intro m
    induction m with
    | nil => intro _; simp [zdj]
    | cons x m ih =>
      intro hsub
      have h1 := ih fun y hy => hsub y (by simp [hy])
      have hx := hsub x (by simp)
      have h2 := oneB_len (h x hx) (hm x hx).1 (hm x hx).2
      simp only [zdj, List.map_cons, List.flatten_cons, List.length_append, List.length_cons] at h1 ⊢
      omega
  have := key (l.take k) fun x hx => List.mem_of_mem_take hx
  have h5 : (l.take k).length ≤ 4 := by rw [List.length_take]; omega
  have h6 : (l.take k).length * 20971700 ≤ 4 * 20971700 := Nat.mul_le_mul_right _ h5
  omega
theorem zku {l : List zk} {k : Nat} {x : zk} (h : l[k]? = some x) : zdj (l.take (k + 1)) = zdj (l.take k) ++ oneB x := by
  rw [List.take_add_one, h]; simp [zdj]
theorem zkn {x : zk} (h : opSz x.op ≤ 20971520) : (zaR x).length ≤ 20971600 := by
  unfold zaR
  split
  · rename_i hc; have := zkY (by omega) hc; omega
  · simp
theorem zhn {l : List zk} (h : ∀ x ∈ l, opSz x.op ≤ 20971520) : (zaN l).length ≤ 83886900 := by
  unfold zaN
  split
  · rename_i hc
    have := zhT h hc l.length
    rw [List.take_length] at this
    have h4 := (zld hc).1
    have n1 := zS (n := l.length) (by omega)
    simp only [zcJ, List.length_append]; omega
  · simp
end Go.AW

/- How numbers and byte strings are read. No program in sight. -/
import Derived.Test.YthmdpooklflkfaaSpNum
import Derived.Test.YthmdpooklflkfaaSpRc
set_option linter.all false
set_option linter.unusedSimpArgs false
namespace Go.AW

end Go.AW

/- Bytes that say where they end: numbers, byte strings, operations. No program in sight. -/
set_option linter.unusedSimpArgs false
namespace Go.AW

end Go.AW

/- The bytes of requests, signatures and batches. No program in sight. -/
set_option linter.unusedSimpArgs false
set_option linter.unusedVariables false
namespace Go.AW

def reqB (x : TSigned) : List UInt8 := numB x.client.toNat ++ (numB x.time.toNat ++ opB x.op)
def reqBytesF (x : TSigned) : List UInt8 := if checkReqF x = 0 then reqB x else []
def signB (k d : Int) : List UInt8 := numB k.toNat ++ numB d.toNat
def oneB (x : TSigned) : List UInt8 := putB (reqB x) ++ signB x.key x.dig
def batchBs (l : List TSigned) : List UInt8 := (l.map oneB).flatten
def batchB (l : List TSigned) : List UInt8 := numB l.length ++ batchBs l
def batchBytesF (l : List TSigned) : List UInt8 := if checkBatchF l = 0 then batchB l else []

theorem req_ok {x : TSigned} (h : checkReqF x = 0) : 0 ≤ x.client ∧ x.client < 8 ∧ 1 ≤ x.time ∧ x.time ≤ 9007199254740992 ∧ checkOpF nameF x.op = 0 := by
  unfold checkReqF at h
  split at h
  · cases h
  · refine ⟨by omega, by omega, by omega, by omega, h⟩
theorem sign_ok {k d : Int} (h : checkSignF k d = 0) : 0 ≤ k ∧ k < 21 ∧ 1 ≤ d ∧ d ≤ 9007199254740992 := by
  unfold checkSignF at h
  split at h
  · cases h
  · omega
theorem errs_mem {l : List TSigned} (h : errsF l = 0) : ∀ x ∈ l, errF x = 0 := by
  induction l with
  | nil => simp
  | cons s r ih =>
    simp only [errsF] at h
    split at h
    · rename_i hs; exact absurd h hs
    · rename_i hs
      intro x hx
      rcases List.mem_cons.1 hx with rfl | hx
      · simpa using hs
      · exact ih h x hx
theorem batch_ok {l : List TSigned} (h : checkBatchF l = 0) : l.length ≤ 4 ∧ (∀ x ∈ l, checkReqF x = 0 ∧ checkSignF x.key x.dig = 0) ∧ l.Pairwise ndup := by
  unfold checkBatchF at h
  split at h
  · cases h
  · split at h
    · rename_i h1; exact absurd h h1
    · split at h
      · rename_i h0 h1 h2
        refine ⟨by omega, fun x hx => ?_, h2⟩
        have := errs_mem (by simpa using h1) x hx
        unfold errF at this
        split at this
        · rename_i h3; exact absurd this h3
        · rename_i h3; exact ⟨by simpa using h3, this⟩
      · cases h
theorem opB_len {o : TOp} (h : opSz o ≤ 268435456) (hc : checkOpF nameF o = 0) : (opB o).length ≤ opSz o + 60 := by
  obtain ⟨k0, k4, o0, o1, _⟩ := check_ok hc
  have hr := recs_len_le o.recs
  have hrb := recsB_take_len o.recs (by unfold opSz at h; omega) o.recs.length
  rw [List.take_length] at hrb
  unfold opSz at h ⊢
  have n1 := numB_len10 (n := o.kind.toNat) (by omega)
  have n2 := numB_len10 (n := o.topic.length) (by omega)
  have n3 := numB_len10 (n := o.group.length) (by omega)
  have n4 := numB_len10 (n := o.offset.toNat) (by omega)
  have n5 := numB_len10 (n := o.recs.length) (by omega)
  have hk : o.kind = 0 ∨ o.kind = 1 ∨ o.kind = 2 ∨ o.kind = 3 ∨ o.kind = 4 := by omega
  rcases hk with hk | hk | hk | hk | hk
  · rw [opB_0 hk]; omega
  · rw [opB_1 hk]; simp only [List.length_append]; omega
  · rw [opB_2 hk]; simp only [List.length_append]; omega
  · rw [opB_3 hk]; simp only [List.length_append]; omega
  · rw [opB_4 hk]; simp only [List.length_append]; omega
theorem reqB_len {x : TSigned} (h : opSz x.op ≤ 268435456) (hc : checkReqF x = 0) : (reqB x).length ≤ opSz x.op + 80 := by
  obtain ⟨c0, c8, t1, t2, ho⟩ := req_ok hc
  have := opB_len h ho
  have n1 := numB_len10 (n := x.client.toNat) (by omega)
  have n2 := numB_len10 (n := x.time.toNat) (by omega)
  simp only [reqB, List.length_append]; omega
theorem signB_len {k d : Int} (h : checkSignF k d = 0) : (signB k d).length ≤ 20 := by
  obtain ⟨k0, k1, d0, d1⟩ := sign_ok h
  have n1 := numB_len10 (n := k.toNat) (by omega)
  have n2 := numB_len10 (n := d.toNat) (by omega)
  simp only [signB, List.length_append]; omega
theorem oneB_len {x : TSigned} (h : opSz x.op ≤ 20971520) (h1 : checkReqF x = 0) (h2 : checkSignF x.key x.dig = 0) : (oneB x).length ≤ 20971700 := by
  have a := reqB_len (by omega) h1
  have b := signB_len h2
  have c := putB_len (x := reqB x) (by omega)
  simp only [oneB, List.length_append]; omega
theorem batchBs_len {l : List TSigned} (h : ∀ x ∈ l, opSz x.op ≤ 20971520) (hc : checkBatchF l = 0) (k : Nat) : (batchBs (l.take k)).length ≤ 83886800 := by
  obtain ⟨h4, hm, _⟩ := batch_ok hc
  have key : ∀ (m : List TSigned), (∀ x ∈ m, x ∈ l) → (batchBs m).length ≤ m.length * 20971700 := by
    intro m
    induction m with
    | nil => intro _; simp [batchBs]
    | cons x m ih =>
      intro hsub
      have h1 := ih fun y hy => hsub y (by simp [hy])
      have hx := hsub x (by simp)
      have h2 := oneB_len (h x hx) (hm x hx).1 (hm x hx).2
      simp only [batchBs, List.map_cons, List.flatten_cons, List.length_append, List.length_cons] at h1 ⊢
      omega
  have := key (l.take k) fun x hx => List.mem_of_mem_take hx
  have h5 : (l.take k).length ≤ 4 := by rw [List.length_take]; omega
  have h6 : (l.take k).length * 20971700 ≤ 4 * 20971700 := Nat.mul_le_mul_right _ h5
  omega
theorem batchBytes_len {l : List TSigned} (h : ∀ x ∈ l, opSz x.op ≤ 20971520) : (batchBytesF l).length ≤ 83886900 := by
  unfold batchBytesF
  split
  · rename_i hc
    have := batchBs_len h hc l.length
    rw [List.take_length] at this
    have h4 := (batch_ok hc).1
    have n1 := numB_len10 (n := l.length) (by omega)
    simp only [batchB, List.length_append]; omega
  · simp
end Go.AW

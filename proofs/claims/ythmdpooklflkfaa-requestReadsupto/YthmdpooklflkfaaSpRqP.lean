/- Requests, signatures and batches, as they are read. No program in sight. -/
import Derived.Test.YthmdpooklflkfaaSpRd
import Derived.Test.YthmdpooklflkfaaSpTake
set_option linter.all false
set_option linter.unusedSimpArgs false
set_option linter.unusedVariables false
namespace Go.AW

def nilRq : TSigned := ⟨0, 0, noOp, 0, 0⟩
def doneE (s : Rd) : Int := if s.e = 0 ∧ 0 < s.b.length then 12 else s.e
def lateE (e : Int) (t : Nat) : Int := if e = 0 ∧ t = 0 then 80 else e
def pickR (f : Int) (x : TSigned) : TSigned := if f = 0 then x else nilRq
def signZ (c : Bool) (d : Nat × Rd) : Rd := if d.2.e = 0 ∧ d.1 = 0 then d.2.fail c 81 else d.2
/-- the request of all of the bytes, or none and why -/
def reqP (c : Bool) (b : List UInt8) : TSigned × Int :=
  let k := numP c 7 ⟨b, 0⟩
  let t := numP c 9007199254740992 k.2
  let o := takeOpP c nameF t.2
  let f := lateE (doneE o.2) t.1
  (pickR f ⟨k.1, t.1, o.1, 0, 0⟩, f)
def signP (c : Bool) (s : Rd) : (Nat × Nat) × Rd :=
  let k := numP c 20 s
  let d := numP c 9007199254740992 k.2
  let z := signZ c d
  (if z.e = 0 then (k.1, d.1) else (0, 0), z)
def oneP (c : Bool) (s : Rd) : TSigned × Rd :=
  let b := bytesP c 1024 s
  let x := reqP c b.1
  let g := signP c (b.2.fail c x.2)
  (⟨x.1.client, x.1.time, x.1.op, g.1.1, g.1.2⟩, g.2)
def itemsP (c : Bool) : Nat → Rd → List TSigned × Rd
  | 0, s => ([], s)
  | k + 1, s => ((itemsP c k s).1 ++ [(oneP c (itemsP c k s).2).1], (oneP c (itemsP c k s).2).2)
def batchP (c : Bool) (s : Rd) : List TSigned × Rd :=
  let n := numP c 4 s
  let p := itemsP c n.1 n.2
  let z := p.2.fail c (checkBatchF p.1)
  (if z.e = 0 then p.1 else [], z)

theorem Rd.like.refl (s : Rd) : s.like s := ⟨rfl, fun _ => rfl⟩
theorem done_like {s t : Rd} (h : s.like t) : doneE s = doneE t := by
  unfold doneE
  obtain ⟨h1, h2⟩ := h
  by_cases h0 : s.e = 0
  · rw [h2 h0, h1]
  · rw [if_neg (fun g => h0 g.1), if_neg (fun g => h0 (h1 ▸ g.1)), h1]
theorem reqP_like (c d : Bool) (b : List UInt8) : reqP c b = reqP d b := by
  obtain ⟨k1, k2⟩ := (Rd.like.refl ⟨b, 0⟩).num (c := c) (d := d) (m := 7)
  obtain ⟨t1, t2⟩ := k2.num (c := c) (d := d) (m := 9007199254740992)
  obtain ⟨o1, o2⟩ := t2.takeOp (c := c) (d := d) (name := nameF)
  have e := done_like o2
  unfold reqP
  simp only
  rw [e, t1, k1, o1]
theorem Rd.like.sign {s t : Rd} {c d : Bool} (h : s.like t) : (signP c s).1 = (signP d t).1 ∧ (signP c s).2.like (signP d t).2 := by
  obtain ⟨k1, k2⟩ := h.num (c := c) (d := d) (m := 20)
  obtain ⟨t1, t2⟩ := k2.num (c := c) (d := d) (m := 9007199254740992)
  have z := t2.fail (c := c) (d := d) (x := 81)
  have hz : (signZ c (numP c 9007199254740992 (numP c 20 s).2)).like (signZ d (numP d 9007199254740992 (numP d 20 t).2)) := by
    unfold signZ
    rw [← t1, ← t2.1]
    split
    · exact z
    · exact t2
  unfold signP
  simp only
  rw [← k1, ← t1, ← hz.1]
  exact ⟨rfl, hz⟩
theorem Rd.like.one {s t : Rd} {c d : Bool} (h : s.like t) : (oneP c s).1 = (oneP d t).1 ∧ (oneP c s).2.like (oneP d t).2 := by
  obtain ⟨b1, b2⟩ := h.bytes (c := c) (d := d) (m := 1024)
  have e := reqP_like c d (bytesP c 1024 s).1
  have f := b2.fail (c := c) (d := d) (x := (reqP c (bytesP c 1024 s).1).2)
  obtain ⟨g1, g2⟩ := f.sign (c := c) (d := d)
  unfold oneP
  simp only
  rw [← b1, ← e, ← g1]
  exact ⟨rfl, g2⟩
theorem Rd.like.items {s t : Rd} {c d : Bool} (h : s.like t) : ∀ k, (itemsP c k s).1 = (itemsP d k t).1 ∧ (itemsP c k s).2.like (itemsP d k t).2
  | 0 => ⟨rfl, h⟩
  | k + 1 => by
    obtain ⟨a, b⟩ := Rd.like.items h (c := c) (d := d) k
    obtain ⟨e1, e2⟩ := b.one (c := c) (d := d)
    exact ⟨by simp only [itemsP, a, e1], e2⟩
theorem Rd.like.batch {s t : Rd} {c d : Bool} (h : s.like t) : (batchP c s).1 = (batchP d t).1 ∧ (batchP c s).2.like (batchP d t).2 := by
  obtain ⟨n1, n2⟩ := h.num (c := c) (d := d) (m := 4)
  obtain ⟨p1, p2⟩ := n2.items (c := c) (d := d) (numP c 4 s).1
  have z := p2.fail (c := c) (d := d) (x := checkBatchF (itemsP c (numP c 4 s).1 (numP c 4 s).2).1)
  unfold batchP
  simp only
  rw [← n1, ← p1, ← z.1]
  exact ⟨rfl, z⟩

/-! a reader that is stuck stays -/
theorem numP_stuck {c : Bool} {m : Nat} {s : Rd} (h : s.e ≠ 0) : numP c m s = (0, s) := by rw [numP, if_neg h]
theorem takeP_stuck {c : Bool} {n : Nat} {s : Rd} (h : s.e ≠ 0) : takeP c n s = ([], s) := by rw [takeP, if_neg h]
theorem bytesP_stuck {c : Bool} {m : Nat} {s : Rd} (h : s.e ≠ 0) : bytesP c m s = ([], s) := by
  unfold bytesP; rw [numP_stuck h, takeP_stuck h]
theorem failP_stuck {c : Bool} {s : Rd} {x : Int} (h : s.e ≠ 0) : s.fail c x = s := by rw [Rd.fail, if_neg (fun g => h g.1)]
theorem signP_stuck {c : Bool} {s : Rd} (h : s.e ≠ 0) : signP c s = ((0, 0), s) := by
  unfold signP signZ
  simp [numP_stuck h, h]
theorem oneP_stuck {c : Bool} {s : Rd} (h : s.e ≠ 0) : (oneP c s).2 = s := by
  unfold oneP
  simp only [bytesP_stuck h, failP_stuck h, signP_stuck h]
/-- where the bytes end, all ends -/
theorem oneP_cut {c : Bool} {s : Rd} (h : (bytesP c 1024 s).2.e ≠ 0) : (oneP c s).2 = (bytesP c 1024 s).2 := by
  unfold oneP
  simp only [failP_stuck h, signP_stuck h]
theorem itemsP_stuck {c : Bool} {s : Rd} {k : Nat} (h : (itemsP c k s).2.e ≠ 0) : ∀ j, (itemsP c (k + j) s).2 = (itemsP c k s).2
  | 0 => rfl
  | j + 1 => by
    have ih := itemsP_stuck h j
    show (oneP c (itemsP c (k + j) s).2).2 = _
    rw [ih, oneP_stuck h]
theorem batchP_stuck {c : Bool} {s : Rd} {k : Nat} (hk : k ≤ (numP c 4 s).1) (h : (itemsP c k (numP c 4 s).2).2.e ≠ 0) : batchP c s = ([], (itemsP c k (numP c 4 s).2).2) := by
  obtain ⟨j, hj⟩ : ∃ j, (numP c 4 s).1 = k + j := ⟨(numP c 4 s).1 - k, by omega⟩
  have e := itemsP_stuck h j
  unfold batchP
  simp only
  rw [hj, e, failP_stuck h, if_neg h]
theorem itemsP_len (c : Bool) (s : Rd) : ∀ k, (itemsP c k s).1.length = k
  | 0 => rfl
  | k + 1 => by simp [itemsP, itemsP_len c s k]

/-! how much room -/
theorem failP_len (c : Bool) (s : Rd) (x : Int) : (s.fail c x).b.length ≤ s.b.length := by
  unfold Rd.fail
  split
  · cases c <;> simp
  · exact Nat.le_refl _
theorem numP_room (c : Bool) (m : Nat) (s : Rd) : (numP c m s).2.b.length ≤ s.b.length := by
  unfold numP
  split
  · cases h : numR m 0 0 s.b with
    | ok x => exact numR_len h
    | error x => exact failP_len _ _ _
  · exact Nat.le_refl _
theorem bytesP_room (c : Bool) (m : Nat) (s : Rd) : (bytesP c m s).2.b.length ≤ s.b.length := by
  refine Nat.le_trans ?_ (numP_room c m s)
  unfold bytesP takeP
  split
  · split
    · exact failP_len _ _ _
    · simp
  · exact Nat.le_refl _
theorem signP_room (c : Bool) (s : Rd) : (signP c s).2.b.length ≤ s.b.length := by
  have a := numP_room c 20 s
  have b := numP_room c 9007199254740992 (numP c 20 s).2
  have d := failP_len c (numP c 9007199254740992 (numP c 20 s).2).2 81
  unfold signP signZ
  simp only
  split <;> omega
theorem oneP_room (c : Bool) (s : Rd) : (oneP c s).2.b.length ≤ s.b.length := by
  have a := bytesP_room c 1024 s
  have b := failP_len c (bytesP c 1024 s).2 (reqP c (bytesP c 1024 s).1).2
  have d := signP_room c ((bytesP c 1024 s).2.fail c (reqP c (bytesP c 1024 s).1).2)
  unfold oneP
  simp only
  omega
theorem itemsP_room (c : Bool) (s : Rd) : ∀ k, (itemsP c k s).2.b.length ≤ s.b.length
  | 0 => Nat.le_refl _
  | k + 1 => Nat.le_trans (oneP_room c _) (itemsP_room c s k)
theorem recsP_szs (c : Bool) : ∀ n s, n ≤ 4 → ((recsP c n s).1.map fun r => r.length + 10).sum ≤ 74 * n := by
  intro n s
  induction n with
  | zero => simp [recsP]
  | succ n ih =>
    intro h
    have := ih (by omega)
    have := bytesP_len1 c 64 (recsP c n s).2
    simp only [recsP, List.map_append, List.map_cons, List.map_nil, List.sum_append, List.sum_cons, List.sum_nil]
    omega
theorem fieldsP_szC {c : Bool} {k : Nat} {s : Rd} : opSz (fieldsP c k s).1 ≤ 424 := by
  have a := bytesP_len1 c 64 s
  have b := bytesP_len1 c 64 (bytesP c 64 s).2
  have hn := numP_le c 4 (bytesP c 64 s).2
  have := recsP_szs c _ (numP c 4 (bytesP c 64 s).2).2 hn
  unfold fieldsP opSz
  simp only
  split
  · simp [noOp]
  · split
    · simp only [List.length_nil]; omega
    · split
      · simp only [List.map_nil, List.sum_nil]; omega
      · split
        · simp only [List.map_nil, List.sum_nil, List.length_nil]; omega
        · simp only [List.map_nil, List.sum_nil, List.length_nil]; omega
theorem takeOpP_szC (c : Bool) (s : Rd) : opSz (takeOpP c nameF s).1 ≤ 424 := by
  have := @fieldsP_szC c (numP c 4 s).1 (numP c 4 s).2
  have z : opSz noOp ≤ 424 := by decide
  unfold takeOpP
  simp only
  split
  · exact this
  · exact z
theorem reqP_sz (c : Bool) (b : List UInt8) : opSz (reqP c b).1.op ≤ 424 := by
  have z : opSz noOp ≤ 424 := by decide
  unfold reqP pickR
  simp only
  split
  · exact takeOpP_szC _ _
  · exact z
theorem itemsP_sz (c : Bool) (s : Rd) : ∀ k, ∀ x ∈ (itemsP c k s).1, opSz x.op ≤ 424
  | 0 => by simp [itemsP]
  | k + 1 => by
    intro x hx
    simp only [itemsP, List.mem_append, List.mem_singleton] at hx
    rcases hx with hx | rfl
    · exact itemsP_sz c s k x hx
    · exact reqP_sz c _
theorem batchP_sz (c : Bool) (s : Rd) : (∀ x ∈ (batchP c s).1, opSz x.op ≤ 424) ∧ (batchP c s).1.length ≤ 4 := by
  have h4 := numP_le c 4 s
  have hl := itemsP_len c (numP c 4 s).2 (numP c 4 s).1
  unfold batchP
  simp only
  split
  · exact ⟨itemsP_sz c _ _, by omega⟩
  · simp
end Go.AW

/- Requests, signatures and batches, as they are read. No program in sight. -/
import Derived.Test.YthmdpooklflkfaaSpRd
import Derived.Test.YthmdpooklflkfaaSpTake
set_option linter.all false
set_option linter.unusedSimpArgs false
set_option linter.unusedVariables false
namespace Go.AW

def nilRq : TSigned := ⟨0, 0, noOp, 0, 0⟩
def doneE (s : Rd) : Int := if s.e = 0 ∧ 0 < s.b.length then 12 else s.e
def lateE (e : Int) (t : Nat) : Int := if e = 0 ∧ t = 0 then 80 else e
def pickR (f : Int) (x : TSigned) : TSigned := if f = 0 then x else nilRq
def signZ (c : Bool) (d : Nat × Rd) : Rd := if d.2.e = 0 ∧ d.1 = 0 then d.2.fail c 81 else d.2
/-- the request of all of the bytes, or none and why -/
def reqP (c : Bool) (b : List UInt8) : TSigned × Int :=
  let k := numP c 7 ⟨b, 0⟩
  let t := numP c 9007199254740992 k.2
  let o := takeOpP c nameF t.2
  let f := lateE (doneE o.2) t.1
  (pickR f ⟨k.1, t.1, o.1, 0, 0⟩, f)
def signP (c : Bool) (s : Rd) : (Nat × Nat) × Rd :=
  let k := numP c 20 s
  let d := numP c 9007199254740992 k.2
  let z := signZ c d
  (if z.e = 0 then (k.1, d.1) else (0, 0), z)
def oneP (c : Bool) (s : Rd) : TSigned × Rd :=
  let b := bytesP c 1024 s
  let x := reqP c b.1
  let g := signP c (b.2.fail c x.2)
  (⟨x.1.client, x.1.time, x.1.op, g.1.1, g.1.2⟩, g.2)
def itemsP (c : Bool) : Nat → Rd → List TSigned × Rd
  | 0, s => ([], s)
  | k + 1, s => ((itemsP c k s).1 ++ [(oneP c (itemsP c k s).2).1], (oneP c (itemsP c k s).2).2)
def batchP (c : Bool) (s : Rd) : List TSigned × Rd :=
  let n := numP c 4 s
  let p := itemsP c n.1 n.2
  let z := p.2.fail c (checkBatchF p.1)
  (if z.e = 0 then p.1 else [], z)

theorem Rd.like.refl (s : Rd) : s.like s := ⟨rfl, fun _ => rfl⟩
theorem done_like {s t : Rd} (h : s.like t) : doneE s = doneE t := by
  unfold doneE
  obtain ⟨h1, h2⟩ := h
  by_cases h0 : s.e = 0
  · rw [h2 h0, h1]
  · rw [if_neg (fun g => h0 g.1), if_neg (fun g => h0 (h1 ▸ g.1)), h1]
theorem reqP_like (c d : Bool) (b : List UInt8) : reqP c b = reqP d b := by
  obtain ⟨k1, k2⟩ := (Rd.like.refl ⟨b, 0⟩).num (c := c) (d := d) (m := 7)
  obtain ⟨t1, t2⟩ := k2.num (c := c) (d := d) (m := 9007199254740992)
  obtain ⟨o1, o2⟩ := t2.takeOp (c := c) (d := d) (name := nameF)
  have e := done_like o2
  unfold reqP
  simp only
  rw [e, t1, k1, o1]
theorem Rd.like.sign {s t : Rd} {c d : Bool} (h : s.like t) : (signP c s).1 = (signP d t).1 ∧ (signP c s).2.like (signP d t).2 := by
  obtain ⟨k1, k2⟩ := h.num (c := c) (d := d) (m := 20)
  obtain ⟨t1, t2⟩ := k2.num (c := c) (d := d) (m := 9007199254740992)
  have z := t2.fail (c := c) (d := d) (x := 81)
  have hz : (signZ c (numP c 9007199254740992 (numP c 20 s).2)).like (signZ d (numP d 9007199254740992 (numP d 20 t).2)) := by
    unfold signZ
    rw [← t1, ← t2.1]
    split
    · exact z
    · exact t2
  unfold signP
  simp only
  rw [← k1, ← t1, ← hz.1]
  exact ⟨rfl, hz⟩
theorem Rd.like.one {s t : Rd} {c d : Bool} (h : s.like t) : (oneP c s).1 = (oneP d t).1 ∧ (oneP c s).2.like (oneP d t).2 := by
  obtain ⟨b1, b2⟩ := h.bytes (c := c) (d := d) (m := 1024)
  have e := reqP_like c d (bytesP c 1024 s).1
  have f := b2.fail (c := c) (d := d) (x := (reqP c (bytesP c 1024 s).1).2)
  obtain ⟨g1, g2⟩ := f.sign (c := c) (d := d)
  unfold oneP
  simp only
  rw [← b1, ← e, ← g1]
  exact ⟨rfl, g2⟩
theorem Rd.like.items {s t : Rd} {c d : Bool} (h : s.like t) : ∀ k, (itemsP c k s).1 = (itemsP d k t).1 ∧ (itemsP c k s).2.like (itemsP d k t).2
  | 0 => ⟨rfl, h⟩
  | k + 1 => by
    obtain ⟨a, b⟩ := Rd.like.items h (c := c) (d := d) k
    obtain ⟨e1, e2⟩ := b.one (c := c) (d := d)
    exact ⟨by simp only [itemsP, a, e1], e2⟩
theorem Rd.like.batch {s t : Rd} {c d : Bool} (h : s.like t) : (batchP c s).1 = (batchP d t).1 ∧ (batchP c s).2.like (batchP d t).2 := by
  obtain ⟨n1, n2⟩ := h.num (c := c) (d := d) (m := 4)
  obtain ⟨p1, p2⟩ := n2.items (c := c) (d := d) (numP c 4 s).1
  have z := p2.fail (c := c) (d := d) (x := checkBatchF (itemsP c (numP c 4 s).1 (numP c 4 s).2).1)
  unfold batchP
  simp only
  rw [← n1, ← p1, ← z.1]
  exact ⟨rfl, z⟩

/-! a reader that is stuck stays -/
theorem numP_stuck {c : Bool} {m : Nat} {s : Rd} (h : s.e ≠ 0) : numP c m s = (0, s) := by rw [numP, if_neg h]
theorem takeP_stuck {c : Bool} {n : Nat} {s : Rd} (h : s.e ≠ 0) : takeP c n s = ([], s) := by rw [takeP, if_neg h]
theorem bytesP_stuck {c : Bool} {m : Nat} {s : Rd} (h : s.e ≠ 0) : bytesP c m s = ([], s) := by
  unfold bytesP; rw [numP_stuck h, takeP_stuck h]
theorem failP_stuck {c : Bool} {s : Rd} {x : Int} (h : s.e ≠ 0) : s.fail c x = s := by rw [Rd.fail, if_neg (fun g => h g.1)]
theorem signP_stuck {c : Bool} {s : Rd} (h : s.e ≠ 0) : signP c s = ((0, 0), s) := by
  unfold signP signZ
  simp [numP_stuck h, h]
theorem oneP_stuck {c : Bool} {s : Rd} (h : s.e ≠ 0) : (oneP c s).2 = s := by
  unfold oneP
  simp only [bytesP_stuck h, failP_stuck h, signP_stuck h]
/-- where the bytes end, all ends -/
theorem oneP_cut {c : Bool} {s : Rd} (h : (bytesP c 1024 s).2.e ≠ 0) : (oneP c s).2 = (bytesP c 1024 s).2 := by
  unfold oneP
  simp only [failP_stuck h, signP_stuck h]
theorem itemsP_stuck {c : Bool} {s : Rd} {k : Nat} (h : (itemsP c k s).2.e ≠ 0) : ∀ j, (itemsP c (k + j) s).2 = (itemsP c k s).2
  | 0 => rfl
  | j + 1 => by
    have ih := itemsP_stuck h j
    show (oneP c (itemsP c (k + j) s).2).2 = _
    rw [ih, oneP_stuck h]
theorem batchP_stuck {c : Bool} {s : Rd} {k : Nat} (hk : k ≤ (numP c 4 s).1) (h : (itemsP c k (numP c 4 s).2).2.e ≠ 0) : batchP c s = ([], (itemsP c k (numP c 4 s).2).2) := by
  obtain ⟨j, hj⟩ : ∃ j, (numP c 4 s).1 = k + j := ⟨(numP c 4 s).1 - k, by omega⟩
  have e := itemsP_stuck h j
  unfold batchP
  simp only
  rw [hj, e, failP_stuck h, if_neg h]
theorem itemsP_len (c : Bool) (s : Rd) : ∀ k, (itemsP c k s).1.length = k
  | 0 => rfl
  | k + 1 => by simp [itemsP, itemsP_len c s k]

/-! how much room -/
theorem failP_len (c : Bool) (s : Rd) (x : Int) : (s.fail c x).b.length ≤ s.b.length := by
  unfold Rd.fail
  split
  · cases c <;> simp
  · exact Nat.le_refl _
theorem numP_room (c : Bool) (m : Nat) (s : Rd) : (numP c m s).2.b.length ≤ s.b.length := by
  unfold numP
  split
  · cases h : numR m 0 0 s.b with
    | ok x => exact numR_len h
    | error x => exact failP_len _ _ _
  · exact Nat.le_refl _
theorem bytesP_room (c : Bool) (m : Nat) (s : Rd) : (bytesP c m s).2.b.length ≤ s.b.length := by
  refine Nat.le_trans ?_ (numP_room c m s)
  unfold bytesP takeP
  split
  · split
    · exact failP_len _ _ _
    · simp
  · exact Nat.le_refl _
theorem signP_room (c : Bool) (s : Rd) : (signP c s).2.b.length ≤ s.b.length := by
  have a := numP_room c 20 s
  have b := numP_room c 9007199254740992 (numP c 20 s).2
  have d := failP_len c (numP c 9007199254740992 (numP c 20 s).2).2 81
  unfold signP signZ
  simp only
  split <;> omega
theorem oneP_room (c : Bool) (s : Rd) : (oneP c s).2.b.length ≤ s.b.length := by
  have a := bytesP_room c 1024 s
  have b := failP_len c (bytesP c 1024 s).2 (reqP c (bytesP c 1024 s).1).2
  have d := signP_room c ((bytesP c 1024 s).2.fail c (reqP c (bytesP c 1024 s).1).2)
  unfold oneP
  simp only
  omega
theorem itemsP_room (c : Bool) (s : Rd) : ∀ k, (itemsP c k s).2.b.length ≤ s.b.length
  | 0 => Nat.le_refl _
  | k + 1 => Nat.le_trans (oneP_room c _) (itemsP_room c s k)
theorem recsP_szs (c : Bool) : ∀ n s, n ≤ 4 → ((recsP c n s).1.map fun r => r.length + 10).sum ≤ 74 * n := by
  intro n s
  induction n with
  | zero => simp [recsP]
  | succ n ih =>
    intro h
    have := ih (by omega)
    have := bytesP_len1 c 64 (recsP c n s).2
    simp only [recsP, List.map_append, List.map_cons, List.map_nil, List.sum_append, List.sum_cons, List.sum_nil]
    omega
theorem fieldsP_szC {c : Bool} {k : Nat} {s : Rd} : opSz (fieldsP c k s).1 ≤ 424 := by
  have a := bytesP_len1 c 64 s
  have b := bytesP_len1 c 64 (bytesP c 64 s).2
  have hn := numP_le c 4 (bytesP c 64 s).2
  have := recsP_szs c _ (numP c 4 (bytesP c 64 s).2).2 hn
  unfold fieldsP opSz
  simp only
  split
  · simp [noOp]
  · split
    · simp only [List.length_nil]; omega
    · split
      · simp only [List.map_nil, List.sum_nil]; omega
      · split
        · simp only [List.map_nil, List.sum_nil, List.length_nil]; omega
        · simp only [List.map_nil, List.sum_nil, List.length_nil]; omega
theorem takeOpP_szC (c : Bool) (s : Rd) : opSz (takeOpP c nameF s).1 ≤ 424 := by
  have := @fieldsP_szC c (numP c 4 s).1 (numP c 4 s).2
  have z : opSz noOp ≤ 424 := by decide
  unfold takeOpP
  simp only
  split
  · exact this
  · exact z
theorem reqP_sz (c : Bool) (b : List UInt8) : opSz (reqP c b).1.op ≤ 424 := by
  have z : opSz noOp ≤ 424 := by decide
  unfold reqP pickR
  simp only
  split
  · exact takeOpP_szC _ _
  · exact z
theorem itemsP_sz (c : Bool) (s : Rd) : ∀ k, ∀ x ∈ (itemsP c k s).1, opSz x.op ≤ 424
  | 0 => by simp [itemsP]
  | k + 1 => by
    intro x hx
    simp only [itemsP, List.mem_append, List.mem_singleton] at hx
    rcases hx with hx | rfl
    · exact itemsP_sz c s k x hx
    · exact reqP_sz c _
theorem batchP_sz (c : Bool) (s : Rd) : (∀ x ∈ (batchP c s).1, opSz x.op ≤ 424) ∧ (batchP c s).1.length ≤ 4 := by
  have h4 := numP_le c 4 s
  have hl := itemsP_len c (numP c 4 s).2 (numP c 4 s).1
  unfold batchP
  simp only
  split
  · exact ⟨itemsP_sz c _ _, by omega⟩
  · simp
theorem reqP_ok {c : Bool} {b : List UInt8} (h : (reqP c b).2 = 0) : checkReqF (reqP c b).1 = 0 ∧ b = reqB (reqP c b).1 := by
  unfold reqP at h ⊢
  simp only at h ⊢
  obtain ⟨k, hk⟩ : ∃ k, numP c 7 ⟨b, 0⟩ = k := ⟨_, rfl⟩
  have k1 := numP_le c 7 ⟨b, 0⟩
  have kok := @numP_ok c 7 ⟨b, 0⟩
  rw [hk] at h k1 kok ⊢
  obtain ⟨t, ht⟩ : ∃ t, numP c 9007199254740992 k.2 = t := ⟨_, rfl⟩
  have t1 := numP_le c 9007199254740992 k.2
  have tok := @numP_ok c 9007199254740992 k.2
  rw [ht] at h t1 tok ⊢
  obtain ⟨o, ho⟩ : ∃ o, takeOpP c nameF t.2 = o := ⟨_, rfl⟩
  have ook := @takeOpP_ok c nameF t.2
  rw [ho] at h ook ⊢
  rw [pickR, if_pos h]
  have h2 : doneE o.2 = 0 ∧ t.1 ≠ 0 := by
    unfold lateE at h
    split at h
    · cases h
    · rename_i hn
      exact ⟨h, fun e => hn ⟨h, e⟩⟩
  have h3 : o.2.e = 0 ∧ o.2.b = [] := by
    have := h2.1
    unfold doneE at this
    split at this
    · cases this
    · rename_i hn
      refine ⟨this, ?_⟩
      cases hb : o.2.b with
      | nil => rfl
      | cons x r => exact absurd ⟨this, by rw [hb]; simp⟩ hn
  obtain ⟨e1, e2, e3⟩ := ook h3.1
  obtain ⟨f1, f2⟩ := tok e1
  obtain ⟨g1, g2⟩ := kok f1
  rw [h3.2, List.append_nil] at e3
  have ht0 := h2.2
  refine ⟨?_, ?_⟩
  · unfold checkReqF
    rw [if_neg (by simp only; omega)]
    exact e2
  · simp only [reqB, Int.toNat_natCast]
    rw [← e3, ← f2]
    exact g2
theorem reqP_put (c : Bool) {x : TSigned} (h : checkReqF x = 0) : reqP c (reqB x) = (⟨x.client, x.time, x.op, 0, 0⟩, 0) := by
  obtain ⟨c0, c8, t1, t2, ho⟩ := req_ok h
  have a := numP_put c (m := 7) (n := x.client.toNat) (by omega) (by omega) (numB x.time.toNat ++ opB x.op)
  have b := numP_put c (m := 9007199254740992) (n := x.time.toNat) (by omega) (by omega) (opB x.op)
  have d := takeOpP_put c ho []
  rw [List.append_nil] at d
  unfold reqP
  have e1 : doneE ⟨[], 0⟩ = 0 := rfl
  have e2 : lateE 0 x.time.toNat = 0 := by unfold lateE; rw [if_neg (by omega)]
  simp only [reqB, a, b, d, e1, e2, pickR, if_true]
  rw [show ((x.client.toNat : Nat) : Int) = x.client by omega, show ((x.time.toNat : Nat) : Int) = x.time by omega]
theorem signP_ok {c : Bool} {s : Rd} (h : (signP c s).2.e = 0) : s.e = 0 ∧ checkSignF (signP c s).1.1 (signP c s).1.2 = 0 ∧ s.b = signB (signP c s).1.1 (signP c s).1.2 ++ (signP c s).2.b := by
  unfold signP at h ⊢
  simp only at h ⊢
  obtain ⟨k, hk⟩ : ∃ k, numP c 20 s = k := ⟨_, rfl⟩
  have k1 := numP_le c 20 s
  have kok := @numP_ok c 20 s
  rw [hk] at h k1 kok ⊢
  obtain ⟨t, ht⟩ : ∃ t, numP c 9007199254740992 k.2 = t := ⟨_, rfl⟩
  have t1 := numP_le c 9007199254740992 k.2
  have tok := @numP_ok c 9007199254740992 k.2
  rw [ht] at h t1 tok ⊢
  have h2 : ¬ (t.2.e = 0 ∧ t.1 = 0) := fun hn => by
    rw [signZ, if_pos hn] at h
    exact fail_ne hn.1 (by decide) h
  rw [signZ, if_neg h2] at h ⊢
  rw [if_pos h]
  obtain ⟨f1, f2⟩ := tok h
  obtain ⟨g1, g2⟩ := kok f1
  have ht0 : t.1 ≠ 0 := fun e => h2 ⟨h, e⟩
  refine ⟨g1, ?_, ?_⟩
  · unfold checkSignF; rw [if_neg (by simp only; omega)]
  · simp only [signB, Int.toNat_natCast, List.append_assoc]
    rw [← f2]; exact g2
theorem signP_put (c : Bool) {k d : Int} (h : checkSignF k d = 0) (r : List UInt8) : signP c ⟨signB k d ++ r, 0⟩ = ((k.toNat, d.toNat), ⟨r, 0⟩) := by
  obtain ⟨k0, k1, d0, d1⟩ := sign_ok h
  have a := numP_put c (m := 20) (n := k.toNat) (by omega) (by omega) (numB d.toNat ++ r)
  have b := numP_put c (m := 9007199254740992) (n := d.toNat) (by omega) (by omega) r
  unfold signP
  have e : signZ c (d.toNat, ⟨r, 0⟩) = ⟨r, 0⟩ := by unfold signZ; rw [if_neg (by simp only; omega)]
  simp only [signB, List.append_assoc, a, b, e, if_true]
theorem oneP_ok {c : Bool} {s : Rd} (h : (oneP c s).2.e = 0) : s.e = 0 ∧ checkReqF (oneP c s).1 = 0 ∧ checkSignF (oneP c s).1.key (oneP c s).1.dig = 0 ∧ s.b = oneB (oneP c s).1 ++ (oneP c s).2.b := by
  unfold oneP at h ⊢
  simp only at h ⊢
  obtain ⟨g1, g2, g3⟩ := signP_ok h
  have hx : (reqP c (bytesP c 1024 s).1).2 = 0 ∧ (bytesP c 1024 s).2.e = 0 := by
    rw [Rd.fail] at g1
    split at g1
    · rename_i hn; exact absurd g1 hn.2
    · rename_i hn
      refine ⟨?_, g1⟩
      rcases Classical.em ((reqP c (bytesP c 1024 s).1).2 = 0) with e | e
      · exact e
      · exact absurd ⟨g1, e⟩ hn
  rw [show (bytesP c 1024 s).2.fail c (reqP c (bytesP c 1024 s).1).2 = (bytesP c 1024 s).2 from by rw [Rd.fail, if_neg (fun h => h.2 hx.1)]] at *
  obtain ⟨b1, b2⟩ := bytesP_ok hx.2
  obtain ⟨r1, r2⟩ := reqP_ok hx.1
  refine ⟨b1, r1, g2, ?_⟩
  rw [b2, g3]
  conv => lhs; rw [r2]
  simp [oneB, reqB]
theorem reqB_1024 {x : TSigned} (h : checkReqF x = 0) : (reqB x).length ≤ 1024 := by
  have ho := (req_ok h).2.2.2.2
  have hp := takeOpP_put false ho []
  have hs := takeOpP_szC false ⟨opB x.op ++ [], 0⟩
  rw [hp] at hs
  simp only at hs
  have := reqB_len (x := x) (by omega) h
  omega
theorem oneP_put (c : Bool) {x : TSigned} (h1 : checkReqF x = 0) (h2 : checkSignF x.key x.dig = 0) (r : List UInt8) : oneP c ⟨oneB x ++ r, 0⟩ = (x, ⟨r, 0⟩) := by
  have hl := reqB_1024 h1
  have a := bytesP_put c (m := 1024) (x := reqB x) hl (by omega) (signB x.key x.dig ++ r)
  have b := signP_put c h2 r
  have d := reqP_put c h1
  have e : (Rd.mk (signB x.key x.dig ++ r) 0).fail c 0 = ⟨signB x.key x.dig ++ r, 0⟩ := by simp [Rd.fail]
  obtain ⟨k0, k1, d0, d1⟩ := sign_ok h2
  unfold oneP
  simp only [oneB, List.append_assoc, a, d, e, b]
  rw [show ((x.key.toNat : Nat) : Int) = x.key by omega, show ((x.dig.toNat : Nat) : Int) = x.dig by omega]
theorem itemsP_put (c : Bool) {l : List TSigned} (h : ∀ x ∈ l, checkReqF x = 0 ∧ checkSignF x.key x.dig = 0) (r : List UInt8) : ∀ k, k ≤ l.length → itemsP c k ⟨batchBs l ++ r, 0⟩ = (l.take k, ⟨batchBs (l.drop k) ++ r, 0⟩)
  | 0, _ => by simp [itemsP]
  | k + 1, hk => by
    have ih := itemsP_put c h r k (by omega)
    have hx : l[k]? = some (l[k]'(by omega)) := List.getElem?_eq_getElem _
    have hm := h _ (List.getElem_mem (show k < l.length by omega))
    have hd : l.drop k = l[k] :: l.drop (k + 1) := List.drop_eq_getElem_cons (by omega)
    have he : batchBs (l.drop k) ++ r = oneB l[k] ++ (batchBs (l.drop (k + 1)) ++ r) := by
      unfold batchBs; rw [hd, List.map_cons, List.flatten_cons, List.append_assoc]
    have ho := oneP_put c hm.1 hm.2 (batchBs (l.drop (k + 1)) ++ r)
    simp only [itemsP, ih, he, ho]
    rw [List.take_add_one, hx]; rfl
theorem batchP_put (c : Bool) {l : List TSigned} (h : checkBatchF l = 0) (r : List UInt8) : batchP c ⟨batchB l ++ r, 0⟩ = (l, ⟨r, 0⟩) := by
  obtain ⟨h4, hm, _⟩ := batch_ok h
  have a := numP_put c (m := 4) (n := l.length) h4 (by omega) (batchBs l ++ r)
  have b := itemsP_put c hm r l.length (Nat.le_refl _)
  rw [List.take_length, List.drop_length] at b
  have e : (Rd.mk (batchBs [] ++ r) 0).fail c 0 = ⟨r, 0⟩ := by simp [Rd.fail, batchBs]
  unfold batchP
  simp only [batchB, List.append_assoc, a, b, h, e, if_true]
theorem itemsP_ok {c : Bool} {s : Rd} : ∀ {k : Nat}, (itemsP c k s).2.e = 0 → s.e = 0 ∧ (∀ x ∈ (itemsP c k s).1, checkReqF x = 0 ∧ checkSignF x.key x.dig = 0) ∧ s.b = batchBs (itemsP c k s).1 ++ (itemsP c k s).2.b
  | 0, h => ⟨h, by simp [itemsP], by simp [itemsP, batchBs]⟩
  | k + 1, h => by
    obtain ⟨e1, e2, e3, e4⟩ := oneP_ok (s := (itemsP c k s).2) h
    obtain ⟨f1, f2, f3⟩ := itemsP_ok e1
    refine ⟨f1, fun x hx => ?_, ?_⟩
    · simp only [itemsP, List.mem_append, List.mem_singleton] at hx
      rcases hx with hx | rfl
      · exact f2 x hx
      · exact ⟨e2, e3⟩
    · rw [f3, e4]
      simp [itemsP, batchBs]
theorem batchP_ok {c : Bool} {s : Rd} (h : (batchP c s).2.e = 0) : s.e = 0 ∧ checkBatchF (batchP c s).1 = 0 ∧ s.b = batchB (batchP c s).1 ++ (batchP c s).2.b := by
  unfold batchP at h ⊢
  simp only at h ⊢
  rw [if_pos h]
  have hx : checkBatchF (itemsP c (numP c 4 s).1 (numP c 4 s).2).1 = 0 ∧ (itemsP c (numP c 4 s).1 (numP c 4 s).2).2.e = 0 := by
    rw [Rd.fail] at h
    split at h
    · rename_i hn; exact absurd h hn.2
    · rename_i hn
      refine ⟨?_, h⟩
      rcases Classical.em (checkBatchF (itemsP c (numP c 4 s).1 (numP c 4 s).2).1 = 0) with e | e
      · exact e
      · exact absurd ⟨h, e⟩ hn
  rw [show (itemsP c (numP c 4 s).1 (numP c 4 s).2).2.fail c (checkBatchF (itemsP c (numP c 4 s).1 (numP c 4 s).2).1) = (itemsP c (numP c 4 s).1 (numP c 4 s).2).2 from by rw [Rd.fail, if_neg (fun h => h.2 hx.1)]]
  obtain ⟨e1, e2, e3⟩ := itemsP_ok hx.2
  obtain ⟨f1, f2⟩ := numP_ok e1
  refine ⟨f1, hx.1, ?_⟩
  rw [f2, e3]
  simp only [batchB, itemsP_len, List.append_assoc]
end Go.AW

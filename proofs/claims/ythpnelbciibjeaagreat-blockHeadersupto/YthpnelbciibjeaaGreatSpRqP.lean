/- Requests, signatures and batches, as they are read. No program in sight. -/
import Derived.Test.YthpnelbciibjeaaGreatSpUtf
import Derived.Test.YthpnelbciibjeaaGreatSpTake
set_option linter.all false
set_option linter.unusedSimpArgs false
set_option linter.unusedVariables false
namespace Go.AW

def nilRq : zk := ⟨0, 0, noOp, 0, 0⟩
def ziu (s : Rd) : Int := if s.e = 0 ∧ 0 < s.b.length then 12 else s.e
def lateE (e : Int) (t : Nat) : Int := if e = 0 ∧ t = 0 then 80 else e
def pickR (f : Int) (x : zk) : zk := if f = 0 then x else nilRq
def signZ (c : Bool) (d : Nat × Rd) : Rd := if d.2.e = 0 ∧ d.1 = 0 then d.2.fail c 81 else d.2
def reqP (c : Bool) (b : List UInt8) : zk × Int :=
  let k := zco c 7 ⟨b, 0⟩
  let t := zco c 9007199254740992 k.2
  let o := zld c zcS t.2
  let f := lateE (ziu o.2) t.1
  (pickR f ⟨k.1, t.1, o.1, 0, 0⟩, f)
def signP (c : Bool) (s : Rd) : (Nat × Nat) × Rd :=
  let k := zco c 20 s
  let d := zco c 9007199254740992 k.2
  let z := signZ c d
  (if z.e = 0 then (k.1, d.1) else (0, 0), z)
def oneP (c : Bool) (s : Rd) : zk × Rd :=
  let b := zgY c 1024 s
  let x := reqP c b.1
  let g := signP c (b.2.fail c x.2)
  (⟨x.1.client, x.1.time, x.1.op, g.1.1, g.1.2⟩, g.2)
def zju (c : Bool) : Nat → Rd → List zk × Rd
  | 0, s => ([], s)
  | k + 1, s => ((zju c k s).1 ++ [(oneP c (zju c k s).2).1], (oneP c (zju c k s).2).2)
def batchP (c : Bool) (s : Rd) : List zk × Rd :=
  let n := zco c 4 s
  let p := zju c n.1 n.2
  let z := p.2.fail c (zI p.1)
  (if z.e = 0 then p.1 else [], z)

theorem Rd.like.refl (s : Rd) : s.like s := ⟨rfl, fun _ => rfl⟩
theorem done_like {s t : Rd} (h : s.like t) : ziu s = ziu t := by
  unfold ziu
  obtain ⟨h1, h2⟩ := h
  by_cases h0 : s.e = 0
  · rw [h2 h0, h1]
  · rw [if_neg (fun g => h0 g.1), if_neg (fun g => h0 (h1 ▸ g.1)), h1]
theorem reqP_like (c d : Bool) (b : List UInt8) : reqP c b = reqP d b := by
  obtain ⟨k1, k2⟩ := (Rd.like.refl ⟨b, 0⟩).num (c := c) (d := d) (m := 7)
  obtain ⟨t1, t2⟩ := k2.num (c := c) (d := d) (m := 9007199254740992)
  obtain ⟨o1, o2⟩ := t2.takeOp (c := c) (d := d) (name := zcS)
  have e := done_like o2
  unfold reqP
  simp only
  rw [e, t1, k1, o1]
theorem Rd.like.sign {s t : Rd} {c d : Bool} (h : s.like t) : (signP c s).1 = (signP d t).1 ∧ (signP c s).2.like (signP d t).2 := by
  obtain ⟨k1, k2⟩ := h.num (c := c) (d := d) (m := 20)
  obtain ⟨t1, t2⟩ := k2.num (c := c) (d := d) (m := 9007199254740992)
  have z := t2.fail (c := c) (d := d) (x := 81)
  have hz : (signZ c (zco c 9007199254740992 (zco c 20 s).2)).like (signZ d (zco d 9007199254740992 (zco d 20 t).2)) := by
    unfold signZ
    rw [← t1, ← t2.1]
    split
    · exact z
    · exact t2
  unfold signP
  simp only
  rw [← k1, ← t1, ← hz.1]
  exact ⟨rfl, hz⟩
theorem Rd.like.one {s t : Rd} {c d : Bool} (h : s.like t) : (oneP c s).1 = (oneP d t).1 ∧ (oneP c s).2.like (oneP d t).2 := by
  obtain ⟨b1, b2⟩ := h.bytes (c := c) (d := d) (m := 1024)
  have e := reqP_like c d (zgY c 1024 s).1
  have f := b2.fail (c := c) (d := d) (x := (reqP c (zgY c 1024 s).1).2)
  obtain ⟨g1, g2⟩ := f.sign (c := c) (d := d)
  unfold oneP
  simp only
  rw [← b1, ← e, ← g1]
  exact ⟨rfl, g2⟩
theorem Rd.like.items {s t : Rd} {c d : Bool} (h : s.like t) : ∀ k, (zju c k s).1 = (zju d k t).1 ∧ (zju c k s).2.like (zju d k t).2
  | 0 => ⟨rfl, h⟩
  | k + 1 => by
    obtain ⟨a, b⟩ := Rd.like.items h (c := c) (d := d) k
    obtain ⟨e1, e2⟩ := b.one (c := c) (d := d)
    exact ⟨by simp only [zju, a, e1], e2⟩
theorem Rd.like.batch {s t : Rd} {c d : Bool} (h : s.like t) : (batchP c s).1 = (batchP d t).1 ∧ (batchP c s).2.like (batchP d t).2 := by
  obtain ⟨n1, n2⟩ := h.num (c := c) (d := d) (m := 4)
  obtain ⟨p1, p2⟩ := n2.items (c := c) (d := d) (zco c 4 s).1
  have z := p2.fail (c := c) (d := d) (x := zI (zju c (zco c 4 s).1 (zco c 4 s).2).1)
  unfold batchP
  simp only
  rw [← n1, ← p1, ← z.1]
  exact ⟨rfl, z⟩

/-! a reader that is stuck zkf -/

structure GSt where
  above : List UInt8
  G : List (List UInt8 × Int)
  s : Rd
def toldQ (e : Nat) : Bool := e = 0 ∨ e = 4 ∨ e = 5 ∨ e = 6 ∨ e = 71 ∨ e = 72 ∨ e = 60 ∨ e = 61 ∨ e = 62
structure TSt where
  above : List UInt8
  X : List zak
  s : Rd
structure LSt where
  l : List (Int × Int × Int)
  s : Rd

structure GrpOk (next k : Nat) (s : Rd) (g : GSt) : Prop where
  e : s.e = 0
  b : s.b = zev g.G ++ g.s.b
  len : g.G.length = k
  srt : zgd Prod.fst g.G
  each : ∀ a ∈ g.G, zcS a.1 = true ∧ a.1.length ≤ 64 ∧ 0 ≤ a.2 ∧ a.2 ≤ next
  abv : ∀ a ∈ g.G, a.1 = g.above ∨ ltN a.1 g.above
structure TopW (x : zak) : Prop where
  base : 0 ≤ x.base
  next : x.next ≤ 9007199254740992
  recs : x.recs.length ≤ 64
  each : ∀ r ∈ x.recs, r.length ≤ 64
  groups : x.groups.length ≤ 8
  srt : zgd Prod.fst x.groups
  gs : ∀ a ∈ x.groups, zcS a.1 = true ∧ a.1.length ≤ 64 ∧ 0 ≤ a.2 ∧ a.2 ≤ x.next
def restB (x : zak) : List UInt8 := zbs x.base.toNat ++ (zbs x.recs.length ++ (zeU x.recs ++ (zbs x.groups.length ++ zev x.groups)))
structure AnsW (a : Int × Int × Int) : Prop where
  t : 0 ≤ a.1 ∧ a.1 ≤ 9007199254740992
  e : 0 ≤ a.2.1 ∧ toldQ a.2.1.toNat = true
  o : 0 ≤ a.2.2 ∧ a.2.2 ≤ 9007199254740992
  z : a.2.1 = 0 ∨ a.2.2 = 0
  n : a.1 = 0 → a.2.1 = 0 ∧ a.2.2 = 0
structure TopOk (k : Nat) (s : Rd) (g : TSt) : Prop where
  e : s.e = 0
  b : s.b = zjn g.X ++ g.s.b
  len : g.X.length = k
  srt : zgd zak.name g.X
  each : ∀ x ∈ g.X, zcS x.name = true ∧ x.name.length ≤ 64 ∧ TopW x
  abv : ∀ x ∈ g.X, x.name = g.above ∨ ltN x.name g.above
structure LstOk (k : Nat) (s : Rd) (g : LSt) : Prop where
  e : s.e = 0
  b : s.b = zgM g.l ++ g.s.b
  len : g.l.length = k
  each : ∀ a ∈ g.l, AnsW a
structure TopsW (T : zaz) : Prop where
  len : T.l.length ≤ 8
  srt : zgd zak.name T.l
  each : ∀ x ∈ T.l, zcS x.name = true ∧ x.name.length ≤ 64 ∧ TopW x
  last : T.last.length = 8
  ans : ∀ a ∈ T.last, AnsW a

def hdrQ (c : Bool) (s : Rd) : zfs × Rd :=
  let a0 := zco c 9007199254740992 s
  let a1 := zco c 9007199254740992 a0.2
  let a2 := zco c 9007199254740992 a1.2
  let a3 := zco c 9007199254740992 a2.2
  let a4 := zco c 9007199254740992 a3.2
  (⟨a0.1, a1.1, a2.1, a3.1, a4.1⟩, a4.2)
def hdrP (c : Bool) (b : List UInt8) : zfs × Int :=
  let k := zbB c 1 ⟨b, 0⟩
  let q := hdrQ c k.2
  if ziu q.2 ≠ 0 ∨ k.1 ≠ [3] then (⟨0, 0, 0, 0, 0⟩, 90) else (q.1, 0)
theorem Rd.like.hdrQ {s t : Rd} {c d : Bool} (h : s.like t) : (Go.AW.hdrQ c s).1 = (Go.AW.hdrQ d t).1 ∧ (Go.AW.hdrQ c s).2.like (Go.AW.hdrQ d t).2 := by
  obtain ⟨a1, a2⟩ := h.num (c := c) (d := d) (m := 9007199254740992)
  obtain ⟨b1, b2⟩ := a2.num (c := c) (d := d) (m := 9007199254740992)
  obtain ⟨c1, c2⟩ := b2.num (c := c) (d := d) (m := 9007199254740992)
  obtain ⟨d1, d2⟩ := c2.num (c := c) (d := d) (m := 9007199254740992)
  obtain ⟨e1, e2⟩ := d2.num (c := c) (d := d) (m := 9007199254740992)
  unfold Go.AW.hdrQ
  simp only [a1, b1, c1, d1, e1]
  exact ⟨trivial, e2⟩
theorem hdrP_like (c d : Bool) (b : List UInt8) : hdrP c b = hdrP d b := by
  obtain ⟨k1, k2⟩ := (Rd.like.refl ⟨b, 0⟩).take (c := c) (d := d) (m := 1)
  obtain ⟨q1, q2⟩ := k2.hdrQ (c := c) (d := d)
  have e := done_like q2
  unfold hdrP
  simp only [k1, q1, e]
theorem znc {c : Bool} {m : Nat} {s : Rd} (h : (zco c m s).2.e = 0) : s.e = 0 := (numP_ok h).1
theorem hdr_first {c : Bool} {b : List UInt8} (h : ziu (hdrQ c (zbB c 1 ⟨b, 0⟩).2).2 = 0) : ∃ x, (zbB c 1 ⟨b, 0⟩).1 = [x] := by
  have he : (hdrQ c (zbB c 1 ⟨b, 0⟩).2).2.e = 0 := by
    unfold ziu at h
    split at h
    · cases h
    · exact h
  unfold hdrQ at he
  dsimp only at he
  have h0 := znc (znc (znc (znc (znc he))))
  unfold zbB at h0 ⊢
  rw [if_pos rfl] at h0 ⊢
  split
  · rename_i hl
    rw [if_pos hl] at h0
    simp [Rd.fail] at h0
  · rename_i hl
    cases b with
    | nil => simp at hl
    | cons x r => exact ⟨x, by simp⟩
end Go.AW

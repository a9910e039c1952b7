/- Requests, signatures and batches, as they are read. No program in sight. -/
import Derived.Test.YthpnelbciibjeaaGreatSpUtf
import Derived.Test.YthpnelbciibjeaaGreatSpTake
set_option linter.all false
set_option linter.unusedSimpArgs false
set_option linter.unusedVariables false
namespace Go.AW

def nilRq : zi := ⟨0, 0, noOp, 0, 0⟩
def zjP (s : Rd) : Int := if s.e = 0 ∧ 0 < s.b.length then 12 else s.e
def lateE (e : Int) (t : Nat) : Int := if e = 0 ∧ t = 0 then 80 else e
def pickR (f : Int) (x : zi) : zi := if f = 0 then x else nilRq
def signZ (c : Bool) (d : Nat × Rd) : Rd := if d.2.e = 0 ∧ d.1 = 0 then d.2.fail c 81 else d.2
def reqP (c : Bool) (b : List UInt8) : zi × Int :=
  let k := zcM c 7 ⟨b, 0⟩
  let t := zcM c 9007199254740992 k.2
  let o := zkq c zcu t.2
  let f := lateE (zjP o.2) t.1
  (pickR f ⟨k.1, t.1, o.1, 0, 0⟩, f)
def signP (c : Bool) (s : Rd) : (Nat × Nat) × Rd :=
  let k := zcM c 20 s
  let d := zcM c 9007199254740992 k.2
  let z := signZ c d
  (if z.e = 0 then (k.1, d.1) else (0, 0), z)
def oneP (c : Bool) (s : Rd) : zi × Rd :=
  let b := zgq c 1024 s
  let x := reqP c b.1
  let g := signP c (b.2.fail c x.2)
  (⟨x.1.client, x.1.time, x.1.op, g.1.1, g.1.2⟩, g.2)
def ziE (c : Bool) : Nat → Rd → List zi × Rd
  | 0, s => ([], s)
  | k + 1, s => ((ziE c k s).1 ++ [(oneP c (ziE c k s).2).1], (oneP c (ziE c k s).2).2)
def batchP (c : Bool) (s : Rd) : List zi × Rd :=
  let n := zcM c 4 s
  let p := ziE c n.1 n.2
  let z := p.2.fail c (zF p.1)
  (if z.e = 0 then p.1 else [], z)

theorem Rd.like.refl (s : Rd) : s.like s := ⟨rfl, fun _ => rfl⟩
theorem done_like {s t : Rd} (h : s.like t) : zjP s = zjP t := by
  unfold zjP
  obtain ⟨h1, h2⟩ := h
  by_cases h0 : s.e = 0
  · rw [h2 h0, h1]
  · rw [if_neg (fun g => h0 g.1), if_neg (fun g => h0 (h1 ▸ g.1)), h1]
theorem reqP_like (c d : Bool) (b : List UInt8) : reqP c b = reqP d b := by
  obtain ⟨k1, k2⟩ := (Rd.like.refl ⟨b, 0⟩).num (c := c) (d := d) (m := 7)
  obtain ⟨t1, t2⟩ := k2.num (c := c) (d := d) (m := 9007199254740992)
  obtain ⟨o1, o2⟩ := t2.takeOp (c := c) (d := d) (name := zcu)
  have e := done_like o2
  unfold reqP
  simp only
  rw [e, t1, k1, o1]
theorem Rd.like.sign {s t : Rd} {c d : Bool} (h : s.like t) : (signP c s).1 = (signP d t).1 ∧ (signP c s).2.like (signP d t).2 := by
  obtain ⟨k1, k2⟩ := h.num (c := c) (d := d) (m := 20)
  obtain ⟨t1, t2⟩ := k2.num (c := c) (d := d) (m := 9007199254740992)
  have z := t2.fail (c := c) (d := d) (x := 81)
  have hz : (signZ c (zcM c 9007199254740992 (zcM c 20 s).2)).like (signZ d (zcM d 9007199254740992 (zcM d 20 t).2)) := by
    unfold signZ
    rw [← t1, ← t2.1]
    split
    · exact z
    · exact t2
  unfold signP
  simp only
  rw [← k1, ← t1, ← hz.1]
  exact ⟨rfl, hz⟩
theorem Rd.like.one {s t : Rd} {c d : Bool} (h : s.like t) : (oneP c s).1 = (oneP d t).1 ∧ (oneP c s).2.like (oneP d t).2 := by
  obtain ⟨b1, b2⟩ := h.bytes (c := c) (d := d) (m := 1024)
  have e := reqP_like c d (zgq c 1024 s).1
  have f := b2.fail (c := c) (d := d) (x := (reqP c (zgq c 1024 s).1).2)
  obtain ⟨g1, g2⟩ := f.sign (c := c) (d := d)
  unfold oneP
  simp only
  rw [← b1, ← e, ← g1]
  exact ⟨rfl, g2⟩
theorem Rd.like.items {s t : Rd} {c d : Bool} (h : s.like t) : ∀ k, (ziE c k s).1 = (ziE d k t).1 ∧ (ziE c k s).2.like (ziE d k t).2
  | 0 => ⟨rfl, h⟩
  | k + 1 => by
    obtain ⟨a, b⟩ := Rd.like.items h (c := c) (d := d) k
    obtain ⟨e1, e2⟩ := b.one (c := c) (d := d)
    exact ⟨by simp only [ziE, a, e1], e2⟩
theorem Rd.like.batch {s t : Rd} {c d : Bool} (h : s.like t) : (batchP c s).1 = (batchP d t).1 ∧ (batchP c s).2.like (batchP d t).2 := by
  obtain ⟨n1, n2⟩ := h.num (c := c) (d := d) (m := 4)
  obtain ⟨p1, p2⟩ := n2.items (c := c) (d := d) (zcM c 4 s).1
  have z := p2.fail (c := c) (d := d) (x := zF (ziE c (zcM c 4 s).1 (zcM c 4 s).2).1)
  unfold batchP
  simp only
  rw [← n1, ← p1, ← z.1]
  exact ⟨rfl, z⟩

/-! a reader that is stuck zjp -/

structure GSt where
  above : List UInt8
  G : List (List UInt8 × Int)
  s : Rd
def toldQ (e : Nat) : Bool := e = 0 ∨ e = 4 ∨ e = 5 ∨ e = 6 ∨ e = 71 ∨ e = 72 ∨ e = 60 ∨ e = 61 ∨ e = 62
structure TSt where
  above : List UInt8
  X : List zX
  s : Rd
structure LSt where
  l : List (Int × Int × Int)
  s : Rd

structure GrpOk (next k : Nat) (s : Rd) (g : GSt) : Prop where
  e : s.e = 0
  b : s.b = zeh g.G ++ g.s.b
  len : g.G.length = k
  srt : zfG Prod.fst g.G
  each : ∀ a ∈ g.G, zcu a.1 = true ∧ a.1.length ≤ 64 ∧ 0 ≤ a.2 ∧ a.2 ≤ next
  abv : ∀ a ∈ g.G, a.1 = g.above ∨ ltN a.1 g.above
structure TopW (x : zX) : Prop where
  base : 0 ≤ x.base
  next : x.next ≤ 9007199254740992
  recs : x.recs.length ≤ 64
  each : ∀ r ∈ x.recs, r.length ≤ 64
  groups : x.groups.length ≤ 8
  srt : zfG Prod.fst x.groups
  gs : ∀ a ∈ x.groups, zcu a.1 = true ∧ a.1.length ≤ 64 ∧ 0 ≤ a.2 ∧ a.2 ≤ x.next
def restB (x : zX) : List UInt8 := zbc x.base.toNat ++ (zbc x.recs.length ++ (zeD x.recs ++ (zbc x.groups.length ++ zeh x.groups)))
structure AnsW (a : Int × Int × Int) : Prop where
  t : 0 ≤ a.1 ∧ a.1 ≤ 9007199254740992
  e : 0 ≤ a.2.1 ∧ toldQ a.2.1.toNat = true
  o : 0 ≤ a.2.2 ∧ a.2.2 ≤ 9007199254740992
  z : a.2.1 = 0 ∨ a.2.2 = 0
  n : a.1 = 0 → a.2.1 = 0 ∧ a.2.2 = 0
structure TopOk (k : Nat) (s : Rd) (g : TSt) : Prop where
  e : s.e = 0
  b : s.b = ziw g.X ++ g.s.b
  len : g.X.length = k
  srt : zfG zX.name g.X
  each : ∀ x ∈ g.X, zcu x.name = true ∧ x.name.length ≤ 64 ∧ TopW x
  abv : ∀ x ∈ g.X, x.name = g.above ∨ ltN x.name g.above
structure LstOk (k : Nat) (s : Rd) (g : LSt) : Prop where
  e : s.e = 0
  b : s.b = zgl g.l ++ g.s.b
  len : g.l.length = k
  each : ∀ a ∈ g.l, AnsW a
structure TopsW (T : zao) : Prop where
  len : T.l.length ≤ 8
  srt : zfG zX.name T.l
  each : ∀ x ∈ T.l, zcu x.name = true ∧ x.name.length ≤ 64 ∧ TopW x
  last : T.last.length = 8
  ans : ∀ a ∈ T.last, AnsW a

def hdrQ (c : Bool) (s : Rd) : zfg × Rd :=
  let a0 := zcM c 9007199254740992 s
  let a1 := zcM c 9007199254740992 a0.2
  let a2 := zcM c 9007199254740992 a1.2
  let a3 := zcM c 9007199254740992 a2.2
  let a4 := zcM c 9007199254740992 a3.2
  (⟨a0.1, a1.1, a2.1, a3.1, a4.1⟩, a4.2)
def hdrP (c : Bool) (b : List UInt8) : zfg × Int :=
  let k := zdh c 1 ⟨b, 0⟩
  let q := hdrQ c k.2
  if zjP q.2 ≠ 0 ∨ k.1 ≠ [3] then (⟨0, 0, 0, 0, 0⟩, 90) else (q.1, 0)
theorem Rd.like.hdrQ {s t : Rd} {c d : Bool} (h : s.like t) : (Go.AW.hdrQ c s).1 = (Go.AW.hdrQ d t).1 ∧ (Go.AW.hdrQ c s).2.like (Go.AW.hdrQ d t).2 := by
  obtain ⟨a1, a2⟩ := h.num (c := c) (d := d) (m := 9007199254740992)
  obtain ⟨b1, b2⟩ := a2.num (c := c) (d := d) (m := 9007199254740992)
  obtain ⟨c1, c2⟩ := b2.num (c := c) (d := d) (m := 9007199254740992)
  obtain ⟨d1, d2⟩ := c2.num (c := c) (d := d) (m := 9007199254740992)
  obtain ⟨e1, e2⟩ := d2.num (c := c) (d := d) (m := 9007199254740992)
  unfold Go.AW.hdrQ
  simp only [a1, b1, c1, d1, e1]
  exact ⟨trivial, e2⟩
theorem hdrP_like (c d : Bool) (b : List UInt8) : hdrP c b = hdrP d b := by
  obtain ⟨k1, k2⟩ := (Rd.like.refl ⟨b, 0⟩).take (c := c) (d := d) (m := 1)
  obtain ⟨q1, q2⟩ := k2.hdrQ (c := c) (d := d)
  have e := done_like q2
  unfold hdrP
  simp only [k1, q1, e]
theorem hdrP_back (c : Bool) {h : zfg} (hk : zaJ h = 0) : hdrP c (znd h) = (h, 0) := by
  have hr := zhm (zdO.1 hk)
  obtain ⟨a, b, d, e, f⟩ := h
  have ha := hr a (by simp [zmq]); have hb := hr b (by simp [zmq]); have hd := hr d (by simp [zmq]); have he := hr e (by simp [zmq]); have hf := hr f (by simp [zmq])
  have hB : znd ⟨a, b, d, e, f⟩ = 3 :: (zbc a.toNat ++ (zbc b.toNat ++ (zbc d.toNat ++ (zbc e.toNat ++ (zbc f.toNat ++ []))))) := by
    simp [znd, zmq, zkw]
  have hT : zdh c 1 ⟨znd ⟨a, b, d, e, f⟩, 0⟩ = ([3], ⟨zbc a.toNat ++ (zbc b.toNat ++ (zbc d.toNat ++ (zbc e.toNat ++ (zbc f.toNat ++ [])))), 0⟩) := by
    rw [hB]; simp [zdh]
  have hQ : hdrQ c ⟨zbc a.toNat ++ (zbc b.toNat ++ (zbc d.toNat ++ (zbc e.toNat ++ (zbc f.toNat ++ [])))), 0⟩ = (⟨a, b, d, e, f⟩, ⟨[], 0⟩) := by
    unfold hdrQ
    rw [zjy c (by omega) (by omega)]
    dsimp only
    rw [zjy c (by omega) (by omega)]
    dsimp only
    rw [zjy c (by omega) (by omega)]
    dsimp only
    rw [zjy c (by omega) (by omega)]
    dsimp only
    rw [zjy c (by omega) (by omega)]
    dsimp only
    simp only [Int.toNat_of_nonneg ha.1, Int.toNat_of_nonneg hb.1, Int.toNat_of_nonneg hd.1, Int.toNat_of_nonneg he.1, Int.toNat_of_nonneg hf.1]
  unfold hdrP
  simp only [hT, hQ]
  rw [if_neg (by simp [zjP])]
theorem hdrP_of {c : Bool} {b : List UInt8} {h : zfg} (hp : hdrP c b = (h, 0)) : zaJ h = 0 ∧ znd h = b := by
  rw [hdrP_like c false] at hp
  unfold hdrP at hp
  dsimp only at hp
  split at hp
  · cases hp
  rename_i hn
  have hn1 : zjP (hdrQ false (zdh false 1 ⟨b, 0⟩).2).2 = 0 := Decidable.byContradiction fun e => hn (.inl e)
  have hn2 : (zdh false 1 ⟨b, 0⟩).1 = [3] := Decidable.byContradiction fun e => hn (.inr e)
  have hh : (hdrQ false (zdh false 1 ⟨b, 0⟩).2).1 = h := congrArg Prod.fst hp
  obtain ⟨s, hs⟩ : ∃ s, (zdh false 1 ⟨b, 0⟩).2 = s := ⟨_, rfl⟩
  have hb : b = 3 :: s.b := by
    have hl : ¬ 1 > b.length := fun hl => by
      rw [zdh, if_pos rfl, if_pos hl] at hn2; cases hn2
    rw [zdh, if_pos rfl, if_neg hl] at hn2 hs
    rw [← hs]
    cases b with
    | nil => simp at hl
    | cons x r => simp at hn2 ⊢; exact hn2
  rw [hs] at hn1 hh
  unfold hdrQ at hn1 hh
  dsimp only at hn1 hh
  have he : ∀ z : Rd, zjP z = 0 → z.e = 0 ∧ z.b = [] := fun z hz => by
    unfold zjP at hz
    split at hz
    · cases hz
    · rename_i hc
      refine ⟨hz, ?_⟩
      cases hb : z.b with
      | nil => rfl
      | cons x r => exact absurd ⟨hz, by rw [hb]; simp⟩ hc
  obtain ⟨a0, h0⟩ : ∃ a, zcM false 9007199254740992 s = a := ⟨_, rfl⟩
  have l0 := ziQ false 9007199254740992 s
  rw [h0] at hn1 hh l0
  obtain ⟨a1, h1⟩ : ∃ a, zcM false 9007199254740992 a0.2 = a := ⟨_, rfl⟩
  have l1 := ziQ false 9007199254740992 a0.2
  rw [h1] at hn1 hh l1
  obtain ⟨a2, h2⟩ : ∃ a, zcM false 9007199254740992 a1.2 = a := ⟨_, rfl⟩
  have l2 := ziQ false 9007199254740992 a1.2
  rw [h2] at hn1 hh l2
  obtain ⟨a3, h3⟩ : ∃ a, zcM false 9007199254740992 a2.2 = a := ⟨_, rfl⟩
  have l3 := ziQ false 9007199254740992 a2.2
  rw [h3] at hn1 hh l3
  obtain ⟨a4, h4⟩ : ∃ a, zcM false 9007199254740992 a3.2 = a := ⟨_, rfl⟩
  have l4 := ziQ false 9007199254740992 a3.2
  rw [h4] at hn1 hh l4
  obtain ⟨e4, b4⟩ := he _ hn1
  have k4 := zmf (c := false) (m := 9007199254740992) (s := a3.2) (by rw [h4]; exact e4)
  rw [h4] at k4
  have k3 := zmf (c := false) (m := 9007199254740992) (s := a2.2) (by rw [h3]; exact k4.1)
  rw [h3] at k3
  have k2 := zmf (c := false) (m := 9007199254740992) (s := a1.2) (by rw [h2]; exact k3.1)
  rw [h2] at k2
  have k1 := zmf (c := false) (m := 9007199254740992) (s := a0.2) (by rw [h1]; exact k2.1)
  rw [h1] at k1
  have k0 := zmf (c := false) (m := 9007199254740992) (s := s) (by rw [h0]; exact k1.1)
  rw [h0] at k0
  refine ⟨?_, ?_⟩
  · rw [← hh]
    refine zdO.2 (List.all_eq_true.2 fun x hx => numOk_iff.2 ?_)
    simp only [zmq, List.mem_cons, List.not_mem_nil, or_false] at hx
    omega
  · rw [hb, k0.2, k1.2, k2.2, k3.2, k4.2, b4, ← hh]
    simp [znd, zmq, zkw]
end Go.AW

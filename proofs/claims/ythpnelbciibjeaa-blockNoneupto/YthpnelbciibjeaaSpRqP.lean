/- Requests, signatures and batches, as they are read. No program in sight. -/
import Derived.Test.YthpnelbciibjeaaSpUtf
import Derived.Test.YthpnelbciibjeaaSpTake
import Derived.Test.YthpnelbciibjeaaBk1
import Derived.Test.YthpnelbciibjeaaSh
import Derived.Shelf.SlMaps.Clone
import Derived.Ground.SlmcProg
import Derived.Test.YthpnelbciibjeaaAwRun
import Derived.Test.YthpnelbciibjeaaAwSndR
import Derived.Test.YthpnelbciibjeaaKs2
set_option linter.all false
set_option linter.unusedSimpArgs false
set_option linter.unusedVariables false
namespace Go.AW

def nilRq : zh := ⟨0, 0, noOp, 0, 0⟩
def doneE (s : Rd) : Int := if s.e = 0 ∧ 0 < s.b.length then 12 else s.e
def lateE (e : Int) (t : Nat) : Int := if e = 0 ∧ t = 0 then 80 else e
def pickR (f : Int) (x : zh) : zh := if f = 0 then x else nilRq
def signZ (c : Bool) (d : Nat × Rd) : Rd := if d.2.e = 0 ∧ d.1 = 0 then d.2.fail c 81 else d.2
def reqP (c : Bool) (b : List UInt8) : zh × Int :=
  let k := zjM c 7 ⟨b, 0⟩
  let t := zjM c 9007199254740992 k.2
  let o := zjR c zcs t.2
  let f := lateE (doneE o.2) t.1
  (pickR f ⟨k.1, t.1, o.1, 0, 0⟩, f)
def signP (c : Bool) (s : Rd) : (Nat × Nat) × Rd :=
  let k := zjM c 20 s
  let d := zjM c 9007199254740992 k.2
  let z := signZ c d
  (if z.e = 0 then (k.1, d.1) else (0, 0), z)
def oneP (c : Bool) (s : Rd) : zh × Rd :=
  let b := zge c 1024 s
  let x := reqP c b.1
  let g := signP c (b.2.fail c x.2)
  (⟨x.1.client, x.1.time, x.1.op, g.1.1, g.1.2⟩, g.2)
def zik (c : Bool) : Nat → Rd → List zh × Rd
  | 0, s => ([], s)
  | k + 1, s => ((zik c k s).1 ++ [(oneP c (zik c k s).2).1], (oneP c (zik c k s).2).2)
def batchP (c : Bool) (s : Rd) : List zh × Rd :=
  let n := zjM c 4 s
  let p := zik c n.1 n.2
  let z := p.2.fail c (zC p.1)
  (if z.e = 0 then p.1 else [], z)

theorem Rd.like.refl (s : Rd) : s.like s := ⟨rfl, fun _ => rfl⟩
theorem done_like {s t : Rd} (h : s.like t) : doneE s = doneE t := by
  unfold doneE
  obtain ⟨h1, h2⟩ := h
  by_cases h0 : s.e = 0
  · rw [h2 h0, h1]
  · rw [if_neg (fun g => h0 g.1), if_neg (fun g => h0 (h1 ▸ g.1)), h1]
theorem reqP_like (c d : Bool) (b : List UInt8) : reqP c b = reqP d b := by
  obtain ⟨k1, k2⟩ := (Rd.like.refl ⟨b, 0⟩).num (c := c) (d := d) (m := 7)
  obtain ⟨t1, t2⟩ := k2.num (c := c) (d := d) (m := 9007199254740992)
  obtain ⟨o1, o2⟩ := t2.takeOp (c := c) (d := d) (name := zcs)
  have e := done_like o2
  unfold reqP
  simp only
  rw [e, t1, k1, o1]
theorem Rd.like.sign {s t : Rd} {c d : Bool} (h : s.like t) : (signP c s).1 = (signP d t).1 ∧ (signP c s).2.like (signP d t).2 := by
  obtain ⟨k1, k2⟩ := h.num (c := c) (d := d) (m := 20)
  obtain ⟨t1, t2⟩ := k2.num (c := c) (d := d) (m := 9007199254740992)
  have z := t2.fail (c := c) (d := d) (x := 81)
  have hz : (signZ c (zjM c 9007199254740992 (zjM c 20 s).2)).like (signZ d (zjM d 9007199254740992 (zjM d 20 t).2)) := by
    unfold signZ
    rw [← t1, ← t2.1]
    split
    · exact z
    · exact t2
  unfold signP
  simp only
  rw [← k1, ← t1, ← hz.1]
  exact ⟨rfl, hz⟩
theorem Rd.like.one {s t : Rd} {c d : Bool} (h : s.like t) : (oneP c s).1 = (oneP d t).1 ∧ (oneP c s).2.like (oneP d t).2 := by
  obtain ⟨b1, b2⟩ := h.bytes (c := c) (d := d) (m := 1024)
  have e := reqP_like c d (zge c 1024 s).1
  have f := b2.fail (c := c) (d := d) (x := (reqP c (zge c 1024 s).1).2)
  obtain ⟨g1, g2⟩ := f.sign (c := c) (d := d)
  unfold oneP
  simp only
  rw [← b1, ← e, ← g1]
  exact ⟨rfl, g2⟩
theorem Rd.like.items {s t : Rd} {c d : Bool} (h : s.like t) : ∀ k, (zik c k s).1 = (zik d k t).1 ∧ (zik c k s).2.like (zik d k t).2
  | 0 => ⟨rfl, h⟩
  | k + 1 => by
    obtain ⟨a, b⟩ := Rd.like.items h (c := c) (d := d) k
    obtain ⟨e1, e2⟩ := b.one (c := c) (d := d)
    exact ⟨by simp only [zik, a, e1], e2⟩
theorem Rd.like.batch {s t : Rd} {c d : Bool} (h : s.like t) : (batchP c s).1 = (batchP d t).1 ∧ (batchP c s).2.like (batchP d t).2 := by
  obtain ⟨n1, n2⟩ := h.num (c := c) (d := d) (m := 4)
  obtain ⟨p1, p2⟩ := n2.items (c := c) (d := d) (zjM c 4 s).1
  have z := p2.fail (c := c) (d := d) (x := zC (zik c (zjM c 4 s).1 (zjM c 4 s).2).1)
  unfold batchP
  simp only
  rw [← n1, ← p1, ← z.1]
  exact ⟨rfl, z⟩

/-! a reader that is stuck zja -/

structure GSt where
  above : List UInt8
  G : List (List UInt8 × Int)
  s : Rd
def toldQ (e : Nat) : Bool := e = 0 ∨ e = 4 ∨ e = 5 ∨ e = 6 ∨ e = 71 ∨ e = 72 ∨ e = 60 ∨ e = 61 ∨ e = 62
structure TSt where
  above : List UInt8
  X : List zX
  s : Rd
structure LSt where
  l : List (Int × Int × Int)
  s : Rd

structure GrpOk (next k : Nat) (s : Rd) (g : GSt) : Prop where
  e : s.e = 0
  b : s.b = zeh g.G ++ g.s.b
  len : g.G.length = k
  srt : zfw Prod.fst g.G
  each : ∀ a ∈ g.G, zcs a.1 = true ∧ a.1.length ≤ 64 ∧ 0 ≤ a.2 ∧ a.2 ≤ next
  abv : ∀ a ∈ g.G, a.1 = g.above ∨ ltN a.1 g.above
structure TopW (x : zX) : Prop where
  base : 0 ≤ x.base
  next : x.next ≤ 9007199254740992
  recs : x.recs.length ≤ 64
  each : ∀ r ∈ x.recs, r.length ≤ 64
  groups : x.groups.length ≤ 8
  srt : zfw Prod.fst x.groups
  gs : ∀ a ∈ x.groups, zcs a.1 = true ∧ a.1.length ≤ 64 ∧ 0 ≤ a.2 ∧ a.2 ≤ x.next
def restB (x : zX) : List UInt8 := zbB x.base.toNat ++ (zbB x.recs.length ++ (zeC x.recs ++ (zbB x.groups.length ++ zeh x.groups)))
structure AnsW (a : Int × Int × Int) : Prop where
  t : 0 ≤ a.1 ∧ a.1 ≤ 9007199254740992
  e : 0 ≤ a.2.1 ∧ toldQ a.2.1.toNat = true
  o : 0 ≤ a.2.2 ∧ a.2.2 ≤ 9007199254740992
  z : a.2.1 = 0 ∨ a.2.2 = 0
  n : a.1 = 0 → a.2.1 = 0 ∧ a.2.2 = 0
structure TopOk (k : Nat) (s : Rd) (g : TSt) : Prop where
  e : s.e = 0
  b : s.b = zib g.X ++ g.s.b
  len : g.X.length = k
  srt : zfw zX.name g.X
  each : ∀ x ∈ g.X, zcs x.name = true ∧ x.name.length ≤ 64 ∧ TopW x
  abv : ∀ x ∈ g.X, x.name = g.above ∨ ltN x.name g.above
structure LstOk (k : Nat) (s : Rd) (g : LSt) : Prop where
  e : s.e = 0
  b : s.b = zfX g.l ++ g.s.b
  len : g.l.length = k
  each : ∀ a ∈ g.l, AnsW a
structure TopsW (T : zaq) : Prop where
  len : T.l.length ≤ 8
  srt : zfw zX.name T.l
  each : ∀ x ∈ T.l, zcs x.name = true ∧ x.name.length ≤ 64 ∧ TopW x
  last : T.last.length = 8
  ans : ∀ a ∈ T.last, AnsW a

end Go.AW

/- Contracts: headers are read from bytes. -/
set_option maxRecDepth 100000
set_option linter.unusedSimpArgs false
set_option linter.unusedVariables false
namespace Go.Proofs.Ythpnelbciibjeaa
open Go.AW

theorem take_all {σ S : List zc} (h : ∀ (j : Nat) (x : zc), σ[j]? = some x → S[j]? = some x) : S.take σ.length = σ := by
  apply List.ext_getElem?
  intro i
  rw [List.getElem?_take]
  split
  · rename_i hi
    rw [h i _ (List.getElem?_eq_getElem hi), List.getElem?_eq_getElem hi]
  · rw [List.getElem?_eq_none (by omega)]
theorem ends_takeN {σ S : List zc} {K : AV → List zc → Prop} {l : List AV} (h : S.take σ.length = σ) (h1 : Low σ.length (dmT (zdg l))) (hl : zfx σ.length σ) (hK : K (dmT (zdg l)) σ) : AW.Ends σ.length K (some l) S := by
  unfold AW.Ends
  rw [h]
  exact ⟨h1, hl, hK⟩
section

variable {σ : List zc} {K : AV → List zc → Prop}

end

open Go.Shelf Go.Proofs
def cloneM_ren : Go.Shelf.Ren := ⟨fun | 5 => 33 | 7 => 49 | n => n, fun | 23 => 94 | 25 => 9 | 3 => 2 | 4 => 4 | 20 => 20 | n => n, fun | n => n⟩
theorem cloneM : Go.Proofs.SlLaysW.n5 Try.prog cloneM_ren := {
  mixed := by kernel_rfl
  f5 := ⟨Try.f33.name, by decide, Try.func33.trans (congrArg some (by kernel_rfl))⟩
  f7 := Try.func49.trans (congrArg some (by kernel_rfl))
  t4 := Try.underlying4
  a4 := Try.isAgg4
  z4 := Try.sizeOf4
  v4 := Try.zeroValue4
  t20 := Try.underlying20
  a20 := Try.isAgg20
  z20 := Try.sizeOf20
  v20 := Try.zeroValue20
  t23 := Try.underlying94
  a23 := Try.isAgg94
  z23 := Try.sizeOf94
  v23 := Try.zeroValue94 }
end Go.Proofs.Ythpnelbciibjeaa

/- A MAP IS CLONED: the kit's contract of maps.Clone, told in the own logic. -/
set_option linter.unusedSimpArgs false
set_option linter.unusedVariables false
namespace Go.AW

def CloneC (P : Program) (f : FuncId) : Prop := ∀ (b : Nat) (es : Array MapEntry) (clock : Nat) (w : World), w.heap[b]? = some (.map es clock) →
  Calls P f #[.map (some b)] w fun e w' => e = .returned (.map (some w.heap.size)) ∧ w' = w.alloc (.map es clock)
theorem zmD {P : Program} {f : FuncId} (hok : zkC P f = true) (hc : CloneC P f) {σ : List zc} {id : Nat} {es : List (AV × AV)} (hσ : σ[id]? = some (.map es)) {K : AV → List zc → Prop}
    (hK : K (.map σ.length) (σ ++ [.map es])) : zj P f [.map id] σ K := by
  refine ⟨hok, fun L w vs S hv => ?_⟩
  obtain ⟨hv1, hv2⟩ := hv
  obtain ⟨v, rfl⟩ : ∃ v, vs = [v] := by
    match vs, hv1 with
    | [v], _ => exact ⟨v, rfl⟩
  have hv3 := hv2 0 _ _ rfl rfl
  obtain ⟨rfl, _⟩ := hv3.map_inv
  obtain ⟨ms, clock, h1, h2, h3, h4⟩ := map_block' S hσ
  refine (hc _ ms clock w h1).mono ?_
  rintro e w' ⟨rfl, rfl⟩
  have hf : ∀ b c, zbI { a := ⟨w.heap.size, 0, none⟩ } (.map es) b c → b = w.heap.size := fun b c h => h
  have st := zbp L σ (.map ms clock) { a := ⟨w.heap.size, 0, none⟩ } (.map es) hf
  have S' := zcf S (.map ms clock) { a := ⟨w.heap.size, 0, none⟩ } (.map es) hf ⟨ms, clock, by
    show (w.heap.push _)[w.heap.size]? = _
    simp, by simpa using h2, fun j e m he hm => (h3 j e m he (by simpa using hm)).mono st, h4⟩
  refine ⟨_, _, .map σ.length, st, S', ?_, hK⟩
  have := RV.map (w := w.alloc (.map ms clock)) (L := zeO L σ.length { a := ⟨w.heap.size, 0, none⟩ }) (σ := σ ++ [.map es]) σ.length ⟨.map es, by simp, by simp [zc.kind]⟩
  rw [zt] at this
  exact this
end Go.AW

/- Contracts: the document's topics: bounds, records, what was committed; placed records that are the same. -/
set_option maxRecDepth 100000
set_option linter.unusedSimpArgs false
set_option linter.unusedVariables false
namespace Go.Proofs.Ythpnelbciibjeaa
open Go.AW

section
variable {σ : List zc} {id t g : Nat} {T : zaq} {K : AV → List zc → Prop}
end

end Go.Proofs.Ythpnelbciibjeaa

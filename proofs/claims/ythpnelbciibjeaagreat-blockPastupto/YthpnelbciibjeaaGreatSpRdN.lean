/- One byte of a number, as a loop over at most ten reads it. No program in sight. -/
import Derived.Test.YthpnelbciibjeaaGreatSpUtf
import Derived.Test.YthpnelbciibjeaaGreatCl1
import Derived.Test.YthpnelbciibjeaaGreatCodec1
import Derived.Test.YthpnelbciibjeaaGreatSpMap
import Derived.Test.YthpnelbciibjeaaGreatOp1
import Derived.Test.YthpnelbciibjeaaGreatAwFrz
import Derived.Test.YthpnelbciibjeaaGreatSpPrg
import Derived.Test.YthpnelbciibjeaaGreatMk2
import Derived.Test.YthpnelbciibjeaaGreatBk1
import Derived.Test.YthpnelbciibjeaaGreatBk3
import Derived.Test.YthpnelbciibjeaaGreatSpBulk
set_option linter.all false
/- A number's next seven bits. No program in sight. -/
set_option linter.unusedSimpArgs false
namespace Go.AW
open Go


end Go.AW

/- Contracts: the reader's small methods. -/
set_option maxRecDepth 100000
set_option linter.unusedSimpArgs false
namespace Go.Proofs.YthpnelbciibjeaaGreat
open Go.AW

def Cell (c : AV) (B : List UInt8) : Prop := c = .d (.slice (bcs B)) ∨ ∃ t, c = .own t (bcs B)

open Go.AW




end Go.Proofs.YthpnelbciibjeaaGreat

/- Requests, signatures and batches, as they are read. No program in sight. -/
set_option linter.unusedSimpArgs false
set_option linter.unusedVariables false
namespace Go.AW

def nilRq : zf := ⟨0, 0, noOp, 0, 0⟩
def doneE (s : Rd) : Int := if s.e = 0 ∧ 0 < s.b.length then 12 else s.e
def lateE (e : Int) (t : Nat) : Int := if e = 0 ∧ t = 0 then 80 else e
def pickR (f : Int) (x : zf) : zf := if f = 0 then x else nilRq
def signZ (c : Bool) (d : Nat × Rd) : Rd := if d.2.e = 0 ∧ d.1 = 0 then d.2.fail c 81 else d.2
def reqP (c : Bool) (b : List UInt8) : zf × Int :=
  let k := zkM c 7 ⟨b, 0⟩
  let t := zkM c 9007199254740992 k.2
  let o := zkQ c zbH t.2
  let f := lateE (doneE o.2) t.1
  (pickR f ⟨k.1, t.1, o.1, 0, 0⟩, f)
def signP (c : Bool) (s : Rd) : (Nat × Nat) × Rd :=
  let k := zkM c 20 s
  let d := zkM c 9007199254740992 k.2
  let z := signZ c d
  (if z.e = 0 then (k.1, d.1) else (0, 0), z)
def oneP (c : Bool) (s : Rd) : zf × Rd :=
  let b := zgE c 1024 s
  let x := reqP c b.1
  let g := signP c (b.2.fail c x.2)
  (⟨x.1.client, x.1.time, x.1.op, g.1.1, g.1.2⟩, g.2)
def zjh (c : Bool) : Nat → Rd → List zf × Rd
  | 0, s => ([], s)
  | k + 1, s => ((zjh c k s).1 ++ [(oneP c (zjh c k s).2).1], (oneP c (zjh c k s).2).2)
def batchP (c : Bool) (s : Rd) : List zf × Rd :=
  let n := zkM c 4 s
  let p := zjh c n.1 n.2
  let z := p.2.fail c (zh p.1)
  (if z.e = 0 then p.1 else [], z)

theorem Rd.like.refl (s : Rd) : s.like s := ⟨rfl, fun _ => rfl⟩
theorem done_like {s t : Rd} (h : s.like t) : doneE s = doneE t := by
  unfold doneE
  obtain ⟨h1, h2⟩ := h
  by_cases h0 : s.e = 0
  · rw [h2 h0, h1]
  · rw [if_neg (fun g => h0 g.1), if_neg (fun g => h0 (h1 ▸ g.1)), h1]
theorem reqP_like (c d : Bool) (b : List UInt8) : reqP c b = reqP d b := by
  obtain ⟨k1, k2⟩ := (Rd.like.refl ⟨b, 0⟩).num (c := c) (d := d) (m := 7)
  obtain ⟨t1, t2⟩ := k2.num (c := c) (d := d) (m := 9007199254740992)
  obtain ⟨o1, o2⟩ := t2.takeOp (c := c) (d := d) (name := zbH)
  have e := done_like o2
  unfold reqP
  simp only
  rw [e, t1, k1, o1]
theorem Rd.like.sign {s t : Rd} {c d : Bool} (h : s.like t) : (signP c s).1 = (signP d t).1 ∧ (signP c s).2.like (signP d t).2 := by
  obtain ⟨k1, k2⟩ := h.num (c := c) (d := d) (m := 20)
  obtain ⟨t1, t2⟩ := k2.num (c := c) (d := d) (m := 9007199254740992)
  have z := t2.fail (c := c) (d := d) (x := 81)
  have hz : (signZ c (zkM c 9007199254740992 (zkM c 20 s).2)).like (signZ d (zkM d 9007199254740992 (zkM d 20 t).2)) := by
    unfold signZ
    rw [← t1, ← t2.1]
    split
    · exact z
    · exact t2
  unfold signP
  simp only
  rw [← k1, ← t1, ← hz.1]
  exact ⟨rfl, hz⟩
theorem Rd.like.one {s t : Rd} {c d : Bool} (h : s.like t) : (oneP c s).1 = (oneP d t).1 ∧ (oneP c s).2.like (oneP d t).2 := by
  obtain ⟨b1, b2⟩ := h.bytes (c := c) (d := d) (m := 1024)
  have e := reqP_like c d (zgE c 1024 s).1
  have f := b2.fail (c := c) (d := d) (x := (reqP c (zgE c 1024 s).1).2)
  obtain ⟨g1, g2⟩ := f.sign (c := c) (d := d)
  unfold oneP
  simp only
  rw [← b1, ← e, ← g1]
  exact ⟨rfl, g2⟩
theorem Rd.like.items {s t : Rd} {c d : Bool} (h : s.like t) : ∀ k, (zjh c k s).1 = (zjh d k t).1 ∧ (zjh c k s).2.like (zjh d k t).2
  | 0 => ⟨rfl, h⟩
  | k + 1 => by
    obtain ⟨a, b⟩ := Rd.like.items h (c := c) (d := d) k
    obtain ⟨e1, e2⟩ := b.one (c := c) (d := d)
    exact ⟨by simp only [zjh, a, e1], e2⟩
theorem Rd.like.batch {s t : Rd} {c d : Bool} (h : s.like t) : (batchP c s).1 = (batchP d t).1 ∧ (batchP c s).2.like (batchP d t).2 := by
  obtain ⟨n1, n2⟩ := h.num (c := c) (d := d) (m := 4)
  obtain ⟨p1, p2⟩ := n2.items (c := c) (d := d) (zkM c 4 s).1
  have z := p2.fail (c := c) (d := d) (x := zh (zjh c (zkM c 4 s).1 (zkM c 4 s).2).1)
  unfold batchP
  simp only
  rw [← n1, ← p1, ← z.1]
  exact ⟨rfl, z⟩

/-! a reader that is stuck zjS -/

structure GSt where
  above : List UInt8
  G : List (List UInt8 × Int)
  s : Rd
def toldQ (e : Nat) : Bool := e = 0 ∨ e = 4 ∨ e = 5 ∨ e = 6 ∨ e = 71 ∨ e = 72 ∨ e = 60 ∨ e = 61 ∨ e = 62
structure TSt where
  above : List UInt8
  X : List zai
  s : Rd
structure LSt where
  l : List (Int × Int × Int)
  s : Rd

structure GrpOk (next k : Nat) (s : Rd) (g : GSt) : Prop where
  e : s.e = 0
  b : s.b = zev g.G ++ g.s.b
  len : g.G.length = k
  srt : zfV Prod.fst g.G
  each : ∀ a ∈ g.G, zbH a.1 = true ∧ a.1.length ≤ 64 ∧ 0 ≤ a.2 ∧ a.2 ≤ next
  abv : ∀ a ∈ g.G, a.1 = g.above ∨ ltN a.1 g.above
structure TopW (x : zai) : Prop where
  base : 0 ≤ x.base
  next : x.next ≤ 9007199254740992
  recs : x.recs.length ≤ 64
  each : ∀ r ∈ x.recs, r.length ≤ 64
  groups : x.groups.length ≤ 8
  srt : zfV Prod.fst x.groups
  gs : ∀ a ∈ x.groups, zbH a.1 = true ∧ a.1.length ≤ 64 ∧ 0 ≤ a.2 ∧ a.2 ≤ x.next
def restB (x : zai) : List UInt8 := zbG x.base.toNat ++ (zbG x.recs.length ++ (zdM x.recs ++ (zbG x.groups.length ++ zev x.groups)))
structure AnsW (a : Int × Int × Int) : Prop where
  t : 0 ≤ a.1 ∧ a.1 ≤ 9007199254740992
  e : 0 ≤ a.2.1 ∧ toldQ a.2.1.toNat = true
  o : 0 ≤ a.2.2 ∧ a.2.2 ≤ 9007199254740992
  z : a.2.1 = 0 ∨ a.2.2 = 0
  n : a.1 = 0 → a.2.1 = 0 ∧ a.2.2 = 0
structure TopOk (k : Nat) (s : Rd) (g : TSt) : Prop where
  e : s.e = 0
  b : s.b = ziZ g.X ++ g.s.b
  len : g.X.length = k
  srt : zfV zai.name g.X
  each : ∀ x ∈ g.X, zbH x.name = true ∧ x.name.length ≤ 64 ∧ TopW x
  abv : ∀ x ∈ g.X, x.name = g.above ∨ ltN x.name g.above
structure LstOk (k : Nat) (s : Rd) (g : LSt) : Prop where
  e : s.e = 0
  b : s.b = zgy g.l ++ g.s.b
  len : g.l.length = k
  each : ∀ a ∈ g.l, AnsW a
structure TopsW (T : zad) : Prop where
  len : T.l.length ≤ 8
  srt : zfV zai.name T.l
  each : ∀ x ∈ T.l, zbH x.name = true ∧ x.name.length ≤ 64 ∧ TopW x
  last : T.last.length = 8
  ans : ∀ a ∈ T.last, AnsW a

end Go.AW

/- Contracts: headers are read from bytes. -/
set_option maxRecDepth 100000
set_option linter.unusedSimpArgs false
set_option linter.unusedVariables false
namespace Go.Proofs.YthpnelbciibjeaaGreat
open Go.AW

theorem take_all {σ S : List zc} (h : ∀ (j : Nat) (x : zc), σ[j]? = some x → S[j]? = some x) : S.take σ.length = σ := by
  apply List.ext_getElem?
  intro i
  rw [List.getElem?_take]
  split
  · rename_i hi
    rw [h i _ (List.getElem?_eq_getElem hi), List.getElem?_eq_getElem hi]
  · rw [List.getElem?_eq_none (by omega)]
theorem ends_takeN {σ S : List zc} {K : AV → List zc → Prop} {l : List AV} (h : S.take σ.length = σ) (h1 : Low σ.length (dmT (zcE l))) (hl : zgf σ.length σ) (hK : K (dmT (zcE l)) σ) : AW.Ends σ.length K (some l) S := by
  unfold AW.Ends
  rw [h]
  exact ⟨h1, hl, hK⟩
section

variable {σ : List zc} {K : AV → List zc → Prop}

end


def lv9L : List (List UInt8) := (zmg []).2.2
abbrev lv9H : zbZ := ⟨0, 0, 0, 1, 2⟩
theorem lv9_gen : zmg [] = (lv9H, 0, lv9L) := by
  have h1 : (zmg []).1 = lv9H := by decide +kernel
  have h2 : (zmg []).2.1 = 0 := by decide +kernel
  rw [← h1, ← h2]; rfl
theorem lv9_I : zhJ lv9L := ⟨by decide +kernel, by decide +kernel, by decide +kernel⟩
def lv9X : ExecR := zhs lv9L zbb lv9H []
theorem lv9_ok : ExOk lv9L zbb lv9H [] := ⟨by decide +kernel, by decide +kernel, by decide +kernel, by decide +kernel, by decide +kernel, by decide +kernel⟩
theorem lv9_h : lv9X.h.seq = 1 ∧ lv9X.h.state = 2 ∧ zdm lv9X.p = [] := ⟨by decide +kernel, by decide +kernel, rfl⟩
theorem lv9_J : zhJ lv9X.L := ⟨by decide +kernel, by decide +kernel, by decide +kernel⟩
theorem lv9_chain : zoJ lv9X.L [lv9H, lv9X.h] = true ∧ zoJ lv9X.L [lv9X.h, lv9H] = false := ⟨by decide +kernel, by decide +kernel⟩
section

variable {σ : List zc} {K : AV → List zc → Prop}

theorem c_live09 (hK : K (.d (.bool true)) σ) : zt Tryz.prog zkZ [] σ K := by
  refine acE0 e_l09_live fun hl => ?_
  simp only [zoX, iN, bT, bF, eN]
  refine gq1 ?_
  refine zlp ?_
  have hT0 := zjQ σ [] []
  have hp0 := zol σ [] lv9L []
  simp only [List.append_nil] at hT0 hp0
  refine gq1 ?_
  refine znt hT0 .nil ?_
  rw [lv9_gen]
  rw [hp0]
  have hT1 := zjQ σ lv9L []
  simp only [List.append_nil] at hT1
  obtain ⟨S, hS⟩ : ∃ S, σ ++ tabO σ.length lv9L = S := ⟨_, rfl⟩
  have hl1 : S.length = σ.length + 3 := by rw [← hS]; simp
  have hpre : ∀ j x, σ[j]? = some x → S[j]? = some x := fun j x h => by rw [← hS]; exact zg h
  rw [hS] at hT1 ⊢
  refine gq1 ?_
  refine c_tpNew fun hP => ?_
  have el : ∀ X : zc, (S ++ [X]).length = S.length + 1 := fun X => by simp
  rw [el] at hP ⊢
  have xS : ∀ a τ, (S ++ a :: τ)[S.length]? = some a := fun a τ => zp ..
  have k5 : zbW [AV.d (.int .i64 0), AV.d (.int .i64 0), AV.d (.int .i64 0), AV.d (.int .i64 1), AV.d (.int .i64 2)] [AV.d (.int .i64 0), AV.d (.int .i64 0), AV.d (.int .i64 0), AV.d (.int .i64 1), AV.d (.int .i64 2)] = some true := by decide +kernel
  refine gq2 (zi (show ((0 : Int) != 0) = false from rfl) (zi k5 xS)) ?_
  rw [List.append_assoc] at hP
  obtain ⟨O, hO⟩ : ∃ O : Nat → Prop, (fun j => j = S.length + 1 + 1 ∨ j = S.length + 1) = O := ⟨_, rfl⟩
  have hOl : ∀ j, O j → S.length + 1 ≤ j := fun j hj => by rw [← hO] at hj; omega
  rw [hO] at hP
  have hLast : zgO zbb.last := fun a ha => by
    have := List.eq_of_mem_replicate ha
    subst this
    simp
  refine znu (h := lv9H) (b := []) (hT1.app _) lv9_I hP .none hLast (fun h => by have := hOl _ h; omega) (fun h => by have := hOl _ h; omega) (fun h => by have := hOl _ h; omega) (by simp) (by simp) lv9_ok fun S2 O2 N hP2 hT2 _ hl2 hrest hN => ?_
  rw [show zhs lv9L zbb lv9H [] = lv9X from rfl] at hT2 ⊢
  obtain rfl : N = [] := List.length_eq_zero_iff.1 hN
  have gS : S2[S.length]? = some (boxH lv9H) := hrest _ _ (zp ..) (by omega) (by omega) (by omega) (fun h => by have := hOl _ h; omega)
  have hpre2 : ∀ j x, σ[j]? = some x → S2[j]? = some x := fun j x h => by
    have := zn h
    exact hrest _ _ (zg (hpre j x h)) (by omega) (by omega) (by omega) (fun h => by have := hOl _ h; omega)
  obtain ⟨h1, h2, h3⟩ := lv9_h
  obtain ⟨h4, h5⟩ := lv9_chain
  have hJ := lv9_J
  rw [h3]
  obtain ⟨X, hX⟩ : ∃ X, lv9X.h = X := ⟨_, rfl⟩
  obtain ⟨LX, hLX⟩ : ∃ LX, lv9X.L = LX := ⟨_, rfl⟩
  rw [hX] at h1 h2 h4 h5 ⊢
  rw [hLX] at h4 h5 hT2 hJ
  have gS' : ∀ τ, (S2 ++ τ)[S.length]? = _ := fun τ => zg gS
  have xS2 : ∀ a τ, (S2 ++ a :: τ)[S2.length]? = some a := fun a τ => zp ..
  have q1 : (X.seq == 1) = true := by rw [h1]; rfl
  have q2 : (X.state == 2) = true := by rw [h2]; rfl
  refine gq31 (zi (show ((0 : Int) == 0) = true from rfl) (zi q1 (zi q2 (zi gS' (zi xS2 (show (((0 : Nat) : Int) == 0) = true from rfl)))))) ?_
  refine zko (l := [lv9H, X]) (hT2.app _) hJ (by simp) ?_
  rw [h4]
  refine gq2 (zi gS' xS2) ?_
  refine zko (l := [X, lv9H]) (hT2.app _) hJ (by simp) ?_
  rw [h5]
  refine gq1 ?_
  exact ends_takeN (take_all fun j x h => zg (hpre2 j x h)) (by simp [zgo, dmT, dm, dm1, zcE]) hl hK
end


end Go.Proofs.YthpnelbciibjeaaGreat

/- Maps keyed by integers: what is found after a put. -/
import Derived.Test.YtaocmalhjfakdaaAwEnd
import Derived.Test.YtaocmalhjfakdaaSpUtf
import Derived.Test.YtaocmalhjfakdaaPo1
import Derived.Test.YtaocmalhjfakdaaOpC
import Derived.Test.YtaocmalhjfakdaaMk2
import Derived.Test.YtaocmalhjfakdaaAwFrz
set_option linter.all false
set_option linter.unusedSimpArgs false
namespace Go.AW

abbrev ents (l : List (Int × AV)) : List (AV × AV) := l.map fun e => (.d (.int .i64 e.1), e.2)

structure Rd where
  b : List UInt8
  e : Int
def Rd.fail (cut : Bool) (s : Rd) (x : Int) : Rd := if s.e = 0 ∧ x ≠ 0 then ⟨if cut then [] else s.b, x⟩ else s
def numP (cut : Bool) (most : Nat) (s : Rd) : Nat × Rd :=
  if s.e = 0 then (match numR most 0 0 s.b with | .ok (n, r) => (n, ⟨r, 0⟩) | .error x => (0, s.fail cut x)) else (0, s)
def takeP (cut : Bool) (n : Nat) (s : Rd) : List UInt8 × Rd :=
  if s.e = 0 then (if n > s.b.length then ([], s.fail cut 10) else (s.b.take n, ⟨s.b.drop n, 0⟩)) else ([], s)
def zhU (cut : Bool) (most : Nat) (s : Rd) : List UInt8 × Rd := takeP cut (numP cut most s).1 (numP cut most s).2
def zmn (cut : Bool) : Nat → Rd → List (List UInt8) × Rd
  | 0, s => ([], s)
  | k + 1, s => ((zmn cut k s).1 ++ [(zhU cut 64 (zmn cut k s).2).1], (zhU cut 64 (zmn cut k s).2).2)
def zkK (cut : Bool) (k : Nat) (s : Rd) : TOp × Rd :=
  let t := zhU cut 64 s
  if k = 0 then (noOp, s)
  else if k = 2 then (let n := numP cut 4 t.2; let r := zmn cut n.1 n.2; (⟨k, t.1, [], 0, r.1⟩, r.2))
  else if k = 3 then (let g := zhU cut 64 t.2; let f := numP cut 9007199254740992 g.2; (⟨k, t.1, g.1, f.1, []⟩, f.2))
  else if k = 4 then (let f := numP cut 9007199254740992 t.2; (⟨k, t.1, [], f.1, []⟩, f.2))
  else (⟨k, t.1, [], 0, []⟩, t.2)
def Rd.like (s t : Rd) : Prop := s.e = t.e ∧ (s.e = 0 → s.b = t.b)
theorem Rd.like.fail {s t : Rd} {c d : Bool} {x : Int} (h : s.like t) : (s.fail c x).like (t.fail d x) := by
  obtain ⟨h1, h2⟩ := h
  unfold Rd.fail Rd.like
  grind
theorem Rd.like.num {s t : Rd} {c d : Bool} {m : Nat} (h : s.like t) : (numP c m s).1 = (numP d m t).1 ∧ (numP c m s).2.like (numP d m t).2 := by
  have hf : ∀ x, (s.fail c x).like (t.fail d x) := fun x => h.fail
  obtain ⟨h1, h2⟩ := h
  unfold numP
  by_cases h0 : s.e = 0
  · rw [if_pos h0, if_pos (show t.e = 0 from h1 ▸ h0), h2 h0]
    cases numR m 0 0 t.b with
    | ok x => exact ⟨rfl, rfl, fun _ => rfl⟩
    | error x => exact ⟨rfl, hf x⟩
  · rw [if_neg h0, if_neg (h1 ▸ h0)]
    exact ⟨rfl, h1, h2⟩
theorem Rd.like.take {s t : Rd} {c d : Bool} {m : Nat} (h : s.like t) : (takeP c m s).1 = (takeP d m t).1 ∧ (takeP c m s).2.like (takeP d m t).2 := by
  have hf : ∀ x, (s.fail c x).like (t.fail d x) := fun x => h.fail
  obtain ⟨h1, h2⟩ := h
  unfold takeP
  by_cases h0 : s.e = 0
  · rw [if_pos h0, if_pos (show t.e = 0 from h1 ▸ h0), h2 h0]
    split
    · exact ⟨rfl, hf 10⟩
    · exact ⟨rfl, rfl, fun _ => rfl⟩
  · rw [if_neg h0, if_neg (h1 ▸ h0)]
    exact ⟨rfl, h1, h2⟩
theorem Rd.like.bytes {s t : Rd} {c d : Bool} {m : Nat} (h : s.like t) : (zhU c m s).1 = (zhU d m t).1 ∧ (zhU c m s).2.like (zhU d m t).2 := by
  have a := h.num (c := c) (d := d) (m := m)
  have := a.2.take (c := c) (d := d) (m := (numP c m s).1)
  unfold zhU
  rw [← a.1]
  exact this
theorem Rd.like.recs {s t : Rd} {c d : Bool} (h : s.like t) : ∀ k, (zmn c k s).1 = (zmn d k t).1 ∧ (zmn c k s).2.like (zmn d k t).2
  | 0 => ⟨rfl, h⟩
  | k + 1 => by
    obtain ⟨a, b⟩ := Rd.like.recs h (c := c) (d := d) k
    have e := b.bytes (c := c) (d := d) (m := 64)
    exact ⟨by simp only [zmn, a, e.1], e.2⟩
theorem Rd.like.fields {s t : Rd} {c d : Bool} (h : s.like t) (k : Nat) : (zkK c k s).1 = (zkK d k t).1 ∧ (zkK c k s).2.like (zkK d k t).2 := by
  obtain ⟨t1, t2⟩ := h.bytes (c := c) (d := d) (m := 64)
  obtain ⟨n1, n2⟩ := t2.num (c := c) (d := d) (m := 4)
  obtain ⟨r1, r2⟩ := n2.recs (c := c) (d := d) (numP c 4 (zhU c 64 s).2).1
  obtain ⟨g1, g2⟩ := t2.bytes (c := c) (d := d) (m := 64)
  obtain ⟨f1, f2⟩ := g2.num (c := c) (d := d) (m := 9007199254740992)
  obtain ⟨e1, e2⟩ := t2.num (c := c) (d := d) (m := 9007199254740992)
  unfold zkK
  simp only
  split
  · exact ⟨rfl, h⟩
  · split
    · rw [← n1, ← r1, ← t1]; exact ⟨rfl, r2⟩
    · split
      · rw [← t1, ← g1, ← f1]; exact ⟨rfl, f2⟩
      · split
        · rw [← t1, ← e1]; exact ⟨rfl, e2⟩
        · rw [← t1]; exact ⟨rfl, t2⟩





theorem zkQ : ∀ (f : Nat) (s : List UInt8) (n : Nat), zbL f s = some n → s.length ≤ 4 * n
  | 0, _, _, h => by simp [zbL] at h
  | f + 1, s, n, h => by
    simp only [zbL] at h
    split at h
    · rename_i h0; cases h; simp [h0]
    · split at h
      · cases h
      · simp only [Option.map_eq_some_iff] at h
        obtain ⟨m, hm, rfl⟩ := h
        have := zkQ f _ m hm
        have h4 := (zfN s).2.1
        simp only [List.length_drop] at *
        omega
theorem name_len {s : List UInt8} (h : zda s = true) : s.length ≤ 64 := by
  simp only [zda, zdT, decide_eq_true_eq] at h
  cases e : zbL (s.length + 1) s with
  | none => simp [e] at h
  | some n =>
    have := zkQ _ s n e
    simp only [e] at h
    by_cases h16 : n > 16
    · simp [h16] at h
    · omega
end Go.AW

/- Contracts: certificates that are kept. -/
set_option maxRecDepth 100000
set_option linter.unusedSimpArgs false
set_option linter.unusedVariables false
namespace Go.Proofs.Ytaocmalhjfakdaa
open Go.AW

abbrev hE (l : List (Int × TPrep)) : List (AV × AV) := ents (l.map fun e => (e.1, prepA e.2))
structure HeldAt (σ : List zb) (h m : Nat) (l : List (Int × TPrep)) : Prop where
  box : σ[h]? = some (.box [.map m])
  map : σ[m]? = some (.map (hE l))
theorem HeldAt.app {σ : List zb} {h m : Nat} {l : List (Int × TPrep)} (H : HeldAt σ h m l) (τ : List zb) : HeldAt (σ ++ τ) h m l := ⟨ze H.box, ze H.map⟩

theorem zkW {σ : List zb} {l : List UInt8} (hn : l.length ≤ 1073741824) {K : AV → List zb → Prop} (hK : K (.d (.slice (bcs l))) σ) : zu Try.prog zG [.d (.slice (bcs l))] σ K := by
  refine zlr zec fun hl => ?_
  have hlen := zfO l
  have h2 : ∀ e ∈ bcs l, e.length = 1 := zgU
  simp only [zbM, iN, bT, bF, eN, zaL, zfn]
  obtain ⟨es, hes⟩ : ∃ es, bcs l = es := ⟨_, rfl⟩
  rw [hes] at hlen h2 hK ⊢
  cases es with
  | nil =>
    refine ⟨?_, ?_⟩
    · refine zbw ?_
      refine zde hl ?_
      exact hK
    · refine zbw ?_
      refine zde hl ?_
      exact hK
  | cons e es =>
    simp only [zap, zF, zj, zag, rep, zw, zhD, zaz, zx, zfW]
    refine ⟨h2, by simp, by rw [hlen]; simp; omega, ?_⟩
    refine zde hl ?_
    exact hK

end Go.Proofs.Ytaocmalhjfakdaa

/- An end of a call that zll all that it made: what the caller's objects name now lies there. -/
set_option linter.unusedSimpArgs false
set_option linter.unusedVariables false
namespace Go.AW
section
variable {P : Program} {σ : List zb}

def zmO (K : AV → List zb → Prop) (out : Option (List AV)) (σ' : List zb) : Prop := match out with
  | some l => ∃ s, zju [] σ' [] s ∧ K (dmT (zep l)) s
  | none => False
theorem zau {f : FuncId} {F : AF} {na : Nat} (hF : isFn P f F na) {as0 : List AV} (has : as0.length = na) {K : AV → List zb → Prop}
    (h : zfV σ.length σ → (∀ a ∈ as0, Low σ.length a) → awp P F.body (AtEnd fun fr' σ' => zmO K (zkn fr' σ' F.res) σ') (zfA 0 as0) σ) : zu P f as0 σ K :=
  ziU hF has _ (fun {L w L' σ' w' fr' ts} S st S' F' hz => by
    unfold zmO at hz
    split at hz
    · rename_i l hl
      obtain ⟨s, hw, hK⟩ := hz
      obtain ⟨L2, st2, S2, _⟩ := zhd hw S' (us := []) ⟨rfl, by simp⟩
      exact ⟨L2, s, l, dmT (zep l), hl, st.trans st2, S2, fun v hr => dmT_sound (st2.rv hr), hK⟩
    · exact hz.elim) h
theorem zaR {K : AV → List zb → Prop} {l : List AV} {s : List zb} (h : K (dmT (zep l)) s) : zmO K (some l) s := ⟨_, .refl _ _, h⟩
end

end Go.AW

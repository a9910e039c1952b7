/- Maps keyed by integers: what is found after a put. -/
import Derived.Test.YthpnelbciibjeaaGreatAwEnd
import Derived.Test.YthpnelbciibjeaaGreatSpUtf
import Derived.Test.YthpnelbciibjeaaGreatSpChk
import Derived.Test.YthpnelbciibjeaaGreatOpC
import Derived.Test.YthpnelbciibjeaaGreatAwFrz
set_option linter.all false
set_option linter.unusedSimpArgs false
namespace Go.AW

abbrev ents (l : List (Int × AV)) : List (AV × AV) := l.map fun e => (.d (.int .i64 e.1), e.2)

structure Rd where
  b : List UInt8
  e : Int
def Rd.fail (cut : Bool) (s : Rd) (x : Int) : Rd := if s.e = 0 ∧ x ≠ 0 then ⟨if cut then [] else s.b, x⟩ else s
def zkM (cut : Bool) (most : Nat) (s : Rd) : Nat × Rd :=
  if s.e = 0 then (match numR most 0 0 s.b with | .ok (n, r) => (n, ⟨r, 0⟩) | .error x => (0, s.fail cut x)) else (0, s)
def takeP (cut : Bool) (n : Nat) (s : Rd) : List UInt8 × Rd :=
  if s.e = 0 then (if n > s.b.length then ([], s.fail cut 10) else (s.b.take n, ⟨s.b.drop n, 0⟩)) else ([], s)
def zgE (cut : Bool) (most : Nat) (s : Rd) : List UInt8 × Rd := takeP cut (zkM cut most s).1 (zkM cut most s).2
def zpj (cut : Bool) : Nat → Rd → List (List UInt8) × Rd
  | 0, s => ([], s)
  | k + 1, s => ((zpj cut k s).1 ++ [(zgE cut 64 (zpj cut k s).2).1], (zgE cut 64 (zpj cut k s).2).2)
def zjB (cut : Bool) (k : Nat) (s : Rd) : TOp × Rd :=
  let t := zgE cut 64 s
  if k = 0 then (noOp, s)
  else if k = 2 then (let n := zkM cut 4 t.2; let r := zpj cut n.1 n.2; (⟨k, t.1, [], 0, r.1⟩, r.2))
  else if k = 3 then (let g := zgE cut 64 t.2; let f := zkM cut 9007199254740992 g.2; (⟨k, t.1, g.1, f.1, []⟩, f.2))
  else if k = 4 then (let f := zkM cut 9007199254740992 t.2; (⟨k, t.1, [], f.1, []⟩, f.2))
  else (⟨k, t.1, [], 0, []⟩, t.2)
def zkQ (cut : Bool) (name : List UInt8 → Bool) (s : Rd) : TOp × Rd :=
  let k := zkM cut 4 s
  let x := zjB cut k.1 k.2
  let z := x.2.fail cut (zV name x.1)
  (if z.e = 0 then x.1 else noOp, z)

def Rd.like (s t : Rd) : Prop := s.e = t.e ∧ (s.e = 0 → s.b = t.b)
theorem Rd.like.fail {s t : Rd} {c d : Bool} {x : Int} (h : s.like t) : (s.fail c x).like (t.fail d x) := by
  obtain ⟨h1, h2⟩ := h
  unfold Rd.fail Rd.like
  grind
theorem Rd.like.num {s t : Rd} {c d : Bool} {m : Nat} (h : s.like t) : (zkM c m s).1 = (zkM d m t).1 ∧ (zkM c m s).2.like (zkM d m t).2 := by
  have hf : ∀ x, (s.fail c x).like (t.fail d x) := fun x => h.fail
  obtain ⟨h1, h2⟩ := h
  unfold zkM
  by_cases h0 : s.e = 0
  · rw [if_pos h0, if_pos (show t.e = 0 from h1 ▸ h0), h2 h0]
    cases numR m 0 0 t.b with
    | ok x => exact ⟨rfl, rfl, fun _ => rfl⟩
    | error x => exact ⟨rfl, hf x⟩
  · rw [if_neg h0, if_neg (h1 ▸ h0)]
    exact ⟨rfl, h1, h2⟩
theorem Rd.like.take {s t : Rd} {c d : Bool} {m : Nat} (h : s.like t) : (takeP c m s).1 = (takeP d m t).1 ∧ (takeP c m s).2.like (takeP d m t).2 := by
  have hf : ∀ x, (s.fail c x).like (t.fail d x) := fun x => h.fail
  obtain ⟨h1, h2⟩ := h
  unfold takeP
  by_cases h0 : s.e = 0
  · rw [if_pos h0, if_pos (show t.e = 0 from h1 ▸ h0), h2 h0]
    split
    · exact ⟨rfl, hf 10⟩
    · exact ⟨rfl, rfl, fun _ => rfl⟩
  · rw [if_neg h0, if_neg (h1 ▸ h0)]
    exact ⟨rfl, h1, h2⟩
theorem Rd.like.bytes {s t : Rd} {c d : Bool} {m : Nat} (h : s.like t) : (zgE c m s).1 = (zgE d m t).1 ∧ (zgE c m s).2.like (zgE d m t).2 := by
  have a := h.num (c := c) (d := d) (m := m)
  have := a.2.take (c := c) (d := d) (m := (zkM c m s).1)
  unfold zgE
  rw [← a.1]
  exact this
theorem Rd.like.recs {s t : Rd} {c d : Bool} (h : s.like t) : ∀ k, (zpj c k s).1 = (zpj d k t).1 ∧ (zpj c k s).2.like (zpj d k t).2
  | 0 => ⟨rfl, h⟩
  | k + 1 => by
    obtain ⟨a, b⟩ := Rd.like.recs h (c := c) (d := d) k
    have e := b.bytes (c := c) (d := d) (m := 64)
    exact ⟨by simp only [zpj, a, e.1], e.2⟩
theorem Rd.like.fields {s t : Rd} {c d : Bool} (h : s.like t) (k : Nat) : (zjB c k s).1 = (zjB d k t).1 ∧ (zjB c k s).2.like (zjB d k t).2 := by
  obtain ⟨t1, t2⟩ := h.bytes (c := c) (d := d) (m := 64)
  obtain ⟨n1, n2⟩ := t2.num (c := c) (d := d) (m := 4)
  obtain ⟨r1, r2⟩ := n2.recs (c := c) (d := d) (zkM c 4 (zgE c 64 s).2).1
  obtain ⟨g1, g2⟩ := t2.bytes (c := c) (d := d) (m := 64)
  obtain ⟨f1, f2⟩ := g2.num (c := c) (d := d) (m := 9007199254740992)
  obtain ⟨e1, e2⟩ := t2.num (c := c) (d := d) (m := 9007199254740992)
  unfold zjB
  simp only
  split
  · exact ⟨rfl, h⟩
  · split
    · rw [← n1, ← r1, ← t1]; exact ⟨rfl, r2⟩
    · split
      · rw [← t1, ← g1, ← f1]; exact ⟨rfl, f2⟩
      · split
        · rw [← t1, ← e1]; exact ⟨rfl, e2⟩
        · rw [← t1]; exact ⟨rfl, t2⟩
theorem Rd.like.takeOp {s t : Rd} {c d : Bool} {name : List UInt8 → Bool} (h : s.like t) : (zkQ c name s).1 = (zkQ d name t).1 ∧ (zkQ c name s).2.like (zkQ d name t).2 := by
  obtain ⟨k1, k2⟩ := h.num (c := c) (d := d) (m := 4)
  obtain ⟨x1, x2⟩ := k2.fields (c := c) (d := d) (zkM c 4 s).1
  have z := x2.fail (c := c) (d := d) (x := zV name (zjB c (zkM c 4 s).1 (zkM c 4 s).2).1)
  unfold zkQ
  simp only
  rw [← k1, ← x1, ← z.1]
  exact ⟨rfl, z⟩





theorem zno : ∀ (f : Nat) (s : List UInt8) (n : Nat), zcd f s = some n → s.length ≤ 4 * n
  | 0, _, _, h => by simp [zcd] at h
  | f + 1, s, n, h => by
    simp only [zcd] at h
    split at h
    · rename_i h0; cases h; simp [h0]
    · split at h
      · cases h
      · simp only [Option.map_eq_some_iff] at h
        obtain ⟨m, hm, rfl⟩ := h
        have := zno f _ m hm
        have h4 := (zgD s).2.1
        simp only [List.length_drop] at *
        omega
theorem name_len {s : List UInt8} (h : zbH s = true) : s.length ≤ 64 := by
  simp only [zbH, zeC, decide_eq_true_eq] at h
  cases e : zcd (s.length + 1) s with
  | none => simp [e] at h
  | some n =>
    have := zno _ s n e
    simp only [e] at h
    by_cases h16 : n > 16
    · simp [h16] at h
    · omega
end Go.AW

/- Contracts: certificates that are kept. -/
set_option maxRecDepth 100000
set_option linter.unusedSimpArgs false
set_option linter.unusedVariables false
namespace Go.Proofs.YthpnelbciibjeaaGreat
open Go.AW

def findP (s : Int) : List (Int × zod) → Nat → Option (Nat × zod)
  | [], _ => none
  | e :: r, i => if s = e.1 then some (i, e.2) else findP s r (i + 1)
abbrev hE (l : List (Int × zod)) : List (AV × AV) := ents (l.map fun e => (e.1, prepA e.2))
structure HeldAt (σ : List zc) (h m : Nat) (l : List (Int × zod)) : Prop where
  box : σ[h]? = some (.box [.map m])
  map : σ[m]? = some (.map (hE l))
theorem HeldAt.app {σ : List zc} {h m : Nat} {l : List (Int × zod)} (H : HeldAt σ h m l) (τ : List zc) : HeldAt (σ ++ τ) h m l := ⟨zg H.box, zg H.map⟩
def hOk (l : List (Int × zod)) (p : zod) : Bool := match findP p.seq l 0 with
  | some q => !(decide (q.2.view ≥ p.view))
  | none => true

theorem zpR {σ : List zc} {l : List UInt8} (hn : l.length ≤ 1073741824) {K : AV → List zc → Prop} (hK : K (.d (.slice (bcs l))) σ) : zt Tryz.prog zae [.d (.slice (bcs l))] σ K := by
  refine zhl zeO fun hl => ?_
  have hlen := zbp l
  have h2 : ∀ e ∈ bcs l, e.length = 1 := zgm
  simp only [zcf, iN, bT, bF, eN, zaI, zfb]
  obtain ⟨es, hes⟩ : ∃ es, bcs l = es := ⟨_, rfl⟩
  rw [hes] at hlen h2 hK ⊢
  cases es with
  | nil =>
    refine ⟨?_, ?_⟩
    · refine gq1 ?_
      refine zbj hl ?_
      exact hK
    · refine gq1 ?_
      refine zbj hl ?_
      exact hK
  | cons e es =>
    simp only [zal, zH, zC, zaG, rep, zq, zgP, zap, zJ, zfT]
    refine ⟨h2, by simp, by rw [hlen]; simp; omega, ?_⟩
    refine zbj hl ?_
    exact hK

end Go.Proofs.YthpnelbciibjeaaGreat

/- An end of a call that znT all that it made: what the caller's objects name now lies there. -/
set_option linter.unusedSimpArgs false
set_option linter.unusedVariables false
namespace Go.AW
section
variable {P : Program} {σ : List zc}

def EndsA (K : AV → List zc → Prop) (out : Option (List AV)) (σ' : List zc) : Prop := match out with
  | some l => ∃ s, zlv [] σ' [] s ∧ K (dmT (zcE l)) s
  | none => False
theorem zbd {f : FuncId} {F : AF} {na : Nat} (hF : isFn P f F na) {as0 : List AV} (has : as0.length = na) {K : AV → List zc → Prop}
    (h : zgf σ.length σ → (∀ a ∈ as0, Low σ.length a) → awp P F.body (AtEnd fun fr' σ' => EndsA K (zmF fr' σ' F.res) σ') (zgr 0 as0) σ) : zt P f as0 σ K :=
  zky hF has _ (fun {L w L' σ' w' fr' ts} S st S' F' hz => by
    unfold EndsA at hz
    split at hz
    · rename_i l hl
      obtain ⟨s, hw, hK⟩ := hz
      obtain ⟨L2, st2, S2, _⟩ := zit hw S' (us := []) ⟨rfl, by simp⟩
      exact ⟨L2, s, l, dmT (zcE l), hl, st.trans st2, S2, fun v hr => dmT_sound (st2.rv hr), hK⟩
    · exact hz.elim) h
theorem zbN {K : AV → List zc → Prop} {l : List AV} {s : List zc} (h : K (dmT (zcE l)) s) : EndsA K (some l) s := ⟨_, .refl _ _, h⟩
end

end Go.AW

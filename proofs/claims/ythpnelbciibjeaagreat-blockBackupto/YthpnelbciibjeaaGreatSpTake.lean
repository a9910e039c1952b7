/- Readers: a reader's bytes and its error; what is taken from them. 'cut': an error drops the bytes. No program in sight. -/
import Derived.Test.YthpnelbciibjeaaGreatSpUtf
import Derived.Test.YthpnelbciibjeaaGreatAwEnd
import Derived.Test.YthpnelbciibjeaaGreatSpNum
import Derived.Test.YthpnelbciibjeaaGreatSpTab
set_option linter.all false
set_option linter.unusedSimpArgs false
namespace Go.AW

structure Rd where
  b : List UInt8
  e : Int
def Rd.fail (cut : Bool) (s : Rd) (x : Int) : Rd := if s.e = 0 ∧ x ≠ 0 then ⟨if cut then [] else s.b, x⟩ else s
def zcM (cut : Bool) (most : Nat) (s : Rd) : Nat × Rd :=
  if s.e = 0 then (match zjm most 0 0 s.b with | .ok (n, r) => (n, ⟨r, 0⟩) | .error x => (0, s.fail cut x)) else (0, s)
def zdh (cut : Bool) (n : Nat) (s : Rd) : List UInt8 × Rd :=
  if s.e = 0 then (if n > s.b.length then ([], s.fail cut 10) else (s.b.take n, ⟨s.b.drop n, 0⟩)) else ([], s)
def zgq (cut : Bool) (most : Nat) (s : Rd) : List UInt8 × Rd := zdh cut (zcM cut most s).1 (zcM cut most s).2
def zol (cut : Bool) : Nat → Rd → List (List UInt8) × Rd
  | 0, s => ([], s)
  | k + 1, s => ((zol cut k s).1 ++ [(zgq cut 64 (zol cut k s).2).1], (zgq cut 64 (zol cut k s).2).2)
def ziX (cut : Bool) (k : Nat) (s : Rd) : TOp × Rd :=
  let t := zgq cut 64 s
  if k = 0 then (noOp, s)
  else if k = 2 then (let n := zcM cut 4 t.2; let r := zol cut n.1 n.2; (⟨k, t.1, [], 0, r.1⟩, r.2))
  else if k = 3 then (let g := zgq cut 64 t.2; let f := zcM cut 9007199254740992 g.2; (⟨k, t.1, g.1, f.1, []⟩, f.2))
  else if k = 4 then (let f := zcM cut 9007199254740992 t.2; (⟨k, t.1, [], f.1, []⟩, f.2))
  else (⟨k, t.1, [], 0, []⟩, t.2)
def zkq (cut : Bool) (name : List UInt8 → Bool) (s : Rd) : TOp × Rd :=
  let k := zcM cut 4 s
  let x := ziX cut k.1 k.2
  let z := x.2.fail cut (zai name x.1)
  (if z.e = 0 then x.1 else noOp, z)

def Rd.like (s t : Rd) : Prop := s.e = t.e ∧ (s.e = 0 → s.b = t.b)
theorem Rd.like.fail {s t : Rd} {c d : Bool} {x : Int} (h : s.like t) : (s.fail c x).like (t.fail d x) := by
  obtain ⟨h1, h2⟩ := h
  unfold Rd.fail Rd.like
  grind
theorem Rd.like.num {s t : Rd} {c d : Bool} {m : Nat} (h : s.like t) : (zcM c m s).1 = (zcM d m t).1 ∧ (zcM c m s).2.like (zcM d m t).2 := by
  have hf : ∀ x, (s.fail c x).like (t.fail d x) := fun x => h.fail
  obtain ⟨h1, h2⟩ := h
  unfold zcM
  by_cases h0 : s.e = 0
  · rw [if_pos h0, if_pos (show t.e = 0 from h1 ▸ h0), h2 h0]
    cases zjm m 0 0 t.b with
    | ok x => exact ⟨rfl, rfl, fun _ => rfl⟩
    | error x => exact ⟨rfl, hf x⟩
  · rw [if_neg h0, if_neg (h1 ▸ h0)]
    exact ⟨rfl, h1, h2⟩
theorem Rd.like.take {s t : Rd} {c d : Bool} {m : Nat} (h : s.like t) : (zdh c m s).1 = (zdh d m t).1 ∧ (zdh c m s).2.like (zdh d m t).2 := by
  have hf : ∀ x, (s.fail c x).like (t.fail d x) := fun x => h.fail
  obtain ⟨h1, h2⟩ := h
  unfold zdh
  by_cases h0 : s.e = 0
  · rw [if_pos h0, if_pos (show t.e = 0 from h1 ▸ h0), h2 h0]
    split
    · exact ⟨rfl, hf 10⟩
    · exact ⟨rfl, rfl, fun _ => rfl⟩
  · rw [if_neg h0, if_neg (h1 ▸ h0)]
    exact ⟨rfl, h1, h2⟩
theorem Rd.like.bytes {s t : Rd} {c d : Bool} {m : Nat} (h : s.like t) : (zgq c m s).1 = (zgq d m t).1 ∧ (zgq c m s).2.like (zgq d m t).2 := by
  have a := h.num (c := c) (d := d) (m := m)
  have := a.2.take (c := c) (d := d) (m := (zcM c m s).1)
  unfold zgq
  rw [← a.1]
  exact this
theorem Rd.like.recs {s t : Rd} {c d : Bool} (h : s.like t) : ∀ k, (zol c k s).1 = (zol d k t).1 ∧ (zol c k s).2.like (zol d k t).2
  | 0 => ⟨rfl, h⟩
  | k + 1 => by
    obtain ⟨a, b⟩ := Rd.like.recs h (c := c) (d := d) k
    have e := b.bytes (c := c) (d := d) (m := 64)
    exact ⟨by simp only [zol, a, e.1], e.2⟩
theorem Rd.like.fields {s t : Rd} {c d : Bool} (h : s.like t) (k : Nat) : (ziX c k s).1 = (ziX d k t).1 ∧ (ziX c k s).2.like (ziX d k t).2 := by
  obtain ⟨t1, t2⟩ := h.bytes (c := c) (d := d) (m := 64)
  obtain ⟨n1, n2⟩ := t2.num (c := c) (d := d) (m := 4)
  obtain ⟨r1, r2⟩ := n2.recs (c := c) (d := d) (zcM c 4 (zgq c 64 s).2).1
  obtain ⟨g1, g2⟩ := t2.bytes (c := c) (d := d) (m := 64)
  obtain ⟨f1, f2⟩ := g2.num (c := c) (d := d) (m := 9007199254740992)
  obtain ⟨e1, e2⟩ := t2.num (c := c) (d := d) (m := 9007199254740992)
  unfold ziX
  simp only
  split
  · exact ⟨rfl, h⟩
  · split
    · rw [← n1, ← r1, ← t1]; exact ⟨rfl, r2⟩
    · split
      · rw [← t1, ← g1, ← f1]; exact ⟨rfl, f2⟩
      · split
        · rw [← t1, ← e1]; exact ⟨rfl, e2⟩
        · rw [← t1]; exact ⟨rfl, t2⟩
theorem Rd.like.takeOp {s t : Rd} {c d : Bool} {name : List UInt8 → Bool} (h : s.like t) : (zkq c name s).1 = (zkq d name t).1 ∧ (zkq c name s).2.like (zkq d name t).2 := by
  obtain ⟨k1, k2⟩ := h.num (c := c) (d := d) (m := 4)
  obtain ⟨x1, x2⟩ := k2.fields (c := c) (d := d) (zcM c 4 s).1
  have z := x2.fail (c := c) (d := d) (x := zai name (ziX c (zcM c 4 s).1 (zcM c 4 s).2).1)
  unfold zkq
  simp only
  rw [← k1, ← x1, ← z.1]
  exact ⟨rfl, z⟩

theorem ziQ (cut : Bool) (m : Nat) (s : Rd) : (zcM cut m s).1 ≤ m := by
  unfold zcM
  split
  · cases h : zjm m 0 0 s.b with
    | ok x =>
      obtain ⟨n, r⟩ := x
      obtain ⟨q, h1, h2, h3, _⟩ := zop m s.b 0 0 n r (by omega) h
      exact h3
    | error x => exact Nat.zero_le _
  · exact Nat.zero_le _
theorem numR_len {m : Nat} {b : List UInt8} {n : Nat} {r : List UInt8} (h : zjm m 0 0 b = .ok (n, r)) : r.length ≤ b.length := by
  obtain ⟨q, h1, h2, _⟩ := zop m b 0 0 n r (by omega) h
  rw [h2, List.length_append]; omega
theorem zjz (m : Nat) (s : Rd) : (zcM false m s).2.b.length ≤ s.b.length := by
  unfold zcM Rd.fail
  split
  · cases h : zjm m 0 0 s.b with
    | ok x => exact numR_len h
    | error x => simp only; split <;> simp
  · exact Nat.le_refl _
theorem takeP_len (n : Nat) (s : Rd) : (zdh false n s).2.b.length ≤ s.b.length := by
  unfold zdh Rd.fail
  split
  · split
    · simp only; split <;> simp
    · simp
  · exact Nat.le_refl _


theorem ends_set {σ τ : List zc} {id : Nat} {x : zc} {K : AV → List zc → Prop} {l : List AV} (h1 : Low σ.length (dmT (zbz l))) (hl : zeZ σ.length σ) (hx : LowO σ.length x) (h : K (dmT (zbz l)) (σ.set id x)) : Ends σ.length K (some l) (σ.set id x ++ τ) := by
  unfold Ends
  have e : (σ.set id x ++ τ).take σ.length = σ.set id x := by
    have := zfH (σ.set id x) τ
    rwa [List.length_set] at this
  rw [e]
  exact ⟨h1, hl.set hx, h⟩
theorem zgp {σ : List zc} {id : Nat} {x : zc} {K : AV → List zc → Prop} {l : List AV} (h1 : Low σ.length (dmT (zbz l))) (hl : zeZ σ.length σ) (hx : LowO σ.length x) (h : K (dmT (zbz l)) (σ.set id x)) : Ends σ.length K (some l) (σ.set id x) := by
  have := ends_set (τ := []) h1 hl hx h
  rwa [List.append_nil] at this
theorem get_set_self {α : Type} {σ : List α} {id : Nat} {x y : α} (h : σ[id]? = some x) : (σ.set id y)[id]? = some y := by
  rw [List.getElem?_set_self (List.getElem?_eq_some_iff.1 h).1]
theorem zog {α : Type} {σ : List α} {id : Nat} {x : α} (h : σ[id]? = some x) : σ.set id x = σ := by
  obtain ⟨h1, rfl⟩ := List.getElem?_eq_some_iff.1 h
  exact List.set_getElem_self h1

theorem numR_err {m : Nat} : ∀ {b : List UInt8} {i acc : Nat} {x : Int}, zjm m i acc b = .error x → x ≠ 0
  | [], i, acc, x, h => by simp only [zjm, Except.error.injEq] at h; omega
  | c :: r, i, acc, x, h => by
    simp only [zjm] at h
    split at h
    · simp only [Except.error.injEq] at h; omega
    · split at h
      · split at h
        · simp only [Except.error.injEq] at h; omega
        · cases h
      · exact numR_err h
theorem fail_ne {c : Bool} {s : Rd} {x : Int} (h : s.e = 0) (hx : x ≠ 0) : (s.fail c x).e ≠ 0 := by
  rw [Rd.fail, if_pos ⟨h, hx⟩]; exact hx
theorem zmf {c : Bool} {m : Nat} {s : Rd} (h : (zcM c m s).2.e = 0) : s.e = 0 ∧ s.b = zbc (zcM c m s).1 ++ (zcM c m s).2.b := by
  unfold zcM at h ⊢
  by_cases h0 : s.e = 0
  · rw [if_pos h0] at h ⊢
    refine ⟨h0, ?_⟩
    cases e : zjm m 0 0 s.b with
    | ok x =>
      obtain ⟨n, r⟩ := x
      obtain ⟨q, h1, h2, _⟩ := zop m s.b 0 0 n r (by omega) e
      simp only [Nat.pow_zero, Nat.mul_one, Nat.zero_add] at h1
      simp only
      rw [h1]; exact h2
    | error x =>
      rw [e] at h
      exact absurd h (fail_ne h0 (numR_err e))
  · rw [if_neg h0] at h; exact absurd h h0
theorem zjy (c : Bool) {m n : Nat} (hm : n ≤ m) (hn : n < 18446744073709551616) (r : List UInt8) : zcM c m ⟨zbc n ++ r, 0⟩ = (n, ⟨r, 0⟩) := by
  have := numR_put m n 0 0 r (by omega) (by simp; omega) (by omega) (by simp; omega)
  simp only [Nat.pow_zero, Nat.mul_one, Nat.zero_add] at this
  simp only [zcM, if_true, this]

theorem zmF : ∀ (f : Nat) (s : List UInt8) (n : Nat), zdX f s = some n → s.length ≤ 4 * n
  | 0, _, _, h => by simp [zdX] at h
  | f + 1, s, n, h => by
    simp only [zdX] at h
    split at h
    · rename_i h0; cases h; simp [h0]
    · split at h
      · cases h
      · simp only [Option.map_eq_some_iff] at h
        obtain ⟨m, hm, rfl⟩ := h
        have := zmF f _ m hm
        have h4 := (zhW s).2.1
        simp only [List.length_drop] at *
        omega
theorem name_len {s : List UInt8} (h : zcu s = true) : s.length ≤ 64 := by
  simp only [zcu, zix, decide_eq_true_eq] at h
  cases e : zdX (s.length + 1) s with
  | none => simp [e] at h
  | some n =>
    have := zmF _ s n e
    simp only [e] at h
    by_cases h16 : n > 16
    · simp [h16] at h
    · omega

structure zX where
  name : List UInt8
  base : Int
  recs : List (List UInt8)
  groups : List (List UInt8 × Int)
structure zao where
  l : List zX
  last : List (Int × Int × Int)
def zcI : zao := ⟨[], List.replicate 8 (0, 0, 0)⟩
abbrev groupD (g : List UInt8 × Int) : List D := [.str g.1, .int .i64 g.2]
abbrev groupsE (l : List (List UInt8 × Int)) : List (List D) := l.map groupD
def zX.next (x : zX) : Int := x.base + x.recs.length
def atF (n : List UInt8) : List zX → Nat → Option Nat
  | [], _ => none
  | x :: r, i => if (x.name == n) = true then some i else atF n r (i + 1)
def zmZ (n : List UInt8) : List zX → Nat
  | [] => 0
  | x :: r => if Op.bytesLess x.name n = true then zmZ n r + 1 else 0
def zkB (n : List UInt8) : List (List UInt8 × Int) → Nat
  | [] => 0
  | g :: r => if Op.bytesLess g.1 n = true then zkB n r + 1 else 0
abbrev TRes := Int × Int
def zcn (T : zao) (n : List UInt8) : TRes × zao :=
  if (atF n T.l 0).isSome then ((5, 0), T) else if 8 ≤ T.l.length then ((6, 0), T)
  else ((0, 0), { T with l := T.l.take (zmZ n T.l) ++ ⟨n, 0, [], []⟩ :: T.l.drop (zmZ n T.l) })
def zdD (t : List UInt8) (o : Int) : List (List UInt8) → List zcA
  | [] => []
  | r :: l => ⟨t, o, r⟩ :: zdD t (o + 1) l
def zdC (T : zao) (i : Nat) (x : zX) (o : TOp) : TRes × List zcA × zao :=
  if 64 < x.recs.length + o.recs.length ∨ 9007199254740992 - (o.recs.length : Int) < x.next then ((71, 0), [], T)
  else ((0, x.next), zdD x.name x.next o.recs, { T with l := T.l.set i { x with recs := x.recs ++ o.recs } })
def hadG (n : List UInt8) (l : List (List UInt8 × Int)) : Option Int := match l[zkB n l]? with
  | some g => if (g.1 == n) = true then some g.2 else none
  | none => none
def zdn (T : zao) (i : Nat) (x : zX) (o : TOp) : TRes × zao :=
  if o.offset < (hadG o.group x.groups).getD 0 ∨ x.next < o.offset then ((72, 0), T)
  else if (hadG o.group x.groups).isSome = false ∧ 8 ≤ x.groups.length then ((6, 0), T)
  else ((0, o.offset), { T with l := T.l.set i { x with groups := x.groups.take (zkB o.group x.groups) ++ (o.group, o.offset) :: x.groups.drop (zkB o.group x.groups + if (hadG o.group x.groups).isSome then 1 else 0) } })
def zlN (T : zao) (i : Nat) (x : zX) (o : TOp) : TRes × zao :=
  if o.offset < x.base ∨ x.next < o.offset then ((72, 0), T)
  else ((0, o.offset), { T with l := T.l.set i { x with recs := x.recs.drop (o.offset - x.base).toNat, base := o.offset } })
def zbB (T : zao) (o : TOp) : TRes × List zcA × zao :=
  if zai zcu o ≠ 0 then ((zai zcu o, 0), [], T)
  else if o.kind = 0 then ((0, 0), [], T)
  else if o.kind = 1 then ((zcn T o.topic).1, [], (zcn T o.topic).2)
  else match atF o.topic T.l 0 with
    | none => ((4, 0), [], T)
    | some i => match T.l[i]? with
      | none => ((4, 0), [], T)
      | some x => if o.kind = 2 then zdC T i x o
        else if o.kind = 3 then ((zdn T i x o).1, [], (zdn T i x o).2)
        else ((zlN T i x o).1, [], (zlN T i x o).2)
def zbK (T : zao) (c tm : Int) (o : TOp) : TRes × List zcA × Bool × zao :=
  if c < 0 ∨ 8 ≤ c ∨ tm < 1 ∨ 9007199254740992 < tm then ((1, 0), [], false, T)
  else if tm = (T.last.getD c.toNat (0, 0, 0)).1 then ((T.last.getD c.toNat (0, 0, 0)).2, [], false, T)
  else if tm < (T.last.getD c.toNat (0, 0, 0)).1 then ((7, 0), [], false, T)
  else ((zbB T o).1, (zbB T o).2.1, true, { (zbB T o).2.2 with last := (zbB T o).2.2.last.set c.toNat (tm, (zbB T o).1.1, (zbB T o).1.2) })
theorem znO (T : zao) (o : TOp) : (zbB T o).2.2.last = T.last := by
  unfold zbB zcn zdC zdn zlN
  repeat' (first | rfl | split)
theorem zku (t : List UInt8) : ∀ (l : List (List UInt8)) (o : Int), (zdD t o l).length = l.length
  | [], _ => rfl
  | _ :: l, o => by simp [zdD, zku t l]
theorem zmc (t : List UInt8) : ∀ (l : List (List UInt8)) (o : Int) (r : List UInt8), zdD t o (l ++ [r]) = zdD t o l ++ [⟨t, o + l.length, r⟩]
  | [], o, r => by simp [zdD]
  | a :: l, o, r => by
    simp only [List.cons_append, zdD, zmc t l (o + 1) r, List.length_cons]
    congr 3
    simp; omega
abbrev topD (x : zX) : List D := [.str x.name, .int .i64 x.base, .slice (zbM x.recs), .slice (groupsE x.groups)]
abbrev topsE (l : List zX) : List (List D) := l.map topD
abbrev flatA (es : List (List D)) : List AV := es.flatten.map .d
structure TopI (x : zX) : Prop where
  base : 0 ≤ x.base
  next : x.next ≤ 9007199254740992
  recs : x.recs.length ≤ 64
  groups : x.groups.length ≤ 8
  name : x.name.length ≤ 64
  each : ∀ r ∈ x.recs, r.length ≤ 64
  gs : ∀ g ∈ x.groups, g.1.length ≤ 64 ∧ 0 ≤ g.2 ∧ g.2 ≤ 9007199254740992
structure zdT (T : zao) : Prop where
  len : T.l.length ≤ 8
  tops : ∀ x ∈ T.l, TopI x
theorem zdT.none : zdT zcI := ⟨by simp [zcI], by simp [zcI]⟩
theorem check0 {o : TOp} (h : zai zcu o = 0) : 0 ≤ o.offset ∧ o.offset ≤ 9007199254740992 ∧ (o.kind ≠ 0 → zcu o.topic = true) ∧ (o.kind = 3 → zcu o.group = true) ∧ (o.kind = 2 → ∀ r ∈ o.recs, r.length ≤ 64) := by
  unfold zai at h
  split at h
  · cases h
  · split at h
    · cases h
    · rename_i h2
      split at h
      · cases h
      · rename_i h3
        split at h
        · cases h
        · rename_i h4
          split at h
          · cases h
          · rename_i h5
            refine ⟨by omega, by omega, fun hk => by simpa [hk] using h2, fun hk => by simpa [hk] using h3, fun hk r hr => ?_⟩
            have : ¬ (o.recs.any (fun r => decide (r.length > 64)) = true) := fun e => h4 ⟨hk, .inr (.inr e)⟩
            simp only [List.any_eq_true, decide_eq_true_eq, not_exists, not_and] at this
            have := this r hr
            omega
theorem zhQ {α : Type} {l : List α} {i : Nat} {x y : α} (h : y ∈ l.set i x) : y ∈ l ∨ y = x := List.mem_or_eq_of_mem_set h
theorem doesI {T : zao} (h : zdT T) (o : TOp) : zdT (zbB T o).2.2 := by
  unfold zbB
  split
  · exact h
  · rename_i hc
    have hc : zai zcu o = 0 := by simpa using hc
    obtain ⟨q1, q2, q3, q4, q5⟩ := check0 hc
    split
    · exact h
    · rename_i k0
      have hn := name_len (q3 k0)
      split
      · unfold zcn
        split
        · exact h
        · split
          · exact h
          · refine ⟨by simp only [List.length_append, List.length_take, List.length_cons, List.length_drop]; omega, fun x hx => ?_⟩
            rcases List.mem_append.1 hx with hx | hx
            · exact h.tops x (List.mem_of_mem_take hx)
            · rcases List.mem_cons.1 hx with rfl | hx
              · exact ⟨by simp, by simp [zX.next], by simp, by simp, hn, by simp, by simp⟩
              · exact h.tops x (List.mem_of_mem_drop hx)
      · split
        · exact h
        · rename_i i _
          split
          · exact h
          · rename_i x hx
            have hX := h.tops x (List.mem_of_getElem? hx)
            have a1 := hX.base; have a2 := hX.next; have a3 := hX.recs; have a4 := hX.groups
            split
            · rename_i k2
              unfold zdC
              split
              · exact h
              · rename_i hq
                refine ⟨by simpa using h.len, fun y hy => ?_⟩
                rcases zhQ hy with hy | rfl
                · exact h.tops y hy
                · have e : x.next = x.base + x.recs.length := rfl
                  refine ⟨a1, by simp only [zX.next, List.length_append]; omega, by simp; omega, a4, hX.name, fun r hr => ?_, hX.gs⟩
                  rcases List.mem_append.1 hr with hr | hr
                  · exact hX.each r hr
                  · exact q5 k2 r hr
            · split
              · rename_i k3
                have hg := name_len (q4 k3)
                unfold zdn
                split
                · exact h
                · split
                  · exact h
                  · rename_i h6 h7
                    refine ⟨by simpa using h.len, fun y hy => ?_⟩
                    rcases zhQ hy with hy | rfl
                    · exact h.tops y hy
                    · refine ⟨a1, a2, a3, ?_, hX.name, hX.each, fun g hg' => ?_⟩
                      · simp only [List.length_append, List.length_take, List.length_cons, List.length_drop]
                        cases hh : hadG o.group x.groups with
                        | none => simp [hh] at h7 ⊢; omega
                        | some v =>
                          have : zkB o.group x.groups < x.groups.length := by
                            rw [hadG] at hh
                            split at hh
                            · rename_i g0 hg0; exact (List.getElem?_eq_some_iff.1 hg0).1
                            · cases hh
                          simp; omega
                      · rcases List.mem_append.1 hg' with hg' | hg'
                        · exact hX.gs g (List.mem_of_mem_take hg')
                        · rcases List.mem_cons.1 hg' with rfl | hg'
                          · exact ⟨hg, q1, q2⟩
                          · exact hX.gs g (List.mem_of_mem_drop hg')
              · unfold zlN
                split
                · exact h
                · rename_i h6
                  refine ⟨by simpa using h.len, fun y hy => ?_⟩
                  rcases zhQ hy with hy | rfl
                  · exact h.tops y hy
                  · have e : x.next = x.base + x.recs.length := rfl
                    exact ⟨q1, by simp only [zX.next, List.length_drop]; omega, by simp; omega, a4, hX.name, fun r hr => hX.each r (List.mem_of_mem_drop hr), hX.gs⟩
theorem applyI {T : zao} (h : zdT T) (c tm : Int) (o : TOp) : zdT (zbK T c tm o).2.2.2 := by
  unfold zbK
  split
  · exact h
  · split
    · exact h
    · split
      · exact h
      · exact ⟨(doesI h o).len, (doesI h o).tops⟩
def groupB (g : List UInt8 × Int) : List UInt8 := zjl g.1 ++ zbc g.2.toNat
def zeh (l : List (List UInt8 × Int)) : List UInt8 := (l.map groupB).flatten
def topB (x : zX) : List UInt8 := zjl x.name ++ (zbc x.base.toNat ++ (zbc x.recs.length ++ (zeD x.recs ++ (zbc x.groups.length ++ zeh x.groups))))
def ziw (l : List zX) : List UInt8 := (l.map topB).flatten
def lastB (a : Int × Int × Int) : List UInt8 := zbc a.1.toNat ++ (zbc a.2.1.toNat ++ zbc a.2.2.toNat)
def zgl (l : List (Int × Int × Int)) : List UInt8 := (l.map lastB).flatten
def zdc (T : zao) : List UInt8 := zbc T.l.length ++ (ziw T.l ++ zgl T.last)
theorem ziV {α : Type} {f : α → List UInt8} {n : Nat} : ∀ {l : List α}, (∀ x ∈ l, (f x).length ≤ n) → ((l.map f).flatten).length ≤ l.length * n
  | [], _ => by simp
  | x :: l, h => by
    have h1 := h x List.mem_cons_self
    have h2 := ziV (l := l) fun y hy => h y (List.mem_cons_of_mem _ hy)
    simp only [List.map_cons, List.flatten_cons, List.length_append, List.length_cons, Nat.add_mul, Nat.one_mul]
    omega
theorem znE {g : List UInt8 × Int} (h : g.1.length ≤ 64 ∧ 0 ≤ g.2 ∧ g.2 ≤ 9007199254740992) : (groupB g).length ≤ 84 := by
  have h1 := zdB (x := g.1) (by omega)
  have h2 := zk (n := g.2.toNat) (by omega)
  simp only [groupB, List.length_append]; omega
theorem topB_len {x : zX} (h : TopI x) : (topB x).length ≤ 5600 := by
  have h1 := zdB (x := x.name) (by have := h.name; omega)
  have e : x.next = x.base + x.recs.length := rfl
  have a1 := h.base; have a2 := h.next; have a3 := h.recs; have a4 := h.groups; have a5 := h.name
  have h2 := zk (n := x.base.toNat) (by omega)
  have h3 := zk (n := x.recs.length) (by omega)
  have h4 := zk (n := x.groups.length) (by omega)
  have h5 : (zeD x.recs).length ≤ x.recs.length * 74 := ziV fun r hr => by have := h.each r hr; have := zdB (x := r) (by omega); omega
  have h6 : (zeh x.groups).length ≤ x.groups.length * 84 := ziV fun g hg => znE (h.gs g hg)
  simp only [topB, List.length_append]; omega
theorem zno {l : List zX} (h : ∀ x ∈ l, TopI x) : (ziw l).length ≤ l.length * 5600 := ziV fun x hx => topB_len (h x hx)
def zmT (l : List (Int × Int × Int)) : Prop := ∀ a ∈ l, (0 ≤ a.1 ∧ a.1 ≤ 9007199254740992) ∧ (0 ≤ a.2.1 ∧ a.2.1 ≤ 9007199254740992) ∧ (0 ≤ a.2.2 ∧ a.2.2 ≤ 9007199254740992)
theorem lastB_len {a : Int × Int × Int} (h : (0 ≤ a.1 ∧ a.1 ≤ 9007199254740992) ∧ (0 ≤ a.2.1 ∧ a.2.1 ≤ 9007199254740992) ∧ (0 ≤ a.2.2 ∧ a.2.2 ≤ 9007199254740992)) : (lastB a).length ≤ 30 := by
  have h1 := zk (n := a.1.toNat) (by omega)
  have h2 := zk (n := a.2.1.toNat) (by omega)
  have h3 := zk (n := a.2.2.toNat) (by omega)
  simp only [lastB, List.length_append]; omega
theorem znD {l : List (Int × Int × Int)} (h : zmT l) : (zgl l).length ≤ l.length * 30 := ziV fun a ha => lastB_len (h a ha)
def zag : zao → List zi → List zcA × zao
  | T, [] => ([], T)
  | T, x :: r => ((zbK T x.client x.time x.op).2.1 ++ (zag (zbK T x.client x.time x.op).2.2.2 r).1, (zag (zbK T x.client x.time x.op).2.2.2 r).2)
theorem zjW (x : zi) : ∀ (l : List zi) (T : zao), zag T (l ++ [x]) = ((zag T l).1 ++ (zbK (zag T l).2 x.client x.time x.op).2.1, (zbK (zag T l).2 x.client x.time x.op).2.2.2)
  | [], T => by simp [zag]
  | y :: l, T => by
    simp only [List.cons_append, zag, zjW x l, List.append_assoc]
theorem applyAllI : ∀ (l : List zi) {T : zao}, zdT T → zdT (zag T l).2
  | [], _, h => h
  | x :: l, _, h => applyAllI l (applyI h x.client x.time x.op)
theorem checkOp_rng (n : List UInt8 → Bool) (o : TOp) : 0 ≤ zai n o ∧ zai n o ≤ 100 := by
  unfold zai
  repeat' split
  all_goals omega
theorem doesR {T : zao} (h : zdT T) (o : TOp) : (0 ≤ (zbB T o).1.1 ∧ (zbB T o).1.1 ≤ 9007199254740992) ∧ (0 ≤ (zbB T o).1.2 ∧ (zbB T o).1.2 ≤ 9007199254740992) := by
  unfold zbB
  split
  · have := checkOp_rng zcu o
    exact ⟨⟨this.1, by simp only; omega⟩, by simp, by simp⟩
  · rename_i hc
    have hc : zai zcu o = 0 := by simpa using hc
    obtain ⟨q1, q2, _⟩ := check0 hc
    split
    · simp
    · split
      · unfold zcn
        repeat' split
        all_goals simp
      · split
        · simp
        · split
          · simp
          · rename_i x hx
            have hX := h.tops x (List.mem_of_getElem? hx)
            have a1 := hX.base; have a2 := hX.next
            have e : x.next = x.base + x.recs.length := rfl
            split
            · unfold zdC
              split
              · simp
              · exact ⟨by simp, by simp only; omega, by simp only; omega⟩
            · split
              · unfold zdn
                repeat' split
                all_goals first | simp; done | exact ⟨by simp, q1, q2⟩
              · unfold zlN
                split
                · simp
                · exact ⟨by simp, q1, q2⟩
theorem applyL {T : zao} (h : zdT T) (hL : zmT T.last) (c tm : Int) (o : TOp) : zmT (zbK T c tm o).2.2.2.last := by
  unfold zbK
  split
  · exact hL
  · rename_i h1
    split
    · exact hL
    · split
      · exact hL
      · intro a ha
        rcases zhQ ha with ha | rfl
        · rw [znO] at ha; exact hL a ha
        · exact ⟨by simp only; omega, doesR h o⟩
theorem applyAllL : ∀ (l : List zi) {T : zao}, zdT T → zmT T.last → zmT (zag T l).2.last
  | [], _, _, h => h
  | x :: l, _, hI, h => applyAllL l (applyI hI x.client x.time x.op) (applyL hI h x.client x.time x.op)
def PlI (p : zcA) : Prop := 0 ≤ p.offset ∧ p.offset ≤ 9007199254740992 ∧ p.topic.length ≤ 64 ∧ p.rec_.length ≤ 64
theorem placeI {t : List UInt8} (ht : t.length ≤ 64) : ∀ {l : List (List UInt8)} {o : Int}, 0 ≤ o → o + l.length ≤ 9007199254740992 → (∀ r ∈ l, r.length ≤ 64) → ∀ p ∈ zdD t o l, PlI p
  | [], _, _, _, _, p, h => by simp [zdD] at h
  | r :: l, o, h0, h1, h2, p, h => by
    simp only [List.length_cons] at h1
    rcases List.mem_cons.1 h with rfl | h
    · exact ⟨h0, by simp only; omega, ht, h2 r List.mem_cons_self⟩
    · exact placeI ht (l := l) (o := o + 1) (by omega) (by omega) (fun r hr => h2 r (List.mem_cons_of_mem _ hr)) p h
theorem doesP {T : zao} (h : zdT T) (o : TOp) : (∀ p ∈ (zbB T o).2.1, PlI p) ∧ (zbB T o).2.1.length ≤ 64 := by
  unfold zbB
  split
  · simp
  · rename_i hc
    have hc : zai zcu o = 0 := by simpa using hc
    obtain ⟨q1, q2, q3, q4, q5⟩ := check0 hc
    split
    · simp
    · split
      · simp
      · split
        · simp
        · split
          · simp
          · rename_i x hx
            have hX := h.tops x (List.mem_of_getElem? hx)
            have a1 := hX.base; have a2 := hX.next
            have e : x.next = x.base + x.recs.length := rfl
            split
            · rename_i k2
              unfold zdC
              split
              · simp
              · exact ⟨placeI hX.name (by omega) (by omega) (q5 k2), by simp only [zku]; omega⟩
            · split <;> simp
theorem applyP {T : zao} (h : zdT T) (c tm : Int) (o : TOp) : (∀ p ∈ (zbK T c tm o).2.1, PlI p) ∧ (zbK T c tm o).2.1.length ≤ 64 := by
  unfold zbK
  repeat' split
  all_goals first | (simp; done) | exact doesP h o
theorem zmO : ∀ (l : List zi) {T : zao}, zdT T → (∀ p ∈ (zag T l).1, PlI p) ∧ (zag T l).1.length ≤ l.length * 64
  | [], _, _ => by simp [zag]
  | x :: l, T, h => by
    obtain ⟨h1, h2⟩ := applyP h x.client x.time x.op
    obtain ⟨h3, h4⟩ := zmO l (applyI h x.client x.time x.op)
    refine ⟨fun p hp => ?_, by simp only [zag, List.length_append, List.length_cons, Nat.add_mul]; omega⟩
    rcases List.mem_append.1 hp with hp | hp
    · exact h1 p hp
    · exact h3 p hp

theorem less_lt : ∀ (x y : List UInt8), Op.bytesLess x y = decide (x < y)
  | [], [] => by simp [Op.bytesLess]
  | _ :: _, [] => by simp [Op.bytesLess]
  | [], _ :: _ => by simp [Op.bytesLess]
  | a :: x, b :: y => by
    rw [Op.bytesLess, less_lt x y]
    simp only [List.cons_lt_cons_iff]
    by_cases h1 : a < b <;> by_cases h2 : a = b <;> by_cases h3 : x < y <;> simp [h1, h2, h3]
abbrev ltN (a b : List UInt8) : Prop := Op.bytesLess a b = true
theorem zot {a b : List UInt8} : ltN a b ↔ a < b := by rw [ltN, less_lt]; simp
theorem ltN_irr (a : List UInt8) : ¬ ltN a a := by rw [zot]; exact List.lt_irrefl a
theorem ltN_trans {a b c : List UInt8} (h : ltN a b) (h' : ltN b c) : ltN a c := by rw [zot] at *; exact List.lt_trans h h'
theorem ltN_total {a b : List UInt8} (h : ¬ ltN a b) (hne : a ≠ b) : ltN b a := by
  rw [zot] at *
  have h1 : b ≤ a := List.not_lt.1 h
  rcases List.le_iff_lt_or_eq.1 h1 with h2 | h2
  · exact h2
  · exact absurd h2.symm hne
section

variable {α : Type} (f : α → List UInt8)

def zml (n : List UInt8) : List α → Nat
  | [] => 0
  | x :: r => if Op.bytesLess (f x) n = true then zml n r + 1 else 0
def zfG (l : List α) : Prop := (l.map f).Pairwise ltN
variable {f}

theorem zfG.nodup {l : List α} (h : zfG f l) : (l.map f).Nodup := by
  refine List.Pairwise.imp (fun {a b} hab e => ?_) h
  subst e
  exact ltN_irr _ hab
theorem zhK {a : α} {r : List α} : zfG f (a :: r) ↔ (∀ b ∈ r, ltN (f a) (f b)) ∧ zfG f r := by
  rw [zfG, List.map_cons, List.pairwise_cons]
  constructor
  · rintro ⟨h1, h2⟩; exact ⟨fun b hb => h1 _ (List.mem_map_of_mem hb), h2⟩
  · rintro ⟨h1, h2⟩
    refine ⟨fun b hb => ?_, h2⟩
    obtain ⟨c, hc, rfl⟩ := List.mem_map.1 hb
    exact h1 c hc
theorem zmk {n : List UInt8} {x : α} (hx : f x = n) : ∀ {l : List α}, zfG f l → (∀ a ∈ l, f a ≠ n) → zfG f (l.take (zml f n l) ++ x :: l.drop (zml f n l))
  | [], _, _ => by simp [zfG, zml]
  | a :: r, h, hn => by
    obtain ⟨h1, h2⟩ := zhK.1 h
    simp only [zml]
    split
    · rename_i ha
      simp only [List.take_succ_cons, List.drop_succ_cons, List.cons_append]
      refine zhK.2 ⟨fun b hb => ?_, zmk hx h2 fun a ha => hn a (List.mem_cons_of_mem _ ha)⟩
      rcases List.mem_append.1 hb with hb | hb
      · exact h1 b (List.mem_of_mem_take hb)
      · rcases List.mem_cons.1 hb with rfl | hb
        · rw [hx]; exact ha
        · exact h1 b (List.mem_of_mem_drop hb)
    · rename_i ha
      simp only [List.take_zero, List.drop_zero, List.nil_append]
      have hna : ltN n (f a) := ltN_total ha (hn a List.mem_cons_self)
      refine zhK.2 ⟨fun b hb => ?_, h⟩
      rw [hx]
      rcases List.mem_cons.1 hb with rfl | hb
      · exact hna
      · exact ltN_trans hna (h1 b hb)
theorem zhk {n : List UInt8} : ∀ {l : List α}, zfG f l → ∀ {x : α}, x ∈ l → f x = n → l[zml f n l]? = some x
  | [], _, _, h, _ => by cases h
  | a :: r, h, x, hx, e => by
    obtain ⟨h1, h2⟩ := zhK.1 h
    simp only [zml]
    rcases List.mem_cons.1 hx with rfl | hx
    · rw [if_neg (by rw [e]; exact ltN_irr n)]; rfl
    · have := h1 x hx
      rw [e] at this
      rw [if_pos this, List.getElem?_cons_succ]
      exact zhk h2 hx e
theorem sortK_set {l : List α} (h : zfG f l) {k : Nat} {x y : α} (hx : l[k]? = some x) (e : f y = f x) : zfG f (l.set k y) := by
  rw [zfG, List.map_set, e]
  have : (l.map f).set k (f x) = l.map f := by
    apply List.ext_getElem?
    intro i
    rw [List.getElem?_set]
    split
    · rename_i hi
      subst hi
      split
      · rw [List.getElem?_map, hx]; rfl
      · rename_i hk
        have := (List.getElem?_eq_some_iff.1 hx).1
        simp at hk; omega
    · rfl
  rw [this]; exact h
theorem zlU {l : List α} (h : zfG f l) {x y : α} (hx : x ∈ l) (hy : y ∈ l) (e : f x = f y) : x = y := by
  have h1 := zhk h hx rfl
  have h2 := zhk h hy e.symm
  rw [h1] at h2; exact Option.some.inj h2
end

theorem lessN_K (n : List UInt8) : ∀ l, zmZ n l = zml zX.name n l
  | [] => rfl
  | x :: r => by simp only [zmZ, zml, lessN_K n r]
theorem zov (n : List UInt8) : ∀ l, zkB n l = zml Prod.fst n l
  | [] => rfl
  | x :: r => by simp only [zkB, zml, zov n r]

def zhn (n : List UInt8) : List (List UInt8 × Int) → Nat → Option (Nat × Int)
  | [], _ => none
  | g :: r, i => if n = g.1 then some (i, g.2) else zhn n r (i + 1)
def putA (n : List UInt8) (v : Int) (l : List (List UInt8 × Int)) : List (List UInt8 × Int) := match zhn n l 0 with
  | some (k, _) => l.set k (n, v)
  | none => l ++ [(n, v)]
theorem zhU {n : List UInt8} : ∀ {l : List (List UInt8 × Int)} {i k : Nat} {v : Int}, zhn n l i = some (k, v) → ∃ j, k = i + j ∧ l[j]? = some (n, v)
  | [], _, _, _, h => by simp [zhn] at h
  | g :: r, i, k, v, h => by
    simp only [zhn] at h
    split at h
    · rename_i e; cases h; exact ⟨0, rfl, by rw [e]; rfl⟩
    · obtain ⟨j, h1, h2⟩ := zhU h
      exact ⟨j + 1, by omega, by simpa using h2⟩
theorem zhV {n : List UInt8} : ∀ {l : List (List UInt8 × Int)} {i : Nat}, zhn n l i = none → ∀ g ∈ l, g.1 ≠ n
  | [], _, _, g, hg => by cases hg
  | a :: r, i, h, g, hg => by
    simp only [zhn] at h
    split at h
    · cases h
    · rename_i e
      rcases List.mem_cons.1 hg with rfl | hg
      · exact fun e' => e e'.symm
      · exact zhV h g hg
structure GR (G L : List (List UInt8 × Int)) : Prop where
  len : G.length = L.length
  sort : zfG Prod.fst L
  nod : (G.map Prod.fst).Nodup
  mem : ∀ a, a ∈ G ↔ a ∈ L
theorem GR.nil : GR [] [] := ⟨rfl, by simp [zfG], by simp, by simp⟩
theorem zhf {α β : Type} {f : α → β} : ∀ {l : List α}, (l.map f).Nodup → ∀ {i j : Nat} {a b : α}, l[i]? = some a → l[j]? = some b → f a = f b → i = j := by
  intro l h i j a b hi hj e
  have h1 : (l.map f)[i]? = some (f a) := by rw [List.getElem?_map, hi]; rfl
  have h2 : (l.map f)[j]? = some (f a) := by rw [List.getElem?_map, hj, e]; rfl
  obtain ⟨g1, g2⟩ := List.getElem?_eq_some_iff.1 h1
  obtain ⟨g3, g4⟩ := List.getElem?_eq_some_iff.1 h2
  rcases Nat.lt_trichotomy i j with hij | hij | hij
  · exact absurd (g2.trans g4.symm) (List.pairwise_iff_getElem.1 h i j g1 g3 hij)
  · exact hij
  · exact absurd (g4.trans g2.symm) (List.pairwise_iff_getElem.1 h j i g3 g1 hij)
theorem GR.had {G L : List (List UInt8 × Int)} (h : GR G L) (n : List UInt8) : hadG n L = (zhn n G 0).map Prod.snd := by
  cases hf : zhn n G 0 with
  | none =>
    have h1 := zhV hf
    unfold hadG
    split
    · rename_i g hg
      rw [if_neg]; rfl
      intro e
      exact h1 g ((h.mem g).2 (List.mem_of_getElem? hg)) (by simpa using e)
    · rfl
  | some q =>
    obtain ⟨k, v⟩ := q
    obtain ⟨j, rfl, hj⟩ := zhU hf
    have h2 := (h.mem _).1 (List.mem_of_getElem? hj)
    unfold hadG
    rw [zov, zhk h.sort h2 rfl]
    simp
theorem zcC {α : Type} {l : List α} {k : Nat} {x y : α} : y ∈ l.set k x → y = x ∨ ∃ j, j ≠ k ∧ l[j]? = some y := by
  intro h
  obtain ⟨j, hj⟩ := List.mem_iff_getElem?.1 h
  by_cases e : j = k
  · subst e
    have hl : j < l.length := by have := (List.getElem?_eq_some_iff.1 hj).1; simpa using this
    rw [List.getElem?_set_self hl] at hj
    exact .inl (Option.some.inj hj).symm
  · rw [List.getElem?_set_ne (Ne.symm e)] at hj
    exact .inr ⟨j, e, hj⟩
theorem zhR {α : Type} {l : List α} {j k : Nat} {x y : α} (h : l[j]? = some y) (e : j ≠ k) : y ∈ l.set k x :=
  List.mem_iff_getElem?.2 ⟨j, by rw [List.getElem?_set_ne (Ne.symm e)]; exact h⟩
theorem mem_set_self' {α : Type} {l : List α} {k : Nat} {x y : α} (h : l[k]? = some y) : x ∈ l.set k x :=
  List.mem_iff_getElem?.2 ⟨k, by rw [List.getElem?_set_self (List.getElem?_eq_some_iff.1 h).1]⟩
theorem zob {α : Type} {l : List α} {k : Nat} {x y : α} (h : l[k]? = some y) : l.take k ++ x :: l.drop (k + 1) = l.set k x := by
  rw [List.set_eq_take_append_cons_drop, if_pos (List.getElem?_eq_some_iff.1 h).1]
theorem zmi {α : Type} {f : α → List UInt8} {l : List α} {k : Nat} {x y : α} (hx : l[k]? = some x) (e : f y = f x) : (l.set k y).map f = l.map f := by
  rw [List.map_set, e]
  apply List.ext_getElem?
  intro i
  rw [List.getElem?_set]
  split
  · rename_i hi
    subst hi
    split
    · rw [List.getElem?_map, hx]; rfl
    · rename_i hk
      have := (List.getElem?_eq_some_iff.1 hx).1
      simp at hk; omega
  · rfl
theorem GR.put {G L : List (List UInt8 × Int)} (h : GR G L) (n : List UInt8) (v : Int) : GR (putA n v G) (L.take (zkB n L) ++ (n, v) :: L.drop (zkB n L + if (hadG n L).isSome then 1 else 0)) := by
  have hh := h.had n
  unfold putA
  cases hf : zhn n G 0 with
  | none =>
    have h1 := zhV hf
    have hL : ∀ a ∈ L, a.1 ≠ n := fun a ha => h1 a ((h.mem a).2 ha)
    rw [hf] at hh
    rw [hh]
    simp only [Option.map_none, Option.isSome_none, Bool.false_eq_true, if_false, Nat.add_zero]
    refine ⟨?_, ?_, ?_, fun a => ?_⟩
    · have := List.take_append_drop (zkB n L) L
      have h3 := congrArg List.length this
      have h4 := h.len
      simp only [List.length_append, List.length_cons, List.length_nil] at h3 ⊢; omega
    · rw [zov]; exact zmk (f := Prod.fst) (x := (n, v)) rfl h.sort hL
    · rw [List.map_append, List.nodup_append]
      refine ⟨h.nod, by simp, ?_⟩
      intro a ha b hb
      simp at hb; subst hb
      obtain ⟨c, hc, rfl⟩ := List.mem_map.1 ha
      exact h1 c hc
    · have := List.take_append_drop (zkB n L) L
      rw [List.mem_append, h.mem]
      constructor
      · rintro (ha | ha)
        · rw [← this] at ha
          rcases List.mem_append.1 ha with ha | ha <;> simp [ha]
        · simp at ha; subst ha; simp
      · intro ha
        rcases List.mem_append.1 ha with ha | ha
        · exact .inl (List.mem_of_mem_take ha)
        · rcases List.mem_cons.1 ha with rfl | ha
          · simp
          · exact .inl (List.mem_of_mem_drop ha)
  | some q =>
    obtain ⟨k, w⟩ := q
    obtain ⟨j, rfl, hj⟩ := zhU hf
    have hm := (h.mem _).1 (List.mem_of_getElem? hj)
    have hL := zhk h.sort hm rfl
    rw [hf] at hh
    rw [hh]
    simp only [Option.map_some, Option.isSome_some, if_true, Nat.zero_add]
    rw [zov]
    simp only at hL
    rw [zob hL]
    refine ⟨by simp [h.len], sortK_set h.sort hL rfl, by rw [zmi (f := Prod.fst) (y := (n, v)) hj rfl]; exact h.nod, fun a => ?_⟩
    constructor
    · intro ha
      rcases zcC ha with rfl | ⟨i, hi, hx⟩
      · exact mem_set_self' hL
      · have := (h.mem a).1 (List.mem_of_getElem? hx)
        obtain ⟨i2, hi2⟩ := List.mem_iff_getElem?.1 this
        refine zhR hi2 fun e => hi ?_
        subst e
        rw [hL] at hi2; cases hi2
        exact zhf h.nod hx hj rfl
    · intro ha
      rcases zcC ha with rfl | ⟨i, hi, hx⟩
      · exact mem_set_self' hj
      · have := (h.mem a).2 (List.mem_of_getElem? hx)
        obtain ⟨i2, hi2⟩ := List.mem_iff_getElem?.1 this
        refine zhR hi2 fun e => hi ?_
        subst e
        rw [hj] at hi2; cases hi2
        exact zhf h.sort.nodup hx hL rfl

structure zcH where
  x : zX
  id : Nat
  g : Nat
  t : Nat
abbrev zcH.name (p : zcH) : List UInt8 := p.x.name
def zfr (n : List UInt8) : List zcH → Nat → Option (Nat × zcH)
  | [], _ => none
  | p :: r, i => if n = p.x.name then some (i, p) else zfr n r (i + 1)
theorem znK {n : List UInt8} : ∀ {l : List zcH} {i k : Nat} {p : zcH}, zfr n l i = some (k, p) → ∃ j, k = i + j ∧ l[j]? = some p ∧ p.x.name = n
  | [], _, _, _, h => by simp [zfr] at h
  | g :: r, i, k, v, h => by
    simp only [zfr] at h
    split at h
    · rename_i e; cases h; exact ⟨0, rfl, rfl, e.symm⟩
    · obtain ⟨j, h1, h2, h3⟩ := znK h
      exact ⟨j + 1, by omega, by simpa using h2, h3⟩
theorem zhT {n : List UInt8} : ∀ {l : List zcH} {i : Nat}, zfr n l i = none → ∀ p ∈ l, p.x.name ≠ n
  | [], _, _, g, hg => by cases hg
  | a :: r, i, h, g, hg => by
    simp only [zfr] at h
    split at h
    · cases h
    · rename_i e
      rcases List.mem_cons.1 hg with rfl | hg
      · exact fun e' => e e'.symm
      · exact zhT h g hg
structure TR (x y : zX) : Prop where
  name : x.name = y.name
  base : x.base = y.base
  recs : x.recs = y.recs
  gr : GR x.groups y.groups
theorem TR.next {x y : zX} (h : TR x y) : x.next = y.next := by rw [zX.next, h.base, h.recs]; rfl
structure Rel (X : List zcH) (T : List zX) : Prop where
  len : X.length = T.length
  sort : zfG zX.name T
  nod : (X.map zcH.name).Nodup
  fw : ∀ p ∈ X, ∃ y ∈ T, TR p.x y
  bw : ∀ y ∈ T, ∃ p ∈ X, TR p.x y
theorem Rel.nil : Rel [] [] := ⟨rfl, by simp [zfG], by simp, by simp, by simp⟩
theorem zoV {n : List UInt8} : ∀ {l : List zX} {i k : Nat}, atF n l i = some k → ∃ j y, k = i + j ∧ l[j]? = some y ∧ y.name = n
  | [], _, _, h => by simp [atF] at h
  | x :: r, i, k, h => by
    simp only [atF] at h
    split at h
    · rename_i e; cases h; exact ⟨0, x, rfl, rfl, by simpa using e⟩
    · obtain ⟨j, y, h1, h2, h3⟩ := zoV h
      exact ⟨j + 1, y, by omega, by simpa using h2, h3⟩
theorem atF_none {n : List UInt8} : ∀ {l : List zX} {i : Nat}, atF n l i = none → ∀ y ∈ l, y.name ≠ n
  | [], _, _, g, hg => by cases hg
  | a :: r, i, h, g, hg => by
    simp only [atF] at h
    split at h
    · cases h
    · rename_i e
      rcases List.mem_cons.1 hg with rfl | hg
      · simpa using e
      · exact atF_none h g hg
theorem Rel.no {X : List zcH} {T : List zX} (h : Rel X T) {n : List UInt8} (hf : zfr n X 0 = none) : atF n T 0 = none := by
  cases ha : atF n T 0 with
  | none => rfl
  | some k =>
    obtain ⟨j, y, _, h2, h3⟩ := zoV ha
    obtain ⟨p, hp, hr⟩ := h.bw y (List.mem_of_getElem? h2)
    exact absurd (hr.name.trans h3) (zhT hf p hp)
theorem Rel.yes {X : List zcH} {T : List zX} (h : Rel X T) {n : List UInt8} {i : Nat} {p : zcH} (hf : zfr n X 0 = some (i, p)) : X[i]? = some p ∧ p.x.name = n ∧ ∃ k y, atF n T 0 = some k ∧ T[k]? = some y ∧ TR p.x y := by
  obtain ⟨j, e, h1, h2⟩ := znK hf
  rw [Nat.zero_add] at e; subst e
  refine ⟨h1, h2, ?_⟩
  obtain ⟨y, hy, hr⟩ := h.fw p (List.mem_of_getElem? h1)
  cases ha : atF n T 0 with
  | none => exact absurd (hr.name.symm.trans h2) (atF_none ha y hy)
  | some k =>
    obtain ⟨j, z, e, h3, h4⟩ := zoV ha
    rw [Nat.zero_add] at e; subst e
    have : z = y := zlU h.sort (List.mem_of_getElem? h3) hy (h4.trans (h2.symm.trans hr.name))
    subst this
    exact ⟨k, z, rfl, h3, hr⟩
theorem Rel.set {X : List zcH} {T : List zX} (h : Rel X T) {i k : Nat} {p p' : zcH} {y y' : zX} (hp : X[i]? = some p) (hy : T[k]? = some y) (hr : TR p.x y) (hr' : TR p'.x y') (hn : p'.x.name = p.x.name) : Rel (X.set i p') (T.set k y') := by
  have hn' : y'.name = y.name := hr'.name.symm.trans (hn.trans hr.name)
  refine ⟨by simp [h.len], sortK_set h.sort hy hn', by rw [zmi hp hn]; exact h.nod, fun q hq => ?_, fun z hz => ?_⟩
  · rcases zcC hq with rfl | ⟨j, hj, hx⟩
    · exact ⟨y', mem_set_self' hy, hr'⟩
    · obtain ⟨z, hz, hrz⟩ := h.fw q (List.mem_of_getElem? hx)
      obtain ⟨j2, hj2⟩ := List.mem_iff_getElem?.1 hz
      refine ⟨z, zhR hj2 fun e => hj ?_, hrz⟩
      subst e
      rw [hy] at hj2; cases hj2
      exact zhf h.nod hx hp (hrz.name.trans hr.name.symm)
  · rcases zcC hz with rfl | ⟨j, hj, hx⟩
    · exact ⟨p', mem_set_self' hp, hr'⟩
    · obtain ⟨q, hq, hrq⟩ := h.bw z (List.mem_of_getElem? hx)
      obtain ⟨j2, hj2⟩ := List.mem_iff_getElem?.1 hq
      refine ⟨q, zhR hj2 fun e => hj ?_, hrq⟩
      subst e
      rw [hp] at hj2; cases hj2
      exact zhf h.sort.nodup hx hy (hrq.name.symm.trans hr.name)
theorem Rel.add {X : List zcH} {T : List zX} (h : Rel X T) {n : List UInt8} (hf : zfr n X 0 = none) {p : zcH} {y : zX} (hr : TR p.x y) (hn : y.name = n) : Rel (X ++ [p]) (T.take (zmZ n T) ++ y :: T.drop (zmZ n T)) := by
  have h1 := zhT hf
  have hT : ∀ a ∈ T, a.name ≠ n := fun a ha e => by
    obtain ⟨q, hq, hrq⟩ := h.bw a ha
    exact h1 q hq (hrq.name.trans e)
  have htd := List.take_append_drop (zmZ n T) T
  refine ⟨?_, ?_, ?_, fun q hq => ?_, fun z hz => ?_⟩
  · have h3 := congrArg List.length htd
    have h4 := h.len
    simp only [List.length_append, List.length_cons, List.length_nil] at h3 ⊢; omega
  · rw [lessN_K]; exact zmk hn h.sort hT
  · rw [List.map_append, List.nodup_append]
    refine ⟨h.nod, by simp, ?_⟩
    intro a ha b hb
    simp at hb; subst hb
    obtain ⟨c, hc, rfl⟩ := List.mem_map.1 ha
    have : p.x.name = n := hr.name.trans hn
    intro e
    exact h1 c hc (e.trans this)
  · rcases List.mem_append.1 hq with hq | hq
    · obtain ⟨z, hz, hrz⟩ := h.fw q hq
      rw [← htd] at hz
      refine ⟨z, ?_, hrz⟩
      rcases List.mem_append.1 hz with hz | hz <;> simp [hz]
    · simp at hq; subst hq
      exact ⟨y, by simp, hr⟩
  · rcases List.mem_append.1 hz with hz | hz
    · obtain ⟨q, hq, hrq⟩ := h.bw z (List.mem_of_mem_take hz)
      exact ⟨q, by simp [hq], hrq⟩
    · rcases List.mem_cons.1 hz with rfl | hz
      · exact ⟨p, by simp, hr⟩
      · obtain ⟨q, hq, hrq⟩ := h.bw z (List.mem_of_mem_drop hz)
        exact ⟨q, by simp [hq], hrq⟩

theorem nodup_le : ∀ {l m : List Nat}, l.Nodup → (∀ x ∈ l, x ∈ m) → l.length ≤ m.length
  | [], m, _, _ => by simp
  | a :: r, m, hn, hs => by
    have ha := hs a List.mem_cons_self
    obtain ⟨h1, h2⟩ := List.nodup_cons.1 hn
    have := nodup_le (l := r) (m := m.erase a) h2 fun x hx => (List.mem_erase_of_ne (a := x) (b := a) (fun e => h1 (by rw [← e]; exact hx))).2 (hs x (List.mem_cons_of_mem _ hx))
    rw [List.length_erase_of_mem ha] at this
    have := List.length_pos_of_mem ha
    simp only [List.length_cons]; omega
def zgu {α : Type} (bs : List Nat) (names : List α) (seen : List Nat) (ys : List α) : Prop :=
  seen.length = ys.length ∧ ∀ (j : Nat) (b : Nat) (y : α), seen[j]? = some b → ys[j]? = some y → ∃ i : Nat, bs[i]? = some b ∧ names[i]? = some y
theorem zgu.nil {α : Type} {bs : List Nat} {names : List α} : zgu bs names [] [] := ⟨rfl, by simp⟩
theorem zgu.snoc {α : Type} {bs : List Nat} {names : List α} {seen : List Nat} {ys : List α} (h : zgu bs names seen ys) {i b : Nat} {y : α} (h1 : bs[i]? = some b) (h2 : names[i]? = some y) : zgu bs names (seen ++ [b]) (ys ++ [y]) := by
  refine ⟨by simp [h.1], fun j c z hc hz => ?_⟩
  rw [List.getElem?_append] at hc hz
  split at hc
  · rename_i hj
    rw [if_pos (by rw [← h.1]; exact hj)] at hz
    exact h.2 j c z hc hz
  · rename_i hj
    rw [if_neg (by rw [← h.1]; exact hj)] at hz
    have e1 := (List.getElem?_eq_some_iff.1 hc).1
    simp only [List.length_cons, List.length_nil] at e1
    rw [h.1] at hc hj e1
    have e : j - ys.length = 0 := by omega
    rw [e] at hc hz
    simp at hc hz
    subst hc; subst hz
    exact ⟨i, h1, h2⟩
theorem zgu.sub {α : Type} {bs : List Nat} {names : List α} {seen : List Nat} {ys : List α} (h : zgu bs names seen ys) : ∀ b ∈ seen, b ∈ bs := by
  intro b hb
  obtain ⟨j, hj⟩ := List.mem_iff_getElem?.1 hb
  have hl := (List.getElem?_eq_some_iff.1 hj).1
  rw [h.1] at hl
  obtain ⟨i, h1, _⟩ := h.2 j b _ hj (List.getElem?_eq_getElem hl)
  exact List.mem_of_getElem? h1
theorem zgu.lt {α : Type} {bs : List Nat} {names : List α} {seen : List Nat} {ys : List α} (h : zgu bs names seen ys) (hn : seen.Nodup) (hl : bs.length = names.length) {b : Nat} (h1 : b ∈ bs) (h2 : b ∉ seen) : ys.length < names.length := by
  have := nodup_le (l := b :: seen) (m := bs) (List.nodup_cons.2 ⟨h2, hn⟩) fun x hx => by
    rcases List.mem_cons.1 hx with rfl | hx
    · exact h1
    · exact h.sub x hx
  simp only [List.length_cons] at this
  rw [← hl, ← h.1]; omega
theorem nodup_get {l : List Nat} (h : l.Nodup) {i j x : Nat} (hi : l[i]? = some x) (hj : l[j]? = some x) : i = j := by
  obtain ⟨a, b⟩ := List.getElem?_eq_some_iff.1 hi
  obtain ⟨c, d⟩ := List.getElem?_eq_some_iff.1 hj
  rcases Nat.lt_trichotomy i j with hij | hij | hij
  · exact absurd (b.trans d.symm) (List.pairwise_iff_getElem.1 h i j a c hij)
  · exact hij
  · exact absurd (d.trans b.symm) (List.pairwise_iff_getElem.1 h j i c a hij)
theorem zlL {α : Type} : ∀ {l : List Nat} {m : List α}, l.Nodup → (l.zip m).Nodup
  | [], _, _ => by simp
  | _ :: _, [], _ => by simp
  | a :: l, b :: m, h => by
    obtain ⟨h1, h2⟩ := List.nodup_cons.1 h
    rw [List.zip_cons_cons, List.nodup_cons]
    exact ⟨fun hm => h1 (List.of_mem_zip hm).1, zlL h2⟩
theorem zgu.perm {α : Type} {bs : List Nat} {names : List α} {seen : List Nat} {ys : List α} (h : zgu bs names seen ys) (hn : seen.Nodup) (hb : bs.Nodup) (hl : bs.length = names.length) (ha : ∀ b ∈ bs, b ∈ seen) : ys.Perm names := by
  have key : ∀ (i : Nat) b y, bs[i]? = some b → names[i]? = some y → (b, y) ∈ bs.zip names := fun i b y h1 h2 => List.mem_iff_getElem?.2 ⟨i, List.getElem?_zip_eq_some.2 ⟨h1, h2⟩⟩
  have hp : (seen.zip ys).Perm (bs.zip names) := by
    refine (List.perm_ext_iff_of_nodup (zlL hn) (zlL hb)).2 fun p => ?_
    obtain ⟨b, y⟩ := p
    constructor
    · intro hm
      obtain ⟨j, hj⟩ := List.mem_iff_getElem?.1 hm
      obtain ⟨h1, h2⟩ := List.getElem?_zip_eq_some.1 hj
      obtain ⟨i, h3, h4⟩ := h.2 j b y h1 h2
      exact key i b y h3 h4
    · intro hm
      obtain ⟨j, hj⟩ := List.mem_iff_getElem?.1 hm
      obtain ⟨h1, h2⟩ := List.getElem?_zip_eq_some.1 hj
      obtain ⟨k, hk⟩ := List.mem_iff_getElem?.1 (ha b (List.mem_of_getElem? h1))
      have hkl := (List.getElem?_eq_some_iff.1 hk).1
      rw [h.1] at hkl
      obtain ⟨i, h3, h4⟩ := h.2 k b _ hk (List.getElem?_eq_getElem hkl)
      have := nodup_get hb h1 h3
      subst this
      rw [h2] at h4
      refine List.mem_iff_getElem?.2 ⟨k, List.getElem?_zip_eq_some.2 ⟨hk, ?_⟩⟩
      rw [List.getElem?_eq_getElem hkl, h4]
  have := hp.map Prod.snd
  rwa [List.map_snd_zip (by rw [h.1]; exact Nat.le_refl _), List.map_snd_zip (by rw [hl]; exact Nat.le_refl _)] at this
theorem sort_names {ys L : List (List UInt8)} (hp : ys.Perm L) (hs : L.Pairwise ltN) : (ys.mergeSort fun x y => decide (x ≤ y)) = L := by
  have h1 : (ys.mergeSort fun x y => decide (x ≤ y)).Perm L := (List.mergeSort_perm ys _).trans hp
  have h2 := List.pairwise_mergeSort (le := fun x y : List UInt8 => decide (x ≤ y)) (fun a b c hab hbc => by
      simp only [decide_eq_true_eq] at *; exact List.le_trans hab hbc) (fun a b => by
      have := List.le_total a b; simpa using this) ys
  refine List.Perm.eq_of_pairwise (le := fun x y => x ≤ y) (fun a b _ _ h3 h4 => List.le_antisymm h3 h4) ?_ ?_ h1
  · exact h2.imp fun h => by simpa using h
  · exact hs.imp fun h => List.le_of_lt (zot.1 h)


def zfJ : Nat → Nat → Nat → Nat
  | 0, k, _ => k
  | f + 1, k, n => if k < n - k then zfJ f (k * 2) n else k
def zad (n : Nat) : Nat := if n < 2 then 0 else zfJ n 1 n
theorem splitA_lt : ∀ (f k n : Nat), 1 ≤ k → k < n → 1 ≤ zfJ f k n ∧ zfJ f k n < n
  | 0, k, n, h1, h2 => ⟨h1, h2⟩
  | f + 1, k, n, h1, h2 => by
    simp only [zfJ]
    split
    · exact splitA_lt f (k * 2) n (by omega) (by omega)
    · exact ⟨h1, h2⟩
theorem zjq {n : Nat} (h : 2 ≤ n) : 1 ≤ zad n ∧ zad n < n := by
  rw [zad, if_neg (by omega)]
  exact splitA_lt n 1 n (by omega) (by omega)
theorem ziO : ∀ (f k n : Nat), ¬ k < n - k → zfJ f k n = k
  | 0, _, _, _ => rfl
  | f + 1, k, n, h => by rw [zfJ, if_neg h]
theorem zlS : ∀ (f k n : Nat), 1 ≤ k → n < k + f → k < n - k → zfJ f k n = zfJ f (k * 2) n
  | 0, k, n, _, h, h2 => by omega
  | f + 1, k, n, h1, h, h2 => by
    rw [zfJ, if_pos h2]
    by_cases h3 : k * 2 < n - k * 2
    · have e : zfJ (f + 1) (k * 2) n = zfJ f (k * 2 * 2) n := by rw [zfJ, if_pos h3]
      rw [e]
      exact zlS f (k * 2) n (by omega) (by omega) h3
    · rw [ziO f _ _ h3, ziO (f + 1) _ _ h3]
def leafB (b : List UInt8) : List UInt8 := 0 :: b
def zmX (l r : Int) : List UInt8 := 1 :: (zbc l.toNat ++ zbc r.toNat)
def zfX : Nat → List (List UInt8) → List (List UInt8) → Int × List (List UInt8)
  | _, L, [] => (ziN L [2], zge L [2])
  | _, L, [x] => (ziN L (leafB x), zge L (leafB x))
  | 0, L, _ => (0, L)
  | f + 1, L, l =>
    let a := zfX f L (l.take (zad l.length))
    let b := zfX f a.2 (l.drop (zad l.length))
    (ziN b.2 (zmX a.1 b.1), zge b.2 (zmX a.1 b.1))
def zdi (L l : List (List UInt8)) : Int × List (List UInt8) := zfX l.length L l
theorem zhN : ∀ (f g : Nat) (L l : List (List UInt8)), l.length ≤ f → l.length ≤ g → zfX f L l = zfX g L l
  | f, g, L, [], _, _ => by cases f <;> cases g <;> rfl
  | f, g, L, [x], _, _ => by cases f <;> cases g <;> rfl
  | 0, _, L, x :: y :: r, h, _ => by simp at h
  | _, 0, L, x :: y :: r, _, h => by simp at h
  | f + 1, g + 1, L, x :: y :: r, h1, h2 => by
    have hs := zjq (n := (x :: y :: r).length) (by simp)
    have e := zhN f g L ((x :: y :: r).take (zad (x :: y :: r).length)) (by rw [List.length_take]; omega) (by rw [List.length_take]; omega)
    simp only [zfX, e]
    rw [zhN f g (zfX g L ((x :: y :: r).take (zad (x :: y :: r).length))).2 ((x :: y :: r).drop (zad (x :: y :: r).length)) (by rw [List.length_drop]; omega) (by rw [List.length_drop]; omega)]
theorem rootF_2 {L l : List (List UInt8)} (h : 2 ≤ l.length) : zdi L l = (ziN (zdi (zdi L (l.take (zad l.length))).2 (l.drop (zad l.length))).2 (zmX (zdi L (l.take (zad l.length))).1 (zdi (zdi L (l.take (zad l.length))).2 (l.drop (zad l.length))).1),
    zge (zdi (zdi L (l.take (zad l.length))).2 (l.drop (zad l.length))).2 (zmX (zdi L (l.take (zad l.length))).1 (zdi (zdi L (l.take (zad l.length))).2 (l.drop (zad l.length))).1)) := by
  have hs := zjq h
  have h1 : (l.take (zad l.length)).length = zad l.length := by rw [List.length_take]; omega
  have h2 : (l.drop (zad l.length)).length = l.length - zad l.length := List.length_drop
  obtain ⟨m, hm⟩ : ∃ m, l.length = m + 1 := ⟨l.length - 1, by omega⟩
  have e : ∀ l : List (List UInt8), 2 ≤ l.length → ∀ m, zfX (m + 1) L l = (ziN (zfX m (zfX m L (l.take (zad l.length))).2 (l.drop (zad l.length))).2 (zmX (zfX m L (l.take (zad l.length))).1 (zfX m (zfX m L (l.take (zad l.length))).2 (l.drop (zad l.length))).1), zge (zfX m (zfX m L (l.take (zad l.length))).2 (l.drop (zad l.length))).2 (zmX (zfX m L (l.take (zad l.length))).1 (zfX m (zfX m L (l.take (zad l.length))).2 (l.drop (zad l.length))).1)) := by
    intro l hl m
    match l, hl with
    | x :: y :: r, _ => simp only [zfX]
  have f1 := zhN m (l.take (zad l.length)).length L (l.take (zad l.length)) (by omega) (Nat.le_refl _)
  have f2 := fun L' => zhN m (l.drop (zad l.length)).length L' (l.drop (zad l.length)) (by omega) (Nat.le_refl _)
  have f0 : zfX l.length L l = zfX (m + 1) L l := by rw [hm]
  unfold zdi
  rw [f0, e l h m, f1, f2]
end Go.AW

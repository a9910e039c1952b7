/- Readers: a reader's bytes and its error; what is taken from them. 'cut': an error drops the bytes. No program in sight. -/
import Derived.Test.YthpnelbciibjeaaSpUtf
import Derived.Test.YthpnelbciibjeaaAwEnd
import Derived.Test.YthpnelbciibjeaaSpNum
import Derived.Test.YthpnelbciibjeaaSpTab
set_option linter.all false
set_option linter.unusedSimpArgs false
namespace Go.AW

structure Rd where
  b : List UInt8
  e : Int
def Rd.fail (cut : Bool) (s : Rd) (x : Int) : Rd := if s.e = 0 ∧ x ≠ 0 then ⟨if cut then [] else s.b, x⟩ else s
def zjM (cut : Bool) (most : Nat) (s : Rd) : Nat × Rd :=
  if s.e = 0 then (match numR most 0 0 s.b with | .ok (n, r) => (n, ⟨r, 0⟩) | .error x => (0, s.fail cut x)) else (0, s)
def takeP (cut : Bool) (n : Nat) (s : Rd) : List UInt8 × Rd :=
  if s.e = 0 then (if n > s.b.length then ([], s.fail cut 10) else (s.b.take n, ⟨s.b.drop n, 0⟩)) else ([], s)
def zge (cut : Bool) (most : Nat) (s : Rd) : List UInt8 × Rd := takeP cut (zjM cut most s).1 (zjM cut most s).2
def znC (cut : Bool) : Nat → Rd → List (List UInt8) × Rd
  | 0, s => ([], s)
  | k + 1, s => ((znC cut k s).1 ++ [(zge cut 64 (znC cut k s).2).1], (zge cut 64 (znC cut k s).2).2)
def ziK (cut : Bool) (k : Nat) (s : Rd) : TOp × Rd :=
  let t := zge cut 64 s
  if k = 0 then (noOp, s)
  else if k = 2 then (let n := zjM cut 4 t.2; let r := znC cut n.1 n.2; (⟨k, t.1, [], 0, r.1⟩, r.2))
  else if k = 3 then (let g := zge cut 64 t.2; let f := zjM cut 9007199254740992 g.2; (⟨k, t.1, g.1, f.1, []⟩, f.2))
  else if k = 4 then (let f := zjM cut 9007199254740992 t.2; (⟨k, t.1, [], f.1, []⟩, f.2))
  else (⟨k, t.1, [], 0, []⟩, t.2)
def zjR (cut : Bool) (name : List UInt8 → Bool) (s : Rd) : TOp × Rd :=
  let k := zjM cut 4 s
  let x := ziK cut k.1 k.2
  let z := x.2.fail cut (zai name x.1)
  (if z.e = 0 then x.1 else noOp, z)

def Rd.like (s t : Rd) : Prop := s.e = t.e ∧ (s.e = 0 → s.b = t.b)
theorem Rd.like.fail {s t : Rd} {c d : Bool} {x : Int} (h : s.like t) : (s.fail c x).like (t.fail d x) := by
  obtain ⟨h1, h2⟩ := h
  unfold Rd.fail Rd.like
  grind
theorem Rd.like.num {s t : Rd} {c d : Bool} {m : Nat} (h : s.like t) : (zjM c m s).1 = (zjM d m t).1 ∧ (zjM c m s).2.like (zjM d m t).2 := by
  have hf : ∀ x, (s.fail c x).like (t.fail d x) := fun x => h.fail
  obtain ⟨h1, h2⟩ := h
  unfold zjM
  by_cases h0 : s.e = 0
  · rw [if_pos h0, if_pos (show t.e = 0 from h1 ▸ h0), h2 h0]
    cases numR m 0 0 t.b with
    | ok x => exact ⟨rfl, rfl, fun _ => rfl⟩
    | error x => exact ⟨rfl, hf x⟩
  · rw [if_neg h0, if_neg (h1 ▸ h0)]
    exact ⟨rfl, h1, h2⟩
theorem Rd.like.take {s t : Rd} {c d : Bool} {m : Nat} (h : s.like t) : (takeP c m s).1 = (takeP d m t).1 ∧ (takeP c m s).2.like (takeP d m t).2 := by
  have hf : ∀ x, (s.fail c x).like (t.fail d x) := fun x => h.fail
  obtain ⟨h1, h2⟩ := h
  unfold takeP
  by_cases h0 : s.e = 0
  · rw [if_pos h0, if_pos (show t.e = 0 from h1 ▸ h0), h2 h0]
    split
    · exact ⟨rfl, hf 10⟩
    · exact ⟨rfl, rfl, fun _ => rfl⟩
  · rw [if_neg h0, if_neg (h1 ▸ h0)]
    exact ⟨rfl, h1, h2⟩
theorem Rd.like.bytes {s t : Rd} {c d : Bool} {m : Nat} (h : s.like t) : (zge c m s).1 = (zge d m t).1 ∧ (zge c m s).2.like (zge d m t).2 := by
  have a := h.num (c := c) (d := d) (m := m)
  have := a.2.take (c := c) (d := d) (m := (zjM c m s).1)
  unfold zge
  rw [← a.1]
  exact this
theorem Rd.like.recs {s t : Rd} {c d : Bool} (h : s.like t) : ∀ k, (znC c k s).1 = (znC d k t).1 ∧ (znC c k s).2.like (znC d k t).2
  | 0 => ⟨rfl, h⟩
  | k + 1 => by
    obtain ⟨a, b⟩ := Rd.like.recs h (c := c) (d := d) k
    have e := b.bytes (c := c) (d := d) (m := 64)
    exact ⟨by simp only [znC, a, e.1], e.2⟩
theorem Rd.like.fields {s t : Rd} {c d : Bool} (h : s.like t) (k : Nat) : (ziK c k s).1 = (ziK d k t).1 ∧ (ziK c k s).2.like (ziK d k t).2 := by
  obtain ⟨t1, t2⟩ := h.bytes (c := c) (d := d) (m := 64)
  obtain ⟨n1, n2⟩ := t2.num (c := c) (d := d) (m := 4)
  obtain ⟨r1, r2⟩ := n2.recs (c := c) (d := d) (zjM c 4 (zge c 64 s).2).1
  obtain ⟨g1, g2⟩ := t2.bytes (c := c) (d := d) (m := 64)
  obtain ⟨f1, f2⟩ := g2.num (c := c) (d := d) (m := 9007199254740992)
  obtain ⟨e1, e2⟩ := t2.num (c := c) (d := d) (m := 9007199254740992)
  unfold ziK
  simp only
  split
  · exact ⟨rfl, h⟩
  · split
    · rw [← n1, ← r1, ← t1]; exact ⟨rfl, r2⟩
    · split
      · rw [← t1, ← g1, ← f1]; exact ⟨rfl, f2⟩
      · split
        · rw [← t1, ← e1]; exact ⟨rfl, e2⟩
        · rw [← t1]; exact ⟨rfl, t2⟩
theorem Rd.like.takeOp {s t : Rd} {c d : Bool} {name : List UInt8 → Bool} (h : s.like t) : (zjR c name s).1 = (zjR d name t).1 ∧ (zjR c name s).2.like (zjR d name t).2 := by
  obtain ⟨k1, k2⟩ := h.num (c := c) (d := d) (m := 4)
  obtain ⟨x1, x2⟩ := k2.fields (c := c) (d := d) (zjM c 4 s).1
  have z := x2.fail (c := c) (d := d) (x := zai name (ziK c (zjM c 4 s).1 (zjM c 4 s).2).1)
  unfold zjR
  simp only
  rw [← k1, ← x1, ← z.1]
  exact ⟨rfl, z⟩





theorem zlW : ∀ (f : Nat) (s : List UInt8) (n : Nat), zdV f s = some n → s.length ≤ 4 * n
  | 0, _, _, h => by simp [zdV] at h
  | f + 1, s, n, h => by
    simp only [zdV] at h
    split at h
    · rename_i h0; cases h; simp [h0]
    · split at h
      · cases h
      · simp only [Option.map_eq_some_iff] at h
        obtain ⟨m, hm, rfl⟩ := h
        have := zlW f _ m hm
        have h4 := (zhM s).2.1
        simp only [List.length_drop] at *
        omega
theorem name_len {s : List UInt8} (h : zcs s = true) : s.length ≤ 64 := by
  simp only [zcs, zic, decide_eq_true_eq] at h
  cases e : zdV (s.length + 1) s with
  | none => simp [e] at h
  | some n =>
    have := zlW _ s n e
    simp only [e] at h
    by_cases h16 : n > 16
    · simp [h16] at h
    · omega

structure zX where
  name : List UInt8
  base : Int
  recs : List (List UInt8)
  groups : List (List UInt8 × Int)
structure zaq where
  l : List zX
  last : List (Int × Int × Int)
def zcI : zaq := ⟨[], List.replicate 8 (0, 0, 0)⟩
abbrev groupD (g : List UInt8 × Int) : List D := [.str g.1, .int .i64 g.2]
abbrev groupsE (l : List (List UInt8 × Int)) : List (List D) := l.map groupD
def zX.next (x : zX) : Int := x.base + x.recs.length
def atF (n : List UInt8) : List zX → Nat → Option Nat
  | [], _ => none
  | x :: r, i => if (x.name == n) = true then some i else atF n r (i + 1)
def zmu (n : List UInt8) : List zX → Nat
  | [] => 0
  | x :: r => if Op.bytesLess x.name n = true then zmu n r + 1 else 0
def zkc (n : List UInt8) : List (List UInt8 × Int) → Nat
  | [] => 0
  | g :: r => if Op.bytesLess g.1 n = true then zkc n r + 1 else 0
abbrev TRes := Int × Int
def zcl (T : zaq) (n : List UInt8) : TRes × zaq :=
  if (atF n T.l 0).isSome then ((5, 0), T) else if 8 ≤ T.l.length then ((6, 0), T)
  else ((0, 0), { T with l := T.l.take (zmu n T.l) ++ ⟨n, 0, [], []⟩ :: T.l.drop (zmu n T.l) })
def zdz (t : List UInt8) (o : Int) : List (List UInt8) → List zcy
  | [] => []
  | r :: l => ⟨t, o, r⟩ :: zdz t (o + 1) l
def zdy (T : zaq) (i : Nat) (x : zX) (o : TOp) : TRes × List zcy × zaq :=
  if 64 < x.recs.length + o.recs.length ∨ 9007199254740992 - (o.recs.length : Int) < x.next then ((71, 0), [], T)
  else ((0, x.next), zdz x.name x.next o.recs, { T with l := T.l.set i { x with recs := x.recs ++ o.recs } })
def hadG (n : List UInt8) (l : List (List UInt8 × Int)) : Option Int := match l[zkc n l]? with
  | some g => if (g.1 == n) = true then some g.2 else none
  | none => none
def zdm (T : zaq) (i : Nat) (x : zX) (o : TOp) : TRes × zaq :=
  if o.offset < (hadG o.group x.groups).getD 0 ∨ x.next < o.offset then ((72, 0), T)
  else if (hadG o.group x.groups).isSome = false ∧ 8 ≤ x.groups.length then ((6, 0), T)
  else ((0, o.offset), { T with l := T.l.set i { x with groups := x.groups.take (zkc o.group x.groups) ++ (o.group, o.offset) :: x.groups.drop (zkc o.group x.groups + if (hadG o.group x.groups).isSome then 1 else 0) } })
def zle (T : zaq) (i : Nat) (x : zX) (o : TOp) : TRes × zaq :=
  if o.offset < x.base ∨ x.next < o.offset then ((72, 0), T)
  else ((0, o.offset), { T with l := T.l.set i { x with recs := x.recs.drop (o.offset - x.base).toNat, base := o.offset } })
def zbF (T : zaq) (o : TOp) : TRes × List zcy × zaq :=
  if zai zcs o ≠ 0 then ((zai zcs o, 0), [], T)
  else if o.kind = 0 then ((0, 0), [], T)
  else if o.kind = 1 then ((zcl T o.topic).1, [], (zcl T o.topic).2)
  else match atF o.topic T.l 0 with
    | none => ((4, 0), [], T)
    | some i => match T.l[i]? with
      | none => ((4, 0), [], T)
      | some x => if o.kind = 2 then zdy T i x o
        else if o.kind = 3 then ((zdm T i x o).1, [], (zdm T i x o).2)
        else ((zle T i x o).1, [], (zle T i x o).2)
def zbO (T : zaq) (c tm : Int) (o : TOp) : TRes × List zcy × Bool × zaq :=
  if c < 0 ∨ 8 ≤ c ∨ tm < 1 ∨ 9007199254740992 < tm then ((1, 0), [], false, T)
  else if tm = (T.last.getD c.toNat (0, 0, 0)).1 then ((T.last.getD c.toNat (0, 0, 0)).2, [], false, T)
  else if tm < (T.last.getD c.toNat (0, 0, 0)).1 then ((7, 0), [], false, T)
  else ((zbF T o).1, (zbF T o).2.1, true, { (zbF T o).2.2 with last := (zbF T o).2.2.last.set c.toNat (tm, (zbF T o).1.1, (zbF T o).1.2) })
theorem znf (T : zaq) (o : TOp) : (zbF T o).2.2.last = T.last := by
  unfold zbF zcl zdy zdm zle
  repeat' (first | rfl | split)
theorem zjV (t : List UInt8) : ∀ (l : List (List UInt8)) (o : Int), (zdz t o l).length = l.length
  | [], _ => rfl
  | _ :: l, o => by simp [zdz, zjV t l]
theorem zlv (t : List UInt8) : ∀ (l : List (List UInt8)) (o : Int) (r : List UInt8), zdz t o (l ++ [r]) = zdz t o l ++ [⟨t, o + l.length, r⟩]
  | [], o, r => by simp [zdz]
  | a :: l, o, r => by
    simp only [List.cons_append, zdz, zlv t l (o + 1) r, List.length_cons]
    congr 3
    simp; omega
abbrev topD (x : zX) : List D := [.str x.name, .int .i64 x.base, .slice (zbK x.recs), .slice (groupsE x.groups)]
abbrev topsE (l : List zX) : List (List D) := l.map topD
abbrev flatA (es : List (List D)) : List AV := es.flatten.map .d
structure TopI (x : zX) : Prop where
  base : 0 ≤ x.base
  next : x.next ≤ 9007199254740992
  recs : x.recs.length ≤ 64
  groups : x.groups.length ≤ 8
  name : x.name.length ≤ 64
  each : ∀ r ∈ x.recs, r.length ≤ 64
  gs : ∀ g ∈ x.groups, g.1.length ≤ 64 ∧ 0 ≤ g.2 ∧ g.2 ≤ 9007199254740992
structure zdQ (T : zaq) : Prop where
  len : T.l.length ≤ 8
  tops : ∀ x ∈ T.l, TopI x
theorem zdQ.none : zdQ zcI := ⟨by simp [zcI], by simp [zcI]⟩
theorem check0 {o : TOp} (h : zai zcs o = 0) : 0 ≤ o.offset ∧ o.offset ≤ 9007199254740992 ∧ (o.kind ≠ 0 → zcs o.topic = true) ∧ (o.kind = 3 → zcs o.group = true) ∧ (o.kind = 2 → ∀ r ∈ o.recs, r.length ≤ 64) := by
  unfold zai at h
  split at h
  · cases h
  · split at h
    · cases h
    · rename_i h2
      split at h
      · cases h
      · rename_i h3
        split at h
        · cases h
        · rename_i h4
          split at h
          · cases h
          · rename_i h5
            refine ⟨by omega, by omega, fun hk => by simpa [hk] using h2, fun hk => by simpa [hk] using h3, fun hk r hr => ?_⟩
            have : ¬ (o.recs.any (fun r => decide (r.length > 64)) = true) := fun e => h4 ⟨hk, .inr (.inr e)⟩
            simp only [List.any_eq_true, decide_eq_true_eq, not_exists, not_and] at this
            have := this r hr
            omega
theorem zhG {α : Type} {l : List α} {i : Nat} {x y : α} (h : y ∈ l.set i x) : y ∈ l ∨ y = x := List.mem_or_eq_of_mem_set h
theorem doesI {T : zaq} (h : zdQ T) (o : TOp) : zdQ (zbF T o).2.2 := by
  unfold zbF
  split
  · exact h
  · rename_i hc
    have hc : zai zcs o = 0 := by simpa using hc
    obtain ⟨q1, q2, q3, q4, q5⟩ := check0 hc
    split
    · exact h
    · rename_i k0
      have hn := name_len (q3 k0)
      split
      · unfold zcl
        split
        · exact h
        · split
          · exact h
          · refine ⟨by simp only [List.length_append, List.length_take, List.length_cons, List.length_drop]; omega, fun x hx => ?_⟩
            rcases List.mem_append.1 hx with hx | hx
            · exact h.tops x (List.mem_of_mem_take hx)
            · rcases List.mem_cons.1 hx with rfl | hx
              · exact ⟨by simp, by simp [zX.next], by simp, by simp, hn, by simp, by simp⟩
              · exact h.tops x (List.mem_of_mem_drop hx)
      · split
        · exact h
        · rename_i i _
          split
          · exact h
          · rename_i x hx
            have hX := h.tops x (List.mem_of_getElem? hx)
            have a1 := hX.base; have a2 := hX.next; have a3 := hX.recs; have a4 := hX.groups
            split
            · rename_i k2
              unfold zdy
              split
              · exact h
              · rename_i hq
                refine ⟨by simpa using h.len, fun y hy => ?_⟩
                rcases zhG hy with hy | rfl
                · exact h.tops y hy
                · have e : x.next = x.base + x.recs.length := rfl
                  refine ⟨a1, by simp only [zX.next, List.length_append]; omega, by simp; omega, a4, hX.name, fun r hr => ?_, hX.gs⟩
                  rcases List.mem_append.1 hr with hr | hr
                  · exact hX.each r hr
                  · exact q5 k2 r hr
            · split
              · rename_i k3
                have hg := name_len (q4 k3)
                unfold zdm
                split
                · exact h
                · split
                  · exact h
                  · rename_i h6 h7
                    refine ⟨by simpa using h.len, fun y hy => ?_⟩
                    rcases zhG hy with hy | rfl
                    · exact h.tops y hy
                    · refine ⟨a1, a2, a3, ?_, hX.name, hX.each, fun g hg' => ?_⟩
                      · simp only [List.length_append, List.length_take, List.length_cons, List.length_drop]
                        cases hh : hadG o.group x.groups with
                        | none => simp [hh] at h7 ⊢; omega
                        | some v =>
                          have : zkc o.group x.groups < x.groups.length := by
                            rw [hadG] at hh
                            split at hh
                            · rename_i g0 hg0; exact (List.getElem?_eq_some_iff.1 hg0).1
                            · cases hh
                          simp; omega
                      · rcases List.mem_append.1 hg' with hg' | hg'
                        · exact hX.gs g (List.mem_of_mem_take hg')
                        · rcases List.mem_cons.1 hg' with rfl | hg'
                          · exact ⟨hg, q1, q2⟩
                          · exact hX.gs g (List.mem_of_mem_drop hg')
              · unfold zle
                split
                · exact h
                · rename_i h6
                  refine ⟨by simpa using h.len, fun y hy => ?_⟩
                  rcases zhG hy with hy | rfl
                  · exact h.tops y hy
                  · have e : x.next = x.base + x.recs.length := rfl
                    exact ⟨q1, by simp only [zX.next, List.length_drop]; omega, by simp; omega, a4, hX.name, fun r hr => hX.each r (List.mem_of_mem_drop hr), hX.gs⟩
theorem applyI {T : zaq} (h : zdQ T) (c tm : Int) (o : TOp) : zdQ (zbO T c tm o).2.2.2 := by
  unfold zbO
  split
  · exact h
  · split
    · exact h
    · split
      · exact h
      · exact ⟨(doesI h o).len, (doesI h o).tops⟩
def groupB (g : List UInt8 × Int) : List UInt8 := ziU g.1 ++ zbB g.2.toNat
def zeh (l : List (List UInt8 × Int)) : List UInt8 := (l.map groupB).flatten
def topB (x : zX) : List UInt8 := ziU x.name ++ (zbB x.base.toNat ++ (zbB x.recs.length ++ (zeC x.recs ++ (zbB x.groups.length ++ zeh x.groups))))
def zib (l : List zX) : List UInt8 := (l.map topB).flatten
def lastB (a : Int × Int × Int) : List UInt8 := zbB a.1.toNat ++ (zbB a.2.1.toNat ++ zbB a.2.2.toNat)
def zfX (l : List (Int × Int × Int)) : List UInt8 := (l.map lastB).flatten
def zcQ (T : zaq) : List UInt8 := zbB T.l.length ++ (zib T.l ++ zfX T.last)
theorem ziI {α : Type} {f : α → List UInt8} {n : Nat} : ∀ {l : List α}, (∀ x ∈ l, (f x).length ≤ n) → ((l.map f).flatten).length ≤ l.length * n
  | [], _ => by simp
  | x :: l, h => by
    have h1 := h x List.mem_cons_self
    have h2 := ziI (l := l) fun y hy => h y (List.mem_cons_of_mem _ hy)
    simp only [List.map_cons, List.flatten_cons, List.length_append, List.length_cons, Nat.add_mul, Nat.one_mul]
    omega
theorem zmX {g : List UInt8 × Int} (h : g.1.length ≤ 64 ∧ 0 ≤ g.2 ∧ g.2 ≤ 9007199254740992) : (groupB g).length ≤ 84 := by
  have h1 := zdx (x := g.1) (by omega)
  have h2 := zk (n := g.2.toNat) (by omega)
  simp only [groupB, List.length_append]; omega
theorem topB_len {x : zX} (h : TopI x) : (topB x).length ≤ 5600 := by
  have h1 := zdx (x := x.name) (by have := h.name; omega)
  have e : x.next = x.base + x.recs.length := rfl
  have a1 := h.base; have a2 := h.next; have a3 := h.recs; have a4 := h.groups; have a5 := h.name
  have h2 := zk (n := x.base.toNat) (by omega)
  have h3 := zk (n := x.recs.length) (by omega)
  have h4 := zk (n := x.groups.length) (by omega)
  have h5 : (zeC x.recs).length ≤ x.recs.length * 74 := ziI fun r hr => by have := h.each r hr; have := zdx (x := r) (by omega); omega
  have h6 : (zeh x.groups).length ≤ x.groups.length * 84 := ziI fun g hg => zmX (h.gs g hg)
  simp only [topB, List.length_append]; omega
theorem zmF {l : List zX} (h : ∀ x ∈ l, TopI x) : (zib l).length ≤ l.length * 5600 := ziI fun x hx => topB_len (h x hx)
def zmn (l : List (Int × Int × Int)) : Prop := ∀ a ∈ l, (0 ≤ a.1 ∧ a.1 ≤ 9007199254740992) ∧ (0 ≤ a.2.1 ∧ a.2.1 ≤ 9007199254740992) ∧ (0 ≤ a.2.2 ∧ a.2.2 ≤ 9007199254740992)
theorem lastB_len {a : Int × Int × Int} (h : (0 ≤ a.1 ∧ a.1 ≤ 9007199254740992) ∧ (0 ≤ a.2.1 ∧ a.2.1 ≤ 9007199254740992) ∧ (0 ≤ a.2.2 ∧ a.2.2 ≤ 9007199254740992)) : (lastB a).length ≤ 30 := by
  have h1 := zk (n := a.1.toNat) (by omega)
  have h2 := zk (n := a.2.1.toNat) (by omega)
  have h3 := zk (n := a.2.2.toNat) (by omega)
  simp only [lastB, List.length_append]; omega
theorem zmV {l : List (Int × Int × Int)} (h : zmn l) : (zfX l).length ≤ l.length * 30 := ziI fun a ha => lastB_len (h a ha)
def zae : zaq → List zh → List zcy × zaq
  | T, [] => ([], T)
  | T, x :: r => ((zbO T x.client x.time x.op).2.1 ++ (zae (zbO T x.client x.time x.op).2.2.2 r).1, (zae (zbO T x.client x.time x.op).2.2.2 r).2)
theorem zjy (x : zh) : ∀ (l : List zh) (T : zaq), zae T (l ++ [x]) = ((zae T l).1 ++ (zbO (zae T l).2 x.client x.time x.op).2.1, (zbO (zae T l).2 x.client x.time x.op).2.2.2)
  | [], T => by simp [zae]
  | y :: l, T => by
    simp only [List.cons_append, zae, zjy x l, List.append_assoc]
theorem applyAllI : ∀ (l : List zh) {T : zaq}, zdQ T → zdQ (zae T l).2
  | [], _, h => h
  | x :: l, _, h => applyAllI l (applyI h x.client x.time x.op)
theorem checkOp_rng (n : List UInt8 → Bool) (o : TOp) : 0 ≤ zai n o ∧ zai n o ≤ 100 := by
  unfold zai
  repeat' split
  all_goals omega
theorem doesR {T : zaq} (h : zdQ T) (o : TOp) : (0 ≤ (zbF T o).1.1 ∧ (zbF T o).1.1 ≤ 9007199254740992) ∧ (0 ≤ (zbF T o).1.2 ∧ (zbF T o).1.2 ≤ 9007199254740992) := by
  unfold zbF
  split
  · have := checkOp_rng zcs o
    exact ⟨⟨this.1, by simp only; omega⟩, by simp, by simp⟩
  · rename_i hc
    have hc : zai zcs o = 0 := by simpa using hc
    obtain ⟨q1, q2, _⟩ := check0 hc
    split
    · simp
    · split
      · unfold zcl
        repeat' split
        all_goals simp
      · split
        · simp
        · split
          · simp
          · rename_i x hx
            have hX := h.tops x (List.mem_of_getElem? hx)
            have a1 := hX.base; have a2 := hX.next
            have e : x.next = x.base + x.recs.length := rfl
            split
            · unfold zdy
              split
              · simp
              · exact ⟨by simp, by simp only; omega, by simp only; omega⟩
            · split
              · unfold zdm
                repeat' split
                all_goals first | simp; done | exact ⟨by simp, q1, q2⟩
              · unfold zle
                split
                · simp
                · exact ⟨by simp, q1, q2⟩
theorem applyL {T : zaq} (h : zdQ T) (hL : zmn T.last) (c tm : Int) (o : TOp) : zmn (zbO T c tm o).2.2.2.last := by
  unfold zbO
  split
  · exact hL
  · rename_i h1
    split
    · exact hL
    · split
      · exact hL
      · intro a ha
        rcases zhG ha with ha | rfl
        · rw [znf] at ha; exact hL a ha
        · exact ⟨by simp only; omega, doesR h o⟩
theorem applyAllL : ∀ (l : List zh) {T : zaq}, zdQ T → zmn T.last → zmn (zae T l).2.last
  | [], _, _, h => h
  | x :: l, _, hI, h => applyAllL l (applyI hI x.client x.time x.op) (applyL hI h x.client x.time x.op)
def PlI (p : zcy) : Prop := 0 ≤ p.offset ∧ p.offset ≤ 9007199254740992 ∧ p.topic.length ≤ 64 ∧ p.rec_.length ≤ 64
theorem placeI {t : List UInt8} (ht : t.length ≤ 64) : ∀ {l : List (List UInt8)} {o : Int}, 0 ≤ o → o + l.length ≤ 9007199254740992 → (∀ r ∈ l, r.length ≤ 64) → ∀ p ∈ zdz t o l, PlI p
  | [], _, _, _, _, p, h => by simp [zdz] at h
  | r :: l, o, h0, h1, h2, p, h => by
    simp only [List.length_cons] at h1
    rcases List.mem_cons.1 h with rfl | h
    · exact ⟨h0, by simp only; omega, ht, h2 r List.mem_cons_self⟩
    · exact placeI ht (l := l) (o := o + 1) (by omega) (by omega) (fun r hr => h2 r (List.mem_cons_of_mem _ hr)) p h
theorem doesP {T : zaq} (h : zdQ T) (o : TOp) : (∀ p ∈ (zbF T o).2.1, PlI p) ∧ (zbF T o).2.1.length ≤ 64 := by
  unfold zbF
  split
  · simp
  · rename_i hc
    have hc : zai zcs o = 0 := by simpa using hc
    obtain ⟨q1, q2, q3, q4, q5⟩ := check0 hc
    split
    · simp
    · split
      · simp
      · split
        · simp
        · split
          · simp
          · rename_i x hx
            have hX := h.tops x (List.mem_of_getElem? hx)
            have a1 := hX.base; have a2 := hX.next
            have e : x.next = x.base + x.recs.length := rfl
            split
            · rename_i k2
              unfold zdy
              split
              · simp
              · exact ⟨placeI hX.name (by omega) (by omega) (q5 k2), by simp only [zjV]; omega⟩
            · split <;> simp
theorem applyP {T : zaq} (h : zdQ T) (c tm : Int) (o : TOp) : (∀ p ∈ (zbO T c tm o).2.1, PlI p) ∧ (zbO T c tm o).2.1.length ≤ 64 := by
  unfold zbO
  repeat' split
  all_goals first | (simp; done) | exact doesP h o
theorem zmg : ∀ (l : List zh) {T : zaq}, zdQ T → (∀ p ∈ (zae T l).1, PlI p) ∧ (zae T l).1.length ≤ l.length * 64
  | [], _, _ => by simp [zae]
  | x :: l, T, h => by
    obtain ⟨h1, h2⟩ := applyP h x.client x.time x.op
    obtain ⟨h3, h4⟩ := zmg l (applyI h x.client x.time x.op)
    refine ⟨fun p hp => ?_, by simp only [zae, List.length_append, List.length_cons, Nat.add_mul]; omega⟩
    rcases List.mem_append.1 hp with hp | hp
    · exact h1 p hp
    · exact h3 p hp

theorem less_lt : ∀ (x y : List UInt8), Op.bytesLess x y = decide (x < y)
  | [], [] => by simp [Op.bytesLess]
  | _ :: _, [] => by simp [Op.bytesLess]
  | [], _ :: _ => by simp [Op.bytesLess]
  | a :: x, b :: y => by
    rw [Op.bytesLess, less_lt x y]
    simp only [List.cons_lt_cons_iff]
    by_cases h1 : a < b <;> by_cases h2 : a = b <;> by_cases h3 : x < y <;> simp [h1, h2, h3]
abbrev ltN (a b : List UInt8) : Prop := Op.bytesLess a b = true
theorem znJ {a b : List UInt8} : ltN a b ↔ a < b := by rw [ltN, less_lt]; simp
theorem ltN_irr (a : List UInt8) : ¬ ltN a a := by rw [znJ]; exact List.lt_irrefl a
theorem ltN_trans {a b c : List UInt8} (h : ltN a b) (h' : ltN b c) : ltN a c := by rw [znJ] at *; exact List.lt_trans h h'
theorem ltN_total {a b : List UInt8} (h : ¬ ltN a b) (hne : a ≠ b) : ltN b a := by
  rw [znJ] at *
  have h1 : b ≤ a := List.not_lt.1 h
  rcases List.le_iff_lt_or_eq.1 h1 with h2 | h2
  · exact h2
  · exact absurd h2.symm hne
section

variable {α : Type} (f : α → List UInt8)

def zlF (n : List UInt8) : List α → Nat
  | [] => 0
  | x :: r => if Op.bytesLess (f x) n = true then zlF n r + 1 else 0
def zfw (l : List α) : Prop := (l.map f).Pairwise ltN
variable {f}

theorem zfw.nodup {l : List α} (h : zfw f l) : (l.map f).Nodup := by
  refine List.Pairwise.imp (fun {a b} hab e => ?_) h
  subst e
  exact ltN_irr _ hab
theorem zhB {a : α} {r : List α} : zfw f (a :: r) ↔ (∀ b ∈ r, ltN (f a) (f b)) ∧ zfw f r := by
  rw [zfw, List.map_cons, List.pairwise_cons]
  constructor
  · rintro ⟨h1, h2⟩; exact ⟨fun b hb => h1 _ (List.mem_map_of_mem hb), h2⟩
  · rintro ⟨h1, h2⟩
    refine ⟨fun b hb => ?_, h2⟩
    obtain ⟨c, hc, rfl⟩ := List.mem_map.1 hb
    exact h1 c hc
theorem zlE {n : List UInt8} {x : α} (hx : f x = n) : ∀ {l : List α}, zfw f l → (∀ a ∈ l, f a ≠ n) → zfw f (l.take (zlF f n l) ++ x :: l.drop (zlF f n l))
  | [], _, _ => by simp [zfw, zlF]
  | a :: r, h, hn => by
    obtain ⟨h1, h2⟩ := zhB.1 h
    simp only [zlF]
    split
    · rename_i ha
      simp only [List.take_succ_cons, List.drop_succ_cons, List.cons_append]
      refine zhB.2 ⟨fun b hb => ?_, zlE hx h2 fun a ha => hn a (List.mem_cons_of_mem _ ha)⟩
      rcases List.mem_append.1 hb with hb | hb
      · exact h1 b (List.mem_of_mem_take hb)
      · rcases List.mem_cons.1 hb with rfl | hb
        · rw [hx]; exact ha
        · exact h1 b (List.mem_of_mem_drop hb)
    · rename_i ha
      simp only [List.take_zero, List.drop_zero, List.nil_append]
      have hna : ltN n (f a) := ltN_total ha (hn a List.mem_cons_self)
      refine zhB.2 ⟨fun b hb => ?_, h⟩
      rw [hx]
      rcases List.mem_cons.1 hb with rfl | hb
      · exact hna
      · exact ltN_trans hna (h1 b hb)
theorem zhf {n : List UInt8} : ∀ {l : List α}, zfw f l → ∀ {x : α}, x ∈ l → f x = n → l[zlF f n l]? = some x
  | [], _, _, h, _ => by cases h
  | a :: r, h, x, hx, e => by
    obtain ⟨h1, h2⟩ := zhB.1 h
    simp only [zlF]
    rcases List.mem_cons.1 hx with rfl | hx
    · rw [if_neg (by rw [e]; exact ltN_irr n)]; rfl
    · have := h1 x hx
      rw [e] at this
      rw [if_pos this, List.getElem?_cons_succ]
      exact zhf h2 hx e
theorem sortK_set {l : List α} (h : zfw f l) {k : Nat} {x y : α} (hx : l[k]? = some x) (e : f y = f x) : zfw f (l.set k y) := by
  rw [zfw, List.map_set, e]
  have : (l.map f).set k (f x) = l.map f := by
    apply List.ext_getElem?
    intro i
    rw [List.getElem?_set]
    split
    · rename_i hi
      subst hi
      split
      · rw [List.getElem?_map, hx]; rfl
      · rename_i hk
        have := (List.getElem?_eq_some_iff.1 hx).1
        simp at hk; omega
    · rfl
  rw [this]; exact h
theorem zlm {l : List α} (h : zfw f l) {x y : α} (hx : x ∈ l) (hy : y ∈ l) (e : f x = f y) : x = y := by
  have h1 := zhf h hx rfl
  have h2 := zhf h hy e.symm
  rw [h1] at h2; exact Option.some.inj h2
end

theorem lessN_K (n : List UInt8) : ∀ l, zmu n l = zlF zX.name n l
  | [] => rfl
  | x :: r => by simp only [zmu, zlF, lessN_K n r]
theorem znL (n : List UInt8) : ∀ l, zkc n l = zlF Prod.fst n l
  | [] => rfl
  | x :: r => by simp only [zkc, zlF, znL n r]

def zhh (n : List UInt8) : List (List UInt8 × Int) → Nat → Option (Nat × Int)
  | [], _ => none
  | g :: r, i => if n = g.1 then some (i, g.2) else zhh n r (i + 1)
def putA (n : List UInt8) (v : Int) (l : List (List UInt8 × Int)) : List (List UInt8 × Int) := match zhh n l 0 with
  | some (k, _) => l.set k (n, v)
  | none => l ++ [(n, v)]
theorem zhK {n : List UInt8} : ∀ {l : List (List UInt8 × Int)} {i k : Nat} {v : Int}, zhh n l i = some (k, v) → ∃ j, k = i + j ∧ l[j]? = some (n, v)
  | [], _, _, _, h => by simp [zhh] at h
  | g :: r, i, k, v, h => by
    simp only [zhh] at h
    split at h
    · rename_i e; cases h; exact ⟨0, rfl, by rw [e]; rfl⟩
    · obtain ⟨j, h1, h2⟩ := zhK h
      exact ⟨j + 1, by omega, by simpa using h2⟩
theorem zhL {n : List UInt8} : ∀ {l : List (List UInt8 × Int)} {i : Nat}, zhh n l i = none → ∀ g ∈ l, g.1 ≠ n
  | [], _, _, g, hg => by cases hg
  | a :: r, i, h, g, hg => by
    simp only [zhh] at h
    split at h
    · cases h
    · rename_i e
      rcases List.mem_cons.1 hg with rfl | hg
      · exact fun e' => e e'.symm
      · exact zhL h g hg
structure GR (G L : List (List UInt8 × Int)) : Prop where
  len : G.length = L.length
  sort : zfw Prod.fst L
  nod : (G.map Prod.fst).Nodup
  mem : ∀ a, a ∈ G ↔ a ∈ L
theorem GR.nil : GR [] [] := ⟨rfl, by simp [zfw], by simp, by simp⟩
theorem zgY {α β : Type} {f : α → β} : ∀ {l : List α}, (l.map f).Nodup → ∀ {i j : Nat} {a b : α}, l[i]? = some a → l[j]? = some b → f a = f b → i = j := by
  intro l h i j a b hi hj e
  have h1 : (l.map f)[i]? = some (f a) := by rw [List.getElem?_map, hi]; rfl
  have h2 : (l.map f)[j]? = some (f a) := by rw [List.getElem?_map, hj, e]; rfl
  obtain ⟨g1, g2⟩ := List.getElem?_eq_some_iff.1 h1
  obtain ⟨g3, g4⟩ := List.getElem?_eq_some_iff.1 h2
  rcases Nat.lt_trichotomy i j with hij | hij | hij
  · exact absurd (g2.trans g4.symm) (List.pairwise_iff_getElem.1 h i j g1 g3 hij)
  · exact hij
  · exact absurd (g4.trans g2.symm) (List.pairwise_iff_getElem.1 h j i g3 g1 hij)
theorem GR.had {G L : List (List UInt8 × Int)} (h : GR G L) (n : List UInt8) : hadG n L = (zhh n G 0).map Prod.snd := by
  cases hf : zhh n G 0 with
  | none =>
    have h1 := zhL hf
    unfold hadG
    split
    · rename_i g hg
      rw [if_neg]; rfl
      intro e
      exact h1 g ((h.mem g).2 (List.mem_of_getElem? hg)) (by simpa using e)
    · rfl
  | some q =>
    obtain ⟨k, v⟩ := q
    obtain ⟨j, rfl, hj⟩ := zhK hf
    have h2 := (h.mem _).1 (List.mem_of_getElem? hj)
    unfold hadG
    rw [znL, zhf h.sort h2 rfl]
    simp
theorem zcB {α : Type} {l : List α} {k : Nat} {x y : α} : y ∈ l.set k x → y = x ∨ ∃ j, j ≠ k ∧ l[j]? = some y := by
  intro h
  obtain ⟨j, hj⟩ := List.mem_iff_getElem?.1 h
  by_cases e : j = k
  · subst e
    have hl : j < l.length := by have := (List.getElem?_eq_some_iff.1 hj).1; simpa using this
    rw [List.getElem?_set_self hl] at hj
    exact .inl (Option.some.inj hj).symm
  · rw [List.getElem?_set_ne (Ne.symm e)] at hj
    exact .inr ⟨j, e, hj⟩
theorem zhH {α : Type} {l : List α} {j k : Nat} {x y : α} (h : l[j]? = some y) (e : j ≠ k) : y ∈ l.set k x :=
  List.mem_iff_getElem?.2 ⟨j, by rw [List.getElem?_set_ne (Ne.symm e)]; exact h⟩
theorem mem_set_self' {α : Type} {l : List α} {k : Nat} {x y : α} (h : l[k]? = some y) : x ∈ l.set k x :=
  List.mem_iff_getElem?.2 ⟨k, by rw [List.getElem?_set_self (List.getElem?_eq_some_iff.1 h).1]⟩
theorem znr {α : Type} {l : List α} {k : Nat} {x y : α} (h : l[k]? = some y) : l.take k ++ x :: l.drop (k + 1) = l.set k x := by
  rw [List.set_eq_take_append_cons_drop, if_pos (List.getElem?_eq_some_iff.1 h).1]
theorem zlB {α : Type} {f : α → List UInt8} {l : List α} {k : Nat} {x y : α} (hx : l[k]? = some x) (e : f y = f x) : (l.set k y).map f = l.map f := by
  rw [List.map_set, e]
  apply List.ext_getElem?
  intro i
  rw [List.getElem?_set]
  split
  · rename_i hi
    subst hi
    split
    · rw [List.getElem?_map, hx]; rfl
    · rename_i hk
      have := (List.getElem?_eq_some_iff.1 hx).1
      simp at hk; omega
  · rfl
theorem GR.put {G L : List (List UInt8 × Int)} (h : GR G L) (n : List UInt8) (v : Int) : GR (putA n v G) (L.take (zkc n L) ++ (n, v) :: L.drop (zkc n L + if (hadG n L).isSome then 1 else 0)) := by
  have hh := h.had n
  unfold putA
  cases hf : zhh n G 0 with
  | none =>
    have h1 := zhL hf
    have hL : ∀ a ∈ L, a.1 ≠ n := fun a ha => h1 a ((h.mem a).2 ha)
    rw [hf] at hh
    rw [hh]
    simp only [Option.map_none, Option.isSome_none, Bool.false_eq_true, if_false, Nat.add_zero]
    refine ⟨?_, ?_, ?_, fun a => ?_⟩
    · have := List.take_append_drop (zkc n L) L
      have h3 := congrArg List.length this
      have h4 := h.len
      simp only [List.length_append, List.length_cons, List.length_nil] at h3 ⊢; omega
    · rw [znL]; exact zlE (f := Prod.fst) (x := (n, v)) rfl h.sort hL
    · rw [List.map_append, List.nodup_append]
      refine ⟨h.nod, by simp, ?_⟩
      intro a ha b hb
      simp at hb; subst hb
      obtain ⟨c, hc, rfl⟩ := List.mem_map.1 ha
      exact h1 c hc
    · have := List.take_append_drop (zkc n L) L
      rw [List.mem_append, h.mem]
      constructor
      · rintro (ha | ha)
        · rw [← this] at ha
          rcases List.mem_append.1 ha with ha | ha <;> simp [ha]
        · simp at ha; subst ha; simp
      · intro ha
        rcases List.mem_append.1 ha with ha | ha
        · exact .inl (List.mem_of_mem_take ha)
        · rcases List.mem_cons.1 ha with rfl | ha
          · simp
          · exact .inl (List.mem_of_mem_drop ha)
  | some q =>
    obtain ⟨k, w⟩ := q
    obtain ⟨j, rfl, hj⟩ := zhK hf
    have hm := (h.mem _).1 (List.mem_of_getElem? hj)
    have hL := zhf h.sort hm rfl
    rw [hf] at hh
    rw [hh]
    simp only [Option.map_some, Option.isSome_some, if_true, Nat.zero_add]
    rw [znL]
    simp only at hL
    rw [znr hL]
    refine ⟨by simp [h.len], sortK_set h.sort hL rfl, by rw [zlB (f := Prod.fst) (y := (n, v)) hj rfl]; exact h.nod, fun a => ?_⟩
    constructor
    · intro ha
      rcases zcB ha with rfl | ⟨i, hi, hx⟩
      · exact mem_set_self' hL
      · have := (h.mem a).1 (List.mem_of_getElem? hx)
        obtain ⟨i2, hi2⟩ := List.mem_iff_getElem?.1 this
        refine zhH hi2 fun e => hi ?_
        subst e
        rw [hL] at hi2; cases hi2
        exact zgY h.nod hx hj rfl
    · intro ha
      rcases zcB ha with rfl | ⟨i, hi, hx⟩
      · exact mem_set_self' hj
      · have := (h.mem a).2 (List.mem_of_getElem? hx)
        obtain ⟨i2, hi2⟩ := List.mem_iff_getElem?.1 this
        refine zhH hi2 fun e => hi ?_
        subst e
        rw [hj] at hi2; cases hi2
        exact zgY h.sort.nodup hx hL rfl

structure zcH where
  x : zX
  id : Nat
  g : Nat
  t : Nat
abbrev zcH.name (p : zcH) : List UInt8 := p.x.name
def zfl (n : List UInt8) : List zcH → Nat → Option (Nat × zcH)
  | [], _ => none
  | p :: r, i => if n = p.x.name then some (i, p) else zfl n r (i + 1)
theorem znc {n : List UInt8} : ∀ {l : List zcH} {i k : Nat} {p : zcH}, zfl n l i = some (k, p) → ∃ j, k = i + j ∧ l[j]? = some p ∧ p.x.name = n
  | [], _, _, _, h => by simp [zfl] at h
  | g :: r, i, k, v, h => by
    simp only [zfl] at h
    split at h
    · rename_i e; cases h; exact ⟨0, rfl, rfl, e.symm⟩
    · obtain ⟨j, h1, h2, h3⟩ := znc h
      exact ⟨j + 1, by omega, by simpa using h2, h3⟩
theorem zhJ {n : List UInt8} : ∀ {l : List zcH} {i : Nat}, zfl n l i = none → ∀ p ∈ l, p.x.name ≠ n
  | [], _, _, g, hg => by cases hg
  | a :: r, i, h, g, hg => by
    simp only [zfl] at h
    split at h
    · cases h
    · rename_i e
      rcases List.mem_cons.1 hg with rfl | hg
      · exact fun e' => e e'.symm
      · exact zhJ h g hg
structure TR (x y : zX) : Prop where
  name : x.name = y.name
  base : x.base = y.base
  recs : x.recs = y.recs
  gr : GR x.groups y.groups
theorem TR.next {x y : zX} (h : TR x y) : x.next = y.next := by rw [zX.next, h.base, h.recs]; rfl
structure Rel (X : List zcH) (T : List zX) : Prop where
  len : X.length = T.length
  sort : zfw zX.name T
  nod : (X.map zcH.name).Nodup
  fw : ∀ p ∈ X, ∃ y ∈ T, TR p.x y
  bw : ∀ y ∈ T, ∃ p ∈ X, TR p.x y
theorem Rel.nil : Rel [] [] := ⟨rfl, by simp [zfw], by simp, by simp, by simp⟩
theorem zom {n : List UInt8} : ∀ {l : List zX} {i k : Nat}, atF n l i = some k → ∃ j y, k = i + j ∧ l[j]? = some y ∧ y.name = n
  | [], _, _, h => by simp [atF] at h
  | x :: r, i, k, h => by
    simp only [atF] at h
    split at h
    · rename_i e; cases h; exact ⟨0, x, rfl, rfl, by simpa using e⟩
    · obtain ⟨j, y, h1, h2, h3⟩ := zom h
      exact ⟨j + 1, y, by omega, by simpa using h2, h3⟩
theorem atF_none {n : List UInt8} : ∀ {l : List zX} {i : Nat}, atF n l i = none → ∀ y ∈ l, y.name ≠ n
  | [], _, _, g, hg => by cases hg
  | a :: r, i, h, g, hg => by
    simp only [atF] at h
    split at h
    · cases h
    · rename_i e
      rcases List.mem_cons.1 hg with rfl | hg
      · simpa using e
      · exact atF_none h g hg
theorem Rel.no {X : List zcH} {T : List zX} (h : Rel X T) {n : List UInt8} (hf : zfl n X 0 = none) : atF n T 0 = none := by
  cases ha : atF n T 0 with
  | none => rfl
  | some k =>
    obtain ⟨j, y, _, h2, h3⟩ := zom ha
    obtain ⟨p, hp, hr⟩ := h.bw y (List.mem_of_getElem? h2)
    exact absurd (hr.name.trans h3) (zhJ hf p hp)
theorem Rel.yes {X : List zcH} {T : List zX} (h : Rel X T) {n : List UInt8} {i : Nat} {p : zcH} (hf : zfl n X 0 = some (i, p)) : X[i]? = some p ∧ p.x.name = n ∧ ∃ k y, atF n T 0 = some k ∧ T[k]? = some y ∧ TR p.x y := by
  obtain ⟨j, e, h1, h2⟩ := znc hf
  rw [Nat.zero_add] at e; subst e
  refine ⟨h1, h2, ?_⟩
  obtain ⟨y, hy, hr⟩ := h.fw p (List.mem_of_getElem? h1)
  cases ha : atF n T 0 with
  | none => exact absurd (hr.name.symm.trans h2) (atF_none ha y hy)
  | some k =>
    obtain ⟨j, z, e, h3, h4⟩ := zom ha
    rw [Nat.zero_add] at e; subst e
    have : z = y := zlm h.sort (List.mem_of_getElem? h3) hy (h4.trans (h2.symm.trans hr.name))
    subst this
    exact ⟨k, z, rfl, h3, hr⟩
theorem Rel.set {X : List zcH} {T : List zX} (h : Rel X T) {i k : Nat} {p p' : zcH} {y y' : zX} (hp : X[i]? = some p) (hy : T[k]? = some y) (hr : TR p.x y) (hr' : TR p'.x y') (hn : p'.x.name = p.x.name) : Rel (X.set i p') (T.set k y') := by
  have hn' : y'.name = y.name := hr'.name.symm.trans (hn.trans hr.name)
  refine ⟨by simp [h.len], sortK_set h.sort hy hn', by rw [zlB hp hn]; exact h.nod, fun q hq => ?_, fun z hz => ?_⟩
  · rcases zcB hq with rfl | ⟨j, hj, hx⟩
    · exact ⟨y', mem_set_self' hy, hr'⟩
    · obtain ⟨z, hz, hrz⟩ := h.fw q (List.mem_of_getElem? hx)
      obtain ⟨j2, hj2⟩ := List.mem_iff_getElem?.1 hz
      refine ⟨z, zhH hj2 fun e => hj ?_, hrz⟩
      subst e
      rw [hy] at hj2; cases hj2
      exact zgY h.nod hx hp (hrz.name.trans hr.name.symm)
  · rcases zcB hz with rfl | ⟨j, hj, hx⟩
    · exact ⟨p', mem_set_self' hp, hr'⟩
    · obtain ⟨q, hq, hrq⟩ := h.bw z (List.mem_of_getElem? hx)
      obtain ⟨j2, hj2⟩ := List.mem_iff_getElem?.1 hq
      refine ⟨q, zhH hj2 fun e => hj ?_, hrq⟩
      subst e
      rw [hp] at hj2; cases hj2
      exact zgY h.sort.nodup hx hy (hrq.name.symm.trans hr.name)
theorem Rel.add {X : List zcH} {T : List zX} (h : Rel X T) {n : List UInt8} (hf : zfl n X 0 = none) {p : zcH} {y : zX} (hr : TR p.x y) (hn : y.name = n) : Rel (X ++ [p]) (T.take (zmu n T) ++ y :: T.drop (zmu n T)) := by
  have h1 := zhJ hf
  have hT : ∀ a ∈ T, a.name ≠ n := fun a ha e => by
    obtain ⟨q, hq, hrq⟩ := h.bw a ha
    exact h1 q hq (hrq.name.trans e)
  have htd := List.take_append_drop (zmu n T) T
  refine ⟨?_, ?_, ?_, fun q hq => ?_, fun z hz => ?_⟩
  · have h3 := congrArg List.length htd
    have h4 := h.len
    simp only [List.length_append, List.length_cons, List.length_nil] at h3 ⊢; omega
  · rw [lessN_K]; exact zlE hn h.sort hT
  · rw [List.map_append, List.nodup_append]
    refine ⟨h.nod, by simp, ?_⟩
    intro a ha b hb
    simp at hb; subst hb
    obtain ⟨c, hc, rfl⟩ := List.mem_map.1 ha
    have : p.x.name = n := hr.name.trans hn
    intro e
    exact h1 c hc (e.trans this)
  · rcases List.mem_append.1 hq with hq | hq
    · obtain ⟨z, hz, hrz⟩ := h.fw q hq
      rw [← htd] at hz
      refine ⟨z, ?_, hrz⟩
      rcases List.mem_append.1 hz with hz | hz <;> simp [hz]
    · simp at hq; subst hq
      exact ⟨y, by simp, hr⟩
  · rcases List.mem_append.1 hz with hz | hz
    · obtain ⟨q, hq, hrq⟩ := h.bw z (List.mem_of_mem_take hz)
      exact ⟨q, by simp [hq], hrq⟩
    · rcases List.mem_cons.1 hz with rfl | hz
      · exact ⟨p, by simp, hr⟩
      · obtain ⟨q, hq, hrq⟩ := h.bw z (List.mem_of_mem_drop hz)
        exact ⟨q, by simp [hq], hrq⟩

theorem nodup_le : ∀ {l m : List Nat}, l.Nodup → (∀ x ∈ l, x ∈ m) → l.length ≤ m.length
  | [], m, _, _ => by simp
  | a :: r, m, hn, hs => by
    have ha := hs a List.mem_cons_self
    obtain ⟨h1, h2⟩ := List.nodup_cons.1 hn
    have := nodup_le (l := r) (m := m.erase a) h2 fun x hx => (List.mem_erase_of_ne (a := x) (b := a) (fun e => h1 (by rw [← e]; exact hx))).2 (hs x (List.mem_cons_of_mem _ hx))
    rw [List.length_erase_of_mem ha] at this
    have := List.length_pos_of_mem ha
    simp only [List.length_cons]; omega
def zgi {α : Type} (bs : List Nat) (names : List α) (seen : List Nat) (ys : List α) : Prop :=
  seen.length = ys.length ∧ ∀ (j : Nat) (b : Nat) (y : α), seen[j]? = some b → ys[j]? = some y → ∃ i : Nat, bs[i]? = some b ∧ names[i]? = some y
theorem zgi.nil {α : Type} {bs : List Nat} {names : List α} : zgi bs names [] [] := ⟨rfl, by simp⟩
theorem zgi.snoc {α : Type} {bs : List Nat} {names : List α} {seen : List Nat} {ys : List α} (h : zgi bs names seen ys) {i b : Nat} {y : α} (h1 : bs[i]? = some b) (h2 : names[i]? = some y) : zgi bs names (seen ++ [b]) (ys ++ [y]) := by
  refine ⟨by simp [h.1], fun j c z hc hz => ?_⟩
  rw [List.getElem?_append] at hc hz
  split at hc
  · rename_i hj
    rw [if_pos (by rw [← h.1]; exact hj)] at hz
    exact h.2 j c z hc hz
  · rename_i hj
    rw [if_neg (by rw [← h.1]; exact hj)] at hz
    have e1 := (List.getElem?_eq_some_iff.1 hc).1
    simp only [List.length_cons, List.length_nil] at e1
    rw [h.1] at hc hj e1
    have e : j - ys.length = 0 := by omega
    rw [e] at hc hz
    simp at hc hz
    subst hc; subst hz
    exact ⟨i, h1, h2⟩
theorem zgi.sub {α : Type} {bs : List Nat} {names : List α} {seen : List Nat} {ys : List α} (h : zgi bs names seen ys) : ∀ b ∈ seen, b ∈ bs := by
  intro b hb
  obtain ⟨j, hj⟩ := List.mem_iff_getElem?.1 hb
  have hl := (List.getElem?_eq_some_iff.1 hj).1
  rw [h.1] at hl
  obtain ⟨i, h1, _⟩ := h.2 j b _ hj (List.getElem?_eq_getElem hl)
  exact List.mem_of_getElem? h1
theorem zgi.lt {α : Type} {bs : List Nat} {names : List α} {seen : List Nat} {ys : List α} (h : zgi bs names seen ys) (hn : seen.Nodup) (hl : bs.length = names.length) {b : Nat} (h1 : b ∈ bs) (h2 : b ∉ seen) : ys.length < names.length := by
  have := nodup_le (l := b :: seen) (m := bs) (List.nodup_cons.2 ⟨h2, hn⟩) fun x hx => by
    rcases List.mem_cons.1 hx with rfl | hx
    · exact h1
    · exact h.sub x hx
  simp only [List.length_cons] at this
  rw [← hl, ← h.1]; omega
theorem nodup_get {l : List Nat} (h : l.Nodup) {i j x : Nat} (hi : l[i]? = some x) (hj : l[j]? = some x) : i = j := by
  obtain ⟨a, b⟩ := List.getElem?_eq_some_iff.1 hi
  obtain ⟨c, d⟩ := List.getElem?_eq_some_iff.1 hj
  rcases Nat.lt_trichotomy i j with hij | hij | hij
  · exact absurd (b.trans d.symm) (List.pairwise_iff_getElem.1 h i j a c hij)
  · exact hij
  · exact absurd (d.trans b.symm) (List.pairwise_iff_getElem.1 h j i c a hij)
theorem zlc {α : Type} : ∀ {l : List Nat} {m : List α}, l.Nodup → (l.zip m).Nodup
  | [], _, _ => by simp
  | _ :: _, [], _ => by simp
  | a :: l, b :: m, h => by
    obtain ⟨h1, h2⟩ := List.nodup_cons.1 h
    rw [List.zip_cons_cons, List.nodup_cons]
    exact ⟨fun hm => h1 (List.of_mem_zip hm).1, zlc h2⟩
theorem zgi.perm {α : Type} {bs : List Nat} {names : List α} {seen : List Nat} {ys : List α} (h : zgi bs names seen ys) (hn : seen.Nodup) (hb : bs.Nodup) (hl : bs.length = names.length) (ha : ∀ b ∈ bs, b ∈ seen) : ys.Perm names := by
  have key : ∀ (i : Nat) b y, bs[i]? = some b → names[i]? = some y → (b, y) ∈ bs.zip names := fun i b y h1 h2 => List.mem_iff_getElem?.2 ⟨i, List.getElem?_zip_eq_some.2 ⟨h1, h2⟩⟩
  have hp : (seen.zip ys).Perm (bs.zip names) := by
    refine (List.perm_ext_iff_of_nodup (zlc hn) (zlc hb)).2 fun p => ?_
    obtain ⟨b, y⟩ := p
    constructor
    · intro hm
      obtain ⟨j, hj⟩ := List.mem_iff_getElem?.1 hm
      obtain ⟨h1, h2⟩ := List.getElem?_zip_eq_some.1 hj
      obtain ⟨i, h3, h4⟩ := h.2 j b y h1 h2
      exact key i b y h3 h4
    · intro hm
      obtain ⟨j, hj⟩ := List.mem_iff_getElem?.1 hm
      obtain ⟨h1, h2⟩ := List.getElem?_zip_eq_some.1 hj
      obtain ⟨k, hk⟩ := List.mem_iff_getElem?.1 (ha b (List.mem_of_getElem? h1))
      have hkl := (List.getElem?_eq_some_iff.1 hk).1
      rw [h.1] at hkl
      obtain ⟨i, h3, h4⟩ := h.2 k b _ hk (List.getElem?_eq_getElem hkl)
      have := nodup_get hb h1 h3
      subst this
      rw [h2] at h4
      refine List.mem_iff_getElem?.2 ⟨k, List.getElem?_zip_eq_some.2 ⟨hk, ?_⟩⟩
      rw [List.getElem?_eq_getElem hkl, h4]
  have := hp.map Prod.snd
  rwa [List.map_snd_zip (by rw [h.1]; exact Nat.le_refl _), List.map_snd_zip (by rw [hl]; exact Nat.le_refl _)] at this
theorem sort_names {ys L : List (List UInt8)} (hp : ys.Perm L) (hs : L.Pairwise ltN) : (ys.mergeSort fun x y => decide (x ≤ y)) = L := by
  have h1 : (ys.mergeSort fun x y => decide (x ≤ y)).Perm L := (List.mergeSort_perm ys _).trans hp
  have h2 := List.pairwise_mergeSort (le := fun x y : List UInt8 => decide (x ≤ y)) (fun a b c hab hbc => by
      simp only [decide_eq_true_eq] at *; exact List.le_trans hab hbc) (fun a b => by
      have := List.le_total a b; simpa using this) ys
  refine List.Perm.eq_of_pairwise (le := fun x y => x ≤ y) (fun a b _ _ h3 h4 => List.le_antisymm h3 h4) ?_ ?_ h1
  · exact h2.imp fun h => by simpa using h
  · exact hs.imp fun h => List.le_of_lt (znJ.1 h)


def zfy : Nat → Nat → Nat → Nat
  | 0, k, _ => k
  | f + 1, k, n => if k < n - k then zfy f (k * 2) n else k
def zab (n : Nat) : Nat := if n < 2 then 0 else zfy n 1 n
theorem splitA_lt : ∀ (f k n : Nat), 1 ≤ k → k < n → 1 ≤ zfy f k n ∧ zfy f k n < n
  | 0, k, n, h1, h2 => ⟨h1, h2⟩
  | f + 1, k, n, h1, h2 => by
    simp only [zfy]
    split
    · exact splitA_lt f (k * 2) n (by omega) (by omega)
    · exact ⟨h1, h2⟩
theorem zjb {n : Nat} (h : 2 ≤ n) : 1 ≤ zab n ∧ zab n < n := by
  rw [zab, if_neg (by omega)]
  exact splitA_lt n 1 n (by omega) (by omega)
theorem ziC : ∀ (f k n : Nat), ¬ k < n - k → zfy f k n = k
  | 0, _, _, _ => rfl
  | f + 1, k, n, h => by rw [zfy, if_neg h]
theorem zlk : ∀ (f k n : Nat), 1 ≤ k → n < k + f → k < n - k → zfy f k n = zfy f (k * 2) n
  | 0, k, n, _, h, h2 => by omega
  | f + 1, k, n, h1, h, h2 => by
    rw [zfy, if_pos h2]
    by_cases h3 : k * 2 < n - k * 2
    · have e : zfy (f + 1) (k * 2) n = zfy f (k * 2 * 2) n := by rw [zfy, if_pos h3]
      rw [e]
      exact zlk f (k * 2) n (by omega) (by omega) h3
    · rw [ziC f _ _ h3, ziC (f + 1) _ _ h3]
def leafB (b : List UInt8) : List UInt8 := 0 :: b
def zms (l r : Int) : List UInt8 := 1 :: (zbB l.toNat ++ zbB r.toNat)
def zfI : Nat → List (List UInt8) → List (List UInt8) → Int × List (List UInt8)
  | _, L, [] => (ziB L [2], zfP L [2])
  | _, L, [x] => (ziB L (leafB x), zfP L (leafB x))
  | 0, L, _ => (0, L)
  | f + 1, L, l =>
    let a := zfI f L (l.take (zab l.length))
    let b := zfI f a.2 (l.drop (zab l.length))
    (ziB b.2 (zms a.1 b.1), zfP b.2 (zms a.1 b.1))
def zdi (L l : List (List UInt8)) : Int × List (List UInt8) := zfI l.length L l
theorem zhE : ∀ (f g : Nat) (L l : List (List UInt8)), l.length ≤ f → l.length ≤ g → zfI f L l = zfI g L l
  | f, g, L, [], _, _ => by cases f <;> cases g <;> rfl
  | f, g, L, [x], _, _ => by cases f <;> cases g <;> rfl
  | 0, _, L, x :: y :: r, h, _ => by simp at h
  | _, 0, L, x :: y :: r, _, h => by simp at h
  | f + 1, g + 1, L, x :: y :: r, h1, h2 => by
    have hs := zjb (n := (x :: y :: r).length) (by simp)
    have e := zhE f g L ((x :: y :: r).take (zab (x :: y :: r).length)) (by rw [List.length_take]; omega) (by rw [List.length_take]; omega)
    simp only [zfI, e]
    rw [zhE f g (zfI g L ((x :: y :: r).take (zab (x :: y :: r).length))).2 ((x :: y :: r).drop (zab (x :: y :: r).length)) (by rw [List.length_drop]; omega) (by rw [List.length_drop]; omega)]
theorem rootF_2 {L l : List (List UInt8)} (h : 2 ≤ l.length) : zdi L l = (ziB (zdi (zdi L (l.take (zab l.length))).2 (l.drop (zab l.length))).2 (zms (zdi L (l.take (zab l.length))).1 (zdi (zdi L (l.take (zab l.length))).2 (l.drop (zab l.length))).1),
    zfP (zdi (zdi L (l.take (zab l.length))).2 (l.drop (zab l.length))).2 (zms (zdi L (l.take (zab l.length))).1 (zdi (zdi L (l.take (zab l.length))).2 (l.drop (zab l.length))).1)) := by
  have hs := zjb h
  have h1 : (l.take (zab l.length)).length = zab l.length := by rw [List.length_take]; omega
  have h2 : (l.drop (zab l.length)).length = l.length - zab l.length := List.length_drop
  obtain ⟨m, hm⟩ : ∃ m, l.length = m + 1 := ⟨l.length - 1, by omega⟩
  have e : ∀ l : List (List UInt8), 2 ≤ l.length → ∀ m, zfI (m + 1) L l = (ziB (zfI m (zfI m L (l.take (zab l.length))).2 (l.drop (zab l.length))).2 (zms (zfI m L (l.take (zab l.length))).1 (zfI m (zfI m L (l.take (zab l.length))).2 (l.drop (zab l.length))).1), zfP (zfI m (zfI m L (l.take (zab l.length))).2 (l.drop (zab l.length))).2 (zms (zfI m L (l.take (zab l.length))).1 (zfI m (zfI m L (l.take (zab l.length))).2 (l.drop (zab l.length))).1)) := by
    intro l hl m
    match l, hl with
    | x :: y :: r, _ => simp only [zfI]
  have f1 := zhE m (l.take (zab l.length)).length L (l.take (zab l.length)) (by omega) (Nat.le_refl _)
  have f2 := fun L' => zhE m (l.drop (zab l.length)).length L' (l.drop (zab l.length)) (by omega) (Nat.le_refl _)
  have f0 : zfI l.length L l = zfI (m + 1) L l := by rw [hm]
  unfold zdi
  rw [f0, e l h m, f1, f2]
end Go.AW

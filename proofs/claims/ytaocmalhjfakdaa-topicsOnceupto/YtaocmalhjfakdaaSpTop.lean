/- Topics: what the document says of them. No program in sight. -/
import Derived.Test.YtaocmalhjfakdaaMk2
import Derived.Test.YtaocmalhjfakdaaSpMap
import Derived.Test.YtaocmalhjfakdaaSpNum
set_option linter.all false
set_option linter.unusedSimpArgs false
set_option linter.unusedVariables false
namespace Go.AW

structure zQ where
  name : List UInt8
  base : Int
  recs : List (List UInt8)
  groups : List (List UInt8 × Int)
structure zS where
  l : List zQ
  last : List (Int × Int × Int)
def zbZ : zS := ⟨[], List.replicate 8 (0, 0, 0)⟩
abbrev groupD (g : List UInt8 × Int) : List D := [.str g.1, .int .i64 g.2]
abbrev groupsE (l : List (List UInt8 × Int)) : List (List D) := l.map groupD
def zQ.next (x : zQ) : Int := x.base + x.recs.length
def atF (n : List UInt8) : List zQ → Nat → Option Nat
  | [], _ => none
  | x :: r, i => if (x.name == n) = true then some i else atF n r (i + 1)
def ziY (n : List UInt8) : List zQ → Nat
  | [] => 0
  | x :: r => if Op.bytesLess x.name n = true then ziY n r + 1 else 0
def zgJ (n : List UInt8) : List (List UInt8 × Int) → Nat
  | [] => 0
  | g :: r => if Op.bytesLess g.1 n = true then zgJ n r + 1 else 0
abbrev TRes := Int × Int
def zbz (T : zS) (n : List UInt8) : TRes × zS :=
  if (atF n T.l 0).isSome then ((5, 0), T) else if 8 ≤ T.l.length then ((6, 0), T)
  else ((0, 0), { T with l := T.l.take (ziY n T.l) ++ ⟨n, 0, [], []⟩ :: T.l.drop (ziY n T.l) })
def zcB (t : List UInt8) (o : Int) : List (List UInt8) → List zet
  | [] => []
  | r :: l => ⟨t, o, r⟩ :: zcB t (o + 1) l
def zcz (T : zS) (i : Nat) (x : zQ) (o : TOp) : TRes × List zet × zS :=
  if 64 < x.recs.length + o.recs.length ∨ 9007199254740992 - (o.recs.length : Int) < x.next then ((71, 0), [], T)
  else ((0, x.next), zcB x.name x.next o.recs, { T with l := T.l.set i { x with recs := x.recs ++ o.recs } })
def hadG (n : List UInt8) (l : List (List UInt8 × Int)) : Option Int := match l[zgJ n l]? with
  | some g => if (g.1 == n) = true then some g.2 else none
  | none => none
def zbU (T : zS) (i : Nat) (x : zQ) (o : TOp) : TRes × zS :=
  if o.offset < (hadG o.group x.groups).getD 0 ∨ x.next < o.offset then ((72, 0), T)
  else if (hadG o.group x.groups).isSome = false ∧ 8 ≤ x.groups.length then ((6, 0), T)
  else ((0, o.offset), { T with l := T.l.set i { x with groups := x.groups.take (zgJ o.group x.groups) ++ (o.group, o.offset) :: x.groups.drop (zgJ o.group x.groups + if (hadG o.group x.groups).isSome then 1 else 0) } })
def zhU (T : zS) (i : Nat) (x : zQ) (o : TOp) : TRes × zS :=
  if o.offset < x.base ∨ x.next < o.offset then ((72, 0), T)
  else ((0, o.offset), { T with l := T.l.set i { x with recs := x.recs.drop (o.offset - x.base).toNat, base := o.offset } })
def zbr (T : zS) (o : TOp) : TRes × List zet × zS :=
  if zat zdg o ≠ 0 then ((zat zdg o, 0), [], T)
  else if o.kind = 0 then ((0, 0), [], T)
  else if o.kind = 1 then ((zbz T o.topic).1, [], (zbz T o.topic).2)
  else match atF o.topic T.l 0 with
    | none => ((4, 0), [], T)
    | some i => match T.l[i]? with
      | none => ((4, 0), [], T)
      | some x => if o.kind = 2 then zcz T i x o
        else if o.kind = 3 then ((zbU T i x o).1, [], (zbU T i x o).2)
        else ((zhU T i x o).1, [], (zhU T i x o).2)
def zx (T : zS) (c tm : Int) (o : TOp) : TRes × List zet × Bool × zS :=
  if c < 0 ∨ 8 ≤ c ∨ tm < 1 ∨ 9007199254740992 < tm then ((1, 0), [], false, T)
  else if tm = (T.last.getD c.toNat (0, 0, 0)).1 then ((T.last.getD c.toNat (0, 0, 0)).2, [], false, T)
  else if tm < (T.last.getD c.toNat (0, 0, 0)).1 then ((7, 0), [], false, T)
  else ((zbr T o).1, (zbr T o).2.1, true, { (zbr T o).2.2 with last := (zbr T o).2.2.last.set c.toNat (tm, (zbr T o).1.1, (zbr T o).1.2) })
theorem zfo (T : zS) (o : TOp) : (zbr T o).2.2.last = T.last := by
  unfold zbr zbz zcz zbU zhU
  repeat' (first | rfl | split)
theorem zjm (t : List UInt8) : ∀ (l : List (List UInt8)) (o : Int), (zcB t o l).length = l.length
  | [], _ => rfl
  | _ :: l, o => by simp [zcB, zjm t l]
theorem zih (t : List UInt8) : ∀ (l : List (List UInt8)) (o : Int) (r : List UInt8), zcB t o (l ++ [r]) = zcB t o l ++ [⟨t, o + l.length, r⟩]
  | [], o, r => by simp [zcB]
  | a :: l, o, r => by
    simp only [List.cons_append, zcB, zih t l (o + 1) r, List.length_cons]
    congr 3
    simp; omega
abbrev topD (x : zQ) : List D := [.str x.name, .int .i64 x.base, .slice (zbu x.recs), .slice (groupsE x.groups)]
abbrev topsE (l : List zQ) : List (List D) := l.map topD
abbrev flatA (es : List (List D)) : List AV := es.flatten.map .d
structure TopI (x : zQ) : Prop where
  base : 0 ≤ x.base
  next : x.next ≤ 9007199254740992
  recs : x.recs.length ≤ 64
  groups : x.groups.length ≤ 8
  name : x.name.length ≤ 64
  each : ∀ r ∈ x.recs, r.length ≤ 64
  gs : ∀ g ∈ x.groups, g.1.length ≤ 64 ∧ 0 ≤ g.2 ∧ g.2 ≤ 9007199254740992
structure zee (T : zS) : Prop where
  len : T.l.length ≤ 8
  tops : ∀ x ∈ T.l, TopI x
theorem zee.none : zee zbZ := ⟨by simp [zbZ], by simp [zbZ]⟩
theorem check0 {o : TOp} (h : zat zdg o = 0) : 0 ≤ o.offset ∧ o.offset ≤ 9007199254740992 ∧ (o.kind ≠ 0 → zdg o.topic = true) ∧ (o.kind = 3 → zdg o.group = true) ∧ (o.kind = 2 → ∀ r ∈ o.recs, r.length ≤ 64) := by
  unfold zat at h
  split at h
  · cases h
  · split at h
    · cases h
    · rename_i h2
      split at h
      · cases h
      · rename_i h3
        split at h
        · cases h
        · rename_i h4
          split at h
          · cases h
          · rename_i h5
            refine ⟨by omega, by omega, fun hk => by simpa [hk] using h2, fun hk => by simpa [hk] using h3, fun hk r hr => ?_⟩
            have : ¬ (o.recs.any (fun r => decide (r.length > 64)) = true) := fun e => h4 ⟨hk, .inr (.inr e)⟩
            simp only [List.any_eq_true, decide_eq_true_eq, not_exists, not_and] at this
            have := this r hr
            omega
theorem zfi {α : Type} {l : List α} {i : Nat} {x y : α} (h : y ∈ l.set i x) : y ∈ l ∨ y = x := List.mem_or_eq_of_mem_set h
theorem doesI {T : zS} (h : zee T) (o : TOp) : zee (zbr T o).2.2 := by
  unfold zbr
  split
  · exact h
  · rename_i hc
    have hc : zat zdg o = 0 := by simpa using hc
    obtain ⟨q1, q2, q3, q4, q5⟩ := check0 hc
    split
    · exact h
    · rename_i k0
      have hn := name_len (q3 k0)
      split
      · unfold zbz
        split
        · exact h
        · split
          · exact h
          · refine ⟨by simp only [List.length_append, List.length_take, List.length_cons, List.length_drop]; omega, fun x hx => ?_⟩
            rcases List.mem_append.1 hx with hx | hx
            · exact h.tops x (List.mem_of_mem_take hx)
            · rcases List.mem_cons.1 hx with rfl | hx
              · exact ⟨by simp, by simp [zQ.next], by simp, by simp, hn, by simp, by simp⟩
              · exact h.tops x (List.mem_of_mem_drop hx)
      · split
        · exact h
        · rename_i i _
          split
          · exact h
          · rename_i x hx
            have hX := h.tops x (List.mem_of_getElem? hx)
            have a1 := hX.base; have a2 := hX.next; have a3 := hX.recs; have a4 := hX.groups
            split
            · rename_i k2
              unfold zcz
              split
              · exact h
              · rename_i hq
                refine ⟨by simpa using h.len, fun y hy => ?_⟩
                rcases zfi hy with hy | rfl
                · exact h.tops y hy
                · have e : x.next = x.base + x.recs.length := rfl
                  refine ⟨a1, by simp only [zQ.next, List.length_append]; omega, by simp; omega, a4, hX.name, fun r hr => ?_, hX.gs⟩
                  rcases List.mem_append.1 hr with hr | hr
                  · exact hX.each r hr
                  · exact q5 k2 r hr
            · split
              · rename_i k3
                have hg := name_len (q4 k3)
                unfold zbU
                split
                · exact h
                · split
                  · exact h
                  · rename_i h6 h7
                    refine ⟨by simpa using h.len, fun y hy => ?_⟩
                    rcases zfi hy with hy | rfl
                    · exact h.tops y hy
                    · refine ⟨a1, a2, a3, ?_, hX.name, hX.each, fun g hg' => ?_⟩
                      · simp only [List.length_append, List.length_take, List.length_cons, List.length_drop]
                        cases hh : hadG o.group x.groups with
                        | none => simp [hh] at h7 ⊢; omega
                        | some v =>
                          have : zgJ o.group x.groups < x.groups.length := by
                            rw [hadG] at hh
                            split at hh
                            · rename_i g0 hg0; exact (List.getElem?_eq_some_iff.1 hg0).1
                            · cases hh
                          simp; omega
                      · rcases List.mem_append.1 hg' with hg' | hg'
                        · exact hX.gs g (List.mem_of_mem_take hg')
                        · rcases List.mem_cons.1 hg' with rfl | hg'
                          · exact ⟨hg, q1, q2⟩
                          · exact hX.gs g (List.mem_of_mem_drop hg')
              · unfold zhU
                split
                · exact h
                · rename_i h6
                  refine ⟨by simpa using h.len, fun y hy => ?_⟩
                  rcases zfi hy with hy | rfl
                  · exact h.tops y hy
                  · have e : x.next = x.base + x.recs.length := rfl
                    exact ⟨q1, by simp only [zQ.next, List.length_drop]; omega, by simp; omega, a4, hX.name, fun r hr => hX.each r (List.mem_of_mem_drop hr), hX.gs⟩
theorem applyI {T : zS} (h : zee T) (c tm : Int) (o : TOp) : zee (zx T c tm o).2.2.2 := by
  unfold zx
  split
  · exact h
  · split
    · exact h
    · split
      · exact h
      · exact ⟨(doesI h o).len, (doesI h o).tops⟩
def groupB (g : List UInt8 × Int) : List UInt8 := putB g.1 ++ zcR g.2.toNat
def zdB (l : List (List UInt8 × Int)) : List UInt8 := (l.map groupB).flatten
def topB (x : zQ) : List UInt8 := putB x.name ++ (zcR x.base.toNat ++ (zcR x.recs.length ++ (zgy x.recs ++ (zcR x.groups.length ++ zdB x.groups))))
def zfR (l : List zQ) : List UInt8 := (l.map topB).flatten
def lastB (a : Int × Int × Int) : List UInt8 := zcR a.1.toNat ++ (zcR a.2.1.toNat ++ zcR a.2.2.toNat)
def zex (l : List (Int × Int × Int)) : List UInt8 := (l.map lastB).flatten
def topsB (T : zS) : List UInt8 := zcR T.l.length ++ (zfR T.l ++ zex T.last)
theorem zfH {α : Type} {f : α → List UInt8} {n : Nat} : ∀ {l : List α}, (∀ x ∈ l, (f x).length ≤ n) → ((l.map f).flatten).length ≤ l.length * n
  | [], _ => by simp
  | x :: l, h => by
    have h1 := h x List.mem_cons_self
    have h2 := zfH (l := l) fun y hy => h y (List.mem_cons_of_mem _ hy)
    simp only [List.map_cons, List.flatten_cons, List.length_append, List.length_cons, Nat.add_mul, Nat.one_mul]
    omega
theorem zjs {g : List UInt8 × Int} (h : g.1.length ≤ 64 ∧ 0 ≤ g.2 ∧ g.2 ≤ 9007199254740992) : (groupB g).length ≤ 84 := by
  have h1 := zfh (x := g.1) (by omega)
  have h2 := zad (n := g.2.toNat) (by omega)
  simp only [groupB, List.length_append]; omega
theorem topB_len {x : zQ} (h : TopI x) : (topB x).length ≤ 5600 := by
  have h1 := zfh (x := x.name) (by have := h.name; omega)
  have e : x.next = x.base + x.recs.length := rfl
  have a1 := h.base; have a2 := h.next; have a3 := h.recs; have a4 := h.groups; have a5 := h.name
  have h2 := zad (n := x.base.toNat) (by omega)
  have h3 := zad (n := x.recs.length) (by omega)
  have h4 := zad (n := x.groups.length) (by omega)
  have h5 : (zgy x.recs).length ≤ x.recs.length * 74 := zfH fun r hr => by have := h.each r hr; have := zfh (x := r) (by omega); omega
  have h6 : (zdB x.groups).length ≤ x.groups.length * 84 := zfH fun g hg => zjs (h.gs g hg)
  simp only [topB, List.length_append]; omega
theorem topsBl_len {l : List zQ} (h : ∀ x ∈ l, TopI x) : (zfR l).length ≤ l.length * 5600 := zfH fun x hx => topB_len (h x hx)
def LastI (l : List (Int × Int × Int)) : Prop := ∀ a ∈ l, (0 ≤ a.1 ∧ a.1 ≤ 9007199254740992) ∧ (0 ≤ a.2.1 ∧ a.2.1 ≤ 9007199254740992) ∧ (0 ≤ a.2.2 ∧ a.2.2 ≤ 9007199254740992)
theorem lastB_len {a : Int × Int × Int} (h : (0 ≤ a.1 ∧ a.1 ≤ 9007199254740992) ∧ (0 ≤ a.2.1 ∧ a.2.1 ≤ 9007199254740992) ∧ (0 ≤ a.2.2 ∧ a.2.2 ≤ 9007199254740992)) : (lastB a).length ≤ 30 := by
  have h1 := zad (n := a.1.toNat) (by omega)
  have h2 := zad (n := a.2.1.toNat) (by omega)
  have h3 := zad (n := a.2.2.toNat) (by omega)
  simp only [lastB, List.length_append]; omega
theorem lastsB_len {l : List (Int × Int × Int)} (h : LastI l) : (zex l).length ≤ l.length * 30 := zfH fun a ha => lastB_len (h a ha)
theorem checkOp_rng (n : List UInt8 → Bool) (o : TOp) : 0 ≤ zat n o ∧ zat n o ≤ 100 := by
  unfold zat
  repeat' split
  all_goals omega
theorem doesR {T : zS} (h : zee T) (o : TOp) : (0 ≤ (zbr T o).1.1 ∧ (zbr T o).1.1 ≤ 9007199254740992) ∧ (0 ≤ (zbr T o).1.2 ∧ (zbr T o).1.2 ≤ 9007199254740992) := by
  unfold zbr
  split
  · have := checkOp_rng zdg o
    exact ⟨⟨this.1, by simp only; omega⟩, by simp, by simp⟩
  · rename_i hc
    have hc : zat zdg o = 0 := by simpa using hc
    obtain ⟨q1, q2, _⟩ := check0 hc
    split
    · simp
    · split
      · unfold zbz
        repeat' split
        all_goals simp
      · split
        · simp
        · split
          · simp
          · rename_i x hx
            have hX := h.tops x (List.mem_of_getElem? hx)
            have a1 := hX.base; have a2 := hX.next
            have e : x.next = x.base + x.recs.length := rfl
            split
            · unfold zcz
              split
              · simp
              · exact ⟨by simp, by simp only; omega, by simp only; omega⟩
            · split
              · unfold zbU
                repeat' split
                all_goals first | simp; done | exact ⟨by simp, q1, q2⟩
              · unfold zhU
                split
                · simp
                · exact ⟨by simp, q1, q2⟩
theorem applyL {T : zS} (h : zee T) (hL : LastI T.last) (c tm : Int) (o : TOp) : LastI (zx T c tm o).2.2.2.last := by
  unfold zx
  split
  · exact hL
  · rename_i h1
    split
    · exact hL
    · split
      · exact hL
      · intro a ha
        rcases zfi ha with ha | rfl
        · rw [zfo] at ha; exact hL a ha
        · exact ⟨by simp only; omega, doesR h o⟩
theorem applyF_last {T : zS} (c tm : Int) (o : TOp) : (zx T c tm o).2.2.2.last.length = T.last.length := by
  unfold zx
  repeat' split
  all_goals simp [zfo]
end Go.AW

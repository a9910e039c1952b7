/- Topics: what the document says of them. No program in sight. -/
import Derived.Test.YtaocmalhjfakdaaSpHdr
import Derived.Test.YtaocmalhjfakdaaSpMap
import Derived.Test.YtaocmalhjfakdaaSpNum
set_option linter.all false
set_option linter.unusedSimpArgs false
set_option linter.unusedVariables false
namespace Go.AW

structure TTopic where
  name : List UInt8
  base : Int
  recs : List (List UInt8)
  groups : List (List UInt8 × Int)
structure TTops where
  l : List TTopic
  last : List (Int × Int × Int)
def noTops : TTops := ⟨[], List.replicate 8 (0, 0, 0)⟩
abbrev groupD (g : List UInt8 × Int) : List D := [.str g.1, .int .i64 g.2]
abbrev groupsE (l : List (List UInt8 × Int)) : List (List D) := l.map groupD
def TTopic.next (x : TTopic) : Int := x.base + x.recs.length
def atF (n : List UInt8) : List TTopic → Nat → Option Nat
  | [], _ => none
  | x :: r, i => if (x.name == n) = true then some i else atF n r (i + 1)
def lessN (n : List UInt8) : List TTopic → Nat
  | [] => 0
  | x :: r => if Op.bytesLess x.name n = true then lessN n r + 1 else 0
def lessG (n : List UInt8) : List (List UInt8 × Int) → Nat
  | [] => 0
  | g :: r => if Op.bytesLess g.1 n = true then lessG n r + 1 else 0
abbrev TRes := Int × Int
def createF (T : TTops) (n : List UInt8) : TRes × TTops :=
  if (atF n T.l 0).isSome then ((5, 0), T) else if 8 ≤ T.l.length then ((6, 0), T)
  else ((0, 0), { T with l := T.l.take (lessN n T.l) ++ ⟨n, 0, [], []⟩ :: T.l.drop (lessN n T.l) })
def placeF (t : List UInt8) (o : Int) : List (List UInt8) → List TPlaced
  | [] => []
  | r :: l => ⟨t, o, r⟩ :: placeF t (o + 1) l
def publishF (T : TTops) (i : Nat) (x : TTopic) (o : TOp) : TRes × List TPlaced × TTops :=
  if 64 < x.recs.length + o.recs.length ∨ 9007199254740992 - (o.recs.length : Int) < x.next then ((71, 0), [], T)
  else ((0, x.next), placeF x.name x.next o.recs, { T with l := T.l.set i { x with recs := x.recs ++ o.recs } })
def hadG (n : List UInt8) (l : List (List UInt8 × Int)) : Option Int := match l[lessG n l]? with
  | some g => if (g.1 == n) = true then some g.2 else none
  | none => none
def commitF (T : TTops) (i : Nat) (x : TTopic) (o : TOp) : TRes × TTops :=
  if o.offset < (hadG o.group x.groups).getD 0 ∨ x.next < o.offset then ((72, 0), T)
  else if (hadG o.group x.groups).isSome = false ∧ 8 ≤ x.groups.length then ((6, 0), T)
  else ((0, o.offset), { T with l := T.l.set i { x with groups := x.groups.take (lessG o.group x.groups) ++ (o.group, o.offset) :: x.groups.drop (lessG o.group x.groups + if (hadG o.group x.groups).isSome then 1 else 0) } })
def trimF (T : TTops) (i : Nat) (x : TTopic) (o : TOp) : TRes × TTops :=
  if o.offset < x.base ∨ x.next < o.offset then ((72, 0), T)
  else ((0, o.offset), { T with l := T.l.set i { x with recs := x.recs.drop (o.offset - x.base).toNat, base := o.offset } })
def doesF (T : TTops) (o : TOp) : TRes × List TPlaced × TTops :=
  if checkOpF nameF o ≠ 0 then ((checkOpF nameF o, 0), [], T)
  else if o.kind = 0 then ((0, 0), [], T)
  else if o.kind = 1 then ((createF T o.topic).1, [], (createF T o.topic).2)
  else match atF o.topic T.l 0 with
    | none => ((4, 0), [], T)
    | some i => match T.l[i]? with
      | none => ((4, 0), [], T)
      | some x => if o.kind = 2 then publishF T i x o
        else if o.kind = 3 then ((commitF T i x o).1, [], (commitF T i x o).2)
        else ((trimF T i x o).1, [], (trimF T i x o).2)
def applyF (T : TTops) (c tm : Int) (o : TOp) : TRes × List TPlaced × Bool × TTops :=
  if c < 0 ∨ 8 ≤ c ∨ tm < 1 ∨ 9007199254740992 < tm then ((1, 0), [], false, T)
  else if tm = (T.last.getD c.toNat (0, 0, 0)).1 then ((T.last.getD c.toNat (0, 0, 0)).2, [], false, T)
  else if tm < (T.last.getD c.toNat (0, 0, 0)).1 then ((7, 0), [], false, T)
  else ((doesF T o).1, (doesF T o).2.1, true, { (doesF T o).2.2 with last := (doesF T o).2.2.last.set c.toNat (tm, (doesF T o).1.1, (doesF T o).1.2) })
theorem doesF_last (T : TTops) (o : TOp) : (doesF T o).2.2.last = T.last := by
  unfold doesF createF publishF commitF trimF
  repeat' (first | rfl | split)
theorem placeF_len (t : List UInt8) : ∀ (l : List (List UInt8)) (o : Int), (placeF t o l).length = l.length
  | [], _ => rfl
  | _ :: l, o => by simp [placeF, placeF_len t l]
theorem placeF_snoc (t : List UInt8) : ∀ (l : List (List UInt8)) (o : Int) (r : List UInt8), placeF t o (l ++ [r]) = placeF t o l ++ [⟨t, o + l.length, r⟩]
  | [], o, r => by simp [placeF]
  | a :: l, o, r => by
    simp only [List.cons_append, placeF, placeF_snoc t l (o + 1) r, List.length_cons]
    congr 3
    simp; omega
abbrev topD (x : TTopic) : List D := [.str x.name, .int .i64 x.base, .slice (recsE x.recs), .slice (groupsE x.groups)]
abbrev topsE (l : List TTopic) : List (List D) := l.map topD
abbrev flatA (es : List (List D)) : List AV := es.flatten.map .d
structure TopI (x : TTopic) : Prop where
  base : 0 ≤ x.base
  next : x.next ≤ 9007199254740992
  recs : x.recs.length ≤ 64
  groups : x.groups.length ≤ 8
  name : x.name.length ≤ 64
  each : ∀ r ∈ x.recs, r.length ≤ 64
  gs : ∀ g ∈ x.groups, g.1.length ≤ 64 ∧ 0 ≤ g.2 ∧ g.2 ≤ 9007199254740992
structure TopsI (T : TTops) : Prop where
  len : T.l.length ≤ 8
  tops : ∀ x ∈ T.l, TopI x
theorem TopsI.none : TopsI noTops := ⟨by simp [noTops], by simp [noTops]⟩
theorem check0 {o : TOp} (h : checkOpF nameF o = 0) : 0 ≤ o.offset ∧ o.offset ≤ 9007199254740992 ∧ (o.kind ≠ 0 → nameF o.topic = true) ∧ (o.kind = 3 → nameF o.group = true) ∧ (o.kind = 2 → ∀ r ∈ o.recs, r.length ≤ 64) := by
  unfold checkOpF at h
  split at h
  · cases h
  · split at h
    · cases h
    · rename_i h2
      split at h
      · cases h
      · rename_i h3
        split at h
        · cases h
        · rename_i h4
          split at h
          · cases h
          · rename_i h5
            refine ⟨by omega, by omega, fun hk => by simpa [hk] using h2, fun hk => by simpa [hk] using h3, fun hk r hr => ?_⟩
            have : ¬ (o.recs.any (fun r => decide (r.length > 64)) = true) := fun e => h4 ⟨hk, .inr (.inr e)⟩
            simp only [List.any_eq_true, decide_eq_true_eq, not_exists, not_and] at this
            have := this r hr
            omega
theorem mem_set_of {α : Type} {l : List α} {i : Nat} {x y : α} (h : y ∈ l.set i x) : y ∈ l ∨ y = x := List.mem_or_eq_of_mem_set h
theorem doesI {T : TTops} (h : TopsI T) (o : TOp) : TopsI (doesF T o).2.2 := by
  unfold doesF
  split
  · exact h
  · rename_i hc
    have hc : checkOpF nameF o = 0 := by simpa using hc
    obtain ⟨q1, q2, q3, q4, q5⟩ := check0 hc
    split
    · exact h
    · rename_i k0
      have hn := name_len (q3 k0)
      split
      · unfold createF
        split
        · exact h
        · split
          · exact h
          · refine ⟨by simp only [List.length_append, List.length_take, List.length_cons, List.length_drop]; omega, fun x hx => ?_⟩
            rcases List.mem_append.1 hx with hx | hx
            · exact h.tops x (List.mem_of_mem_take hx)
            · rcases List.mem_cons.1 hx with rfl | hx
              · exact ⟨by simp, by simp [TTopic.next], by simp, by simp, hn, by simp, by simp⟩
              · exact h.tops x (List.mem_of_mem_drop hx)
      · split
        · exact h
        · rename_i i _
          split
          · exact h
          · rename_i x hx
            have hX := h.tops x (List.mem_of_getElem? hx)
            have a1 := hX.base; have a2 := hX.next; have a3 := hX.recs; have a4 := hX.groups
            split
            · rename_i k2
              unfold publishF
              split
              · exact h
              · rename_i hq
                refine ⟨by simpa using h.len, fun y hy => ?_⟩
                rcases mem_set_of hy with hy | rfl
                · exact h.tops y hy
                · have e : x.next = x.base + x.recs.length := rfl
                  refine ⟨a1, by simp only [TTopic.next, List.length_append]; omega, by simp; omega, a4, hX.name, fun r hr => ?_, hX.gs⟩
                  rcases List.mem_append.1 hr with hr | hr
                  · exact hX.each r hr
                  · exact q5 k2 r hr
            · split
              · rename_i k3
                have hg := name_len (q4 k3)
                unfold commitF
                split
                · exact h
                · split
                  · exact h
                  · rename_i h6 h7
                    refine ⟨by simpa using h.len, fun y hy => ?_⟩
                    rcases mem_set_of hy with hy | rfl
                    · exact h.tops y hy
                    · refine ⟨a1, a2, a3, ?_, hX.name, hX.each, fun g hg' => ?_⟩
                      · simp only [List.length_append, List.length_take, List.length_cons, List.length_drop]
                        cases hh : hadG o.group x.groups with
                        | none => simp [hh] at h7 ⊢; omega
                        | some v =>
                          have : lessG o.group x.groups < x.groups.length := by
                            rw [hadG] at hh
                            split at hh
                            · rename_i g0 hg0; exact (List.getElem?_eq_some_iff.1 hg0).1
                            · cases hh
                          simp; omega
                      · rcases List.mem_append.1 hg' with hg' | hg'
                        · exact hX.gs g (List.mem_of_mem_take hg')
                        · rcases List.mem_cons.1 hg' with rfl | hg'
                          · exact ⟨hg, q1, q2⟩
                          · exact hX.gs g (List.mem_of_mem_drop hg')
              · unfold trimF
                split
                · exact h
                · rename_i h6
                  refine ⟨by simpa using h.len, fun y hy => ?_⟩
                  rcases mem_set_of hy with hy | rfl
                  · exact h.tops y hy
                  · have e : x.next = x.base + x.recs.length := rfl
                    exact ⟨q1, by simp only [TTopic.next, List.length_drop]; omega, by simp; omega, a4, hX.name, fun r hr => hX.each r (List.mem_of_mem_drop hr), hX.gs⟩
theorem applyI {T : TTops} (h : TopsI T) (c tm : Int) (o : TOp) : TopsI (applyF T c tm o).2.2.2 := by
  unfold applyF
  split
  · exact h
  · split
    · exact h
    · split
      · exact h
      · exact ⟨(doesI h o).len, (doesI h o).tops⟩
def PlI (p : TPlaced) : Prop := 0 ≤ p.offset ∧ p.offset ≤ 9007199254740992 ∧ p.topic.length ≤ 64 ∧ p.rec_.length ≤ 64
theorem placeI {t : List UInt8} (ht : t.length ≤ 64) : ∀ {l : List (List UInt8)} {o : Int}, 0 ≤ o → o + l.length ≤ 9007199254740992 → (∀ r ∈ l, r.length ≤ 64) → ∀ p ∈ placeF t o l, PlI p
  | [], _, _, _, _, p, h => by simp [placeF] at h
  | r :: l, o, h0, h1, h2, p, h => by
    simp only [List.length_cons] at h1
    rcases List.mem_cons.1 h with rfl | h
    · exact ⟨h0, by simp only; omega, ht, h2 r List.mem_cons_self⟩
    · exact placeI ht (l := l) (o := o + 1) (by omega) (by omega) (fun r hr => h2 r (List.mem_cons_of_mem _ hr)) p h
theorem doesP {T : TTops} (h : TopsI T) (o : TOp) : (∀ p ∈ (doesF T o).2.1, PlI p) ∧ (doesF T o).2.1.length ≤ 64 := by
  unfold doesF
  split
  · simp
  · rename_i hc
    have hc : checkOpF nameF o = 0 := by simpa using hc
    obtain ⟨q1, q2, q3, q4, q5⟩ := check0 hc
    split
    · simp
    · split
      · simp
      · split
        · simp
        · split
          · simp
          · rename_i x hx
            have hX := h.tops x (List.mem_of_getElem? hx)
            have a1 := hX.base; have a2 := hX.next
            have e : x.next = x.base + x.recs.length := rfl
            split
            · rename_i k2
              unfold publishF
              split
              · simp
              · exact ⟨placeI hX.name (by omega) (by omega) (q5 k2), by simp only [placeF_len]; omega⟩
            · split <;> simp
theorem applyP {T : TTops} (h : TopsI T) (c tm : Int) (o : TOp) : (∀ p ∈ (applyF T c tm o).2.1, PlI p) ∧ (applyF T c tm o).2.1.length ≤ 64 := by
  unfold applyF
  repeat' split
  all_goals first | (simp; done) | exact doesP h o
end Go.AW

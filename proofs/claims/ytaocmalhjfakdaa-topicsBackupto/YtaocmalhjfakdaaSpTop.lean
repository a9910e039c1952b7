/- Topics: what the document says of them. No program in sight. -/
import Derived.Test.YtaocmalhjfakdaaMk2
import Derived.Test.YtaocmalhjfakdaaSpMap
import Derived.Test.YtaocmalhjfakdaaCl1
set_option linter.all false
set_option linter.unusedSimpArgs false
set_option linter.unusedVariables false
namespace Go.AW

structure zC where
  name : List UInt8
  base : Int
  recs : List (List UInt8)
  groups : List (List UInt8 × Int)
structure zO where
  l : List zC
  last : List (Int × Int × Int)
def zbR : zO := ⟨[], List.replicate 8 (0, 0, 0)⟩
abbrev groupD (g : List UInt8 × Int) : List D := [.str g.1, .int .i64 g.2]
abbrev groupsE (l : List (List UInt8 × Int)) : List (List D) := l.map groupD
def zC.next (x : zC) : Int := x.base + x.recs.length
def atF (n : List UInt8) : List zC → Nat → Option Nat
  | [], _ => none
  | x :: r, i => if (x.name == n) = true then some i else atF n r (i + 1)
def zlq (n : List UInt8) : List zC → Nat
  | [] => 0
  | x :: r => if Op.bytesLess x.name n = true then zlq n r + 1 else 0
def zjp (n : List UInt8) : List (List UInt8 × Int) → Nat
  | [] => 0
  | g :: r => if Op.bytesLess g.1 n = true then zjp n r + 1 else 0
abbrev TRes := Int × Int
def zbw (T : zO) (n : List UInt8) : TRes × zO :=
  if (atF n T.l 0).isSome then ((5, 0), T) else if 8 ≤ T.l.length then ((6, 0), T)
  else ((0, 0), { T with l := T.l.take (zlq n T.l) ++ ⟨n, 0, [], []⟩ :: T.l.drop (zlq n T.l) })
def zdc (t : List UInt8) (o : Int) : List (List UInt8) → List zfd
  | [] => []
  | r :: l => ⟨t, o, r⟩ :: zdc t (o + 1) l
def zbZ (T : zO) (i : Nat) (x : zC) (o : TOp) : TRes × List zfd × zO :=
  if 64 < x.recs.length + o.recs.length ∨ 9007199254740992 - (o.recs.length : Int) < x.next then ((71, 0), [], T)
  else ((0, x.next), zdc x.name x.next o.recs, { T with l := T.l.set i { x with recs := x.recs ++ o.recs } })
def hadG (n : List UInt8) (l : List (List UInt8 × Int)) : Option Int := match l[zjp n l]? with
  | some g => if (g.1 == n) = true then some g.2 else none
  | none => none
def zbY (T : zO) (i : Nat) (x : zC) (o : TOp) : TRes × zO :=
  if o.offset < (hadG o.group x.groups).getD 0 ∨ x.next < o.offset then ((72, 0), T)
  else if (hadG o.group x.groups).isSome = false ∧ 8 ≤ x.groups.length then ((6, 0), T)
  else ((0, o.offset), { T with l := T.l.set i { x with groups := x.groups.take (zjp o.group x.groups) ++ (o.group, o.offset) :: x.groups.drop (zjp o.group x.groups + if (hadG o.group x.groups).isSome then 1 else 0) } })
def zir (T : zO) (i : Nat) (x : zC) (o : TOp) : TRes × zO :=
  if o.offset < x.base ∨ x.next < o.offset then ((72, 0), T)
  else ((0, o.offset), { T with l := T.l.set i { x with recs := x.recs.drop (o.offset - x.base).toNat, base := o.offset } })
def zaE (T : zO) (o : TOp) : TRes × List zfd × zO :=
  if zar zbn o ≠ 0 then ((zar zbn o, 0), [], T)
  else if o.kind = 0 then ((0, 0), [], T)
  else if o.kind = 1 then ((zbw T o.topic).1, [], (zbw T o.topic).2)
  else match atF o.topic T.l 0 with
    | none => ((4, 0), [], T)
    | some i => match T.l[i]? with
      | none => ((4, 0), [], T)
      | some x => if o.kind = 2 then zbZ T i x o
        else if o.kind = 3 then ((zbY T i x o).1, [], (zbY T i x o).2)
        else ((zir T i x o).1, [], (zir T i x o).2)
def zaB (T : zO) (c tm : Int) (o : TOp) : TRes × List zfd × Bool × zO :=
  if c < 0 ∨ 8 ≤ c ∨ tm < 1 ∨ 9007199254740992 < tm then ((1, 0), [], false, T)
  else if tm = (T.last.getD c.toNat (0, 0, 0)).1 then ((T.last.getD c.toNat (0, 0, 0)).2, [], false, T)
  else if tm < (T.last.getD c.toNat (0, 0, 0)).1 then ((7, 0), [], false, T)
  else ((zaE T o).1, (zaE T o).2.1, true, { (zaE T o).2.2 with last := (zaE T o).2.2.last.set c.toNat (tm, (zaE T o).1.1, (zaE T o).1.2) })
theorem zhk (T : zO) (o : TOp) : (zaE T o).2.2.last = T.last := by
  unfold zaE zbw zbZ zbY zir
  repeat' (first | rfl | split)
theorem zje (t : List UInt8) : ∀ (l : List (List UInt8)) (o : Int), (zdc t o l).length = l.length
  | [], _ => rfl
  | _ :: l, o => by simp [zdc, zje t l]
theorem zkE (t : List UInt8) : ∀ (l : List (List UInt8)) (o : Int) (r : List UInt8), zdc t o (l ++ [r]) = zdc t o l ++ [⟨t, o + l.length, r⟩]
  | [], o, r => by simp [zdc]
  | a :: l, o, r => by
    simp only [List.cons_append, zdc, zkE t l (o + 1) r, List.length_cons]
    congr 3
    simp; omega
abbrev topD (x : zC) : List D := [.str x.name, .int .i64 x.base, .slice (zbz x.recs), .slice (groupsE x.groups)]
abbrev topsE (l : List zC) : List (List D) := l.map topD
abbrev flatA (es : List (List D)) : List AV := es.flatten.map .d
structure TopI (x : zC) : Prop where
  base : 0 ≤ x.base
  next : x.next ≤ 9007199254740992
  recs : x.recs.length ≤ 64
  groups : x.groups.length ≤ 8
  name : x.name.length ≤ 64
  each : ∀ r ∈ x.recs, r.length ≤ 64
  gs : ∀ g ∈ x.groups, g.1.length ≤ 64 ∧ 0 ≤ g.2 ∧ g.2 ≤ 9007199254740992
structure zdn (T : zO) : Prop where
  len : T.l.length ≤ 8
  tops : ∀ x ∈ T.l, TopI x
theorem zdn.none : zdn zbR := ⟨by simp [zbR], by simp [zbR]⟩
theorem check0 {o : TOp} (h : zar zbn o = 0) : 0 ≤ o.offset ∧ o.offset ≤ 9007199254740992 ∧ (o.kind ≠ 0 → zbn o.topic = true) ∧ (o.kind = 3 → zbn o.group = true) ∧ (o.kind = 2 → ∀ r ∈ o.recs, r.length ≤ 64) := by
  unfold zar at h
  split at h
  · cases h
  · split at h
    · cases h
    · rename_i h2
      split at h
      · cases h
      · rename_i h3
        split at h
        · cases h
        · rename_i h4
          split at h
          · cases h
          · rename_i h5
            refine ⟨by omega, by omega, fun hk => by simpa [hk] using h2, fun hk => by simpa [hk] using h3, fun hk r hr => ?_⟩
            have : ¬ (o.recs.any (fun r => decide (r.length > 64)) = true) := fun e => h4 ⟨hk, .inr (.inr e)⟩
            simp only [List.any_eq_true, decide_eq_true_eq, not_exists, not_and] at this
            have := this r hr
            omega
theorem zcS {α : Type} {l : List α} {i : Nat} {x y : α} (h : y ∈ l.set i x) : y ∈ l ∨ y = x := List.mem_or_eq_of_mem_set h
theorem doesI {T : zO} (h : zdn T) (o : TOp) : zdn (zaE T o).2.2 := by
  unfold zaE
  split
  · exact h
  · rename_i hc
    have hc : zar zbn o = 0 := by simpa using hc
    obtain ⟨q1, q2, q3, q4, q5⟩ := check0 hc
    split
    · exact h
    · rename_i k0
      have hn := name_len (q3 k0)
      split
      · unfold zbw
        split
        · exact h
        · split
          · exact h
          · refine ⟨by simp only [List.length_append, List.length_take, List.length_cons, List.length_drop]; omega, fun x hx => ?_⟩
            rcases List.mem_append.1 hx with hx | hx
            · exact h.tops x (List.mem_of_mem_take hx)
            · rcases List.mem_cons.1 hx with rfl | hx
              · exact ⟨by simp, by simp [zC.next], by simp, by simp, hn, by simp, by simp⟩
              · exact h.tops x (List.mem_of_mem_drop hx)
      · split
        · exact h
        · rename_i i _
          split
          · exact h
          · rename_i x hx
            have hX := h.tops x (List.mem_of_getElem? hx)
            have a1 := hX.base; have a2 := hX.next; have a3 := hX.recs; have a4 := hX.groups
            split
            · rename_i k2
              unfold zbZ
              split
              · exact h
              · rename_i hq
                refine ⟨by simpa using h.len, fun y hy => ?_⟩
                rcases zcS hy with hy | rfl
                · exact h.tops y hy
                · have e : x.next = x.base + x.recs.length := rfl
                  refine ⟨a1, by simp only [zC.next, List.length_append]; omega, by simp; omega, a4, hX.name, fun r hr => ?_, hX.gs⟩
                  rcases List.mem_append.1 hr with hr | hr
                  · exact hX.each r hr
                  · exact q5 k2 r hr
            · split
              · rename_i k3
                have hg := name_len (q4 k3)
                unfold zbY
                split
                · exact h
                · split
                  · exact h
                  · rename_i h6 h7
                    refine ⟨by simpa using h.len, fun y hy => ?_⟩
                    rcases zcS hy with hy | rfl
                    · exact h.tops y hy
                    · refine ⟨a1, a2, a3, ?_, hX.name, hX.each, fun g hg' => ?_⟩
                      · simp only [List.length_append, List.length_take, List.length_cons, List.length_drop]
                        cases hh : hadG o.group x.groups with
                        | none => simp [hh] at h7 ⊢; omega
                        | some v =>
                          have : zjp o.group x.groups < x.groups.length := by
                            rw [hadG] at hh
                            split at hh
                            · rename_i g0 hg0; exact (List.getElem?_eq_some_iff.1 hg0).1
                            · cases hh
                          simp; omega
                      · rcases List.mem_append.1 hg' with hg' | hg'
                        · exact hX.gs g (List.mem_of_mem_take hg')
                        · rcases List.mem_cons.1 hg' with rfl | hg'
                          · exact ⟨hg, q1, q2⟩
                          · exact hX.gs g (List.mem_of_mem_drop hg')
              · unfold zir
                split
                · exact h
                · rename_i h6
                  refine ⟨by simpa using h.len, fun y hy => ?_⟩
                  rcases zcS hy with hy | rfl
                  · exact h.tops y hy
                  · have e : x.next = x.base + x.recs.length := rfl
                    exact ⟨q1, by simp only [zC.next, List.length_drop]; omega, by simp; omega, a4, hX.name, fun r hr => hX.each r (List.mem_of_mem_drop hr), hX.gs⟩
theorem applyI {T : zO} (h : zdn T) (c tm : Int) (o : TOp) : zdn (zaB T c tm o).2.2.2 := by
  unfold zaB
  split
  · exact h
  · split
    · exact h
    · split
      · exact h
      · exact ⟨(doesI h o).len, (doesI h o).tops⟩
def zkU (g : List UInt8 × Int) : List UInt8 := zlm g.1 ++ zci g.2.toNat
def zbi (l : List (List UInt8 × Int)) : List UInt8 := (l.map zkU).flatten
def topB (x : zC) : List UInt8 := zlm x.name ++ (zci x.base.toNat ++ (zci x.recs.length ++ (zdE x.recs ++ (zci x.groups.length ++ zbi x.groups))))
def zco (l : List zC) : List UInt8 := (l.map topB).flatten
def zls (a : Int × Int × Int) : List UInt8 := zci a.1.toNat ++ (zci a.2.1.toNat ++ zci a.2.2.toNat)
def zbH (l : List (Int × Int × Int)) : List UInt8 := (l.map zls).flatten
def zeO (T : zO) : List UInt8 := zci T.l.length ++ (zco T.l ++ zbH T.last)
theorem zia {α : Type} {f : α → List UInt8} {n : Nat} : ∀ {l : List α}, (∀ x ∈ l, (f x).length ≤ n) → ((l.map f).flatten).length ≤ l.length * n
  | [], _ => by simp
  | x :: l, h => by
    have h1 := h x List.mem_cons_self
    have h2 := zia (l := l) fun y hy => h y (List.mem_cons_of_mem _ hy)
    simp only [List.map_cons, List.flatten_cons, List.length_append, List.length_cons, Nat.add_mul, Nat.one_mul]
    omega
theorem zlU {g : List UInt8 × Int} (h : g.1.length ≤ 64 ∧ 0 ≤ g.2 ∧ g.2 ≤ 9007199254740992) : (zkU g).length ≤ 84 := by
  have h1 := zhe (x := g.1) (by omega)
  have h2 := zaq (n := g.2.toNat) (by omega)
  simp only [zkU, List.length_append]; omega
theorem topB_len {x : zC} (h : TopI x) : (topB x).length ≤ 5600 := by
  have h1 := zhe (x := x.name) (by have := h.name; omega)
  have e : x.next = x.base + x.recs.length := rfl
  have a1 := h.base; have a2 := h.next; have a3 := h.recs; have a4 := h.groups; have a5 := h.name
  have h2 := zaq (n := x.base.toNat) (by omega)
  have h3 := zaq (n := x.recs.length) (by omega)
  have h4 := zaq (n := x.groups.length) (by omega)
  have h5 : (zdE x.recs).length ≤ x.recs.length * 74 := zia fun r hr => by have := h.each r hr; have := zhe (x := r) (by omega); omega
  have h6 : (zbi x.groups).length ≤ x.groups.length * 84 := zia fun g hg => zlU (h.gs g hg)
  simp only [topB, List.length_append]; omega
theorem zlC {l : List zC} (h : ∀ x ∈ l, TopI x) : (zco l).length ≤ l.length * 5600 := zia fun x hx => topB_len (h x hx)
def zlA (l : List (Int × Int × Int)) : Prop := ∀ a ∈ l, (0 ≤ a.1 ∧ a.1 ≤ 9007199254740992) ∧ (0 ≤ a.2.1 ∧ a.2.1 ≤ 9007199254740992) ∧ (0 ≤ a.2.2 ∧ a.2.2 ≤ 9007199254740992)
theorem lastB_len {a : Int × Int × Int} (h : (0 ≤ a.1 ∧ a.1 ≤ 9007199254740992) ∧ (0 ≤ a.2.1 ∧ a.2.1 ≤ 9007199254740992) ∧ (0 ≤ a.2.2 ∧ a.2.2 ≤ 9007199254740992)) : (zls a).length ≤ 30 := by
  have h1 := zaq (n := a.1.toNat) (by omega)
  have h2 := zaq (n := a.2.1.toNat) (by omega)
  have h3 := zaq (n := a.2.2.toNat) (by omega)
  simp only [zls, List.length_append]; omega
theorem zlT {l : List (Int × Int × Int)} (h : zlA l) : (zbH l).length ≤ l.length * 30 := zia fun a ha => lastB_len (h a ha)
theorem checkOp_rng (n : List UInt8 → Bool) (o : TOp) : 0 ≤ zar n o ∧ zar n o ≤ 100 := by
  unfold zar
  repeat' split
  all_goals omega
theorem doesR {T : zO} (h : zdn T) (o : TOp) : (0 ≤ (zaE T o).1.1 ∧ (zaE T o).1.1 ≤ 9007199254740992) ∧ (0 ≤ (zaE T o).1.2 ∧ (zaE T o).1.2 ≤ 9007199254740992) := by
  unfold zaE
  split
  · have := checkOp_rng zbn o
    exact ⟨⟨this.1, by simp only; omega⟩, by simp, by simp⟩
  · rename_i hc
    have hc : zar zbn o = 0 := by simpa using hc
    obtain ⟨q1, q2, _⟩ := check0 hc
    split
    · simp
    · split
      · unfold zbw
        repeat' split
        all_goals simp
      · split
        · simp
        · split
          · simp
          · rename_i x hx
            have hX := h.tops x (List.mem_of_getElem? hx)
            have a1 := hX.base; have a2 := hX.next
            have e : x.next = x.base + x.recs.length := rfl
            split
            · unfold zbZ
              split
              · simp
              · exact ⟨by simp, by simp only; omega, by simp only; omega⟩
            · split
              · unfold zbY
                repeat' split
                all_goals first | simp; done | exact ⟨by simp, q1, q2⟩
              · unfold zir
                split
                · simp
                · exact ⟨by simp, q1, q2⟩
theorem applyL {T : zO} (h : zdn T) (hL : zlA T.last) (c tm : Int) (o : TOp) : zlA (zaB T c tm o).2.2.2.last := by
  unfold zaB
  split
  · exact hL
  · rename_i h1
    split
    · exact hL
    · split
      · exact hL
      · intro a ha
        rcases zcS ha with ha | rfl
        · rw [zhk] at ha; exact hL a ha
        · exact ⟨by simp only; omega, doesR h o⟩
theorem applyF_last {T : zO} (c tm : Int) (o : TOp) : (zaB T c tm o).2.2.2.last.length = T.last.length := by
  unfold zaB
  repeat' split
  all_goals simp [zhk]
def PlI (p : zfd) : Prop := 0 ≤ p.offset ∧ p.offset ≤ 9007199254740992 ∧ p.topic.length ≤ 64 ∧ p.rec_.length ≤ 64
theorem placeI {t : List UInt8} (ht : t.length ≤ 64) : ∀ {l : List (List UInt8)} {o : Int}, 0 ≤ o → o + l.length ≤ 9007199254740992 → (∀ r ∈ l, r.length ≤ 64) → ∀ p ∈ zdc t o l, PlI p
  | [], _, _, _, _, p, h => by simp [zdc] at h
  | r :: l, o, h0, h1, h2, p, h => by
    simp only [List.length_cons] at h1
    rcases List.mem_cons.1 h with rfl | h
    · exact ⟨h0, by simp only; omega, ht, h2 r List.mem_cons_self⟩
    · exact placeI ht (l := l) (o := o + 1) (by omega) (by omega) (fun r hr => h2 r (List.mem_cons_of_mem _ hr)) p h
theorem doesP {T : zO} (h : zdn T) (o : TOp) : (∀ p ∈ (zaE T o).2.1, PlI p) ∧ (zaE T o).2.1.length ≤ 64 := by
  unfold zaE
  split
  · simp
  · rename_i hc
    have hc : zar zbn o = 0 := by simpa using hc
    obtain ⟨q1, q2, q3, q4, q5⟩ := check0 hc
    split
    · simp
    · split
      · simp
      · split
        · simp
        · split
          · simp
          · rename_i x hx
            have hX := h.tops x (List.mem_of_getElem? hx)
            have a1 := hX.base; have a2 := hX.next
            have e : x.next = x.base + x.recs.length := rfl
            split
            · rename_i k2
              unfold zbZ
              split
              · simp
              · exact ⟨placeI hX.name (by omega) (by omega) (q5 k2), by simp only [zje]; omega⟩
            · split <;> simp
theorem applyP {T : zO} (h : zdn T) (c tm : Int) (o : TOp) : (∀ p ∈ (zaB T c tm o).2.1, PlI p) ∧ (zaB T c tm o).2.1.length ≤ 64 := by
  unfold zaB
  repeat' split
  all_goals first | (simp; done) | exact doesP h o
end Go.AW

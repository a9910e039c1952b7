/- Topics: what the document says of them. No program in sight. -/
import Derived.Test.YthpnelbciibjeaaGreatMk2
import Derived.Test.YthpnelbciibjeaaGreatSpMap
import Derived.Test.YthpnelbciibjeaaGreatCl1
set_option linter.all false
set_option linter.unusedSimpArgs false
set_option linter.unusedVariables false
namespace Go.AW

structure zai where
  name : List UInt8
  base : Int
  recs : List (List UInt8)
  groups : List (List UInt8 × Int)
structure zad where
  l : List zai
  last : List (Int × Int × Int)
def zbb : zad := ⟨[], List.replicate 8 (0, 0, 0)⟩
abbrev groupD (g : List UInt8 × Int) : List D := [.str g.1, .int .i64 g.2]
abbrev groupsE (l : List (List UInt8 × Int)) : List (List D) := l.map groupD
def zai.next (x : zai) : Int := x.base + x.recs.length
def atF (n : List UInt8) : List zai → Nat → Option Nat
  | [], _ => none
  | x :: r, i => if (x.name == n) = true then some i else atF n r (i + 1)
def znS (n : List UInt8) : List zai → Nat
  | [] => 0
  | x :: r => if Op.bytesLess x.name n = true then znS n r + 1 else 0
def zle (n : List UInt8) : List (List UInt8 × Int) → Nat
  | [] => 0
  | g :: r => if Op.bytesLess g.1 n = true then zle n r + 1 else 0
abbrev TRes := Int × Int
def zcC (T : zad) (n : List UInt8) : TRes × zad :=
  if (atF n T.l 0).isSome then ((5, 0), T) else if 8 ≤ T.l.length then ((6, 0), T)
  else ((0, 0), { T with l := T.l.take (znS n T.l) ++ ⟨n, 0, [], []⟩ :: T.l.drop (znS n T.l) })
def zdr (t : List UInt8) (o : Int) : List (List UInt8) → List zcs
  | [] => []
  | r :: l => ⟨t, o, r⟩ :: zdr t (o + 1) l
def zdu (T : zad) (i : Nat) (x : zai) (o : TOp) : TRes × List zcs × zad :=
  if 64 < x.recs.length + o.recs.length ∨ 9007199254740992 - (o.recs.length : Int) < x.next then ((71, 0), [], T)
  else ((0, x.next), zdr x.name x.next o.recs, { T with l := T.l.set i { x with recs := x.recs ++ o.recs } })
def hadG (n : List UInt8) (l : List (List UInt8 × Int)) : Option Int := match l[zle n l]? with
  | some g => if (g.1 == n) = true then some g.2 else none
  | none => none
def zdz (T : zad) (i : Nat) (x : zai) (o : TOp) : TRes × zad :=
  if o.offset < (hadG o.group x.groups).getD 0 ∨ x.next < o.offset then ((72, 0), T)
  else if (hadG o.group x.groups).isSome = false ∧ 8 ≤ x.groups.length then ((6, 0), T)
  else ((0, o.offset), { T with l := T.l.set i { x with groups := x.groups.take (zle o.group x.groups) ++ (o.group, o.offset) :: x.groups.drop (zle o.group x.groups + if (hadG o.group x.groups).isSome then 1 else 0) } })
def zms (T : zad) (i : Nat) (x : zai) (o : TOp) : TRes × zad :=
  if o.offset < x.base ∨ x.next < o.offset then ((72, 0), T)
  else ((0, o.offset), { T with l := T.l.set i { x with recs := x.recs.drop (o.offset - x.base).toNat, base := o.offset } })
def zbI (T : zad) (o : TOp) : TRes × List zcs × zad :=
  if zV zbH o ≠ 0 then ((zV zbH o, 0), [], T)
  else if o.kind = 0 then ((0, 0), [], T)
  else if o.kind = 1 then ((zcC T o.topic).1, [], (zcC T o.topic).2)
  else match atF o.topic T.l 0 with
    | none => ((4, 0), [], T)
    | some i => match T.l[i]? with
      | none => ((4, 0), [], T)
      | some x => if o.kind = 2 then zdu T i x o
        else if o.kind = 3 then ((zdz T i x o).1, [], (zdz T i x o).2)
        else ((zms T i x o).1, [], (zms T i x o).2)
def zbt (T : zad) (c tm : Int) (o : TOp) : TRes × List zcs × Bool × zad :=
  if c < 0 ∨ 8 ≤ c ∨ tm < 1 ∨ 9007199254740992 < tm then ((1, 0), [], false, T)
  else if tm = (T.last.getD c.toNat (0, 0, 0)).1 then ((T.last.getD c.toNat (0, 0, 0)).2, [], false, T)
  else if tm < (T.last.getD c.toNat (0, 0, 0)).1 then ((7, 0), [], false, T)
  else ((zbI T o).1, (zbI T o).2.1, true, { (zbI T o).2.2 with last := (zbI T o).2.2.last.set c.toNat (tm, (zbI T o).1.1, (zbI T o).1.2) })
theorem zll (T : zad) (o : TOp) : (zbI T o).2.2.last = T.last := by
  unfold zbI zcC zdu zdz zms
  repeat' (first | rfl | split)
theorem ziB (t : List UInt8) : ∀ (l : List (List UInt8)) (o : Int), (zdr t o l).length = l.length
  | [], _ => rfl
  | _ :: l, o => by simp [zdr, ziB t l]
theorem zmL (t : List UInt8) : ∀ (l : List (List UInt8)) (o : Int) (r : List UInt8), zdr t o (l ++ [r]) = zdr t o l ++ [⟨t, o + l.length, r⟩]
  | [], o, r => by simp [zdr]
  | a :: l, o, r => by
    simp only [List.cons_append, zdr, zmL t l (o + 1) r, List.length_cons]
    congr 3
    simp; omega
theorem atF_lt {n : List UInt8} : ∀ {l : List zai} {i k : Nat}, atF n l i = some k → i ≤ k ∧ k < i + l.length
  | [], _, _, h => by simp [atF] at h
  | x :: r, i, k, h => by
    simp only [atF] at h
    split at h
    · cases h; simp
    · have := atF_lt h; simp; omega
abbrev topD (x : zai) : List D := [.str x.name, .int .i64 x.base, .slice (zby x.recs), .slice (groupsE x.groups)]
abbrev topsE (l : List zai) : List (List D) := l.map topD
abbrev flatA (es : List (List D)) : List AV := es.flatten.map .d
structure TopI (x : zai) : Prop where
  base : 0 ≤ x.base
  next : x.next ≤ 9007199254740992
  recs : x.recs.length ≤ 64
  groups : x.groups.length ≤ 8
  name : x.name.length ≤ 64
  each : ∀ r ∈ x.recs, r.length ≤ 64
  gs : ∀ g ∈ x.groups, g.1.length ≤ 64 ∧ 0 ≤ g.2 ∧ g.2 ≤ 9007199254740992
structure zcD (T : zad) : Prop where
  len : T.l.length ≤ 8
  tops : ∀ x ∈ T.l, TopI x
theorem zcD.none : zcD zbb := ⟨by simp [zbb], by simp [zbb]⟩
theorem check0 {o : TOp} (h : zV zbH o = 0) : 0 ≤ o.offset ∧ o.offset ≤ 9007199254740992 ∧ (o.kind ≠ 0 → zbH o.topic = true) ∧ (o.kind = 3 → zbH o.group = true) ∧ (o.kind = 2 → ∀ r ∈ o.recs, r.length ≤ 64) := by
  unfold zV at h
  split at h
  · cases h
  · split at h
    · cases h
    · rename_i h2
      split at h
      · cases h
      · rename_i h3
        split at h
        · cases h
        · rename_i h4
          split at h
          · cases h
          · rename_i h5
            refine ⟨by omega, by omega, fun hk => by simpa [hk] using h2, fun hk => by simpa [hk] using h3, fun hk r hr => ?_⟩
            have : ¬ (o.recs.any (fun r => decide (r.length > 64)) = true) := fun e => h4 ⟨hk, .inr (.inr e)⟩
            simp only [List.any_eq_true, decide_eq_true_eq, not_exists, not_and] at this
            have := this r hr
            omega
theorem ziG {α : Type} {l : List α} {i : Nat} {x y : α} (h : y ∈ l.set i x) : y ∈ l ∨ y = x := List.mem_or_eq_of_mem_set h
theorem doesI {T : zad} (h : zcD T) (o : TOp) : zcD (zbI T o).2.2 := by
  unfold zbI
  split
  · exact h
  · rename_i hc
    have hc : zV zbH o = 0 := by simpa using hc
    obtain ⟨q1, q2, q3, q4, q5⟩ := check0 hc
    split
    · exact h
    · rename_i k0
      have hn := name_len (q3 k0)
      split
      · unfold zcC
        split
        · exact h
        · split
          · exact h
          · refine ⟨by simp only [List.length_append, List.length_take, List.length_cons, List.length_drop]; omega, fun x hx => ?_⟩
            rcases List.mem_append.1 hx with hx | hx
            · exact h.tops x (List.mem_of_mem_take hx)
            · rcases List.mem_cons.1 hx with rfl | hx
              · exact ⟨by simp, by simp [zai.next], by simp, by simp, hn, by simp, by simp⟩
              · exact h.tops x (List.mem_of_mem_drop hx)
      · split
        · exact h
        · rename_i i _
          split
          · exact h
          · rename_i x hx
            have hX := h.tops x (List.mem_of_getElem? hx)
            have a1 := hX.base; have a2 := hX.next; have a3 := hX.recs; have a4 := hX.groups
            split
            · rename_i k2
              unfold zdu
              split
              · exact h
              · rename_i hq
                refine ⟨by simpa using h.len, fun y hy => ?_⟩
                rcases ziG hy with hy | rfl
                · exact h.tops y hy
                · have e : x.next = x.base + x.recs.length := rfl
                  refine ⟨a1, by simp only [zai.next, List.length_append]; omega, by simp; omega, a4, hX.name, fun r hr => ?_, hX.gs⟩
                  rcases List.mem_append.1 hr with hr | hr
                  · exact hX.each r hr
                  · exact q5 k2 r hr
            · split
              · rename_i k3
                have hg := name_len (q4 k3)
                unfold zdz
                split
                · exact h
                · split
                  · exact h
                  · rename_i h6 h7
                    refine ⟨by simpa using h.len, fun y hy => ?_⟩
                    rcases ziG hy with hy | rfl
                    · exact h.tops y hy
                    · refine ⟨a1, a2, a3, ?_, hX.name, hX.each, fun g hg' => ?_⟩
                      · simp only [List.length_append, List.length_take, List.length_cons, List.length_drop]
                        cases hh : hadG o.group x.groups with
                        | none => simp [hh] at h7 ⊢; omega
                        | some v =>
                          have : zle o.group x.groups < x.groups.length := by
                            rw [hadG] at hh
                            split at hh
                            · rename_i g0 hg0; exact (List.getElem?_eq_some_iff.1 hg0).1
                            · cases hh
                          simp; omega
                      · rcases List.mem_append.1 hg' with hg' | hg'
                        · exact hX.gs g (List.mem_of_mem_take hg')
                        · rcases List.mem_cons.1 hg' with rfl | hg'
                          · exact ⟨hg, q1, q2⟩
                          · exact hX.gs g (List.mem_of_mem_drop hg')
              · unfold zms
                split
                · exact h
                · rename_i h6
                  refine ⟨by simpa using h.len, fun y hy => ?_⟩
                  rcases ziG hy with hy | rfl
                  · exact h.tops y hy
                  · have e : x.next = x.base + x.recs.length := rfl
                    exact ⟨q1, by simp only [zai.next, List.length_drop]; omega, by simp; omega, a4, hX.name, fun r hr => hX.each r (List.mem_of_mem_drop hr), hX.gs⟩
theorem applyI {T : zad} (h : zcD T) (c tm : Int) (o : TOp) : zcD (zbt T c tm o).2.2.2 := by
  unfold zbt
  split
  · exact h
  · split
    · exact h
    · split
      · exact h
      · exact ⟨(doesI h o).len, (doesI h o).tops⟩
def groupB (g : List UInt8 × Int) : List UInt8 := ziU g.1 ++ zbG g.2.toNat
def zev (l : List (List UInt8 × Int)) : List UInt8 := (l.map groupB).flatten
def topB (x : zai) : List UInt8 := ziU x.name ++ (zbG x.base.toNat ++ (zbG x.recs.length ++ (zdM x.recs ++ (zbG x.groups.length ++ zev x.groups))))
def ziZ (l : List zai) : List UInt8 := (l.map topB).flatten
def lastB (a : Int × Int × Int) : List UInt8 := zbG a.1.toNat ++ (zbG a.2.1.toNat ++ zbG a.2.2.toNat)
def zgy (l : List (Int × Int × Int)) : List UInt8 := (l.map lastB).flatten
def zbq (T : zad) : List UInt8 := zbG T.l.length ++ (ziZ T.l ++ zgy T.last)
theorem zjz {α : Type} {f : α → List UInt8} {n : Nat} : ∀ {l : List α}, (∀ x ∈ l, (f x).length ≤ n) → ((l.map f).flatten).length ≤ l.length * n
  | [], _ => by simp
  | x :: l, h => by
    have h1 := h x List.mem_cons_self
    have h2 := zjz (l := l) fun y hy => h y (List.mem_cons_of_mem _ hy)
    simp only [List.map_cons, List.flatten_cons, List.length_append, List.length_cons, Nat.add_mul, Nat.one_mul]
    omega
theorem zox {g : List UInt8 × Int} (h : g.1.length ≤ 64 ∧ 0 ≤ g.2 ∧ g.2 ≤ 9007199254740992) : (groupB g).length ≤ 84 := by
  have h1 := zdN (x := g.1) (by omega)
  have h2 := zo (n := g.2.toNat) (by omega)
  simp only [groupB, List.length_append]; omega
theorem topB_len {x : zai} (h : TopI x) : (topB x).length ≤ 5600 := by
  have h1 := zdN (x := x.name) (by have := h.name; omega)
  have e : x.next = x.base + x.recs.length := rfl
  have a1 := h.base; have a2 := h.next; have a3 := h.recs; have a4 := h.groups; have a5 := h.name
  have h2 := zo (n := x.base.toNat) (by omega)
  have h3 := zo (n := x.recs.length) (by omega)
  have h4 := zo (n := x.groups.length) (by omega)
  have h5 : (zdM x.recs).length ≤ x.recs.length * 74 := zjz fun r hr => by have := h.each r hr; have := zdN (x := r) (by omega); omega
  have h6 : (zev x.groups).length ≤ x.groups.length * 84 := zjz fun g hg => zox (h.gs g hg)
  simp only [topB, List.length_append]; omega
theorem zof {l : List zai} (h : ∀ x ∈ l, TopI x) : (ziZ l).length ≤ l.length * 5600 := zjz fun x hx => topB_len (h x hx)
def zgO (l : List (Int × Int × Int)) : Prop := ∀ a ∈ l, (0 ≤ a.1 ∧ a.1 ≤ 9007199254740992) ∧ (0 ≤ a.2.1 ∧ a.2.1 ≤ 9007199254740992) ∧ (0 ≤ a.2.2 ∧ a.2.2 ≤ 9007199254740992)
theorem lastB_len {a : Int × Int × Int} (h : (0 ≤ a.1 ∧ a.1 ≤ 9007199254740992) ∧ (0 ≤ a.2.1 ∧ a.2.1 ≤ 9007199254740992) ∧ (0 ≤ a.2.2 ∧ a.2.2 ≤ 9007199254740992)) : (lastB a).length ≤ 30 := by
  have h1 := zo (n := a.1.toNat) (by omega)
  have h2 := zo (n := a.2.1.toNat) (by omega)
  have h3 := zo (n := a.2.2.toNat) (by omega)
  simp only [lastB, List.length_append]; omega
theorem zow {l : List (Int × Int × Int)} (h : zgO l) : (zgy l).length ≤ l.length * 30 := zjz fun a ha => lastB_len (h a ha)
def zm : zad → List zf → List zcs × zad
  | T, [] => ([], T)
  | T, x :: r => ((zbt T x.client x.time x.op).2.1 ++ (zm (zbt T x.client x.time x.op).2.2.2 r).1, (zm (zbt T x.client x.time x.op).2.2.2 r).2)
theorem zkt (x : zf) : ∀ (l : List zf) (T : zad), zm T (l ++ [x]) = ((zm T l).1 ++ (zbt (zm T l).2 x.client x.time x.op).2.1, (zbt (zm T l).2 x.client x.time x.op).2.2.2)
  | [], T => by simp [zm]
  | y :: l, T => by
    simp only [List.cons_append, zm, zkt x l, List.append_assoc]
theorem zkv : ∀ (l : List zf) {T : zad}, zcD T → zcD (zm T l).2
  | [], _, h => h
  | x :: l, _, h => zkv l (applyI h x.client x.time x.op)
theorem checkOp_rng (n : List UInt8 → Bool) (o : TOp) : 0 ≤ zV n o ∧ zV n o ≤ 100 := by
  unfold zV
  repeat' split
  all_goals omega
theorem doesR {T : zad} (h : zcD T) (o : TOp) : (0 ≤ (zbI T o).1.1 ∧ (zbI T o).1.1 ≤ 9007199254740992) ∧ (0 ≤ (zbI T o).1.2 ∧ (zbI T o).1.2 ≤ 9007199254740992) := by
  unfold zbI
  split
  · have := checkOp_rng zbH o
    exact ⟨⟨this.1, by simp only; omega⟩, by simp, by simp⟩
  · rename_i hc
    have hc : zV zbH o = 0 := by simpa using hc
    obtain ⟨q1, q2, _⟩ := check0 hc
    split
    · simp
    · split
      · unfold zcC
        repeat' split
        all_goals simp
      · split
        · simp
        · split
          · simp
          · rename_i x hx
            have hX := h.tops x (List.mem_of_getElem? hx)
            have a1 := hX.base; have a2 := hX.next
            have e : x.next = x.base + x.recs.length := rfl
            split
            · unfold zdu
              split
              · simp
              · exact ⟨by simp, by simp only; omega, by simp only; omega⟩
            · split
              · unfold zdz
                repeat' split
                all_goals first | simp; done | exact ⟨by simp, q1, q2⟩
              · unfold zms
                split
                · simp
                · exact ⟨by simp, q1, q2⟩
theorem applyL {T : zad} (h : zcD T) (hL : zgO T.last) (c tm : Int) (o : TOp) : zgO (zbt T c tm o).2.2.2.last := by
  unfold zbt
  split
  · exact hL
  · rename_i h1
    split
    · exact hL
    · split
      · exact hL
      · intro a ha
        rcases ziG ha with ha | rfl
        · rw [zll] at ha; exact hL a ha
        · exact ⟨by simp only; omega, doesR h o⟩
theorem zku : ∀ (l : List zf) {T : zad}, zcD T → zgO T.last → zgO (zm T l).2.last
  | [], _, _, h => h
  | x :: l, _, hI, h => zku l (applyI hI x.client x.time x.op) (applyL hI h x.client x.time x.op)
theorem znB {T : zad} (c tm : Int) (o : TOp) : (zbt T c tm o).2.2.2.last.length = T.last.length := by
  unfold zbt
  repeat' split
  all_goals simp [zll]
def PlI (p : zcs) : Prop := 0 ≤ p.offset ∧ p.offset ≤ 9007199254740992 ∧ p.topic.length ≤ 64 ∧ p.rec_.length ≤ 64
theorem placeI {t : List UInt8} (ht : t.length ≤ 64) : ∀ {l : List (List UInt8)} {o : Int}, 0 ≤ o → o + l.length ≤ 9007199254740992 → (∀ r ∈ l, r.length ≤ 64) → ∀ p ∈ zdr t o l, PlI p
  | [], _, _, _, _, p, h => by simp [zdr] at h
  | r :: l, o, h0, h1, h2, p, h => by
    simp only [List.length_cons] at h1
    rcases List.mem_cons.1 h with rfl | h
    · exact ⟨h0, by simp only; omega, ht, h2 r List.mem_cons_self⟩
    · exact placeI ht (l := l) (o := o + 1) (by omega) (by omega) (fun r hr => h2 r (List.mem_cons_of_mem _ hr)) p h
theorem doesP {T : zad} (h : zcD T) (o : TOp) : (∀ p ∈ (zbI T o).2.1, PlI p) ∧ (zbI T o).2.1.length ≤ 64 := by
  unfold zbI
  split
  · simp
  · rename_i hc
    have hc : zV zbH o = 0 := by simpa using hc
    obtain ⟨q1, q2, q3, q4, q5⟩ := check0 hc
    split
    · simp
    · split
      · simp
      · split
        · simp
        · split
          · simp
          · rename_i x hx
            have hX := h.tops x (List.mem_of_getElem? hx)
            have a1 := hX.base; have a2 := hX.next
            have e : x.next = x.base + x.recs.length := rfl
            split
            · rename_i k2
              unfold zdu
              split
              · simp
              · exact ⟨placeI hX.name (by omega) (by omega) (q5 k2), by simp only [ziB]; omega⟩
            · split <;> simp
theorem applyP {T : zad} (h : zcD T) (c tm : Int) (o : TOp) : (∀ p ∈ (zbt T c tm o).2.1, PlI p) ∧ (zbt T c tm o).2.1.length ≤ 64 := by
  unfold zbt
  repeat' split
  all_goals first | (simp; done) | exact doesP h o
theorem zie : ∀ (l : List zf) {T : zad}, zcD T → (∀ p ∈ (zm T l).1, PlI p) ∧ (zm T l).1.length ≤ l.length * 64
  | [], _, _ => by simp [zm]
  | x :: l, T, h => by
    obtain ⟨h1, h2⟩ := applyP h x.client x.time x.op
    obtain ⟨h3, h4⟩ := zie l (applyI h x.client x.time x.op)
    refine ⟨fun p hp => ?_, by simp only [zm, List.length_append, List.length_cons, Nat.add_mul]; omega⟩
    rcases List.mem_append.1 hp with hp | hp
    · exact h1 p hp
    · exact h3 p hp
end Go.AW

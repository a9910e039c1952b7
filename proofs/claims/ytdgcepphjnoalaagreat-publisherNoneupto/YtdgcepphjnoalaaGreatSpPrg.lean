/- Topics as the program zpi them: maps' entries against sorted lists. No program in sight. -/
import Derived.Test.YtdgcepphjnoalaaGreatPr1
set_option linter.all false
set_option linter.unusedSimpArgs false
set_option linter.unusedVariables false
namespace Go.AW

theorem less_lt : ∀ (x y : List UInt8), Op.bytesLess x y = decide (x < y)
  | [], [] => by simp [Op.bytesLess]
  | _ :: _, [] => by simp [Op.bytesLess]
  | [], _ :: _ => by simp [Op.bytesLess]
  | a :: x, b :: y => by
    rw [Op.bytesLess, less_lt x y]
    simp only [List.cons_lt_cons_iff]
    by_cases h1 : a < b <;> by_cases h2 : a = b <;> by_cases h3 : x < y <;> simp [h1, h2, h3]
abbrev ltN (a b : List UInt8) : Prop := Op.bytesLess a b = true
theorem ltN_iff {a b : List UInt8} : ltN a b ↔ a < b := by rw [ltN, less_lt]; simp
theorem ltN_irr (a : List UInt8) : ¬ ltN a a := by rw [ltN_iff]; exact List.lt_irrefl a
theorem ltN_trans {a b c : List UInt8} (h : ltN a b) (h' : ltN b c) : ltN a c := by rw [ltN_iff] at *; exact List.lt_trans h h'
theorem ltN_total {a b : List UInt8} (h : ¬ ltN a b) (hne : a ≠ b) : ltN b a := by
  rw [ltN_iff] at *
  have h1 : b ≤ a := List.not_lt.1 h
  rcases List.le_iff_lt_or_eq.1 h1 with h2 | h2
  · exact h2
  · exact absurd h2.symm hne
section

variable {α : Type} (f : α → List UInt8)

def zol (n : List UInt8) : List α → Nat
  | [] => 0
  | x :: r => if Op.bytesLess (f x) n = true then zol n r + 1 else 0
def zka (l : List α) : Prop := (l.map f).Pairwise ltN
variable {f}

theorem zka.nodup {l : List α} (h : zka f l) : (l.map f).Nodup := by
  refine List.Pairwise.imp (fun {a b} hab e => ?_) h
  subst e
  exact ltN_irr _ hab
theorem zjJ {a : α} {r : List α} : zka f (a :: r) ↔ (∀ b ∈ r, ltN (f a) (f b)) ∧ zka f r := by
  rw [zka, List.map_cons, List.pairwise_cons]
  constructor
  · rintro ⟨h1, h2⟩; exact ⟨fun b hb => h1 _ (List.mem_map_of_mem hb), h2⟩
  · rintro ⟨h1, h2⟩
    refine ⟨fun b hb => ?_, h2⟩
    obtain ⟨c, hc, rfl⟩ := List.mem_map.1 hb
    exact h1 c hc
theorem zoj {n : List UInt8} {x : α} (hx : f x = n) : ∀ {l : List α}, zka f l → (∀ a ∈ l, f a ≠ n) → zka f (l.take (zol f n l) ++ x :: l.drop (zol f n l))
  | [], _, _ => by simp [zka, zol]
  | a :: r, h, hn => by
    obtain ⟨h1, h2⟩ := zjJ.1 h
    simp only [zol]
    split
    · rename_i ha
      simp only [List.take_succ_cons, List.drop_succ_cons, List.cons_append]
      refine zjJ.2 ⟨fun b hb => ?_, zoj hx h2 fun a ha => hn a (List.mem_cons_of_mem _ ha)⟩
      rcases List.mem_append.1 hb with hb | hb
      · exact h1 b (List.mem_of_mem_take hb)
      · rcases List.mem_cons.1 hb with rfl | hb
        · rw [hx]; exact ha
        · exact h1 b (List.mem_of_mem_drop hb)
    · rename_i ha
      simp only [List.take_zero, List.drop_zero, List.nil_append]
      have hna : ltN n (f a) := ltN_total ha (hn a List.mem_cons_self)
      refine zjJ.2 ⟨fun b hb => ?_, h⟩
      rw [hx]
      rcases List.mem_cons.1 hb with rfl | hb
      · exact hna
      · exact ltN_trans hna (h1 b hb)
theorem zok {n : List UInt8} : ∀ {l : List α}, zka f l → ∀ {x : α}, x ∈ l → f x = n → l[zol f n l]? = some x
  | [], _, _, h, _ => by cases h
  | a :: r, h, x, hx, e => by
    obtain ⟨h1, h2⟩ := zjJ.1 h
    simp only [zol]
    rcases List.mem_cons.1 hx with rfl | hx
    · rw [if_neg (by rw [e]; exact ltN_irr n)]; rfl
    · have := h1 x hx
      rw [e] at this
      rw [if_pos this, List.getElem?_cons_succ]
      exact zok h2 hx e
theorem sortK_set {l : List α} (h : zka f l) {k : Nat} {x y : α} (hx : l[k]? = some x) (e : f y = f x) : zka f (l.set k y) := by
  rw [zka, List.map_set, e]
  have : (l.map f).set k (f x) = l.map f := by
    apply List.ext_getElem?
    intro i
    rw [List.getElem?_set]
    split
    · rename_i hi
      subst hi
      split
      · rw [List.getElem?_map, hx]; rfl
      · rename_i hk
        have := (List.getElem?_eq_some_iff.1 hx).1
        simp at hk; omega
    · rfl
  rw [this]; exact h
end

theorem lessN_K (n : List UInt8) : ∀ l, lessN n l = zol zde.name n l
  | [] => rfl
  | x :: r => by simp only [lessN, zol, lessN_K n r]
theorem zqQ (n : List UInt8) : ∀ l, lessG n l = zol Prod.fst n l
  | [] => rfl
  | x :: r => by simp only [lessG, zol, zqQ n r]

def zpk (n : List UInt8) : List (List UInt8 × Int) → Nat → Option (Nat × Int)
  | [], _ => none
  | g :: r, i => if n = g.1 then some (i, g.2) else zpk n r (i + 1)
def putA (n : List UInt8) (v : Int) (l : List (List UInt8 × Int)) : List (List UInt8 × Int) := match zpk n l 0 with
  | some (k, _) => l.set k (n, v)
  | none => l ++ [(n, v)]
theorem zmo {n : List UInt8} : ∀ {l : List (List UInt8 × Int)} {i k : Nat} {v : Int}, zpk n l i = some (k, v) → ∃ j, k = i + j ∧ l[j]? = some (n, v)
  | [], _, _, _, h => by simp [zpk] at h
  | g :: r, i, k, v, h => by
    simp only [zpk] at h
    split at h
    · rename_i e; cases h; exact ⟨0, rfl, by rw [e]; rfl⟩
    · obtain ⟨j, h1, h2⟩ := zmo h
      exact ⟨j + 1, by omega, by simpa using h2⟩
theorem zmp {n : List UInt8} : ∀ {l : List (List UInt8 × Int)} {i : Nat}, zpk n l i = none → ∀ g ∈ l, g.1 ≠ n
  | [], _, _, g, hg => by cases hg
  | a :: r, i, h, g, hg => by
    simp only [zpk] at h
    split at h
    · cases h
    · rename_i e
      rcases List.mem_cons.1 hg with rfl | hg
      · exact fun e' => e e'.symm
      · exact zmp h g hg
structure GR (G L : List (List UInt8 × Int)) : Prop where
  len : G.length = L.length
  sort : zka Prod.fst L
  nod : (G.map Prod.fst).Nodup
  mem : ∀ a, a ∈ G ↔ a ∈ L
theorem GR.nil : GR [] [] := ⟨rfl, by simp [zka], by simp, by simp⟩
theorem zlm {α β : Type} {f : α → β} : ∀ {l : List α}, (l.map f).Nodup → ∀ {i j : Nat} {a b : α}, l[i]? = some a → l[j]? = some b → f a = f b → i = j := by
  intro l h i j a b hi hj e
  have h1 : (l.map f)[i]? = some (f a) := by rw [List.getElem?_map, hi]; rfl
  have h2 : (l.map f)[j]? = some (f a) := by rw [List.getElem?_map, hj, e]; rfl
  obtain ⟨g1, g2⟩ := List.getElem?_eq_some_iff.1 h1
  obtain ⟨g3, g4⟩ := List.getElem?_eq_some_iff.1 h2
  rcases Nat.lt_trichotomy i j with hij | hij | hij
  · exact absurd (g2.trans g4.symm) (List.pairwise_iff_getElem.1 h i j g1 g3 hij)
  · exact hij
  · exact absurd (g4.trans g2.symm) (List.pairwise_iff_getElem.1 h j i g3 g1 hij)
theorem GR.had {G L : List (List UInt8 × Int)} (h : GR G L) (n : List UInt8) : hadG n L = (zpk n G 0).map Prod.snd := by
  cases hf : zpk n G 0 with
  | none =>
    have h1 := zmp hf
    unfold hadG
    split
    · rename_i g hg
      rw [if_neg]; rfl
      intro e
      exact h1 g ((h.mem g).2 (List.mem_of_getElem? hg)) (by simpa using e)
    · rfl
  | some q =>
    obtain ⟨k, v⟩ := q
    obtain ⟨j, rfl, hj⟩ := zmo hf
    have h2 := (h.mem _).1 (List.mem_of_getElem? hj)
    unfold hadG
    rw [zqQ, zok h.sort h2 rfl]
    simp
theorem zjK {α : Type} {l : List α} {k : Nat} {x y : α} : y ∈ l.set k x → y = x ∨ ∃ j, j ≠ k ∧ l[j]? = some y := by
  intro h
  obtain ⟨j, hj⟩ := List.mem_iff_getElem?.1 h
  by_cases e : j = k
  · subst e
    have hl : j < l.length := by have := (List.getElem?_eq_some_iff.1 hj).1; simpa using this
    rw [List.getElem?_set_self hl] at hj
    exact .inl (Option.some.inj hj).symm
  · rw [List.getElem?_set_ne (Ne.symm e)] at hj
    exact .inr ⟨j, e, hj⟩
theorem zjN {α : Type} {l : List α} {j k : Nat} {x y : α} (h : l[j]? = some y) (e : j ≠ k) : y ∈ l.set k x :=
  List.mem_iff_getElem?.2 ⟨j, by rw [List.getElem?_set_ne (Ne.symm e)]; exact h⟩
theorem mem_set_self' {α : Type} {l : List α} {k : Nat} {x y : α} (h : l[k]? = some y) : x ∈ l.set k x :=
  List.mem_iff_getElem?.2 ⟨k, by rw [List.getElem?_set_self (List.getElem?_eq_some_iff.1 h).1]⟩
theorem zqy {α : Type} {l : List α} {k : Nat} {x y : α} (h : l[k]? = some y) : l.take k ++ x :: l.drop (k + 1) = l.set k x := by
  rw [List.set_eq_take_append_cons_drop, if_pos (List.getElem?_eq_some_iff.1 h).1]
theorem zog {α : Type} {f : α → List UInt8} {l : List α} {k : Nat} {x y : α} (hx : l[k]? = some x) (e : f y = f x) : (l.set k y).map f = l.map f := by
  rw [List.map_set, e]
  apply List.ext_getElem?
  intro i
  rw [List.getElem?_set]
  split
  · rename_i hi
    subst hi
    split
    · rw [List.getElem?_map, hx]; rfl
    · rename_i hk
      have := (List.getElem?_eq_some_iff.1 hx).1
      simp at hk; omega
  · rfl
theorem GR.put {G L : List (List UInt8 × Int)} (h : GR G L) (n : List UInt8) (v : Int) : GR (putA n v G) (L.take (lessG n L) ++ (n, v) :: L.drop (lessG n L + if (hadG n L).isSome then 1 else 0)) := by
  have hh := h.had n
  unfold putA
  cases hf : zpk n G 0 with
  | none =>
    have h1 := zmp hf
    have hL : ∀ a ∈ L, a.1 ≠ n := fun a ha => h1 a ((h.mem a).2 ha)
    rw [hf] at hh
    rw [hh]
    simp only [Option.map_none, Option.isSome_none, Bool.false_eq_true, if_false, Nat.add_zero]
    refine ⟨?_, ?_, ?_, fun a => ?_⟩
    · have := List.take_append_drop (lessG n L) L
      have h3 := congrArg List.length this
      have h4 := h.len
      simp only [List.length_append, List.length_cons, List.length_nil] at h3 ⊢; omega
    · rw [zqQ]; exact zoj (f := Prod.fst) (x := (n, v)) rfl h.sort hL
    · rw [List.map_append, List.nodup_append]
      refine ⟨h.nod, by simp, ?_⟩
      intro a ha b hb
      simp at hb; subst hb
      obtain ⟨c, hc, rfl⟩ := List.mem_map.1 ha
      exact h1 c hc
    · have := List.take_append_drop (lessG n L) L
      rw [List.mem_append, h.mem]
      constructor
      · rintro (ha | ha)
        · rw [← this] at ha
          rcases List.mem_append.1 ha with ha | ha <;> simp [ha]
        · simp at ha; subst ha; simp
      · intro ha
        rcases List.mem_append.1 ha with ha | ha
        · exact .inl (List.mem_of_mem_take ha)
        · rcases List.mem_cons.1 ha with rfl | ha
          · simp
          · exact .inl (List.mem_of_mem_drop ha)
  | some q =>
    obtain ⟨k, w⟩ := q
    obtain ⟨j, rfl, hj⟩ := zmo hf
    have hm := (h.mem _).1 (List.mem_of_getElem? hj)
    have hL := zok h.sort hm rfl
    rw [hf] at hh
    rw [hh]
    simp only [Option.map_some, Option.isSome_some, if_true, Nat.zero_add]
    rw [zqQ]
    simp only at hL
    rw [zqy hL]
    refine ⟨by simp [h.len], sortK_set h.sort hL rfl, by rw [zog (f := Prod.fst) (y := (n, v)) hj rfl]; exact h.nod, fun a => ?_⟩
    constructor
    · intro ha
      rcases zjK ha with rfl | ⟨i, hi, hx⟩
      · exact mem_set_self' hL
      · have := (h.mem a).1 (List.mem_of_getElem? hx)
        obtain ⟨i2, hi2⟩ := List.mem_iff_getElem?.1 this
        refine zjN hi2 fun e => hi ?_
        subst e
        rw [hL] at hi2; cases hi2
        exact zlm h.nod hx hj rfl
    · intro ha
      rcases zjK ha with rfl | ⟨i, hi, hx⟩
      · exact mem_set_self' hj
      · have := (h.mem a).2 (List.mem_of_getElem? hx)
        obtain ⟨i2, hi2⟩ := List.mem_iff_getElem?.1 this
        refine zjN hi2 fun e => hi ?_
        subst e
        rw [hj] at hi2; cases hi2
        exact zlm h.sort.nodup hx hL rfl

structure PTop where
  x : zde
  id : Nat
  g : Nat
  t : Nat
abbrev PTop.name (p : PTop) : List UInt8 := p.x.name
def findX (n : List UInt8) : List PTop → Nat → Option (Nat × PTop)
  | [], _ => none
  | p :: r, i => if n = p.x.name then some (i, p) else findX n r (i + 1)
theorem zmn {n : List UInt8} : ∀ {l : List PTop} {i : Nat}, findX n l i = none → ∀ p ∈ l, p.x.name ≠ n
  | [], _, _, g, hg => by cases hg
  | a :: r, i, h, g, hg => by
    simp only [findX] at h
    split at h
    · cases h
    · rename_i e
      rcases List.mem_cons.1 hg with rfl | hg
      · exact fun e' => e e'.symm
      · exact zmn h g hg
structure TR (x y : zde) : Prop where
  name : x.name = y.name
  base : x.base = y.base
  recs : x.recs = y.recs
  gr : GR x.groups y.groups
theorem TR.next {x y : zde} (h : TR x y) : x.next = y.next := by rw [zde.next, h.base, h.recs]; rfl
structure Rel (X : List PTop) (T : List zde) : Prop where
  len : X.length = T.length
  sort : zka zde.name T
  nod : (X.map PTop.name).Nodup
  fw : ∀ p ∈ X, ∃ y ∈ T, TR p.x y
  bw : ∀ y ∈ T, ∃ p ∈ X, TR p.x y
theorem Rel.nil : Rel [] [] := ⟨rfl, by simp [zka], by simp, by simp, by simp⟩
theorem atF_some {n : List UInt8} : ∀ {l : List zde} {i k : Nat}, atF n l i = some k → ∃ j y, k = i + j ∧ l[j]? = some y ∧ y.name = n
  | [], _, _, h => by simp [atF] at h
  | x :: r, i, k, h => by
    simp only [atF] at h
    split at h
    · rename_i e; cases h; exact ⟨0, x, rfl, rfl, by simpa using e⟩
    · obtain ⟨j, y, h1, h2, h3⟩ := atF_some h
      exact ⟨j + 1, y, by omega, by simpa using h2, h3⟩
theorem Rel.no {X : List PTop} {T : List zde} (h : Rel X T) {n : List UInt8} (hf : findX n X 0 = none) : atF n T 0 = none := by
  cases ha : atF n T 0 with
  | none => rfl
  | some k =>
    obtain ⟨j, y, _, h2, h3⟩ := atF_some ha
    obtain ⟨p, hp, hr⟩ := h.bw y (List.mem_of_getElem? h2)
    exact absurd (hr.name.trans h3) (zmn hf p hp)
theorem Rel.set {X : List PTop} {T : List zde} (h : Rel X T) {i k : Nat} {p p' : PTop} {y y' : zde} (hp : X[i]? = some p) (hy : T[k]? = some y) (hr : TR p.x y) (hr' : TR p'.x y') (hn : p'.x.name = p.x.name) : Rel (X.set i p') (T.set k y') := by
  have hn' : y'.name = y.name := hr'.name.symm.trans (hn.trans hr.name)
  refine ⟨by simp [h.len], sortK_set h.sort hy hn', by rw [zog hp hn]; exact h.nod, fun q hq => ?_, fun z hz => ?_⟩
  · rcases zjK hq with rfl | ⟨j, hj, hx⟩
    · exact ⟨y', mem_set_self' hy, hr'⟩
    · obtain ⟨z, hz, hrz⟩ := h.fw q (List.mem_of_getElem? hx)
      obtain ⟨j2, hj2⟩ := List.mem_iff_getElem?.1 hz
      refine ⟨z, zjN hj2 fun e => hj ?_, hrz⟩
      subst e
      rw [hy] at hj2; cases hj2
      exact zlm h.nod hx hp (hrz.name.trans hr.name.symm)
  · rcases zjK hz with rfl | ⟨j, hj, hx⟩
    · exact ⟨p', mem_set_self' hp, hr'⟩
    · obtain ⟨q, hq, hrq⟩ := h.bw z (List.mem_of_getElem? hx)
      obtain ⟨j2, hj2⟩ := List.mem_iff_getElem?.1 hq
      refine ⟨q, zjN hj2 fun e => hj ?_, hrq⟩
      subst e
      rw [hp] at hj2; cases hj2
      exact zlm h.sort.nodup hx hy (hrq.name.symm.trans hr.name)
theorem Rel.add {X : List PTop} {T : List zde} (h : Rel X T) {n : List UInt8} (hf : findX n X 0 = none) {p : PTop} {y : zde} (hr : TR p.x y) (hn : y.name = n) : Rel (X ++ [p]) (T.take (lessN n T) ++ y :: T.drop (lessN n T)) := by
  have h1 := zmn hf
  have hT : ∀ a ∈ T, a.name ≠ n := fun a ha e => by
    obtain ⟨q, hq, hrq⟩ := h.bw a ha
    exact h1 q hq (hrq.name.trans e)
  have htd := List.take_append_drop (lessN n T) T
  refine ⟨?_, ?_, ?_, fun q hq => ?_, fun z hz => ?_⟩
  · have h3 := congrArg List.length htd
    have h4 := h.len
    simp only [List.length_append, List.length_cons, List.length_nil] at h3 ⊢; omega
  · rw [lessN_K]; exact zoj hn h.sort hT
  · rw [List.map_append, List.nodup_append]
    refine ⟨h.nod, by simp, ?_⟩
    intro a ha b hb
    simp at hb; subst hb
    obtain ⟨c, hc, rfl⟩ := List.mem_map.1 ha
    have : p.x.name = n := hr.name.trans hn
    intro e
    exact h1 c hc (e.trans this)
  · rcases List.mem_append.1 hq with hq | hq
    · obtain ⟨z, hz, hrz⟩ := h.fw q hq
      rw [← htd] at hz
      refine ⟨z, ?_, hrz⟩
      rcases List.mem_append.1 hz with hz | hz <;> simp [hz]
    · simp at hq; subst hq
      exact ⟨y, by simp, hr⟩
  · rcases List.mem_append.1 hz with hz | hz
    · obtain ⟨q, hq, hrq⟩ := h.bw z (List.mem_of_mem_take hz)
      exact ⟨q, by simp [hq], hrq⟩
    · rcases List.mem_cons.1 hz with rfl | hz
      · exact ⟨p, by simp, hr⟩
      · obtain ⟨q, hq, hrq⟩ := h.bw z (List.mem_of_mem_drop hz)
        exact ⟨q, by simp [hq], hrq⟩

theorem nodup_le : ∀ {l m : List Nat}, l.Nodup → (∀ x ∈ l, x ∈ m) → l.length ≤ m.length
  | [], m, _, _ => by simp
  | a :: r, m, hn, hs => by
    have ha := hs a List.mem_cons_self
    obtain ⟨h1, h2⟩ := List.nodup_cons.1 hn
    have := nodup_le (l := r) (m := m.erase a) h2 fun x hx => (List.mem_erase_of_ne (a := x) (b := a) (fun e => h1 (by rw [← e]; exact hx))).2 (hs x (List.mem_cons_of_mem _ hx))
    rw [List.length_erase_of_mem ha] at this
    have := List.length_pos_of_mem ha
    simp only [List.length_cons]; omega
def ziM {α : Type} (bs : List Nat) (names : List α) (seen : List Nat) (ys : List α) : Prop :=
  seen.length = ys.length ∧ ∀ (j : Nat) (b : Nat) (y : α), seen[j]? = some b → ys[j]? = some y → ∃ i : Nat, bs[i]? = some b ∧ names[i]? = some y
theorem ziM.nil {α : Type} {bs : List Nat} {names : List α} : ziM bs names [] [] := ⟨rfl, by simp⟩
theorem ziM.snoc {α : Type} {bs : List Nat} {names : List α} {seen : List Nat} {ys : List α} (h : ziM bs names seen ys) {i b : Nat} {y : α} (h1 : bs[i]? = some b) (h2 : names[i]? = some y) : ziM bs names (seen ++ [b]) (ys ++ [y]) := by
  refine ⟨by simp [h.1], fun j c z hc hz => ?_⟩
  rw [List.getElem?_append] at hc hz
  split at hc
  · rename_i hj
    rw [if_pos (by rw [← h.1]; exact hj)] at hz
    exact h.2 j c z hc hz
  · rename_i hj
    rw [if_neg (by rw [← h.1]; exact hj)] at hz
    have e1 := (List.getElem?_eq_some_iff.1 hc).1
    simp only [List.length_cons, List.length_nil] at e1
    rw [h.1] at hc hj e1
    have e : j - ys.length = 0 := by omega
    rw [e] at hc hz
    simp at hc hz
    subst hc; subst hz
    exact ⟨i, h1, h2⟩
theorem ziM.sub {α : Type} {bs : List Nat} {names : List α} {seen : List Nat} {ys : List α} (h : ziM bs names seen ys) : ∀ b ∈ seen, b ∈ bs := by
  intro b hb
  obtain ⟨j, hj⟩ := List.mem_iff_getElem?.1 hb
  have hl := (List.getElem?_eq_some_iff.1 hj).1
  rw [h.1] at hl
  obtain ⟨i, h1, _⟩ := h.2 j b _ hj (List.getElem?_eq_getElem hl)
  exact List.mem_of_getElem? h1
theorem ziM.lt {α : Type} {bs : List Nat} {names : List α} {seen : List Nat} {ys : List α} (h : ziM bs names seen ys) (hn : seen.Nodup) (hl : bs.length = names.length) {b : Nat} (h1 : b ∈ bs) (h2 : b ∉ seen) : ys.length < names.length := by
  have := nodup_le (l := b :: seen) (m := bs) (List.nodup_cons.2 ⟨h2, hn⟩) fun x hx => by
    rcases List.mem_cons.1 hx with rfl | hx
    · exact h1
    · exact h.sub x hx
  simp only [List.length_cons] at this
  rw [← hl, ← h.1]; omega
theorem nodup_get {l : List Nat} (h : l.Nodup) {i j x : Nat} (hi : l[i]? = some x) (hj : l[j]? = some x) : i = j := by
  obtain ⟨a, b⟩ := List.getElem?_eq_some_iff.1 hi
  obtain ⟨c, d⟩ := List.getElem?_eq_some_iff.1 hj
  rcases Nat.lt_trichotomy i j with hij | hij | hij
  · exact absurd (b.trans d.symm) (List.pairwise_iff_getElem.1 h i j a c hij)
  · exact hij
  · exact absurd (d.trans b.symm) (List.pairwise_iff_getElem.1 h j i c a hij)
theorem znN {α : Type} : ∀ {l : List Nat} {m : List α}, l.Nodup → (l.zip m).Nodup
  | [], _, _ => by simp
  | _ :: _, [], _ => by simp
  | a :: l, b :: m, h => by
    obtain ⟨h1, h2⟩ := List.nodup_cons.1 h
    rw [List.zip_cons_cons, List.nodup_cons]
    exact ⟨fun hm => h1 (List.of_mem_zip hm).1, znN h2⟩
theorem ziM.perm {α : Type} {bs : List Nat} {names : List α} {seen : List Nat} {ys : List α} (h : ziM bs names seen ys) (hn : seen.Nodup) (hb : bs.Nodup) (hl : bs.length = names.length) (ha : ∀ b ∈ bs, b ∈ seen) : ys.Perm names := by
  have key : ∀ (i : Nat) b y, bs[i]? = some b → names[i]? = some y → (b, y) ∈ bs.zip names := fun i b y h1 h2 => List.mem_iff_getElem?.2 ⟨i, List.getElem?_zip_eq_some.2 ⟨h1, h2⟩⟩
  have hp : (seen.zip ys).Perm (bs.zip names) := by
    refine (List.perm_ext_iff_of_nodup (znN hn) (znN hb)).2 fun p => ?_
    obtain ⟨b, y⟩ := p
    constructor
    · intro hm
      obtain ⟨j, hj⟩ := List.mem_iff_getElem?.1 hm
      obtain ⟨h1, h2⟩ := List.getElem?_zip_eq_some.1 hj
      obtain ⟨i, h3, h4⟩ := h.2 j b y h1 h2
      exact key i b y h3 h4
    · intro hm
      obtain ⟨j, hj⟩ := List.mem_iff_getElem?.1 hm
      obtain ⟨h1, h2⟩ := List.getElem?_zip_eq_some.1 hj
      obtain ⟨k, hk⟩ := List.mem_iff_getElem?.1 (ha b (List.mem_of_getElem? h1))
      have hkl := (List.getElem?_eq_some_iff.1 hk).1
      rw [h.1] at hkl
      obtain ⟨i, h3, h4⟩ := h.2 k b _ hk (List.getElem?_eq_getElem hkl)
      have := nodup_get hb h1 h3
      subst this
      rw [h2] at h4
      refine List.mem_iff_getElem?.2 ⟨k, List.getElem?_zip_eq_some.2 ⟨hk, ?_⟩⟩
      rw [List.getElem?_eq_getElem hkl, h4]
  have := hp.map Prod.snd
  rwa [List.map_snd_zip (by rw [h.1]; exact Nat.le_refl _), List.map_snd_zip (by rw [hl]; exact Nat.le_refl _)] at this
end Go.AW

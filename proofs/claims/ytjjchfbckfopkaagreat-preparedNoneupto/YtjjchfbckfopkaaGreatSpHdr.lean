/- Headers, and records at their places: their bytes; chains. No program in sight. -/
import Derived.Test.YtjjchfbckfopkaaGreatId5
import Derived.Test.YtjjchfbckfopkaaGreatSpNum
import Derived.Test.YtjjchfbckfopkaaGreatSpMap
set_option linter.all false
set_option linter.unusedSimpArgs false
set_option linter.unusedVariables false
namespace Go.AW

structure THdr where
  seq : Int
  prev : Int
  batch : Int
  root : Int
  state : Int
deriving DecidableEq
structure TPlaced where
  topic : List UInt8
  offset : Int
  rec_ : List UInt8

structure zdz where
  name : List UInt8
  base : Int
  recs : List (List UInt8)
  groups : List (List UInt8 × Int)
structure TTops where
  l : List zdz
  last : List (Int × Int × Int)
def noTops : TTops := ⟨[], List.replicate 8 (0, 0, 0)⟩
def zdz.next (x : zdz) : Int := x.base + x.recs.length
def atF (n : List UInt8) : List zdz → Nat → Option Nat
  | [], _ => none
  | x :: r, i => if (x.name == n) = true then some i else atF n r (i + 1)
def lessN (n : List UInt8) : List zdz → Nat
  | [] => 0
  | x :: r => if Op.bytesLess x.name n = true then lessN n r + 1 else 0
def lessG (n : List UInt8) : List (List UInt8 × Int) → Nat
  | [] => 0
  | g :: r => if Op.bytesLess g.1 n = true then lessG n r + 1 else 0
def hadG (n : List UInt8) (l : List (List UInt8 × Int)) : Option Int := match l[lessG n l]? with
  | some g => if (g.1 == n) = true then some g.2 else none
  | none => none
structure TopI (x : zdz) : Prop where
  base : 0 ≤ x.base
  next : x.next ≤ 9007199254740992
  recs : x.recs.length ≤ 64
  groups : x.groups.length ≤ 8
  name : x.name.length ≤ 64
  each : ∀ r ∈ x.recs, r.length ≤ 64
  gs : ∀ g ∈ x.groups, g.1.length ≤ 64 ∧ 0 ≤ g.2 ∧ g.2 ≤ 9007199254740992
structure TopsI (T : TTops) : Prop where
  len : T.l.length ≤ 8
  tops : ∀ x ∈ T.l, TopI x
theorem TopsI.none : TopsI noTops := ⟨by simp [noTops], by simp [noTops]⟩

theorem less_lt : ∀ (x y : List UInt8), Op.bytesLess x y = decide (x < y)
  | [], [] => by simp [Op.bytesLess]
  | _ :: _, [] => by simp [Op.bytesLess]
  | [], _ :: _ => by simp [Op.bytesLess]
  | a :: x, b :: y => by
    rw [Op.bytesLess, less_lt x y]
    simp only [List.cons_lt_cons_iff]
    by_cases h1 : a < b <;> by_cases h2 : a = b <;> by_cases h3 : x < y <;> simp [h1, h2, h3]
abbrev ltN (a b : List UInt8) : Prop := Op.bytesLess a b = true
theorem ltN_iff {a b : List UInt8} : ltN a b ↔ a < b := by rw [ltN, less_lt]; simp
theorem ltN_irr (a : List UInt8) : ¬ ltN a a := by rw [ltN_iff]; exact List.lt_irrefl a
theorem ltN_trans {a b c : List UInt8} (h : ltN a b) (h' : ltN b c) : ltN a c := by rw [ltN_iff] at *; exact List.lt_trans h h'
theorem ltN_total {a b : List UInt8} (h : ¬ ltN a b) (hne : a ≠ b) : ltN b a := by
  rw [ltN_iff] at *
  have h1 : b ≤ a := List.not_lt.1 h
  rcases List.le_iff_lt_or_eq.1 h1 with h2 | h2
  · exact h2
  · exact absurd h2.symm hne
section

variable {α : Type} (f : α → List UInt8)

def zlU (n : List UInt8) : List α → Nat
  | [] => 0
  | x :: r => if Op.bytesLess (f x) n = true then zlU n r + 1 else 0
def zhO (l : List α) : Prop := (l.map f).Pairwise ltN
variable {f}

theorem zhO.nodup {l : List α} (h : zhO f l) : (l.map f).Nodup := by
  refine List.Pairwise.imp (fun {a b} hab e => ?_) h
  subst e
  exact ltN_irr _ hab
theorem zhx {a : α} {r : List α} : zhO f (a :: r) ↔ (∀ b ∈ r, ltN (f a) (f b)) ∧ zhO f r := by
  rw [zhO, List.map_cons, List.pairwise_cons]
  constructor
  · rintro ⟨h1, h2⟩; exact ⟨fun b hb => h1 _ (List.mem_map_of_mem hb), h2⟩
  · rintro ⟨h1, h2⟩
    refine ⟨fun b hb => ?_, h2⟩
    obtain ⟨c, hc, rfl⟩ := List.mem_map.1 hb
    exact h1 c hc
theorem zlS {n : List UInt8} {x : α} (hx : f x = n) : ∀ {l : List α}, zhO f l → (∀ a ∈ l, f a ≠ n) → zhO f (l.take (zlU f n l) ++ x :: l.drop (zlU f n l))
  | [], _, _ => by simp [zhO, zlU]
  | a :: r, h, hn => by
    obtain ⟨h1, h2⟩ := zhx.1 h
    simp only [zlU]
    split
    · rename_i ha
      simp only [List.take_succ_cons, List.drop_succ_cons, List.cons_append]
      refine zhx.2 ⟨fun b hb => ?_, zlS hx h2 fun a ha => hn a (List.mem_cons_of_mem _ ha)⟩
      rcases List.mem_append.1 hb with hb | hb
      · exact h1 b (List.mem_of_mem_take hb)
      · rcases List.mem_cons.1 hb with rfl | hb
        · rw [hx]; exact ha
        · exact h1 b (List.mem_of_mem_drop hb)
    · rename_i ha
      simp only [List.take_zero, List.drop_zero, List.nil_append]
      have hna : ltN n (f a) := ltN_total ha (hn a List.mem_cons_self)
      refine zhx.2 ⟨fun b hb => ?_, h⟩
      rw [hx]
      rcases List.mem_cons.1 hb with rfl | hb
      · exact hna
      · exact ltN_trans hna (h1 b hb)
theorem zlT {n : List UInt8} : ∀ {l : List α}, zhO f l → ∀ {x : α}, x ∈ l → f x = n → l[zlU f n l]? = some x
  | [], _, _, h, _ => by cases h
  | a :: r, h, x, hx, e => by
    obtain ⟨h1, h2⟩ := zhx.1 h
    simp only [zlU]
    rcases List.mem_cons.1 hx with rfl | hx
    · rw [if_neg (by rw [e]; exact ltN_irr n)]; rfl
    · have := h1 x hx
      rw [e] at this
      rw [if_pos this, List.getElem?_cons_succ]
      exact zlT h2 hx e
theorem sortK_set {l : List α} (h : zhO f l) {k : Nat} {x y : α} (hx : l[k]? = some x) (e : f y = f x) : zhO f (l.set k y) := by
  rw [zhO, List.map_set, e]
  have : (l.map f).set k (f x) = l.map f := by
    apply List.ext_getElem?
    intro i
    rw [List.getElem?_set]
    split
    · rename_i hi
      subst hi
      split
      · rw [List.getElem?_map, hx]; rfl
      · rename_i hk
        have := (List.getElem?_eq_some_iff.1 hx).1
        simp at hk; omega
    · rfl
  rw [this]; exact h
end

theorem lessN_K (n : List UInt8) : ∀ l, lessN n l = zlU zdz.name n l
  | [] => rfl
  | x :: r => by simp only [lessN, zlU, lessN_K n r]
theorem zon (n : List UInt8) : ∀ l, lessG n l = zlU Prod.fst n l
  | [] => rfl
  | x :: r => by simp only [lessG, zlU, zon n r]

def zmR (n : List UInt8) : List (List UInt8 × Int) → Nat → Option (Nat × Int)
  | [], _ => none
  | g :: r, i => if n = g.1 then some (i, g.2) else zmR n r (i + 1)
def putA (n : List UInt8) (v : Int) (l : List (List UInt8 × Int)) : List (List UInt8 × Int) := match zmR n l 0 with
  | some (k, _) => l.set k (n, v)
  | none => l ++ [(n, v)]
theorem zjX {n : List UInt8} : ∀ {l : List (List UInt8 × Int)} {i k : Nat} {v : Int}, zmR n l i = some (k, v) → ∃ j, k = i + j ∧ l[j]? = some (n, v)
  | [], _, _, _, h => by simp [zmR] at h
  | g :: r, i, k, v, h => by
    simp only [zmR] at h
    split at h
    · rename_i e; cases h; exact ⟨0, rfl, by rw [e]; rfl⟩
    · obtain ⟨j, h1, h2⟩ := zjX h
      exact ⟨j + 1, by omega, by simpa using h2⟩
theorem zjY {n : List UInt8} : ∀ {l : List (List UInt8 × Int)} {i : Nat}, zmR n l i = none → ∀ g ∈ l, g.1 ≠ n
  | [], _, _, g, hg => by cases hg
  | a :: r, i, h, g, hg => by
    simp only [zmR] at h
    split at h
    · cases h
    · rename_i e
      rcases List.mem_cons.1 hg with rfl | hg
      · exact fun e' => e e'.symm
      · exact zjY h g hg
structure GR (G L : List (List UInt8 × Int)) : Prop where
  len : G.length = L.length
  sort : zhO Prod.fst L
  nod : (G.map Prod.fst).Nodup
  mem : ∀ a, a ∈ G ↔ a ∈ L
theorem GR.nil : GR [] [] := ⟨rfl, by simp [zhO], by simp, by simp⟩
theorem ziM {α β : Type} {f : α → β} : ∀ {l : List α}, (l.map f).Nodup → ∀ {i j : Nat} {a b : α}, l[i]? = some a → l[j]? = some b → f a = f b → i = j := by
  intro l h i j a b hi hj e
  have h1 : (l.map f)[i]? = some (f a) := by rw [List.getElem?_map, hi]; rfl
  have h2 : (l.map f)[j]? = some (f a) := by rw [List.getElem?_map, hj, e]; rfl
  obtain ⟨g1, g2⟩ := List.getElem?_eq_some_iff.1 h1
  obtain ⟨g3, g4⟩ := List.getElem?_eq_some_iff.1 h2
  rcases Nat.lt_trichotomy i j with hij | hij | hij
  · exact absurd (g2.trans g4.symm) (List.pairwise_iff_getElem.1 h i j g1 g3 hij)
  · exact hij
  · exact absurd (g4.trans g2.symm) (List.pairwise_iff_getElem.1 h j i g3 g1 hij)
theorem GR.had {G L : List (List UInt8 × Int)} (h : GR G L) (n : List UInt8) : hadG n L = (zmR n G 0).map Prod.snd := by
  cases hf : zmR n G 0 with
  | none =>
    have h1 := zjY hf
    unfold hadG
    split
    · rename_i g hg
      rw [if_neg]; rfl
      intro e
      exact h1 g ((h.mem g).2 (List.mem_of_getElem? hg)) (by simpa using e)
    · rfl
  | some q =>
    obtain ⟨k, v⟩ := q
    obtain ⟨j, rfl, hj⟩ := zjX hf
    have h2 := (h.mem _).1 (List.mem_of_getElem? hj)
    unfold hadG
    rw [zon, zlT h.sort h2 rfl]
    simp
theorem zhy {α : Type} {l : List α} {k : Nat} {x y : α} : y ∈ l.set k x → y = x ∨ ∃ j, j ≠ k ∧ l[j]? = some y := by
  intro h
  obtain ⟨j, hj⟩ := List.mem_iff_getElem?.1 h
  by_cases e : j = k
  · subst e
    have hl : j < l.length := by have := (List.getElem?_eq_some_iff.1 hj).1; simpa using this
    rw [List.getElem?_set_self hl] at hj
    exact .inl (Option.some.inj hj).symm
  · rw [List.getElem?_set_ne (Ne.symm e)] at hj
    exact .inr ⟨j, e, hj⟩
theorem zhE {α : Type} {l : List α} {j k : Nat} {x y : α} (h : l[j]? = some y) (e : j ≠ k) : y ∈ l.set k x :=
  List.mem_iff_getElem?.2 ⟨j, by rw [List.getElem?_set_ne (Ne.symm e)]; exact h⟩
theorem mem_set_self' {α : Type} {l : List α} {k : Nat} {x y : α} (h : l[k]? = some y) : x ∈ l.set k x :=
  List.mem_iff_getElem?.2 ⟨k, by rw [List.getElem?_set_self (List.getElem?_eq_some_iff.1 h).1]⟩
theorem znR {α : Type} {l : List α} {k : Nat} {x y : α} (h : l[k]? = some y) : l.take k ++ x :: l.drop (k + 1) = l.set k x := by
  rw [List.set_eq_take_append_cons_drop, if_pos (List.getElem?_eq_some_iff.1 h).1]
theorem zlQ {α : Type} {f : α → List UInt8} {l : List α} {k : Nat} {x y : α} (hx : l[k]? = some x) (e : f y = f x) : (l.set k y).map f = l.map f := by
  rw [List.map_set, e]
  apply List.ext_getElem?
  intro i
  rw [List.getElem?_set]
  split
  · rename_i hi
    subst hi
    split
    · rw [List.getElem?_map, hx]; rfl
    · rename_i hk
      have := (List.getElem?_eq_some_iff.1 hx).1
      simp at hk; omega
  · rfl
theorem GR.put {G L : List (List UInt8 × Int)} (h : GR G L) (n : List UInt8) (v : Int) : GR (putA n v G) (L.take (lessG n L) ++ (n, v) :: L.drop (lessG n L + if (hadG n L).isSome then 1 else 0)) := by
  have hh := h.had n
  unfold putA
  cases hf : zmR n G 0 with
  | none =>
    have h1 := zjY hf
    have hL : ∀ a ∈ L, a.1 ≠ n := fun a ha => h1 a ((h.mem a).2 ha)
    rw [hf] at hh
    rw [hh]
    simp only [Option.map_none, Option.isSome_none, Bool.false_eq_true, if_false, Nat.add_zero]
    refine ⟨?_, ?_, ?_, fun a => ?_⟩
    · have := List.take_append_drop (lessG n L) L
      have h3 := congrArg List.length this
      have h4 := h.len
      simp only [List.length_append, List.length_cons, List.length_nil] at h3 ⊢; omega
    · rw [zon]; exact zlS (f := Prod.fst) (x := (n, v)) rfl h.sort hL
    · rw [List.map_append, List.nodup_append]
      refine ⟨h.nod, by simp, ?_⟩
      intro a ha b hb
      simp at hb; subst hb
      obtain ⟨c, hc, rfl⟩ := List.mem_map.1 ha
      exact h1 c hc
    · have := List.take_append_drop (lessG n L) L
      rw [List.mem_append, h.mem]
      constructor
      · rintro (ha | ha)
        · rw [← this] at ha
          rcases List.mem_append.1 ha with ha | ha <;> simp [ha]
        · simp at ha; subst ha; simp
      · intro ha
        rcases List.mem_append.1 ha with ha | ha
        · exact .inl (List.mem_of_mem_take ha)
        · rcases List.mem_cons.1 ha with rfl | ha
          · simp
          · exact .inl (List.mem_of_mem_drop ha)
  | some q =>
    obtain ⟨k, w⟩ := q
    obtain ⟨j, rfl, hj⟩ := zjX hf
    have hm := (h.mem _).1 (List.mem_of_getElem? hj)
    have hL := zlT h.sort hm rfl
    rw [hf] at hh
    rw [hh]
    simp only [Option.map_some, Option.isSome_some, if_true, Nat.zero_add]
    rw [zon]
    simp only at hL
    rw [znR hL]
    refine ⟨by simp [h.len], sortK_set h.sort hL rfl, by rw [zlQ (f := Prod.fst) (y := (n, v)) hj rfl]; exact h.nod, fun a => ?_⟩
    constructor
    · intro ha
      rcases zhy ha with rfl | ⟨i, hi, hx⟩
      · exact mem_set_self' hL
      · have := (h.mem a).1 (List.mem_of_getElem? hx)
        obtain ⟨i2, hi2⟩ := List.mem_iff_getElem?.1 this
        refine zhE hi2 fun e => hi ?_
        subst e
        rw [hL] at hi2; cases hi2
        exact ziM h.nod hx hj rfl
    · intro ha
      rcases zhy ha with rfl | ⟨i, hi, hx⟩
      · exact mem_set_self' hj
      · have := (h.mem a).2 (List.mem_of_getElem? hx)
        obtain ⟨i2, hi2⟩ := List.mem_iff_getElem?.1 this
        refine zhE hi2 fun e => hi ?_
        subst e
        rw [hj] at hi2; cases hi2
        exact ziM h.sort.nodup hx hL rfl

structure PTop where
  x : zdz
  id : Nat
  g : Nat
  t : Nat
abbrev PTop.name (p : PTop) : List UInt8 := p.x.name
def findX (n : List UInt8) : List PTop → Nat → Option (Nat × PTop)
  | [], _ => none
  | p :: r, i => if n = p.x.name then some (i, p) else findX n r (i + 1)
theorem zjW {n : List UInt8} : ∀ {l : List PTop} {i : Nat}, findX n l i = none → ∀ p ∈ l, p.x.name ≠ n
  | [], _, _, g, hg => by cases hg
  | a :: r, i, h, g, hg => by
    simp only [findX] at h
    split at h
    · cases h
    · rename_i e
      rcases List.mem_cons.1 hg with rfl | hg
      · exact fun e' => e e'.symm
      · exact zjW h g hg
structure TR (x y : zdz) : Prop where
  name : x.name = y.name
  base : x.base = y.base
  recs : x.recs = y.recs
  gr : GR x.groups y.groups
theorem TR.next {x y : zdz} (h : TR x y) : x.next = y.next := by rw [zdz.next, h.base, h.recs]; rfl
structure Rel (X : List PTop) (T : List zdz) : Prop where
  len : X.length = T.length
  sort : zhO zdz.name T
  nod : (X.map PTop.name).Nodup
  fw : ∀ p ∈ X, ∃ y ∈ T, TR p.x y
  bw : ∀ y ∈ T, ∃ p ∈ X, TR p.x y
theorem Rel.nil : Rel [] [] := ⟨rfl, by simp [zhO], by simp, by simp, by simp⟩
theorem atF_some {n : List UInt8} : ∀ {l : List zdz} {i k : Nat}, atF n l i = some k → ∃ j y, k = i + j ∧ l[j]? = some y ∧ y.name = n
  | [], _, _, h => by simp [atF] at h
  | x :: r, i, k, h => by
    simp only [atF] at h
    split at h
    · rename_i e; cases h; exact ⟨0, x, rfl, rfl, by simpa using e⟩
    · obtain ⟨j, y, h1, h2, h3⟩ := atF_some h
      exact ⟨j + 1, y, by omega, by simpa using h2, h3⟩
theorem Rel.no {X : List PTop} {T : List zdz} (h : Rel X T) {n : List UInt8} (hf : findX n X 0 = none) : atF n T 0 = none := by
  cases ha : atF n T 0 with
  | none => rfl
  | some k =>
    obtain ⟨j, y, _, h2, h3⟩ := atF_some ha
    obtain ⟨p, hp, hr⟩ := h.bw y (List.mem_of_getElem? h2)
    exact absurd (hr.name.trans h3) (zjW hf p hp)
theorem Rel.set {X : List PTop} {T : List zdz} (h : Rel X T) {i k : Nat} {p p' : PTop} {y y' : zdz} (hp : X[i]? = some p) (hy : T[k]? = some y) (hr : TR p.x y) (hr' : TR p'.x y') (hn : p'.x.name = p.x.name) : Rel (X.set i p') (T.set k y') := by
  have hn' : y'.name = y.name := hr'.name.symm.trans (hn.trans hr.name)
  refine ⟨by simp [h.len], sortK_set h.sort hy hn', by rw [zlQ hp hn]; exact h.nod, fun q hq => ?_, fun z hz => ?_⟩
  · rcases zhy hq with rfl | ⟨j, hj, hx⟩
    · exact ⟨y', mem_set_self' hy, hr'⟩
    · obtain ⟨z, hz, hrz⟩ := h.fw q (List.mem_of_getElem? hx)
      obtain ⟨j2, hj2⟩ := List.mem_iff_getElem?.1 hz
      refine ⟨z, zhE hj2 fun e => hj ?_, hrz⟩
      subst e
      rw [hy] at hj2; cases hj2
      exact ziM h.nod hx hp (hrz.name.trans hr.name.symm)
  · rcases zhy hz with rfl | ⟨j, hj, hx⟩
    · exact ⟨p', mem_set_self' hp, hr'⟩
    · obtain ⟨q, hq, hrq⟩ := h.bw z (List.mem_of_getElem? hx)
      obtain ⟨j2, hj2⟩ := List.mem_iff_getElem?.1 hq
      refine ⟨q, zhE hj2 fun e => hj ?_, hrq⟩
      subst e
      rw [hp] at hj2; cases hj2
      exact ziM h.sort.nodup hx hy (hrq.name.symm.trans hr.name)
theorem Rel.add {X : List PTop} {T : List zdz} (h : Rel X T) {n : List UInt8} (hf : findX n X 0 = none) {p : PTop} {y : zdz} (hr : TR p.x y) (hn : y.name = n) : Rel (X ++ [p]) (T.take (lessN n T) ++ y :: T.drop (lessN n T)) := by
  have h1 := zjW hf
  have hT : ∀ a ∈ T, a.name ≠ n := fun a ha e => by
    obtain ⟨q, hq, hrq⟩ := h.bw a ha
    exact h1 q hq (hrq.name.trans e)
  have htd := List.take_append_drop (lessN n T) T
  refine ⟨?_, ?_, ?_, fun q hq => ?_, fun z hz => ?_⟩
  · have h3 := congrArg List.length htd
    have h4 := h.len
    simp only [List.length_append, List.length_cons, List.length_nil] at h3 ⊢; omega
  · rw [lessN_K]; exact zlS hn h.sort hT
  · rw [List.map_append, List.nodup_append]
    refine ⟨h.nod, by simp, ?_⟩
    intro a ha b hb
    simp at hb; subst hb
    obtain ⟨c, hc, rfl⟩ := List.mem_map.1 ha
    have : p.x.name = n := hr.name.trans hn
    intro e
    exact h1 c hc (e.trans this)
  · rcases List.mem_append.1 hq with hq | hq
    · obtain ⟨z, hz, hrz⟩ := h.fw q hq
      rw [← htd] at hz
      refine ⟨z, ?_, hrz⟩
      rcases List.mem_append.1 hz with hz | hz <;> simp [hz]
    · simp at hq; subst hq
      exact ⟨y, by simp, hr⟩
  · rcases List.mem_append.1 hz with hz | hz
    · obtain ⟨q, hq, hrq⟩ := h.bw z (List.mem_of_mem_take hz)
      exact ⟨q, by simp [hq], hrq⟩
    · rcases List.mem_cons.1 hz with rfl | hz
      · exact ⟨p, by simp, hr⟩
      · obtain ⟨q, hq, hrq⟩ := h.bw z (List.mem_of_mem_drop hz)
        exact ⟨q, by simp [hq], hrq⟩

theorem nodup_le : ∀ {l m : List Nat}, l.Nodup → (∀ x ∈ l, x ∈ m) → l.length ≤ m.length
  | [], m, _, _ => by simp
  | a :: r, m, hn, hs => by
    have ha := hs a List.mem_cons_self
    obtain ⟨h1, h2⟩ := List.nodup_cons.1 hn
    have := nodup_le (l := r) (m := m.erase a) h2 fun x hx => (List.mem_erase_of_ne (a := x) (b := a) (fun e => h1 (by rw [← e]; exact hx))).2 (hs x (List.mem_cons_of_mem _ hx))
    rw [List.length_erase_of_mem ha] at this
    have := List.length_pos_of_mem ha
    simp only [List.length_cons]; omega
theorem zlK {l : List Nat} (h : l.Nodup) {i j x : Nat} (hi : l[i]? = some x) (hj : l[j]? = some x) : i = j := by
  obtain ⟨a, b⟩ := List.getElem?_eq_some_iff.1 hi
  obtain ⟨c, d⟩ := List.getElem?_eq_some_iff.1 hj
  rcases Nat.lt_trichotomy i j with hij | hij | hij
  · exact absurd (b.trans d.symm) (List.pairwise_iff_getElem.1 h i j a c hij)
  · exact hij
  · exact absurd (d.trans b.symm) (List.pairwise_iff_getElem.1 h j i c a hij)
end Go.AW

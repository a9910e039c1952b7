/- Topics as the program zlt them: maps' entries against sorted lists. No program in sight. -/
import Derived.Test.YtaocmalhjfakdaaSpTop
set_option linter.all false
set_option linter.unusedSimpArgs false
set_option linter.unusedVariables false
namespace Go.AW

theorem less_lt : ∀ (x y : List UInt8), Op.bytesLess x y = decide (x < y)
  | [], [] => by simp [Op.bytesLess]
  | _ :: _, [] => by simp [Op.bytesLess]
  | [], _ :: _ => by simp [Op.bytesLess]
  | a :: x, b :: y => by
    rw [Op.bytesLess, less_lt x y]
    simp only [List.cons_lt_cons_iff]
    by_cases h1 : a < b <;> by_cases h2 : a = b <;> by_cases h3 : x < y <;> simp [h1, h2, h3]
abbrev ltN (a b : List UInt8) : Prop := Op.bytesLess a b = true
theorem zmF {a b : List UInt8} : ltN a b ↔ a < b := by rw [ltN, less_lt]; simp
theorem zfA (a : List UInt8) : ¬ ltN a a := by rw [zmF]; exact List.lt_irrefl a
theorem zeR {a b c : List UInt8} (h : ltN a b) (h' : ltN b c) : ltN a c := by rw [zmF] at *; exact List.lt_trans h h'
theorem ltN_total {a b : List UInt8} (h : ¬ ltN a b) (hne : a ≠ b) : ltN b a := by
  rw [zmF] at *
  have h1 : b ≤ a := List.not_lt.1 h
  rcases List.le_iff_lt_or_eq.1 h1 with h2 | h2
  · exact h2
  · exact absurd h2.symm hne
section

variable {α : Type} (f : α → List UInt8)

def zkL (n : List UInt8) : List α → Nat
  | [] => 0
  | x :: r => if Op.bytesLess (f x) n = true then zkL n r + 1 else 0
def zcn (l : List α) : Prop := (l.map f).Pairwise ltN
variable {f}

theorem zcn.nodup {l : List α} (h : zcn f l) : (l.map f).Nodup := by
  refine List.Pairwise.imp (fun {a b} hab e => ?_) h
  subst e
  exact zfA _ hab
theorem zhb {a : α} {r : List α} : zcn f (a :: r) ↔ (∀ b ∈ r, ltN (f a) (f b)) ∧ zcn f r := by
  rw [zcn, List.map_cons, List.pairwise_cons]
  constructor
  · rintro ⟨h1, h2⟩; exact ⟨fun b hb => h1 _ (List.mem_map_of_mem hb), h2⟩
  · rintro ⟨h1, h2⟩
    refine ⟨fun b hb => ?_, h2⟩
    obtain ⟨c, hc, rfl⟩ := List.mem_map.1 hb
    exact h1 c hc
theorem zkK {n : List UInt8} {x : α} (hx : f x = n) : ∀ {l : List α}, zcn f l → (∀ a ∈ l, f a ≠ n) → zcn f (l.take (zkL f n l) ++ x :: l.drop (zkL f n l))
  | [], _, _ => by simp [zcn, zkL]
  | a :: r, h, hn => by
    obtain ⟨h1, h2⟩ := zhb.1 h
    simp only [zkL]
    split
    · rename_i ha
      simp only [List.take_succ_cons, List.drop_succ_cons, List.cons_append]
      refine zhb.2 ⟨fun b hb => ?_, zkK hx h2 fun a ha => hn a (List.mem_cons_of_mem _ ha)⟩
      rcases List.mem_append.1 hb with hb | hb
      · exact h1 b (List.mem_of_mem_take hb)
      · rcases List.mem_cons.1 hb with rfl | hb
        · rw [hx]; exact ha
        · exact h1 b (List.mem_of_mem_drop hb)
    · rename_i ha
      simp only [List.take_zero, List.drop_zero, List.nil_append]
      have hna : ltN n (f a) := ltN_total ha (hn a List.mem_cons_self)
      refine zhb.2 ⟨fun b hb => ?_, h⟩
      rw [hx]
      rcases List.mem_cons.1 hb with rfl | hb
      · exact hna
      · exact zeR hna (h1 b hb)
theorem zgK {n : List UInt8} : ∀ {l : List α}, zcn f l → ∀ {x : α}, x ∈ l → f x = n → l[zkL f n l]? = some x
  | [], _, _, h, _ => by cases h
  | a :: r, h, x, hx, e => by
    obtain ⟨h1, h2⟩ := zhb.1 h
    simp only [zkL]
    rcases List.mem_cons.1 hx with rfl | hx
    · rw [if_neg (by rw [e]; exact zfA n)]; rfl
    · have := h1 x hx
      rw [e] at this
      rw [if_pos this, List.getElem?_cons_succ]
      exact zgK h2 hx e
theorem sortK_set {l : List α} (h : zcn f l) {k : Nat} {x y : α} (hx : l[k]? = some x) (e : f y = f x) : zcn f (l.set k y) := by
  rw [zcn, List.map_set, e]
  have : (l.map f).set k (f x) = l.map f := by
    apply List.ext_getElem?
    intro i
    rw [List.getElem?_set]
    split
    · rename_i hi
      subst hi
      split
      · rw [List.getElem?_map, hx]; rfl
      · rename_i hk
        have := (List.getElem?_eq_some_iff.1 hx).1
        simp at hk; omega
    · rfl
  rw [this]; exact h
theorem zkw {l : List α} (h : zcn f l) {x y : α} (hx : x ∈ l) (hy : y ∈ l) (e : f x = f y) : x = y := by
  have h1 := zgK h hx rfl
  have h2 := zgK h hy e.symm
  rw [h1] at h2; exact Option.some.inj h2
end

theorem lessN_K (n : List UInt8) : ∀ l, zlq n l = zkL zC.name n l
  | [] => rfl
  | x :: r => by simp only [zlq, zkL, lessN_K n r]
theorem zmH (n : List UInt8) : ∀ l, zjp n l = zkL Prod.fst n l
  | [] => rfl
  | x :: r => by simp only [zjp, zkL, zmH n r]

def zfB (n : List UInt8) : List (List UInt8 × Int) → Nat → Option (Nat × Int)
  | [], _ => none
  | g :: r, i => if n = g.1 then some (i, g.2) else zfB n r (i + 1)
def putA (n : List UInt8) (v : Int) (l : List (List UInt8 × Int)) : List (List UInt8 × Int) := match zfB n l 0 with
  | some (k, _) => l.set k (n, v)
  | none => l ++ [(n, v)]
theorem zeJ {n : List UInt8} : ∀ {l : List (List UInt8 × Int)} {i k : Nat} {v : Int}, zfB n l i = some (k, v) → ∃ j, k = i + j ∧ l[j]? = some (n, v)
  | [], _, _, _, h => by simp [zfB] at h
  | g :: r, i, k, v, h => by
    simp only [zfB] at h
    split at h
    · rename_i e; cases h; exact ⟨0, rfl, by rw [e]; rfl⟩
    · obtain ⟨j, h1, h2⟩ := zeJ h
      exact ⟨j + 1, by omega, by simpa using h2⟩
theorem zhj {n : List UInt8} : ∀ {l : List (List UInt8 × Int)} {i : Nat}, zfB n l i = none → ∀ g ∈ l, g.1 ≠ n
  | [], _, _, g, hg => by cases hg
  | a :: r, i, h, g, hg => by
    simp only [zfB] at h
    split at h
    · cases h
    · rename_i e
      rcases List.mem_cons.1 hg with rfl | hg
      · exact fun e' => e e'.symm
      · exact zhj h g hg
structure GR (G L : List (List UInt8 × Int)) : Prop where
  len : G.length = L.length
  sort : zcn Prod.fst L
  nod : (G.map Prod.fst).Nodup
  mem : ∀ a, a ∈ G ↔ a ∈ L
theorem GR.nil : GR [] [] := ⟨rfl, by simp [zcn], by simp, by simp⟩
theorem ziB {α β : Type} {f : α → β} : ∀ {l : List α}, (l.map f).Nodup → ∀ {i j : Nat} {a b : α}, l[i]? = some a → l[j]? = some b → f a = f b → i = j := by
  intro l h i j a b hi hj e
  have h1 : (l.map f)[i]? = some (f a) := by rw [List.getElem?_map, hi]; rfl
  have h2 : (l.map f)[j]? = some (f a) := by rw [List.getElem?_map, hj, e]; rfl
  obtain ⟨g1, g2⟩ := List.getElem?_eq_some_iff.1 h1
  obtain ⟨g3, g4⟩ := List.getElem?_eq_some_iff.1 h2
  rcases Nat.lt_trichotomy i j with hij | hij | hij
  · exact absurd (g2.trans g4.symm) (List.pairwise_iff_getElem.1 h i j g1 g3 hij)
  · exact hij
  · exact absurd (g4.trans g2.symm) (List.pairwise_iff_getElem.1 h j i g3 g1 hij)
theorem GR.had {G L : List (List UInt8 × Int)} (h : GR G L) (n : List UInt8) : hadG n L = (zfB n G 0).map Prod.snd := by
  cases hf : zfB n G 0 with
  | none =>
    have h1 := zhj hf
    unfold hadG
    split
    · rename_i g hg
      rw [if_neg]; rfl
      intro e
      exact h1 g ((h.mem g).2 (List.mem_of_getElem? hg)) (by simpa using e)
    · rfl
  | some q =>
    obtain ⟨k, v⟩ := q
    obtain ⟨j, rfl, hj⟩ := zeJ hf
    have h2 := (h.mem _).1 (List.mem_of_getElem? hj)
    unfold hadG
    rw [zmH, zgK h.sort h2 rfl]
    simp
theorem zch {α : Type} {l : List α} {k : Nat} {x y : α} : y ∈ l.set k x → y = x ∨ ∃ j, j ≠ k ∧ l[j]? = some y := by
  intro h
  obtain ⟨j, hj⟩ := List.mem_iff_getElem?.1 h
  by_cases e : j = k
  · subst e
    have hl : j < l.length := by have := (List.getElem?_eq_some_iff.1 hj).1; simpa using this
    rw [List.getElem?_set_self hl] at hj
    exact .inl (Option.some.inj hj).symm
  · rw [List.getElem?_set_ne (Ne.symm e)] at hj
    exact .inr ⟨j, e, hj⟩
theorem zhg {α : Type} {l : List α} {j k : Nat} {x y : α} (h : l[j]? = some y) (e : j ≠ k) : y ∈ l.set k x :=
  List.mem_iff_getElem?.2 ⟨j, by rw [List.getElem?_set_ne (Ne.symm e)]; exact h⟩
theorem mem_set_self' {α : Type} {l : List α} {k : Nat} {x y : α} (h : l[k]? = some y) : x ∈ l.set k x :=
  List.mem_iff_getElem?.2 ⟨k, by rw [List.getElem?_set_self (List.getElem?_eq_some_iff.1 h).1]⟩
theorem zmp {α : Type} {l : List α} {k : Nat} {x y : α} (h : l[k]? = some y) : l.take k ++ x :: l.drop (k + 1) = l.set k x := by
  rw [List.set_eq_take_append_cons_drop, if_pos (List.getElem?_eq_some_iff.1 h).1]
theorem zkI {α : Type} {f : α → List UInt8} {l : List α} {k : Nat} {x y : α} (hx : l[k]? = some x) (e : f y = f x) : (l.set k y).map f = l.map f := by
  rw [List.map_set, e]
  apply List.ext_getElem?
  intro i
  rw [List.getElem?_set]
  split
  · rename_i hi
    subst hi
    split
    · rw [List.getElem?_map, hx]; rfl
    · rename_i hk
      have := (List.getElem?_eq_some_iff.1 hx).1
      simp at hk; omega
  · rfl
theorem GR.put {G L : List (List UInt8 × Int)} (h : GR G L) (n : List UInt8) (v : Int) : GR (putA n v G) (L.take (zjp n L) ++ (n, v) :: L.drop (zjp n L + if (hadG n L).isSome then 1 else 0)) := by
  have hh := h.had n
  unfold putA
  cases hf : zfB n G 0 with
  | none =>
    have h1 := zhj hf
    have hL : ∀ a ∈ L, a.1 ≠ n := fun a ha => h1 a ((h.mem a).2 ha)
    rw [hf] at hh
    rw [hh]
    simp only [Option.map_none, Option.isSome_none, Bool.false_eq_true, if_false, Nat.add_zero]
    refine ⟨?_, ?_, ?_, fun a => ?_⟩
    · have := List.take_append_drop (zjp n L) L
      have h3 := congrArg List.length this
      have h4 := h.len
      simp only [List.length_append, List.length_cons, List.length_nil] at h3 ⊢; omega
    · rw [zmH]; exact zkK (f := Prod.fst) (x := (n, v)) rfl h.sort hL
    · rw [List.map_append, List.nodup_append]
      refine ⟨h.nod, by simp, ?_⟩
      intro a ha b hb
      simp at hb; subst hb
      obtain ⟨c, hc, rfl⟩ := List.mem_map.1 ha
      exact h1 c hc
    · have := List.take_append_drop (zjp n L) L
      rw [List.mem_append, h.mem]
      constructor
      · rintro (ha | ha)
        · rw [← this] at ha
          rcases List.mem_append.1 ha with ha | ha <;> simp [ha]
        · simp at ha; subst ha; simp
      · intro ha
        rcases List.mem_append.1 ha with ha | ha
        · exact .inl (List.mem_of_mem_take ha)
        · rcases List.mem_cons.1 ha with rfl | ha
          · simp
          · exact .inl (List.mem_of_mem_drop ha)
  | some q =>
    obtain ⟨k, w⟩ := q
    obtain ⟨j, rfl, hj⟩ := zeJ hf
    have hm := (h.mem _).1 (List.mem_of_getElem? hj)
    have hL := zgK h.sort hm rfl
    rw [hf] at hh
    rw [hh]
    simp only [Option.map_some, Option.isSome_some, if_true, Nat.zero_add]
    rw [zmH]
    simp only at hL
    rw [zmp hL]
    refine ⟨by simp [h.len], sortK_set h.sort hL rfl, by rw [zkI (f := Prod.fst) (y := (n, v)) hj rfl]; exact h.nod, fun a => ?_⟩
    constructor
    · intro ha
      rcases zch ha with rfl | ⟨i, hi, hx⟩
      · exact mem_set_self' hL
      · have := (h.mem a).1 (List.mem_of_getElem? hx)
        obtain ⟨i2, hi2⟩ := List.mem_iff_getElem?.1 this
        refine zhg hi2 fun e => hi ?_
        subst e
        rw [hL] at hi2; cases hi2
        exact ziB h.nod hx hj rfl
    · intro ha
      rcases zch ha with rfl | ⟨i, hi, hx⟩
      · exact mem_set_self' hj
      · have := (h.mem a).2 (List.mem_of_getElem? hx)
        obtain ⟨i2, hi2⟩ := List.mem_iff_getElem?.1 this
        refine zhg hi2 fun e => hi ?_
        subst e
        rw [hj] at hi2; cases hi2
        exact ziB h.sort.nodup hx hL rfl

structure zcG where
  x : zC
  id : Nat
  g : Nat
  t : Nat
abbrev zcG.name (p : zcG) : List UInt8 := p.x.name
def zeV (n : List UInt8) : List zcG → Nat → Option (Nat × zcG)
  | [], _ => none
  | p :: r, i => if n = p.x.name then some (i, p) else zeV n r (i + 1)
theorem zjr {n : List UInt8} : ∀ {l : List zcG} {i k : Nat} {p : zcG}, zeV n l i = some (k, p) → ∃ j, k = i + j ∧ l[j]? = some p ∧ p.x.name = n
  | [], _, _, _, h => by simp [zeV] at h
  | g :: r, i, k, v, h => by
    simp only [zeV] at h
    split at h
    · rename_i e; cases h; exact ⟨0, rfl, rfl, e.symm⟩
    · obtain ⟨j, h1, h2, h3⟩ := zjr h
      exact ⟨j + 1, by omega, by simpa using h2, h3⟩
theorem zhi {n : List UInt8} : ∀ {l : List zcG} {i : Nat}, zeV n l i = none → ∀ p ∈ l, p.x.name ≠ n
  | [], _, _, g, hg => by cases hg
  | a :: r, i, h, g, hg => by
    simp only [zeV] at h
    split at h
    · cases h
    · rename_i e
      rcases List.mem_cons.1 hg with rfl | hg
      · exact fun e' => e e'.symm
      · exact zhi h g hg
structure TR (x y : zC) : Prop where
  name : x.name = y.name
  base : x.base = y.base
  recs : x.recs = y.recs
  gr : GR x.groups y.groups
theorem TR.next {x y : zC} (h : TR x y) : x.next = y.next := by rw [zC.next, h.base, h.recs]; rfl
structure Rel (X : List zcG) (T : List zC) : Prop where
  len : X.length = T.length
  sort : zcn zC.name T
  nod : (X.map zcG.name).Nodup
  fw : ∀ p ∈ X, ∃ y ∈ T, TR p.x y
  bw : ∀ y ∈ T, ∃ p ∈ X, TR p.x y
theorem Rel.nil : Rel [] [] := ⟨rfl, by simp [zcn], by simp, by simp, by simp⟩
theorem zmZ {n : List UInt8} : ∀ {l : List zC} {i k : Nat}, atF n l i = some k → ∃ j y, k = i + j ∧ l[j]? = some y ∧ y.name = n
  | [], _, _, h => by simp [atF] at h
  | x :: r, i, k, h => by
    simp only [atF] at h
    split at h
    · rename_i e; cases h; exact ⟨0, x, rfl, rfl, by simpa using e⟩
    · obtain ⟨j, y, h1, h2, h3⟩ := zmZ h
      exact ⟨j + 1, y, by omega, by simpa using h2, h3⟩
theorem atF_none {n : List UInt8} : ∀ {l : List zC} {i : Nat}, atF n l i = none → ∀ y ∈ l, y.name ≠ n
  | [], _, _, g, hg => by cases hg
  | a :: r, i, h, g, hg => by
    simp only [atF] at h
    split at h
    · cases h
    · rename_i e
      rcases List.mem_cons.1 hg with rfl | hg
      · simpa using e
      · exact atF_none h g hg
theorem Rel.no {X : List zcG} {T : List zC} (h : Rel X T) {n : List UInt8} (hf : zeV n X 0 = none) : atF n T 0 = none := by
  cases ha : atF n T 0 with
  | none => rfl
  | some k =>
    obtain ⟨j, y, _, h2, h3⟩ := zmZ ha
    obtain ⟨p, hp, hr⟩ := h.bw y (List.mem_of_getElem? h2)
    exact absurd (hr.name.trans h3) (zhi hf p hp)
theorem Rel.yes {X : List zcG} {T : List zC} (h : Rel X T) {n : List UInt8} {i : Nat} {p : zcG} (hf : zeV n X 0 = some (i, p)) : X[i]? = some p ∧ p.x.name = n ∧ ∃ k y, atF n T 0 = some k ∧ T[k]? = some y ∧ TR p.x y := by
  obtain ⟨j, e, h1, h2⟩ := zjr hf
  rw [Nat.zero_add] at e; subst e
  refine ⟨h1, h2, ?_⟩
  obtain ⟨y, hy, hr⟩ := h.fw p (List.mem_of_getElem? h1)
  cases ha : atF n T 0 with
  | none => exact absurd (hr.name.symm.trans h2) (atF_none ha y hy)
  | some k =>
    obtain ⟨j, z, e, h3, h4⟩ := zmZ ha
    rw [Nat.zero_add] at e; subst e
    have : z = y := zkw h.sort (List.mem_of_getElem? h3) hy (h4.trans (h2.symm.trans hr.name))
    subst this
    exact ⟨k, z, rfl, h3, hr⟩
theorem Rel.set {X : List zcG} {T : List zC} (h : Rel X T) {i k : Nat} {p p' : zcG} {y y' : zC} (hp : X[i]? = some p) (hy : T[k]? = some y) (hr : TR p.x y) (hr' : TR p'.x y') (hn : p'.x.name = p.x.name) : Rel (X.set i p') (T.set k y') := by
  have hn' : y'.name = y.name := hr'.name.symm.trans (hn.trans hr.name)
  refine ⟨by simp [h.len], sortK_set h.sort hy hn', by rw [zkI hp hn]; exact h.nod, fun q hq => ?_, fun z hz => ?_⟩
  · rcases zch hq with rfl | ⟨j, hj, hx⟩
    · exact ⟨y', mem_set_self' hy, hr'⟩
    · obtain ⟨z, hz, hrz⟩ := h.fw q (List.mem_of_getElem? hx)
      obtain ⟨j2, hj2⟩ := List.mem_iff_getElem?.1 hz
      refine ⟨z, zhg hj2 fun e => hj ?_, hrz⟩
      subst e
      rw [hy] at hj2; cases hj2
      exact ziB h.nod hx hp (hrz.name.trans hr.name.symm)
  · rcases zch hz with rfl | ⟨j, hj, hx⟩
    · exact ⟨p', mem_set_self' hp, hr'⟩
    · obtain ⟨q, hq, hrq⟩ := h.bw z (List.mem_of_getElem? hx)
      obtain ⟨j2, hj2⟩ := List.mem_iff_getElem?.1 hq
      refine ⟨q, zhg hj2 fun e => hj ?_, hrq⟩
      subst e
      rw [hp] at hj2; cases hj2
      exact ziB h.sort.nodup hx hy (hrq.name.symm.trans hr.name)
theorem Rel.add {X : List zcG} {T : List zC} (h : Rel X T) {n : List UInt8} (hf : zeV n X 0 = none) {p : zcG} {y : zC} (hr : TR p.x y) (hn : y.name = n) : Rel (X ++ [p]) (T.take (zlq n T) ++ y :: T.drop (zlq n T)) := by
  have h1 := zhi hf
  have hT : ∀ a ∈ T, a.name ≠ n := fun a ha e => by
    obtain ⟨q, hq, hrq⟩ := h.bw a ha
    exact h1 q hq (hrq.name.trans e)
  have htd := List.take_append_drop (zlq n T) T
  refine ⟨?_, ?_, ?_, fun q hq => ?_, fun z hz => ?_⟩
  · have h3 := congrArg List.length htd
    have h4 := h.len
    simp only [List.length_append, List.length_cons, List.length_nil] at h3 ⊢; omega
  · rw [lessN_K]; exact zkK hn h.sort hT
  · rw [List.map_append, List.nodup_append]
    refine ⟨h.nod, by simp, ?_⟩
    intro a ha b hb
    simp at hb; subst hb
    obtain ⟨c, hc, rfl⟩ := List.mem_map.1 ha
    have : p.x.name = n := hr.name.trans hn
    intro e
    exact h1 c hc (e.trans this)
  · rcases List.mem_append.1 hq with hq | hq
    · obtain ⟨z, hz, hrz⟩ := h.fw q hq
      rw [← htd] at hz
      refine ⟨z, ?_, hrz⟩
      rcases List.mem_append.1 hz with hz | hz <;> simp [hz]
    · simp at hq; subst hq
      exact ⟨y, by simp, hr⟩
  · rcases List.mem_append.1 hz with hz | hz
    · obtain ⟨q, hq, hrq⟩ := h.bw z (List.mem_of_mem_take hz)
      exact ⟨q, by simp [hq], hrq⟩
    · rcases List.mem_cons.1 hz with rfl | hz
      · exact ⟨p, by simp, hr⟩
      · obtain ⟨q, hq, hrq⟩ := h.bw z (List.mem_of_mem_drop hz)
        exact ⟨q, by simp [hq], hrq⟩
end Go.AW

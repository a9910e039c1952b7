/- The program's topics: what lies where. -/
import Derived.Test.YthpnelbciibjeaaPr4
import Derived.Test.YthpnelbciibjeaaSpTake
set_option linter.all false
set_option maxRecDepth 100000
set_option linter.unusedSimpArgs false
set_option linter.unusedVariables false
namespace Go.Proofs.Ythpnelbciibjeaa
open Go.AW

abbrev znq (X : List zcH) : List (AV × AV) := X.map fun p => (.d (.str p.x.name), .box p.id 0)
abbrev grpM (G : List (List UInt8 × Int)) : List (AV × AV) := G.map fun g => (.d (.str g.1), .d (.int .i64 g.2))
theorem zdr (n : List UInt8) : ∀ (X : List zcH) (i : Nat), ziF .str (.d (.str n)) (znq X) i = some ((zfl n X i).map fun q => (q.1, .box q.2.id 0))
  | [], _ => rfl
  | p :: r, i => by
    simp only [znq, List.map_cons, ziF, zeR, zfl]
    by_cases h : n = p.x.name
    · simp [h]
    · have : (n == p.x.name) = false := by simpa using h
      simp only [this, if_neg h]
      exact zdr n r (i + 1)
theorem zka (n : List UInt8) : ∀ (G : List (List UInt8 × Int)) (i : Nat), ziF .str (.d (.str n)) (grpM G) i = some ((zhh n G i).map fun q => (q.1, .d (.int .i64 q.2)))
  | [], _ => rfl
  | g :: r, i => by
    simp only [grpM, List.map_cons, ziF, zeR, zhh]
    by_cases h : n = g.1
    · simp [h]
    · have : (n == g.1) = false := by simpa using h
      simp only [this, if_neg h]
      exact zka n r (i + 1)
abbrev topB' (x : zX) (t g : Nat) : zc := .box [.d (.int .i64 x.base), .own t (zbK x.recs), .map g]
structure TopAt (σ : List zc) (p : zcH) : Prop where
  b : σ[p.id]? = some (topB' p.x p.t p.g)
  g : σ[p.g]? = some (.map (grpM p.x.groups))
  t : σ[p.t]? = some (.tok 1 p.x.recs.length)
structure zez (σ : List zc) (id m : Nat) (X : List zcH) (last : List (Int × Int × Int)) : Prop where
  box : σ[id]? = some (.box (.map m :: zcE last))
  map : σ[m]? = some (.map (znq X))
  tops : ∀ p ∈ X, TopAt σ p
  sep : ∀ (i j : Nat) (p q : zcH), X[i]? = some p → X[j]? = some q → i ≠ j → p.id ≠ q.id ∧ p.g ≠ q.g ∧ p.t ≠ q.t
  sm : ∀ p ∈ X, p.id ≠ id ∧ p.g ≠ m
  last : last.length = 8
def OwnP (id m : Nat) (X : List zcH) (j : Nat) : Prop := j = id ∨ j = m ∨ ∃ p ∈ X, j = p.id ∨ j = p.g ∨ j = p.t
def zeB (σ : List zc) (id : Nat) (T : zaq) (O : Nat → Prop) : Prop := ∃ m X, zez σ id m X T.last ∧ Rel X T.l ∧ ∀ j, O j ↔ OwnP id m X j
structure StO (σ S : List zc) (O : Nat → Prop) : Prop where
  len : σ.length ≤ S.length
  get : ∀ j, ¬ O j → j < σ.length → S[j]? = σ[j]?
theorem StO.app (σ τ : List zc) (O : Nat → Prop) : StO σ (σ ++ τ) O := ⟨by simp, fun _ _ h => List.getElem?_append_left h⟩
theorem StO.at_ {σ S : List zc} {O : Nat → Prop} (h : StO σ S O) {j : Nat} {x : zc} (hx : σ[j]? = some x) (hn : ¬ O j) : S[j]? = some x := (h.get j hn (zl hx)).trans hx
theorem zez.own_lt {σ : List zc} {id m : Nat} {X : List zcH} {L : List (Int × Int × Int)} (h : zez σ id m X L) {j : Nat} (hj : OwnP id m X j) : j < σ.length := by
  rcases hj with rfl | rfl | ⟨p, hp, rfl | rfl | rfl⟩
  · exact zl h.box
  · exact zl h.map
  · exact zl (h.tops p hp).b
  · exact zl (h.tops p hp).g
  · exact zl (h.tops p hp).t
theorem zez.keep {σ S : List zc} {id m : Nat} {X : List zcH} {L : List (Int × Int × Int)} (h : zez σ id m X L) (hs : ∀ j, OwnP id m X j → S[j]? = σ[j]?) : zez S id m X L :=
  ⟨(hs _ (.inl rfl)).trans h.box, (hs _ (.inr (.inl rfl))).trans h.map,
    fun p hp => ⟨(hs _ (.inr (.inr ⟨p, hp, .inl rfl⟩))).trans (h.tops p hp).b, (hs _ (.inr (.inr ⟨p, hp, .inr (.inl rfl)⟩))).trans (h.tops p hp).g, (hs _ (.inr (.inr ⟨p, hp, .inr (.inr rfl)⟩))).trans (h.tops p hp).t⟩,
    h.sep, h.sm, h.last⟩
theorem zeB.own_lt {σ : List zc} {id : Nat} {T : zaq} {O : Nat → Prop} (h : zeB σ id T O) {j : Nat} (hj : O j) : j < σ.length := by
  obtain ⟨m, X, h1, h2, h3⟩ := h
  exact h1.own_lt ((h3 j).1 hj)
theorem zeB.self {σ : List zc} {id : Nat} {T : zaq} {O : Nat → Prop} (h : zeB σ id T O) : O id := by
  obtain ⟨m, X, h1, h2, h3⟩ := h
  exact (h3 id).2 (.inl rfl)
theorem zeB.keep {σ S : List zc} {id : Nat} {T : zaq} {O : Nat → Prop} (h : zeB σ id T O) (hs : ∀ j, O j → S[j]? = σ[j]?) : zeB S id T O := by
  obtain ⟨m, X, h1, h2, h3⟩ := h
  exact ⟨m, X, h1.keep fun j hj => hs j ((h3 j).2 hj), h2, h3⟩
theorem zeB.app {σ : List zc} {id : Nat} {T : zaq} {O : Nat → Prop} (h : zeB σ id T O) (τ : List zc) : zeB (σ ++ τ) id T O := h.keep fun j hj => List.getElem?_append_left (h.own_lt hj)
theorem zez.app {σ : List zc} {id m : Nat} {X : List zcH} {L : List (Int × Int × Int)} (h : zez σ id m X L) (τ : List zc) : zez (σ ++ τ) id m X L := h.keep fun j hj => List.getElem?_append_left (h.own_lt hj)
theorem zeB.set {σ : List zc} {id i : Nat} {T : zaq} {O : Nat → Prop} (h : zeB σ id T O) (hi : ¬ O i) (Y : zc) : zeB (σ.set i Y) id T O := h.keep fun j hj => List.getElem?_set_ne (fun e => by subst e; exact hi hj)
theorem StO.trans {σ S R : List zc} {O O' : Nat → Prop} (h : StO σ S O) (h' : StO S R O') (ho : ∀ j, O' j → O j ∨ σ.length ≤ j) : StO σ R O :=
  ⟨Nat.le_trans h.len h'.len, fun j hj hl => (h'.get j (fun hO => (ho j hO).elim hj fun h1 => by omega) (by have := h.len; omega)).trans (h.get j hj hl)⟩
theorem zez.ne {σ : List zc} {id m : Nat} {X : List zcH} {L : List (Int × Int × Int)} (h : zez σ id m X L) {p q : zcH} (hp : p ∈ X) (hq : q ∈ X) :
    id ≠ m ∧ p.id ≠ q.g ∧ p.id ≠ q.t ∧ p.g ≠ q.t ∧ id ≠ q.g ∧ id ≠ q.t ∧ m ≠ q.t ∧ m ≠ p.id ∧ p.id ≠ id ∧ p.g ≠ m := by
  have a := h.tops p hp; have b := h.tops q hq
  refine ⟨fun e => ?_, fun e => ?_, fun e => ?_, fun e => ?_, fun e => ?_, fun e => ?_, fun e => ?_, fun e => ?_, (h.sm p hp).1, (h.sm p hp).2⟩
  · have := h.box; rw [e, h.map] at this; cases this
  · have := a.b; rw [e, b.g] at this; cases this
  · have := a.b; rw [e, b.t] at this; cases this
  · have := a.g; rw [e, b.t] at this; cases this
  · have := h.box; rw [e, b.g] at this; cases this
  · have := h.box; rw [e, b.t] at this; cases this
  · have := h.map; rw [e, b.t] at this; cases this
  · have := h.map; rw [e, a.b] at this; cases this
theorem zez.upd {σ S : List zc} {id m i : Nat} {X : List zcH} {L : List (Int × Int × Int)} {p p' : zcH} (h : zez σ id m X L) (hp : X[i]? = some p) (hn : p'.x.name = p.x.name) (h1 : p'.id = p.id) (h2 : p'.g = p.g) (h3 : p'.t = p.t ∨ σ.length ≤ p'.t)
    (ho : ∀ j, OwnP id m X j → j ≠ p.id → j ≠ p.g → j ≠ p.t → S[j]? = σ[j]?) (hT : TopAt S p') : zez S id m (X.set i p') L := by
  have hpm := List.mem_of_getElem? hp
  have hne := h.ne hpm hpm
  refine ⟨?_, ?_, fun q hq => ?_, fun a b q r ha hb hab => ?_, fun q hq => ?_, h.last⟩
  · exact (ho id (.inl rfl) (Ne.symm hne.2.2.2.2.2.2.2.2.1) hne.2.2.2.2.1 hne.2.2.2.2.2.1).trans h.box
  · rw [ho m (.inr (.inl rfl)) hne.2.2.2.2.2.2.2.1 (Ne.symm hne.2.2.2.2.2.2.2.2.2) hne.2.2.2.2.2.2.1, h.map]
    congr 2
    apply List.ext_getElem?
    intro k
    simp only [znq, List.getElem?_map, List.getElem?_set]
    split
    · rename_i hk
      subst hk
      rw [hp, if_pos (List.getElem?_eq_some_iff.1 hp).1]
      simp [hn, h1]
    · rfl
  · rcases zcB hq with rfl | ⟨j, hj, hq'⟩
    · exact hT
    · have hqm := List.mem_of_getElem? hq'
      have hs := h.sep j i q p hq' hp hj
      have e1 := h.ne hqm hpm
      have e2 := h.ne hpm hqm
      have := h.tops q hqm
      refine ⟨(ho _ (.inr (.inr ⟨q, hqm, .inl rfl⟩)) hs.1 e1.2.1 e1.2.2.1).trans this.b, (ho _ (.inr (.inr ⟨q, hqm, .inr (.inl rfl)⟩)) (Ne.symm e2.2.1) hs.2.1 e1.2.2.2.1).trans this.g, (ho _ (.inr (.inr ⟨q, hqm, .inr (.inr rfl)⟩)) (Ne.symm e2.2.2.1) (Ne.symm e2.2.2.2.1) hs.2.2).trans this.t⟩
  · have key : ∀ (c : Nat) (s : zcH), X[c]? = some s → c ≠ i → p'.id ≠ s.id ∧ p'.g ≠ s.g ∧ p'.t ≠ s.t := fun c s hc hne => by
      have hs := h.sep i c p s hp hc (Ne.symm hne)
      refine ⟨by rw [h1]; exact hs.1, by rw [h2]; exact hs.2.1, ?_⟩
      rcases h3 with h3 | h3
      · rw [h3]; exact hs.2.2
      · have := zl (h.tops s (List.mem_of_getElem? hc)).t
        omega
    rw [List.getElem?_set] at ha hb
    split at ha
    · rename_i e1
      split at hb
      · omega
      · split at ha
        · cases ha; exact key b r hb (by omega)
        · cases ha
    · split at hb
      · split at hb
        · cases hb
          have := key a q ha (by omega)
          exact ⟨Ne.symm this.1, Ne.symm this.2.1, Ne.symm this.2.2⟩
        · cases hb
      · exact h.sep a b q r ha hb hab
  · rcases zcB hq with rfl | ⟨j, hj, hq'⟩
    · rw [h1, h2]; exact h.sm p hpm
    · exact h.sm q (List.mem_of_getElem? hq')
theorem znF {id m i : Nat} {X : List zcH} {p p' : zcH} (hp : X[i]? = some p) (h1 : p'.id = p.id) (h2 : p'.g = p.g) {j : Nat} (hj : OwnP id m (X.set i p') j) : OwnP id m X j ∨ j = p'.t := by
  rcases hj with rfl | rfl | ⟨q, hq, hj⟩
  · exact .inl (.inl rfl)
  · exact .inl (.inr (.inl rfl))
  · rcases zcB hq with rfl | ⟨k, hk, hq'⟩
    · rcases hj with rfl | rfl | rfl
      · exact .inl (.inr (.inr ⟨p, List.mem_of_getElem? hp, .inl h1⟩))
      · exact .inl (.inr (.inr ⟨p, List.mem_of_getElem? hp, .inr (.inl h2)⟩))
      · exact .inr rfl
    · exact .inl (.inr (.inr ⟨q, List.mem_of_getElem? hq', hj⟩))
theorem zez.add {σ S : List zc} {id m : Nat} {X : List zcH} {L : List (Int × Int × Int)} {p : zcH} (h : zez σ id m X L) (h1 : σ.length ≤ p.id) (h2 : σ.length ≤ p.g) (h3 : σ.length ≤ p.t)
    (ho : ∀ j, OwnP id m X j → j ≠ m → S[j]? = σ[j]?) (hm : S[m]? = some (.map (znq (X ++ [p])))) (hT : TopAt S p) : zez S id m (X ++ [p]) L := by
  have lm := zl h.map
  have lb := zl h.box
  have nm : id ≠ m := fun e => by have := h.box; rw [e, h.map] at this; cases this
  have old : ∀ q ∈ X, p.id ≠ q.id ∧ p.g ≠ q.g ∧ p.t ≠ q.t := fun q hq => by
    have a := zl (h.tops q hq).b; have b := zl (h.tops q hq).g; have c := zl (h.tops q hq).t
    omega
  refine ⟨(ho _ (.inl rfl) nm).trans h.box, hm, fun q hq => ?_, fun a b q r ha hb hab => ?_, fun q hq => ?_, h.last⟩
  · rcases List.mem_append.1 hq with hq | hq
    · have := h.tops q hq
      have hne := h.ne hq hq
      exact ⟨(ho _ (.inr (.inr ⟨q, hq, .inl rfl⟩)) (Ne.symm hne.2.2.2.2.2.2.2.1)).trans this.b, (ho _ (.inr (.inr ⟨q, hq, .inr (.inl rfl)⟩)) hne.2.2.2.2.2.2.2.2.2).trans this.g, (ho _ (.inr (.inr ⟨q, hq, .inr (.inr rfl)⟩)) (Ne.symm hne.2.2.2.2.2.2.1)).trans this.t⟩
    · simp at hq; subst hq; exact hT
  · rw [List.getElem?_append] at ha hb
    split at ha
    · split at hb
      · exact h.sep a b q r ha hb hab
      · have := List.mem_of_getElem? hb
        simp at this; subst this
        have := old q (List.mem_of_getElem? ha)
        exact ⟨Ne.symm this.1, Ne.symm this.2.1, Ne.symm this.2.2⟩
    · have h4 := List.mem_of_getElem? ha
      have h6 := (List.getElem?_eq_some_iff.1 ha).1
      simp at h4 h6; subst h4
      split at hb
      · exact old r (List.mem_of_getElem? hb)
      · have h5 := (List.getElem?_eq_some_iff.1 hb).1
        simp at h5; omega
  · rcases List.mem_append.1 hq with hq | hq
    · exact h.sm q hq
    · simp at hq; subst hq; omega
theorem ownP_add {id m : Nat} {X : List zcH} {p : zcH} {j : Nat} (hj : OwnP id m (X ++ [p]) j) : OwnP id m X j ∨ j = p.id ∨ j = p.g ∨ j = p.t := by
  rcases hj with rfl | rfl | ⟨q, hq, hj⟩
  · exact .inl (.inl rfl)
  · exact .inl (.inr (.inl rfl))
  · rcases List.mem_append.1 hq with hq | hq
    · exact .inl (.inr (.inr ⟨q, hq, hj⟩))
    · simp at hq; subst hq; exact .inr hj
theorem zez.told {σ S : List zc} {id m : Nat} {X : List zcH} {L L' : List (Int × Int × Int)} (h : zez σ id m X L) (hb : S[id]? = some (.box (.map m :: zcE L'))) (hl : L'.length = 8) (ho : ∀ j, OwnP id m X j → j ≠ id → S[j]? = σ[j]?) : zez S id m X L' := by
  have nm : m ≠ id := fun e => by have := h.box; rw [← e, h.map] at this; cases this
  refine ⟨hb, (ho _ (.inr (.inl rfl)) nm).trans h.map, fun q hq => ?_, h.sep, h.sm, hl⟩
  have := h.tops q hq
  have hne := h.ne hq hq
  exact ⟨(ho _ (.inr (.inr ⟨q, hq, .inl rfl⟩)) hne.2.2.2.2.2.2.2.2.1).trans this.b, (ho _ (.inr (.inr ⟨q, hq, .inr (.inl rfl)⟩)) (Ne.symm hne.2.2.2.2.1)).trans this.g, (ho _ (.inr (.inr ⟨q, hq, .inr (.inr rfl)⟩)) (Ne.symm hne.2.2.2.2.2.1)).trans this.t⟩
end Go.Proofs.Ythpnelbciibjeaa

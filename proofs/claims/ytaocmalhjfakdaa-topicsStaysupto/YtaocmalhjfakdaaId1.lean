/- Contracts: tables of byte strings and ledgers of signatures, as the program keeps them. -/
import Derived.Test.YtaocmalhjfakdaaCl1
import Derived.Test.YtaocmalhjfakdaaSpTab
set_option linter.all false
set_option maxRecDepth 100000
set_option linter.unusedSimpArgs false
set_option linter.unusedVariables false
namespace Go.Proofs.Ytaocmalhjfakdaa
open Go.AW

structure TabAt (σ : List AObj) (id m t : Nat) (l : List (List UInt8)) : Prop where
  box : σ[id]? = some (.box [.own t (tabE l), .map m])
  map : σ[m]? = some (.map (tabM l))
  tok : σ[t]? = some (.tok 1 l.length)
structure LedAt (σ : List AObj) (id m t : Nat) (g : List TSign) : Prop where
  box : σ[id]? = some (.box [.own t (ledE g), .map m])
  map : σ[m]? = some (.map (ledM g))
  tok : σ[t]? = some (.tok 2 g.length)
def putTab (σ : List AObj) (id m t : Nat) (l : List (List UInt8)) : List AObj := ((σ.set t (.tok 1 l.length)).set id (.box [.own t (tabE l), .map m])).set m (.map (tabM l))
def putLed (σ : List AObj) (id m t : Nat) (g : List TSign) : List AObj := ((σ.set m (.map (ledM g))).set t (.tok 2 g.length)).set id (.box [.own t (ledE g), .map m])
theorem TabAt.ne {σ : List AObj} {id m t : Nat} {l : List (List UInt8)} (h : TabAt σ id m t l) : id ≠ m ∧ id ≠ t ∧ m ≠ t := by
  refine ⟨fun e => ?_, fun e => ?_, fun e => ?_⟩ <;> subst e
  · have := h.box; rw [h.map] at this; cases this
  · have := h.box; rw [h.tok] at this; cases this
  · have := h.map; rw [h.tok] at this; cases this
theorem LedAt.ne {σ : List AObj} {id m t : Nat} {g : List TSign} (h : LedAt σ id m t g) : id ≠ m ∧ id ≠ t ∧ m ≠ t := by
  refine ⟨fun e => ?_, fun e => ?_, fun e => ?_⟩ <;> subst e
  · have := h.box; rw [h.map] at this; cases this
  · have := h.box; rw [h.tok] at this; cases this
  · have := h.map; rw [h.tok] at this; cases this
theorem TabAt.self {σ : List AObj} {id m t : Nat} {l : List (List UInt8)} (h : TabAt σ id m t l) : putTab σ id m t l = σ := by
  unfold putTab
  rw [set_same h.tok, set_same h.box, set_same h.map]
theorem LedAt.self {σ : List AObj} {id m t : Nat} {g : List TSign} (h : LedAt σ id m t g) : putLed σ id m t g = σ := by
  unfold putLed
  rw [set_same h.map, set_same h.tok, set_same h.box]
theorem TabAt.app {σ : List AObj} {id m t : Nat} {l : List (List UInt8)} (h : TabAt σ id m t l) (τ : List AObj) : TabAt (σ ++ τ) id m t l := ⟨get_left h.box, get_left h.map, get_left h.tok⟩
theorem LedAt.app {σ : List AObj} {id m t : Nat} {g : List TSign} (h : LedAt σ id m t g) (τ : List AObj) : LedAt (σ ++ τ) id m t g := ⟨get_left h.box, get_left h.map, get_left h.tok⟩
theorem lowMap_str {n : Nat} (l : List (List UInt8)) : LowO n (.map (tabM l)) := by
  have key : ∀ (l : List (List UInt8)) (i : Nat), ∀ e ∈ tabMA l i, Low n e.1 ∧ Low n e.2 := by
    intro l
    induction l with
    | nil => intro i e h; cases h
    | cons x r ih =>
      intro i e h
      simp only [tabMA, List.mem_cons] at h
      rcases h with rfl | h
      · exact ⟨.d _, .d _⟩
      · exact ih _ e h
  exact fun e he => key l 0 e he
theorem lowMap_led {n : Nat} (g : List TSign) : LowO n (.map (ledM g)) := by
  intro e he
  simp only [ledM, List.mem_map] at he
  obtain ⟨s, _, rfl⟩ := he
  exact ⟨.agg _ (by simp [Low_d]), .d _⟩
theorem lowBox {n t m : Nat} {es : List (List D)} (ht : t < n) (hm : m < n) : LowO n (.box [.own t es, .map m]) := by
  intro c hc
  simp only [List.mem_cons, List.not_mem_nil, or_false] at hc
  rcases hc with rfl | rfl
  · exact .own _ _ ht
  · exact .map _ hm
theorem TabAt.lows {σ : List AObj} {id m t : Nat} {l : List (List UInt8)} (h : TabAt σ id m t l) (hl : Lows σ.length σ) (l' : List (List UInt8)) : Lows σ.length (putTab σ id m t l') :=
  ((hl.setO (show LowO _ (.tok 1 l'.length) from trivial)).setO (lowBox (lt_len h.tok) (lt_len h.map))).setO (lowMap_str l')
theorem LedAt.lows {σ : List AObj} {id m t : Nat} {g : List TSign} (h : LedAt σ id m t g) (hl : Lows σ.length σ) (g' : List TSign) : Lows σ.length (putLed σ id m t g') :=
  ((hl.setO (lowMap_led g')).setO (show LowO _ (.tok 2 g'.length) from trivial)).setO (lowBox (lt_len h.tok) (lt_len h.map))
end Go.Proofs.Ytaocmalhjfakdaa

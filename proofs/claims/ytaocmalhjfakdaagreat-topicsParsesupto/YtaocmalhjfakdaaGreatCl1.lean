/- Contracts: bytes.Clone. -/
import Derived.Test.YtaocmalhjfakdaaGreatSh
import Derived.Test.YtaocmalhjfakdaaGreatAwEnd
import Derived.Test.YtaocmalhjfakdaaGreatSpNum
set_option linter.all false
set_option maxRecDepth 100000
set_option linter.unusedSimpArgs false
namespace Go.Proofs.YtaocmalhjfakdaaGreat
open Go.AW


structure ziN (σ : List zc) (id m t : Nat) (l : List (List UInt8)) : Prop where
  box : σ[id]? = some (.box [.own t (tabE l), .map m])
  map : σ[m]? = some (.map (tabM l))
  tok : σ[t]? = some (.tok 1 l.length)
structure ziU (σ : List zc) (id m t : Nat) (g : List zhm) : Prop where
  box : σ[id]? = some (.box [.own t (ledE g), .map m])
  map : σ[m]? = some (.map (ledM g))
  tok : σ[t]? = some (.tok 2 g.length)
def putTab (σ : List zc) (id m t : Nat) (l : List (List UInt8)) : List zc := ((σ.set t (.tok 1 l.length)).set id (.box [.own t (tabE l), .map m])).set m (.map (tabM l))
def putLed (σ : List zc) (id m t : Nat) (g : List zhm) : List zc := ((σ.set m (.map (ledM g))).set t (.tok 2 g.length)).set id (.box [.own t (ledE g), .map m])
theorem ziN.ne {σ : List zc} {id m t : Nat} {l : List (List UInt8)} (h : ziN σ id m t l) : id ≠ m ∧ id ≠ t ∧ m ≠ t := by
  refine ⟨fun e => ?_, fun e => ?_, fun e => ?_⟩ <;> subst e
  · have := h.box; rw [h.map] at this; cases this
  · have := h.box; rw [h.tok] at this; cases this
  · have := h.map; rw [h.tok] at this; cases this
theorem ziU.ne {σ : List zc} {id m t : Nat} {g : List zhm} (h : ziU σ id m t g) : id ≠ m ∧ id ≠ t ∧ m ≠ t := by
  refine ⟨fun e => ?_, fun e => ?_, fun e => ?_⟩ <;> subst e
  · have := h.box; rw [h.map] at this; cases this
  · have := h.box; rw [h.tok] at this; cases this
  · have := h.map; rw [h.tok] at this; cases this
theorem ziN.self {σ : List zc} {id m t : Nat} {l : List (List UInt8)} (h : ziN σ id m t l) : putTab σ id m t l = σ := by
  unfold putTab
  rw [zjd h.tok, zjd h.box, zjd h.map]
theorem ziU.self {σ : List zc} {id m t : Nat} {g : List zhm} (h : ziU σ id m t g) : putLed σ id m t g = σ := by
  unfold putLed
  rw [zjd h.map, zjd h.tok, zjd h.box]
theorem ziN.app {σ : List zc} {id m t : Nat} {l : List (List UInt8)} (h : ziN σ id m t l) (τ : List zc) : ziN (σ ++ τ) id m t l := ⟨zf h.box, zf h.map, zf h.tok⟩
theorem ziU.app {σ : List zc} {id m t : Nat} {g : List zhm} (h : ziU σ id m t g) (τ : List zc) : ziU (σ ++ τ) id m t g := ⟨zf h.box, zf h.map, zf h.tok⟩
theorem lowMap_str {n : Nat} (l : List (List UInt8)) : LowO n (.map (tabM l)) := by
  have key : ∀ (l : List (List UInt8)) (i : Nat), ∀ e ∈ tabMA l i, Low n e.1 ∧ Low n e.2 := by
    intro l
    induction l with
    | nil => intro i e h; cases h
    | cons x r ih =>
      intro i e h
      simp only [tabMA, List.mem_cons] at h
      rcases h with rfl | h
      · exact ⟨.d _, .d _⟩
      · exact ih _ e h
  exact fun e he => key l 0 e he
theorem lowMap_led {n : Nat} (g : List zhm) : LowO n (.map (ledM g)) := by
  intro e he
  simp only [ledM, List.mem_map] at he
  obtain ⟨s, _, rfl⟩ := he
  exact ⟨.agg _ (by simp [zeB]), .d _⟩
theorem lowBox {n t m : Nat} {es : List (List D)} (ht : t < n) (hm : m < n) : LowO n (.box [.own t es, .map m]) := by
  intro c hc
  simp only [List.mem_cons, List.not_mem_nil, or_false] at hc
  rcases hc with rfl | rfl
  · exact .own _ _ ht
  · exact .map _ hm
theorem ziN.lows {σ : List zc} {id m t : Nat} {l : List (List UInt8)} (h : ziN σ id m t l) (hl : zgS σ.length σ) (l' : List (List UInt8)) : zgS σ.length (putTab σ id m t l') :=
  ((hl.setO (show LowO _ (.tok 1 l'.length) from trivial)).setO (lowBox (zg h.tok) (zg h.map))).setO (lowMap_str l')
theorem ziU.lows {σ : List zc} {id m t : Nat} {g : List zhm} (h : ziU σ id m t g) (hl : zgS σ.length σ) (g' : List zhm) : zgS σ.length (putLed σ id m t g') :=
  ((hl.setO (lowMap_led g')).setO (show LowO _ (.tok 2 g'.length) from trivial)).setO (lowBox (zg h.tok) (zg h.map))



end Go.Proofs.YtaocmalhjfakdaaGreat

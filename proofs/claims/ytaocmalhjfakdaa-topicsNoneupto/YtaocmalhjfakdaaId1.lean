/- Contracts: tables of byte strings and ledgers of signatures, as the program zjo them. -/
import Derived.Test.YtaocmalhjfakdaaCl1
import Derived.Test.YtaocmalhjfakdaaSpNum
set_option linter.all false
set_option maxRecDepth 100000
set_option linter.unusedSimpArgs false
set_option linter.unusedVariables false
namespace Go.Proofs.Ytaocmalhjfakdaa
open Go.AW

structure zfk (σ : List zb) (id m t : Nat) (l : List (List UInt8)) : Prop where
  box : σ[id]? = some (.box [.own t (tabE l), .map m])
  map : σ[m]? = some (.map (tabM l))
  tok : σ[t]? = some (.tok 1 l.length)
structure zfo (σ : List zb) (id m t : Nat) (g : List zev) : Prop where
  box : σ[id]? = some (.box [.own t (ledE g), .map m])
  map : σ[m]? = some (.map (ledM g))
  tok : σ[t]? = some (.tok 2 g.length)
def putTab (σ : List zb) (id m t : Nat) (l : List (List UInt8)) : List zb := ((σ.set t (.tok 1 l.length)).set id (.box [.own t (tabE l), .map m])).set m (.map (tabM l))
def putLed (σ : List zb) (id m t : Nat) (g : List zev) : List zb := ((σ.set m (.map (ledM g))).set t (.tok 2 g.length)).set id (.box [.own t (ledE g), .map m])
abbrev tabO (n : Nat) (l : List (List UInt8)) : List zb := [.map (tabM l), .box [.own (n + 2) (tabE l), .map n], .tok 1 l.length]
theorem zfk.ne {σ : List zb} {id m t : Nat} {l : List (List UInt8)} (h : zfk σ id m t l) : id ≠ m ∧ id ≠ t ∧ m ≠ t := by
  refine ⟨fun e => ?_, fun e => ?_, fun e => ?_⟩ <;> subst e
  · have := h.box; rw [h.map] at this; cases this
  · have := h.box; rw [h.tok] at this; cases this
  · have := h.map; rw [h.tok] at this; cases this
theorem zfo.ne {σ : List zb} {id m t : Nat} {g : List zev} (h : zfo σ id m t g) : id ≠ m ∧ id ≠ t ∧ m ≠ t := by
  refine ⟨fun e => ?_, fun e => ?_, fun e => ?_⟩ <;> subst e
  · have := h.box; rw [h.map] at this; cases this
  · have := h.box; rw [h.tok] at this; cases this
  · have := h.map; rw [h.tok] at this; cases this
theorem zfk.self {σ : List zb} {id m t : Nat} {l : List (List UInt8)} (h : zfk σ id m t l) : putTab σ id m t l = σ := by
  unfold putTab
  rw [zfv h.tok, zfv h.box, zfv h.map]
theorem zfo.self {σ : List zb} {id m t : Nat} {g : List zev} (h : zfo σ id m t g) : putLed σ id m t g = σ := by
  unfold putLed
  rw [zfv h.map, zfv h.tok, zfv h.box]
theorem zfk.app {σ : List zb} {id m t : Nat} {l : List (List UInt8)} (h : zfk σ id m t l) (τ : List zb) : zfk (σ ++ τ) id m t l := ⟨zf h.box, zf h.map, zf h.tok⟩
theorem zfo.app {σ : List zb} {id m t : Nat} {g : List zev} (h : zfo σ id m t g) (τ : List zb) : zfo (σ ++ τ) id m t g := ⟨zf h.box, zf h.map, zf h.tok⟩
theorem lowMap_str {n : Nat} (l : List (List UInt8)) : LowO n (.map (tabM l)) := by
  have key : ∀ (l : List (List UInt8)) (i : Nat), ∀ e ∈ tabMA l i, Low n e.1 ∧ Low n e.2 := by
    intro l
    induction l with
    | nil => intro i e h; cases h
    | cons x r ih =>
      intro i e h
      simp only [tabMA, List.mem_cons] at h
      rcases h with rfl | h
      · exact ⟨.d _, .d _⟩
      · exact ih _ e h
  exact fun e he => key l 0 e he
theorem lowMap_led {n : Nat} (g : List zev) : LowO n (.map (ledM g)) := by
  intro e he
  simp only [ledM, List.mem_map] at he
  obtain ⟨s, _, rfl⟩ := he
  exact ⟨.agg _ (by simp [zju]), .d _⟩
theorem lowBox {n t m : Nat} {es : List (List D)} (ht : t < n) (hm : m < n) : LowO n (.box [.own t es, .map m]) := by
  intro c hc
  simp only [List.mem_cons, List.not_mem_nil, or_false] at hc
  rcases hc with rfl | rfl
  · exact .own _ _ ht
  · exact .map _ hm
theorem zfk.lows {σ : List zb} {id m t : Nat} {l : List (List UInt8)} (h : zfk σ id m t l) (hl : zez σ.length σ) (l' : List (List UInt8)) : zez σ.length (putTab σ id m t l') :=
  ((hl.setO (show LowO _ (.tok 1 l'.length) from trivial)).setO (lowBox (zF h.tok) (zF h.map))).setO (lowMap_str l')
theorem zfo.lows {σ : List zb} {id m t : Nat} {g : List zev} (h : zfo σ id m t g) (hl : zez σ.length σ) (g' : List zev) : zez σ.length (putLed σ id m t g') :=
  ((hl.setO (lowMap_led g')).setO (show LowO _ (.tok 2 g'.length) from trivial)).setO (lowBox (zF h.tok) (zF h.map))
end Go.Proofs.Ytaocmalhjfakdaa

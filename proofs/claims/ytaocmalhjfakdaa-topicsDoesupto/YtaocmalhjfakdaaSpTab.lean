/- Byte strings and their numbers; what was signed. No program in sight. -/
import Derived.Test.YtaocmalhjfakdaaCl1
import Derived.Test.YtaocmalhjfakdaaAwFrz
set_option linter.all false
set_option linter.unusedSimpArgs false
set_option linter.unusedVariables false
namespace Go.AW

def lookAt : List (List UInt8) → List UInt8 → Nat → Option Nat
  | [], _, _ => none
  | x :: r, b, i => if b = x then some i else lookAt r b (i + 1)
def lookF (l : List (List UInt8)) (b : List UInt8) : Option Nat := lookAt l b 0
def sumL (l : List (List UInt8)) (b : List UInt8) : List (List UInt8) := match lookF l b with
  | some _ => l
  | none => if l.length ≥ 1048576 then l else l ++ [b]
abbrev tabE (l : List (List UInt8)) : List (List D) := l.map fun b => [D.slice (bcs b)]
def tabMA : List (List UInt8) → Nat → List (AV × AV)
  | [], _ => []
  | x :: r, i => (.d (.str x), .d (.int .i64 ((i + 1 : Nat) : Int))) :: tabMA r (i + 1)
def tabM (l : List (List UInt8)) : List (AV × AV) := tabMA l 0

theorem zmv {l : List (List UInt8)} {b : List UInt8} (h : lookF l b = none) : b ∉ l := by
  have key : ∀ (l : List (List UInt8)) (i : Nat), lookAt l b i = none → b ∉ l := by
    intro l
    induction l with
    | nil => intro i _; simp
    | cons x r ih =>
      intro i h
      simp only [lookAt] at h
      split at h
      · cases h
      · rename_i hne
        simp only [List.mem_cons, not_or]
        exact ⟨hne, ih _ h⟩
  exact key l 0 h
abbrev ledE (l : List zfS) : List (List D) := signsE l
def ledM (l : List zfS) : List (AV × AV) := l.map fun s => (.agg [.d (.int .i64 s.key), .d (.int .i64 s.dig)], .d (.bool true))
end Go.AW

/- Contracts: tables of byte strings and ledgers of signatures, as the program zll them. -/
set_option maxRecDepth 100000
set_option linter.unusedSimpArgs false
set_option linter.unusedVariables false
namespace Go.Proofs.Ytaocmalhjfakdaa
open Go.AW

structure zgW (σ : List zb) (id m t : Nat) (l : List (List UInt8)) : Prop where
  box : σ[id]? = some (.box [.own t (tabE l), .map m])
  map : σ[m]? = some (.map (tabM l))
  tok : σ[t]? = some (.tok 1 l.length)
structure zha (σ : List zb) (id m t : Nat) (g : List zfS) : Prop where
  box : σ[id]? = some (.box [.own t (ledE g), .map m])
  map : σ[m]? = some (.map (ledM g))
  tok : σ[t]? = some (.tok 2 g.length)
def putTab (σ : List zb) (id m t : Nat) (l : List (List UInt8)) : List zb := ((σ.set t (.tok 1 l.length)).set id (.box [.own t (tabE l), .map m])).set m (.map (tabM l))
def putLed (σ : List zb) (id m t : Nat) (g : List zfS) : List zb := ((σ.set m (.map (ledM g))).set t (.tok 2 g.length)).set id (.box [.own t (ledE g), .map m])
theorem zgW.ne {σ : List zb} {id m t : Nat} {l : List (List UInt8)} (h : zgW σ id m t l) : id ≠ m ∧ id ≠ t ∧ m ≠ t := by
  refine ⟨fun e => ?_, fun e => ?_, fun e => ?_⟩ <;> subst e
  · have := h.box; rw [h.map] at this; cases this
  · have := h.box; rw [h.tok] at this; cases this
  · have := h.map; rw [h.tok] at this; cases this
theorem zha.ne {σ : List zb} {id m t : Nat} {g : List zfS} (h : zha σ id m t g) : id ≠ m ∧ id ≠ t ∧ m ≠ t := by
  refine ⟨fun e => ?_, fun e => ?_, fun e => ?_⟩ <;> subst e
  · have := h.box; rw [h.map] at this; cases this
  · have := h.box; rw [h.tok] at this; cases this
  · have := h.map; rw [h.tok] at this; cases this
theorem zgW.self {σ : List zb} {id m t : Nat} {l : List (List UInt8)} (h : zgW σ id m t l) : putTab σ id m t l = σ := by
  unfold putTab
  rw [zhh h.tok, zhh h.box, zhh h.map]
theorem zha.self {σ : List zb} {id m t : Nat} {g : List zfS} (h : zha σ id m t g) : putLed σ id m t g = σ := by
  unfold putLed
  rw [zhh h.map, zhh h.tok, zhh h.box]
theorem zgW.app {σ : List zb} {id m t : Nat} {l : List (List UInt8)} (h : zgW σ id m t l) (τ : List zb) : zgW (σ ++ τ) id m t l := ⟨ze h.box, ze h.map, ze h.tok⟩
theorem zha.app {σ : List zb} {id m t : Nat} {g : List zfS} (h : zha σ id m t g) (τ : List zb) : zha (σ ++ τ) id m t g := ⟨ze h.box, ze h.map, ze h.tok⟩
theorem lowMap_str {n : Nat} (l : List (List UInt8)) : LowO n (.map (tabM l)) := by
  have key : ∀ (l : List (List UInt8)) (i : Nat), ∀ e ∈ tabMA l i, Low n e.1 ∧ Low n e.2 := by
    intro l
    induction l with
    | nil => intro i e h; cases h
    | cons x r ih =>
      intro i e h
      simp only [tabMA, List.mem_cons] at h
      rcases h with rfl | h
      · exact ⟨.d _, .d _⟩
      · exact ih _ e h
  exact fun e he => key l 0 e he
theorem lowMap_led {n : Nat} (g : List zfS) : LowO n (.map (ledM g)) := by
  intro e he
  simp only [ledM, List.mem_map] at he
  obtain ⟨s, _, rfl⟩ := he
  exact ⟨.agg _ (by simp [zlt]), .d _⟩
theorem lowBox {n t m : Nat} {es : List (List D)} (ht : t < n) (hm : m < n) : LowO n (.box [.own t es, .map m]) := by
  intro c hc
  simp only [List.mem_cons, List.not_mem_nil, or_false] at hc
  rcases hc with rfl | rfl
  · exact .own _ _ ht
  · exact .map _ hm
theorem zgW.lows {σ : List zb} {id m t : Nat} {l : List (List UInt8)} (h : zgW σ id m t l) (hl : zfV σ.length σ) (l' : List (List UInt8)) : zfV σ.length (putTab σ id m t l') :=
  ((hl.setO (show LowO _ (.tok 1 l'.length) from trivial)).setO (lowBox (zh h.tok) (zh h.map))).setO (lowMap_str l')
theorem zha.lows {σ : List zb} {id m t : Nat} {g : List zfS} (h : zha σ id m t g) (hl : zfV σ.length σ) (g' : List zfS) : zfV σ.length (putLed σ id m t g') :=
  ((hl.setO (lowMap_led g')).setO (show LowO _ (.tok 2 g'.length) from trivial)).setO (lowBox (zh h.tok) (zh h.map))



end Go.Proofs.Ytaocmalhjfakdaa

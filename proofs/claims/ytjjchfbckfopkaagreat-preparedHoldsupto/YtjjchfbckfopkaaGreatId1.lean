/- Contracts: tables of byte strings and ledgers of signatures, as the program zob them. -/
import Derived.Test.YtjjchfbckfopkaaGreatCl1
import Derived.Test.YtjjchfbckfopkaaGreatSpTab
set_option linter.all false
set_option maxRecDepth 100000
set_option linter.unusedSimpArgs false
set_option linter.unusedVariables false
namespace Go.Proofs.YtjjchfbckfopkaaGreat
open Go.AW

structure zde (σ : List zb) (id m t : Nat) (l : List (List UInt8)) : Prop where
  box : σ[id]? = some (.box [.own t (zmb l), .map m])
  map : σ[m]? = some (.map (tabM l))
  tok : σ[t]? = some (.tok 1 l.length)
structure zdg (σ : List zb) (id m t : Nat) (g : List zP) : Prop where
  box : σ[id]? = some (.box [.own t (zke g), .map m])
  map : σ[m]? = some (.map (znV g))
  tok : σ[t]? = some (.tok 2 g.length)
def putTab (σ : List zb) (id m t : Nat) (l : List (List UInt8)) : List zb := ((σ.set t (.tok 1 l.length)).set id (.box [.own t (zmb l), .map m])).set m (.map (tabM l))
def putLed (σ : List zb) (id m t : Nat) (g : List zP) : List zb := ((σ.set m (.map (znV g))).set t (.tok 2 g.length)).set id (.box [.own t (zke g), .map m])
abbrev tabO (n : Nat) (l : List (List UInt8)) : List zb := [.map (tabM l), .box [.own (n + 2) (zmb l), .map n], .tok 1 l.length]
abbrev ledO (n : Nat) (g : List zP) : List zb := [.map (znV g), .box [.own (n + 2) (zke g), .map n], .tok 2 g.length]
theorem zde.ne {σ : List zb} {id m t : Nat} {l : List (List UInt8)} (h : zde σ id m t l) : id ≠ m ∧ id ≠ t ∧ m ≠ t := by
  refine ⟨fun e => ?_, fun e => ?_, fun e => ?_⟩ <;> subst e
  · have := h.box; rw [h.map] at this; cases this
  · have := h.box; rw [h.tok] at this; cases this
  · have := h.map; rw [h.tok] at this; cases this
theorem zdg.ne {σ : List zb} {id m t : Nat} {g : List zP} (h : zdg σ id m t g) : id ≠ m ∧ id ≠ t ∧ m ≠ t := by
  refine ⟨fun e => ?_, fun e => ?_, fun e => ?_⟩ <;> subst e
  · have := h.box; rw [h.map] at this; cases this
  · have := h.box; rw [h.tok] at this; cases this
  · have := h.map; rw [h.tok] at this; cases this
theorem zde.self {σ : List zb} {id m t : Nat} {l : List (List UInt8)} (h : zde σ id m t l) : putTab σ id m t l = σ := by
  unfold putTab
  rw [zbN h.tok, zbN h.box, zbN h.map]
theorem zdg.self {σ : List zb} {id m t : Nat} {g : List zP} (h : zdg σ id m t g) : putLed σ id m t g = σ := by
  unfold putLed
  rw [zbN h.map, zbN h.tok, zbN h.box]
theorem zde.app {σ : List zb} {id m t : Nat} {l : List (List UInt8)} (h : zde σ id m t l) (τ : List zb) : zde (σ ++ τ) id m t l := ⟨ze h.box, ze h.map, ze h.tok⟩
theorem zdg.app {σ : List zb} {id m t : Nat} {g : List zP} (h : zdg σ id m t g) (τ : List zb) : zdg (σ ++ τ) id m t g := ⟨ze h.box, ze h.map, ze h.tok⟩
theorem tabAt_new (σ : List zb) (l : List (List UInt8)) (τ : List zb) : zde (σ ++ (tabO σ.length l ++ τ)) (σ.length + 1) σ.length (σ.length + 2) l :=
  ⟨by rw [zi]; rfl, by rw [zk]; rfl, by rw [zi]; rfl⟩
theorem ledAt_new (σ : List zb) (g : List zP) (τ : List zb) : zdg (σ ++ (ledO σ.length g ++ τ)) (σ.length + 1) σ.length (σ.length + 2) g :=
  ⟨by rw [zi]; rfl, by rw [zk]; rfl, by rw [zi]; rfl⟩
theorem putTab_new (σ : List zb) (l l' : List (List UInt8)) (τ : List zb) : putTab (σ ++ (tabO σ.length l ++ τ)) (σ.length + 1) σ.length (σ.length + 2) l' = σ ++ (tabO σ.length l' ++ τ) := by
  unfold putTab
  rw [zu, zu, zy]; rfl
theorem putLed_new (σ : List zb) (g g' : List zP) (τ : List zb) : putLed (σ ++ (ledO σ.length g ++ τ)) (σ.length + 1) σ.length (σ.length + 2) g' = σ ++ (ledO σ.length g' ++ τ) := by
  unfold putLed
  rw [zy, zu, zu]; rfl
theorem putTab_len (σ : List zb) (id m t : Nat) (l : List (List UInt8)) : (putTab σ id m t l).length = σ.length := by simp [putTab]
theorem putLed_len (σ : List zb) (id m t : Nat) (g : List zP) : (putLed σ id m t g).length = σ.length := by simp [putLed]
theorem zkY {n : Nat} (l : List (List UInt8)) : zql n (.map (tabM l)) := by
  have key : ∀ (l : List (List UInt8)) (i : Nat), ∀ e ∈ znW l i, Low n e.1 ∧ Low n e.2 := by
    intro l
    induction l with
    | nil => intro i e h; cases h
    | cons x r ih =>
      intro i e h
      simp only [znW, List.mem_cons] at h
      rcases h with rfl | h
      · exact ⟨.d _, .d _⟩
      · exact ih _ e h
  exact fun e he => key l 0 e he
theorem zkZ {n : Nat} (g : List zP) : zql n (.map (znV g)) := by
  intro e he
  simp only [znV, List.mem_map] at he
  obtain ⟨s, _, rfl⟩ := he
  exact ⟨.agg _ (by simp [zgi]), .d _⟩
theorem zoF {n t m : Nat} {es : List (List D)} (ht : t < n) (hm : m < n) : zql n (.box [.own t es, .map m]) := by
  intro c hc
  simp only [List.mem_cons, List.not_mem_nil, or_false] at hc
  rcases hc with rfl | rfl
  · exact .own _ _ ht
  · exact .map _ hm
theorem zde.lows {σ : List zb} {id m t : Nat} {l : List (List UInt8)} (h : zde σ id m t l) (hl : zem σ.length σ) (l' : List (List UInt8)) : zem σ.length (putTab σ id m t l') :=
  ((hl.setO (show zql _ (.tok 1 l'.length) from trivial)).setO (zoF (zaP h.tok) (zaP h.map))).setO (zkY l')
theorem zdg.lows {σ : List zb} {id m t : Nat} {g : List zP} (h : zdg σ id m t g) (hl : zem σ.length σ) (g' : List zP) : zem σ.length (putLed σ id m t g') :=
  ((hl.setO (zkZ g')).setO (show zql _ (.tok 2 g'.length) from trivial)).setO (zoF (zaP h.tok) (zaP h.map))
theorem low_tabO (n : Nat) (l : List (List UInt8)) : ∀ x ∈ tabO n l, zql (n + (tabO n l).length) x := by
  intro x hx
  simp only [List.mem_cons, List.not_mem_nil, or_false] at hx
  rcases hx with rfl | rfl | rfl
  · exact zkY l
  · exact zoF (by simp) (by simp)
  · trivial
theorem low_ledO (n : Nat) (g : List zP) : ∀ x ∈ ledO n g, zql (n + (ledO n g).length) x := by
  intro x hx
  simp only [List.mem_cons, List.not_mem_nil, or_false] at hx
  rcases hx with rfl | rfl | rfl
  · exact zkZ g
  · exact zoF (by simp) (by simp)
  · trivial
end Go.Proofs.YtjjchfbckfopkaaGreat

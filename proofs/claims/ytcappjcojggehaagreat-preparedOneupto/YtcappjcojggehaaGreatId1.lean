/- Contracts: tables of byte strings and ledgers of signatures, as the program keeps them. -/
import Derived.Test.YtcappjcojggehaaGreatCl1
import Derived.Test.YtcappjcojggehaaGreatSpTab
set_option linter.all false
set_option maxRecDepth 100000
set_option linter.unusedSimpArgs false
set_option linter.unusedVariables false
namespace Go.Proofs.YtcappjcojggehaaGreat
open Go.AW

structure zcT (σ : List zb) (id m t : Nat) (l : List (List UInt8)) : Prop where
  box : σ[id]? = some (.box [.own t (zkQ l), .map m])
  map : σ[m]? = some (.map (tabM l))
  tok : σ[t]? = some (.tok 1 l.length)
structure zcU (σ : List zb) (id m t : Nat) (g : List zR) : Prop where
  box : σ[id]? = some (.box [.own t (ziZ g), .map m])
  map : σ[m]? = some (.map (zmz g))
  tok : σ[t]? = some (.tok 2 g.length)
def putTab (σ : List zb) (id m t : Nat) (l : List (List UInt8)) : List zb := ((σ.set t (.tok 1 l.length)).set id (.box [.own t (zkQ l), .map m])).set m (.map (tabM l))
def putLed (σ : List zb) (id m t : Nat) (g : List zR) : List zb := ((σ.set m (.map (zmz g))).set t (.tok 2 g.length)).set id (.box [.own t (ziZ g), .map m])
abbrev tabO (n : Nat) (l : List (List UInt8)) : List zb := [.map (tabM l), .box [.own (n + 2) (zkQ l), .map n], .tok 1 l.length]
abbrev ledO (n : Nat) (g : List zR) : List zb := [.map (zmz g), .box [.own (n + 2) (ziZ g), .map n], .tok 2 g.length]
theorem zcT.ne {σ : List zb} {id m t : Nat} {l : List (List UInt8)} (h : zcT σ id m t l) : id ≠ m ∧ id ≠ t ∧ m ≠ t := by
  refine ⟨fun e => ?_, fun e => ?_, fun e => ?_⟩ <;> subst e
  · have := h.box; rw [h.map] at this; cases this
  · have := h.box; rw [h.tok] at this; cases this
  · have := h.map; rw [h.tok] at this; cases this
theorem zcU.ne {σ : List zb} {id m t : Nat} {g : List zR} (h : zcU σ id m t g) : id ≠ m ∧ id ≠ t ∧ m ≠ t := by
  refine ⟨fun e => ?_, fun e => ?_, fun e => ?_⟩ <;> subst e
  · have := h.box; rw [h.map] at this; cases this
  · have := h.box; rw [h.tok] at this; cases this
  · have := h.map; rw [h.tok] at this; cases this
theorem zcT.self {σ : List zb} {id m t : Nat} {l : List (List UInt8)} (h : zcT σ id m t l) : putTab σ id m t l = σ := by
  unfold putTab
  rw [zbF h.tok, zbF h.box, zbF h.map]
theorem zcU.self {σ : List zb} {id m t : Nat} {g : List zR} (h : zcU σ id m t g) : putLed σ id m t g = σ := by
  unfold putLed
  rw [zbF h.map, zbF h.tok, zbF h.box]
theorem zcT.app {σ : List zb} {id m t : Nat} {l : List (List UInt8)} (h : zcT σ id m t l) (τ : List zb) : zcT (σ ++ τ) id m t l := ⟨zaa h.box, zaa h.map, zaa h.tok⟩
theorem zcU.app {σ : List zb} {id m t : Nat} {g : List zR} (h : zcU σ id m t g) (τ : List zb) : zcU (σ ++ τ) id m t g := ⟨zaa h.box, zaa h.map, zaa h.tok⟩
theorem tabAt_new (σ : List zb) (l : List (List UInt8)) (τ : List zb) : zcT (σ ++ (tabO σ.length l ++ τ)) (σ.length + 1) σ.length (σ.length + 2) l :=
  ⟨by rw [zh]; rfl, by rw [zn]; rfl, by rw [zh]; rfl⟩
theorem ledAt_new (σ : List zb) (g : List zR) (τ : List zb) : zcU (σ ++ (ledO σ.length g ++ τ)) (σ.length + 1) σ.length (σ.length + 2) g :=
  ⟨by rw [zh]; rfl, by rw [zn]; rfl, by rw [zh]; rfl⟩
theorem putTab_new (σ : List zb) (l l' : List (List UInt8)) (τ : List zb) : putTab (σ ++ (tabO σ.length l ++ τ)) (σ.length + 1) σ.length (σ.length + 2) l' = σ ++ (tabO σ.length l' ++ τ) := by
  unfold putTab
  rw [zq, zq, zt]; rfl
theorem putLed_new (σ : List zb) (g g' : List zR) (τ : List zb) : putLed (σ ++ (ledO σ.length g ++ τ)) (σ.length + 1) σ.length (σ.length + 2) g' = σ ++ (ledO σ.length g' ++ τ) := by
  unfold putLed
  rw [zt, zq, zq]; rfl
theorem putTab_len (σ : List zb) (id m t : Nat) (l : List (List UInt8)) : (putTab σ id m t l).length = σ.length := by simp [putTab]
theorem putLed_len (σ : List zb) (id m t : Nat) (g : List zR) : (putLed σ id m t g).length = σ.length := by simp [putLed]
theorem zjY {n : Nat} (l : List (List UInt8)) : zoF n (.map (tabM l)) := by
  have key : ∀ (l : List (List UInt8)) (i : Nat), ∀ e ∈ zmA l i, Low n e.1 ∧ Low n e.2 := by
    intro l
    induction l with
    | nil => intro i e h; cases h
    | cons x r ih =>
      intro i e h
      simp only [zmA, List.mem_cons] at h
      rcases h with rfl | h
      · exact ⟨.d _, .d _⟩
      · exact ih _ e h
  exact fun e he => key l 0 e he
theorem zjZ {n : Nat} (g : List zR) : zoF n (.map (zmz g)) := by
  intro e he
  simp only [zmz, List.mem_map] at he
  obtain ⟨s, _, rfl⟩ := he
  exact ⟨.agg _ (by simp [zhi]), .d _⟩
theorem znc {n t m : Nat} {es : List (List D)} (ht : t < n) (hm : m < n) : zoF n (.box [.own t es, .map m]) := by
  intro c hc
  simp only [List.mem_cons, List.not_mem_nil, or_false] at hc
  rcases hc with rfl | rfl
  · exact .own _ _ ht
  · exact .map _ hm
theorem zcT.lows {σ : List zb} {id m t : Nat} {l : List (List UInt8)} (h : zcT σ id m t l) (hl : zfy σ.length σ) (l' : List (List UInt8)) : zfy σ.length (putTab σ id m t l') :=
  ((hl.setO (show zoF _ (.tok 1 l'.length) from trivial)).setO (znc (zhr h.tok) (zhr h.map))).setO (zjY l')
theorem zcU.lows {σ : List zb} {id m t : Nat} {g : List zR} (h : zcU σ id m t g) (hl : zfy σ.length σ) (g' : List zR) : zfy σ.length (putLed σ id m t g') :=
  ((hl.setO (zjZ g')).setO (show zoF _ (.tok 2 g'.length) from trivial)).setO (znc (zhr h.tok) (zhr h.map))
theorem low_tabO (n : Nat) (l : List (List UInt8)) : ∀ x ∈ tabO n l, zoF (n + (tabO n l).length) x := by
  intro x hx
  simp only [List.mem_cons, List.not_mem_nil, or_false] at hx
  rcases hx with rfl | rfl | rfl
  · exact zjY l
  · exact znc (by simp) (by simp)
  · trivial
theorem low_ledO (n : Nat) (g : List zR) : ∀ x ∈ ledO n g, zoF (n + (ledO n g).length) x := by
  intro x hx
  simp only [List.mem_cons, List.not_mem_nil, or_false] at hx
  rcases hx with rfl | rfl | rfl
  · exact zjZ g
  · exact znc (by simp) (by simp)
  · trivial
end Go.Proofs.YtcappjcojggehaaGreat

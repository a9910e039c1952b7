/- Contracts: tables of byte strings and ledgers of signatures, as the program zmO them. -/
import Derived.Test.YtjjchfbckfopkaaGreatCl1
import Derived.Test.YtjjchfbckfopkaaGreatSpTab
set_option linter.all false
set_option maxRecDepth 100000
set_option linter.unusedSimpArgs false
set_option linter.unusedVariables false
namespace Go.Proofs.YtjjchfbckfopkaaGreat
open Go.AW

structure zcF (σ : List zb) (id m t : Nat) (l : List (List UInt8)) : Prop where
  box : σ[id]? = some (.box [.own t (zkV l), .map m])
  map : σ[m]? = some (.map (tabM l))
  tok : σ[t]? = some (.tok 1 l.length)
structure zcS (σ : List zb) (id m t : Nat) (g : List zO) : Prop where
  box : σ[id]? = some (.box [.own t (ziS g), .map m])
  map : σ[m]? = some (.map (zmI g))
  tok : σ[t]? = some (.tok 2 g.length)
def putTab (σ : List zb) (id m t : Nat) (l : List (List UInt8)) : List zb := ((σ.set t (.tok 1 l.length)).set id (.box [.own t (zkV l), .map m])).set m (.map (tabM l))
def putLed (σ : List zb) (id m t : Nat) (g : List zO) : List zb := ((σ.set m (.map (zmI g))).set t (.tok 2 g.length)).set id (.box [.own t (ziS g), .map m])
abbrev tabO (n : Nat) (l : List (List UInt8)) : List zb := [.map (tabM l), .box [.own (n + 2) (zkV l), .map n], .tok 1 l.length]
abbrev ledO (n : Nat) (g : List zO) : List zb := [.map (zmI g), .box [.own (n + 2) (ziS g), .map n], .tok 2 g.length]
theorem zcF.ne {σ : List zb} {id m t : Nat} {l : List (List UInt8)} (h : zcF σ id m t l) : id ≠ m ∧ id ≠ t ∧ m ≠ t := by
  refine ⟨fun e => ?_, fun e => ?_, fun e => ?_⟩ <;> subst e
  · have := h.box; rw [h.map] at this; cases this
  · have := h.box; rw [h.tok] at this; cases this
  · have := h.map; rw [h.tok] at this; cases this
theorem zcS.ne {σ : List zb} {id m t : Nat} {g : List zO} (h : zcS σ id m t g) : id ≠ m ∧ id ≠ t ∧ m ≠ t := by
  refine ⟨fun e => ?_, fun e => ?_, fun e => ?_⟩ <;> subst e
  · have := h.box; rw [h.map] at this; cases this
  · have := h.box; rw [h.tok] at this; cases this
  · have := h.map; rw [h.tok] at this; cases this
theorem zcF.self {σ : List zb} {id m t : Nat} {l : List (List UInt8)} (h : zcF σ id m t l) : putTab σ id m t l = σ := by
  unfold putTab
  rw [zbH h.tok, zbH h.box, zbH h.map]
theorem zcS.self {σ : List zb} {id m t : Nat} {g : List zO} (h : zcS σ id m t g) : putLed σ id m t g = σ := by
  unfold putLed
  rw [zbH h.map, zbH h.tok, zbH h.box]
theorem zcF.app {σ : List zb} {id m t : Nat} {l : List (List UInt8)} (h : zcF σ id m t l) (τ : List zb) : zcF (σ ++ τ) id m t l := ⟨zk h.box, zk h.map, zk h.tok⟩
theorem zcS.app {σ : List zb} {id m t : Nat} {g : List zO} (h : zcS σ id m t g) (τ : List zb) : zcS (σ ++ τ) id m t g := ⟨zk h.box, zk h.map, zk h.tok⟩
theorem tabAt_new (σ : List zb) (l : List (List UInt8)) (τ : List zb) : zcF (σ ++ (tabO σ.length l ++ τ)) (σ.length + 1) σ.length (σ.length + 2) l :=
  ⟨by rw [zg]; rfl, by rw [zp]; rfl, by rw [zg]; rfl⟩
theorem ledAt_new (σ : List zb) (g : List zO) (τ : List zb) : zcS (σ ++ (ledO σ.length g ++ τ)) (σ.length + 1) σ.length (σ.length + 2) g :=
  ⟨by rw [zg]; rfl, by rw [zp]; rfl, by rw [zg]; rfl⟩
theorem putTab_new (σ : List zb) (l l' : List (List UInt8)) (τ : List zb) : putTab (σ ++ (tabO σ.length l ++ τ)) (σ.length + 1) σ.length (σ.length + 2) l' = σ ++ (tabO σ.length l' ++ τ) := by
  unfold putTab
  rw [zu, zu, zC]; rfl
theorem putLed_new (σ : List zb) (g g' : List zO) (τ : List zb) : putLed (σ ++ (ledO σ.length g ++ τ)) (σ.length + 1) σ.length (σ.length + 2) g' = σ ++ (ledO σ.length g' ++ τ) := by
  unfold putLed
  rw [zC, zu, zu]; rfl
theorem putTab_len (σ : List zb) (id m t : Nat) (l : List (List UInt8)) : (putTab σ id m t l).length = σ.length := by simp [putTab]
theorem putLed_len (σ : List zb) (id m t : Nat) (g : List zO) : (putLed σ id m t g).length = σ.length := by simp [putLed]
theorem zjO {n : Nat} (l : List (List UInt8)) : zoO n (.map (tabM l)) := by
  have key : ∀ (l : List (List UInt8)) (i : Nat), ∀ e ∈ zmJ l i, Low n e.1 ∧ Low n e.2 := by
    intro l
    induction l with
    | nil => intro i e h; cases h
    | cons x r ih =>
      intro i e h
      simp only [zmJ, List.mem_cons] at h
      rcases h with rfl | h
      · exact ⟨.d _, .d _⟩
      · exact ih _ e h
  exact fun e he => key l 0 e he
theorem zjP {n : Nat} (g : List zO) : zoO n (.map (zmI g)) := by
  intro e he
  simp only [zmI, List.mem_map] at he
  obtain ⟨s, _, rfl⟩ := he
  exact ⟨.agg _ (by simp [zfj]), .d _⟩
theorem znp {n t m : Nat} {es : List (List D)} (ht : t < n) (hm : m < n) : zoO n (.box [.own t es, .map m]) := by
  intro c hc
  simp only [List.mem_cons, List.not_mem_nil, or_false] at hc
  rcases hc with rfl | rfl
  · exact .own _ _ ht
  · exact .map _ hm
theorem zcF.lows {σ : List zb} {id m t : Nat} {l : List (List UInt8)} (h : zcF σ id m t l) (hl : zdW σ.length σ) (l' : List (List UInt8)) : zdW σ.length (putTab σ id m t l') :=
  ((hl.setO (show zoO _ (.tok 1 l'.length) from trivial)).setO (znp (zdt h.tok) (zdt h.map))).setO (zjO l')
theorem zcS.lows {σ : List zb} {id m t : Nat} {g : List zO} (h : zcS σ id m t g) (hl : zdW σ.length σ) (g' : List zO) : zdW σ.length (putLed σ id m t g') :=
  ((hl.setO (zjP g')).setO (show zoO _ (.tok 2 g'.length) from trivial)).setO (znp (zdt h.tok) (zdt h.map))
theorem low_tabO (n : Nat) (l : List (List UInt8)) : ∀ x ∈ tabO n l, zoO (n + (tabO n l).length) x := by
  intro x hx
  simp only [List.mem_cons, List.not_mem_nil, or_false] at hx
  rcases hx with rfl | rfl | rfl
  · exact zjO l
  · exact znp (by simp) (by simp)
  · trivial
theorem low_ledO (n : Nat) (g : List zO) : ∀ x ∈ ledO n g, zoO (n + (ledO n g).length) x := by
  intro x hx
  simp only [List.mem_cons, List.not_mem_nil, or_false] at hx
  rcases hx with rfl | rfl | rfl
  · exact zjP g
  · exact znp (by simp) (by simp)
  · trivial
end Go.Proofs.YtjjchfbckfopkaaGreat

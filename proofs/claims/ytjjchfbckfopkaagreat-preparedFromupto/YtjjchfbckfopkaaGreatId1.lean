/- Contracts: tables of byte strings and ledgers of signatures, as the program znL them. -/
import Derived.Test.YtjjchfbckfopkaaGreatCl1
import Derived.Test.YtjjchfbckfopkaaGreatSpTab
set_option linter.all false
set_option maxRecDepth 100000
set_option linter.unusedSimpArgs false
set_option linter.unusedVariables false
namespace Go.Proofs.YtjjchfbckfopkaaGreat
open Go.AW

structure zcW (σ : List zb) (id m t : Nat) (l : List (List UInt8)) : Prop where
  box : σ[id]? = some (.box [.own t (zly l), .map m])
  map : σ[m]? = some (.map (tabM l))
  tok : σ[t]? = some (.tok 1 l.length)
structure zcY (σ : List zb) (id m t : Nat) (g : List zM) : Prop where
  box : σ[id]? = some (.box [.own t (zjD g), .map m])
  map : σ[m]? = some (.map (znF g))
  tok : σ[t]? = some (.tok 2 g.length)
def putTab (σ : List zb) (id m t : Nat) (l : List (List UInt8)) : List zb := ((σ.set t (.tok 1 l.length)).set id (.box [.own t (zly l), .map m])).set m (.map (tabM l))
def putLed (σ : List zb) (id m t : Nat) (g : List zM) : List zb := ((σ.set m (.map (znF g))).set t (.tok 2 g.length)).set id (.box [.own t (zjD g), .map m])
abbrev tabO (n : Nat) (l : List (List UInt8)) : List zb := [.map (tabM l), .box [.own (n + 2) (zly l), .map n], .tok 1 l.length]
abbrev ledO (n : Nat) (g : List zM) : List zb := [.map (znF g), .box [.own (n + 2) (zjD g), .map n], .tok 2 g.length]
theorem zcW.ne {σ : List zb} {id m t : Nat} {l : List (List UInt8)} (h : zcW σ id m t l) : id ≠ m ∧ id ≠ t ∧ m ≠ t := by
  refine ⟨fun e => ?_, fun e => ?_, fun e => ?_⟩ <;> subst e
  · have := h.box; rw [h.map] at this; cases this
  · have := h.box; rw [h.tok] at this; cases this
  · have := h.map; rw [h.tok] at this; cases this
theorem zcY.ne {σ : List zb} {id m t : Nat} {g : List zM} (h : zcY σ id m t g) : id ≠ m ∧ id ≠ t ∧ m ≠ t := by
  refine ⟨fun e => ?_, fun e => ?_, fun e => ?_⟩ <;> subst e
  · have := h.box; rw [h.map] at this; cases this
  · have := h.box; rw [h.tok] at this; cases this
  · have := h.map; rw [h.tok] at this; cases this
theorem zcW.self {σ : List zb} {id m t : Nat} {l : List (List UInt8)} (h : zcW σ id m t l) : putTab σ id m t l = σ := by
  unfold putTab
  rw [zbK h.tok, zbK h.box, zbK h.map]
theorem zcY.self {σ : List zb} {id m t : Nat} {g : List zM} (h : zcY σ id m t g) : putLed σ id m t g = σ := by
  unfold putLed
  rw [zbK h.map, zbK h.tok, zbK h.box]
theorem zcW.app {σ : List zb} {id m t : Nat} {l : List (List UInt8)} (h : zcW σ id m t l) (τ : List zb) : zcW (σ ++ τ) id m t l := ⟨zk h.box, zk h.map, zk h.tok⟩
theorem zcY.app {σ : List zb} {id m t : Nat} {g : List zM} (h : zcY σ id m t g) (τ : List zb) : zcY (σ ++ τ) id m t g := ⟨zk h.box, zk h.map, zk h.tok⟩
theorem tabAt_new (σ : List zb) (l : List (List UInt8)) (τ : List zb) : zcW (σ ++ (tabO σ.length l ++ τ)) (σ.length + 1) σ.length (σ.length + 2) l :=
  ⟨by rw [zh]; rfl, by rw [zm]; rfl, by rw [zh]; rfl⟩
theorem ledAt_new (σ : List zb) (g : List zM) (τ : List zb) : zcY (σ ++ (ledO σ.length g ++ τ)) (σ.length + 1) σ.length (σ.length + 2) g :=
  ⟨by rw [zh]; rfl, by rw [zm]; rfl, by rw [zh]; rfl⟩
theorem putTab_new (σ : List zb) (l l' : List (List UInt8)) (τ : List zb) : putTab (σ ++ (tabO σ.length l ++ τ)) (σ.length + 1) σ.length (σ.length + 2) l' = σ ++ (tabO σ.length l' ++ τ) := by
  unfold putTab
  rw [zw, zw, zA]; rfl
theorem putLed_new (σ : List zb) (g g' : List zM) (τ : List zb) : putLed (σ ++ (ledO σ.length g ++ τ)) (σ.length + 1) σ.length (σ.length + 2) g' = σ ++ (ledO σ.length g' ++ τ) := by
  unfold putLed
  rw [zA, zw, zw]; rfl
theorem putTab_len (σ : List zb) (id m t : Nat) (l : List (List UInt8)) : (putTab σ id m t l).length = σ.length := by simp [putTab]
theorem putLed_len (σ : List zb) (id m t : Nat) (g : List zM) : (putLed σ id m t g).length = σ.length := by simp [putLed]
theorem zky {n : Nat} (l : List (List UInt8)) : zpY n (.map (tabM l)) := by
  have key : ∀ (l : List (List UInt8)) (i : Nat), ∀ e ∈ znG l i, Low n e.1 ∧ Low n e.2 := by
    intro l
    induction l with
    | nil => intro i e h; cases h
    | cons x r ih =>
      intro i e h
      simp only [znG, List.mem_cons] at h
      rcases h with rfl | h
      · exact ⟨.d _, .d _⟩
      · exact ih _ e h
  exact fun e he => key l 0 e he
theorem zkz {n : Nat} (g : List zM) : zpY n (.map (znF g)) := by
  intro e he
  simp only [znF, List.mem_map] at he
  obtain ⟨s, _, rfl⟩ := he
  exact ⟨.agg _ (by simp [zfT]), .d _⟩
theorem zoo {n t m : Nat} {es : List (List D)} (ht : t < n) (hm : m < n) : zpY n (.box [.own t es, .map m]) := by
  intro c hc
  simp only [List.mem_cons, List.not_mem_nil, or_false] at hc
  rcases hc with rfl | rfl
  · exact .own _ _ ht
  · exact .map _ hm
theorem zcW.lows {σ : List zb} {id m t : Nat} {l : List (List UInt8)} (h : zcW σ id m t l) (hl : zdP σ.length σ) (l' : List (List UInt8)) : zdP σ.length (putTab σ id m t l') :=
  ((hl.setO (show zpY _ (.tok 1 l'.length) from trivial)).setO (zoo (zco h.tok) (zco h.map))).setO (zky l')
theorem zcY.lows {σ : List zb} {id m t : Nat} {g : List zM} (h : zcY σ id m t g) (hl : zdP σ.length σ) (g' : List zM) : zdP σ.length (putLed σ id m t g') :=
  ((hl.setO (zkz g')).setO (show zpY _ (.tok 2 g'.length) from trivial)).setO (zoo (zco h.tok) (zco h.map))
theorem low_tabO (n : Nat) (l : List (List UInt8)) : ∀ x ∈ tabO n l, zpY (n + (tabO n l).length) x := by
  intro x hx
  simp only [List.mem_cons, List.not_mem_nil, or_false] at hx
  rcases hx with rfl | rfl | rfl
  · exact zky l
  · exact zoo (by simp) (by simp)
  · trivial
theorem low_ledO (n : Nat) (g : List zM) : ∀ x ∈ ledO n g, zpY (n + (ledO n g).length) x := by
  intro x hx
  simp only [List.mem_cons, List.not_mem_nil, or_false] at hx
  rcases hx with rfl | rfl | rfl
  · exact zkz g
  · exact zoo (by simp) (by simp)
  · trivial
end Go.Proofs.YtjjchfbckfopkaaGreat

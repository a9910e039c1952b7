/- Contracts: tables of byte strings and ledgers of signatures, as the program keeps them. -/
import Derived.Test.YtcappjcojggehaaCl1
import Derived.Test.YtcappjcojggehaaSpTab
set_option linter.all false
set_option maxRecDepth 100000
set_option linter.unusedSimpArgs false
set_option linter.unusedVariables false
namespace Go.Proofs.Ytcappjcojggehaa
open Go.AW

structure TabAt (σ : List AObj) (id m t : Nat) (l : List (List UInt8)) : Prop where
  box : σ[id]? = some (.box [.own t (tabE l), .map m])
  map : σ[m]? = some (.map (tabM l))
  tok : σ[t]? = some (.tok 1 l.length)
structure LedAt (σ : List AObj) (id m t : Nat) (g : List TSign) : Prop where
  box : σ[id]? = some (.box [.own t (ledE g), .map m])
  map : σ[m]? = some (.map (ledM g))
  tok : σ[t]? = some (.tok 2 g.length)
def putTab (σ : List AObj) (id m t : Nat) (l : List (List UInt8)) : List AObj := ((σ.set t (.tok 1 l.length)).set id (.box [.own t (tabE l), .map m])).set m (.map (tabM l))
def putLed (σ : List AObj) (id m t : Nat) (g : List TSign) : List AObj := ((σ.set m (.map (ledM g))).set t (.tok 2 g.length)).set id (.box [.own t (ledE g), .map m])
abbrev tabO (n : Nat) (l : List (List UInt8)) : List AObj := [.map (tabM l), .box [.own (n + 2) (tabE l), .map n], .tok 1 l.length]
abbrev ledO (n : Nat) (g : List TSign) : List AObj := [.map (ledM g), .box [.own (n + 2) (ledE g), .map n], .tok 2 g.length]
theorem TabAt.ne {σ : List AObj} {id m t : Nat} {l : List (List UInt8)} (h : TabAt σ id m t l) : id ≠ m ∧ id ≠ t ∧ m ≠ t := by
  refine ⟨fun e => ?_, fun e => ?_, fun e => ?_⟩ <;> subst e
  · have := h.box; rw [h.map] at this; cases this
  · have := h.box; rw [h.tok] at this; cases this
  · have := h.map; rw [h.tok] at this; cases this
theorem LedAt.ne {σ : List AObj} {id m t : Nat} {g : List TSign} (h : LedAt σ id m t g) : id ≠ m ∧ id ≠ t ∧ m ≠ t := by
  refine ⟨fun e => ?_, fun e => ?_, fun e => ?_⟩ <;> subst e
  · have := h.box; rw [h.map] at this; cases this
  · have := h.box; rw [h.tok] at this; cases this
  · have := h.map; rw [h.tok] at this; cases this
theorem TabAt.self {σ : List AObj} {id m t : Nat} {l : List (List UInt8)} (h : TabAt σ id m t l) : putTab σ id m t l = σ := by
  unfold putTab
  rw [zaU h.tok, zaU h.box, zaU h.map]
theorem LedAt.self {σ : List AObj} {id m t : Nat} {g : List TSign} (h : LedAt σ id m t g) : putLed σ id m t g = σ := by
  unfold putLed
  rw [zaU h.map, zaU h.tok, zaU h.box]
theorem TabAt.app {σ : List AObj} {id m t : Nat} {l : List (List UInt8)} (h : TabAt σ id m t l) (τ : List AObj) : TabAt (σ ++ τ) id m t l := ⟨zO h.box, zO h.map, zO h.tok⟩
theorem LedAt.app {σ : List AObj} {id m t : Nat} {g : List TSign} (h : LedAt σ id m t g) (τ : List AObj) : LedAt (σ ++ τ) id m t g := ⟨zO h.box, zO h.map, zO h.tok⟩
theorem tabAt_new (σ : List AObj) (l : List (List UInt8)) (τ : List AObj) : TabAt (σ ++ (tabO σ.length l ++ τ)) (σ.length + 1) σ.length (σ.length + 2) l :=
  ⟨by rw [zm]; rfl, by rw [zq]; rfl, by rw [zm]; rfl⟩
theorem ledAt_new (σ : List AObj) (g : List TSign) (τ : List AObj) : LedAt (σ ++ (ledO σ.length g ++ τ)) (σ.length + 1) σ.length (σ.length + 2) g :=
  ⟨by rw [zm]; rfl, by rw [zq]; rfl, by rw [zm]; rfl⟩
theorem putTab_new (σ : List AObj) (l l' : List (List UInt8)) (τ : List AObj) : putTab (σ ++ (tabO σ.length l ++ τ)) (σ.length + 1) σ.length (σ.length + 2) l' = σ ++ (tabO σ.length l' ++ τ) := by
  unfold putTab
  rw [zw, zw, zx]; rfl
theorem putLed_new (σ : List AObj) (g g' : List TSign) (τ : List AObj) : putLed (σ ++ (ledO σ.length g ++ τ)) (σ.length + 1) σ.length (σ.length + 2) g' = σ ++ (ledO σ.length g' ++ τ) := by
  unfold putLed
  rw [zx, zw, zw]; rfl
theorem putTab_len (σ : List AObj) (id m t : Nat) (l : List (List UInt8)) : (putTab σ id m t l).length = σ.length := by simp [putTab]
theorem putLed_len (σ : List AObj) (id m t : Nat) (g : List TSign) : (putLed σ id m t g).length = σ.length := by simp [putLed]
theorem ziH {n : Nat} (l : List (List UInt8)) : LowO n (.map (tabM l)) := by
  have key : ∀ (l : List (List UInt8)) (i : Nat), ∀ e ∈ tabMA l i, Low n e.1 ∧ Low n e.2 := by
    intro l
    induction l with
    | nil => intro i e h; cases h
    | cons x r ih =>
      intro i e h
      simp only [tabMA, List.mem_cons] at h
      rcases h with rfl | h
      · exact ⟨.d _, .d _⟩
      · exact ih _ e h
  exact fun e he => key l 0 e he
theorem ziI {n : Nat} (g : List TSign) : LowO n (.map (ledM g)) := by
  intro e he
  simp only [ledM, List.mem_map] at he
  obtain ⟨s, _, rfl⟩ := he
  exact ⟨.agg _ (by simp [Low_d]), .d _⟩
theorem zlV {n t m : Nat} {es : List (List D)} (ht : t < n) (hm : m < n) : LowO n (.box [.own t es, .map m]) := by
  intro c hc
  simp only [List.mem_cons, List.not_mem_nil, or_false] at hc
  rcases hc with rfl | rfl
  · exact .own _ _ ht
  · exact .map _ hm
theorem TabAt.lows {σ : List AObj} {id m t : Nat} {l : List (List UInt8)} (h : TabAt σ id m t l) (hl : Lows σ.length σ) (l' : List (List UInt8)) : Lows σ.length (putTab σ id m t l') :=
  ((hl.setO (show LowO _ (.tok 1 l'.length) from trivial)).setO (zlV (zfH h.tok) (zfH h.map))).setO (ziH l')
theorem LedAt.lows {σ : List AObj} {id m t : Nat} {g : List TSign} (h : LedAt σ id m t g) (hl : Lows σ.length σ) (g' : List TSign) : Lows σ.length (putLed σ id m t g') :=
  ((hl.setO (ziI g')).setO (show LowO _ (.tok 2 g'.length) from trivial)).setO (zlV (zfH h.tok) (zfH h.map))
theorem low_tabO (n : Nat) (l : List (List UInt8)) : ∀ x ∈ tabO n l, LowO (n + (tabO n l).length) x := by
  intro x hx
  simp only [List.mem_cons, List.not_mem_nil, or_false] at hx
  rcases hx with rfl | rfl | rfl
  · exact ziH l
  · exact zlV (by simp) (by simp)
  · trivial
theorem low_ledO (n : Nat) (g : List TSign) : ∀ x ∈ ledO n g, LowO (n + (ledO n g).length) x := by
  intro x hx
  simp only [List.mem_cons, List.not_mem_nil, or_false] at hx
  rcases hx with rfl | rfl | rfl
  · exact ziI g
  · exact zlV (by simp) (by simp)
  · trivial
end Go.Proofs.Ytcappjcojggehaa

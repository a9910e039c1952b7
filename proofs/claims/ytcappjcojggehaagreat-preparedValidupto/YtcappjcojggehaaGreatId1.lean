/- Contracts: tables of byte strings and ledgers of signatures, as the program keeps them. -/
import Derived.Test.YtcappjcojggehaaGreatCl1
import Derived.Test.YtcappjcojggehaaGreatSpTab
set_option linter.all false
set_option maxRecDepth 100000
set_option linter.unusedSimpArgs false
set_option linter.unusedVariables false
namespace Go.Proofs.YtcappjcojggehaaGreat
open Go.AW

structure zcy (σ : List zb) (id m t : Nat) (l : List (List UInt8)) : Prop where
  box : σ[id]? = some (.box [.own t (zjW l), .map m])
  map : σ[m]? = some (.map (tabM l))
  tok : σ[t]? = some (.tok 1 l.length)
structure zcz (σ : List zb) (id m t : Nat) (g : List zR) : Prop where
  box : σ[id]? = some (.box [.own t (ziS g), .map m])
  map : σ[m]? = some (.map (zmO g))
  tok : σ[t]? = some (.tok 2 g.length)
def putTab (σ : List zb) (id m t : Nat) (l : List (List UInt8)) : List zb := ((σ.set t (.tok 1 l.length)).set id (.box [.own t (zjW l), .map m])).set m (.map (tabM l))
def putLed (σ : List zb) (id m t : Nat) (g : List zR) : List zb := ((σ.set m (.map (zmO g))).set t (.tok 2 g.length)).set id (.box [.own t (ziS g), .map m])
abbrev tabO (n : Nat) (l : List (List UInt8)) : List zb := [.map (tabM l), .box [.own (n + 2) (zjW l), .map n], .tok 1 l.length]
abbrev ledO (n : Nat) (g : List zR) : List zb := [.map (zmO g), .box [.own (n + 2) (ziS g), .map n], .tok 2 g.length]
theorem zcy.ne {σ : List zb} {id m t : Nat} {l : List (List UInt8)} (h : zcy σ id m t l) : id ≠ m ∧ id ≠ t ∧ m ≠ t := by
  refine ⟨fun e => ?_, fun e => ?_, fun e => ?_⟩ <;> subst e
  · have := h.box; rw [h.map] at this; cases this
  · have := h.box; rw [h.tok] at this; cases this
  · have := h.map; rw [h.tok] at this; cases this
theorem zcz.ne {σ : List zb} {id m t : Nat} {g : List zR} (h : zcz σ id m t g) : id ≠ m ∧ id ≠ t ∧ m ≠ t := by
  refine ⟨fun e => ?_, fun e => ?_, fun e => ?_⟩ <;> subst e
  · have := h.box; rw [h.map] at this; cases this
  · have := h.box; rw [h.tok] at this; cases this
  · have := h.map; rw [h.tok] at this; cases this
theorem zcy.self {σ : List zb} {id m t : Nat} {l : List (List UInt8)} (h : zcy σ id m t l) : putTab σ id m t l = σ := by
  unfold putTab
  rw [zbE h.tok, zbE h.box, zbE h.map]
theorem zcz.self {σ : List zb} {id m t : Nat} {g : List zR} (h : zcz σ id m t g) : putLed σ id m t g = σ := by
  unfold putLed
  rw [zbE h.map, zbE h.tok, zbE h.box]
theorem zcy.app {σ : List zb} {id m t : Nat} {l : List (List UInt8)} (h : zcy σ id m t l) (τ : List zb) : zcy (σ ++ τ) id m t l := ⟨zE h.box, zE h.map, zE h.tok⟩
theorem zcz.app {σ : List zb} {id m t : Nat} {g : List zR} (h : zcz σ id m t g) (τ : List zb) : zcz (σ ++ τ) id m t g := ⟨zE h.box, zE h.map, zE h.tok⟩
theorem tabAt_new (σ : List zb) (l : List (List UInt8)) (τ : List zb) : zcy (σ ++ (tabO σ.length l ++ τ)) (σ.length + 1) σ.length (σ.length + 2) l :=
  ⟨by rw [zg]; rfl, by rw [zr]; rfl, by rw [zg]; rfl⟩
theorem ledAt_new (σ : List zb) (g : List zR) (τ : List zb) : zcz (σ ++ (ledO σ.length g ++ τ)) (σ.length + 1) σ.length (σ.length + 2) g :=
  ⟨by rw [zg]; rfl, by rw [zr]; rfl, by rw [zg]; rfl⟩
theorem putTab_new (σ : List zb) (l l' : List (List UInt8)) (τ : List zb) : putTab (σ ++ (tabO σ.length l ++ τ)) (σ.length + 1) σ.length (σ.length + 2) l' = σ ++ (tabO σ.length l' ++ τ) := by
  unfold putTab
  rw [zt, zt, zw]; rfl
theorem putLed_new (σ : List zb) (g g' : List zR) (τ : List zb) : putLed (σ ++ (ledO σ.length g ++ τ)) (σ.length + 1) σ.length (σ.length + 2) g' = σ ++ (ledO σ.length g' ++ τ) := by
  unfold putLed
  rw [zw, zt, zt]; rfl
theorem putTab_len (σ : List zb) (id m t : Nat) (l : List (List UInt8)) : (putTab σ id m t l).length = σ.length := by simp [putTab]
theorem putLed_len (σ : List zb) (id m t : Nat) (g : List zR) : (putLed σ id m t g).length = σ.length := by simp [putLed]
theorem zkm {n : Nat} (l : List (List UInt8)) : zoU n (.map (tabM l)) := by
  have key : ∀ (l : List (List UInt8)) (i : Nat), ∀ e ∈ zmP l i, Low n e.1 ∧ Low n e.2 := by
    intro l
    induction l with
    | nil => intro i e h; cases h
    | cons x r ih =>
      intro i e h
      simp only [zmP, List.mem_cons] at h
      rcases h with rfl | h
      · exact ⟨.d _, .d _⟩
      · exact ih _ e h
  exact fun e he => key l 0 e he
theorem zkn {n : Nat} (g : List zR) : zoU n (.map (zmO g)) := by
  intro e he
  simp only [zmO, List.mem_map] at he
  obtain ⟨s, _, rfl⟩ := he
  exact ⟨.agg _ (by simp [zhr]), .d _⟩
theorem znr {n t m : Nat} {es : List (List D)} (ht : t < n) (hm : m < n) : zoU n (.box [.own t es, .map m]) := by
  intro c hc
  simp only [List.mem_cons, List.not_mem_nil, or_false] at hc
  rcases hc with rfl | rfl
  · exact .own _ _ ht
  · exact .map _ hm
theorem zcy.lows {σ : List zb} {id m t : Nat} {l : List (List UInt8)} (h : zcy σ id m t l) (hl : zfz σ.length σ) (l' : List (List UInt8)) : zfz σ.length (putTab σ id m t l') :=
  ((hl.setO (show zoU _ (.tok 1 l'.length) from trivial)).setO (znr (zhD h.tok) (zhD h.map))).setO (zkm l')
theorem zcz.lows {σ : List zb} {id m t : Nat} {g : List zR} (h : zcz σ id m t g) (hl : zfz σ.length σ) (g' : List zR) : zfz σ.length (putLed σ id m t g') :=
  ((hl.setO (zkn g')).setO (show zoU _ (.tok 2 g'.length) from trivial)).setO (znr (zhD h.tok) (zhD h.map))
theorem low_tabO (n : Nat) (l : List (List UInt8)) : ∀ x ∈ tabO n l, zoU (n + (tabO n l).length) x := by
  intro x hx
  simp only [List.mem_cons, List.not_mem_nil, or_false] at hx
  rcases hx with rfl | rfl | rfl
  · exact zkm l
  · exact znr (by simp) (by simp)
  · trivial
theorem low_ledO (n : Nat) (g : List zR) : ∀ x ∈ ledO n g, zoU (n + (ledO n g).length) x := by
  intro x hx
  simp only [List.mem_cons, List.not_mem_nil, or_false] at hx
  rcases hx with rfl | rfl | rfl
  · exact zkn g
  · exact znr (by simp) (by simp)
  · trivial
end Go.Proofs.YtcappjcojggehaaGreat

/- Byte strings and their numbers; what was signed. No program in sight. -/
import Derived.Test.YthpnelbciibjeaaGreatCl1
import Derived.Test.YthpnelbciibjeaaGreatAwFrz
set_option linter.all false
set_option linter.unusedSimpArgs false
set_option linter.unusedVariables false
namespace Go.AW

def zeX : List (List UInt8) → List UInt8 → Nat → Option Nat
  | [], _, _ => none
  | x :: r, b, i => if b = x then some i else zeX r b (i + 1)
def zfo (l : List (List UInt8)) (b : List UInt8) : Option Nat := zeX l b 0
def numOf : Option Nat → Int
  | some i => ((i + 1 : Nat) : Int)
  | none => 0
def zhT (l : List (List UInt8)) (b : List UInt8) : Int := match zfo l b with
  | some i => ((i + 1 : Nat) : Int)
  | none => if l.length ≥ 1048576 then 0 else ((l.length + 1 : Nat) : Int)
def zfA (l : List (List UInt8)) (b : List UInt8) : List (List UInt8) := match zfo l b with
  | some _ => l
  | none => if l.length ≥ 1048576 then l else l ++ [b]
abbrev zhF (l : List (List UInt8)) : List (List D) := l.map fun b => [D.slice (bcs b)]
def znX : List (List UInt8) → Nat → List (AV × AV)
  | [], _ => []
  | x :: r, i => (.d (.str x), .d (.int .i64 ((i + 1 : Nat) : Int))) :: znX r (i + 1)
def tabM (l : List (List UInt8)) : List (AV × AV) := znX l 0

theorem zoy (b : List UInt8) : ∀ (l : List (List UInt8)) (i : Nat), zks .str (.d (.str b)) (znX l i) i = some ((zeX l b i).map fun k => (k, .d (.int .i64 ((k + 1 : Nat) : Int))))
  | [], _ => rfl
  | x :: r, i => by
    simp only [znX, zks, zfp, zeX]
    by_cases h : b = x
    · simp [h]
    · have : (b == x) = false := by simpa using h
      simp only [this, if_neg h]
      exact zoy b r (i + 1)
theorem mfind_tab (l : List (List UInt8)) (b : List UInt8) : zks .str (.d (.str b)) (tabM l) 0 = some ((zfo l b).map fun k => (k, .d (.int .i64 ((k + 1 : Nat) : Int)))) := zoy b l 0
theorem tabMA_add (x : List UInt8) : ∀ (l : List (List UInt8)) (i : Nat), znX (l ++ [x]) i = znX l i ++ [(.d (.str x), .d (.int .i64 ((i + l.length + 1 : Nat) : Int)))]
  | [], i => by simp [znX]
  | y :: r, i => by
    simp only [List.cons_append, znX, tabMA_add x r (i + 1), List.length_cons]
    rw [show i + 1 + r.length + 1 = i + (r.length + 1) + 1 by omega]
theorem tabM_add (l : List (List UInt8)) (x : List UInt8) : tabM l ++ [(.d (.str x), .d (.int .i64 ((l.length + 1 : Nat) : Int)))] = tabM (l ++ [x]) := by
  unfold tabM
  rw [tabMA_add]; simp
theorem lookAt_lt {b : List UInt8} : ∀ {l : List (List UInt8)} {i k : Nat}, zeX l b i = some k → i ≤ k ∧ k < i + l.length ∧ l[k - i]? = some b
  | [], _, _, h => by simp [zeX] at h
  | x :: r, i, k, h => by
    simp only [zeX] at h
    split at h
    · rename_i e
      cases h; subst e; simp
    · obtain ⟨h1, h2, h3⟩ := lookAt_lt h
      refine ⟨by omega, by simp; omega, ?_⟩
      obtain ⟨m, hm⟩ : ∃ m, k - i = m + 1 := ⟨k - i - 1, by omega⟩
      rw [hm, List.getElem?_cons_succ]
      rw [show k - (i + 1) = m by omega] at h3
      exact h3
theorem lookF_lt {l : List (List UInt8)} {b : List UInt8} {k : Nat} (h : zfo l b = some k) : k < l.length ∧ l[k]? = some b := by
  have := lookAt_lt h
  simpa using this.2
theorem zlr {b : List UInt8} {m : List (List UInt8)} : ∀ {l : List (List UInt8)} {i : Nat}, zeX (l ++ m) b i = match zeX l b i with | some k => some k | none => zeX m b (i + l.length)
  | [], i => by simp [zeX]
  | x :: r, i => by
    simp only [List.cons_append, zeX, List.length_cons]
    split
    · rfl
    · rw [zlr, show i + 1 + r.length = i + (r.length + 1) by omega]
theorem look_next {l : List (List UInt8)} {b x : List UInt8} {k : Nat} (h : l[k]? = some x) (h0 : zfo (l.take k) b = none) (hx : (x == b) = false) : zfo (l.take (k + 1)) b = none := by
  have e : ¬ b = x := fun e => by subst e; simp at hx
  rw [List.take_add_one, h]
  unfold zfo at h0 ⊢
  rw [zlr, h0]
  simp [zeX, e]
theorem look_hit {l : List (List UInt8)} {b x : List UInt8} {k : Nat} (h : l[k]? = some x) (h0 : zfo (l.take k) b = none) (hx : (x == b) = true) : zfo l b = some k := by
  have e : x = b := by simpa using hx
  subst e
  obtain ⟨hk, hh⟩ := List.getElem?_eq_some_iff.1 h
  have e2 : l = l.take k ++ (x :: l.drop (k + 1)) := by rw [← hh, List.getElem_cons_drop, List.take_append_drop]
  rw [e2]
  unfold zfo at h0 ⊢
  rw [zlr, h0]
  simp [zeX]; omega
theorem look_notin {l : List (List UInt8)} {b : List UInt8} (h : b ∉ l) : zfo l b = none := by
  cases e : zfo l b with
  | none => rfl
  | some k => exact absurd (List.mem_of_getElem? (lookF_lt e).2) h
theorem zpH {l : List (List UInt8)} {b : List UInt8} (h : zfo l b = none) : b ∉ l := by
  have key : ∀ (l : List (List UInt8)) (i : Nat), zeX l b i = none → b ∉ l := by
    intro l
    induction l with
    | nil => intro i _; simp
    | cons x r ih =>
      intro i h
      simp only [zeX] at h
      split at h
      · cases h
      · rename_i hne
        simp only [List.mem_cons, not_or]
        exact ⟨hne, ih _ h⟩
  exact key l 0 h
abbrev ledE (l : List zeI) : List (List D) := signsE l
def ledM (l : List zeI) : List (AV × AV) := l.map fun s => (.agg [.d (.int .i64 s.key), .d (.int .i64 s.dig)], .d (.bool true))
theorem ziY {n : Nat} {σ' τ : List zc} {K : AV → List zc → Prop} {l : List AV} (hn : σ'.length = n) (h1 : Low n (dmT (zbo l))) (hl : zeS n σ') (h : K (dmT (zbo l)) σ') : Ends n K (some l) (σ' ++ τ) := by
  subst hn
  unfold Ends
  rw [zfl]
  exact ⟨h1, hl, h⟩
theorem zdV {n : Nat} {σ' : List zc} {K : AV → List zc → Prop} {l : List AV} (hn : σ'.length = n) (h1 : Low n (dmT (zbo l))) (hl : zeS n σ') (h : K (dmT (zbo l)) σ') : Ends n K (some l) σ' := by
  have := ziY (τ := []) hn h1 hl h
  simpa using this
theorem endsW_data {σ τ : List zc} {id t : Nat} {es : List (List D)} {X : zc} {K : AV → List zc → Prop} {l : List AV} (hT : σ[id]? = some X) (h1 : Low σ.length (dmT (zbo l))) (hl : zeS σ.length σ)
    (h : K (dmT (zbo l)) (σ.set id (.box [.d (.slice es)]))) : EndsW σ.length K (some l) (σ.set id (.box [.own t es]) ++ τ) := by
  refine ⟨_, .dataB id 0 [.own t es] (.own t es) es (zf (zgl hT)) rfl rfl (.refl _ _), ?_⟩
  rw [zgg (zgl hT), List.set_set]
  refine zoO h1 hl ?_ h
  intro c hc
  simp only [List.set_cons_zero, List.mem_cons, List.not_mem_nil, or_false] at hc
  subst hc; exact .d _
end Go.AW

/- Contracts: tables of byte strings and ledgers of signatures, as the program zoc them. -/
set_option maxRecDepth 100000
set_option linter.unusedSimpArgs false
set_option linter.unusedVariables false
namespace Go.Proofs.YthpnelbciibjeaaGreat
open Go.AW

structure zbO (σ : List zc) (id m t : Nat) (l : List (List UInt8)) : Prop where
  box : σ[id]? = some (.box [.own t (zhF l), .map m])
  map : σ[m]? = some (.map (tabM l))
  tok : σ[t]? = some (.tok 1 l.length)
structure zhk (σ : List zc) (id m t : Nat) (g : List zeI) : Prop where
  box : σ[id]? = some (.box [.own t (ledE g), .map m])
  map : σ[m]? = some (.map (ledM g))
  tok : σ[t]? = some (.tok 2 g.length)
def putTab (σ : List zc) (id m t : Nat) (l : List (List UInt8)) : List zc := ((σ.set t (.tok 1 l.length)).set id (.box [.own t (zhF l), .map m])).set m (.map (tabM l))
def putLed (σ : List zc) (id m t : Nat) (g : List zeI) : List zc := ((σ.set m (.map (ledM g))).set t (.tok 2 g.length)).set id (.box [.own t (ledE g), .map m])
abbrev zpg (n : Nat) (l : List (List UInt8)) : List zc := [.map (tabM l), .box [.own (n + 2) (zhF l), .map n], .tok 1 l.length]
theorem zbO.ne {σ : List zc} {id m t : Nat} {l : List (List UInt8)} (h : zbO σ id m t l) : id ≠ m ∧ id ≠ t ∧ m ≠ t := by
  refine ⟨fun e => ?_, fun e => ?_, fun e => ?_⟩ <;> subst e
  · have := h.box; rw [h.map] at this; cases this
  · have := h.box; rw [h.tok] at this; cases this
  · have := h.map; rw [h.tok] at this; cases this
theorem zhk.ne {σ : List zc} {id m t : Nat} {g : List zeI} (h : zhk σ id m t g) : id ≠ m ∧ id ≠ t ∧ m ≠ t := by
  refine ⟨fun e => ?_, fun e => ?_, fun e => ?_⟩ <;> subst e
  · have := h.box; rw [h.map] at this; cases this
  · have := h.box; rw [h.tok] at this; cases this
  · have := h.map; rw [h.tok] at this; cases this
theorem zbO.self {σ : List zc} {id m t : Nat} {l : List (List UInt8)} (h : zbO σ id m t l) : putTab σ id m t l = σ := by
  unfold putTab
  rw [zfm h.tok, zfm h.box, zfm h.map]
theorem zhk.self {σ : List zc} {id m t : Nat} {g : List zeI} (h : zhk σ id m t g) : putLed σ id m t g = σ := by
  unfold putLed
  rw [zfm h.map, zfm h.tok, zfm h.box]
theorem zbO.app {σ : List zc} {id m t : Nat} {l : List (List UInt8)} (h : zbO σ id m t l) (τ : List zc) : zbO (σ ++ τ) id m t l := ⟨zf h.box, zf h.map, zf h.tok⟩
theorem zhk.app {σ : List zc} {id m t : Nat} {g : List zeI} (h : zhk σ id m t g) (τ : List zc) : zhk (σ ++ τ) id m t g := ⟨zf h.box, zf h.map, zf h.tok⟩
theorem zke (σ : List zc) (l : List (List UInt8)) (τ : List zc) : zbO (σ ++ (zpg σ.length l ++ τ)) (σ.length + 1) σ.length (σ.length + 2) l :=
  ⟨by rw [zp]; rfl, by rw [zm]; rfl, by rw [zp]; rfl⟩
theorem zli (σ : List zc) (l l' : List (List UInt8)) (τ : List zc) : putTab (σ ++ (zpg σ.length l ++ τ)) (σ.length + 1) σ.length (σ.length + 2) l' = σ ++ (zpg σ.length l' ++ τ) := by
  unfold putTab
  rw [zac, zac, zM]; rfl
theorem zgH {σ : List zc} {id m t : Nat} {l : List (List UInt8)} (h : zbO σ id m t l) (l' : List (List UInt8)) (τ : List zc) : putTab (σ ++ τ) id m t l' = putTab σ id m t l' ++ τ := by
  have h1 := zr h.box; have h2 := zr h.map; have h3 := zr h.tok
  unfold putTab
  rw [List.set_append_left _ _ h3, List.set_append_left _ _ (by simpa using h1), List.set_append_left _ _ (by simpa using h2)]
theorem zaS (σ : List zc) (id m t : Nat) (l : List (List UInt8)) : (putTab σ id m t l).length = σ.length := by simp [putTab]
theorem zoA {n : Nat} (l : List (List UInt8)) : zpd n (.map (tabM l)) := by
  have key : ∀ (l : List (List UInt8)) (i : Nat), ∀ e ∈ znX l i, Low n e.1 ∧ Low n e.2 := by
    intro l
    induction l with
    | nil => intro i e h; cases h
    | cons x r ih =>
      intro i e h
      simp only [znX, List.mem_cons] at h
      rcases h with rfl | h
      · exact ⟨.d _, .d _⟩
      · exact ih _ e h
  exact fun e he => key l 0 e he
theorem lowMap_led {n : Nat} (g : List zeI) : zpd n (.map (ledM g)) := by
  intro e he
  simp only [ledM, List.mem_map] at he
  obtain ⟨s, _, rfl⟩ := he
  exact ⟨.agg _ (by simp [zbM]), .d _⟩
theorem lowBox {n t m : Nat} {es : List (List D)} (ht : t < n) (hm : m < n) : zpd n (.box [.own t es, .map m]) := by
  intro c hc
  simp only [List.mem_cons, List.not_mem_nil, or_false] at hc
  rcases hc with rfl | rfl
  · exact .own _ _ ht
  · exact .map _ hm
theorem zbO.lows {σ : List zc} {id m t : Nat} {l : List (List UInt8)} (h : zbO σ id m t l) (hl : zeS σ.length σ) (l' : List (List UInt8)) : zeS σ.length (putTab σ id m t l') :=
  ((hl.setO (show zpd _ (.tok 1 l'.length) from trivial)).setO (lowBox (zr h.tok) (zr h.map))).setO (zoA l')
theorem zhk.lows {σ : List zc} {id m t : Nat} {g : List zeI} (h : zhk σ id m t g) (hl : zeS σ.length σ) (g' : List zeI) : zeS σ.length (putLed σ id m t g') :=
  ((hl.setO (lowMap_led g')).setO (show zpd _ (.tok 2 g'.length) from trivial)).setO (lowBox (zr h.tok) (zr h.map))
theorem low_tabO (n : Nat) (l : List (List UInt8)) : ∀ x ∈ zpg n l, zpd (n + (zpg n l).length) x := by
  intro x hx
  simp only [List.mem_cons, List.not_mem_nil, or_false] at hx
  rcases hx with rfl | rfl | rfl
  · exact zoA l
  · exact lowBox (by simp) (by simp)
  · trivial
end Go.Proofs.YthpnelbciibjeaaGreat

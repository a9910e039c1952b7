/- Byte strings and their numbers; what was signed. No program in sight. -/
import Derived.Test.YtjjchfbckfopkaaGreatSpNum
import Derived.Test.YtjjchfbckfopkaaGreatAwFrz
set_option linter.all false
set_option linter.unusedSimpArgs false
set_option linter.unusedVariables false
namespace Go.AW

def zeX : List (List UInt8) → List UInt8 → Nat → Option Nat
  | [], _, _ => none
  | x :: r, b, i => if b = x then some i else zeX r b (i + 1)
def zeb (l : List (List UInt8)) (b : List UInt8) : Option Nat := zeX l b 0
def numOf : Option Nat → Int
  | some i => ((i + 1 : Nat) : Int)
  | none => 0
def zhz (l : List (List UInt8)) (b : List UInt8) : Int := match zeb l b with
  | some i => ((i + 1 : Nat) : Int)
  | none => if l.length ≥ 1048576 then 0 else ((l.length + 1 : Nat) : Int)
def zjJ (l : List (List UInt8)) (b : List UInt8) : List (List UInt8) := match zeb l b with
  | some _ => l
  | none => if l.length ≥ 1048576 then l else l ++ [b]
abbrev zmb (l : List (List UInt8)) : List (List D) := l.map fun b => [D.slice (bcs b)]
def znW : List (List UInt8) → Nat → List (AV × AV)
  | [], _ => []
  | x :: r, i => (.d (.str x), .d (.int .i64 ((i + 1 : Nat) : Int))) :: znW r (i + 1)
def tabM (l : List (List UInt8)) : List (AV × AV) := znW l 0

theorem zoC (b : List UInt8) : ∀ (l : List (List UInt8)) (i : Nat), zhM .str (.d (.str b)) (znW l i) i = some ((zeX l b i).map fun k => (k, .d (.int .i64 ((k + 1 : Nat) : Int))))
  | [], _ => rfl
  | x :: r, i => by
    simp only [znW, zhM, zev, zeX]
    by_cases h : b = x
    · simp [h]
    · have : (b == x) = false := by simpa using h
      simp only [this, if_neg h]
      exact zoC b r (i + 1)
theorem mfind_tab (l : List (List UInt8)) (b : List UInt8) : zhM .str (.d (.str b)) (tabM l) 0 = some ((zeb l b).map fun k => (k, .d (.int .i64 ((k + 1 : Nat) : Int)))) := zoC b l 0
theorem tabMA_add (x : List UInt8) : ∀ (l : List (List UInt8)) (i : Nat), znW (l ++ [x]) i = znW l i ++ [(.d (.str x), .d (.int .i64 ((i + l.length + 1 : Nat) : Int)))]
  | [], i => by simp [znW]
  | y :: r, i => by
    simp only [List.cons_append, znW, tabMA_add x r (i + 1), List.length_cons]
    rw [show i + 1 + r.length + 1 = i + (r.length + 1) + 1 by omega]
theorem tabM_add (l : List (List UInt8)) (x : List UInt8) : tabM l ++ [(.d (.str x), .d (.int .i64 ((l.length + 1 : Nat) : Int)))] = tabM (l ++ [x]) := by
  unfold tabM
  rw [tabMA_add]; simp
theorem lookAt_lt {b : List UInt8} : ∀ {l : List (List UInt8)} {i k : Nat}, zeX l b i = some k → i ≤ k ∧ k < i + l.length ∧ l[k - i]? = some b
  | [], _, _, h => by simp [zeX] at h
  | x :: r, i, k, h => by
    simp only [zeX] at h
    split at h
    · rename_i e
      cases h; subst e; simp
    · obtain ⟨h1, h2, h3⟩ := lookAt_lt h
      refine ⟨by omega, by simp; omega, ?_⟩
      obtain ⟨m, hm⟩ : ∃ m, k - i = m + 1 := ⟨k - i - 1, by omega⟩
      rw [hm, List.getElem?_cons_succ]
      rw [show k - (i + 1) = m by omega] at h3
      exact h3
theorem lookF_lt {l : List (List UInt8)} {b : List UInt8} {k : Nat} (h : zeb l b = some k) : k < l.length ∧ l[k]? = some b := by
  have := lookAt_lt h
  simpa using this.2
theorem zla {b : List UInt8} {m : List (List UInt8)} : ∀ {l : List (List UInt8)} {i : Nat}, zeX (l ++ m) b i = match zeX l b i with | some k => some k | none => zeX m b (i + l.length)
  | [], i => by simp [zeX]
  | x :: r, i => by
    simp only [List.cons_append, zeX, List.length_cons]
    split
    · rfl
    · rw [zla, show i + 1 + r.length = i + (r.length + 1) by omega]
theorem look_next {l : List (List UInt8)} {b x : List UInt8} {k : Nat} (h : l[k]? = some x) (h0 : zeb (l.take k) b = none) (hx : (x == b) = false) : zeb (l.take (k + 1)) b = none := by
  have e : ¬ b = x := fun e => by subst e; simp at hx
  rw [List.take_add_one, h]
  unfold zeb at h0 ⊢
  rw [zla, h0]
  simp [zeX, e]
theorem look_hit {l : List (List UInt8)} {b x : List UInt8} {k : Nat} (h : l[k]? = some x) (h0 : zeb (l.take k) b = none) (hx : (x == b) = true) : zeb l b = some k := by
  have e : x = b := by simpa using hx
  subst e
  obtain ⟨hk, hh⟩ := List.getElem?_eq_some_iff.1 h
  have e2 : l = l.take k ++ (x :: l.drop (k + 1)) := by rw [← hh, List.getElem_cons_drop, List.take_append_drop]
  rw [e2]
  unfold zeb at h0 ⊢
  rw [zla, h0]
  simp [zeX]; omega
theorem zoG {l : List (List UInt8)} {b : List UInt8} (h : b ∉ l) : zeb l b = none := by
  cases e : zeb l b with
  | none => rfl
  | some k => exact absurd (List.mem_of_getElem? (lookF_lt e).2) h
theorem zpF {l : List (List UInt8)} {b : List UInt8} (h : zeb l b = none) : b ∉ l := by
  have key : ∀ (l : List (List UInt8)) (i : Nat), zeX l b i = none → b ∉ l := by
    intro l
    induction l with
    | nil => intro i _; simp
    | cons x r ih =>
      intro i h
      simp only [zeX] at h
      split at h
      · cases h
      · rename_i hne
        simp only [List.mem_cons, not_or]
        exact ⟨hne, ih _ h⟩
  exact key l 0 h
abbrev zke (l : List zP) : List (List D) := zaB l
def znV (l : List zP) : List (AV × AV) := l.map fun s => (.agg [.d (.int .i64 s.key), .d (.int .i64 s.dig)], .d (.bool true))
def ledAt : List zP → zP → Nat → Option Nat
  | [], _, _ => none
  | x :: r, s, i => if s = x then some i else ledAt r s (i + 1)
theorem sign_keyEq (s x : zP) : zev (.ints 2) (.agg [.d (.int .i64 s.key), .d (.int .i64 s.dig)]) (.agg [.d (.int .i64 x.key), .d (.int .i64 x.dig)]) = some (decide (s = x)) := by
  have e : s = x ↔ s.key = x.key ∧ s.dig = x.dig := by cases s; cases x; simp
  by_cases h1 : s.key = x.key
  · by_cases h2 : s.dig = x.dig
    · rw [decide_eq_true (e.2 ⟨h1, h2⟩)]
      simp [zev, zbE, h1, h2]
    · rw [decide_eq_false (fun h => h2 (e.1 h).2)]
      have h2' : (s.dig == x.dig) = false := by simpa using h2
      simp [zev, zbE, h1, h2']
  · rw [decide_eq_false (fun h => h1 (e.1 h).1)]
    have h1' : (s.key == x.key) = false := by simpa using h1
    simp [zev, zbE, h1']
    try exact fun h => absurd h h1
theorem zkX (s : zP) : ∀ (l : List zP) (i : Nat), zhM (.ints 2) (.agg [.d (.int .i64 s.key), .d (.int .i64 s.dig)]) (znV l) i = some ((ledAt l s i).map fun k => (k, .d (.bool true)))
  | [], _ => rfl
  | x :: r, i => by
    have ih := zkX s r (i + 1)
    simp only [znV] at ih
    simp only [znV, List.map_cons, zhM, sign_keyEq, ledAt]
    by_cases h : s = x
    · simp [h]
    · rw [decide_eq_false h, if_neg h]
      exact ih
theorem zlc {s : zP} : ∀ {l : List zP} {i : Nat}, ledAt l s i = none ↔ s ∉ l
  | [], i => by simp [ledAt]
  | x :: r, i => by
    simp only [ledAt, List.mem_cons, not_or]
    by_cases h : s = x
    · simp [h]
    · rw [if_neg h, zlc]; simp [h]
theorem zkc {l : List zP} {s : zP} (h : s ∈ l) : ∃ k, zhM (.ints 2) (.agg [.d (.int .i64 s.key), .d (.int .i64 s.dig)]) (znV l) 0 = some (some (k, .d (.bool true))) := by
  rw [zkX]
  cases e : ledAt l s 0 with
  | none => exact absurd h (zlc.1 e)
  | some k => exact ⟨k, rfl⟩
theorem zlF {l : List zP} {s : zP} (h : s ∉ l) : zhM (.ints 2) (.agg [.d (.int .i64 s.key), .d (.int .i64 s.dig)]) (znV l) 0 = some none := by
  rw [zkX, zlc.2 h]; rfl
theorem ledM_add (l : List zP) (s : zP) : znV l ++ [(.agg [.d (.int .i64 s.key), .d (.int .i64 s.dig)], .d (.bool true))] = znV (l ++ [s]) := by simp [znV]
def znX (l : List zP) (s : zP) : List zP := if s ∈ l then l else l ++ [s]
def zdC (k d : Int) : Int := if k < 0 ∨ k ≥ 21 then 20 else if d < 1 then 1 else 0
theorem zfV {n : Nat} {σ' τ : List zb} {K : AV → List zb → Prop} {l : List AV} (hn : σ'.length = n) (h1 : Low n (dmT (zck l))) (hl : zem n σ') (h : K (dmT (zck l)) σ') : Ends n K (some l) (σ' ++ τ) := by
  subst hn
  unfold Ends
  rw [zgI]
  exact ⟨h1, hl, h⟩
theorem ends_all0 {n : Nat} {σ' : List zb} {K : AV → List zb → Prop} {l : List AV} (hn : σ'.length = n) (h1 : Low n (dmT (zck l))) (hl : zem n σ') (h : K (dmT (zck l)) σ') : Ends n K (some l) σ' := by
  have := zfV (τ := []) hn h1 hl h
  simpa using this
theorem zoP {σ τ : List zb} {id t : Nat} {es : List (List D)} {X : zb} {K : AV → List zb → Prop} {l : List AV} (hT : σ[id]? = some X) (h1 : Low σ.length (dmT (zck l))) (hl : zem σ.length σ)
    (h : K (dmT (zck l)) (σ.set id (.box [.d (.slice es)]))) : EndsW σ.length K (some l) (σ.set id (.box [.own t es]) ++ τ) := by
  refine ⟨_, .dataB id 0 [.own t es] (.own t es) es (ze (zfU hT)) rfl rfl (.refl _ _), ?_⟩
  rw [zbX (zfU hT), List.set_set]
  refine ends_wrote h1 hl ?_ h
  intro c hc
  simp only [List.set_cons_zero, List.mem_cons, List.not_mem_nil, or_false] at hc
  subst hc; exact .d _
end Go.AW

/- Byte strings and their numbers; what was signed. No program in sight. -/
import Derived.Test.YtjjchfbckfopkaaGreatSpNum
import Derived.Test.YtjjchfbckfopkaaGreatAwFrz
set_option linter.all false
set_option linter.unusedSimpArgs false
set_option linter.unusedVariables false
namespace Go.AW

def zeC : List (List UInt8) → List UInt8 → Nat → Option Nat
  | [], _, _ => none
  | x :: r, b, i => if b = x then some i else zeC r b (i + 1)
def zdE (l : List (List UInt8)) (b : List UInt8) : Option Nat := zeC l b 0
def numOf : Option Nat → Int
  | some i => ((i + 1 : Nat) : Int)
  | none => 0
def zgO (l : List (List UInt8)) (b : List UInt8) : Int := match zdE l b with
  | some i => ((i + 1 : Nat) : Int)
  | none => if l.length ≥ 1048576 then 0 else ((l.length + 1 : Nat) : Int)
def ziG (l : List (List UInt8)) (b : List UInt8) : List (List UInt8) := match zdE l b with
  | some _ => l
  | none => if l.length ≥ 1048576 then l else l ++ [b]
abbrev zkV (l : List (List UInt8)) : List (List D) := l.map fun b => [D.slice (bcs b)]
def zmJ : List (List UInt8) → Nat → List (AV × AV)
  | [], _ => []
  | x :: r, i => (.d (.str x), .d (.int .i64 ((i + 1 : Nat) : Int))) :: zmJ r (i + 1)
def tabM (l : List (List UInt8)) : List (AV × AV) := zmJ l 0

theorem znm (b : List UInt8) : ∀ (l : List (List UInt8)) (i : Nat), zgL .str (.d (.str b)) (zmJ l i) i = some ((zeC l b i).map fun k => (k, .d (.int .i64 ((k + 1 : Nat) : Int))))
  | [], _ => rfl
  | x :: r, i => by
    simp only [zmJ, zgL, zdF, zeC]
    by_cases h : b = x
    · simp [h]
    · have : (b == x) = false := by simpa using h
      simp only [this, if_neg h]
      exact znm b r (i + 1)
theorem mfind_tab (l : List (List UInt8)) (b : List UInt8) : zgL .str (.d (.str b)) (tabM l) 0 = some ((zdE l b).map fun k => (k, .d (.int .i64 ((k + 1 : Nat) : Int)))) := znm b l 0
theorem tabMA_add (x : List UInt8) : ∀ (l : List (List UInt8)) (i : Nat), zmJ (l ++ [x]) i = zmJ l i ++ [(.d (.str x), .d (.int .i64 ((i + l.length + 1 : Nat) : Int)))]
  | [], i => by simp [zmJ]
  | y :: r, i => by
    simp only [List.cons_append, zmJ, tabMA_add x r (i + 1), List.length_cons]
    rw [show i + 1 + r.length + 1 = i + (r.length + 1) + 1 by omega]
theorem tabM_add (l : List (List UInt8)) (x : List UInt8) : tabM l ++ [(.d (.str x), .d (.int .i64 ((l.length + 1 : Nat) : Int)))] = tabM (l ++ [x]) := by
  unfold tabM
  rw [tabMA_add]; simp
theorem lookAt_lt {b : List UInt8} : ∀ {l : List (List UInt8)} {i k : Nat}, zeC l b i = some k → i ≤ k ∧ k < i + l.length ∧ l[k - i]? = some b
  | [], _, _, h => by simp [zeC] at h
  | x :: r, i, k, h => by
    simp only [zeC] at h
    split at h
    · rename_i e
      cases h; subst e; simp
    · obtain ⟨h1, h2, h3⟩ := lookAt_lt h
      refine ⟨by omega, by simp; omega, ?_⟩
      obtain ⟨m, hm⟩ : ∃ m, k - i = m + 1 := ⟨k - i - 1, by omega⟩
      rw [hm, List.getElem?_cons_succ]
      rw [show k - (i + 1) = m by omega] at h3
      exact h3
theorem lookF_lt {l : List (List UInt8)} {b : List UInt8} {k : Nat} (h : zdE l b = some k) : k < l.length ∧ l[k]? = some b := by
  have := lookAt_lt h
  simpa using this.2
theorem zjQ {b : List UInt8} {m : List (List UInt8)} : ∀ {l : List (List UInt8)} {i : Nat}, zeC (l ++ m) b i = match zeC l b i with | some k => some k | none => zeC m b (i + l.length)
  | [], i => by simp [zeC]
  | x :: r, i => by
    simp only [List.cons_append, zeC, List.length_cons]
    split
    · rfl
    · rw [zjQ, show i + 1 + r.length = i + (r.length + 1) by omega]
theorem look_next {l : List (List UInt8)} {b x : List UInt8} {k : Nat} (h : l[k]? = some x) (h0 : zdE (l.take k) b = none) (hx : (x == b) = false) : zdE (l.take (k + 1)) b = none := by
  have e : ¬ b = x := fun e => by subst e; simp at hx
  rw [List.take_add_one, h]
  unfold zdE at h0 ⊢
  rw [zjQ, h0]
  simp [zeC, e]
theorem look_hit {l : List (List UInt8)} {b x : List UInt8} {k : Nat} (h : l[k]? = some x) (h0 : zdE (l.take k) b = none) (hx : (x == b) = true) : zdE l b = some k := by
  have e : x = b := by simpa using hx
  subst e
  obtain ⟨hk, hh⟩ := List.getElem?_eq_some_iff.1 h
  have e2 : l = l.take k ++ (x :: l.drop (k + 1)) := by rw [← hh, List.getElem_cons_drop, List.take_append_drop]
  rw [e2]
  unfold zdE at h0 ⊢
  rw [zjQ, h0]
  simp [zeC]; omega
theorem znq {l : List (List UInt8)} {b : List UInt8} (h : b ∉ l) : zdE l b = none := by
  cases e : zdE l b with
  | none => rfl
  | some k => exact absurd (List.mem_of_getElem? (lookF_lt e).2) h
theorem zol {l : List (List UInt8)} {b : List UInt8} (h : zdE l b = none) : b ∉ l := by
  have key : ∀ (l : List (List UInt8)) (i : Nat), zeC l b i = none → b ∉ l := by
    intro l
    induction l with
    | nil => intro i _; simp
    | cons x r ih =>
      intro i h
      simp only [zeC] at h
      split at h
      · cases h
      · rename_i hne
        simp only [List.mem_cons, not_or]
        exact ⟨hne, ih _ h⟩
  exact key l 0 h
abbrev ziS (l : List zO) : List (List D) := zaL l
def zmI (l : List zO) : List (AV × AV) := l.map fun s => (.agg [.d (.int .i64 s.key), .d (.int .i64 s.dig)], .d (.bool true))
def ledAt : List zO → zO → Nat → Option Nat
  | [], _, _ => none
  | x :: r, s, i => if s = x then some i else ledAt r s (i + 1)
theorem sign_keyEq (s x : zO) : zdF (.ints 2) (.agg [.d (.int .i64 s.key), .d (.int .i64 s.dig)]) (.agg [.d (.int .i64 x.key), .d (.int .i64 x.dig)]) = some (decide (s = x)) := by
  have e : s = x ↔ s.key = x.key ∧ s.dig = x.dig := by cases s; cases x; simp
  by_cases h1 : s.key = x.key
  · by_cases h2 : s.dig = x.dig
    · rw [decide_eq_true (e.2 ⟨h1, h2⟩)]
      simp [zdF, zbC, h1, h2]
    · rw [decide_eq_false (fun h => h2 (e.1 h).2)]
      have h2' : (s.dig == x.dig) = false := by simpa using h2
      simp [zdF, zbC, h1, h2']
  · rw [decide_eq_false (fun h => h1 (e.1 h).1)]
    have h1' : (s.key == x.key) = false := by simpa using h1
    simp [zdF, zbC, h1']
    try exact fun h => absurd h h1
theorem zjN (s : zO) : ∀ (l : List zO) (i : Nat), zgL (.ints 2) (.agg [.d (.int .i64 s.key), .d (.int .i64 s.dig)]) (zmI l) i = some ((ledAt l s i).map fun k => (k, .d (.bool true)))
  | [], _ => rfl
  | x :: r, i => by
    have ih := zjN s r (i + 1)
    simp only [zmI] at ih
    simp only [zmI, List.map_cons, zgL, sign_keyEq, ledAt]
    by_cases h : s = x
    · simp [h]
    · rw [decide_eq_false h, if_neg h]
      exact ih
theorem zjS {s : zO} : ∀ {l : List zO} {i : Nat}, ledAt l s i = none ↔ s ∉ l
  | [], i => by simp [ledAt]
  | x :: r, i => by
    simp only [ledAt, List.mem_cons, not_or]
    by_cases h : s = x
    · simp [h]
    · rw [if_neg h, zjS]; simp [h]
theorem ziQ {l : List zO} {s : zO} (h : s ∈ l) : ∃ k, zgL (.ints 2) (.agg [.d (.int .i64 s.key), .d (.int .i64 s.dig)]) (zmI l) 0 = some (some (k, .d (.bool true))) := by
  rw [zjN]
  cases e : ledAt l s 0 with
  | none => exact absurd h (zjS.1 e)
  | some k => exact ⟨k, rfl⟩
theorem zkz {l : List zO} {s : zO} (h : s ∉ l) : zgL (.ints 2) (.agg [.d (.int .i64 s.key), .d (.int .i64 s.dig)]) (zmI l) 0 = some none := by
  rw [zjN, zjS.2 h]; rfl
theorem ledM_add (l : List zO) (s : zO) : zmI l ++ [(.agg [.d (.int .i64 s.key), .d (.int .i64 s.dig)], .d (.bool true))] = zmI (l ++ [s]) := by simp [zmI]
def zmK (l : List zO) (s : zO) : List zO := if s ∈ l then l else l ++ [s]
def zdm (k d : Int) : Int := if k < 0 ∨ k ≥ 21 then 20 else if d < 1 then 1 else 0
theorem zfp {n : Nat} {σ' τ : List zb} {K : AV → List zb → Prop} {l : List AV} (hn : σ'.length = n) (h1 : Low n (dmT (zcm l))) (hl : zdW n σ') (h : K (dmT (zcm l)) σ') : Ends n K (some l) (σ' ++ τ) := by
  subst hn
  unfold Ends
  rw [zga]
  exact ⟨h1, hl, h⟩
theorem ends_all0 {n : Nat} {σ' : List zb} {K : AV → List zb → Prop} {l : List AV} (hn : σ'.length = n) (h1 : Low n (dmT (zcm l))) (hl : zdW n σ') (h : K (dmT (zcm l)) σ') : Ends n K (some l) σ' := by
  have := zfp (τ := []) hn h1 hl h
  simpa using this
theorem znw {σ τ : List zb} {id t : Nat} {es : List (List D)} {X : zb} {K : AV → List zb → Prop} {l : List AV} (hT : σ[id]? = some X) (h1 : Low σ.length (dmT (zcm l))) (hl : zdW σ.length σ)
    (h : K (dmT (zcm l)) (σ.set id (.box [.d (.slice es)]))) : EndsW σ.length K (some l) (σ.set id (.box [.own t es]) ++ τ) := by
  refine ⟨_, .dataB id 0 [.own t es] (.own t es) es (zk (zfo hT)) rfl rfl (.refl _ _), ?_⟩
  rw [zbR (zfo hT), List.set_set]
  refine ends_wrote h1 hl ?_ h
  intro c hc
  simp only [List.set_cons_zero, List.mem_cons, List.not_mem_nil, or_false] at hc
  subst hc; exact .d _
end Go.AW

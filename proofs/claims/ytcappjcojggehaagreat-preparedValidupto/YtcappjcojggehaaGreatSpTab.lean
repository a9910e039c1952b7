/- Byte strings and their numbers; what was signed. No program in sight. -/
import Derived.Test.YtcappjcojggehaaGreatSpNum
import Derived.Test.YtcappjcojggehaaGreatAwFrz
import Derived.Test.YtcappjcojggehaaGreatCl1
set_option linter.all false
set_option linter.unusedSimpArgs false
set_option linter.unusedVariables false
namespace Go.AW

def zdA : List (List UInt8) → List UInt8 → Nat → Option Nat
  | [], _, _ => none
  | x :: r, b, i => if b = x then some i else zdA r b (i + 1)
def lookF (l : List (List UInt8)) (b : List UInt8) : Option Nat := zdA l b 0
def numOf : Option Nat → Int
  | some i => ((i + 1 : Nat) : Int)
  | none => 0
def sumN (l : List (List UInt8)) (b : List UInt8) : Int := match lookF l b with
  | some i => ((i + 1 : Nat) : Int)
  | none => if l.length ≥ 1048576 then 0 else ((l.length + 1 : Nat) : Int)
def sumL (l : List (List UInt8)) (b : List UInt8) : List (List UInt8) := match lookF l b with
  | some _ => l
  | none => if l.length ≥ 1048576 then l else l ++ [b]
abbrev tabE (l : List (List UInt8)) : List (List D) := l.map fun b => [D.slice (bcs b)]
def tabMA : List (List UInt8) → Nat → List (AV × AV)
  | [], _ => []
  | x :: r, i => (.d (.str x), .d (.int .i64 ((i + 1 : Nat) : Int))) :: tabMA r (i + 1)
def tabM (l : List (List UInt8)) : List (AV × AV) := tabMA l 0

theorem zmW (b : List UInt8) : ∀ (l : List (List UInt8)) (i : Nat), mfind .str (.d (.str b)) (tabMA l i) i = some ((zdA l b i).map fun k => (k, .d (.int .i64 ((k + 1 : Nat) : Int))))
  | [], _ => rfl
  | x :: r, i => by
    simp only [tabMA, mfind, keyEq, zdA]
    by_cases h : b = x
    · simp [h]
    · have : (b == x) = false := by simpa using h
      simp only [this, if_neg h]
      exact zmW b r (i + 1)
theorem mfind_tab (l : List (List UInt8)) (b : List UInt8) : mfind .str (.d (.str b)) (tabM l) 0 = some ((lookF l b).map fun k => (k, .d (.int .i64 ((k + 1 : Nat) : Int)))) := zmW b l 0
theorem tabMA_add (x : List UInt8) : ∀ (l : List (List UInt8)) (i : Nat), tabMA (l ++ [x]) i = tabMA l i ++ [(.d (.str x), .d (.int .i64 ((i + l.length + 1 : Nat) : Int)))]
  | [], i => by simp [tabMA]
  | y :: r, i => by
    simp only [List.cons_append, tabMA, tabMA_add x r (i + 1), List.length_cons]
    rw [show i + 1 + r.length + 1 = i + (r.length + 1) + 1 by omega]
theorem tabM_add (l : List (List UInt8)) (x : List UInt8) : tabM l ++ [(.d (.str x), .d (.int .i64 ((l.length + 1 : Nat) : Int)))] = tabM (l ++ [x]) := by
  unfold tabM
  rw [tabMA_add]; simp
theorem lookAt_lt {b : List UInt8} : ∀ {l : List (List UInt8)} {i k : Nat}, zdA l b i = some k → i ≤ k ∧ k < i + l.length ∧ l[k - i]? = some b
  | [], _, _, h => by simp [zdA] at h
  | x :: r, i, k, h => by
    simp only [zdA] at h
    split at h
    · rename_i e
      cases h; subst e; simp
    · obtain ⟨h1, h2, h3⟩ := lookAt_lt h
      refine ⟨by omega, by simp; omega, ?_⟩
      obtain ⟨m, hm⟩ : ∃ m, k - i = m + 1 := ⟨k - i - 1, by omega⟩
      rw [hm, List.getElem?_cons_succ]
      rw [show k - (i + 1) = m by omega] at h3
      exact h3
theorem lookF_lt {l : List (List UInt8)} {b : List UInt8} {k : Nat} (h : lookF l b = some k) : k < l.length ∧ l[k]? = some b := by
  have := lookAt_lt h
  simpa using this.2
theorem zjx {b : List UInt8} {m : List (List UInt8)} : ∀ {l : List (List UInt8)} {i : Nat}, zdA (l ++ m) b i = match zdA l b i with | some k => some k | none => zdA m b (i + l.length)
  | [], i => by simp [zdA]
  | x :: r, i => by
    simp only [List.cons_append, zdA, List.length_cons]
    split
    · rfl
    · rw [zjx, show i + 1 + r.length = i + (r.length + 1) by omega]
theorem look_next {l : List (List UInt8)} {b x : List UInt8} {k : Nat} (h : l[k]? = some x) (h0 : lookF (l.take k) b = none) (hx : (x == b) = false) : lookF (l.take (k + 1)) b = none := by
  have e : ¬ b = x := fun e => by subst e; simp at hx
  rw [List.take_add_one, h]
  unfold lookF at h0 ⊢
  rw [zjx, h0]
  simp [zdA, e]
theorem look_hit {l : List (List UInt8)} {b x : List UInt8} {k : Nat} (h : l[k]? = some x) (h0 : lookF (l.take k) b = none) (hx : (x == b) = true) : lookF l b = some k := by
  have e : x = b := by simpa using hx
  subst e
  obtain ⟨hk, hh⟩ := List.getElem?_eq_some_iff.1 h
  have e2 : l = l.take k ++ (x :: l.drop (k + 1)) := by rw [← hh, List.getElem_cons_drop, List.take_append_drop]
  rw [e2]
  unfold lookF at h0 ⊢
  rw [zjx, h0]
  simp [zdA]; omega
theorem zmZ {l : List (List UInt8)} {b : List UInt8} (h : b ∉ l) : lookF l b = none := by
  cases e : lookF l b with
  | none => rfl
  | some k => exact absurd (List.mem_of_getElem? (lookF_lt e).2) h
theorem znX {l : List (List UInt8)} {b : List UInt8} (h : lookF l b = none) : b ∉ l := by
  have key : ∀ (l : List (List UInt8)) (i : Nat), zdA l b i = none → b ∉ l := by
    intro l
    induction l with
    | nil => intro i _; simp
    | cons x r ih =>
      intro i h
      simp only [zdA] at h
      split at h
      · cases h
      · rename_i hne
        simp only [List.mem_cons, not_or]
        exact ⟨hne, ih _ h⟩
  exact key l 0 h
abbrev ledE (l : List TSign) : List (List D) := zaw l
def ledM (l : List TSign) : List (AV × AV) := l.map fun s => (.agg [.d (.int .i64 s.key), .d (.int .i64 s.dig)], .d (.bool true))
def ledAt : List TSign → TSign → Nat → Option Nat
  | [], _, _ => none
  | x :: r, s, i => if s = x then some i else ledAt r s (i + 1)
theorem sign_keyEq (s x : TSign) : keyEq (.ints 2) (.agg [.d (.int .i64 s.key), .d (.int .i64 s.dig)]) (.agg [.d (.int .i64 x.key), .d (.int .i64 x.dig)]) = some (decide (s = x)) := by
  have e : s = x ↔ s.key = x.key ∧ s.dig = x.dig := by cases s; cases x; simp
  by_cases h1 : s.key = x.key
  · by_cases h2 : s.dig = x.dig
    · rw [decide_eq_true (e.2 ⟨h1, h2⟩)]
      simp [keyEq, zaZ, h1, h2]
    · rw [decide_eq_false (fun h => h2 (e.1 h).2)]
      have h2' : (s.dig == x.dig) = false := by simpa using h2
      simp [keyEq, zaZ, h1, h2']
  · rw [decide_eq_false (fun h => h1 (e.1 h).1)]
    have h1' : (s.key == x.key) = false := by simpa using h1
    simp [keyEq, zaZ, h1']
    try exact fun h => absurd h h1
theorem zjs (s : TSign) : ∀ (l : List TSign) (i : Nat), mfind (.ints 2) (.agg [.d (.int .i64 s.key), .d (.int .i64 s.dig)]) (ledM l) i = some ((ledAt l s i).map fun k => (k, .d (.bool true)))
  | [], _ => rfl
  | x :: r, i => by
    have ih := zjs s r (i + 1)
    simp only [ledM] at ih
    simp only [ledM, List.map_cons, mfind, sign_keyEq, ledAt]
    by_cases h : s = x
    · simp [h]
    · rw [decide_eq_false h, if_neg h]
      exact ih
theorem zjz {s : TSign} : ∀ {l : List TSign} {i : Nat}, ledAt l s i = none ↔ s ∉ l
  | [], i => by simp [ledAt]
  | x :: r, i => by
    simp only [ledAt, List.mem_cons, not_or]
    by_cases h : s = x
    · simp [h]
    · rw [if_neg h, zjz]; simp [h]
theorem zit {l : List TSign} {s : TSign} (h : s ∈ l) : ∃ k, mfind (.ints 2) (.agg [.d (.int .i64 s.key), .d (.int .i64 s.dig)]) (ledM l) 0 = some (some (k, .d (.bool true))) := by
  rw [zjs]
  cases e : ledAt l s 0 with
  | none => exact absurd h (zjz.1 e)
  | some k => exact ⟨k, rfl⟩
theorem zko {l : List TSign} {s : TSign} (h : s ∉ l) : mfind (.ints 2) (.agg [.d (.int .i64 s.key), .d (.int .i64 s.dig)]) (ledM l) 0 = some none := by
  rw [zjs, zjz.2 h]; rfl
theorem ledM_add (l : List TSign) (s : TSign) : ledM l ++ [(.agg [.d (.int .i64 s.key), .d (.int .i64 s.dig)], .d (.bool true))] = ledM (l ++ [s]) := by simp [ledM]
def signL (l : List TSign) (s : TSign) : List TSign := if s ∈ l then l else l ++ [s]
/-- the error of a signing -/
def signF (k d : Int) : Int := if k < 0 ∨ k ≥ 21 then 20 else if d < 1 then 1 else 0
/-- a call that has written into several of its caller's objects, hands back data -/
theorem zeo {n : Nat} {σ' τ : List AObj} {K : AV → List AObj → Prop} {l : List AV} (hn : σ'.length = n) (h1 : Low n (dmT (pack l))) (hl : Lows n σ') (h : K (dmT (pack l)) σ') : Ends n K (some l) (σ' ++ τ) := by
  subst hn
  unfold Ends
  rw [zeZ]
  exact ⟨h1, hl, h⟩
theorem ends_all0 {n : Nat} {σ' : List AObj} {K : AV → List AObj → Prop} {l : List AV} (hn : σ'.length = n) (h1 : Low n (dmT (pack l))) (hl : Lows n σ') (h : K (dmT (pack l)) σ') : Ends n K (some l) σ' := by
  have := zeo (τ := []) hn h1 hl h
  simpa using this
/-- an end at which a row in a caller's box is told as data -/
theorem znf {σ τ : List AObj} {id t : Nat} {es : List (List D)} {X : AObj} {K : AV → List AObj → Prop} {l : List AV} (hT : σ[id]? = some X) (h1 : Low σ.length (dmT (pack l))) (hl : Lows σ.length σ)
    (h : K (dmT (pack l)) (σ.set id (.box [.d (.slice es)]))) : EndsW σ.length K (some l) (σ.set id (.box [.own t es]) ++ τ) := by
  refine ⟨_, .dataB id 0 [.own t es] (.own t es) es (zI (zen hT)) rfl rfl (.refl _ _), ?_⟩
  rw [zbb (zen hT), List.set_set]
  refine ends_wrote h1 hl ?_ h
  intro c hc
  simp only [List.set_cons_zero, List.mem_cons, List.not_mem_nil, or_false] at hc
  subst hc; exact .d _
end Go.AW

/- Contracts: tables of byte strings and ledgers of signatures, as the program keeps them. -/
set_option maxRecDepth 100000
set_option linter.unusedSimpArgs false
set_option linter.unusedVariables false
namespace Go.Proofs.YtcappjcojggehaaGreat
open Go.AW

structure TabAt (σ : List AObj) (id m t : Nat) (l : List (List UInt8)) : Prop where
  box : σ[id]? = some (.box [.own t (tabE l), .map m])
  map : σ[m]? = some (.map (tabM l))
  tok : σ[t]? = some (.tok 1 l.length)
structure LedAt (σ : List AObj) (id m t : Nat) (g : List TSign) : Prop where
  box : σ[id]? = some (.box [.own t (ledE g), .map m])
  map : σ[m]? = some (.map (ledM g))
  tok : σ[t]? = some (.tok 2 g.length)
def putTab (σ : List AObj) (id m t : Nat) (l : List (List UInt8)) : List AObj := ((σ.set t (.tok 1 l.length)).set id (.box [.own t (tabE l), .map m])).set m (.map (tabM l))
def putLed (σ : List AObj) (id m t : Nat) (g : List TSign) : List AObj := ((σ.set m (.map (ledM g))).set t (.tok 2 g.length)).set id (.box [.own t (ledE g), .map m])
abbrev tabO (n : Nat) (l : List (List UInt8)) : List AObj := [.map (tabM l), .box [.own (n + 2) (tabE l), .map n], .tok 1 l.length]
abbrev ledO (n : Nat) (g : List TSign) : List AObj := [.map (ledM g), .box [.own (n + 2) (ledE g), .map n], .tok 2 g.length]
theorem TabAt.ne {σ : List AObj} {id m t : Nat} {l : List (List UInt8)} (h : TabAt σ id m t l) : id ≠ m ∧ id ≠ t ∧ m ≠ t := by
  refine ⟨fun e => ?_, fun e => ?_, fun e => ?_⟩ <;> subst e
  · have := h.box; rw [h.map] at this; cases this
  · have := h.box; rw [h.tok] at this; cases this
  · have := h.map; rw [h.tok] at this; cases this
theorem LedAt.ne {σ : List AObj} {id m t : Nat} {g : List TSign} (h : LedAt σ id m t g) : id ≠ m ∧ id ≠ t ∧ m ≠ t := by
  refine ⟨fun e => ?_, fun e => ?_, fun e => ?_⟩ <;> subst e
  · have := h.box; rw [h.map] at this; cases this
  · have := h.box; rw [h.tok] at this; cases this
  · have := h.map; rw [h.tok] at this; cases this
theorem TabAt.self {σ : List AObj} {id m t : Nat} {l : List (List UInt8)} (h : TabAt σ id m t l) : putTab σ id m t l = σ := by
  unfold putTab
  rw [zaX h.tok, zaX h.box, zaX h.map]
theorem LedAt.self {σ : List AObj} {id m t : Nat} {g : List TSign} (h : LedAt σ id m t g) : putLed σ id m t g = σ := by
  unfold putLed
  rw [zaX h.map, zaX h.tok, zaX h.box]
theorem TabAt.app {σ : List AObj} {id m t : Nat} {l : List (List UInt8)} (h : TabAt σ id m t l) (τ : List AObj) : TabAt (σ ++ τ) id m t l := ⟨zI h.box, zI h.map, zI h.tok⟩
theorem LedAt.app {σ : List AObj} {id m t : Nat} {g : List TSign} (h : LedAt σ id m t g) (τ : List AObj) : LedAt (σ ++ τ) id m t g := ⟨zI h.box, zI h.map, zI h.tok⟩
theorem tabAt_new (σ : List AObj) (l : List (List UInt8)) (τ : List AObj) : TabAt (σ ++ (tabO σ.length l ++ τ)) (σ.length + 1) σ.length (σ.length + 2) l :=
  ⟨by rw [zm]; rfl, by rw [zw]; rfl, by rw [zm]; rfl⟩
theorem ledAt_new (σ : List AObj) (g : List TSign) (τ : List AObj) : LedAt (σ ++ (ledO σ.length g ++ τ)) (σ.length + 1) σ.length (σ.length + 2) g :=
  ⟨by rw [zm]; rfl, by rw [zw]; rfl, by rw [zm]; rfl⟩
theorem putTab_new (σ : List AObj) (l l' : List (List UInt8)) (τ : List AObj) : putTab (σ ++ (tabO σ.length l ++ τ)) (σ.length + 1) σ.length (σ.length + 2) l' = σ ++ (tabO σ.length l' ++ τ) := by
  unfold putTab
  rw [zx, zx, zy]; rfl
theorem putLed_new (σ : List AObj) (g g' : List TSign) (τ : List AObj) : putLed (σ ++ (ledO σ.length g ++ τ)) (σ.length + 1) σ.length (σ.length + 2) g' = σ ++ (ledO σ.length g' ++ τ) := by
  unfold putLed
  rw [zy, zx, zx]; rfl
theorem putTab_len (σ : List AObj) (id m t : Nat) (l : List (List UInt8)) : (putTab σ id m t l).length = σ.length := by simp [putTab]
theorem putLed_len (σ : List AObj) (id m t : Nat) (g : List TSign) : (putLed σ id m t g).length = σ.length := by simp [putLed]
theorem zjv {n : Nat} (l : List (List UInt8)) : LowO n (.map (tabM l)) := by
  have key : ∀ (l : List (List UInt8)) (i : Nat), ∀ e ∈ tabMA l i, Low n e.1 ∧ Low n e.2 := by
    intro l
    induction l with
    | nil => intro i e h; cases h
    | cons x r ih =>
      intro i e h
      simp only [tabMA, List.mem_cons] at h
      rcases h with rfl | h
      · exact ⟨.d _, .d _⟩
      · exact ih _ e h
  exact fun e he => key l 0 e he
theorem zjw {n : Nat} (g : List TSign) : LowO n (.map (ledM g)) := by
  intro e he
  simp only [ledM, List.mem_map] at he
  obtain ⟨s, _, rfl⟩ := he
  exact ⟨.agg _ (by simp [Low_d]), .d _⟩
theorem zmY {n t m : Nat} {es : List (List D)} (ht : t < n) (hm : m < n) : LowO n (.box [.own t es, .map m]) := by
  intro c hc
  simp only [List.mem_cons, List.not_mem_nil, or_false] at hc
  rcases hc with rfl | rfl
  · exact .own _ _ ht
  · exact .map _ hm
theorem TabAt.lows {σ : List AObj} {id m t : Nat} {l : List (List UInt8)} (h : TabAt σ id m t l) (hl : Lows σ.length σ) (l' : List (List UInt8)) : Lows σ.length (putTab σ id m t l') :=
  ((hl.setO (show LowO _ (.tok 1 l'.length) from trivial)).setO (zmY (zgf h.tok) (zgf h.map))).setO (zjv l')
theorem LedAt.lows {σ : List AObj} {id m t : Nat} {g : List TSign} (h : LedAt σ id m t g) (hl : Lows σ.length σ) (g' : List TSign) : Lows σ.length (putLed σ id m t g') :=
  ((hl.setO (zjw g')).setO (show LowO _ (.tok 2 g'.length) from trivial)).setO (zmY (zgf h.tok) (zgf h.map))
theorem low_tabO (n : Nat) (l : List (List UInt8)) : ∀ x ∈ tabO n l, LowO (n + (tabO n l).length) x := by
  intro x hx
  simp only [List.mem_cons, List.not_mem_nil, or_false] at hx
  rcases hx with rfl | rfl | rfl
  · exact zjv l
  · exact zmY (by simp) (by simp)
  · trivial
theorem low_ledO (n : Nat) (g : List TSign) : ∀ x ∈ ledO n g, LowO (n + (ledO n g).length) x := by
  intro x hx
  simp only [List.mem_cons, List.not_mem_nil, or_false] at hx
  rcases hx with rfl | rfl | rfl
  · exact zjw g
  · exact zmY (by simp) (by simp)
  · trivial
end Go.Proofs.YtcappjcojggehaaGreat

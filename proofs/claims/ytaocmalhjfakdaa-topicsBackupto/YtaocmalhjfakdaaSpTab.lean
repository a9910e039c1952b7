/- Byte strings and their numbers; what was signed. No program in sight. -/
import Derived.Test.YtaocmalhjfakdaaCl1
import Derived.Test.YtaocmalhjfakdaaAwFrz
set_option linter.all false
set_option linter.unusedSimpArgs false
set_option linter.unusedVariables false
namespace Go.AW

def zfr : List (List UInt8) → List UInt8 → Nat → Option Nat
  | [], _, _ => none
  | x :: r, b, i => if b = x then some i else zfr r b (i + 1)
def zgJ (l : List (List UInt8)) (b : List UInt8) : Option Nat := zfr l b 0
def numOf : Option Nat → Int
  | some i => ((i + 1 : Nat) : Int)
  | none => 0
def sumN (l : List (List UInt8)) (b : List UInt8) : Int := match zgJ l b with
  | some i => ((i + 1 : Nat) : Int)
  | none => if l.length ≥ 1048576 then 0 else ((l.length + 1 : Nat) : Int)
def sumL (l : List (List UInt8)) (b : List UInt8) : List (List UInt8) := match zgJ l b with
  | some _ => l
  | none => if l.length ≥ 1048576 then l else l ++ [b]
abbrev zmq (l : List (List UInt8)) : List (List D) := l.map fun b => [D.slice (bcs b)]
def zln : List (List UInt8) → Nat → List (AV × AV)
  | [], _ => []
  | x :: r, i => (.d (.str x), .d (.int .i64 ((i + 1 : Nat) : Int))) :: zln r (i + 1)
def tabM (l : List (List UInt8)) : List (AV × AV) := zln l 0

theorem zlQ (b : List UInt8) : ∀ (l : List (List UInt8)) (i : Nat), zfI .str (.d (.str b)) (zln l i) i = some ((zfr l b i).map fun k => (k, .d (.int .i64 ((k + 1 : Nat) : Int))))
  | [], _ => rfl
  | x :: r, i => by
    simp only [zln, zfI, zei, zfr]
    by_cases h : b = x
    · simp [h]
    · have : (b == x) = false := by simpa using h
      simp only [this, if_neg h]
      exact zlQ b r (i + 1)
theorem mfind_tab (l : List (List UInt8)) (b : List UInt8) : zfI .str (.d (.str b)) (tabM l) 0 = some ((zgJ l b).map fun k => (k, .d (.int .i64 ((k + 1 : Nat) : Int)))) := zlQ b l 0
theorem tabMA_add (x : List UInt8) : ∀ (l : List (List UInt8)) (i : Nat), zln (l ++ [x]) i = zln l i ++ [(.d (.str x), .d (.int .i64 ((i + l.length + 1 : Nat) : Int)))]
  | [], i => by simp [zln]
  | y :: r, i => by
    simp only [List.cons_append, zln, tabMA_add x r (i + 1), List.length_cons]
    rw [show i + 1 + r.length + 1 = i + (r.length + 1) + 1 by omega]
theorem tabM_add (l : List (List UInt8)) (x : List UInt8) : tabM l ++ [(.d (.str x), .d (.int .i64 ((l.length + 1 : Nat) : Int)))] = tabM (l ++ [x]) := by
  unfold tabM
  rw [tabMA_add]; simp
theorem zjm {b : List UInt8} {m : List (List UInt8)} : ∀ {l : List (List UInt8)} {i : Nat}, zfr (l ++ m) b i = match zfr l b i with | some k => some k | none => zfr m b (i + l.length)
  | [], i => by simp [zfr]
  | x :: r, i => by
    simp only [List.cons_append, zfr, List.length_cons]
    split
    · rfl
    · rw [zjm, show i + 1 + r.length = i + (r.length + 1) by omega]
theorem look_next {l : List (List UInt8)} {b x : List UInt8} {k : Nat} (h : l[k]? = some x) (h0 : zgJ (l.take k) b = none) (hx : (x == b) = false) : zgJ (l.take (k + 1)) b = none := by
  have e : ¬ b = x := fun e => by subst e; simp at hx
  rw [List.take_add_one, h]
  unfold zgJ at h0 ⊢
  rw [zjm, h0]
  simp [zfr, e]
theorem look_hit {l : List (List UInt8)} {b x : List UInt8} {k : Nat} (h : l[k]? = some x) (h0 : zgJ (l.take k) b = none) (hx : (x == b) = true) : zgJ l b = some k := by
  have e : x = b := by simpa using hx
  subst e
  obtain ⟨hk, hh⟩ := List.getElem?_eq_some_iff.1 h
  have e2 : l = l.take k ++ (x :: l.drop (k + 1)) := by rw [← hh, List.getElem_cons_drop, List.take_append_drop]
  rw [e2]
  unfold zgJ at h0 ⊢
  rw [zjm, h0]
  simp [zfr]; omega
theorem zmG {l : List (List UInt8)} {b : List UInt8} (h : zgJ l b = none) : b ∉ l := by
  have key : ∀ (l : List (List UInt8)) (i : Nat), zfr l b i = none → b ∉ l := by
    intro l
    induction l with
    | nil => intro i _; simp
    | cons x r ih =>
      intro i h
      simp only [zfr] at h
      split at h
      · cases h
      · rename_i hne
        simp only [List.mem_cons, not_or]
        exact ⟨hne, ih _ h⟩
  exact key l 0 h
abbrev ledE (l : List zfR) : List (List D) := signsE l
def ledM (l : List zfR) : List (AV × AV) := l.map fun s => (.agg [.d (.int .i64 s.key), .d (.int .i64 s.dig)], .d (.bool true))
theorem ends_all {n : Nat} {σ' τ : List zc} {K : AV → List zc → Prop} {l : List AV} (hn : σ'.length = n) (h1 : Low n (dmT (zcg l))) (hl : zeN n σ') (h : K (dmT (zcg l)) σ') : Ends n K (some l) (σ' ++ τ) := by
  subst hn
  unfold Ends
  rw [zfl]
  exact ⟨h1, hl, h⟩
theorem endsW_data {σ τ : List zc} {id t : Nat} {es : List (List D)} {X : zc} {K : AV → List zc → Prop} {l : List AV} (hT : σ[id]? = some X) (h1 : Low σ.length (dmT (zcg l))) (hl : zeN σ.length σ)
    (h : K (dmT (zcg l)) (σ.set id (.box [.d (.slice es)]))) : EndsW σ.length K (some l) (σ.set id (.box [.own t es]) ++ τ) := by
  refine ⟨_, .dataB id 0 [.own t es] (.own t es) es (zf (zfs hT)) rfl rfl (.refl _ _), ?_⟩
  rw [zhc (zfs hT), List.set_set]
  refine ends_wrote h1 hl ?_ h
  intro c hc
  simp only [List.set_cons_zero, List.mem_cons, List.not_mem_nil, or_false] at hc
  subst hc; exact .d _
end Go.AW

/- Contracts: tables of byte strings and ledgers of signatures, as the program zlt them. -/
set_option maxRecDepth 100000
set_option linter.unusedSimpArgs false
set_option linter.unusedVariables false
namespace Go.Proofs.Ytaocmalhjfakdaa
open Go.AW

structure zfD (σ : List zc) (id m t : Nat) (l : List (List UInt8)) : Prop where
  box : σ[id]? = some (.box [.own t (zmq l), .map m])
  map : σ[m]? = some (.map (tabM l))
  tok : σ[t]? = some (.tok 1 l.length)
structure zgW (σ : List zc) (id m t : Nat) (g : List zfR) : Prop where
  box : σ[id]? = some (.box [.own t (ledE g), .map m])
  map : σ[m]? = some (.map (ledM g))
  tok : σ[t]? = some (.tok 2 g.length)
def putTab (σ : List zc) (id m t : Nat) (l : List (List UInt8)) : List zc := ((σ.set t (.tok 1 l.length)).set id (.box [.own t (zmq l), .map m])).set m (.map (tabM l))
def putLed (σ : List zc) (id m t : Nat) (g : List zfR) : List zc := ((σ.set m (.map (ledM g))).set t (.tok 2 g.length)).set id (.box [.own t (ledE g), .map m])
abbrev tabO (n : Nat) (l : List (List UInt8)) : List zc := [.map (tabM l), .box [.own (n + 2) (zmq l), .map n], .tok 1 l.length]
theorem zfD.ne {σ : List zc} {id m t : Nat} {l : List (List UInt8)} (h : zfD σ id m t l) : id ≠ m ∧ id ≠ t ∧ m ≠ t := by
  refine ⟨fun e => ?_, fun e => ?_, fun e => ?_⟩ <;> subst e
  · have := h.box; rw [h.map] at this; cases this
  · have := h.box; rw [h.tok] at this; cases this
  · have := h.map; rw [h.tok] at this; cases this
theorem zgW.ne {σ : List zc} {id m t : Nat} {g : List zfR} (h : zgW σ id m t g) : id ≠ m ∧ id ≠ t ∧ m ≠ t := by
  refine ⟨fun e => ?_, fun e => ?_, fun e => ?_⟩ <;> subst e
  · have := h.box; rw [h.map] at this; cases this
  · have := h.box; rw [h.tok] at this; cases this
  · have := h.map; rw [h.tok] at this; cases this
theorem zfD.self {σ : List zc} {id m t : Nat} {l : List (List UInt8)} (h : zfD σ id m t l) : putTab σ id m t l = σ := by
  unfold putTab
  rw [zfn h.tok, zfn h.box, zfn h.map]
theorem zgW.self {σ : List zc} {id m t : Nat} {g : List zfR} (h : zgW σ id m t g) : putLed σ id m t g = σ := by
  unfold putLed
  rw [zfn h.map, zfn h.tok, zfn h.box]
theorem zfD.app {σ : List zc} {id m t : Nat} {l : List (List UInt8)} (h : zfD σ id m t l) (τ : List zc) : zfD (σ ++ τ) id m t l := ⟨zf h.box, zf h.map, zf h.tok⟩
theorem zgW.app {σ : List zc} {id m t : Nat} {g : List zfR} (h : zgW σ id m t g) (τ : List zc) : zgW (σ ++ τ) id m t g := ⟨zf h.box, zf h.map, zf h.tok⟩
theorem putTab_len (σ : List zc) (id m t : Nat) (l : List (List UInt8)) : (putTab σ id m t l).length = σ.length := by simp [putTab]
theorem lowMap_str {n : Nat} (l : List (List UInt8)) : LowO n (.map (tabM l)) := by
  have key : ∀ (l : List (List UInt8)) (i : Nat), ∀ e ∈ zln l i, Low n e.1 ∧ Low n e.2 := by
    intro l
    induction l with
    | nil => intro i e h; cases h
    | cons x r ih =>
      intro i e h
      simp only [zln, List.mem_cons] at h
      rcases h with rfl | h
      · exact ⟨.d _, .d _⟩
      · exact ih _ e h
  exact fun e he => key l 0 e he
theorem lowMap_led {n : Nat} (g : List zfR) : LowO n (.map (ledM g)) := by
  intro e he
  simp only [ledM, List.mem_map] at he
  obtain ⟨s, _, rfl⟩ := he
  exact ⟨.agg _ (by simp [zgi]), .d _⟩
theorem lowBox {n t m : Nat} {es : List (List D)} (ht : t < n) (hm : m < n) : LowO n (.box [.own t es, .map m]) := by
  intro c hc
  simp only [List.mem_cons, List.not_mem_nil, or_false] at hc
  rcases hc with rfl | rfl
  · exact .own _ _ ht
  · exact .map _ hm
theorem zfD.lows {σ : List zc} {id m t : Nat} {l : List (List UInt8)} (h : zfD σ id m t l) (hl : zeN σ.length σ) (l' : List (List UInt8)) : zeN σ.length (putTab σ id m t l') :=
  ((hl.setO (show LowO _ (.tok 1 l'.length) from trivial)).setO (lowBox (zg h.tok) (zg h.map))).setO (lowMap_str l')
theorem zgW.lows {σ : List zc} {id m t : Nat} {g : List zfR} (h : zgW σ id m t g) (hl : zeN σ.length σ) (g' : List zfR) : zeN σ.length (putLed σ id m t g') :=
  ((hl.setO (lowMap_led g')).setO (show LowO _ (.tok 2 g'.length) from trivial)).setO (lowBox (zg h.tok) (zg h.map))
end Go.Proofs.Ytaocmalhjfakdaa

/- Byte strings and their numbers; what was signed. No program in sight. -/
import Derived.Test.YthpnelbciibjeaaSpNum
import Derived.Test.YthpnelbciibjeaaAwFrz
import Derived.Test.YthpnelbciibjeaaCl1
set_option linter.all false
set_option linter.unusedSimpArgs false
set_option linter.unusedVariables false
namespace Go.AW

def zjl : List (List UInt8) → List UInt8 → Nat → Option Nat
  | [], _, _ => none
  | x :: r, b, i => if b = x then some i else zjl r b (i + 1)
def zjk (l : List (List UInt8)) (b : List UInt8) : Option Nat := zjl l b 0
def numOf : Option Nat → Int
  | some i => ((i + 1 : Nat) : Int)
  | none => 0
def ziB (l : List (List UInt8)) (b : List UInt8) : Int := match zjk l b with
  | some i => ((i + 1 : Nat) : Int)
  | none => if l.length ≥ 1048576 then 0 else ((l.length + 1 : Nat) : Int)
def zfP (l : List (List UInt8)) (b : List UInt8) : List (List UInt8) := match zjk l b with
  | some _ => l
  | none => if l.length ≥ 1048576 then l else l ++ [b]
abbrev zjL (l : List (List UInt8)) : List (List D) := l.map fun b => [D.slice (bcs b)]
def zmq : List (List UInt8) → Nat → List (AV × AV)
  | [], _ => []
  | x :: r, i => (.d (.str x), .d (.int .i64 ((i + 1 : Nat) : Int))) :: zmq r (i + 1)
def tabM (l : List (List UInt8)) : List (AV × AV) := zmq l 0

theorem zmR (b : List UInt8) : ∀ (l : List (List UInt8)) (i : Nat), ziF .str (.d (.str b)) (zmq l i) i = some ((zjl l b i).map fun k => (k, .d (.int .i64 ((k + 1 : Nat) : Int))))
  | [], _ => rfl
  | x :: r, i => by
    simp only [zmq, ziF, zeR, zjl]
    by_cases h : b = x
    · simp [h]
    · have : (b == x) = false := by simpa using h
      simp only [this, if_neg h]
      exact zmR b r (i + 1)
theorem mfind_tab (l : List (List UInt8)) (b : List UInt8) : ziF .str (.d (.str b)) (tabM l) 0 = some ((zjk l b).map fun k => (k, .d (.int .i64 ((k + 1 : Nat) : Int)))) := zmR b l 0
theorem tabMA_add (x : List UInt8) : ∀ (l : List (List UInt8)) (i : Nat), zmq (l ++ [x]) i = zmq l i ++ [(.d (.str x), .d (.int .i64 ((i + l.length + 1 : Nat) : Int)))]
  | [], i => by simp [zmq]
  | y :: r, i => by
    simp only [List.cons_append, zmq, tabMA_add x r (i + 1), List.length_cons]
    rw [show i + 1 + r.length + 1 = i + (r.length + 1) + 1 by omega]
theorem tabM_add (l : List (List UInt8)) (x : List UInt8) : tabM l ++ [(.d (.str x), .d (.int .i64 ((l.length + 1 : Nat) : Int)))] = tabM (l ++ [x]) := by
  unfold tabM
  rw [tabMA_add]; simp
theorem lookAt_lt {b : List UInt8} : ∀ {l : List (List UInt8)} {i k : Nat}, zjl l b i = some k → i ≤ k ∧ k < i + l.length ∧ l[k - i]? = some b
  | [], _, _, h => by simp [zjl] at h
  | x :: r, i, k, h => by
    simp only [zjl] at h
    split at h
    · rename_i e
      cases h; subst e; simp
    · obtain ⟨h1, h2, h3⟩ := lookAt_lt h
      refine ⟨by omega, by simp; omega, ?_⟩
      obtain ⟨m, hm⟩ : ∃ m, k - i = m + 1 := ⟨k - i - 1, by omega⟩
      rw [hm, List.getElem?_cons_succ]
      rw [show k - (i + 1) = m by omega] at h3
      exact h3
theorem lookF_lt {l : List (List UInt8)} {b : List UInt8} {k : Nat} (h : zjk l b = some k) : k < l.length ∧ l[k]? = some b := by
  have := lookAt_lt h
  simpa using this.2
theorem look_notin {l : List (List UInt8)} {b : List UInt8} (h : b ∉ l) : zjk l b = none := by
  cases e : zjk l b with
  | none => rfl
  | some k => exact absurd (List.mem_of_getElem? (lookF_lt e).2) h
theorem znK {l : List (List UInt8)} {b : List UInt8} (h : zjk l b = none) : b ∉ l := by
  have key : ∀ (l : List (List UInt8)) (i : Nat), zjl l b i = none → b ∉ l := by
    intro l
    induction l with
    | nil => intro i _; simp
    | cons x r ih =>
      intro i h
      simp only [zjl] at h
      split at h
      · cases h
      · rename_i hne
        simp only [List.mem_cons, not_or]
        exact ⟨hne, ih _ h⟩
  exact key l 0 h
abbrev ledE (l : List zeu) : List (List D) := signsE l
def ledM (l : List zeu) : List (AV × AV) := l.map fun s => (.agg [.d (.int .i64 s.key), .d (.int .i64 s.dig)], .d (.bool true))
theorem zkV {n : Nat} {σ' τ : List zc} {K : AV → List zc → Prop} {l : List AV} (hn : σ'.length = n) (h1 : Low n (dmT (zdg l))) (hl : zfx n σ') (h : K (dmT (zdg l)) σ') : Ends n K (some l) (σ' ++ τ) := by
  subst hn
  unfold Ends
  rw [ziZ]
  exact ⟨h1, hl, h⟩
theorem zdE {n : Nat} {σ' : List zc} {K : AV → List zc → Prop} {l : List AV} (hn : σ'.length = n) (h1 : Low n (dmT (zdg l))) (hl : zfx n σ') (h : K (dmT (zdg l)) σ') : Ends n K (some l) σ' := by
  have := zkV (τ := []) hn h1 hl h
  simpa using this
end Go.AW

/- Contracts: tables of byte strings and ledgers of signatures, as the program zmv them. -/
set_option maxRecDepth 100000
set_option linter.unusedSimpArgs false
set_option linter.unusedVariables false
namespace Go.Proofs.Ythpnelbciibjeaa
open Go.AW

structure zbr (σ : List zc) (id m t : Nat) (l : List (List UInt8)) : Prop where
  box : σ[id]? = some (.box [.own t (zjL l), .map m])
  map : σ[m]? = some (.map (tabM l))
  tok : σ[t]? = some (.tok 1 l.length)
structure zgo (σ : List zc) (id m t : Nat) (g : List zeu) : Prop where
  box : σ[id]? = some (.box [.own t (ledE g), .map m])
  map : σ[m]? = some (.map (ledM g))
  tok : σ[t]? = some (.tok 2 g.length)
def putTab (σ : List zc) (id m t : Nat) (l : List (List UInt8)) : List zc := ((σ.set t (.tok 1 l.length)).set id (.box [.own t (zjL l), .map m])).set m (.map (tabM l))
def putLed (σ : List zc) (id m t : Nat) (g : List zeu) : List zc := ((σ.set m (.map (ledM g))).set t (.tok 2 g.length)).set id (.box [.own t (ledE g), .map m])
abbrev zns (n : Nat) (l : List (List UInt8)) : List zc := [.map (tabM l), .box [.own (n + 2) (zjL l), .map n], .tok 1 l.length]
theorem zbr.ne {σ : List zc} {id m t : Nat} {l : List (List UInt8)} (h : zbr σ id m t l) : id ≠ m ∧ id ≠ t ∧ m ≠ t := by
  refine ⟨fun e => ?_, fun e => ?_, fun e => ?_⟩ <;> subst e
  · have := h.box; rw [h.map] at this; cases this
  · have := h.box; rw [h.tok] at this; cases this
  · have := h.map; rw [h.tok] at this; cases this
theorem zgo.ne {σ : List zc} {id m t : Nat} {g : List zeu} (h : zgo σ id m t g) : id ≠ m ∧ id ≠ t ∧ m ≠ t := by
  refine ⟨fun e => ?_, fun e => ?_, fun e => ?_⟩ <;> subst e
  · have := h.box; rw [h.map] at this; cases this
  · have := h.box; rw [h.tok] at this; cases this
  · have := h.map; rw [h.tok] at this; cases this
theorem zbr.self {σ : List zc} {id m t : Nat} {l : List (List UInt8)} (h : zbr σ id m t l) : putTab σ id m t l = σ := by
  unfold putTab
  rw [zhD h.tok, zhD h.box, zhD h.map]
theorem zgo.self {σ : List zc} {id m t : Nat} {g : List zeu} (h : zgo σ id m t g) : putLed σ id m t g = σ := by
  unfold putLed
  rw [zhD h.map, zhD h.tok, zhD h.box]
theorem zbr.app {σ : List zc} {id m t : Nat} {l : List (List UInt8)} (h : zbr σ id m t l) (τ : List zc) : zbr (σ ++ τ) id m t l := ⟨zf h.box, zf h.map, zf h.tok⟩
theorem zgo.app {σ : List zc} {id m t : Nat} {g : List zeu} (h : zgo σ id m t g) (τ : List zc) : zgo (σ ++ τ) id m t g := ⟨zf h.box, zf h.map, zf h.tok⟩
theorem zli (σ : List zc) (l : List (List UInt8)) (τ : List zc) : zbr (σ ++ (zns σ.length l ++ τ)) (σ.length + 1) σ.length (σ.length + 2) l :=
  ⟨by rw [zI]; rfl, by rw [zr]; rfl, by rw [zI]; rfl⟩
theorem zmM (σ : List zc) (l l' : List (List UInt8)) (τ : List zc) : putTab (σ ++ (zns σ.length l ++ τ)) (σ.length + 1) σ.length (σ.length + 2) l' = σ ++ (zns σ.length l' ++ τ) := by
  unfold putTab
  rw [zav, zav, zW]; rfl
theorem zfV {σ : List zc} {id m t : Nat} {l : List (List UInt8)} (h : zbr σ id m t l) (l' : List (List UInt8)) (τ : List zc) : putTab (σ ++ τ) id m t l' = putTab σ id m t l' ++ τ := by
  have h1 := zl h.box; have h2 := zl h.map; have h3 := zl h.tok
  unfold putTab
  rw [List.set_append_left _ _ h3, List.set_append_left _ _ (by simpa using h1), List.set_append_left _ _ (by simpa using h2)]
theorem zaN (σ : List zc) (id m t : Nat) (l : List (List UInt8)) : (putTab σ id m t l).length = σ.length := by simp [putTab]
theorem zmT {n : Nat} (l : List (List UInt8)) : LowO n (.map (tabM l)) := by
  have key : ∀ (l : List (List UInt8)) (i : Nat), ∀ e ∈ zmq l i, Low n e.1 ∧ Low n e.2 := by
    intro l
    induction l with
    | nil => intro i e h; cases h
    | cons x r ih =>
      intro i e h
      simp only [zmq, List.mem_cons] at h
      rcases h with rfl | h
      · exact ⟨.d _, .d _⟩
      · exact ih _ e h
  exact fun e he => key l 0 e he
theorem lowMap_led {n : Nat} (g : List zeu) : LowO n (.map (ledM g)) := by
  intro e he
  simp only [ledM, List.mem_map] at he
  obtain ⟨s, _, rfl⟩ := he
  exact ⟨.agg _ (by simp [zfO]), .d _⟩
theorem lowBox {n t m : Nat} {es : List (List D)} (ht : t < n) (hm : m < n) : LowO n (.box [.own t es, .map m]) := by
  intro c hc
  simp only [List.mem_cons, List.not_mem_nil, or_false] at hc
  rcases hc with rfl | rfl
  · exact .own _ _ ht
  · exact .map _ hm
theorem zbr.lows {σ : List zc} {id m t : Nat} {l : List (List UInt8)} (h : zbr σ id m t l) (hl : zfx σ.length σ) (l' : List (List UInt8)) : zfx σ.length (putTab σ id m t l') :=
  ((hl.setO (show LowO _ (.tok 1 l'.length) from trivial)).setO (lowBox (zl h.tok) (zl h.map))).setO (zmT l')
theorem zgo.lows {σ : List zc} {id m t : Nat} {g : List zeu} (h : zgo σ id m t g) (hl : zfx σ.length σ) (g' : List zeu) : zfx σ.length (putLed σ id m t g') :=
  ((hl.setO (lowMap_led g')).setO (show LowO _ (.tok 2 g'.length) from trivial)).setO (lowBox (zl h.tok) (zl h.map))
theorem low_tabO (n : Nat) (l : List (List UInt8)) : ∀ x ∈ zns n l, LowO (n + (zns n l).length) x := by
  intro x hx
  simp only [List.mem_cons, List.not_mem_nil, or_false] at hx
  rcases hx with rfl | rfl | rfl
  · exact zmT l
  · exact lowBox (by simp) (by simp)
  · trivial
end Go.Proofs.Ythpnelbciibjeaa

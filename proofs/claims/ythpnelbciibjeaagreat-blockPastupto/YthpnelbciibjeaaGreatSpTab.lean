/- Byte strings and their numbers; what was signed. No program in sight. -/
import Derived.Test.YthpnelbciibjeaaGreatCl1
import Derived.Test.YthpnelbciibjeaaGreatAwFrz
set_option linter.all false
set_option linter.unusedSimpArgs false
set_option linter.unusedVariables false
namespace Go.AW

def zfF : List (List UInt8) → List UInt8 → Nat → Option Nat
  | [], _, _ => none
  | x :: r, b, i => if b = x then some i else zfF r b (i + 1)
def zgk (l : List (List UInt8)) (b : List UInt8) : Option Nat := zfF l b 0
def numOf : Option Nat → Int
  | some i => ((i + 1 : Nat) : Int)
  | none => 0
def zex (l : List (List UInt8)) (b : List UInt8) : Int := match zgk l b with
  | some i => ((i + 1 : Nat) : Int)
  | none => if l.length ≥ 1048576 then 0 else ((l.length + 1 : Nat) : Int)
def zee (l : List (List UInt8)) (b : List UInt8) : List (List UInt8) := match zgk l b with
  | some _ => l
  | none => if l.length ≥ 1048576 then l else l ++ [b]
abbrev zkL (l : List (List UInt8)) : List (List D) := l.map fun b => [D.slice (bcs b)]
def znO : List (List UInt8) → Nat → List (AV × AV)
  | [], _ => []
  | x :: r, i => (.d (.str x), .d (.int .i64 ((i + 1 : Nat) : Int))) :: znO r (i + 1)
def tabM (l : List (List UInt8)) : List (AV × AV) := znO l 0

theorem zor (b : List UInt8) : ∀ (l : List (List UInt8)) (i : Nat), zkc .str (.d (.str b)) (znO l i) i = some ((zfF l b i).map fun k => (k, .d (.int .i64 ((k + 1 : Nat) : Int))))
  | [], _ => rfl
  | x :: r, i => by
    simp only [znO, zkc, zfo, zfF]
    by_cases h : b = x
    · simp [h]
    · have : (b == x) = false := by simpa using h
      simp only [this, if_neg h]
      exact zor b r (i + 1)
theorem mfind_tab (l : List (List UInt8)) (b : List UInt8) : zkc .str (.d (.str b)) (tabM l) 0 = some ((zgk l b).map fun k => (k, .d (.int .i64 ((k + 1 : Nat) : Int)))) := zor b l 0
theorem tabMA_add (x : List UInt8) : ∀ (l : List (List UInt8)) (i : Nat), znO (l ++ [x]) i = znO l i ++ [(.d (.str x), .d (.int .i64 ((i + l.length + 1 : Nat) : Int)))]
  | [], i => by simp [znO]
  | y :: r, i => by
    simp only [List.cons_append, znO, tabMA_add x r (i + 1), List.length_cons]
    rw [show i + 1 + r.length + 1 = i + (r.length + 1) + 1 by omega]
theorem tabM_add (l : List (List UInt8)) (x : List UInt8) : tabM l ++ [(.d (.str x), .d (.int .i64 ((l.length + 1 : Nat) : Int)))] = tabM (l ++ [x]) := by
  unfold tabM
  rw [tabMA_add]; simp
theorem lookAt_lt {b : List UInt8} : ∀ {l : List (List UInt8)} {i k : Nat}, zfF l b i = some k → i ≤ k ∧ k < i + l.length ∧ l[k - i]? = some b
  | [], _, _, h => by simp [zfF] at h
  | x :: r, i, k, h => by
    simp only [zfF] at h
    split at h
    · rename_i e
      cases h; subst e; simp
    · obtain ⟨h1, h2, h3⟩ := lookAt_lt h
      refine ⟨by omega, by simp; omega, ?_⟩
      obtain ⟨m, hm⟩ : ∃ m, k - i = m + 1 := ⟨k - i - 1, by omega⟩
      rw [hm, List.getElem?_cons_succ]
      rw [show k - (i + 1) = m by omega] at h3
      exact h3
theorem ziI {l : List (List UInt8)} {b : List UInt8} {k : Nat} (h : zgk l b = some k) : k < l.length ∧ l[k]? = some b := by
  have := lookAt_lt h
  simpa using this.2
theorem zlc {b : List UInt8} {m : List (List UInt8)} : ∀ {l : List (List UInt8)} {i : Nat}, zfF (l ++ m) b i = match zfF l b i with | some k => some k | none => zfF m b (i + l.length)
  | [], i => by simp [zfF]
  | x :: r, i => by
    simp only [List.cons_append, zfF, List.length_cons]
    split
    · rfl
    · rw [zlc, show i + 1 + r.length = i + (r.length + 1) by omega]
theorem zou {l : List (List UInt8)} {b : List UInt8} (h : b ∉ l) : zgk l b = none := by
  cases e : zgk l b with
  | none => rfl
  | some k => exact absurd (List.mem_of_getElem? (ziI e).2) h
theorem zpr {l : List (List UInt8)} {b : List UInt8} (h : zgk l b = none) : b ∉ l := by
  have key : ∀ (l : List (List UInt8)) (i : Nat), zfF l b i = none → b ∉ l := by
    intro l
    induction l with
    | nil => intro i _; simp
    | cons x r ih =>
      intro i h
      simp only [zfF] at h
      split at h
      · cases h
      · rename_i hne
        simp only [List.mem_cons, not_or]
        exact ⟨hne, ih _ h⟩
  exact key l 0 h
theorem look_new (l : List (List UInt8)) (b : List UInt8) (h : zgk l b = none) : zgk (l ++ [b]) b = some l.length := by
  unfold zgk at h ⊢
  rw [zlc, h]
  simp [zfF]
theorem look_more {l m : List (List UInt8)} {b : List UInt8} {k : Nat} (h : zgk l b = some k) : zgk (l ++ m) b = some k := by
  unfold zgk at h ⊢
  rw [zlc, h]

/-! what was signed -/
abbrev ledE (l : List zcb) : List (List D) := signsE l
def ledM (l : List zcb) : List (AV × AV) := l.map fun s => (.agg [.d (.int .i64 s.key), .d (.int .i64 s.dig)], .d (.bool true))
def signL (l : List zcb) (s : zcb) : List zcb := if s ∈ l then l else l ++ [s]
def signF (k d : Int) : Int := if k < 0 ∨ k ≥ 21 then 20 else if d < 1 then 1 else 0
theorem zmh {n : Nat} {σ' τ : List zc} {K : AV → List zc → Prop} {l : List AV} (hn : σ'.length = n) (h1 : Low n (dmT (zcE l))) (hl : zgf n σ') (h : K (dmT (zcE l)) σ') : Ends n K (some l) (σ' ++ τ) := by
  subst hn
  unfold Ends
  rw [zjP]
  exact ⟨h1, hl, h⟩
theorem zdV {n : Nat} {σ' : List zc} {K : AV → List zc → Prop} {l : List AV} (hn : σ'.length = n) (h1 : Low n (dmT (zcE l))) (hl : zgf n σ') (h : K (dmT (zcE l)) σ') : Ends n K (some l) σ' := by
  have := zmh (τ := []) hn h1 hl h
  simpa using this
end Go.AW

/- Contracts: tables of byte strings and ledgers of signatures, as the program znT them. -/
set_option maxRecDepth 100000
set_option linter.unusedSimpArgs false
set_option linter.unusedVariables false
namespace Go.Proofs.YthpnelbciibjeaaGreat
open Go.AW

structure zbC (σ : List zc) (id m t : Nat) (l : List (List UInt8)) : Prop where
  box : σ[id]? = some (.box [.own t (zkL l), .map m])
  map : σ[m]? = some (.map (tabM l))
  tok : σ[t]? = some (.tok 1 l.length)
structure zgN (σ : List zc) (id m t : Nat) (g : List zcb) : Prop where
  box : σ[id]? = some (.box [.own t (ledE g), .map m])
  map : σ[m]? = some (.map (ledM g))
  tok : σ[t]? = some (.tok 2 g.length)
def putTab (σ : List zc) (id m t : Nat) (l : List (List UInt8)) : List zc := ((σ.set t (.tok 1 l.length)).set id (.box [.own t (zkL l), .map m])).set m (.map (tabM l))
def putLed (σ : List zc) (id m t : Nat) (g : List zcb) : List zc := ((σ.set m (.map (ledM g))).set t (.tok 2 g.length)).set id (.box [.own t (ledE g), .map m])
abbrev tabO (n : Nat) (l : List (List UInt8)) : List zc := [.map (tabM l), .box [.own (n + 2) (zkL l), .map n], .tok 1 l.length]
theorem zbC.ne {σ : List zc} {id m t : Nat} {l : List (List UInt8)} (h : zbC σ id m t l) : id ≠ m ∧ id ≠ t ∧ m ≠ t := by
  refine ⟨fun e => ?_, fun e => ?_, fun e => ?_⟩ <;> subst e
  · have := h.box; rw [h.map] at this; cases this
  · have := h.box; rw [h.tok] at this; cases this
  · have := h.map; rw [h.tok] at this; cases this
theorem zgN.ne {σ : List zc} {id m t : Nat} {g : List zcb} (h : zgN σ id m t g) : id ≠ m ∧ id ≠ t ∧ m ≠ t := by
  refine ⟨fun e => ?_, fun e => ?_, fun e => ?_⟩ <;> subst e
  · have := h.box; rw [h.map] at this; cases this
  · have := h.box; rw [h.tok] at this; cases this
  · have := h.map; rw [h.tok] at this; cases this
theorem zbC.self {σ : List zc} {id m t : Nat} {l : List (List UInt8)} (h : zbC σ id m t l) : putTab σ id m t l = σ := by
  unfold putTab
  rw [ziz h.tok, ziz h.box, ziz h.map]
theorem zgN.self {σ : List zc} {id m t : Nat} {g : List zcb} (h : zgN σ id m t g) : putLed σ id m t g = σ := by
  unfold putLed
  rw [ziz h.map, ziz h.tok, ziz h.box]
theorem zbC.app {σ : List zc} {id m t : Nat} {l : List (List UInt8)} (h : zbC σ id m t l) (τ : List zc) : zbC (σ ++ τ) id m t l := ⟨zg h.box, zg h.map, zg h.tok⟩
theorem zgN.app {σ : List zc} {id m t : Nat} {g : List zcb} (h : zgN σ id m t g) (τ : List zc) : zgN (σ ++ τ) id m t g := ⟨zg h.box, zg h.map, zg h.tok⟩
theorem zjQ (σ : List zc) (l : List (List UInt8)) (τ : List zc) : zbC (σ ++ (tabO σ.length l ++ τ)) (σ.length + 1) σ.length (σ.length + 2) l :=
  ⟨by rw [zP]; rfl, by rw [zp]; rfl, by rw [zP]; rfl⟩
theorem zol (σ : List zc) (l l' : List (List UInt8)) (τ : List zc) : putTab (σ ++ (tabO σ.length l ++ τ)) (σ.length + 1) σ.length (σ.length + 2) l' = σ ++ (tabO σ.length l' ++ τ) := by
  unfold putTab
  rw [zas, zas, zac]; rfl
theorem zgu {σ : List zc} {id m t : Nat} {l : List (List UInt8)} (h : zbC σ id m t l) (l' : List (List UInt8)) (τ : List zc) : putTab (σ ++ τ) id m t l' = putTab σ id m t l' ++ τ := by
  have h1 := zn h.box; have h2 := zn h.map; have h3 := zn h.tok
  unfold putTab
  rw [List.set_append_left _ _ h3, List.set_append_left _ _ (by simpa using h1), List.set_append_left _ _ (by simpa using h2)]
theorem zaR (σ : List zc) (id m t : Nat) (l : List (List UInt8)) : (putTab σ id m t l).length = σ.length := by simp [putTab]
theorem zot {n : Nat} (l : List (List UInt8)) : LowO n (.map (tabM l)) := by
  have key : ∀ (l : List (List UInt8)) (i : Nat), ∀ e ∈ znO l i, Low n e.1 ∧ Low n e.2 := by
    intro l
    induction l with
    | nil => intro i e h; cases h
    | cons x r ih =>
      intro i e h
      simp only [znO, List.mem_cons] at h
      rcases h with rfl | h
      · exact ⟨.d _, .d _⟩
      · exact ih _ e h
  exact fun e he => key l 0 e he
theorem lowMap_led {n : Nat} (g : List zcb) : LowO n (.map (ledM g)) := by
  intro e he
  simp only [ledM, List.mem_map] at he
  obtain ⟨s, _, rfl⟩ := he
  exact ⟨.agg _ (by simp [zgo]), .d _⟩
theorem lowBox {n t m : Nat} {es : List (List D)} (ht : t < n) (hm : m < n) : LowO n (.box [.own t es, .map m]) := by
  intro c hc
  simp only [List.mem_cons, List.not_mem_nil, or_false] at hc
  rcases hc with rfl | rfl
  · exact .own _ _ ht
  · exact .map _ hm
theorem zbC.lows {σ : List zc} {id m t : Nat} {l : List (List UInt8)} (h : zbC σ id m t l) (hl : zgf σ.length σ) (l' : List (List UInt8)) : zgf σ.length (putTab σ id m t l') :=
  ((hl.setO (show LowO _ (.tok 1 l'.length) from trivial)).setO (lowBox (zn h.tok) (zn h.map))).setO (zot l')
theorem zgN.lows {σ : List zc} {id m t : Nat} {g : List zcb} (h : zgN σ id m t g) (hl : zgf σ.length σ) (g' : List zcb) : zgf σ.length (putLed σ id m t g') :=
  ((hl.setO (lowMap_led g')).setO (show LowO _ (.tok 2 g'.length) from trivial)).setO (lowBox (zn h.tok) (zn h.map))
theorem low_tabO (n : Nat) (l : List (List UInt8)) : ∀ x ∈ tabO n l, LowO (n + (tabO n l).length) x := by
  intro x hx
  simp only [List.mem_cons, List.not_mem_nil, or_false] at hx
  rcases hx with rfl | rfl | rfl
  · exact zot l
  · exact lowBox (by simp) (by simp)
  · trivial
end Go.Proofs.YthpnelbciibjeaaGreat

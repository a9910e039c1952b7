/- Byte strings and their numbers; what was signed. No program in sight. -/
import Derived.Test.YtfgbofkdhfjegaaGreatCl1
import Derived.Test.YtfgbofkdhfjegaaGreatAwFrz
set_option linter.all false
namespace Go.AW
def zgM : List (List UInt8) → List UInt8 → Nat → Option Nat
 | [],_,_ => none
 | x :: r,b,i => if b = x then some i else zgM r b (i + 1)
def zdc (l : List (List UInt8)) (b : List UInt8) : Option Nat := zgM l b 0
def zjH : Option Nat → Int
 | some i => ((i + 1 : Nat) : Int)
 | none => 0
def zdA (l : List (List UInt8)) (b : List UInt8) : Int := match zdc l b with
 | some i => ((i + 1 : Nat) : Int)
 | none => if l.length ≥ 1048576 then 0 else ((l.length + 1 : Nat) : Int)
def zeG (l : List (List UInt8)) (b : List UInt8) : List (List UInt8) := match zdc l b with
 | some _ => l
 | none => if l.length ≥ 1048576 then l else l ++ [b]
abbrev zgH (l : List (List UInt8)) : List (List D) := l.map fun b => [D.slice (bcs b)]
def ztI : List (List UInt8) → Nat → List (AV × AV)
 | [],_ => []
 | x :: r,i => (.d (.str x), .d (.int .i64 ((i + 1 : Nat) : Int))) :: ztI r (i + 1)
def tabM (l : List (List UInt8)) : List (AV × AV) := ztI l 0
theorem zup (b : List UInt8) : ∀ (l : List (List UInt8)) (i : Nat),zoO .str (.d (.str b)) (ztI l i) i = some ((zgM l b i).map fun k => (k, .d (.int .i64 ((k + 1 : Nat) : Int))))
 | [],_ => rfl
 | x :: r,i => by
  simp only [ztI,zoO,zgN,zgM]
  by_cases h : b = x
  ·simp [h]
  ·have : (b == x) = false := by simpa using h
   simp only [this,if_neg h]
   exact zup b r (i + 1)
theorem mfind_tab (l : List (List UInt8)) (b : List UInt8) : zoO .str (.d (.str b)) (tabM l) 0 = some ((zdc l b).map fun k => (k, .d (.int .i64 ((k + 1 : Nat) : Int)))) := zup b l 0
theorem tabMA_add (x : List UInt8) : ∀ (l : List (List UInt8)) (i : Nat),ztI (l ++ [x]) i = ztI l i ++ [(.d (.str x), .d (.int .i64 ((i + l.length + 1 : Nat) : Int)))]
 | [],i => by simp [ztI]
 | y :: r,i => by
  simp only [List.cons_append,ztI,tabMA_add x r (i + 1),List.length_cons]
  rw [show i + 1 + r.length + 1 = i + (r.length + 1) + 1 by omega]
theorem tabM_add (l : List (List UInt8)) (x : List UInt8) : tabM l ++ [(.d (.str x), .d (.int .i64 ((l.length + 1 : Nat) : Int)))] = tabM (l ++ [x]) := by
 unfold tabM
 rw [tabMA_add]; simp
theorem lookAt_lt {b : List UInt8} : ∀ {l : List (List UInt8)} {i k : Nat},zgM l b i = some k → i ≤ k ∧ k < i + l.length ∧ l[k - i]? = some b
 | [],_,_,h => by simp [zgM] at h
 | x :: r,i,k,h => by
  simp only [zgM] at h
  split at h
  ·rename_i e
   cases h; subst e; simp
  ·obtain ⟨h1,h2,h3⟩ := lookAt_lt h
   refine ⟨by omega,by simp; omega, ?_⟩
   obtain ⟨m,hm⟩ : ∃ m,k - i = m + 1 := ⟨k - i - 1,by omega⟩
   rw [hm,List.getElem?_cons_succ]
   rw [show k - (i + 1) = m by omega] at h3
   exact h3
theorem zkP {l : List (List UInt8)} {b : List UInt8} {k : Nat} (h : zdc l b = some k) : k < l.length ∧ l[k]? = some b := by
 have := lookAt_lt h
 simpa using this.2
theorem zjN {b : List UInt8} {m : List (List UInt8)} : ∀ {l : List (List UInt8)} {i : Nat},zgM (l ++ m) b i = match zgM l b i with | some k => some k | none => zgM m b (i + l.length)
 | [],i => by simp [zgM]
 | x :: r,i => by
  simp only [List.cons_append,zgM,List.length_cons]
  split
  ·rfl
  ·rw [zjN,show i + 1 + r.length = i + (r.length + 1) by omega]
theorem look_next {l : List (List UInt8)} {b x : List UInt8} {k : Nat} (h : l[k]? = some x) (h0 : zdc (l.take k) b = none) (hx : (x == b) = false) : zdc (l.take (k + 1)) b = none := by
 have e : ¬ b = x := fun e => by subst e; simp at hx
 rw [List.take_add_one,h]
 unfold zdc at h0 ⊢
 rw [zjN,h0]
 simp [zgM,e]
theorem look_hit {l : List (List UInt8)} {b x : List UInt8} {k : Nat} (h : l[k]? = some x) (h0 : zdc (l.take k) b = none) (hx : (x == b) = true) : zdc l b = some k := by
 have e : x = b := by simpa using hx
 subst e
 obtain ⟨hk,hh⟩ := List.getElem?_eq_some_iff.1 h
 have e2 : l = l.take k ++ (x :: l.drop (k + 1)) := by rw [← hh,List.getElem_cons_drop,List.take_append_drop]
 rw [e2]
 unfold zdc at h0 ⊢
 rw [zjN,h0]
 simp [zgM]; omega
theorem zut {l : List (List UInt8)} {b : List UInt8} (h : b ∉ l) : zdc l b = none := by
 cases e : zdc l b with
 | none => rfl
 | some k => exact absurd (List.mem_of_getElem? (zkP e).2) h
theorem zvI {l : List (List UInt8)} {b : List UInt8} (h : zdc l b = none) : b ∉ l := by
 have key : ∀ (l : List (List UInt8)) (i : Nat),zgM l b i = none → b ∉ l := by
  intro l
  induction l with
  | nil => intro i _; simp
  | cons x r ih =>
   intro i h
   simp only [zgM] at h
   split at h
   ·cases h
   ·rename_i hne
    simp only [List.mem_cons,not_or]
    exact ⟨hne,ih _ h⟩
 exact key l 0 h
theorem look_new (l : List (List UInt8)) (b : List UInt8) (h : zdc l b = none) : zdc (l ++ [b]) b = some l.length := by
 unfold zdc at h ⊢
 rw [zjN,h]
 simp [zgM]
theorem look_more {l m : List (List UInt8)} {b : List UInt8} {k : Nat} (h : zdc l b = some k) : zdc (l ++ m) b = some k := by
 unfold zdc at h ⊢
 rw [zjN,h]
abbrev zpH (l : List zJ) : List (List D) := zaY l
def ztE (l : List zJ) : List (AV × AV) := l.map fun s => (.agg [.d (.int .i64 s.key), .d (.int .i64 s.dig)], .d (.bool true))
def ledAt : List zJ → zJ → Nat → Option Nat
 | [],_,_ => none
 | x :: r,s,i => if s = x then some i else ledAt r s (i + 1)
theorem sign_keyEq (s x : zJ) : zgN (.ints 2) (.agg [.d (.int .i64 s.key), .d (.int .i64 s.dig)]) (.agg [.d (.int .i64 x.key), .d (.int .i64 x.dig)]) = some (decide (s = x)) := by
 have e : s = x ↔ s.key = x.key ∧ s.dig = x.dig := by cases s; cases x; simp
 by_cases h1 : s.key = x.key
 ·by_cases h2 : s.dig = x.dig
  ·rw [decide_eq_true (e.2 ⟨h1,h2⟩)]
   simp [zgN,zdU,h1,h2]
  ·rw [decide_eq_false (fun h => h2 (e.1 h).2)]
   have h2' : (s.dig == x.dig) = false := by simpa using h2
   simp [zgN,zdU,h1,h2']
 ·rw [decide_eq_false (fun h => h1 (e.1 h).1)]
  have h1' : (s.key == x.key) = false := by simpa using h1
  simp [zgN,zdU,h1']
  try exact fun h => absurd h h1
theorem zqh (s : zJ) : ∀ (l : List zJ) (i : Nat),zoO (.ints 2) (.agg [.d (.int .i64 s.key), .d (.int .i64 s.dig)]) (ztE l) i = some ((ledAt l s i).map fun k => (k, .d (.bool true)))
 | [],_ => rfl
 | x :: r,i => by
  have ih := zqh s r (i + 1)
  simp only [ztE] at ih
  simp only [ztE,List.map_cons,zoO,sign_keyEq,ledAt]
  by_cases h : s = x
  ·simp [h]
  ·rw [decide_eq_false h,if_neg h]
   exact ih
theorem zqj {s : zJ} : ∀ {l : List zJ} {i : Nat},ledAt l s i = none ↔ s ∉ l
 | [],i => by simp [ledAt]
 | x :: r,i => by
  simp only [ledAt,List.mem_cons,not_or]
  by_cases h : s = x
  ·simp [h]
  ·rw [if_neg h,zqj]; simp [h]
theorem zoN {l : List zJ} {s : zJ} (h : s ∈ l) : ∃ k,zoO (.ints 2) (.agg [.d (.int .i64 s.key), .d (.int .i64 s.dig)]) (ztE l) 0 = some (some (k, .d (.bool true))) := by
 rw [zqh]
 cases e : ledAt l s 0 with
 | none => exact absurd h (zqj.1 e)
 | some k => exact ⟨k,rfl⟩
theorem zqK {l : List zJ} {s : zJ} (h : s ∉ l) : zoO (.ints 2) (.agg [.d (.int .i64 s.key), .d (.int .i64 s.dig)]) (ztE l) 0 = some none := by
 rw [zqh,zqj.2 h]; rfl
theorem ledM_add (l : List zJ) (s : zJ) : ztE l ++ [(.agg [.d (.int .i64 s.key), .d (.int .i64 s.dig)], .d (.bool true))] = ztE (l ++ [s]) := by simp [ztE]
def zly (l : List zJ) (s : zJ) : List zJ := if s ∈ l then l else l ++ [s]
def zeh (k d : Int) : Int := if k < 0 ∨ k ≥ 21 then 20 else if d < 1 then 1 else 0
theorem zef {n : Nat} {σ' τ : List zh} {K : KT} {l : List AV} (hn : σ'.length = n) (h1 : Low n (dmT (zcC l))) (hl : zfs n σ') (h : K (dmT (zcC l)) σ') : Ends n K (some l) (σ' ++ τ) := by
 subst hn
 unfold Ends
 rw [ziQ]
 exact ⟨h1,hl,h⟩
theorem zgQ {n : Nat} {σ' : List zh} {K : KT} {l : List AV} (hn : σ'.length = n) (h1 : Low n (dmT (zcC l))) (hl : zfs n σ') (h : K (dmT (zcC l)) σ') : Ends n K (some l) σ' := by
 have := zef (τ := []) hn h1 hl h
 simpa using this
theorem zuK {σ τ : List zh} {id t : Nat} {es : List (List D)} {X : zh} {K : KT} {l : List AV} (hT : σ[id]? = some X) (h1 : Low σ.length (dmT (zcC l))) (hl : zfs σ.length σ)
  (h : K (dmT (zcC l)) (σ.set id (.box [.d (.slice es)]))) : EndsW σ.length K (some l) (σ.set id (.box [.own t es]) ++ τ) := by
 refine ⟨_, .dataB id 0 [.own t es] (.own t es) es (zd (zbu hT)) rfl rfl (.refl _ _), ?_⟩
 rw [zbZ (zbu hT),List.set_set]
 refine zhQ h1 hl ?_ h
 intro c hc
 simp only [List.set_cons_zero,List.mem_cons,List.not_mem_nil,or_false] at hc
 subst hc; exact .d _
end Go.AW

/- Contracts: tables of byte strings and ledgers of signatures, as the program zvJ them. -/
set_option maxRecDepth 100000
namespace Go.Proofs.YtfgbofkdhfjegaaGreat
open Go.AW
structure zdo (σ : List zh) (id m t : Nat) (l : List (List UInt8)) : Prop where
 box : σ[id]? = some (.box [.own t (zgH l), .map m])
 map : σ[m]? = some (.map (tabM l))
 tok : σ[t]? = some (.tok 1 l.length)
structure zee (σ : List zh) (id m t : Nat) (g : List zJ) : Prop where
 box : σ[id]? = some (.box [.own t (zpH g), .map m])
 map : σ[m]? = some (.map (ztE g))
 tok : σ[t]? = some (.tok 2 g.length)
def putTab (σ : List zh) (id m t : Nat) (l : List (List UInt8)) : List zh := ((σ.set t (.tok 1 l.length)).set id (.box [.own t (zgH l), .map m])).set m (.map (tabM l))
def putLed (σ : List zh) (id m t : Nat) (g : List zJ) : List zh := ((σ.set m (.map (ztE g))).set t (.tok 2 g.length)).set id (.box [.own t (zpH g), .map m])
abbrev tabO (n : Nat) (l : List (List UInt8)) : List zh := [.map (tabM l), .box [.own (n + 2) (zgH l), .map n], .tok 1 l.length]
abbrev ledO (n : Nat) (g : List zJ) : List zh := [.map (ztE g), .box [.own (n + 2) (zpH g), .map n], .tok 2 g.length]
theorem zdo.ne {σ : List zh} {id m t : Nat} {l : List (List UInt8)} (h : zdo σ id m t l) : id ≠ m ∧ id ≠ t ∧ m ≠ t := by
 refine ⟨fun e => ?_,fun e => ?_,fun e => ?_⟩ <;> subst e
 ·have := h.box; rw [h.map] at this; cases this
 ·have := h.box; rw [h.tok] at this; cases this
 ·have := h.map; rw [h.tok] at this; cases this
theorem zee.ne {σ : List zh} {id m t : Nat} {g : List zJ} (h : zee σ id m t g) : id ≠ m ∧ id ≠ t ∧ m ≠ t := by
 refine ⟨fun e => ?_,fun e => ?_,fun e => ?_⟩ <;> subst e
 ·have := h.box; rw [h.map] at this; cases this
 ·have := h.box; rw [h.tok] at this; cases this
 ·have := h.map; rw [h.tok] at this; cases this
theorem zdo.self {σ : List zh} {id m t : Nat} {l : List (List UInt8)} (h : zdo σ id m t l) : putTab σ id m t l = σ := by
 unfold putTab
 rw [zbo h.tok,zbo h.box,zbo h.map]
theorem zee.self {σ : List zh} {id m t : Nat} {g : List zJ} (h : zee σ id m t g) : putLed σ id m t g = σ := by
 unfold putLed
 rw [zbo h.map,zbo h.tok,zbo h.box]
theorem zdo.app {σ : List zh} {id m t : Nat} {l : List (List UInt8)} (h : zdo σ id m t l) (τ : List zh) : zdo (σ ++ τ) id m t l := ⟨zd h.box,zd h.map,zd h.tok⟩
theorem zee.app {σ : List zh} {id m t : Nat} {g : List zJ} (h : zee σ id m t g) (τ : List zh) : zee (σ ++ τ) id m t g := ⟨zd h.box,zd h.map,zd h.tok⟩
theorem tabAt_new (σ : List zh) (l : List (List UInt8)) (τ : List zh) : zdo (σ ++ (tabO σ.length l ++ τ)) (σ.length + 1) σ.length (σ.length + 2) l :=
 ⟨by rw [zx]; rfl,by rw [zy]; rfl,by rw [zx]; rfl⟩
theorem ledAt_new (σ : List zh) (g : List zJ) (τ : List zh) : zee (σ ++ (ledO σ.length g ++ τ)) (σ.length + 1) σ.length (σ.length + 2) g :=
 ⟨by rw [zx]; rfl,by rw [zy]; rfl,by rw [zx]; rfl⟩
theorem putTab_new (σ : List zh) (l l' : List (List UInt8)) (τ : List zh) : putTab (σ ++ (tabO σ.length l ++ τ)) (σ.length + 1) σ.length (σ.length + 2) l' = σ ++ (tabO σ.length l' ++ τ) := by
 unfold putTab
 rw [zO,zO,zI]; rfl
theorem putLed_new (σ : List zh) (g g' : List zJ) (τ : List zh) : putLed (σ ++ (ledO σ.length g ++ τ)) (σ.length + 1) σ.length (σ.length + 2) g' = σ ++ (ledO σ.length g' ++ τ) := by
 unfold putLed
 rw [zI,zO,zO]; rfl
theorem putTab_len (σ : List zh) (id m t : Nat) (l : List (List UInt8)) : (putTab σ id m t l).length = σ.length := by simp [putTab]
theorem putLed_len (σ : List zh) (id m t : Nat) (g : List zJ) : (putLed σ id m t g).length = σ.length := by simp [putLed]
theorem zur {n : Nat} (l : List (List UInt8)) : zvs n (.map (tabM l)) := by
 have key : ∀ (l : List (List UInt8)) (i : Nat), ∀ e ∈ ztI l i,Low n e.1 ∧ Low n e.2 := by
  intro l
  induction l with
  | nil => intro i e h; cases h
  | cons x r ih =>
   intro i e h
   simp only [ztI,List.mem_cons] at h
   rcases h with rfl | h
   ·exact ⟨.d _, .d _⟩
   ·exact ih _ e h
 exact fun e he => key l 0 e he
theorem zus {n : Nat} (g : List zJ) : zvs n (.map (ztE g)) := by
 intro e he
 simp only [ztE,List.mem_map] at he
 obtain ⟨s,_,rfl⟩ := he
 exact ⟨.agg _ (by simp [zeD]), .d _⟩
theorem lowBox {n t m : Nat} {es : List (List D)} (ht : t < n) (hm : m < n) : zvs n (.box [.own t es, .map m]) := by
 intro c hc
 simp only [List.mem_cons,List.not_mem_nil,or_false] at hc
 rcases hc with rfl | rfl
 ·exact .own _ _ ht
 ·exact .map _ hm
theorem zdo.lows {σ : List zh} {id m t : Nat} {l : List (List UInt8)} (h : zdo σ id m t l) (hl : zfs σ.length σ) (l' : List (List UInt8)) : zfs σ.length (putTab σ id m t l') :=
 ((hl.setO (show zvs _ (.tok 1 l'.length) from trivial)).setO (lowBox (zA h.tok) (zA h.map))).setO (zur l')
theorem zee.lows {σ : List zh} {id m t : Nat} {g : List zJ} (h : zee σ id m t g) (hl : zfs σ.length σ) (g' : List zJ) : zfs σ.length (putLed σ id m t g') :=
 ((hl.setO (zus g')).setO (show zvs _ (.tok 2 g'.length) from trivial)).setO (lowBox (zA h.tok) (zA h.map))
theorem low_tabO (n : Nat) (l : List (List UInt8)) : ∀ x ∈ tabO n l,zvs (n + (tabO n l).length) x := by
 intro x hx
 simp only [List.mem_cons,List.not_mem_nil,or_false] at hx
 rcases hx with rfl | rfl | rfl
 ·exact zur l
 ·exact lowBox (by simp) (by simp)
 ·trivial
theorem low_ledO (n : Nat) (g : List zJ) : ∀ x ∈ ledO n g,zvs (n + (ledO n g).length) x := by
 intro x hx
 simp only [List.mem_cons,List.not_mem_nil,or_false] at hx
 rcases hx with rfl | rfl | rfl
 ·exact zus g
 ·exact lowBox (by simp) (by simp)
 ·trivial
end Go.Proofs.YtfgbofkdhfjegaaGreat

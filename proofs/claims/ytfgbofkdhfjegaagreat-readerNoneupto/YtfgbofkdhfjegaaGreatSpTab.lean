/- Byte strings and their numbers; what was signed. No program in sight. -/
import Derived.Test.YtfgbofkdhfjegaaGreatCl1
import Derived.Test.YtfgbofkdhfjegaaGreatAwFrz
set_option linter.all false
namespace Go.AW
def zhe : List (List UInt8) → List UInt8 → Nat → Option Nat
 | [],_,_ => none
 | x :: r,b,i => if b = x then some i else zhe r b (i + 1)
def zcW (l : List (List UInt8)) (b : List UInt8) : Option Nat := zhe l b 0
def zjU : Option Nat → Int
 | some i => ((i + 1 : Nat) : Int)
 | none => 0
def zdw (l : List (List UInt8)) (b : List UInt8) : Int := match zcW l b with
 | some i => ((i + 1 : Nat) : Int)
 | none => if l.length ≥ 1048576 then 0 else ((l.length + 1 : Nat) : Int)
def zeI (l : List (List UInt8)) (b : List UInt8) : List (List UInt8) := match zcW l b with
 | some _ => l
 | none => if l.length ≥ 1048576 then l else l ++ [b]
abbrev zgZ (l : List (List UInt8)) : List (List D) := l.map fun b => [D.slice (bcs b)]
def ztM : List (List UInt8) → Nat → List (AV × AV)
 | [],_ => []
 | x :: r,i => (.d (.str x), .d (.int .i64 ((i + 1 : Nat) : Int))) :: ztM r (i + 1)
def tabM (l : List (List UInt8)) : List (AV × AV) := ztM l 0
theorem zuw (b : List UInt8) : ∀ (l : List (List UInt8)) (i : Nat),zpa .str (.d (.str b)) (ztM l i) i = some ((zhe l b i).map fun k => (k, .d (.int .i64 ((k + 1 : Nat) : Int))))
 | [],_ => rfl
 | x :: r,i => by
  simp only [ztM,zpa,zhf,zhe]
  by_cases h : b = x
  ·simp [h]
  ·have : (b == x) = false := by simpa using h
   simp only [this,if_neg h]
   exact zuw b r (i + 1)
theorem mfind_tab (l : List (List UInt8)) (b : List UInt8) : zpa .str (.d (.str b)) (tabM l) 0 = some ((zcW l b).map fun k => (k, .d (.int .i64 ((k + 1 : Nat) : Int)))) := zuw b l 0
theorem tabMA_add (x : List UInt8) : ∀ (l : List (List UInt8)) (i : Nat),ztM (l ++ [x]) i = ztM l i ++ [(.d (.str x), .d (.int .i64 ((i + l.length + 1 : Nat) : Int)))]
 | [],i => by simp [ztM]
 | y :: r,i => by
  simp only [List.cons_append,ztM,tabMA_add x r (i + 1),List.length_cons]
  rw [show i + 1 + r.length + 1 = i + (r.length + 1) + 1 by omega]
theorem tabM_add (l : List (List UInt8)) (x : List UInt8) : tabM l ++ [(.d (.str x), .d (.int .i64 ((l.length + 1 : Nat) : Int)))] = tabM (l ++ [x]) := by
 unfold tabM
 rw [tabMA_add]; simp
theorem lookAt_lt {b : List UInt8} : ∀ {l : List (List UInt8)} {i k : Nat},zhe l b i = some k → i ≤ k ∧ k < i + l.length ∧ l[k - i]? = some b
 | [],_,_,h => by simp [zhe] at h
 | x :: r,i,k,h => by
  simp only [zhe] at h
  split at h
  ·rename_i e
   cases h; subst e; simp
  ·obtain ⟨h1,h2,h3⟩ := lookAt_lt h
   refine ⟨by omega,by simp; omega, ?_⟩
   obtain ⟨m,hm⟩ : ∃ m,k - i = m + 1 := ⟨k - i - 1,by omega⟩
   rw [hm,List.getElem?_cons_succ]
   rw [show k - (i + 1) = m by omega] at h3
   exact h3
theorem zld {l : List (List UInt8)} {b : List UInt8} {k : Nat} (h : zcW l b = some k) : k < l.length ∧ l[k]? = some b := by
 have := lookAt_lt h
 simpa using this.2
theorem zka {b : List UInt8} {m : List (List UInt8)} : ∀ {l : List (List UInt8)} {i : Nat},zhe (l ++ m) b i = match zhe l b i with | some k => some k | none => zhe m b (i + l.length)
 | [],i => by simp [zhe]
 | x :: r,i => by
  simp only [List.cons_append,zhe,List.length_cons]
  split
  ·rfl
  ·rw [zka,show i + 1 + r.length = i + (r.length + 1) by omega]
theorem look_next {l : List (List UInt8)} {b x : List UInt8} {k : Nat} (h : l[k]? = some x) (h0 : zcW (l.take k) b = none) (hx : (x == b) = false) : zcW (l.take (k + 1)) b = none := by
 have e : ¬ b = x := fun e => by subst e; simp at hx
 rw [List.take_add_one,h]
 unfold zcW at h0 ⊢
 rw [zka,h0]
 simp [zhe,e]
theorem look_hit {l : List (List UInt8)} {b x : List UInt8} {k : Nat} (h : l[k]? = some x) (h0 : zcW (l.take k) b = none) (hx : (x == b) = true) : zcW l b = some k := by
 have e : x = b := by simpa using hx
 subst e
 obtain ⟨hk,hh⟩ := List.getElem?_eq_some_iff.1 h
 have e2 : l = l.take k ++ (x :: l.drop (k + 1)) := by rw [← hh,List.getElem_cons_drop,List.take_append_drop]
 rw [e2]
 unfold zcW at h0 ⊢
 rw [zka,h0]
 simp [zhe]; omega
theorem zuA {l : List (List UInt8)} {b : List UInt8} (h : b ∉ l) : zcW l b = none := by
 cases e : zcW l b with
 | none => rfl
 | some k => exact absurd (List.mem_of_getElem? (zld e).2) h
theorem zvP {l : List (List UInt8)} {b : List UInt8} (h : zcW l b = none) : b ∉ l := by
 have key : ∀ (l : List (List UInt8)) (i : Nat),zhe l b i = none → b ∉ l := by
  intro l
  induction l with
  | nil => intro i _; simp
  | cons x r ih =>
   intro i h
   simp only [zhe] at h
   split at h
   ·cases h
   ·rename_i hne
    simp only [List.mem_cons,not_or]
    exact ⟨hne,ih _ h⟩
 exact key l 0 h
theorem look_new (l : List (List UInt8)) (b : List UInt8) (h : zcW l b = none) : zcW (l ++ [b]) b = some l.length := by
 unfold zcW at h ⊢
 rw [zka,h]
 simp [zhe]
theorem look_more {l m : List (List UInt8)} {b : List UInt8} {k : Nat} (h : zcW l b = some k) : zcW (l ++ m) b = some k := by
 unfold zcW at h ⊢
 rw [zka,h]
abbrev zpP (l : List zI) : List (List D) := zbd l
def zrM (l : List zI) : List (AV × AV) := l.map fun s => (.agg [.d (.int .i64 s.key), .d (.int .i64 s.dig)], .d (.bool true))
def ledAt : List zI → zI → Nat → Option Nat
 | [],_,_ => none
 | x :: r,s,i => if s = x then some i else ledAt r s (i + 1)
theorem sign_keyEq (s x : zI) : zhf (.ints 2) (.agg [.d (.int .i64 s.key), .d (.int .i64 s.dig)]) (.agg [.d (.int .i64 x.key), .d (.int .i64 x.dig)]) = some (decide (s = x)) := by
 have e : s = x ↔ s.key = x.key ∧ s.dig = x.dig := by cases s; cases x; simp
 by_cases h1 : s.key = x.key
 ·by_cases h2 : s.dig = x.dig
  ·rw [decide_eq_true (e.2 ⟨h1,h2⟩)]
   simp [zhf,zdT,h1,h2]
  ·rw [decide_eq_false (fun h => h2 (e.1 h).2)]
   have h2' : (s.dig == x.dig) = false := by simpa using h2
   simp [zhf,zdT,h1,h2']
 ·rw [decide_eq_false (fun h => h1 (e.1 h).1)]
  have h1' : (s.key == x.key) = false := by simpa using h1
  simp [zhf,zdT,h1']
  try exact fun h => absurd h h1
theorem zqm (s : zI) : ∀ (l : List zI) (i : Nat),zpa (.ints 2) (.agg [.d (.int .i64 s.key), .d (.int .i64 s.dig)]) (zrM l) i = some ((ledAt l s i).map fun k => (k, .d (.bool true)))
 | [],_ => rfl
 | x :: r,i => by
  have ih := zqm s r (i + 1)
  simp only [zrM] at ih
  simp only [zrM,List.map_cons,zpa,sign_keyEq,ledAt]
  by_cases h : s = x
  ·simp [h]
  ·rw [decide_eq_false h,if_neg h]
   exact ih
theorem zqq {s : zI} : ∀ {l : List zI} {i : Nat},ledAt l s i = none ↔ s ∉ l
 | [],i => by simp [ledAt]
 | x :: r,i => by
  simp only [ledAt,List.mem_cons,not_or]
  by_cases h : s = x
  ·simp [h]
  ·rw [if_neg h,zqq]; simp [h]
theorem zoZ {l : List zI} {s : zI} (h : s ∈ l) : ∃ k,zpa (.ints 2) (.agg [.d (.int .i64 s.key), .d (.int .i64 s.dig)]) (zrM l) 0 = some (some (k, .d (.bool true))) := by
 rw [zqm]
 cases e : ledAt l s 0 with
 | none => exact absurd h (zqq.1 e)
 | some k => exact ⟨k,rfl⟩
theorem zqR {l : List zI} {s : zI} (h : s ∉ l) : zpa (.ints 2) (.agg [.d (.int .i64 s.key), .d (.int .i64 s.dig)]) (zrM l) 0 = some none := by
 rw [zqm,zqq.2 h]; rfl
theorem ledM_add (l : List zI) (s : zI) : zrM l ++ [(.agg [.d (.int .i64 s.key), .d (.int .i64 s.dig)], .d (.bool true))] = zrM (l ++ [s]) := by simp [zrM]
def zlJ (l : List zI) (s : zI) : List zI := if s ∈ l then l else l ++ [s]
def zeh (k d : Int) : Int := if k < 0 ∨ k ≥ 21 then 20 else if d < 1 then 1 else 0
theorem zef {n : Nat} {σ' τ : List zh} {K : KT} {l : List AV} (hn : σ'.length = n) (h1 : Low n (dmT (zcC l))) (hl : zfn n σ') (h : K (dmT (zcC l)) σ') : Ends n K (some l) (σ' ++ τ) := by
 subst hn
 unfold Ends
 rw [ziR]
 exact ⟨h1,hl,h⟩
theorem zhi {n : Nat} {σ' : List zh} {K : KT} {l : List AV} (hn : σ'.length = n) (h1 : Low n (dmT (zcC l))) (hl : zfn n σ') (h : K (dmT (zcC l)) σ') : Ends n K (some l) σ' := by
 have := zef (τ := []) hn h1 hl h
 simpa using this
theorem zuR {σ τ : List zh} {id t : Nat} {es : List (List D)} {X : zh} {K : KT} {l : List AV} (hT : σ[id]? = some X) (h1 : Low σ.length (dmT (zcC l))) (hl : zfn σ.length σ)
  (h : K (dmT (zcC l)) (σ.set id (.box [.d (.slice es)]))) : EndsW σ.length K (some l) (σ.set id (.box [.own t es]) ++ τ) := by
 refine ⟨_, .dataB id 0 [.own t es] (.own t es) es (zd (zbv hT)) rfl rfl (.refl _ _), ?_⟩
 rw [zcd (zbv hT),List.set_set]
 refine zig h1 hl ?_ h
 intro c hc
 simp only [List.set_cons_zero,List.mem_cons,List.not_mem_nil,or_false] at hc
 subst hc; exact .d _
end Go.AW

/- Contracts: tables of byte strings and ledgers of signatures, as the program zvQ them. -/
set_option maxRecDepth 100000
namespace Go.Proofs.YtfgbofkdhfjegaaGreat
open Go.AW
structure zdh (σ : List zh) (id m t : Nat) (l : List (List UInt8)) : Prop where
 box : σ[id]? = some (.box [.own t (zgZ l), .map m])
 map : σ[m]? = some (.map (tabM l))
 tok : σ[t]? = some (.tok 1 l.length)
structure zee (σ : List zh) (id m t : Nat) (g : List zI) : Prop where
 box : σ[id]? = some (.box [.own t (zpP g), .map m])
 map : σ[m]? = some (.map (zrM g))
 tok : σ[t]? = some (.tok 2 g.length)
def putTab (σ : List zh) (id m t : Nat) (l : List (List UInt8)) : List zh := ((σ.set t (.tok 1 l.length)).set id (.box [.own t (zgZ l), .map m])).set m (.map (tabM l))
def putLed (σ : List zh) (id m t : Nat) (g : List zI) : List zh := ((σ.set m (.map (zrM g))).set t (.tok 2 g.length)).set id (.box [.own t (zpP g), .map m])
abbrev zvA (n : Nat) (l : List (List UInt8)) : List zh := [.map (tabM l), .box [.own (n + 2) (zgZ l), .map n], .tok 1 l.length]
abbrev ledO (n : Nat) (g : List zI) : List zh := [.map (zrM g), .box [.own (n + 2) (zpP g), .map n], .tok 2 g.length]
theorem zdh.ne {σ : List zh} {id m t : Nat} {l : List (List UInt8)} (h : zdh σ id m t l) : id ≠ m ∧ id ≠ t ∧ m ≠ t := by
 refine ⟨fun e => ?_,fun e => ?_,fun e => ?_⟩ <;> subst e
 ·have := h.box; rw [h.map] at this; cases this
 ·have := h.box; rw [h.tok] at this; cases this
 ·have := h.map; rw [h.tok] at this; cases this
theorem zee.ne {σ : List zh} {id m t : Nat} {g : List zI} (h : zee σ id m t g) : id ≠ m ∧ id ≠ t ∧ m ≠ t := by
 refine ⟨fun e => ?_,fun e => ?_,fun e => ?_⟩ <;> subst e
 ·have := h.box; rw [h.map] at this; cases this
 ·have := h.box; rw [h.tok] at this; cases this
 ·have := h.map; rw [h.tok] at this; cases this
theorem zdh.self {σ : List zh} {id m t : Nat} {l : List (List UInt8)} (h : zdh σ id m t l) : putTab σ id m t l = σ := by
 unfold putTab
 rw [zbq h.tok,zbq h.box,zbq h.map]
theorem zee.self {σ : List zh} {id m t : Nat} {g : List zI} (h : zee σ id m t g) : putLed σ id m t g = σ := by
 unfold putLed
 rw [zbq h.map,zbq h.tok,zbq h.box]
theorem zdh.app {σ : List zh} {id m t : Nat} {l : List (List UInt8)} (h : zdh σ id m t l) (τ : List zh) : zdh (σ ++ τ) id m t l := ⟨zd h.box,zd h.map,zd h.tok⟩
theorem zee.app {σ : List zh} {id m t : Nat} {g : List zI} (h : zee σ id m t g) (τ : List zh) : zee (σ ++ τ) id m t g := ⟨zd h.box,zd h.map,zd h.tok⟩
theorem tabAt_new (σ : List zh) (l : List (List UInt8)) (τ : List zh) : zdh (σ ++ (zvA σ.length l ++ τ)) (σ.length + 1) σ.length (σ.length + 2) l :=
 ⟨by rw [zt]; rfl,by rw [zy]; rfl,by rw [zt]; rfl⟩
theorem ledAt_new (σ : List zh) (g : List zI) (τ : List zh) : zee (σ ++ (ledO σ.length g ++ τ)) (σ.length + 1) σ.length (σ.length + 2) g :=
 ⟨by rw [zt]; rfl,by rw [zy]; rfl,by rw [zt]; rfl⟩
theorem putTab_new (σ : List zh) (l l' : List (List UInt8)) (τ : List zh) : putTab (σ ++ (zvA σ.length l ++ τ)) (σ.length + 1) σ.length (σ.length + 2) l' = σ ++ (zvA σ.length l' ++ τ) := by
 unfold putTab
 rw [zN,zN,zJ]; rfl
theorem putLed_new (σ : List zh) (g g' : List zI) (τ : List zh) : putLed (σ ++ (ledO σ.length g ++ τ)) (σ.length + 1) σ.length (σ.length + 2) g' = σ ++ (ledO σ.length g' ++ τ) := by
 unfold putLed
 rw [zJ,zN,zN]; rfl
theorem putTab_len (σ : List zh) (id m t : Nat) (l : List (List UInt8)) : (putTab σ id m t l).length = σ.length := by simp [putTab]
theorem putLed_len (σ : List zh) (id m t : Nat) (g : List zI) : (putLed σ id m t g).length = σ.length := by simp [putLed]
theorem zuy {n : Nat} (l : List (List UInt8)) : zug n (.map (tabM l)) := by
 have key : ∀ (l : List (List UInt8)) (i : Nat), ∀ e ∈ ztM l i,Low n e.1 ∧ Low n e.2 := by
  intro l
  induction l with
  | nil => intro i e h; cases h
  | cons x r ih =>
   intro i e h
   simp only [ztM,List.mem_cons] at h
   rcases h with rfl | h
   ·exact ⟨.d _, .d _⟩
   ·exact ih _ e h
 exact fun e he => key l 0 e he
theorem zuz {n : Nat} (g : List zI) : zug n (.map (zrM g)) := by
 intro e he
 simp only [zrM,List.mem_map] at he
 obtain ⟨s,_,rfl⟩ := he
 exact ⟨.agg _ (by simp [zeU]), .d _⟩
theorem lowBox {n t m : Nat} {es : List (List D)} (ht : t < n) (hm : m < n) : zug n (.box [.own t es, .map m]) := by
 intro c hc
 simp only [List.mem_cons,List.not_mem_nil,or_false] at hc
 rcases hc with rfl | rfl
 ·exact .own _ _ ht
 ·exact .map _ hm
theorem zdh.lows {σ : List zh} {id m t : Nat} {l : List (List UInt8)} (h : zdh σ id m t l) (hl : zfn σ.length σ) (l' : List (List UInt8)) : zfn σ.length (putTab σ id m t l') :=
 ((hl.setO (show zug _ (.tok 1 l'.length) from trivial)).setO (lowBox (zx h.tok) (zx h.map))).setO (zuy l')
theorem zee.lows {σ : List zh} {id m t : Nat} {g : List zI} (h : zee σ id m t g) (hl : zfn σ.length σ) (g' : List zI) : zfn σ.length (putLed σ id m t g') :=
 ((hl.setO (zuz g')).setO (show zug _ (.tok 2 g'.length) from trivial)).setO (lowBox (zx h.tok) (zx h.map))
theorem low_tabO (n : Nat) (l : List (List UInt8)) : ∀ x ∈ zvA n l,zug (n + (zvA n l).length) x := by
 intro x hx
 simp only [List.mem_cons,List.not_mem_nil,or_false] at hx
 rcases hx with rfl | rfl | rfl
 ·exact zuy l
 ·exact lowBox (by simp) (by simp)
 ·trivial
theorem low_ledO (n : Nat) (g : List zI) : ∀ x ∈ ledO n g,zug (n + (ledO n g).length) x := by
 intro x hx
 simp only [List.mem_cons,List.not_mem_nil,or_false] at hx
 rcases hx with rfl | rfl | rfl
 ·exact zuz g
 ·exact lowBox (by simp) (by simp)
 ·trivial
end Go.Proofs.YtfgbofkdhfjegaaGreat

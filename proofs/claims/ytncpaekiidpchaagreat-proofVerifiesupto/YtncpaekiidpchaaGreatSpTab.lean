/- Byte strings and their numbers; what was signed. No program in sight. -/
import Derived.Test.YtncpaekiidpchaaGreatCl1
import Derived.Test.YtncpaekiidpchaaGreatAwFrz
set_option linter.all false
namespace Go.AW
def zgw : List (List UInt8) → List UInt8 → Nat → Option Nat
 | [],_,_ => none
 | x :: r,b,i => if b = x then some i else zgw r b (i + 1)
def zcX (l : List (List UInt8)) (b : List UInt8) : Option Nat := zgw l b 0
def zlb : Option Nat → Int
 | some i => ((i + 1 : Nat) : Int)
 | none => 0
def zew (l : List (List UInt8)) (b : List UInt8) : Int := match zcX l b with
 | some i => ((i + 1 : Nat) : Int)
 | none => if l.length ≥ 1048576 then 0 else ((l.length + 1 : Nat) : Int)
def zfo (l : List (List UInt8)) (b : List UInt8) : List (List UInt8) := match zcX l b with
 | some _ => l
 | none => if l.length ≥ 1048576 then l else l ++ [b]
abbrev zcy (l : List (List UInt8)) : List (List D) := l.map fun b => [D.slice (bcs b)]
def zsV : List (List UInt8) → Nat → List (AV × AV)
 | [],_ => []
 | x :: r,i => (.d (.str x), .d (.int .i64 ((i + 1 : Nat) : Int))) :: zsV r (i + 1)
def tabM (l : List (List UInt8)) : List (AV × AV) := zsV l 0
theorem ztz (b : List UInt8) : ∀ (l : List (List UInt8)) (i : Nat),zkR .str (.d (.str b)) (zsV l i) i = some ((zgw l b i).map fun k => (k, .d (.int .i64 ((k + 1 : Nat) : Int))))
 | [],_ => rfl
 | x :: r,i => by
  simp only [zsV,zkR,zfG,zgw]
  by_cases h : b = x
  ·simp [h]
  ·have : (b == x) = false := by simpa using h
   simp only [this,if_neg h]
   exact ztz b r (i + 1)
theorem mfind_tab (l : List (List UInt8)) (b : List UInt8) : zkR .str (.d (.str b)) (tabM l) 0 = some ((zcX l b).map fun k => (k, .d (.int .i64 ((k + 1 : Nat) : Int)))) := ztz b l 0
theorem tabMA_add (x : List UInt8) : ∀ (l : List (List UInt8)) (i : Nat),zsV (l ++ [x]) i = zsV l i ++ [(.d (.str x), .d (.int .i64 ((i + l.length + 1 : Nat) : Int)))]
 | [],i => by simp [zsV]
 | y :: r,i => by
  simp only [List.cons_append,zsV,tabMA_add x r (i + 1),List.length_cons]
  rw [show i + 1 + r.length + 1 = i + (r.length + 1) + 1 by omega]
theorem tabM_add (l : List (List UInt8)) (x : List UInt8) : tabM l ++ [(.d (.str x), .d (.int .i64 ((l.length + 1 : Nat) : Int)))] = tabM (l ++ [x]) := by
 unfold tabM
 rw [tabMA_add]; simp
theorem lookAt_lt {b : List UInt8} : ∀ {l : List (List UInt8)} {i k : Nat},zgw l b i = some k → i ≤ k ∧ k < i + l.length ∧ l[k - i]? = some b
 | [],_,_,h => by simp [zgw] at h
 | x :: r,i,k,h => by
  simp only [zgw] at h
  split at h
  ·rename_i e
   cases h; subst e; simp
  ·obtain ⟨h1,h2,h3⟩ := lookAt_lt h
   refine ⟨by omega,by simp; omega, ?_⟩
   obtain ⟨m,hm⟩ : ∃ m,k - i = m + 1 := ⟨k - i - 1,by omega⟩
   rw [hm,List.getElem?_cons_succ]
   rw [show k - (i + 1) = m by omega] at h3
   exact h3
theorem zvo {l : List (List UInt8)} {b : List UInt8} {k : Nat} (h : zcX l b = some k) : k < l.length ∧ l[k]? = some b := by
 have := lookAt_lt h
 simpa using this.2
theorem zpt {b : List UInt8} {m : List (List UInt8)} : ∀ {l : List (List UInt8)} {i : Nat},zgw (l ++ m) b i = match zgw l b i with | some k => some k | none => zgw m b (i + l.length)
 | [],i => by simp [zgw]
 | x :: r,i => by
  simp only [List.cons_append,zgw,List.length_cons]
  split
  ·rfl
  ·rw [zpt,show i + 1 + r.length = i + (r.length + 1) by omega]
theorem look_next {l : List (List UInt8)} {b x : List UInt8} {k : Nat} (h : l[k]? = some x) (h0 : zcX (l.take k) b = none) (hx : (x == b) = false) : zcX (l.take (k + 1)) b = none := by
 have e : ¬ b = x := fun e => by subst e; simp at hx
 rw [List.take_add_one,h]
 unfold zcX at h0 ⊢
 rw [zpt,h0]
 simp [zgw,e]
theorem look_hit {l : List (List UInt8)} {b x : List UInt8} {k : Nat} (h : l[k]? = some x) (h0 : zcX (l.take k) b = none) (hx : (x == b) = true) : zcX l b = some k := by
 have e : x = b := by simpa using hx
 subst e
 obtain ⟨hk,hh⟩ := List.getElem?_eq_some_iff.1 h
 have e2 : l = l.take k ++ (x :: l.drop (k + 1)) := by rw [← hh,List.getElem_cons_drop,List.take_append_drop]
 rw [e2]
 unfold zcX at h0 ⊢
 rw [zpt,h0]
 simp [zgw]; omega
theorem ztD {l : List (List UInt8)} {b : List UInt8} (h : b ∉ l) : zcX l b = none := by
 cases e : zcX l b with
 | none => rfl
 | some k => exact absurd (List.mem_of_getElem? (zvo e).2) h
theorem zvn {l : List (List UInt8)} {b : List UInt8} (h : zcX l b = none) : b ∉ l := by
 have key : ∀ (l : List (List UInt8)) (i : Nat),zgw l b i = none → b ∉ l := by
  intro l
  induction l with
  | nil => intro i _; simp
  | cons x r ih =>
   intro i h
   simp only [zgw] at h
   split at h
   ·cases h
   ·rename_i hne
    simp only [List.mem_cons,not_or]
    exact ⟨hne,ih _ h⟩
 exact key l 0 h
abbrev zoQ (l : List zS) : List (List D) := zax l
def zte (l : List zS) : List (AV × AV) := l.map fun s => (.agg [.d (.int .i64 s.key), .d (.int .i64 s.dig)], .d (.bool true))
def ledAt : List zS → zS → Nat → Option Nat
 | [],_,_ => none
 | x :: r,s,i => if s = x then some i else ledAt r s (i + 1)
theorem sign_keyEq (s x : zS) : zfG (.ints 2) (.agg [.d (.int .i64 s.key), .d (.int .i64 s.dig)]) (.agg [.d (.int .i64 x.key), .d (.int .i64 x.dig)]) = some (decide (s = x)) := by
 have e : s = x ↔ s.key = x.key ∧ s.dig = x.dig := by cases s; cases x; simp
 by_cases h1 : s.key = x.key
 ·by_cases h2 : s.dig = x.dig
  ·rw [decide_eq_true (e.2 ⟨h1,h2⟩)]
   simp [zfG,zda,h1,h2]
  ·rw [decide_eq_false (fun h => h2 (e.1 h).2)]
   have h2' : (s.dig == x.dig) = false := by simpa using h2
   simp [zfG,zda,h1,h2']
 ·rw [decide_eq_false (fun h => h1 (e.1 h).1)]
  have h1' : (s.key == x.key) = false := by simpa using h1
  simp [zfG,zda,h1']
  try exact fun h => absurd h h1
theorem zpq (s : zS) : ∀ (l : List zS) (i : Nat),zkR (.ints 2) (.agg [.d (.int .i64 s.key), .d (.int .i64 s.dig)]) (zte l) i = some ((ledAt l s i).map fun k => (k, .d (.bool true)))
 | [],_ => rfl
 | x :: r,i => by
  have ih := zpq s r (i + 1)
  simp only [zte] at ih
  simp only [zte,List.map_cons,zkR,sign_keyEq,ledAt]
  by_cases h : s = x
  ·simp [h]
  ·rw [decide_eq_false h,if_neg h]
   exact ih
theorem zpv {s : zS} : ∀ {l : List zS} {i : Nat},ledAt l s i = none ↔ s ∉ l
 | [],i => by simp [ledAt]
 | x :: r,i => by
  simp only [ledAt,List.mem_cons,not_or]
  by_cases h : s = x
  ·simp [h]
  ·rw [if_neg h,zpv]; simp [h]
theorem znO {l : List zS} {s : zS} (h : s ∈ l) : ∃ k,zkR (.ints 2) (.agg [.d (.int .i64 s.key), .d (.int .i64 s.dig)]) (zte l) 0 = some (some (k, .d (.bool true))) := by
 rw [zpq]
 cases e : ledAt l s 0 with
 | none => exact absurd h (zpv.1 e)
 | some k => exact ⟨k,rfl⟩
theorem zpR {l : List zS} {s : zS} (h : s ∉ l) : zkR (.ints 2) (.agg [.d (.int .i64 s.key), .d (.int .i64 s.dig)]) (zte l) 0 = some none := by
 rw [zpq,zpv.2 h]; rfl
theorem ledM_add (l : List zS) (s : zS) : zte l ++ [(.agg [.d (.int .i64 s.key), .d (.int .i64 s.dig)], .d (.bool true))] = zte (l ++ [s]) := by simp [zte]
def zsW (l : List zS) (s : zS) : List zS := if s ∈ l then l else l ++ [s]
def zeW (k d : Int) : Int := if k < 0 ∨ k ≥ 21 then 20 else if d < 1 then 1 else 0
theorem zcN {n : Nat} {σ' τ : List zh} {K : KT} {l : List AV} (hn : σ'.length = n) (h1 : Low n (dmT (zcf l))) (hl : zfn n σ') (h : K (dmT (zcf l)) σ') : Ends n K (some l) (σ' ++ τ) := by
 subst hn
 unfold Ends
 rw [zjJ]
 exact ⟨h1,hl,h⟩
theorem zco {n : Nat} {σ' : List zh} {K : KT} {l : List AV} (hn : σ'.length = n) (h1 : Low n (dmT (zcf l))) (hl : zfn n σ') (h : K (dmT (zcf l)) σ') : Ends n K (some l) σ' := by
 have := zcN (τ := []) hn h1 hl h
 simpa using this
theorem ztT {σ τ : List zh} {id t : Nat} {es : List (List D)} {X : zh} {K : KT} {l : List AV} (hT : σ[id]? = some X) (h1 : Low σ.length (dmT (zcf l))) (hl : zfn σ.length σ)
  (h : K (dmT (zcf l)) (σ.set id (.box [.d (.slice es)]))) : EndsW σ.length K (some l) (σ.set id (.box [.own t es]) ++ τ) := by
 refine ⟨_, .dataB id 0 [.own t es] (.own t es) es (zf (zbm hT)) rfl rfl (.refl _ _), ?_⟩
 rw [zbD (zbm hT),List.set_set]
 refine zji h1 hl ?_ h
 intro c hc
 simp only [List.set_cons_zero,List.mem_cons,List.not_mem_nil,or_false] at hc
 subst hc; exact .d _
end Go.AW

/- Contracts: tables of byte strings and ledgers of signatures, as the program zvq them. -/
set_option maxRecDepth 100000
namespace Go.Proofs.YtncpaekiidpchaaGreat
open Go.AW
structure zcq (σ : List zh) (id m t : Nat) (l : List (List UInt8)) : Prop where
 box : σ[id]? = some (.box [.own t (zcy l), .map m])
 map : σ[m]? = some (.map (tabM l))
 tok : σ[t]? = some (.tok 1 l.length)
structure zev (σ : List zh) (id m t : Nat) (g : List zS) : Prop where
 box : σ[id]? = some (.box [.own t (zoQ g), .map m])
 map : σ[m]? = some (.map (zte g))
 tok : σ[t]? = some (.tok 2 g.length)
def putTab (σ : List zh) (id m t : Nat) (l : List (List UInt8)) : List zh := ((σ.set t (.tok 1 l.length)).set id (.box [.own t (zcy l), .map m])).set m (.map (tabM l))
def putLed (σ : List zh) (id m t : Nat) (g : List zS) : List zh := ((σ.set m (.map (zte g))).set t (.tok 2 g.length)).set id (.box [.own t (zoQ g), .map m])
abbrev tabO (n : Nat) (l : List (List UInt8)) : List zh := [.map (tabM l), .box [.own (n + 2) (zcy l), .map n], .tok 1 l.length]
abbrev ledO (n : Nat) (g : List zS) : List zh := [.map (zte g), .box [.own (n + 2) (zoQ g), .map n], .tok 2 g.length]
theorem zcq.ne {σ : List zh} {id m t : Nat} {l : List (List UInt8)} (h : zcq σ id m t l) : id ≠ m ∧ id ≠ t ∧ m ≠ t := by
 refine ⟨fun e => ?_,fun e => ?_,fun e => ?_⟩ <;> subst e
 ·have := h.box; rw [h.map] at this; cases this
 ·have := h.box; rw [h.tok] at this; cases this
 ·have := h.map; rw [h.tok] at this; cases this
theorem zev.ne {σ : List zh} {id m t : Nat} {g : List zS} (h : zev σ id m t g) : id ≠ m ∧ id ≠ t ∧ m ≠ t := by
 refine ⟨fun e => ?_,fun e => ?_,fun e => ?_⟩ <;> subst e
 ·have := h.box; rw [h.map] at this; cases this
 ·have := h.box; rw [h.tok] at this; cases this
 ·have := h.map; rw [h.tok] at this; cases this
theorem zcq.self {σ : List zh} {id m t : Nat} {l : List (List UInt8)} (h : zcq σ id m t l) : putTab σ id m t l = σ := by
 unfold putTab
 rw [zbC h.tok,zbC h.box,zbC h.map]
theorem zev.self {σ : List zh} {id m t : Nat} {g : List zS} (h : zev σ id m t g) : putLed σ id m t g = σ := by
 unfold putLed
 rw [zbC h.map,zbC h.tok,zbC h.box]
theorem zcq.app {σ : List zh} {id m t : Nat} {l : List (List UInt8)} (h : zcq σ id m t l) (τ : List zh) : zcq (σ ++ τ) id m t l := ⟨zf h.box,zf h.map,zf h.tok⟩
theorem zev.app {σ : List zh} {id m t : Nat} {g : List zS} (h : zev σ id m t g) (τ : List zh) : zev (σ ++ τ) id m t g := ⟨zf h.box,zf h.map,zf h.tok⟩
theorem tabAt_new (σ : List zh) (l : List (List UInt8)) (τ : List zh) : zcq (σ ++ (tabO σ.length l ++ τ)) (σ.length + 1) σ.length (σ.length + 2) l :=
 ⟨by rw [zq]; rfl,by rw [zx]; rfl,by rw [zq]; rfl⟩
theorem ledAt_new (σ : List zh) (g : List zS) (τ : List zh) : zev (σ ++ (ledO σ.length g ++ τ)) (σ.length + 1) σ.length (σ.length + 2) g :=
 ⟨by rw [zq]; rfl,by rw [zx]; rfl,by rw [zq]; rfl⟩
theorem putTab_new (σ : List zh) (l l' : List (List UInt8)) (τ : List zh) : putTab (σ ++ (tabO σ.length l ++ τ)) (σ.length + 1) σ.length (σ.length + 2) l' = σ ++ (tabO σ.length l' ++ τ) := by
 unfold putTab
 rw [zO,zO,zI]; rfl
theorem putLed_new (σ : List zh) (g g' : List zS) (τ : List zh) : putLed (σ ++ (ledO σ.length g ++ τ)) (σ.length + 1) σ.length (σ.length + 2) g' = σ ++ (ledO σ.length g' ++ τ) := by
 unfold putLed
 rw [zI,zO,zO]; rfl
theorem ztv {σ : List zh} {id m t : Nat} {l : List (List UInt8)} (h : zcq σ id m t l) (l' : List (List UInt8)) (τ : List zh) : putTab (σ ++ τ) id m t l' = putTab σ id m t l' ++ τ := by
 have h1 := zH h.box; have h2 := zH h.map; have h3 := zH h.tok
 unfold putTab
 rw [List.set_append_left _ _ h3,List.set_append_left _ _ (by simpa using h1),List.set_append_left _ _ (by simpa using h2)]
theorem zcv (σ : List zh) (id m t : Nat) (l : List (List UInt8)) : (putTab σ id m t l).length = σ.length := by simp [putTab]
theorem putLed_len (σ : List zh) (id m t : Nat) (g : List zS) : (putLed σ id m t g).length = σ.length := by simp [putLed]
theorem zps {n : Nat} (l : List (List UInt8)) : ztl n (.map (tabM l)) := by
 have key : ∀ (l : List (List UInt8)) (i : Nat), ∀ e ∈ zsV l i,Low n e.1 ∧ Low n e.2 := by
  intro l
  induction l with
  | nil => intro i e h; cases h
  | cons x r ih =>
   intro i e h
   simp only [zsV,List.mem_cons] at h
   rcases h with rfl | h
   ·exact ⟨.d _, .d _⟩
   ·exact ih _ e h
 exact fun e he => key l 0 e he
theorem ztC {n : Nat} (g : List zS) : ztl n (.map (zte g)) := by
 intro e he
 simp only [zte,List.mem_map] at he
 obtain ⟨s,_,rfl⟩ := he
 exact ⟨.agg _ (by simp [zcZ]), .d _⟩
theorem lowBox {n t m : Nat} {es : List (List D)} (ht : t < n) (hm : m < n) : ztl n (.box [.own t es, .map m]) := by
 intro c hc
 simp only [List.mem_cons,List.not_mem_nil,or_false] at hc
 rcases hc with rfl | rfl
 ·exact .own _ _ ht
 ·exact .map _ hm
theorem zcq.lows {σ : List zh} {id m t : Nat} {l : List (List UInt8)} (h : zcq σ id m t l) (hl : zfn σ.length σ) (l' : List (List UInt8)) : zfn σ.length (putTab σ id m t l') :=
 ((hl.setO (show ztl _ (.tok 1 l'.length) from trivial)).setO (lowBox (zH h.tok) (zH h.map))).setO (zps l')
theorem zev.lows {σ : List zh} {id m t : Nat} {g : List zS} (h : zev σ id m t g) (hl : zfn σ.length σ) (g' : List zS) : zfn σ.length (putLed σ id m t g') :=
 ((hl.setO (ztC g')).setO (show ztl _ (.tok 2 g'.length) from trivial)).setO (lowBox (zH h.tok) (zH h.map))
theorem low_tabO (n : Nat) (l : List (List UInt8)) : ∀ x ∈ tabO n l,ztl (n + (tabO n l).length) x := by
 intro x hx
 simp only [List.mem_cons,List.not_mem_nil,or_false] at hx
 rcases hx with rfl | rfl | rfl
 ·exact zps l
 ·exact lowBox (by simp) (by simp)
 ·trivial
theorem low_ledO (n : Nat) (g : List zS) : ∀ x ∈ ledO n g,ztl (n + (ledO n g).length) x := by
 intro x hx
 simp only [List.mem_cons,List.not_mem_nil,or_false] at hx
 rcases hx with rfl | rfl | rfl
 ·exact ztC g
 ·exact lowBox (by simp) (by simp)
 ·trivial
end Go.Proofs.YtncpaekiidpchaaGreat

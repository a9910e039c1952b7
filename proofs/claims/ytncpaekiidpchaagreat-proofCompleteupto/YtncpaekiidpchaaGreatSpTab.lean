/- Byte strings and their numbers; what was signed. No program in sight. -/
import Derived.Test.YtncpaekiidpchaaGreatCl1
import Derived.Test.YtncpaekiidpchaaGreatAwFrz
set_option linter.all false
namespace Go.AW
def zfB : List (List UInt8) → List UInt8 → Nat → Option Nat
 | [],_,_ => none
 | x :: r,b,i => if b = x then some i else zfB r b (i + 1)
def zcu (l : List (List UInt8)) (b : List UInt8) : Option Nat := zfB l b 0
def zks : Option Nat → Int
 | some i => ((i + 1 : Nat) : Int)
 | none => 0
def zcI (l : List (List UInt8)) (b : List UInt8) : Int := match zcu l b with
 | some i => ((i + 1 : Nat) : Int)
 | none => if l.length ≥ 1048576 then 0 else ((l.length + 1 : Nat) : Int)
def zdH (l : List (List UInt8)) (b : List UInt8) : List (List UInt8) := match zcu l b with
 | some _ => l
 | none => if l.length ≥ 1048576 then l else l ++ [b]
abbrev zdt (l : List (List UInt8)) : List (List D) := l.map fun b => [D.slice (bcs b)]
def zrS : List (List UInt8) → Nat → List (AV × AV)
 | [],_ => []
 | x :: r,i => (.d (.str x), .d (.int .i64 ((i + 1 : Nat) : Int))) :: zrS r (i + 1)
def tabM (l : List (List UInt8)) : List (AV × AV) := zrS l 0
theorem zsu (b : List UInt8) : ∀ (l : List (List UInt8)) (i : Nat),zki .str (.d (.str b)) (zrS l i) i = some ((zfB l b i).map fun k => (k, .d (.int .i64 ((k + 1 : Nat) : Int))))
 | [],_ => rfl
 | x :: r,i => by
  simp only [zrS,zki,zfp,zfB]
  by_cases h : b = x
  ·simp [h]
  ·have : (b == x) = false := by simpa using h
   simp only [this,if_neg h]
   exact zsu b r (i + 1)
theorem mfind_tab (l : List (List UInt8)) (b : List UInt8) : zki .str (.d (.str b)) (tabM l) 0 = some ((zcu l b).map fun k => (k, .d (.int .i64 ((k + 1 : Nat) : Int)))) := zsu b l 0
theorem tabMA_add (x : List UInt8) : ∀ (l : List (List UInt8)) (i : Nat),zrS (l ++ [x]) i = zrS l i ++ [(.d (.str x), .d (.int .i64 ((i + l.length + 1 : Nat) : Int)))]
 | [],i => by simp [zrS]
 | y :: r,i => by
  simp only [List.cons_append,zrS,tabMA_add x r (i + 1),List.length_cons]
  rw [show i + 1 + r.length + 1 = i + (r.length + 1) + 1 by omega]
theorem tabM_add (l : List (List UInt8)) (x : List UInt8) : tabM l ++ [(.d (.str x), .d (.int .i64 ((l.length + 1 : Nat) : Int)))] = tabM (l ++ [x]) := by
 unfold tabM
 rw [tabMA_add]; simp
theorem lookAt_lt {b : List UInt8} : ∀ {l : List (List UInt8)} {i k : Nat},zfB l b i = some k → i ≤ k ∧ k < i + l.length ∧ l[k - i]? = some b
 | [],_,_,h => by simp [zfB] at h
 | x :: r,i,k,h => by
  simp only [zfB] at h
  split at h
  ·rename_i e
   cases h; subst e; simp
  ·obtain ⟨h1,h2,h3⟩ := lookAt_lt h
   refine ⟨by omega,by simp; omega, ?_⟩
   obtain ⟨m,hm⟩ : ∃ m,k - i = m + 1 := ⟨k - i - 1,by omega⟩
   rw [hm,List.getElem?_cons_succ]
   rw [show k - (i + 1) = m by omega] at h3
   exact h3
theorem zjy {l : List (List UInt8)} {b : List UInt8} {k : Nat} (h : zcu l b = some k) : k < l.length ∧ l[k]? = some b := by
 have := lookAt_lt h
 simpa using this.2
theorem ziz {b : List UInt8} {m : List (List UInt8)} : ∀ {l : List (List UInt8)} {i : Nat},zfB (l ++ m) b i = match zfB l b i with | some k => some k | none => zfB m b (i + l.length)
 | [],i => by simp [zfB]
 | x :: r,i => by
  simp only [List.cons_append,zfB,List.length_cons]
  split
  ·rfl
  ·rw [ziz,show i + 1 + r.length = i + (r.length + 1) by omega]
theorem look_next {l : List (List UInt8)} {b x : List UInt8} {k : Nat} (h : l[k]? = some x) (h0 : zcu (l.take k) b = none) (hx : (x == b) = false) : zcu (l.take (k + 1)) b = none := by
 have e : ¬ b = x := fun e => by subst e; simp at hx
 rw [List.take_add_one,h]
 unfold zcu at h0 ⊢
 rw [ziz,h0]
 simp [zfB,e]
theorem look_hit {l : List (List UInt8)} {b x : List UInt8} {k : Nat} (h : l[k]? = some x) (h0 : zcu (l.take k) b = none) (hx : (x == b) = true) : zcu l b = some k := by
 have e : x = b := by simpa using hx
 subst e
 obtain ⟨hk,hh⟩ := List.getElem?_eq_some_iff.1 h
 have e2 : l = l.take k ++ (x :: l.drop (k + 1)) := by rw [← hh,List.getElem_cons_drop,List.take_append_drop]
 rw [e2]
 unfold zcu at h0 ⊢
 rw [ziz,h0]
 simp [zfB]; omega
theorem zsx {l : List (List UInt8)} {b : List UInt8} (h : b ∉ l) : zcu l b = none := by
 cases e : zcu l b with
 | none => rfl
 | some k => exact absurd (List.mem_of_getElem? (zjy e).2) h
theorem ztY {l : List (List UInt8)} {b : List UInt8} (h : zcu l b = none) : b ∉ l := by
 have key : ∀ (l : List (List UInt8)) (i : Nat),zfB l b i = none → b ∉ l := by
  intro l
  induction l with
  | nil => intro i _; simp
  | cons x r ih =>
   intro i h
   simp only [zfB] at h
   split at h
   ·cases h
   ·rename_i hne
    simp only [List.mem_cons,not_or]
    exact ⟨hne,ih _ h⟩
 exact key l 0 h
theorem look_new (l : List (List UInt8)) (b : List UInt8) (h : zcu l b = none) : zcu (l ++ [b]) b = some l.length := by
 unfold zcu at h ⊢
 rw [ziz,h]
 simp [zfB]
theorem look_more {l m : List (List UInt8)} {b : List UInt8} {k : Nat} (h : zcu l b = some k) : zcu (l ++ m) b = some k := by
 unfold zcu at h ⊢
 rw [ziz,h]
abbrev zoh (l : List zJ) : List (List D) := zaz l
def zrY (l : List zJ) : List (AV × AV) := l.map fun s => (.agg [.d (.int .i64 s.key), .d (.int .i64 s.dig)], .d (.bool true))
def ledAt : List zJ → zJ → Nat → Option Nat
 | [],_,_ => none
 | x :: r,s,i => if s = x then some i else ledAt r s (i + 1)
theorem sign_keyEq (s x : zJ) : zfp (.ints 2) (.agg [.d (.int .i64 s.key), .d (.int .i64 s.dig)]) (.agg [.d (.int .i64 x.key), .d (.int .i64 x.dig)]) = some (decide (s = x)) := by
 have e : s = x ↔ s.key = x.key ∧ s.dig = x.dig := by cases s; cases x; simp
 by_cases h1 : s.key = x.key
 ·by_cases h2 : s.dig = x.dig
  ·rw [decide_eq_true (e.2 ⟨h1,h2⟩)]
   simp [zfp,zcT,h1,h2]
  ·rw [decide_eq_false (fun h => h2 (e.1 h).2)]
   have h2' : (s.dig == x.dig) = false := by simpa using h2
   simp [zfp,zcT,h1,h2']
 ·rw [decide_eq_false (fun h => h1 (e.1 h).1)]
  have h1' : (s.key == x.key) = false := by simpa using h1
  simp [zfp,zcT,h1']
  try exact fun h => absurd h h1
theorem zoJ (s : zJ) : ∀ (l : List zJ) (i : Nat),zki (.ints 2) (.agg [.d (.int .i64 s.key), .d (.int .i64 s.dig)]) (zrY l) i = some ((ledAt l s i).map fun k => (k, .d (.bool true)))
 | [],_ => rfl
 | x :: r,i => by
  have ih := zoJ s r (i + 1)
  simp only [zrY] at ih
  simp only [zrY,List.map_cons,zki,sign_keyEq,ledAt]
  by_cases h : s = x
  ·simp [h]
  ·rw [decide_eq_false h,if_neg h]
   exact ih
theorem zoN {s : zJ} : ∀ {l : List zJ} {i : Nat},ledAt l s i = none ↔ s ∉ l
 | [],i => by simp [ledAt]
 | x :: r,i => by
  simp only [ledAt,List.mem_cons,not_or]
  by_cases h : s = x
  ·simp [h]
  ·rw [if_neg h,zoN]; simp [h]
theorem znf {l : List zJ} {s : zJ} (h : s ∈ l) : ∃ k,zki (.ints 2) (.agg [.d (.int .i64 s.key), .d (.int .i64 s.dig)]) (zrY l) 0 = some (some (k, .d (.bool true))) := by
 rw [zoJ]
 cases e : ledAt l s 0 with
 | none => exact absurd h (zoN.1 e)
 | some k => exact ⟨k,rfl⟩
theorem zpl {l : List zJ} {s : zJ} (h : s ∉ l) : zki (.ints 2) (.agg [.d (.int .i64 s.key), .d (.int .i64 s.dig)]) (zrY l) 0 = some none := by
 rw [zoJ,zoN.2 h]; rfl
theorem ledM_add (l : List zJ) (s : zJ) : zrY l ++ [(.agg [.d (.int .i64 s.key), .d (.int .i64 s.dig)], .d (.bool true))] = zrY (l ++ [s]) := by simp [zrY]
def zkg (l : List zJ) (s : zJ) : List zJ := if s ∈ l then l else l ++ [s]
def zdu (k d : Int) : Int := if k < 0 ∨ k ≥ 21 then 20 else if d < 1 then 1 else 0
theorem zdc {n : Nat} {σ' τ : List zg} {K : KT} {l : List AV} (hn : σ'.length = n) (h1 : Low n (dmT (zca l))) (hl : zfc n σ') (h : K (dmT (zca l)) σ') : Ends n K (some l) (σ' ++ τ) := by
 subst hn
 unfold Ends
 rw [zlm]
 exact ⟨h1,hl,h⟩
theorem zcj {n : Nat} {σ' : List zg} {K : KT} {l : List AV} (hn : σ'.length = n) (h1 : Low n (dmT (zca l))) (hl : zfc n σ') (h : K (dmT (zca l)) σ') : Ends n K (some l) σ' := by
 have := zdc (τ := []) hn h1 hl h
 simpa using this
theorem zsN {σ τ : List zg} {id t : Nat} {es : List (List D)} {X : zg} {K : KT} {l : List AV} (hT : σ[id]? = some X) (h1 : Low σ.length (dmT (zca l))) (hl : zfc σ.length σ)
  (h : K (dmT (zca l)) (σ.set id (.box [.d (.slice es)]))) : EndsW σ.length K (some l) (σ.set id (.box [.own t es]) ++ τ) := by
 refine ⟨_, .dataB id 0 [.own t es] (.own t es) es (zf (zbz hT)) rfl rfl (.refl _ _), ?_⟩
 rw [zbI (zbz hT),List.set_set]
 refine ziH h1 hl ?_ h
 intro c hc
 simp only [List.set_cons_zero,List.mem_cons,List.not_mem_nil,or_false] at hc
 subst hc; exact .d _
end Go.AW

/- Contracts: tables of byte strings and ledgers of signatures, as the program ztZ them. -/
set_option maxRecDepth 100000
namespace Go.Proofs.YtncpaekiidpchaaGreat
open Go.AW
structure zcl (σ : List zg) (id m t : Nat) (l : List (List UInt8)) : Prop where
 box : σ[id]? = some (.box [.own t (zdt l), .map m])
 map : σ[m]? = some (.map (tabM l))
 tok : σ[t]? = some (.tok 1 l.length)
structure zdV (σ : List zg) (id m t : Nat) (g : List zJ) : Prop where
 box : σ[id]? = some (.box [.own t (zoh g), .map m])
 map : σ[m]? = some (.map (zrY g))
 tok : σ[t]? = some (.tok 2 g.length)
def putTab (σ : List zg) (id m t : Nat) (l : List (List UInt8)) : List zg := ((σ.set t (.tok 1 l.length)).set id (.box [.own t (zdt l), .map m])).set m (.map (tabM l))
def putLed (σ : List zg) (id m t : Nat) (g : List zJ) : List zg := ((σ.set m (.map (zrY g))).set t (.tok 2 g.length)).set id (.box [.own t (zoh g), .map m])
abbrev tabO (n : Nat) (l : List (List UInt8)) : List zg := [.map (tabM l), .box [.own (n + 2) (zdt l), .map n], .tok 1 l.length]
abbrev ledO (n : Nat) (g : List zJ) : List zg := [.map (zrY g), .box [.own (n + 2) (zoh g), .map n], .tok 2 g.length]
theorem zcl.ne {σ : List zg} {id m t : Nat} {l : List (List UInt8)} (h : zcl σ id m t l) : id ≠ m ∧ id ≠ t ∧ m ≠ t := by
 refine ⟨fun e => ?_,fun e => ?_,fun e => ?_⟩ <;> subst e
 ·have := h.box; rw [h.map] at this; cases this
 ·have := h.box; rw [h.tok] at this; cases this
 ·have := h.map; rw [h.tok] at this; cases this
theorem zdV.ne {σ : List zg} {id m t : Nat} {g : List zJ} (h : zdV σ id m t g) : id ≠ m ∧ id ≠ t ∧ m ≠ t := by
 refine ⟨fun e => ?_,fun e => ?_,fun e => ?_⟩ <;> subst e
 ·have := h.box; rw [h.map] at this; cases this
 ·have := h.box; rw [h.tok] at this; cases this
 ·have := h.map; rw [h.tok] at this; cases this
theorem zcl.self {σ : List zg} {id m t : Nat} {l : List (List UInt8)} (h : zcl σ id m t l) : putTab σ id m t l = σ := by
 unfold putTab
 rw [zbC h.tok,zbC h.box,zbC h.map]
theorem zdV.self {σ : List zg} {id m t : Nat} {g : List zJ} (h : zdV σ id m t g) : putLed σ id m t g = σ := by
 unfold putLed
 rw [zbC h.map,zbC h.tok,zbC h.box]
theorem zcl.app {σ : List zg} {id m t : Nat} {l : List (List UInt8)} (h : zcl σ id m t l) (τ : List zg) : zcl (σ ++ τ) id m t l := ⟨zf h.box,zf h.map,zf h.tok⟩
theorem zdV.app {σ : List zg} {id m t : Nat} {g : List zJ} (h : zdV σ id m t g) (τ : List zg) : zdV (σ ++ τ) id m t g := ⟨zf h.box,zf h.map,zf h.tok⟩
theorem tabAt_new (σ : List zg) (l : List (List UInt8)) (τ : List zg) : zcl (σ ++ (tabO σ.length l ++ τ)) (σ.length + 1) σ.length (σ.length + 2) l :=
 ⟨by rw [zr]; rfl,by rw [zy]; rfl,by rw [zr]; rfl⟩
theorem ledAt_new (σ : List zg) (g : List zJ) (τ : List zg) : zdV (σ ++ (ledO σ.length g ++ τ)) (σ.length + 1) σ.length (σ.length + 2) g :=
 ⟨by rw [zr]; rfl,by rw [zy]; rfl,by rw [zr]; rfl⟩
theorem putTab_new (σ : List zg) (l l' : List (List UInt8)) (τ : List zg) : putTab (σ ++ (tabO σ.length l ++ τ)) (σ.length + 1) σ.length (σ.length + 2) l' = σ ++ (tabO σ.length l' ++ τ) := by
 unfold putTab
 rw [zO,zO,zI]; rfl
theorem putLed_new (σ : List zg) (g g' : List zJ) (τ : List zg) : putLed (σ ++ (ledO σ.length g ++ τ)) (σ.length + 1) σ.length (σ.length + 2) g' = σ ++ (ledO σ.length g' ++ τ) := by
 unfold putLed
 rw [zI,zO,zO]; rfl
theorem zso {σ : List zg} {id m t : Nat} {l : List (List UInt8)} (h : zcl σ id m t l) (l' : List (List UInt8)) (τ : List zg) : putTab (σ ++ τ) id m t l' = putTab σ id m t l' ++ τ := by
 have h1 := zF h.box; have h2 := zF h.map; have h3 := zF h.tok
 unfold putTab
 rw [List.set_append_left _ _ h3,List.set_append_left _ _ (by simpa using h1),List.set_append_left _ _ (by simpa using h2)]
theorem zco (σ : List zg) (id m t : Nat) (l : List (List UInt8)) : (putTab σ id m t l).length = σ.length := by simp [putTab]
theorem putLed_len (σ : List zg) (id m t : Nat) (g : List zJ) : (putLed σ id m t g).length = σ.length := by simp [putLed]
theorem zoL {n : Nat} (l : List (List UInt8)) : ztJ n (.map (tabM l)) := by
 have key : ∀ (l : List (List UInt8)) (i : Nat), ∀ e ∈ zrS l i,Low n e.1 ∧ Low n e.2 := by
  intro l
  induction l with
  | nil => intro i e h; cases h
  | cons x r ih =>
   intro i e h
   simp only [zrS,List.mem_cons] at h
   rcases h with rfl | h
   ·exact ⟨.d _, .d _⟩
   ·exact ih _ e h
 exact fun e he => key l 0 e he
theorem zsw {n : Nat} (g : List zJ) : ztJ n (.map (zrY g)) := by
 intro e he
 simp only [zrY,List.mem_map] at he
 obtain ⟨s,_,rfl⟩ := he
 exact ⟨.agg _ (by simp [zdh]), .d _⟩
theorem lowBox {n t m : Nat} {es : List (List D)} (ht : t < n) (hm : m < n) : ztJ n (.box [.own t es, .map m]) := by
 intro c hc
 simp only [List.mem_cons,List.not_mem_nil,or_false] at hc
 rcases hc with rfl | rfl
 ·exact .own _ _ ht
 ·exact .map _ hm
theorem zcl.lows {σ : List zg} {id m t : Nat} {l : List (List UInt8)} (h : zcl σ id m t l) (hl : zfc σ.length σ) (l' : List (List UInt8)) : zfc σ.length (putTab σ id m t l') :=
 ((hl.setO (show ztJ _ (.tok 1 l'.length) from trivial)).setO (lowBox (zF h.tok) (zF h.map))).setO (zoL l')
theorem zdV.lows {σ : List zg} {id m t : Nat} {g : List zJ} (h : zdV σ id m t g) (hl : zfc σ.length σ) (g' : List zJ) : zfc σ.length (putLed σ id m t g') :=
 ((hl.setO (zsw g')).setO (show ztJ _ (.tok 2 g'.length) from trivial)).setO (lowBox (zF h.tok) (zF h.map))
theorem low_tabO (n : Nat) (l : List (List UInt8)) : ∀ x ∈ tabO n l,ztJ (n + (tabO n l).length) x := by
 intro x hx
 simp only [List.mem_cons,List.not_mem_nil,or_false] at hx
 rcases hx with rfl | rfl | rfl
 ·exact zoL l
 ·exact lowBox (by simp) (by simp)
 ·trivial
theorem low_ledO (n : Nat) (g : List zJ) : ∀ x ∈ ledO n g,ztJ (n + (ledO n g).length) x := by
 intro x hx
 simp only [List.mem_cons,List.not_mem_nil,or_false] at hx
 rcases hx with rfl | rfl | rfl
 ·exact zsw g
 ·exact lowBox (by simp) (by simp)
 ·trivial
end Go.Proofs.YtncpaekiidpchaaGreat

/- Byte strings and their numbers; what was signed. No program in sight. -/
import Derived.Test.YtncpaekiidpchaaGreatCl1
import Derived.Test.YtncpaekiidpchaaGreatAwFrz
set_option linter.all false
namespace Go.AW
def zfG : List (List UInt8) → List UInt8 → Nat → Option Nat
 | [],_,_ => none
 | x :: r,b,i => if b = x then some i else zfG r b (i + 1)
def zbP (l : List (List UInt8)) (b : List UInt8) : Option Nat := zfG l b 0
def zgu : Option Nat → Int
 | some i => ((i + 1 : Nat) : Int)
 | none => 0
def zcK (l : List (List UInt8)) (b : List UInt8) : Int := match zbP l b with
 | some i => ((i + 1 : Nat) : Int)
 | none => if l.length ≥ 1048576 then 0 else ((l.length + 1 : Nat) : Int)
def zdD (l : List (List UInt8)) (b : List UInt8) : List (List UInt8) := match zbP l b with
 | some _ => l
 | none => if l.length ≥ 1048576 then l else l ++ [b]
abbrev zdw (l : List (List UInt8)) : List (List D) := l.map fun b => [D.slice (bcs b)]
def zrZ : List (List UInt8) → Nat → List (AV × AV)
 | [],_ => []
 | x :: r,i => (.d (.str x), .d (.int .i64 ((i + 1 : Nat) : Int))) :: zrZ r (i + 1)
def tabM (l : List (List UInt8)) : List (AV × AV) := zrZ l 0
theorem zsA (b : List UInt8) : ∀ (l : List (List UInt8)) (i : Nat),zks .str (.d (.str b)) (zrZ l i) i = some ((zfG l b i).map fun k => (k, .d (.int .i64 ((k + 1 : Nat) : Int))))
 | [],_ => rfl
 | x :: r,i => by
  simp only [zrZ,zks,zft,zfG]
  by_cases h : b = x
  ·simp [h]
  ·have : (b == x) = false := by simpa using h
   simp only [this,if_neg h]
   exact zsA b r (i + 1)
theorem mfind_tab (l : List (List UInt8)) (b : List UInt8) : zks .str (.d (.str b)) (tabM l) 0 = some ((zbP l b).map fun k => (k, .d (.int .i64 ((k + 1 : Nat) : Int)))) := zsA b l 0
theorem tabMA_add (x : List UInt8) : ∀ (l : List (List UInt8)) (i : Nat),zrZ (l ++ [x]) i = zrZ l i ++ [(.d (.str x), .d (.int .i64 ((i + l.length + 1 : Nat) : Int)))]
 | [],i => by simp [zrZ]
 | y :: r,i => by
  simp only [List.cons_append,zrZ,tabMA_add x r (i + 1),List.length_cons]
  rw [show i + 1 + r.length + 1 = i + (r.length + 1) + 1 by omega]
theorem tabM_add (l : List (List UInt8)) (x : List UInt8) : tabM l ++ [(.d (.str x), .d (.int .i64 ((l.length + 1 : Nat) : Int)))] = tabM (l ++ [x]) := by
 unfold tabM
 rw [tabMA_add]; simp
theorem lookAt_lt {b : List UInt8} : ∀ {l : List (List UInt8)} {i k : Nat},zfG l b i = some k → i ≤ k ∧ k < i + l.length ∧ l[k - i]? = some b
 | [],_,_,h => by simp [zfG] at h
 | x :: r,i,k,h => by
  simp only [zfG] at h
  split at h
  ·rename_i e
   cases h; subst e; simp
  ·obtain ⟨h1,h2,h3⟩ := lookAt_lt h
   refine ⟨by omega,by simp; omega, ?_⟩
   obtain ⟨m,hm⟩ : ∃ m,k - i = m + 1 := ⟨k - i - 1,by omega⟩
   rw [hm,List.getElem?_cons_succ]
   rw [show k - (i + 1) = m by omega] at h3
   exact h3
theorem zgJ {l : List (List UInt8)} {b : List UInt8} {k : Nat} (h : zbP l b = some k) : k < l.length ∧ l[k]? = some b := by
 have := lookAt_lt h
 simpa using this.2
theorem ziC {b : List UInt8} {m : List (List UInt8)} : ∀ {l : List (List UInt8)} {i : Nat},zfG (l ++ m) b i = match zfG l b i with | some k => some k | none => zfG m b (i + l.length)
 | [],i => by simp [zfG]
 | x :: r,i => by
  simp only [List.cons_append,zfG,List.length_cons]
  split
  ·rfl
  ·rw [ziC,show i + 1 + r.length = i + (r.length + 1) by omega]
theorem look_next {l : List (List UInt8)} {b x : List UInt8} {k : Nat} (h : l[k]? = some x) (h0 : zbP (l.take k) b = none) (hx : (x == b) = false) : zbP (l.take (k + 1)) b = none := by
 have e : ¬ b = x := fun e => by subst e; simp at hx
 rw [List.take_add_one,h]
 unfold zbP at h0 ⊢
 rw [ziC,h0]
 simp [zfG,e]
theorem look_hit {l : List (List UInt8)} {b x : List UInt8} {k : Nat} (h : l[k]? = some x) (h0 : zbP (l.take k) b = none) (hx : (x == b) = true) : zbP l b = some k := by
 have e : x = b := by simpa using hx
 subst e
 obtain ⟨hk,hh⟩ := List.getElem?_eq_some_iff.1 h
 have e2 : l = l.take k ++ (x :: l.drop (k + 1)) := by rw [← hh,List.getElem_cons_drop,List.take_append_drop]
 rw [e2]
 unfold zbP at h0 ⊢
 rw [ziC,h0]
 simp [zfG]; omega
theorem zsE {l : List (List UInt8)} {b : List UInt8} (h : b ∉ l) : zbP l b = none := by
 cases e : zbP l b with
 | none => rfl
 | some k => exact absurd (List.mem_of_getElem? (zgJ e).2) h
theorem zue {l : List (List UInt8)} {b : List UInt8} (h : zbP l b = none) : b ∉ l := by
 have key : ∀ (l : List (List UInt8)) (i : Nat),zfG l b i = none → b ∉ l := by
  intro l
  induction l with
  | nil => intro i _; simp
  | cons x r ih =>
   intro i h
   simp only [zfG] at h
   split at h
   ·cases h
   ·rename_i hne
    simp only [List.mem_cons,not_or]
    exact ⟨hne,ih _ h⟩
 exact key l 0 h
theorem look_new (l : List (List UInt8)) (b : List UInt8) (h : zbP l b = none) : zbP (l ++ [b]) b = some l.length := by
 unfold zbP at h ⊢
 rw [ziC,h]
 simp [zfG]
theorem look_more {l m : List (List UInt8)} {b : List UInt8} {k : Nat} (h : zbP l b = some k) : zbP (l ++ m) b = some k := by
 unfold zbP at h ⊢
 rw [ziC,h]
abbrev zoj (l : List zJ) : List (List D) := zaA l
def zsg (l : List zJ) : List (AV × AV) := l.map fun s => (.agg [.d (.int .i64 s.key), .d (.int .i64 s.dig)], .d (.bool true))
def ledAt : List zJ → zJ → Nat → Option Nat
 | [],_,_ => none
 | x :: r,s,i => if s = x then some i else ledAt r s (i + 1)
theorem sign_keyEq (s x : zJ) : zft (.ints 2) (.agg [.d (.int .i64 s.key), .d (.int .i64 s.dig)]) (.agg [.d (.int .i64 x.key), .d (.int .i64 x.dig)]) = some (decide (s = x)) := by
 have e : s = x ↔ s.key = x.key ∧ s.dig = x.dig := by cases s; cases x; simp
 by_cases h1 : s.key = x.key
 ·by_cases h2 : s.dig = x.dig
  ·rw [decide_eq_true (e.2 ⟨h1,h2⟩)]
   simp [zft,zcW,h1,h2]
  ·rw [decide_eq_false (fun h => h2 (e.1 h).2)]
   have h2' : (s.dig == x.dig) = false := by simpa using h2
   simp [zft,zcW,h1,h2']
 ·rw [decide_eq_false (fun h => h1 (e.1 h).1)]
  have h1' : (s.key == x.key) = false := by simpa using h1
  simp [zft,zcW,h1']
  try exact fun h => absurd h h1
theorem zoJ (s : zJ) : ∀ (l : List zJ) (i : Nat),zks (.ints 2) (.agg [.d (.int .i64 s.key), .d (.int .i64 s.dig)]) (zsg l) i = some ((ledAt l s i).map fun k => (k, .d (.bool true)))
 | [],_ => rfl
 | x :: r,i => by
  have ih := zoJ s r (i + 1)
  simp only [zsg] at ih
  simp only [zsg,List.map_cons,zks,sign_keyEq,ledAt]
  by_cases h : s = x
  ·simp [h]
  ·rw [decide_eq_false h,if_neg h]
   exact ih
theorem zoP {s : zJ} : ∀ {l : List zJ} {i : Nat},ledAt l s i = none ↔ s ∉ l
 | [],i => by simp [ledAt]
 | x :: r,i => by
  simp only [ledAt,List.mem_cons,not_or]
  by_cases h : s = x
  ·simp [h]
  ·rw [if_neg h,zoP]; simp [h]
theorem znp {l : List zJ} {s : zJ} (h : s ∈ l) : ∃ k,zks (.ints 2) (.agg [.d (.int .i64 s.key), .d (.int .i64 s.dig)]) (zsg l) 0 = some (some (k, .d (.bool true))) := by
 rw [zoJ]
 cases e : ledAt l s 0 with
 | none => exact absurd h (zoP.1 e)
 | some k => exact ⟨k,rfl⟩
theorem zpp {l : List zJ} {s : zJ} (h : s ∉ l) : zks (.ints 2) (.agg [.d (.int .i64 s.key), .d (.int .i64 s.dig)]) (zsg l) 0 = some none := by
 rw [zoJ,zoP.2 h]; rfl
theorem ledM_add (l : List zJ) (s : zJ) : zsg l ++ [(.agg [.d (.int .i64 s.key), .d (.int .i64 s.dig)], .d (.bool true))] = zsg (l ++ [s]) := by simp [zsg]
def zkp (l : List zJ) (s : zJ) : List zJ := if s ∈ l then l else l ++ [s]
def zdx (k d : Int) : Int := if k < 0 ∨ k ≥ 21 then 20 else if d < 1 then 1 else 0
theorem zdh {n : Nat} {σ' τ : List zg} {K : KT} {l : List AV} (hn : σ'.length = n) (h1 : Low n (dmT (zbZ l))) (hl : zfg n σ') (h : K (dmT (zbZ l)) σ') : Ends n K (some l) (σ' ++ τ) := by
 subst hn
 unfold Ends
 rw [zlv]
 exact ⟨h1,hl,h⟩
theorem zcj {n : Nat} {σ' : List zg} {K : KT} {l : List AV} (hn : σ'.length = n) (h1 : Low n (dmT (zbZ l))) (hl : zfg n σ') (h : K (dmT (zbZ l)) σ') : Ends n K (some l) σ' := by
 have := zdh (τ := []) hn h1 hl h
 simpa using this
theorem zsT {σ τ : List zg} {id t : Nat} {es : List (List D)} {X : zg} {K : KT} {l : List AV} (hT : σ[id]? = some X) (h1 : Low σ.length (dmT (zbZ l))) (hl : zfg σ.length σ)
  (h : K (dmT (zbZ l)) (σ.set id (.box [.d (.slice es)]))) : EndsW σ.length K (some l) (σ.set id (.box [.own t es]) ++ τ) := by
 refine ⟨_, .dataB id 0 [.own t es] (.own t es) es (zf (zbv hT)) rfl rfl (.refl _ _), ?_⟩
 rw [zbD (zbv hT),List.set_set]
 refine ziK h1 hl ?_ h
 intro c hc
 simp only [List.set_cons_zero,List.mem_cons,List.not_mem_nil,or_false] at hc
 subst hc; exact .d _
end Go.AW

/- Contracts: tables of byte strings and ledgers of signatures, as the program zuf them. -/
set_option maxRecDepth 100000
namespace Go.Proofs.YtncpaekiidpchaaGreat
open Go.AW
structure zcm (σ : List zg) (id m t : Nat) (l : List (List UInt8)) : Prop where
 box : σ[id]? = some (.box [.own t (zdw l), .map m])
 map : σ[m]? = some (.map (tabM l))
 tok : σ[t]? = some (.tok 1 l.length)
structure zdZ (σ : List zg) (id m t : Nat) (g : List zJ) : Prop where
 box : σ[id]? = some (.box [.own t (zoj g), .map m])
 map : σ[m]? = some (.map (zsg g))
 tok : σ[t]? = some (.tok 2 g.length)
def putTab (σ : List zg) (id m t : Nat) (l : List (List UInt8)) : List zg := ((σ.set t (.tok 1 l.length)).set id (.box [.own t (zdw l), .map m])).set m (.map (tabM l))
def putLed (σ : List zg) (id m t : Nat) (g : List zJ) : List zg := ((σ.set m (.map (zsg g))).set t (.tok 2 g.length)).set id (.box [.own t (zoj g), .map m])
abbrev tabO (n : Nat) (l : List (List UInt8)) : List zg := [.map (tabM l), .box [.own (n + 2) (zdw l), .map n], .tok 1 l.length]
abbrev ledO (n : Nat) (g : List zJ) : List zg := [.map (zsg g), .box [.own (n + 2) (zoj g), .map n], .tok 2 g.length]
theorem zcm.ne {σ : List zg} {id m t : Nat} {l : List (List UInt8)} (h : zcm σ id m t l) : id ≠ m ∧ id ≠ t ∧ m ≠ t := by
 refine ⟨fun e => ?_,fun e => ?_,fun e => ?_⟩ <;> subst e
 ·have := h.box; rw [h.map] at this; cases this
 ·have := h.box; rw [h.tok] at this; cases this
 ·have := h.map; rw [h.tok] at this; cases this
theorem zdZ.ne {σ : List zg} {id m t : Nat} {g : List zJ} (h : zdZ σ id m t g) : id ≠ m ∧ id ≠ t ∧ m ≠ t := by
 refine ⟨fun e => ?_,fun e => ?_,fun e => ?_⟩ <;> subst e
 ·have := h.box; rw [h.map] at this; cases this
 ·have := h.box; rw [h.tok] at this; cases this
 ·have := h.map; rw [h.tok] at this; cases this
theorem zcm.self {σ : List zg} {id m t : Nat} {l : List (List UInt8)} (h : zcm σ id m t l) : putTab σ id m t l = σ := by
 unfold putTab
 rw [zbC h.tok,zbC h.box,zbC h.map]
theorem zdZ.self {σ : List zg} {id m t : Nat} {g : List zJ} (h : zdZ σ id m t g) : putLed σ id m t g = σ := by
 unfold putLed
 rw [zbC h.map,zbC h.tok,zbC h.box]
theorem zcm.app {σ : List zg} {id m t : Nat} {l : List (List UInt8)} (h : zcm σ id m t l) (τ : List zg) : zcm (σ ++ τ) id m t l := ⟨zf h.box,zf h.map,zf h.tok⟩
theorem zdZ.app {σ : List zg} {id m t : Nat} {g : List zJ} (h : zdZ σ id m t g) (τ : List zg) : zdZ (σ ++ τ) id m t g := ⟨zf h.box,zf h.map,zf h.tok⟩
theorem tabAt_new (σ : List zg) (l : List (List UInt8)) (τ : List zg) : zcm (σ ++ (tabO σ.length l ++ τ)) (σ.length + 1) σ.length (σ.length + 2) l :=
 ⟨by rw [zr]; rfl,by rw [zy]; rfl,by rw [zr]; rfl⟩
theorem ledAt_new (σ : List zg) (g : List zJ) (τ : List zg) : zdZ (σ ++ (ledO σ.length g ++ τ)) (σ.length + 1) σ.length (σ.length + 2) g :=
 ⟨by rw [zr]; rfl,by rw [zy]; rfl,by rw [zr]; rfl⟩
theorem putTab_new (σ : List zg) (l l' : List (List UInt8)) (τ : List zg) : putTab (σ ++ (tabO σ.length l ++ τ)) (σ.length + 1) σ.length (σ.length + 2) l' = σ ++ (tabO σ.length l' ++ τ) := by
 unfold putTab
 rw [zO,zO,zH]; rfl
theorem putLed_new (σ : List zg) (g g' : List zJ) (τ : List zg) : putLed (σ ++ (ledO σ.length g ++ τ)) (σ.length + 1) σ.length (σ.length + 2) g' = σ ++ (ledO σ.length g' ++ τ) := by
 unfold putLed
 rw [zH,zO,zO]; rfl
theorem zot {σ : List zg} {id m t : Nat} {l : List (List UInt8)} (h : zcm σ id m t l) (l' : List (List UInt8)) (τ : List zg) : putTab (σ ++ τ) id m t l' = putTab σ id m t l' ++ τ := by
 have h1 := zF h.box; have h2 := zF h.map; have h3 := zF h.tok
 unfold putTab
 rw [List.set_append_left _ _ h3,List.set_append_left _ _ (by simpa using h1),List.set_append_left _ _ (by simpa using h2)]
theorem zcg (σ : List zg) (id m t : Nat) (l : List (List UInt8)) : (putTab σ id m t l).length = σ.length := by simp [putTab]
theorem putLed_len (σ : List zg) (id m t : Nat) (g : List zJ) : (putLed σ id m t g).length = σ.length := by simp [putLed]
theorem zoM {n : Nat} (l : List (List UInt8)) : ztQ n (.map (tabM l)) := by
 have key : ∀ (l : List (List UInt8)) (i : Nat), ∀ e ∈ zrZ l i,Low n e.1 ∧ Low n e.2 := by
  intro l
  induction l with
  | nil => intro i e h; cases h
  | cons x r ih =>
   intro i e h
   simp only [zrZ,List.mem_cons] at h
   rcases h with rfl | h
   ·exact ⟨.d _, .d _⟩
   ·exact ih _ e h
 exact fun e he => key l 0 e he
theorem zsD {n : Nat} (g : List zJ) : ztQ n (.map (zsg g)) := by
 intro e he
 simp only [zsg,List.mem_map] at he
 obtain ⟨s,_,rfl⟩ := he
 exact ⟨.agg _ (by simp [zcU]), .d _⟩
theorem lowBox {n t m : Nat} {es : List (List D)} (ht : t < n) (hm : m < n) : ztQ n (.box [.own t es, .map m]) := by
 intro c hc
 simp only [List.mem_cons,List.not_mem_nil,or_false] at hc
 rcases hc with rfl | rfl
 ·exact .own _ _ ht
 ·exact .map _ hm
theorem zcm.lows {σ : List zg} {id m t : Nat} {l : List (List UInt8)} (h : zcm σ id m t l) (hl : zfg σ.length σ) (l' : List (List UInt8)) : zfg σ.length (putTab σ id m t l') :=
 ((hl.setO (show ztQ _ (.tok 1 l'.length) from trivial)).setO (lowBox (zF h.tok) (zF h.map))).setO (zoM l')
theorem zdZ.lows {σ : List zg} {id m t : Nat} {g : List zJ} (h : zdZ σ id m t g) (hl : zfg σ.length σ) (g' : List zJ) : zfg σ.length (putLed σ id m t g') :=
 ((hl.setO (zsD g')).setO (show ztQ _ (.tok 2 g'.length) from trivial)).setO (lowBox (zF h.tok) (zF h.map))
theorem low_tabO (n : Nat) (l : List (List UInt8)) : ∀ x ∈ tabO n l,ztQ (n + (tabO n l).length) x := by
 intro x hx
 simp only [List.mem_cons,List.not_mem_nil,or_false] at hx
 rcases hx with rfl | rfl | rfl
 ·exact zoM l
 ·exact lowBox (by simp) (by simp)
 ·trivial
theorem low_ledO (n : Nat) (g : List zJ) : ∀ x ∈ ledO n g,ztQ (n + (ledO n g).length) x := by
 intro x hx
 simp only [List.mem_cons,List.not_mem_nil,or_false] at hx
 rcases hx with rfl | rfl | rfl
 ·exact zsD g
 ·exact lowBox (by simp) (by simp)
 ·trivial
end Go.Proofs.YtncpaekiidpchaaGreat

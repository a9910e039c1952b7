/- Byte strings and their numbers; what was signed. No program in sight. -/
import Derived.Test.YtncpaekiidpchaaGreatCl1
import Derived.Test.YtncpaekiidpchaaGreatAwFrz
set_option linter.all false
namespace Go.AW
def zgj : List (List UInt8) → List UInt8 → Nat → Option Nat
 | [],_,_ => none
 | x :: r,b,i => if b = x then some i else zgj r b (i + 1)
def zdD (l : List (List UInt8)) (b : List UInt8) : Option Nat := zgj l b 0
def zni : Option Nat → Int
 | some i => ((i + 1 : Nat) : Int)
 | none => 0
def zed (l : List (List UInt8)) (b : List UInt8) : Int := match zdD l b with
 | some i => ((i + 1 : Nat) : Int)
 | none => if l.length ≥ 1048576 then 0 else ((l.length + 1 : Nat) : Int)
def zfk (l : List (List UInt8)) (b : List UInt8) : List (List UInt8) := match zdD l b with
 | some _ => l
 | none => if l.length ≥ 1048576 then l else l ++ [b]
abbrev zcU (l : List (List UInt8)) : List (List D) := l.map fun b => [D.slice (bcs b)]
def zsa : List (List UInt8) → Nat → List (AV × AV)
 | [],_ => []
 | x :: r,i => (.d (.str x), .d (.int .i64 ((i + 1 : Nat) : Int))) :: zsa r (i + 1)
def tabM (l : List (List UInt8)) : List (AV × AV) := zsa l 0
theorem zsD (b : List UInt8) : ∀ (l : List (List UInt8)) (i : Nat),zkn .str (.d (.str b)) (zsa l i) i = some ((zgj l b i).map fun k => (k, .d (.int .i64 ((k + 1 : Nat) : Int))))
 | [],_ => rfl
 | x :: r,i => by
  simp only [zsa,zkn,zfz,zgj]
  by_cases h : b = x
  ·simp [h]
  ·have : (b == x) = false := by simpa using h
   simp only [this,if_neg h]
   exact zsD b r (i + 1)
theorem mfind_tab (l : List (List UInt8)) (b : List UInt8) : zkn .str (.d (.str b)) (tabM l) 0 = some ((zdD l b).map fun k => (k, .d (.int .i64 ((k + 1 : Nat) : Int)))) := zsD b l 0
theorem tabMA_add (x : List UInt8) : ∀ (l : List (List UInt8)) (i : Nat),zsa (l ++ [x]) i = zsa l i ++ [(.d (.str x), .d (.int .i64 ((i + l.length + 1 : Nat) : Int)))]
 | [],i => by simp [zsa]
 | y :: r,i => by
  simp only [List.cons_append,zsa,tabMA_add x r (i + 1),List.length_cons]
  rw [show i + 1 + r.length + 1 = i + (r.length + 1) + 1 by omega]
theorem tabM_add (l : List (List UInt8)) (x : List UInt8) : tabM l ++ [(.d (.str x), .d (.int .i64 ((l.length + 1 : Nat) : Int)))] = tabM (l ++ [x]) := by
 unfold tabM
 rw [tabMA_add]; simp
theorem lookAt_lt {b : List UInt8} : ∀ {l : List (List UInt8)} {i k : Nat},zgj l b i = some k → i ≤ k ∧ k < i + l.length ∧ l[k - i]? = some b
 | [],_,_,h => by simp [zgj] at h
 | x :: r,i,k,h => by
  simp only [zgj] at h
  split at h
  ·rename_i e
   cases h; subst e; simp
  ·obtain ⟨h1,h2,h3⟩ := lookAt_lt h
   refine ⟨by omega,by simp; omega, ?_⟩
   obtain ⟨m,hm⟩ : ∃ m,k - i = m + 1 := ⟨k - i - 1,by omega⟩
   rw [hm,List.getElem?_cons_succ]
   rw [show k - (i + 1) = m by omega] at h3
   exact h3
theorem zuA {l : List (List UInt8)} {b : List UInt8} {k : Nat} (h : zdD l b = some k) : k < l.length ∧ l[k]? = some b := by
 have := lookAt_lt h
 simpa using this.2
theorem zoS {b : List UInt8} {m : List (List UInt8)} : ∀ {l : List (List UInt8)} {i : Nat},zgj (l ++ m) b i = match zgj l b i with | some k => some k | none => zgj m b (i + l.length)
 | [],i => by simp [zgj]
 | x :: r,i => by
  simp only [List.cons_append,zgj,List.length_cons]
  split
  ·rfl
  ·rw [zoS,show i + 1 + r.length = i + (r.length + 1) by omega]
theorem look_next {l : List (List UInt8)} {b x : List UInt8} {k : Nat} (h : l[k]? = some x) (h0 : zdD (l.take k) b = none) (hx : (x == b) = false) : zdD (l.take (k + 1)) b = none := by
 have e : ¬ b = x := fun e => by subst e; simp at hx
 rw [List.take_add_one,h]
 unfold zdD at h0 ⊢
 rw [zoS,h0]
 simp [zgj,e]
theorem look_hit {l : List (List UInt8)} {b x : List UInt8} {k : Nat} (h : l[k]? = some x) (h0 : zdD (l.take k) b = none) (hx : (x == b) = true) : zdD l b = some k := by
 have e : x = b := by simpa using hx
 subst e
 obtain ⟨hk,hh⟩ := List.getElem?_eq_some_iff.1 h
 have e2 : l = l.take k ++ (x :: l.drop (k + 1)) := by rw [← hh,List.getElem_cons_drop,List.take_append_drop]
 rw [e2]
 unfold zdD at h0 ⊢
 rw [zoS,h0]
 simp [zgj]; omega
theorem zsG {l : List (List UInt8)} {b : List UInt8} (h : b ∉ l) : zdD l b = none := by
 cases e : zdD l b with
 | none => rfl
 | some k => exact absurd (List.mem_of_getElem? (zuA e).2) h
theorem zuz {l : List (List UInt8)} {b : List UInt8} (h : zdD l b = none) : b ∉ l := by
 have key : ∀ (l : List (List UInt8)) (i : Nat),zgj l b i = none → b ∉ l := by
  intro l
  induction l with
  | nil => intro i _; simp
  | cons x r ih =>
   intro i h
   simp only [zgj] at h
   split at h
   ·cases h
   ·rename_i hne
    simp only [List.mem_cons,not_or]
    exact ⟨hne,ih _ h⟩
 exact key l 0 h
abbrev zol (l : List zae) : List (List D) := zaz l
def zsi (l : List zae) : List (AV × AV) := l.map fun s => (.agg [.d (.int .i64 s.key), .d (.int .i64 s.dig)], .d (.bool true))
def ledAt : List zae → zae → Nat → Option Nat
 | [],_,_ => none
 | x :: r,s,i => if s = x then some i else ledAt r s (i + 1)
theorem sign_keyEq (s x : zae) : zfz (.ints 2) (.agg [.d (.int .i64 s.key), .d (.int .i64 s.dig)]) (.agg [.d (.int .i64 x.key), .d (.int .i64 x.dig)]) = some (decide (s = x)) := by
 have e : s = x ↔ s.key = x.key ∧ s.dig = x.dig := by cases s; cases x; simp
 by_cases h1 : s.key = x.key
 ·by_cases h2 : s.dig = x.dig
  ·rw [decide_eq_true (e.2 ⟨h1,h2⟩)]
   simp [zfz,zcj,h1,h2]
  ·rw [decide_eq_false (fun h => h2 (e.1 h).2)]
   have h2' : (s.dig == x.dig) = false := by simpa using h2
   simp [zfz,zcj,h1,h2']
 ·rw [decide_eq_false (fun h => h1 (e.1 h).1)]
  have h1' : (s.key == x.key) = false := by simpa using h1
  simp [zfz,zcj,h1']
  try exact fun h => absurd h h1
theorem zoP (s : zae) : ∀ (l : List zae) (i : Nat),zkn (.ints 2) (.agg [.d (.int .i64 s.key), .d (.int .i64 s.dig)]) (zsi l) i = some ((ledAt l s i).map fun k => (k, .d (.bool true)))
 | [],_ => rfl
 | x :: r,i => by
  have ih := zoP s r (i + 1)
  simp only [zsi] at ih
  simp only [zsi,List.map_cons,zkn,sign_keyEq,ledAt]
  by_cases h : s = x
  ·simp [h]
  ·rw [decide_eq_false h,if_neg h]
   exact ih
theorem zoV {s : zae} : ∀ {l : List zae} {i : Nat},ledAt l s i = none ↔ s ∉ l
 | [],i => by simp [ledAt]
 | x :: r,i => by
  simp only [ledAt,List.mem_cons,not_or]
  by_cases h : s = x
  ·simp [h]
  ·rw [if_neg h,zoV]; simp [h]
theorem znk {l : List zae} {s : zae} (h : s ∈ l) : ∃ k,zkn (.ints 2) (.agg [.d (.int .i64 s.key), .d (.int .i64 s.dig)]) (zsi l) 0 = some (some (k, .d (.bool true))) := by
 rw [zoP]
 cases e : ledAt l s 0 with
 | none => exact absurd h (zoV.1 e)
 | some k => exact ⟨k,rfl⟩
theorem zpq {l : List zae} {s : zae} (h : s ∉ l) : zkn (.ints 2) (.agg [.d (.int .i64 s.key), .d (.int .i64 s.dig)]) (zsi l) 0 = some none := by
 rw [zoP,zoV.2 h]; rfl
theorem ledM_add (l : List zae) (s : zae) : zsi l ++ [(.agg [.d (.int .i64 s.key), .d (.int .i64 s.dig)], .d (.bool true))] = zsi (l ++ [s]) := by simp [zsi]
def zsb (l : List zae) (s : zae) : List zae := if s ∈ l then l else l ++ [s]
def zeR (k d : Int) : Int := if k < 0 ∨ k ≥ 21 then 20 else if d < 1 then 1 else 0
theorem zda {n : Nat} {σ' τ : List zf} {K : AV → List zf → Prop} {l : List AV} (hn : σ'.length = n) (h1 : Low n (dmT (zbV l))) (hl : zfi n σ') (h : K (dmT (zbV l)) σ') : Ends n K (some l) (σ' ++ τ) := by
 subst hn
 unfold Ends
 rw [zji]
 exact ⟨h1,hl,h⟩
theorem zcs {n : Nat} {σ' : List zf} {K : AV → List zf → Prop} {l : List AV} (hn : σ'.length = n) (h1 : Low n (dmT (zbV l))) (hl : zfi n σ') (h : K (dmT (zbV l)) σ') : Ends n K (some l) σ' := by
 have := zda (τ := []) hn h1 hl h
 simpa using this
theorem zsX {σ τ : List zf} {id t : Nat} {es : List (List D)} {X : zf} {K : AV → List zf → Prop} {l : List AV} (hT : σ[id]? = some X) (h1 : Low σ.length (dmT (zbV l))) (hl : zfi σ.length σ)
  (h : K (dmT (zbV l)) (σ.set id (.box [.d (.slice es)]))) : EndsW σ.length K (some l) (σ.set id (.box [.own t es]) ++ τ) := by
 refine ⟨_, .dataB id 0 [.own t es] (.own t es) es (zg (zbn hT)) rfl rfl (.refl _ _), ?_⟩
 rw [zbE (zbn hT),List.set_set]
 refine ziF h1 hl ?_ h
 intro c hc
 simp only [List.set_cons_zero,List.mem_cons,List.not_mem_nil,or_false] at hc
 subst hc; exact .d _
end Go.AW

/- Contracts: tables of byte strings and ledgers of signatures, as the program zuB them. -/
set_option maxRecDepth 100000
namespace Go.Proofs.YtncpaekiidpchaaGreat
open Go.AW
structure zcu (σ : List zf) (id m t : Nat) (l : List (List UInt8)) : Prop where
 box : σ[id]? = some (.box [.own t (zcU l), .map m])
 map : σ[m]? = some (.map (tabM l))
 tok : σ[t]? = some (.tok 1 l.length)
structure zeb (σ : List zf) (id m t : Nat) (g : List zae) : Prop where
 box : σ[id]? = some (.box [.own t (zol g), .map m])
 map : σ[m]? = some (.map (zsi g))
 tok : σ[t]? = some (.tok 2 g.length)
def putTab (σ : List zf) (id m t : Nat) (l : List (List UInt8)) : List zf := ((σ.set t (.tok 1 l.length)).set id (.box [.own t (zcU l), .map m])).set m (.map (tabM l))
def putLed (σ : List zf) (id m t : Nat) (g : List zae) : List zf := ((σ.set m (.map (zsi g))).set t (.tok 2 g.length)).set id (.box [.own t (zol g), .map m])
abbrev tabO (n : Nat) (l : List (List UInt8)) : List zf := [.map (tabM l), .box [.own (n + 2) (zcU l), .map n], .tok 1 l.length]
abbrev ledO (n : Nat) (g : List zae) : List zf := [.map (zsi g), .box [.own (n + 2) (zol g), .map n], .tok 2 g.length]
theorem zcu.ne {σ : List zf} {id m t : Nat} {l : List (List UInt8)} (h : zcu σ id m t l) : id ≠ m ∧ id ≠ t ∧ m ≠ t := by
 refine ⟨fun e => ?_,fun e => ?_,fun e => ?_⟩ <;> subst e
 ·have := h.box; rw [h.map] at this; cases this
 ·have := h.box; rw [h.tok] at this; cases this
 ·have := h.map; rw [h.tok] at this; cases this
theorem zeb.ne {σ : List zf} {id m t : Nat} {g : List zae} (h : zeb σ id m t g) : id ≠ m ∧ id ≠ t ∧ m ≠ t := by
 refine ⟨fun e => ?_,fun e => ?_,fun e => ?_⟩ <;> subst e
 ·have := h.box; rw [h.map] at this; cases this
 ·have := h.box; rw [h.tok] at this; cases this
 ·have := h.map; rw [h.tok] at this; cases this
theorem zcu.self {σ : List zf} {id m t : Nat} {l : List (List UInt8)} (h : zcu σ id m t l) : putTab σ id m t l = σ := by
 unfold putTab
 rw [zbD h.tok,zbD h.box,zbD h.map]
theorem zeb.self {σ : List zf} {id m t : Nat} {g : List zae} (h : zeb σ id m t g) : putLed σ id m t g = σ := by
 unfold putLed
 rw [zbD h.map,zbD h.tok,zbD h.box]
theorem zcu.app {σ : List zf} {id m t : Nat} {l : List (List UInt8)} (h : zcu σ id m t l) (τ : List zf) : zcu (σ ++ τ) id m t l := ⟨zg h.box,zg h.map,zg h.tok⟩
theorem zeb.app {σ : List zf} {id m t : Nat} {g : List zae} (h : zeb σ id m t g) (τ : List zf) : zeb (σ ++ τ) id m t g := ⟨zg h.box,zg h.map,zg h.tok⟩
theorem tabAt_new (σ : List zf) (l : List (List UInt8)) (τ : List zf) : zcu (σ ++ (tabO σ.length l ++ τ)) (σ.length + 1) σ.length (σ.length + 2) l :=
 ⟨by rw [zq]; rfl,by rw [zw]; rfl,by rw [zq]; rfl⟩
theorem ledAt_new (σ : List zf) (g : List zae) (τ : List zf) : zeb (σ ++ (ledO σ.length g ++ τ)) (σ.length + 1) σ.length (σ.length + 2) g :=
 ⟨by rw [zq]; rfl,by rw [zw]; rfl,by rw [zq]; rfl⟩
theorem putTab_new (σ : List zf) (l l' : List (List UInt8)) (τ : List zf) : putTab (σ ++ (tabO σ.length l ++ τ)) (σ.length + 1) σ.length (σ.length + 2) l' = σ ++ (tabO σ.length l' ++ τ) := by
 unfold putTab
 rw [zM,zM,zE]; rfl
theorem putLed_new (σ : List zf) (g g' : List zae) (τ : List zf) : putLed (σ ++ (ledO σ.length g ++ τ)) (σ.length + 1) σ.length (σ.length + 2) g' = σ ++ (ledO σ.length g' ++ τ) := by
 unfold putLed
 rw [zE,zM,zM]; rfl
theorem zlv {σ : List zf} {id m t : Nat} {l : List (List UInt8)} (h : zcu σ id m t l) (l' : List (List UInt8)) (τ : List zf) : putTab (σ ++ τ) id m t l' = putTab σ id m t l' ++ τ := by
 have h1 := zN h.box; have h2 := zN h.map; have h3 := zN h.tok
 unfold putTab
 rw [List.set_append_left _ _ h3,List.set_append_left _ _ (by simpa using h1),List.set_append_left _ _ (by simpa using h2)]
theorem zcm (σ : List zf) (id m t : Nat) (l : List (List UInt8)) : (putTab σ id m t l).length = σ.length := by simp [putTab]
theorem putLed_len (σ : List zf) (id m t : Nat) (g : List zae) : (putLed σ id m t g).length = σ.length := by simp [putLed]
theorem zoR {n : Nat} (l : List (List UInt8)) : zsq n (.map (tabM l)) := by
 have key : ∀ (l : List (List UInt8)) (i : Nat), ∀ e ∈ zsa l i,Low n e.1 ∧ Low n e.2 := by
  intro l
  induction l with
  | nil => intro i e h; cases h
  | cons x r ih =>
   intro i e h
   simp only [zsa,List.mem_cons] at h
   rcases h with rfl | h
   ·exact ⟨.d _, .d _⟩
   ·exact ih _ e h
 exact fun e he => key l 0 e he
theorem zsF {n : Nat} (g : List zae) : zsq n (.map (zsi g)) := by
 intro e he
 simp only [zsi,List.mem_map] at he
 obtain ⟨s,_,rfl⟩ := he
 exact ⟨.agg _ (by simp [zdj]), .d _⟩
theorem lowBox {n t m : Nat} {es : List (List D)} (ht : t < n) (hm : m < n) : zsq n (.box [.own t es, .map m]) := by
 intro c hc
 simp only [List.mem_cons,List.not_mem_nil,or_false] at hc
 rcases hc with rfl | rfl
 ·exact .own _ _ ht
 ·exact .map _ hm
theorem zcu.lows {σ : List zf} {id m t : Nat} {l : List (List UInt8)} (h : zcu σ id m t l) (hl : zfi σ.length σ) (l' : List (List UInt8)) : zfi σ.length (putTab σ id m t l') :=
 ((hl.setO (show zsq _ (.tok 1 l'.length) from trivial)).setO (lowBox (zN h.tok) (zN h.map))).setO (zoR l')
theorem zeb.lows {σ : List zf} {id m t : Nat} {g : List zae} (h : zeb σ id m t g) (hl : zfi σ.length σ) (g' : List zae) : zfi σ.length (putLed σ id m t g') :=
 ((hl.setO (zsF g')).setO (show zsq _ (.tok 2 g'.length) from trivial)).setO (lowBox (zN h.tok) (zN h.map))
theorem low_tabO (n : Nat) (l : List (List UInt8)) : ∀ x ∈ tabO n l,zsq (n + (tabO n l).length) x := by
 intro x hx
 simp only [List.mem_cons,List.not_mem_nil,or_false] at hx
 rcases hx with rfl | rfl | rfl
 ·exact zoR l
 ·exact lowBox (by simp) (by simp)
 ·trivial
theorem low_ledO (n : Nat) (g : List zae) : ∀ x ∈ ledO n g,zsq (n + (ledO n g).length) x := by
 intro x hx
 simp only [List.mem_cons,List.not_mem_nil,or_false] at hx
 rcases hx with rfl | rfl | rfl
 ·exact zsF g
 ·exact lowBox (by simp) (by simp)
 ·trivial
end Go.Proofs.YtncpaekiidpchaaGreat

/- Byte strings and their numbers; what was signed. No program in sight. -/
import Derived.Test.YtfjommppajkpoaaGreatCl1
import Derived.Test.YtfjommppajkpoaaGreatAwFrz
set_option linter.all false
namespace Go.AW
def zgu : List (List UInt8) → List UInt8 → Nat → Option Nat
 | [],_,_ => none
 | x :: r,b,i => if b = x then some i else zgu r b (i + 1)
def zcN (l : List (List UInt8)) (b : List UInt8) : Option Nat := zgu l b 0
def zji : Option Nat → Int
 | some i => ((i + 1 : Nat) : Int)
 | none => 0
def zee (l : List (List UInt8)) (b : List UInt8) : Int := match zcN l b with
 | some i => ((i + 1 : Nat) : Int)
 | none => if l.length ≥ 1048576 then 0 else ((l.length + 1 : Nat) : Int)
def zfe (l : List (List UInt8)) (b : List UInt8) : List (List UInt8) := match zcN l b with
 | some _ => l
 | none => if l.length ≥ 1048576 then l else l ++ [b]
abbrev zdo (l : List (List UInt8)) : List (List D) := l.map fun b => [D.slice (bcs b)]
def zsy : List (List UInt8) → Nat → List (AV × AV)
 | [],_ => []
 | x :: r,i => (.d (.str x), .d (.int .i64 ((i + 1 : Nat) : Int))) :: zsy r (i + 1)
def tabM (l : List (List UInt8)) : List (AV × AV) := zsy l 0
theorem zti (b : List UInt8) : ∀ (l : List (List UInt8)) (i : Nat),zmG .str (.d (.str b)) (zsy l i) i = some ((zgu l b i).map fun k => (k, .d (.int .i64 ((k + 1 : Nat) : Int))))
 | [],_ => rfl
 | x :: r,i => by
  simp only [zsy,zmG,zfO,zgu]
  by_cases h : b = x
  ·simp [h]
  ·have : (b == x) = false := by simpa using h
   simp only [this,if_neg h]
   exact zti b r (i + 1)
theorem mfind_tab (l : List (List UInt8)) (b : List UInt8) : zmG .str (.d (.str b)) (tabM l) 0 = some ((zcN l b).map fun k => (k, .d (.int .i64 ((k + 1 : Nat) : Int)))) := zti b l 0
theorem tabMA_add (x : List UInt8) : ∀ (l : List (List UInt8)) (i : Nat),zsy (l ++ [x]) i = zsy l i ++ [(.d (.str x), .d (.int .i64 ((i + l.length + 1 : Nat) : Int)))]
 | [],i => by simp [zsy]
 | y :: r,i => by
  simp only [List.cons_append,zsy,tabMA_add x r (i + 1),List.length_cons]
  rw [show i + 1 + r.length + 1 = i + (r.length + 1) + 1 by omega]
theorem tabM_add (l : List (List UInt8)) (x : List UInt8) : tabM l ++ [(.d (.str x), .d (.int .i64 ((l.length + 1 : Nat) : Int)))] = tabM (l ++ [x]) := by
 unfold tabM
 rw [tabMA_add]; simp
theorem lookAt_lt {b : List UInt8} : ∀ {l : List (List UInt8)} {i k : Nat},zgu l b i = some k → i ≤ k ∧ k < i + l.length ∧ l[k - i]? = some b
 | [],_,_,h => by simp [zgu] at h
 | x :: r,i,k,h => by
  simp only [zgu] at h
  split at h
  ·rename_i e
   cases h; subst e; simp
  ·obtain ⟨h1,h2,h3⟩ := lookAt_lt h
   refine ⟨by omega,by simp; omega, ?_⟩
   obtain ⟨m,hm⟩ : ∃ m,k - i = m + 1 := ⟨k - i - 1,by omega⟩
   rw [hm,List.getElem?_cons_succ]
   rw [show k - (i + 1) = m by omega] at h3
   exact h3
theorem zuF {l : List (List UInt8)} {b : List UInt8} {k : Nat} (h : zcN l b = some k) : k < l.length ∧ l[k]? = some b := by
 have := lookAt_lt h
 simpa using this.2
theorem zoS {b : List UInt8} {m : List (List UInt8)} : ∀ {l : List (List UInt8)} {i : Nat},zgu (l ++ m) b i = match zgu l b i with | some k => some k | none => zgu m b (i + l.length)
 | [],i => by simp [zgu]
 | x :: r,i => by
  simp only [List.cons_append,zgu,List.length_cons]
  split
  ·rfl
  ·rw [zoS,show i + 1 + r.length = i + (r.length + 1) by omega]
theorem look_next {l : List (List UInt8)} {b x : List UInt8} {k : Nat} (h : l[k]? = some x) (h0 : zcN (l.take k) b = none) (hx : (x == b) = false) : zcN (l.take (k + 1)) b = none := by
 have e : ¬ b = x := fun e => by subst e; simp at hx
 rw [List.take_add_one,h]
 unfold zcN at h0 ⊢
 rw [zoS,h0]
 simp [zgu,e]
theorem look_hit {l : List (List UInt8)} {b x : List UInt8} {k : Nat} (h : l[k]? = some x) (h0 : zcN (l.take k) b = none) (hx : (x == b) = true) : zcN l b = some k := by
 have e : x = b := by simpa using hx
 subst e
 obtain ⟨hk,hh⟩ := List.getElem?_eq_some_iff.1 h
 have e2 : l = l.take k ++ (x :: l.drop (k + 1)) := by rw [← hh,List.getElem_cons_drop,List.take_append_drop]
 rw [e2]
 unfold zcN at h0 ⊢
 rw [zoS,h0]
 simp [zgu]; omega
theorem ztm {l : List (List UInt8)} {b : List UInt8} (h : b ∉ l) : zcN l b = none := by
 cases e : zcN l b with
 | none => rfl
 | some k => exact absurd (List.mem_of_getElem? (zuF e).2) h
theorem zuE {l : List (List UInt8)} {b : List UInt8} (h : zcN l b = none) : b ∉ l := by
 have key : ∀ (l : List (List UInt8)) (i : Nat),zgu l b i = none → b ∉ l := by
  intro l
  induction l with
  | nil => intro i _; simp
  | cons x r ih =>
   intro i h
   simp only [zgu] at h
   split at h
   ·cases h
   ·rename_i hne
    simp only [List.mem_cons,not_or]
    exact ⟨hne,ih _ h⟩
 exact key l 0 h
abbrev zny (l : List zI) : List (List D) := zas l
def zsw (l : List zI) : List (AV × AV) := l.map fun s => (.agg [.d (.int .i64 s.key), .d (.int .i64 s.dig)], .d (.bool true))
def ledAt : List zI → zI → Nat → Option Nat
 | [],_,_ => none
 | x :: r,s,i => if s = x then some i else ledAt r s (i + 1)
theorem sign_keyEq (s x : zI) : zfO (.ints 2) (.agg [.d (.int .i64 s.key), .d (.int .i64 s.dig)]) (.agg [.d (.int .i64 x.key), .d (.int .i64 x.dig)]) = some (decide (s = x)) := by
 have e : s = x ↔ s.key = x.key ∧ s.dig = x.dig := by cases s; cases x; simp
 by_cases h1 : s.key = x.key
 ·by_cases h2 : s.dig = x.dig
  ·rw [decide_eq_true (e.2 ⟨h1,h2⟩)]
   simp [zfO,zcv,h1,h2]
  ·rw [decide_eq_false (fun h => h2 (e.1 h).2)]
   have h2' : (s.dig == x.dig) = false := by simpa using h2
   simp [zfO,zcv,h1,h2']
 ·rw [decide_eq_false (fun h => h1 (e.1 h).1)]
  have h1' : (s.key == x.key) = false := by simpa using h1
  simp [zfO,zcv,h1']
  try exact fun h => absurd h h1
theorem zoQ (s : zI) : ∀ (l : List zI) (i : Nat),zmG (.ints 2) (.agg [.d (.int .i64 s.key), .d (.int .i64 s.dig)]) (zsw l) i = some ((ledAt l s i).map fun k => (k, .d (.bool true)))
 | [],_ => rfl
 | x :: r,i => by
  have ih := zoQ s r (i + 1)
  simp only [zsw] at ih
  simp only [zsw,List.map_cons,zmG,sign_keyEq,ledAt]
  by_cases h : s = x
  ·simp [h]
  ·rw [decide_eq_false h,if_neg h]
   exact ih
theorem zoU {s : zI} : ∀ {l : List zI} {i : Nat},ledAt l s i = none ↔ s ∉ l
 | [],i => by simp [ledAt]
 | x :: r,i => by
  simp only [ledAt,List.mem_cons,not_or]
  by_cases h : s = x
  ·simp [h]
  ·rw [if_neg h,zoU]; simp [h]
theorem znu {l : List zI} {s : zI} (h : s ∈ l) : ∃ k,zmG (.ints 2) (.agg [.d (.int .i64 s.key), .d (.int .i64 s.dig)]) (zsw l) 0 = some (some (k, .d (.bool true))) := by
 rw [zoQ]
 cases e : ledAt l s 0 with
 | none => exact absurd h (zoU.1 e)
 | some k => exact ⟨k,rfl⟩
theorem zps {l : List zI} {s : zI} (h : s ∉ l) : zmG (.ints 2) (.agg [.d (.int .i64 s.key), .d (.int .i64 s.dig)]) (zsw l) 0 = some none := by
 rw [zoQ,zoU.2 h]; rfl
theorem ledM_add (l : List zI) (s : zI) : zsw l ++ [(.agg [.d (.int .i64 s.key), .d (.int .i64 s.dig)], .d (.bool true))] = zsw (l ++ [s]) := by simp [zsw]
def zsz (l : List zI) (s : zI) : List zI := if s ∈ l then l else l ++ [s]
def zeJ (k d : Int) : Int := if k < 0 ∨ k ≥ 21 then 20 else if d < 1 then 1 else 0
theorem zcY {n : Nat} {σ' τ : List zg} {K : KT} {l : List AV} (hn : σ'.length = n) (h1 : Low n (dmT (zbY l))) (hl : zdY n σ') (h : K (dmT (zbY l)) σ') : Ends n K (some l) (σ' ++ τ) := by
 subst hn
 unfold Ends
 rw [zlt]
 exact ⟨h1,hl,h⟩
theorem zck {n : Nat} {σ' : List zg} {K : KT} {l : List AV} (hn : σ'.length = n) (h1 : Low n (dmT (zbY l))) (hl : zdY n σ') (h : K (dmT (zbY l)) σ') : Ends n K (some l) σ' := by
 have := zcY (τ := []) hn h1 hl h
 simpa using this
theorem ztB {σ τ : List zg} {id t : Nat} {es : List (List D)} {X : zg} {K : KT} {l : List AV} (hT : σ[id]? = some X) (h1 : Low σ.length (dmT (zbY l))) (hl : zdY σ.length σ)
  (h : K (dmT (zbY l)) (σ.set id (.box [.d (.slice es)]))) : EndsW σ.length K (some l) (σ.set id (.box [.own t es]) ++ τ) := by
 refine ⟨_, .dataB id 0 [.own t es] (.own t es) es (zf (zbs hT)) rfl rfl (.refl _ _), ?_⟩
 rw [zbz (zbs hT),List.set_set]
 refine ziG h1 hl ?_ h
 intro c hc
 simp only [List.set_cons_zero,List.mem_cons,List.not_mem_nil,or_false] at hc
 subst hc; exact .d _
end Go.AW

/- Contracts: tables of byte strings and ledgers of signatures, as the program zuI them. -/
set_option maxRecDepth 100000
namespace Go.Proofs.YtfjommppajkpoaaGreat
open Go.AW
structure zcd (σ : List zg) (id m t : Nat) (l : List (List UInt8)) : Prop where
 box : σ[id]? = some (.box [.own t (zdo l), .map m])
 map : σ[m]? = some (.map (tabM l))
 tok : σ[t]? = some (.tok 1 l.length)
structure zea (σ : List zg) (id m t : Nat) (g : List zI) : Prop where
 box : σ[id]? = some (.box [.own t (zny g), .map m])
 map : σ[m]? = some (.map (zsw g))
 tok : σ[t]? = some (.tok 2 g.length)
def putTab (σ : List zg) (id m t : Nat) (l : List (List UInt8)) : List zg := ((σ.set t (.tok 1 l.length)).set id (.box [.own t (zdo l), .map m])).set m (.map (tabM l))
def putLed (σ : List zg) (id m t : Nat) (g : List zI) : List zg := ((σ.set m (.map (zsw g))).set t (.tok 2 g.length)).set id (.box [.own t (zny g), .map m])
abbrev zup (n : Nat) (l : List (List UInt8)) : List zg := [.map (tabM l), .box [.own (n + 2) (zdo l), .map n], .tok 1 l.length]
abbrev ledO (n : Nat) (g : List zI) : List zg := [.map (zsw g), .box [.own (n + 2) (zny g), .map n], .tok 2 g.length]
theorem zcd.ne {σ : List zg} {id m t : Nat} {l : List (List UInt8)} (h : zcd σ id m t l) : id ≠ m ∧ id ≠ t ∧ m ≠ t := by
 refine ⟨fun e => ?_,fun e => ?_,fun e => ?_⟩ <;> subst e
 ·have := h.box; rw [h.map] at this; cases this
 ·have := h.box; rw [h.tok] at this; cases this
 ·have := h.map; rw [h.tok] at this; cases this
theorem zea.ne {σ : List zg} {id m t : Nat} {g : List zI} (h : zea σ id m t g) : id ≠ m ∧ id ≠ t ∧ m ≠ t := by
 refine ⟨fun e => ?_,fun e => ?_,fun e => ?_⟩ <;> subst e
 ·have := h.box; rw [h.map] at this; cases this
 ·have := h.box; rw [h.tok] at this; cases this
 ·have := h.map; rw [h.tok] at this; cases this
theorem zcd.self {σ : List zg} {id m t : Nat} {l : List (List UInt8)} (h : zcd σ id m t l) : putTab σ id m t l = σ := by
 unfold putTab
 rw [zby h.tok,zby h.box,zby h.map]
theorem zea.self {σ : List zg} {id m t : Nat} {g : List zI} (h : zea σ id m t g) : putLed σ id m t g = σ := by
 unfold putLed
 rw [zby h.map,zby h.tok,zby h.box]
theorem zcd.app {σ : List zg} {id m t : Nat} {l : List (List UInt8)} (h : zcd σ id m t l) (τ : List zg) : zcd (σ ++ τ) id m t l := ⟨zf h.box,zf h.map,zf h.tok⟩
theorem zea.app {σ : List zg} {id m t : Nat} {g : List zI} (h : zea σ id m t g) (τ : List zg) : zea (σ ++ τ) id m t g := ⟨zf h.box,zf h.map,zf h.tok⟩
theorem tabAt_new (σ : List zg) (l : List (List UInt8)) (τ : List zg) : zcd (σ ++ (zup σ.length l ++ τ)) (σ.length + 1) σ.length (σ.length + 2) l :=
 ⟨by rw [zh]; rfl,by rw [zm]; rfl,by rw [zh]; rfl⟩
theorem ledAt_new (σ : List zg) (g : List zI) (τ : List zg) : zea (σ ++ (ledO σ.length g ++ τ)) (σ.length + 1) σ.length (σ.length + 2) g :=
 ⟨by rw [zh]; rfl,by rw [zm]; rfl,by rw [zh]; rfl⟩
theorem putTab_new (σ : List zg) (l l' : List (List UInt8)) (τ : List zg) : putTab (σ ++ (zup σ.length l ++ τ)) (σ.length + 1) σ.length (σ.length + 2) l' = σ ++ (zup σ.length l' ++ τ) := by
 unfold putTab
 rw [zT,zT,zN]; rfl
theorem putLed_new (σ : List zg) (g g' : List zI) (τ : List zg) : putLed (σ ++ (ledO σ.length g ++ τ)) (σ.length + 1) σ.length (σ.length + 2) g' = σ ++ (ledO σ.length g' ++ τ) := by
 unfold putLed
 rw [zN,zT,zT]; rfl
theorem ztc {σ : List zg} {id m t : Nat} {l : List (List UInt8)} (h : zcd σ id m t l) (l' : List (List UInt8)) (τ : List zg) : putTab (σ ++ τ) id m t l' = putTab σ id m t l' ++ τ := by
 have h1 := zA h.box; have h2 := zA h.map; have h3 := zA h.tok
 unfold putTab
 rw [List.set_append_left _ _ h3,List.set_append_left _ _ (by simpa using h1),List.set_append_left _ _ (by simpa using h2)]
theorem zcr (σ : List zg) (id m t : Nat) (l : List (List UInt8)) : (putTab σ id m t l).length = σ.length := by simp [putTab]
theorem putLed_len (σ : List zg) (id m t : Nat) (g : List zI) : (putLed σ id m t g).length = σ.length := by simp [putLed]
theorem zoR {n : Nat} (l : List (List UInt8)) : zuo n (.map (tabM l)) := by
 have key : ∀ (l : List (List UInt8)) (i : Nat), ∀ e ∈ zsy l i,Low n e.1 ∧ Low n e.2 := by
  intro l
  induction l with
  | nil => intro i e h; cases h
  | cons x r ih =>
   intro i e h
   simp only [zsy,List.mem_cons] at h
   rcases h with rfl | h
   ·exact ⟨.d _, .d _⟩
   ·exact ih _ e h
 exact fun e he => key l 0 e he
theorem ztl {n : Nat} (g : List zI) : zuo n (.map (zsw g)) := by
 intro e he
 simp only [zsw,List.mem_map] at he
 obtain ⟨s,_,rfl⟩ := he
 exact ⟨.agg _ (by simp [zcO]), .d _⟩
theorem lowBox {n t m : Nat} {es : List (List D)} (ht : t < n) (hm : m < n) : zuo n (.box [.own t es, .map m]) := by
 intro c hc
 simp only [List.mem_cons,List.not_mem_nil,or_false] at hc
 rcases hc with rfl | rfl
 ·exact .own _ _ ht
 ·exact .map _ hm
theorem zcd.lows {σ : List zg} {id m t : Nat} {l : List (List UInt8)} (h : zcd σ id m t l) (hl : zdY σ.length σ) (l' : List (List UInt8)) : zdY σ.length (putTab σ id m t l') :=
 ((hl.setO (show zuo _ (.tok 1 l'.length) from trivial)).setO (lowBox (zA h.tok) (zA h.map))).setO (zoR l')
theorem zea.lows {σ : List zg} {id m t : Nat} {g : List zI} (h : zea σ id m t g) (hl : zdY σ.length σ) (g' : List zI) : zdY σ.length (putLed σ id m t g') :=
 ((hl.setO (ztl g')).setO (show zuo _ (.tok 2 g'.length) from trivial)).setO (lowBox (zA h.tok) (zA h.map))
theorem low_tabO (n : Nat) (l : List (List UInt8)) : ∀ x ∈ zup n l,zuo (n + (zup n l).length) x := by
 intro x hx
 simp only [List.mem_cons,List.not_mem_nil,or_false] at hx
 rcases hx with rfl | rfl | rfl
 ·exact zoR l
 ·exact lowBox (by simp) (by simp)
 ·trivial
theorem low_ledO (n : Nat) (g : List zI) : ∀ x ∈ ledO n g,zuo (n + (ledO n g).length) x := by
 intro x hx
 simp only [List.mem_cons,List.not_mem_nil,or_false] at hx
 rcases hx with rfl | rfl | rfl
 ·exact ztl g
 ·exact lowBox (by simp) (by simp)
 ·trivial
end Go.Proofs.YtfjommppajkpoaaGreat

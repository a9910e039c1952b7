/- Topics: what the document says of them. No program in sight. -/
import Derived.Test.YtncpaekiidpchaaGreatMk5
import Derived.Test.YtncpaekiidpchaaGreatCk3
import Derived.Test.YtncpaekiidpchaaGreatCl1
set_option linter.all false
namespace Go.AW
structure zcF where
 name : List UInt8
 base : Int
 recs : List (List UInt8)
 groups : List (List UInt8 × Int)
structure zbG where
 l : List zcF
 last : List (Int × Int × Int)
def zdE : zbG := ⟨[],List.replicate 8 (0, 0, 0)⟩
abbrev zpq (g : List UInt8 × Int) : List D := [.str g.1, .int .i64 g.2]
abbrev zbX (l : List (List UInt8 × Int)) : List (List D) := l.map zpq
def zcF.next (x : zcF) : Int := x.base + x.recs.length
def atF (n : List UInt8) : List zcF → Nat → Option Nat
 | [],_ => none
 | x :: r,i => if (x.name == n) = true then some i else atF n r (i + 1)
def zse (n : List UInt8) : List zcF → Nat
 | [] => 0
 | x :: r => if Op.bytesLess x.name n = true then zse n r + 1 else 0
def zsf (n : List UInt8) : List (List UInt8 × Int) → Nat
 | [] => 0
 | g :: r => if Op.bytesLess g.1 n = true then zsf n r + 1 else 0
abbrev TRes := Int × Int
def zdt (T : zbG) (n : List UInt8) : TRes × zbG :=
 if (atF n T.l 0).isSome then ((5, 0),T) else if 8 ≤ T.l.length then ((6, 0),T)
 else ((0, 0), { T with l := T.l.take (zse n T.l) ++ ⟨n, 0, [], []⟩ :: T.l.drop (zse n T.l) })
def ziv (t : List UInt8) (o : Int) : List (List UInt8) → List zaU
 | [] => []
 | r :: l => ⟨t,o,r⟩ :: ziv t (o + 1) l
def zdb (T : zbG) (i : Nat) (x : zcF) (o : TOp) : TRes × List zaU × zbG :=
 if 64 < x.recs.length + o.recs.length ∨ 9007199254740992 - (o.recs.length : Int) < x.next then ((71, 0), [],T)
 else ((0,x.next),ziv x.name x.next o.recs, { T with l := T.l.set i { x with recs := x.recs ++ o.recs } })
def hadG (n : List UInt8) (l : List (List UInt8 × Int)) : Option Int := match l[zsf n l]? with
 | some g => if (g.1 == n) = true then some g.2 else none
 | none => none
def zcq (T : zbG) (i : Nat) (x : zcF) (o : TOp) : TRes × zbG :=
 if o.offset < (hadG o.group x.groups).getD 0 ∨ x.next < o.offset then ((72, 0),T)
 else if (hadG o.group x.groups).isSome = false ∧ 8 ≤ x.groups.length then ((6, 0),T)
 else ((0,o.offset), { T with l := T.l.set i { x with groups := x.groups.take (zsf o.group x.groups) ++ (o.group,o.offset) :: x.groups.drop (zsf o.group x.groups + if (hadG o.group x.groups).isSome then 1 else 0) } })
def zpW (T : zbG) (i : Nat) (x : zcF) (o : TOp) : TRes × zbG :=
 if o.offset < x.base ∨ x.next < o.offset then ((72, 0),T)
 else ((0,o.offset), { T with l := T.l.set i { x with recs := x.recs.drop (o.offset - x.base).toNat,base := o.offset } })
def zck (T : zbG) (o : TOp) : TRes × List zaU × zbG :=
 if zaT zdM o ≠ 0 then ((zaT zdM o, 0), [],T)
 else if o.kind = 0 then ((0, 0), [],T)
 else if o.kind = 1 then ((zdt T o.topic).1, [],(zdt T o.topic).2)
 else match atF o.topic T.l 0 with
  | none => ((4, 0), [],T)
  | some i => match T.l[i]? with
   | none => ((4, 0), [],T)
   | some x => if o.kind = 2 then zdb T i x o
    else if o.kind = 3 then ((zcq T i x o).1, [],(zcq T i x o).2)
    else ((zpW T i x o).1, [],(zpW T i x o).2)
def zbL (T : zbG) (c tm : Int) (o : TOp) : TRes × List zaU × Bool × zbG :=
 if c < 0 ∨ 8 ≤ c ∨ tm < 1 ∨ 9007199254740992 < tm then ((1, 0), [],false,T)
 else if tm = (T.last.getD c.toNat (0, 0, 0)).1 then ((T.last.getD c.toNat (0, 0, 0)).2, [],false,T)
 else if tm < (T.last.getD c.toNat (0, 0, 0)).1 then ((7, 0), [],false,T)
 else ((zck T o).1,(zck T o).2.1,true, { (zck T o).2.2 with last := (zck T o).2.2.last.set c.toNat (tm,(zck T o).1.1,(zck T o).1.2) })
theorem zoU (T : zbG) (o : TOp) : (zck T o).2.2.last = T.last := by
 unfold zck zdt zdb zcq zpW
 repeat' (first | rfl | split)
theorem zlA (t : List UInt8) : ∀ (l : List (List UInt8)) (o : Int),(ziv t o l).length = l.length
 | [],_ => rfl
 | _ :: l,o => by simp [ziv,zlA t l]
theorem zqF (t : List UInt8) : ∀ (l : List (List UInt8)) (o : Int) (r : List UInt8),ziv t o (l ++ [r]) = ziv t o l ++ [⟨t,o + l.length,r⟩]
 | [],o,r => by simp [ziv]
 | a :: l,o,r => by
  simp only [List.cons_append,ziv,zqF t l (o + 1) r,List.length_cons]
  congr 3
  simp; omega
theorem atF_step {n : List UInt8} {l : List zcF} {k : Nat} {x : zcF} (h : l[k]? = some x) : atF n (l.drop k) k = if (x.name == n) = true then some k else atF n (l.drop (k + 1)) (k + 1) := by
 have hk : k < l.length := (List.getElem?_eq_some_iff.1 h).1
 rw [List.drop_eq_getElem_cons hk,(List.getElem?_eq_some_iff.1 h).2]
 rfl
theorem atF_lt {n : List UInt8} : ∀ {l : List zcF} {i k : Nat},atF n l i = some k → i ≤ k ∧ k < i + l.length
 | [],_,_,h => by simp [atF] at h
 | x :: r,i,k,h => by
  simp only [atF] at h
  split at h
  ·cases h; simp
  ·have := atF_lt h; simp; omega
theorem zsG {n : List UInt8} {l : List zcF} {k : Nat} {x : zcF} (h : l[k]? = some x) : zse n (l.drop k) = if Op.bytesLess x.name n = true then zse n (l.drop (k + 1)) + 1 else 0 := by
 have hk : k < l.length := (List.getElem?_eq_some_iff.1 h).1
 rw [List.drop_eq_getElem_cons hk,(List.getElem?_eq_some_iff.1 h).2]
 rfl
theorem zsH {n : List UInt8} {l : List (List UInt8 × Int)} {k : Nat} {x : List UInt8 × Int} (h : l[k]? = some x) : zsf n (l.drop k) = if Op.bytesLess x.1 n = true then zsf n (l.drop (k + 1)) + 1 else 0 := by
 have hk : k < l.length := (List.getElem?_eq_some_iff.1 h).1
 rw [List.drop_eq_getElem_cons hk,(List.getElem?_eq_some_iff.1 h).2]
 rfl
abbrev topD (x : zcF) : List D := [.str x.name, .int .i64 x.base, .slice (zbV x.recs), .slice (zbX x.groups)]
abbrev zbs (l : List zcF) : List (List D) := l.map topD
abbrev zaj (es : List (List D)) : List AV := es.flatten.map .d
theorem zdJ {sz : Nat} : ∀ {es : List (List D)},(∀ e ∈ es,e.length = sz) → (zaj es).length = es.length * sz
 | [],_ => by simp [zaj]
 | e :: es,h => by
  have h1 := zdJ (es := es) fun x hx => h x (List.mem_cons_of_mem _ hx)
  have h2 := h e List.mem_cons_self
  simp only [zaj,List.length_map] at h1
  simp only [zaj,List.flatten_cons,List.map_append,List.length_append,List.length_map,h1,h2,List.length_cons,Nat.add_mul,Nat.one_mul]
  omega
theorem zoS {sz : Nat} : ∀ {es : List (List D)},(∀ e ∈ es,e.length = sz) → ∀ k,(zaj es).take (k * sz) = zaj (es.take k)
 | [],_,k => by simp [zaj]
 | e :: es,h,k => by
  cases k with
  | zero => simp [zaj]
  | succ k =>
   have h1 := zoS (es := es) (fun x hx => h x (List.mem_cons_of_mem _ hx)) k
   have h2 := h e List.mem_cons_self
   have e1 : zaj (e :: es) = e.map .d ++ zaj es := by simp [zaj]
   have e2 : zaj ((e :: es).take (k + 1)) = e.map .d ++ zaj (es.take k) := by simp [zaj]
   rw [e1,e2, ← h1,List.take_append,List.length_map,h2,show (k + 1) * sz - sz = k * sz by rw [Nat.add_mul]; omega,List.take_of_length_le (by rw [List.length_map,h2,Nat.add_mul]; omega)]
theorem ziG {sz : Nat} : ∀ {es : List (List D)},(∀ e ∈ es,e.length = sz) → ∀ k,(zaj es).drop (k * sz) = zaj (es.drop k)
 | [],_,k => by simp [zaj]
 | e :: es,h,k => by
  cases k with
  | zero => simp [zaj]
  | succ k =>
   have h1 := ziG (es := es) (fun x hx => h x (List.mem_cons_of_mem _ hx)) k
   have h2 := h e List.mem_cons_self
   have e1 : zaj (e :: es) = e.map .d ++ zaj es := by simp [zaj]
   rw [e1,List.drop_succ_cons, ← h1,List.drop_append,List.length_map,h2,show (k + 1) * sz - sz = k * sz by rw [Nat.add_mul]; omega,List.drop_of_length_le (by rw [List.length_map,h2,Nat.add_mul]; omega)]
   rfl
theorem zkK {sz : Nat} {es : List (List D)} (h : ∀ e ∈ es,e.length = sz) {k : Nat} {e : List D} (he : es[k]? = some e) : ((zaj es).drop (k * sz)).take sz = e.map .d := by
 have hk : k < es.length := (List.getElem?_eq_some_iff.1 he).1
 have hl := h e (List.mem_of_getElem? he)
 rw [ziG h,List.drop_eq_getElem_cons hk,(List.getElem?_eq_some_iff.1 he).2]
 simp only [zaj,List.flatten_cons,List.map_append]
 rw [List.take_append_of_le_length (by rw [List.length_map,hl]; exact Nat.le_refl _),List.take_of_length_le (by rw [List.length_map,hl]; exact Nat.le_refl _)]
theorem zoT {sz : Nat} {es : List (List D)} (h : ∀ e ∈ es,e.length = sz) {k i : Nat} {e : List D} (he : es[k]? = some e) (hi : i < sz) : (zaj es)[k * sz + i]? = (e[i]?).map .d := by
 have h1 := zkK h he
 have h2 : (((zaj es).drop (k * sz)).take sz)[i]? = (zaj es)[k * sz + i]? := by rw [List.getElem?_take,if_pos hi,List.getElem?_drop]
 rw [← h2,h1,List.getElem?_map]
theorem ziF {sz : Nat} {es : List (List D)} (h : ∀ e ∈ es,e.length = sz) {k i : Nat} {e : List D} (he : es[k]? = some e) (hi : i < sz) (x : D) : (zaj es).set (k * sz + i) (.d x) = zaj (es.set k (e.set i x)) := by
 have hk : k < es.length := (List.getElem?_eq_some_iff.1 he).1
 have hl := h e (List.mem_of_getElem? he)
 have e0 : es = es.take k ++ e :: es.drop (k + 1) := by
  rw [← (List.getElem?_eq_some_iff.1 he).2, ← List.drop_eq_getElem_cons hk,List.take_append_drop]
 have e1 : es.set k (e.set i x) = es.take k ++ e.set i x :: es.drop (k + 1) := by rw [List.set_eq_take_append_cons_drop,if_pos hk]
 have hlen : (zaj (es.take k)).length = k * sz := by
  rw [zdJ fun y hy => h y (List.mem_of_mem_take hy),List.length_take,Nat.min_eq_left (by omega)]
 have e2 : zaj es = zaj (es.take k) ++ (e.map .d ++ zaj (es.drop (k + 1))) := by
  conv => lhs; rw [e0]
  simp [zaj]
 have e3 : zaj (es.set k (e.set i x)) = zaj (es.take k) ++ ((e.set i x).map .d ++ zaj (es.drop (k + 1))) := by
  rw [e1]; simp [zaj]
 rw [e2,e3,List.set_append_right _ _ (by omega),hlen,Nat.add_sub_cancel_left,List.set_append_left _ _ (by rw [List.length_map]; omega),List.map_set]
theorem zdq (l : List zcF) : ∀ e ∈ zbs l,e.length = 4 := by
 intro e he
 obtain ⟨x,_,rfl⟩ := List.mem_map.1 he
 rfl
structure TopI (x : zcF) : Prop where
 base : 0 ≤ x.base
 next : x.next ≤ 9007199254740992
 recs : x.recs.length ≤ 64
 groups : x.groups.length ≤ 8
 name : x.name.length ≤ 64
 each : ∀ r ∈ x.recs,r.length ≤ 64
 gs : ∀ g ∈ x.groups,g.1.length ≤ 64 ∧ 0 ≤ g.2 ∧ g.2 ≤ 9007199254740992
structure zga (T : zbG) : Prop where
 len : T.l.length ≤ 8
 tops : ∀ x ∈ T.l,TopI x
theorem zga.none : zga zdE := ⟨by simp [zdE],by simp [zdE]⟩
theorem check0 {o : TOp} (h : zaT zdM o = 0) : 0 ≤ o.offset ∧ o.offset ≤ 9007199254740992 ∧ (o.kind ≠ 0 → zdM o.topic = true) ∧ (o.kind = 3 → zdM o.group = true) ∧ (o.kind = 2 → ∀ r ∈ o.recs,r.length ≤ 64) := by
 unfold zaT at h
 split at h
 ·cases h
 ·split at h
  ·cases h
  ·rename_i h2
   split at h
   ·cases h
   ·rename_i h3
    split at h
    ·cases h
    ·rename_i h4
     split at h
     ·cases h
     ·rename_i h5
      refine ⟨by omega,by omega,fun hk => by simpa [hk] using h2,fun hk => by simpa [hk] using h3,fun hk r hr => ?_⟩
      have : ¬ (o.recs.any (fun r => decide (r.length > 64)) = true) := fun e => h4 ⟨hk, .inr (.inr e)⟩
      simp only [List.any_eq_true,decide_eq_true_eq,not_exists,not_and] at this
      have := this r hr
      omega
theorem zlF {α : Type} {l : List α} {i : Nat} {x y : α} (h : y ∈ l.set i x) : y ∈ l ∨ y = x := List.mem_or_eq_of_mem_set h
theorem doesI {T : zbG} (h : zga T) (o : TOp) : zga (zck T o).2.2 := by
 unfold zck
 split
 ·exact h
 ·rename_i hc
  have hc : zaT zdM o = 0 := by simpa using hc
  obtain ⟨q1,q2,q3,q4,q5⟩ := check0 hc
  split
  ·exact h
  ·rename_i k0
   have hn := name_len (q3 k0)
   split
   ·unfold zdt
    split
    ·exact h
    ·split
     ·exact h
     ·refine ⟨by simp only [List.length_append,List.length_take,List.length_cons,List.length_drop]; omega,fun x hx => ?_⟩
      rcases List.mem_append.1 hx with hx | hx
      ·exact h.tops x (List.mem_of_mem_take hx)
      ·rcases List.mem_cons.1 hx with rfl | hx
       ·exact ⟨by simp,by simp [zcF.next],by simp,by simp,hn,by simp,by simp⟩
       ·exact h.tops x (List.mem_of_mem_drop hx)
   ·split
    ·exact h
    ·rename_i i _
     split
     ·exact h
     ·rename_i x hx
      have hX := h.tops x (List.mem_of_getElem? hx)
      have a1 := hX.base; have a2 := hX.next; have a3 := hX.recs; have a4 := hX.groups
      split
      ·rename_i k2
       unfold zdb
       split
       ·exact h
       ·rename_i hq
        refine ⟨by simpa using h.len,fun y hy => ?_⟩
        rcases zlF hy with hy | rfl
        ·exact h.tops y hy
        ·have e : x.next = x.base + x.recs.length := rfl
         refine ⟨a1,by simp only [zcF.next,List.length_append]; omega,by simp; omega,a4,hX.name,fun r hr => ?_,hX.gs⟩
         rcases List.mem_append.1 hr with hr | hr
         ·exact hX.each r hr
         ·exact q5 k2 r hr
      ·split
       ·rename_i k3
        have hg := name_len (q4 k3)
        unfold zcq
        split
        ·exact h
        ·split
         ·exact h
         ·rename_i h6 h7
          refine ⟨by simpa using h.len,fun y hy => ?_⟩
          rcases zlF hy with hy | rfl
          ·exact h.tops y hy
          ·refine ⟨a1,a2,a3, ?_,hX.name,hX.each,fun g hg' => ?_⟩
           ·simp only [List.length_append,List.length_take,List.length_cons,List.length_drop]
            cases hh : hadG o.group x.groups with
            | none => simp [hh] at h7 ⊢; omega
            | some v =>
             have : zsf o.group x.groups < x.groups.length := by
              rw [hadG] at hh
              split at hh
              ·rename_i g0 hg0; exact (List.getElem?_eq_some_iff.1 hg0).1
              ·cases hh
             simp; omega
           ·rcases List.mem_append.1 hg' with hg' | hg'
            ·exact hX.gs g (List.mem_of_mem_take hg')
            ·rcases List.mem_cons.1 hg' with rfl | hg'
             ·exact ⟨hg,q1,q2⟩
             ·exact hX.gs g (List.mem_of_mem_drop hg')
       ·unfold zpW
        split
        ·exact h
        ·rename_i h6
         refine ⟨by simpa using h.len,fun y hy => ?_⟩
         rcases zlF hy with hy | rfl
         ·exact h.tops y hy
         ·have e : x.next = x.base + x.recs.length := rfl
          exact ⟨q1,by simp only [zcF.next,List.length_drop]; omega,by simp; omega,a4,hX.name,fun r hr => hX.each r (List.mem_of_mem_drop hr),hX.gs⟩
theorem applyI {T : zbG} (h : zga T) (c tm : Int) (o : TOp) : zga (zbL T c tm o).2.2.2 := by
 unfold zbL
 split
 ·exact h
 ·split
  ·exact h
  ·split
   ·exact h
   ·exact ⟨(doesI h o).len,(doesI h o).tops⟩
def groupB (g : List UInt8 × Int) : List UInt8 := zlz g.1 ++ zbO g.2.toNat
def zmP (l : List (List UInt8 × Int)) : List UInt8 := (l.map groupB).flatten
def topB (x : zcF) : List UInt8 := zlz x.name ++ (zbO x.base.toNat ++ (zbO x.recs.length ++ (zkq x.recs ++ (zbO x.groups.length ++ zmP x.groups))))
def zne (l : List zcF) : List UInt8 := (l.map topB).flatten
def lastB (a : Int × Int × Int) : List UInt8 := zbO a.1.toNat ++ (zbO a.2.1.toNat ++ zbO a.2.2.toNat)
def zsK (l : List (Int × Int × Int)) : List UInt8 := (l.map lastB).flatten
def zev (T : zbG) : List UInt8 := zbO T.l.length ++ (zne T.l ++ zsK T.last)
theorem zmQ {α : Type} {f : α → List UInt8} {n : Nat} : ∀ {l : List α},(∀ x ∈ l,(f x).length ≤ n) → ((l.map f).flatten).length ≤ l.length * n
 | [],_ => by simp
 | x :: l,h => by
  have h1 := h x List.mem_cons_self
  have h2 := zmQ (l := l) fun y hy => h y (List.mem_cons_of_mem _ hy)
  simp only [List.map_cons,List.flatten_cons,List.length_append,List.length_cons,Nat.add_mul,Nat.one_mul]
  omega
theorem zsL {g : List UInt8 × Int} (h : g.1.length ≤ 64 ∧ 0 ≤ g.2 ∧ g.2 ≤ 9007199254740992) : (groupB g).length ≤ 84 := by
 have h1 := zeT (x := g.1) (by omega)
 have h2 := zx (n := g.2.toNat) (by omega)
 simp only [groupB,List.length_append]; omega
theorem topB_len {x : zcF} (h : TopI x) : (topB x).length ≤ 5600 := by
 have h1 := zeT (x := x.name) (by have := h.name; omega)
 have e : x.next = x.base + x.recs.length := rfl
 have a1 := h.base; have a2 := h.next; have a3 := h.recs; have a4 := h.groups; have a5 := h.name
 have h2 := zx (n := x.base.toNat) (by omega)
 have h3 := zx (n := x.recs.length) (by omega)
 have h4 := zx (n := x.groups.length) (by omega)
 have h5 : (zkq x.recs).length ≤ x.recs.length * 74 := zmQ fun r hr => by have := h.each r hr; have := zeT (x := r) (by omega); omega
 have h6 : (zmP x.groups).length ≤ x.groups.length * 84 := zmQ fun g hg => zsL (h.gs g hg)
 simp only [topB,List.length_append]; omega
theorem zsp {l : List zcF} (h : ∀ x ∈ l,TopI x) : (zne l).length ≤ l.length * 5600 := zmQ fun x hx => topB_len (h x hx)
def zlq (l : List (Int × Int × Int)) : Prop := ∀ a ∈ l,(0 ≤ a.1 ∧ a.1 ≤ 9007199254740992) ∧ (0 ≤ a.2.1 ∧ a.2.1 ≤ 9007199254740992) ∧ (0 ≤ a.2.2 ∧ a.2.2 ≤ 9007199254740992)
theorem lastB_len {a : Int × Int × Int} (h : (0 ≤ a.1 ∧ a.1 ≤ 9007199254740992) ∧ (0 ≤ a.2.1 ∧ a.2.1 ≤ 9007199254740992) ∧ (0 ≤ a.2.2 ∧ a.2.2 ≤ 9007199254740992)) : (lastB a).length ≤ 30 := by
 have h1 := zx (n := a.1.toNat) (by omega)
 have h2 := zx (n := a.2.1.toNat) (by omega)
 have h3 := zx (n := a.2.2.toNat) (by omega)
 simp only [lastB,List.length_append]; omega
theorem zsJ {l : List (Int × Int × Int)} (h : zlq l) : (zsK l).length ≤ l.length * 30 := zmQ fun a ha => lastB_len (h a ha)
def zW : zbG → List zn → List zaU × zbG
 | T, [] => ([],T)
 | T,x :: r => ((zbL T x.client x.time x.op).2.1 ++ (zW (zbL T x.client x.time x.op).2.2.2 r).1,(zW (zbL T x.client x.time x.op).2.2.2 r).2)
theorem znQ (x : zn) : ∀ (l : List zn) (T : zbG),zW T (l ++ [x]) = ((zW T l).1 ++ (zbL (zW T l).2 x.client x.time x.op).2.1,(zbL (zW T l).2 x.client x.time x.op).2.2.2)
 | [],T => by simp [zW]
 | y :: l,T => by
  simp only [List.cons_append,zW,znQ x l,List.append_assoc]
theorem zrH : ∀ (l : List zn) {T : zbG},zga T → zga (zW T l).2
 | [],_,h => h
 | x :: l,_,h => zrH l (applyI h x.client x.time x.op)
theorem checkOp_rng (n : List UInt8 → Bool) (o : TOp) : 0 ≤ zaT n o ∧ zaT n o ≤ 100 := by
 unfold zaT
 repeat' split
 all_goals omega
theorem doesR {T : zbG} (h : zga T) (o : TOp) : (0 ≤ (zck T o).1.1 ∧ (zck T o).1.1 ≤ 9007199254740992) ∧ (0 ≤ (zck T o).1.2 ∧ (zck T o).1.2 ≤ 9007199254740992) := by
 unfold zck
 split
 ·have := checkOp_rng zdM o
  exact ⟨⟨this.1,by simp only; omega⟩,by simp,by simp⟩
 ·rename_i hc
  have hc : zaT zdM o = 0 := by simpa using hc
  obtain ⟨q1,q2,_⟩ := check0 hc
  split
  ·simp
  ·split
   ·unfold zdt
    repeat' split
    all_goals simp
   ·split
    ·simp
    ·split
     ·simp
     ·rename_i x hx
      have hX := h.tops x (List.mem_of_getElem? hx)
      have a1 := hX.base; have a2 := hX.next
      have e : x.next = x.base + x.recs.length := rfl
      split
      ·unfold zdb
       split
       ·simp
       ·exact ⟨by simp,by simp only; omega,by simp only; omega⟩
      ·split
       ·unfold zcq
        repeat' split
        all_goals first | simp; done | exact ⟨by simp,q1,q2⟩
       ·unfold zpW
        split
        ·simp
        ·exact ⟨by simp,q1,q2⟩
theorem applyL {T : zbG} (h : zga T) (hL : zlq T.last) (c tm : Int) (o : TOp) : zlq (zbL T c tm o).2.2.2.last := by
 unfold zbL
 split
 ·exact hL
 ·rename_i h1
  split
  ·exact hL
  ·split
   ·exact hL
   ·intro a ha
    rcases zlF ha with ha | rfl
    ·rw [zoU] at ha; exact hL a ha
    ·exact ⟨by simp only; omega,doesR h o⟩
theorem zrG : ∀ (l : List zn) {T : zbG},zga T → zlq T.last → zlq (zW T l).2.last
 | [],_,_,h => h
 | x :: l,_,hI,h => zrG l (applyI hI x.client x.time x.op) (applyL hI h x.client x.time x.op)
theorem applyF_last {T : zbG} (c tm : Int) (o : TOp) : (zbL T c tm o).2.2.2.last.length = T.last.length := by
 unfold zbL
 repeat' split
 all_goals simp [zoU]
def PlI (p : zaU) : Prop := 0 ≤ p.offset ∧ p.offset ≤ 9007199254740992 ∧ p.topic.length ≤ 64 ∧ p.rec_.length ≤ 64
theorem placeI {t : List UInt8} (ht : t.length ≤ 64) : ∀ {l : List (List UInt8)} {o : Int}, 0 ≤ o → o + l.length ≤ 9007199254740992 → (∀ r ∈ l,r.length ≤ 64) → ∀ p ∈ ziv t o l,PlI p
 | [],_,_,_,_,p,h => by simp [ziv] at h
 | r :: l,o,h0,h1,h2,p,h => by
  simp only [List.length_cons] at h1
  rcases List.mem_cons.1 h with rfl | h
  ·exact ⟨h0,by simp only; omega,ht,h2 r List.mem_cons_self⟩
  ·exact placeI ht (l := l) (o := o + 1) (by omega) (by omega) (fun r hr => h2 r (List.mem_cons_of_mem _ hr)) p h
theorem doesP {T : zbG} (h : zga T) (o : TOp) : (∀ p ∈ (zck T o).2.1,PlI p) ∧ (zck T o).2.1.length ≤ 64 := by
 unfold zck
 split
 ·simp
 ·rename_i hc
  have hc : zaT zdM o = 0 := by simpa using hc
  obtain ⟨q1,q2,q3,q4,q5⟩ := check0 hc
  split
  ·simp
  ·split
   ·simp
   ·split
    ·simp
    ·split
     ·simp
     ·rename_i x hx
      have hX := h.tops x (List.mem_of_getElem? hx)
      have a1 := hX.base; have a2 := hX.next
      have e : x.next = x.base + x.recs.length := rfl
      split
      ·rename_i k2
       unfold zdb
       split
       ·simp
       ·exact ⟨placeI hX.name (by omega) (by omega) (q5 k2),by simp only [zlA]; omega⟩
      ·split <;> simp
theorem applyP {T : zbG} (h : zga T) (c tm : Int) (o : TOp) : (∀ p ∈ (zbL T c tm o).2.1,PlI p) ∧ (zbL T c tm o).2.1.length ≤ 64 := by
 unfold zbL
 repeat' split
 all_goals first | (simp; done) | exact doesP h o
theorem zlb : ∀ (l : List zn) {T : zbG},zga T → (∀ p ∈ (zW T l).1,PlI p) ∧ (zW T l).1.length ≤ l.length * 64
 | [],_,_ => by simp [zW]
 | x :: l,T,h => by
  obtain ⟨h1,h2⟩ := applyP h x.client x.time x.op
  obtain ⟨h3,h4⟩ := zlb l (applyI h x.client x.time x.op)
  refine ⟨fun p hp => ?_,by simp only [zW,List.length_append,List.length_cons,Nat.add_mul]; omega⟩
  rcases List.mem_append.1 hp with hp | hp
  ·exact h1 p hp
  ·exact h3 p hp
end Go.AW

/- Topics: what the document says of them. No program in sight. -/
import Derived.Test.YtfjommppajkpoaaGreatId5
import Derived.Test.YtfjommppajkpoaaGreatSpMap
import Derived.Test.YtfjommppajkpoaaGreatCl1
set_option linter.all false
namespace Go.AW
structure zcM where
 name : List UInt8
 base : Int
 recs : List (List UInt8)
 groups : List (List UInt8 × Int)
structure zcb where
 l : List zcM
 last : List (Int × Int × Int)
def zdA : zcb := ⟨[],List.replicate 8 (0, 0, 0)⟩
abbrev zpu (g : List UInt8 × Int) : List D := [.str g.1, .int .i64 g.2]
abbrev zbM (l : List (List UInt8 × Int)) : List (List D) := l.map zpu
def zcM.next (x : zcM) : Int := x.base + x.recs.length
def atF (n : List UInt8) : List zcM → Nat → Option Nat
 | [],_ => none
 | x :: r,i => if (x.name == n) = true then some i else atF n r (i + 1)
def zsE (n : List UInt8) : List zcM → Nat
 | [] => 0
 | x :: r => if Op.bytesLess x.name n = true then zsE n r + 1 else 0
def zsF (n : List UInt8) : List (List UInt8 × Int) → Nat
 | [] => 0
 | g :: r => if Op.bytesLess g.1 n = true then zsF n r + 1 else 0
abbrev TRes := Int × Int
def zdn (T : zcb) (n : List UInt8) : TRes × zcb :=
 if (atF n T.l 0).isSome then ((5, 0),T) else if 8 ≤ T.l.length then ((6, 0),T)
 else ((0, 0), { T with l := T.l.take (zsE n T.l) ++ ⟨n, 0, [], []⟩ :: T.l.drop (zsE n T.l) })
def zkz (t : List UInt8) (o : Int) : List (List UInt8) → List zbe
 | [] => []
 | r :: l => ⟨t,o,r⟩ :: zkz t (o + 1) l
def zdp (T : zcb) (i : Nat) (x : zcM) (o : TOp) : TRes × List zbe × zcb :=
 if 64 < x.recs.length + o.recs.length ∨ 9007199254740992 - (o.recs.length : Int) < x.next then ((71, 0), [],T)
 else ((0,x.next),zkz x.name x.next o.recs, { T with l := T.l.set i { x with recs := x.recs ++ o.recs } })
def hadG (n : List UInt8) (l : List (List UInt8 × Int)) : Option Int := match l[zsF n l]? with
 | some g => if (g.1 == n) = true then some g.2 else none
 | none => none
def zcq (T : zcb) (i : Nat) (x : zcM) (o : TOp) : TRes × zcb :=
 if o.offset < (hadG o.group x.groups).getD 0 ∨ x.next < o.offset then ((72, 0),T)
 else if (hadG o.group x.groups).isSome = false ∧ 8 ≤ x.groups.length then ((6, 0),T)
 else ((0,o.offset), { T with l := T.l.set i { x with groups := x.groups.take (zsF o.group x.groups) ++ (o.group,o.offset) :: x.groups.drop (zsF o.group x.groups + if (hadG o.group x.groups).isSome then 1 else 0) } })
def zpX (T : zcb) (i : Nat) (x : zcM) (o : TOp) : TRes × zcb :=
 if o.offset < x.base ∨ x.next < o.offset then ((72, 0),T)
 else ((0,o.offset), { T with l := T.l.set i { x with recs := x.recs.drop (o.offset - x.base).toNat,base := o.offset } })
def zcw (T : zcb) (o : TOp) : TRes × List zbe × zcb :=
 if zbj zeL o ≠ 0 then ((zbj zeL o, 0), [],T)
 else if o.kind = 0 then ((0, 0), [],T)
 else if o.kind = 1 then ((zdn T o.topic).1, [],(zdn T o.topic).2)
 else match atF o.topic T.l 0 with
  | none => ((4, 0), [],T)
  | some i => match T.l[i]? with
   | none => ((4, 0), [],T)
   | some x => if o.kind = 2 then zdp T i x o
    else if o.kind = 3 then ((zcq T i x o).1, [],(zcq T i x o).2)
    else ((zpX T i x o).1, [],(zpX T i x o).2)
def zcm (T : zcb) (c tm : Int) (o : TOp) : TRes × List zbe × Bool × zcb :=
 if c < 0 ∨ 8 ≤ c ∨ tm < 1 ∨ 9007199254740992 < tm then ((1, 0), [],false,T)
 else if tm = (T.last.getD c.toNat (0, 0, 0)).1 then ((T.last.getD c.toNat (0, 0, 0)).2, [],false,T)
 else if tm < (T.last.getD c.toNat (0, 0, 0)).1 then ((7, 0), [],false,T)
 else ((zcw T o).1,(zcw T o).2.1,true, { (zcw T o).2.2 with last := (zcw T o).2.2.last.set c.toNat (tm,(zcw T o).1.1,(zcw T o).1.2) })
theorem zpf (T : zcb) (o : TOp) : (zcw T o).2.2.last = T.last := by
 unfold zcw zdn zdp zcq zpX
 repeat' (first | rfl | split)
theorem zoC (t : List UInt8) : ∀ (l : List (List UInt8)) (o : Int),(zkz t o l).length = l.length
 | [],_ => rfl
 | _ :: l,o => by simp [zkz,zoC t l]
theorem zqT (t : List UInt8) : ∀ (l : List (List UInt8)) (o : Int) (r : List UInt8),zkz t o (l ++ [r]) = zkz t o l ++ [⟨t,o + l.length,r⟩]
 | [],o,r => by simp [zkz]
 | a :: l,o,r => by
  simp only [List.cons_append,zkz,zqT t l (o + 1) r,List.length_cons]
  congr 3
  simp; omega
theorem atF_step {n : List UInt8} {l : List zcM} {k : Nat} {x : zcM} (h : l[k]? = some x) : atF n (l.drop k) k = if (x.name == n) = true then some k else atF n (l.drop (k + 1)) (k + 1) := by
 have hk : k < l.length := (List.getElem?_eq_some_iff.1 h).1
 rw [List.drop_eq_getElem_cons hk,(List.getElem?_eq_some_iff.1 h).2]
 rfl
theorem atF_lt {n : List UInt8} : ∀ {l : List zcM} {i k : Nat},atF n l i = some k → i ≤ k ∧ k < i + l.length
 | [],_,_,h => by simp [atF] at h
 | x :: r,i,k,h => by
  simp only [atF] at h
  split at h
  ·cases h; simp
  ·have := atF_lt h; simp; omega
theorem zto {n : List UInt8} {l : List zcM} {k : Nat} {x : zcM} (h : l[k]? = some x) : zsE n (l.drop k) = if Op.bytesLess x.name n = true then zsE n (l.drop (k + 1)) + 1 else 0 := by
 have hk : k < l.length := (List.getElem?_eq_some_iff.1 h).1
 rw [List.drop_eq_getElem_cons hk,(List.getElem?_eq_some_iff.1 h).2]
 rfl
theorem ztp {n : List UInt8} {l : List (List UInt8 × Int)} {k : Nat} {x : List UInt8 × Int} (h : l[k]? = some x) : zsF n (l.drop k) = if Op.bytesLess x.1 n = true then zsF n (l.drop (k + 1)) + 1 else 0 := by
 have hk : k < l.length := (List.getElem?_eq_some_iff.1 h).1
 rw [List.drop_eq_getElem_cons hk,(List.getElem?_eq_some_iff.1 h).2]
 rfl
abbrev topD (x : zcM) : List D := [.str x.name, .int .i64 x.base, .slice (zcj x.recs), .slice (zbM x.groups)]
abbrev zbl (l : List zcM) : List (List D) := l.map topD
abbrev zaa (es : List (List D)) : List AV := es.flatten.map .d
theorem zdG {sz : Nat} : ∀ {es : List (List D)},(∀ e ∈ es,e.length = sz) → (zaa es).length = es.length * sz
 | [],_ => by simp [zaa]
 | e :: es,h => by
  have h1 := zdG (es := es) fun x hx => h x (List.mem_cons_of_mem _ hx)
  have h2 := h e List.mem_cons_self
  simp only [zaa,List.length_map] at h1
  simp only [zaa,List.flatten_cons,List.map_append,List.length_append,List.length_map,h1,h2,List.length_cons,Nat.add_mul,Nat.one_mul]
  omega
theorem zoX {sz : Nat} : ∀ {es : List (List D)},(∀ e ∈ es,e.length = sz) → ∀ k,(zaa es).take (k * sz) = zaa (es.take k)
 | [],_,k => by simp [zaa]
 | e :: es,h,k => by
  cases k with
  | zero => simp [zaa]
  | succ k =>
   have h1 := zoX (es := es) (fun x hx => h x (List.mem_cons_of_mem _ hx)) k
   have h2 := h e List.mem_cons_self
   have e1 : zaa (e :: es) = e.map .d ++ zaa es := by simp [zaa]
   have e2 : zaa ((e :: es).take (k + 1)) = e.map .d ++ zaa (es.take k) := by simp [zaa]
   rw [e1,e2, ← h1,List.take_append,List.length_map,h2,show (k + 1) * sz - sz = k * sz by rw [Nat.add_mul]; omega,List.take_of_length_le (by rw [List.length_map,h2,Nat.add_mul]; omega)]
theorem ziD {sz : Nat} : ∀ {es : List (List D)},(∀ e ∈ es,e.length = sz) → ∀ k,(zaa es).drop (k * sz) = zaa (es.drop k)
 | [],_,k => by simp [zaa]
 | e :: es,h,k => by
  cases k with
  | zero => simp [zaa]
  | succ k =>
   have h1 := ziD (es := es) (fun x hx => h x (List.mem_cons_of_mem _ hx)) k
   have h2 := h e List.mem_cons_self
   have e1 : zaa (e :: es) = e.map .d ++ zaa es := by simp [zaa]
   rw [e1,List.drop_succ_cons, ← h1,List.drop_append,List.length_map,h2,show (k + 1) * sz - sz = k * sz by rw [Nat.add_mul]; omega,List.drop_of_length_le (by rw [List.length_map,h2,Nat.add_mul]; omega)]
   rfl
theorem zkP {sz : Nat} {es : List (List D)} (h : ∀ e ∈ es,e.length = sz) {k : Nat} {e : List D} (he : es[k]? = some e) : ((zaa es).drop (k * sz)).take sz = e.map .d := by
 have hk : k < es.length := (List.getElem?_eq_some_iff.1 he).1
 have hl := h e (List.mem_of_getElem? he)
 rw [ziD h,List.drop_eq_getElem_cons hk,(List.getElem?_eq_some_iff.1 he).2]
 simp only [zaa,List.flatten_cons,List.map_append]
 rw [List.take_append_of_le_length (by rw [List.length_map,hl]; exact Nat.le_refl _),List.take_of_length_le (by rw [List.length_map,hl]; exact Nat.le_refl _)]
theorem zoY {sz : Nat} {es : List (List D)} (h : ∀ e ∈ es,e.length = sz) {k i : Nat} {e : List D} (he : es[k]? = some e) (hi : i < sz) : (zaa es)[k * sz + i]? = (e[i]?).map .d := by
 have h1 := zkP h he
 have h2 : (((zaa es).drop (k * sz)).take sz)[i]? = (zaa es)[k * sz + i]? := by rw [List.getElem?_take,if_pos hi,List.getElem?_drop]
 rw [← h2,h1,List.getElem?_map]
theorem ziC {sz : Nat} {es : List (List D)} (h : ∀ e ∈ es,e.length = sz) {k i : Nat} {e : List D} (he : es[k]? = some e) (hi : i < sz) (x : D) : (zaa es).set (k * sz + i) (.d x) = zaa (es.set k (e.set i x)) := by
 have hk : k < es.length := (List.getElem?_eq_some_iff.1 he).1
 have hl := h e (List.mem_of_getElem? he)
 have e0 : es = es.take k ++ e :: es.drop (k + 1) := by
  rw [← (List.getElem?_eq_some_iff.1 he).2, ← List.drop_eq_getElem_cons hk,List.take_append_drop]
 have e1 : es.set k (e.set i x) = es.take k ++ e.set i x :: es.drop (k + 1) := by rw [List.set_eq_take_append_cons_drop,if_pos hk]
 have hlen : (zaa (es.take k)).length = k * sz := by
  rw [zdG fun y hy => h y (List.mem_of_mem_take hy),List.length_take,Nat.min_eq_left (by omega)]
 have e2 : zaa es = zaa (es.take k) ++ (e.map .d ++ zaa (es.drop (k + 1))) := by
  conv => lhs; rw [e0]
  simp [zaa]
 have e3 : zaa (es.set k (e.set i x)) = zaa (es.take k) ++ ((e.set i x).map .d ++ zaa (es.drop (k + 1))) := by
  rw [e1]; simp [zaa]
 rw [e2,e3,List.set_append_right _ _ (by omega),hlen,Nat.add_sub_cancel_left,List.set_append_left _ _ (by rw [List.length_map]; omega),List.map_set]
theorem zdh (l : List zcM) : ∀ e ∈ zbl l,e.length = 4 := by
 intro e he
 obtain ⟨x,_,rfl⟩ := List.mem_map.1 he
 rfl
structure TopI (x : zcM) : Prop where
 base : 0 ≤ x.base
 next : x.next ≤ 9007199254740992
 recs : x.recs.length ≤ 64
 groups : x.groups.length ≤ 8
 name : x.name.length ≤ 64
 each : ∀ r ∈ x.recs,r.length ≤ 64
 gs : ∀ g ∈ x.groups,g.1.length ≤ 64 ∧ 0 ≤ g.2 ∧ g.2 ≤ 9007199254740992
structure zhz (T : zcb) : Prop where
 len : T.l.length ≤ 8
 tops : ∀ x ∈ T.l,TopI x
theorem zhz.none : zhz zdA := ⟨by simp [zdA],by simp [zdA]⟩
theorem check0 {o : TOp} (h : zbj zeL o = 0) : 0 ≤ o.offset ∧ o.offset ≤ 9007199254740992 ∧ (o.kind ≠ 0 → zeL o.topic = true) ∧ (o.kind = 3 → zeL o.group = true) ∧ (o.kind = 2 → ∀ r ∈ o.recs,r.length ≤ 64) := by
 unfold zbj at h
 split at h
 ·cases h
 ·split at h
  ·cases h
  ·rename_i h2
   split at h
   ·cases h
   ·rename_i h3
    split at h
    ·cases h
    ·rename_i h4
     split at h
     ·cases h
     ·rename_i h5
      refine ⟨by omega,by omega,fun hk => by simpa [hk] using h2,fun hk => by simpa [hk] using h3,fun hk r hr => ?_⟩
      have : ¬ (o.recs.any (fun r => decide (r.length > 64)) = true) := fun e => h4 ⟨hk, .inr (.inr e)⟩
      simp only [List.any_eq_true,decide_eq_true_eq,not_exists,not_and] at this
      have := this r hr
      omega
theorem zlA {α : Type} {l : List α} {i : Nat} {x y : α} (h : y ∈ l.set i x) : y ∈ l ∨ y = x := List.mem_or_eq_of_mem_set h
theorem doesI {T : zcb} (h : zhz T) (o : TOp) : zhz (zcw T o).2.2 := by
 unfold zcw
 split
 ·exact h
 ·rename_i hc
  have hc : zbj zeL o = 0 := by simpa using hc
  obtain ⟨q1,q2,q3,q4,q5⟩ := check0 hc
  split
  ·exact h
  ·rename_i k0
   have hn := name_len (q3 k0)
   split
   ·unfold zdn
    split
    ·exact h
    ·split
     ·exact h
     ·refine ⟨by simp only [List.length_append,List.length_take,List.length_cons,List.length_drop]; omega,fun x hx => ?_⟩
      rcases List.mem_append.1 hx with hx | hx
      ·exact h.tops x (List.mem_of_mem_take hx)
      ·rcases List.mem_cons.1 hx with rfl | hx
       ·exact ⟨by simp,by simp [zcM.next],by simp,by simp,hn,by simp,by simp⟩
       ·exact h.tops x (List.mem_of_mem_drop hx)
   ·split
    ·exact h
    ·rename_i i _
     split
     ·exact h
     ·rename_i x hx
      have hX := h.tops x (List.mem_of_getElem? hx)
      have a1 := hX.base; have a2 := hX.next; have a3 := hX.recs; have a4 := hX.groups
      split
      ·rename_i k2
       unfold zdp
       split
       ·exact h
       ·rename_i hq
        refine ⟨by simpa using h.len,fun y hy => ?_⟩
        rcases zlA hy with hy | rfl
        ·exact h.tops y hy
        ·have e : x.next = x.base + x.recs.length := rfl
         refine ⟨a1,by simp only [zcM.next,List.length_append]; omega,by simp; omega,a4,hX.name,fun r hr => ?_,hX.gs⟩
         rcases List.mem_append.1 hr with hr | hr
         ·exact hX.each r hr
         ·exact q5 k2 r hr
      ·split
       ·rename_i k3
        have hg := name_len (q4 k3)
        unfold zcq
        split
        ·exact h
        ·split
         ·exact h
         ·rename_i h6 h7
          refine ⟨by simpa using h.len,fun y hy => ?_⟩
          rcases zlA hy with hy | rfl
          ·exact h.tops y hy
          ·refine ⟨a1,a2,a3, ?_,hX.name,hX.each,fun g hg' => ?_⟩
           ·simp only [List.length_append,List.length_take,List.length_cons,List.length_drop]
            cases hh : hadG o.group x.groups with
            | none => simp [hh] at h7 ⊢; omega
            | some v =>
             have : zsF o.group x.groups < x.groups.length := by
              rw [hadG] at hh
              split at hh
              ·rename_i g0 hg0; exact (List.getElem?_eq_some_iff.1 hg0).1
              ·cases hh
             simp; omega
           ·rcases List.mem_append.1 hg' with hg' | hg'
            ·exact hX.gs g (List.mem_of_mem_take hg')
            ·rcases List.mem_cons.1 hg' with rfl | hg'
             ·exact ⟨hg,q1,q2⟩
             ·exact hX.gs g (List.mem_of_mem_drop hg')
       ·unfold zpX
        split
        ·exact h
        ·rename_i h6
         refine ⟨by simpa using h.len,fun y hy => ?_⟩
         rcases zlA hy with hy | rfl
         ·exact h.tops y hy
         ·have e : x.next = x.base + x.recs.length := rfl
          exact ⟨q1,by simp only [zcM.next,List.length_drop]; omega,by simp; omega,a4,hX.name,fun r hr => hX.each r (List.mem_of_mem_drop hr),hX.gs⟩
theorem applyI {T : zcb} (h : zhz T) (c tm : Int) (o : TOp) : zhz (zcm T c tm o).2.2.2 := by
 unfold zcm
 split
 ·exact h
 ·split
  ·exact h
  ·split
   ·exact h
   ·exact ⟨(doesI h o).len,(doesI h o).tops⟩
def groupB (g : List UInt8 × Int) : List UInt8 := znn g.1 ++ zcn g.2.toNat
def zmI (l : List (List UInt8 × Int)) : List UInt8 := (l.map groupB).flatten
def topB (x : zcM) : List UInt8 := znn x.name ++ (zcn x.base.toNat ++ (zcn x.recs.length ++ (zkc x.recs ++ (zcn x.groups.length ++ zmI x.groups))))
def zng (l : List zcM) : List UInt8 := (l.map topB).flatten
def lastB (a : Int × Int × Int) : List UInt8 := zcn a.1.toNat ++ (zcn a.2.1.toNat ++ zcn a.2.2.toNat)
def ztr (l : List (Int × Int × Int)) : List UInt8 := (l.map lastB).flatten
def zfl (T : zcb) : List UInt8 := zcn T.l.length ++ (zng T.l ++ ztr T.last)
theorem zmK {α : Type} {f : α → List UInt8} {n : Nat} : ∀ {l : List α},(∀ x ∈ l,(f x).length ≤ n) → ((l.map f).flatten).length ≤ l.length * n
 | [],_ => by simp
 | x :: l,h => by
  have h1 := h x List.mem_cons_self
  have h2 := zmK (l := l) fun y hy => h y (List.mem_cons_of_mem _ hy)
  simp only [List.map_cons,List.flatten_cons,List.length_append,List.length_cons,Nat.add_mul,Nat.one_mul]
  omega
theorem ztu {g : List UInt8 × Int} (h : g.1.length ≤ 64 ∧ 0 ≤ g.2 ∧ g.2 ≤ 9007199254740992) : (groupB g).length ≤ 84 := by
 have h1 := zeK (x := g.1) (by omega)
 have h2 := zt (n := g.2.toNat) (by omega)
 simp only [groupB,List.length_append]; omega
theorem topB_len {x : zcM} (h : TopI x) : (topB x).length ≤ 5600 := by
 have h1 := zeK (x := x.name) (by have := h.name; omega)
 have e : x.next = x.base + x.recs.length := rfl
 have a1 := h.base; have a2 := h.next; have a3 := h.recs; have a4 := h.groups; have a5 := h.name
 have h2 := zt (n := x.base.toNat) (by omega)
 have h3 := zt (n := x.recs.length) (by omega)
 have h4 := zt (n := x.groups.length) (by omega)
 have h5 : (zkc x.recs).length ≤ x.recs.length * 74 := zmK fun r hr => by have := h.each r hr; have := zeK (x := r) (by omega); omega
 have h6 : (zmI x.groups).length ≤ x.groups.length * 84 := zmK fun g hg => ztu (h.gs g hg)
 simp only [topB,List.length_append]; omega
theorem zsU {l : List zcM} (h : ∀ x ∈ l,TopI x) : (zng l).length ≤ l.length * 5600 := zmK fun x hx => topB_len (h x hx)
def zlp (l : List (Int × Int × Int)) : Prop := ∀ a ∈ l,(0 ≤ a.1 ∧ a.1 ≤ 9007199254740992) ∧ (0 ≤ a.2.1 ∧ a.2.1 ≤ 9007199254740992) ∧ (0 ≤ a.2.2 ∧ a.2.2 ≤ 9007199254740992)
theorem lastB_len {a : Int × Int × Int} (h : (0 ≤ a.1 ∧ a.1 ≤ 9007199254740992) ∧ (0 ≤ a.2.1 ∧ a.2.1 ≤ 9007199254740992) ∧ (0 ≤ a.2.2 ∧ a.2.2 ≤ 9007199254740992)) : (lastB a).length ≤ 30 := by
 have h1 := zt (n := a.1.toNat) (by omega)
 have h2 := zt (n := a.2.1.toNat) (by omega)
 have h3 := zt (n := a.2.2.toNat) (by omega)
 simp only [lastB,List.length_append]; omega
theorem ztq {l : List (Int × Int × Int)} (h : zlp l) : (ztr l).length ≤ l.length * 30 := zmK fun a ha => lastB_len (h a ha)
def zax : zcb → List zr → List zbe × zcb
 | T, [] => ([],T)
 | T,x :: r => ((zcm T x.client x.time x.op).2.1 ++ (zax (zcm T x.client x.time x.op).2.2.2 r).1,(zax (zcm T x.client x.time x.op).2.2.2 r).2)
theorem znW (x : zr) : ∀ (l : List zr) (T : zcb),zax T (l ++ [x]) = ((zax T l).1 ++ (zcm (zax T l).2 x.client x.time x.op).2.1,(zcm (zax T l).2 x.client x.time x.op).2.2.2)
 | [],T => by simp [zax]
 | y :: l,T => by
  simp only [List.cons_append,zax,znW x l,List.append_assoc]
theorem zrZ : ∀ (l : List zr) {T : zcb},zhz T → zhz (zax T l).2
 | [],_,h => h
 | x :: l,_,h => zrZ l (applyI h x.client x.time x.op)
theorem checkOp_rng (n : List UInt8 → Bool) (o : TOp) : 0 ≤ zbj n o ∧ zbj n o ≤ 100 := by
 unfold zbj
 repeat' split
 all_goals omega
theorem doesR {T : zcb} (h : zhz T) (o : TOp) : (0 ≤ (zcw T o).1.1 ∧ (zcw T o).1.1 ≤ 9007199254740992) ∧ (0 ≤ (zcw T o).1.2 ∧ (zcw T o).1.2 ≤ 9007199254740992) := by
 unfold zcw
 split
 ·have := checkOp_rng zeL o
  exact ⟨⟨this.1,by simp only; omega⟩,by simp,by simp⟩
 ·rename_i hc
  have hc : zbj zeL o = 0 := by simpa using hc
  obtain ⟨q1,q2,_⟩ := check0 hc
  split
  ·simp
  ·split
   ·unfold zdn
    repeat' split
    all_goals simp
   ·split
    ·simp
    ·split
     ·simp
     ·rename_i x hx
      have hX := h.tops x (List.mem_of_getElem? hx)
      have a1 := hX.base; have a2 := hX.next
      have e : x.next = x.base + x.recs.length := rfl
      split
      ·unfold zdp
       split
       ·simp
       ·exact ⟨by simp,by simp only; omega,by simp only; omega⟩
      ·split
       ·unfold zcq
        repeat' split
        all_goals first | simp; done | exact ⟨by simp,q1,q2⟩
       ·unfold zpX
        split
        ·simp
        ·exact ⟨by simp,q1,q2⟩
theorem applyL {T : zcb} (h : zhz T) (hL : zlp T.last) (c tm : Int) (o : TOp) : zlp (zcm T c tm o).2.2.2.last := by
 unfold zcm
 split
 ·exact hL
 ·rename_i h1
  split
  ·exact hL
  ·split
   ·exact hL
   ·intro a ha
    rcases zlA ha with ha | rfl
    ·rw [zpf] at ha; exact hL a ha
    ·exact ⟨by simp only; omega,doesR h o⟩
theorem zrY : ∀ (l : List zr) {T : zcb},zhz T → zlp T.last → zlp (zax T l).2.last
 | [],_,_,h => h
 | x :: l,_,hI,h => zrY l (applyI hI x.client x.time x.op) (applyL hI h x.client x.time x.op)
theorem applyF_last {T : zcb} (c tm : Int) (o : TOp) : (zcm T c tm o).2.2.2.last.length = T.last.length := by
 unfold zcm
 repeat' split
 all_goals simp [zpf]
def PlI (p : zbe) : Prop := 0 ≤ p.offset ∧ p.offset ≤ 9007199254740992 ∧ p.topic.length ≤ 64 ∧ p.rec_.length ≤ 64
theorem placeI {t : List UInt8} (ht : t.length ≤ 64) : ∀ {l : List (List UInt8)} {o : Int}, 0 ≤ o → o + l.length ≤ 9007199254740992 → (∀ r ∈ l,r.length ≤ 64) → ∀ p ∈ zkz t o l,PlI p
 | [],_,_,_,_,p,h => by simp [zkz] at h
 | r :: l,o,h0,h1,h2,p,h => by
  simp only [List.length_cons] at h1
  rcases List.mem_cons.1 h with rfl | h
  ·exact ⟨h0,by simp only; omega,ht,h2 r List.mem_cons_self⟩
  ·exact placeI ht (l := l) (o := o + 1) (by omega) (by omega) (fun r hr => h2 r (List.mem_cons_of_mem _ hr)) p h
theorem doesP {T : zcb} (h : zhz T) (o : TOp) : (∀ p ∈ (zcw T o).2.1,PlI p) ∧ (zcw T o).2.1.length ≤ 64 := by
 unfold zcw
 split
 ·simp
 ·rename_i hc
  have hc : zbj zeL o = 0 := by simpa using hc
  obtain ⟨q1,q2,q3,q4,q5⟩ := check0 hc
  split
  ·simp
  ·split
   ·simp
   ·split
    ·simp
    ·split
     ·simp
     ·rename_i x hx
      have hX := h.tops x (List.mem_of_getElem? hx)
      have a1 := hX.base; have a2 := hX.next
      have e : x.next = x.base + x.recs.length := rfl
      split
      ·rename_i k2
       unfold zdp
       split
       ·simp
       ·exact ⟨placeI hX.name (by omega) (by omega) (q5 k2),by simp only [zoC]; omega⟩
      ·split <;> simp
theorem applyP {T : zcb} (h : zhz T) (c tm : Int) (o : TOp) : (∀ p ∈ (zcm T c tm o).2.1,PlI p) ∧ (zcm T c tm o).2.1.length ≤ 64 := by
 unfold zcm
 repeat' split
 all_goals first | (simp; done) | exact doesP h o
theorem znX : ∀ (l : List zr) {T : zcb},zhz T → (∀ p ∈ (zax T l).1,PlI p) ∧ (zax T l).1.length ≤ l.length * 64
 | [],_,_ => by simp [zax]
 | x :: l,T,h => by
  obtain ⟨h1,h2⟩ := applyP h x.client x.time x.op
  obtain ⟨h3,h4⟩ := znX l (applyI h x.client x.time x.op)
  refine ⟨fun p hp => ?_,by simp only [zax,List.length_append,List.length_cons,Nat.add_mul]; omega⟩
  rcases List.mem_append.1 hp with hp | hp
  ·exact h1 p hp
  ·exact h3 p hp
end Go.AW

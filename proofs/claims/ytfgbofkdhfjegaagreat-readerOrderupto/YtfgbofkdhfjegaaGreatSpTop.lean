/- Topics: what the document says of them. No program in sight. -/
import Derived.Test.YtfgbofkdhfjegaaGreatMk4
import Derived.Test.YtfgbofkdhfjegaaGreatCk3
import Derived.Test.YtfgbofkdhfjegaaGreatCl1
set_option linter.all false
namespace Go.AW
structure zcQ where
 name : List UInt8
 base : Int
 recs : List (List UInt8)
 groups : List (List UInt8 × Int)
structure zbY where
 l : List zcQ
 last : List (Int × Int × Int)
def zej : zbY := ⟨[],List.replicate 8 (0, 0, 0)⟩
abbrev zqM (g : List UInt8 × Int) : List D := [.str g.1, .int .i64 g.2]
abbrev zcx (l : List (List UInt8 × Int)) : List (List D) := l.map zqM
def zcQ.next (x : zcQ) : Int := x.base + x.recs.length
def atF (n : List UInt8) : List zcQ → Nat → Option Nat
 | [],_ => none
 | x :: r,i => if (x.name == n) = true then some i else atF n r (i + 1)
def ztN (n : List UInt8) : List zcQ → Nat
 | [] => 0
 | x :: r => if Op.bytesLess x.name n = true then ztN n r + 1 else 0
def ztO (n : List UInt8) : List (List UInt8 × Int) → Nat
 | [] => 0
 | g :: r => if Op.bytesLess g.1 n = true then ztO n r + 1 else 0
abbrev TRes := Int × Int
def zed (T : zbY) (n : List UInt8) : TRes × zbY :=
 if (atF n T.l 0).isSome then ((5, 0),T) else if 8 ≤ T.l.length then ((6, 0),T)
 else ((0, 0), { T with l := T.l.take (ztN n T.l) ++ ⟨n, 0, [], []⟩ :: T.l.drop (ztN n T.l) })
def zjG (t : List UInt8) (o : Int) : List (List UInt8) → List zaX
 | [] => []
 | r :: l => ⟨t,o,r⟩ :: zjG t (o + 1) l
def zdF (T : zbY) (i : Nat) (x : zcQ) (o : TOp) : TRes × List zaX × zbY :=
 if 64 < x.recs.length + o.recs.length ∨ 9007199254740992 - (o.recs.length : Int) < x.next then ((71, 0), [],T)
 else ((0,x.next),zjG x.name x.next o.recs, { T with l := T.l.set i { x with recs := x.recs ++ o.recs } })
def hadG (n : List UInt8) (l : List (List UInt8 × Int)) : Option Int := match l[ztO n l]? with
 | some g => if (g.1 == n) = true then some g.2 else none
 | none => none
def zcV (T : zbY) (i : Nat) (x : zcQ) (o : TOp) : TRes × zbY :=
 if o.offset < (hadG o.group x.groups).getD 0 ∨ x.next < o.offset then ((72, 0),T)
 else if (hadG o.group x.groups).isSome = false ∧ 8 ≤ x.groups.length then ((6, 0),T)
 else ((0,o.offset), { T with l := T.l.set i { x with groups := x.groups.take (ztO o.group x.groups) ++ (o.group,o.offset) :: x.groups.drop (ztO o.group x.groups + if (hadG o.group x.groups).isSome then 1 else 0) } })
def zrh (T : zbY) (i : Nat) (x : zcQ) (o : TOp) : TRes × zbY :=
 if o.offset < x.base ∨ x.next < o.offset then ((72, 0),T)
 else ((0,o.offset), { T with l := T.l.set i { x with recs := x.recs.drop (o.offset - x.base).toNat,base := o.offset } })
def zcP (T : zbY) (o : TOp) : TRes × List zaX × zbY :=
 if zbp zdZ o ≠ 0 then ((zbp zdZ o, 0), [],T)
 else if o.kind = 0 then ((0, 0), [],T)
 else if o.kind = 1 then ((zed T o.topic).1, [],(zed T o.topic).2)
 else match atF o.topic T.l 0 with
  | none => ((4, 0), [],T)
  | some i => match T.l[i]? with
   | none => ((4, 0), [],T)
   | some x => if o.kind = 2 then zdF T i x o
    else if o.kind = 3 then ((zcV T i x o).1, [],(zcV T i x o).2)
    else ((zrh T i x o).1, [],(zrh T i x o).2)
def zcs (T : zbY) (c tm : Int) (o : TOp) : TRes × List zaX × Bool × zbY :=
 if c < 0 ∨ 8 ≤ c ∨ tm < 1 ∨ 9007199254740992 < tm then ((1, 0), [],false,T)
 else if tm = (T.last.getD c.toNat (0, 0, 0)).1 then ((T.last.getD c.toNat (0, 0, 0)).2, [],false,T)
 else if tm < (T.last.getD c.toNat (0, 0, 0)).1 then ((7, 0), [],false,T)
 else ((zcP T o).1,(zcP T o).2.1,true, { (zcP T o).2.2 with last := (zcP T o).2.2.last.set c.toNat (tm,(zcP T o).1.1,(zcP T o).1.2) })
theorem zqt (T : zbY) (o : TOp) : (zcP T o).2.2.last = T.last := by
 unfold zcP zed zdF zcV zrh
 repeat' (first | rfl | split)
theorem zmH (t : List UInt8) : ∀ (l : List (List UInt8)) (o : Int),(zjG t o l).length = l.length
 | [],_ => rfl
 | _ :: l,o => by simp [zjG,zmH t l]
theorem zsc (t : List UInt8) : ∀ (l : List (List UInt8)) (o : Int) (r : List UInt8),zjG t o (l ++ [r]) = zjG t o l ++ [⟨t,o + l.length,r⟩]
 | [],o,r => by simp [zjG]
 | a :: l,o,r => by
  simp only [List.cons_append,zjG,zsc t l (o + 1) r,List.length_cons]
  congr 3
  simp; omega
theorem atF_step {n : List UInt8} {l : List zcQ} {k : Nat} {x : zcQ} (h : l[k]? = some x) : atF n (l.drop k) k = if (x.name == n) = true then some k else atF n (l.drop (k + 1)) (k + 1) := by
 have hk : k < l.length := (List.getElem?_eq_some_iff.1 h).1
 rw [List.drop_eq_getElem_cons hk,(List.getElem?_eq_some_iff.1 h).2]
 rfl
theorem atF_lt {n : List UInt8} : ∀ {l : List zcQ} {i k : Nat},atF n l i = some k → i ≤ k ∧ k < i + l.length
 | [],_,_,h => by simp [atF] at h
 | x :: r,i,k,h => by
  simp only [atF] at h
  split at h
  ·cases h; simp
  ·have := atF_lt h; simp; omega
theorem zuv {n : List UInt8} {l : List zcQ} {k : Nat} {x : zcQ} (h : l[k]? = some x) : ztN n (l.drop k) = if Op.bytesLess x.name n = true then ztN n (l.drop (k + 1)) + 1 else 0 := by
 have hk : k < l.length := (List.getElem?_eq_some_iff.1 h).1
 rw [List.drop_eq_getElem_cons hk,(List.getElem?_eq_some_iff.1 h).2]
 rfl
theorem zuw {n : List UInt8} {l : List (List UInt8 × Int)} {k : Nat} {x : List UInt8 × Int} (h : l[k]? = some x) : ztO n (l.drop k) = if Op.bytesLess x.1 n = true then ztO n (l.drop (k + 1)) + 1 else 0 := by
 have hk : k < l.length := (List.getElem?_eq_some_iff.1 h).1
 rw [List.drop_eq_getElem_cons hk,(List.getElem?_eq_some_iff.1 h).2]
 rfl
abbrev topD (x : zcQ) : List D := [.str x.name, .int .i64 x.base, .slice (zbV x.recs), .slice (zcx x.groups)]
abbrev zbX (l : List zcQ) : List (List D) := l.map topD
abbrev zaE (es : List (List D)) : List AV := es.flatten.map .d
theorem zfd {sz : Nat} : ∀ {es : List (List D)},(∀ e ∈ es,e.length = sz) → (zaE es).length = es.length * sz
 | [],_ => by simp [zaE]
 | e :: es,h => by
  have h1 := zfd (es := es) fun x hx => h x (List.mem_cons_of_mem _ hx)
  have h2 := h e List.mem_cons_self
  simp only [zaE,List.length_map] at h1
  simp only [zaE,List.flatten_cons,List.map_append,List.length_append,List.length_map,h1,h2,List.length_cons,Nat.add_mul,Nat.one_mul]
  omega
theorem zuH {sz : Nat} : ∀ {es : List (List D)},(∀ e ∈ es,e.length = sz) → ∀ k,(zaE es).take (k * sz) = zaE (es.take k)
 | [],_,k => by simp [zaE]
 | e :: es,h,k => by
  cases k with
  | zero => simp [zaE]
  | succ k =>
   have h1 := zuH (es := es) (fun x hx => h x (List.mem_cons_of_mem _ hx)) k
   have h2 := h e List.mem_cons_self
   have e1 : zaE (e :: es) = e.map .d ++ zaE es := by simp [zaE]
   have e2 : zaE ((e :: es).take (k + 1)) = e.map .d ++ zaE (es.take k) := by simp [zaE]
   rw [e1,e2, ← h1,List.take_append,List.length_map,h2,show (k + 1) * sz - sz = k * sz by rw [Nat.add_mul]; omega,List.take_of_length_le (by rw [List.length_map,h2,Nat.add_mul]; omega)]
theorem zqm {sz : Nat} : ∀ {es : List (List D)},(∀ e ∈ es,e.length = sz) → ∀ k,(zaE es).drop (k * sz) = zaE (es.drop k)
 | [],_,k => by simp [zaE]
 | e :: es,h,k => by
  cases k with
  | zero => simp [zaE]
  | succ k =>
   have h1 := zqm (es := es) (fun x hx => h x (List.mem_cons_of_mem _ hx)) k
   have h2 := h e List.mem_cons_self
   have e1 : zaE (e :: es) = e.map .d ++ zaE es := by simp [zaE]
   rw [e1,List.drop_succ_cons, ← h1,List.drop_append,List.length_map,h2,show (k + 1) * sz - sz = k * sz by rw [Nat.add_mul]; omega,List.drop_of_length_le (by rw [List.length_map,h2,Nat.add_mul]; omega)]
   rfl
theorem zma {sz : Nat} {es : List (List D)} (h : ∀ e ∈ es,e.length = sz) {k : Nat} {e : List D} (he : es[k]? = some e) : ((zaE es).drop (k * sz)).take sz = e.map .d := by
 have hk : k < es.length := (List.getElem?_eq_some_iff.1 he).1
 have hl := h e (List.mem_of_getElem? he)
 rw [zqm h,List.drop_eq_getElem_cons hk,(List.getElem?_eq_some_iff.1 he).2]
 simp only [zaE,List.flatten_cons,List.map_append]
 rw [List.take_append_of_le_length (by rw [List.length_map,hl]; exact Nat.le_refl _),List.take_of_length_le (by rw [List.length_map,hl]; exact Nat.le_refl _)]
theorem zmN {sz : Nat} {es : List (List D)} (h : ∀ e ∈ es,e.length = sz) {k i : Nat} {e : List D} (he : es[k]? = some e) (hi : i < sz) : (zaE es)[k * sz + i]? = (e[i]?).map .d := by
 have h1 := zma h he
 have h2 : (((zaE es).drop (k * sz)).take sz)[i]? = (zaE es)[k * sz + i]? := by rw [List.getElem?_take,if_pos hi,List.getElem?_drop]
 rw [← h2,h1,List.getElem?_map]
theorem zoY {sz : Nat} {es : List (List D)} (h : ∀ e ∈ es,e.length = sz) {k i : Nat} {e : List D} (he : es[k]? = some e) (hi : i < sz) (x : D) : (zaE es).set (k * sz + i) (.d x) = zaE (es.set k (e.set i x)) := by
 have hk : k < es.length := (List.getElem?_eq_some_iff.1 he).1
 have hl := h e (List.mem_of_getElem? he)
 have e0 : es = es.take k ++ e :: es.drop (k + 1) := by
  rw [← (List.getElem?_eq_some_iff.1 he).2, ← List.drop_eq_getElem_cons hk,List.take_append_drop]
 have e1 : es.set k (e.set i x) = es.take k ++ e.set i x :: es.drop (k + 1) := by rw [List.set_eq_take_append_cons_drop,if_pos hk]
 have hlen : (zaE (es.take k)).length = k * sz := by
  rw [zfd fun y hy => h y (List.mem_of_mem_take hy),List.length_take,Nat.min_eq_left (by omega)]
 have e2 : zaE es = zaE (es.take k) ++ (e.map .d ++ zaE (es.drop (k + 1))) := by
  conv => lhs; rw [e0]
  simp [zaE]
 have e3 : zaE (es.set k (e.set i x)) = zaE (es.take k) ++ ((e.set i x).map .d ++ zaE (es.drop (k + 1))) := by
  rw [e1]; simp [zaE]
 rw [e2,e3,List.set_append_right _ _ (by omega),hlen,Nat.add_sub_cancel_left,List.set_append_left _ _ (by rw [List.length_map]; omega),List.map_set]
theorem zdW (l : List zcQ) : ∀ e ∈ zbX l,e.length = 4 := by
 intro e he
 obtain ⟨x,_,rfl⟩ := List.mem_map.1 he
 rfl
structure TopI (x : zcQ) : Prop where
 base : 0 ≤ x.base
 next : x.next ≤ 9007199254740992
 recs : x.recs.length ≤ 64
 groups : x.groups.length ≤ 8
 name : x.name.length ≤ 64
 each : ∀ r ∈ x.recs,r.length ≤ 64
 gs : ∀ g ∈ x.groups,g.1.length ≤ 64 ∧ 0 ≤ g.2 ∧ g.2 ≤ 9007199254740992
structure zgW (T : zbY) : Prop where
 len : T.l.length ≤ 8
 tops : ∀ x ∈ T.l,TopI x
theorem zgW.none : zgW zej := ⟨by simp [zej],by simp [zej]⟩
theorem check0 {o : TOp} (h : zbp zdZ o = 0) : 0 ≤ o.offset ∧ o.offset ≤ 9007199254740992 ∧ (o.kind ≠ 0 → zdZ o.topic = true) ∧ (o.kind = 3 → zdZ o.group = true) ∧ (o.kind = 2 → ∀ r ∈ o.recs,r.length ≤ 64) := by
 unfold zbp at h
 split at h
 ·cases h
 ·split at h
  ·cases h
  ·rename_i h2
   split at h
   ·cases h
   ·rename_i h3
    split at h
    ·cases h
    ·rename_i h4
     split at h
     ·cases h
     ·rename_i h5
      refine ⟨by omega,by omega,fun hk => by simpa [hk] using h2,fun hk => by simpa [hk] using h3,fun hk r hr => ?_⟩
      have : ¬ (o.recs.any (fun r => decide (r.length > 64)) = true) := fun e => h4 ⟨hk, .inr (.inr e)⟩
      simp only [List.any_eq_true,decide_eq_true_eq,not_exists,not_and] at this
      have := this r hr
      omega
theorem zmL {α : Type} {l : List α} {i : Nat} {x y : α} (h : y ∈ l.set i x) : y ∈ l ∨ y = x := List.mem_or_eq_of_mem_set h
theorem doesI {T : zbY} (h : zgW T) (o : TOp) : zgW (zcP T o).2.2 := by
 unfold zcP
 split
 ·exact h
 ·rename_i hc
  have hc : zbp zdZ o = 0 := by simpa using hc
  obtain ⟨q1,q2,q3,q4,q5⟩ := check0 hc
  split
  ·exact h
  ·rename_i k0
   have hn := name_len (q3 k0)
   split
   ·unfold zed
    split
    ·exact h
    ·split
     ·exact h
     ·refine ⟨by simp only [List.length_append,List.length_take,List.length_cons,List.length_drop]; omega,fun x hx => ?_⟩
      rcases List.mem_append.1 hx with hx | hx
      ·exact h.tops x (List.mem_of_mem_take hx)
      ·rcases List.mem_cons.1 hx with rfl | hx
       ·exact ⟨by simp,by simp [zcQ.next],by simp,by simp,hn,by simp,by simp⟩
       ·exact h.tops x (List.mem_of_mem_drop hx)
   ·split
    ·exact h
    ·rename_i i _
     split
     ·exact h
     ·rename_i x hx
      have hX := h.tops x (List.mem_of_getElem? hx)
      have a1 := hX.base; have a2 := hX.next; have a3 := hX.recs; have a4 := hX.groups
      split
      ·rename_i k2
       unfold zdF
       split
       ·exact h
       ·rename_i hq
        refine ⟨by simpa using h.len,fun y hy => ?_⟩
        rcases zmL hy with hy | rfl
        ·exact h.tops y hy
        ·have e : x.next = x.base + x.recs.length := rfl
         refine ⟨a1,by simp only [zcQ.next,List.length_append]; omega,by simp; omega,a4,hX.name,fun r hr => ?_,hX.gs⟩
         rcases List.mem_append.1 hr with hr | hr
         ·exact hX.each r hr
         ·exact q5 k2 r hr
      ·split
       ·rename_i k3
        have hg := name_len (q4 k3)
        unfold zcV
        split
        ·exact h
        ·split
         ·exact h
         ·rename_i h6 h7
          refine ⟨by simpa using h.len,fun y hy => ?_⟩
          rcases zmL hy with hy | rfl
          ·exact h.tops y hy
          ·refine ⟨a1,a2,a3, ?_,hX.name,hX.each,fun g hg' => ?_⟩
           ·simp only [List.length_append,List.length_take,List.length_cons,List.length_drop]
            cases hh : hadG o.group x.groups with
            | none => simp [hh] at h7 ⊢; omega
            | some v =>
             have : ztO o.group x.groups < x.groups.length := by
              rw [hadG] at hh
              split at hh
              ·rename_i g0 hg0; exact (List.getElem?_eq_some_iff.1 hg0).1
              ·cases hh
             simp; omega
           ·rcases List.mem_append.1 hg' with hg' | hg'
            ·exact hX.gs g (List.mem_of_mem_take hg')
            ·rcases List.mem_cons.1 hg' with rfl | hg'
             ·exact ⟨hg,q1,q2⟩
             ·exact hX.gs g (List.mem_of_mem_drop hg')
       ·unfold zrh
        split
        ·exact h
        ·rename_i h6
         refine ⟨by simpa using h.len,fun y hy => ?_⟩
         rcases zmL hy with hy | rfl
         ·exact h.tops y hy
         ·have e : x.next = x.base + x.recs.length := rfl
          exact ⟨q1,by simp only [zcQ.next,List.length_drop]; omega,by simp; omega,a4,hX.name,fun r hr => hX.each r (List.mem_of_mem_drop hr),hX.gs⟩
theorem applyI {T : zbY} (h : zgW T) (c tm : Int) (o : TOp) : zgW (zcs T c tm o).2.2.2 := by
 unfold zcs
 split
 ·exact h
 ·split
  ·exact h
  ·split
   ·exact h
   ·exact ⟨(doesI h o).len,(doesI h o).tops⟩
def groupB (g : List UInt8 × Int) : List UInt8 := zoH g.1 ++ zcR g.2.toNat
def znX (l : List (List UInt8 × Int)) : List UInt8 := (l.map groupB).flatten
def topB (x : zcQ) : List UInt8 := zoH x.name ++ (zcR x.base.toNat ++ (zcR x.recs.length ++ (zlz x.recs ++ (zcR x.groups.length ++ znX x.groups))))
def zoB (l : List zcQ) : List UInt8 := (l.map topB).flatten
def lastB (a : Int × Int × Int) : List UInt8 := zcR a.1.toNat ++ (zcR a.2.1.toNat ++ zcR a.2.2.toNat)
def zuz (l : List (Int × Int × Int)) : List UInt8 := (l.map lastB).flatten
def zfu (T : zbY) : List UInt8 := zcR T.l.length ++ (zoB T.l ++ zuz T.last)
theorem znY {α : Type} {f : α → List UInt8} {n : Nat} : ∀ {l : List α},(∀ x ∈ l,(f x).length ≤ n) → ((l.map f).flatten).length ≤ l.length * n
 | [],_ => by simp
 | x :: l,h => by
  have h1 := h x List.mem_cons_self
  have h2 := znY (l := l) fun y hy => h y (List.mem_cons_of_mem _ hy)
  simp only [List.map_cons,List.flatten_cons,List.length_append,List.length_cons,Nat.add_mul,Nat.one_mul]
  omega
theorem zuB {g : List UInt8 × Int} (h : g.1.length ≤ 64 ∧ 0 ≤ g.2 ∧ g.2 ≤ 9007199254740992) : (groupB g).length ≤ 84 := by
 have h1 := zfN (x := g.1) (by omega)
 have h2 := zF (n := g.2.toNat) (by omega)
 simp only [groupB,List.length_append]; omega
theorem topB_len {x : zcQ} (h : TopI x) : (topB x).length ≤ 5600 := by
 have h1 := zfN (x := x.name) (by have := h.name; omega)
 have e : x.next = x.base + x.recs.length := rfl
 have a1 := h.base; have a2 := h.next; have a3 := h.recs; have a4 := h.groups; have a5 := h.name
 have h2 := zF (n := x.base.toNat) (by omega)
 have h3 := zF (n := x.recs.length) (by omega)
 have h4 := zF (n := x.groups.length) (by omega)
 have h5 : (zlz x.recs).length ≤ x.recs.length * 74 := znY fun r hr => by have := h.each r hr; have := zfN (x := r) (by omega); omega
 have h6 : (znX x.groups).length ≤ x.groups.length * 84 := znY fun g hg => zuB (h.gs g hg)
 simp only [topB,List.length_append]; omega
theorem zud {l : List zcQ} (h : ∀ x ∈ l,TopI x) : (zoB l).length ≤ l.length * 5600 := znY fun x hx => topB_len (h x hx)
def zmz (l : List (Int × Int × Int)) : Prop := ∀ a ∈ l,(0 ≤ a.1 ∧ a.1 ≤ 9007199254740992) ∧ (0 ≤ a.2.1 ∧ a.2.1 ≤ 9007199254740992) ∧ (0 ≤ a.2.2 ∧ a.2.2 ≤ 9007199254740992)
theorem lastB_len {a : Int × Int × Int} (h : (0 ≤ a.1 ∧ a.1 ≤ 9007199254740992) ∧ (0 ≤ a.2.1 ∧ a.2.1 ≤ 9007199254740992) ∧ (0 ≤ a.2.2 ∧ a.2.2 ≤ 9007199254740992)) : (lastB a).length ≤ 30 := by
 have h1 := zF (n := a.1.toNat) (by omega)
 have h2 := zF (n := a.2.1.toNat) (by omega)
 have h3 := zF (n := a.2.2.toNat) (by omega)
 simp only [lastB,List.length_append]; omega
theorem zuy {l : List (Int × Int × Int)} (h : zmz l) : (zuz l).length ≤ l.length * 30 := znY fun a ha => lastB_len (h a ha)
def zab : zbY → List zp → List zaX × zbY
 | T, [] => ([],T)
 | T,x :: r => ((zcs T x.client x.time x.op).2.1 ++ (zab (zcs T x.client x.time x.op).2.2.2 r).1,(zab (zcs T x.client x.time x.op).2.2.2 r).2)
theorem zpr (x : zp) : ∀ (l : List zp) (T : zbY),zab T (l ++ [x]) = ((zab T l).1 ++ (zcs (zab T l).2 x.client x.time x.op).2.1,(zcs (zab T l).2 x.client x.time x.op).2.2.2)
 | [],T => by simp [zab]
 | y :: l,T => by
  simp only [List.cons_append,zab,zpr x l,List.append_assoc]
theorem ztk : ∀ (l : List zp) {T : zbY},zgW T → zgW (zab T l).2
 | [],_,h => h
 | x :: l,_,h => ztk l (applyI h x.client x.time x.op)
theorem checkOp_rng (n : List UInt8 → Bool) (o : TOp) : 0 ≤ zbp n o ∧ zbp n o ≤ 100 := by
 unfold zbp
 repeat' split
 all_goals omega
theorem doesR {T : zbY} (h : zgW T) (o : TOp) : (0 ≤ (zcP T o).1.1 ∧ (zcP T o).1.1 ≤ 9007199254740992) ∧ (0 ≤ (zcP T o).1.2 ∧ (zcP T o).1.2 ≤ 9007199254740992) := by
 unfold zcP
 split
 ·have := checkOp_rng zdZ o
  exact ⟨⟨this.1,by simp only; omega⟩,by simp,by simp⟩
 ·rename_i hc
  have hc : zbp zdZ o = 0 := by simpa using hc
  obtain ⟨q1,q2,_⟩ := check0 hc
  split
  ·simp
  ·split
   ·unfold zed
    repeat' split
    all_goals simp
   ·split
    ·simp
    ·split
     ·simp
     ·rename_i x hx
      have hX := h.tops x (List.mem_of_getElem? hx)
      have a1 := hX.base; have a2 := hX.next
      have e : x.next = x.base + x.recs.length := rfl
      split
      ·unfold zdF
       split
       ·simp
       ·exact ⟨by simp,by simp only; omega,by simp only; omega⟩
      ·split
       ·unfold zcV
        repeat' split
        all_goals first | simp; done | exact ⟨by simp,q1,q2⟩
       ·unfold zrh
        split
        ·simp
        ·exact ⟨by simp,q1,q2⟩
theorem applyL {T : zbY} (h : zgW T) (hL : zmz T.last) (c tm : Int) (o : TOp) : zmz (zcs T c tm o).2.2.2.last := by
 unfold zcs
 split
 ·exact hL
 ·rename_i h1
  split
  ·exact hL
  ·split
   ·exact hL
   ·intro a ha
    rcases zmL ha with ha | rfl
    ·rw [zqt] at ha; exact hL a ha
    ·exact ⟨by simp only; omega,doesR h o⟩
theorem ztj : ∀ (l : List zp) {T : zbY},zgW T → zmz T.last → zmz (zab T l).2.last
 | [],_,_,h => h
 | x :: l,_,hI,h => ztj l (applyI hI x.client x.time x.op) (applyL hI h x.client x.time x.op)
theorem applyF_last {T : zbY} (c tm : Int) (o : TOp) : (zcs T c tm o).2.2.2.last.length = T.last.length := by
 unfold zcs
 repeat' split
 all_goals simp [zqt]
def PlI (p : zaX) : Prop := 0 ≤ p.offset ∧ p.offset ≤ 9007199254740992 ∧ p.topic.length ≤ 64 ∧ p.rec_.length ≤ 64
theorem placeI {t : List UInt8} (ht : t.length ≤ 64) : ∀ {l : List (List UInt8)} {o : Int}, 0 ≤ o → o + l.length ≤ 9007199254740992 → (∀ r ∈ l,r.length ≤ 64) → ∀ p ∈ zjG t o l,PlI p
 | [],_,_,_,_,p,h => by simp [zjG] at h
 | r :: l,o,h0,h1,h2,p,h => by
  simp only [List.length_cons] at h1
  rcases List.mem_cons.1 h with rfl | h
  ·exact ⟨h0,by simp only; omega,ht,h2 r List.mem_cons_self⟩
  ·exact placeI ht (l := l) (o := o + 1) (by omega) (by omega) (fun r hr => h2 r (List.mem_cons_of_mem _ hr)) p h
theorem doesP {T : zbY} (h : zgW T) (o : TOp) : (∀ p ∈ (zcP T o).2.1,PlI p) ∧ (zcP T o).2.1.length ≤ 64 := by
 unfold zcP
 split
 ·simp
 ·rename_i hc
  have hc : zbp zdZ o = 0 := by simpa using hc
  obtain ⟨q1,q2,q3,q4,q5⟩ := check0 hc
  split
  ·simp
  ·split
   ·simp
   ·split
    ·simp
    ·split
     ·simp
     ·rename_i x hx
      have hX := h.tops x (List.mem_of_getElem? hx)
      have a1 := hX.base; have a2 := hX.next
      have e : x.next = x.base + x.recs.length := rfl
      split
      ·rename_i k2
       unfold zdF
       split
       ·simp
       ·exact ⟨placeI hX.name (by omega) (by omega) (q5 k2),by simp only [zmH]; omega⟩
      ·split <;> simp
theorem applyP {T : zbY} (h : zgW T) (c tm : Int) (o : TOp) : (∀ p ∈ (zcs T c tm o).2.1,PlI p) ∧ (zcs T c tm o).2.1.length ≤ 64 := by
 unfold zcs
 repeat' split
 all_goals first | (simp; done) | exact doesP h o
theorem zmj : ∀ (l : List zp) {T : zbY},zgW T → (∀ p ∈ (zab T l).1,PlI p) ∧ (zab T l).1.length ≤ l.length * 64
 | [],_,_ => by simp [zab]
 | x :: l,T,h => by
  obtain ⟨h1,h2⟩ := applyP h x.client x.time x.op
  obtain ⟨h3,h4⟩ := zmj l (applyI h x.client x.time x.op)
  refine ⟨fun p hp => ?_,by simp only [zab,List.length_append,List.length_cons,Nat.add_mul]; omega⟩
  rcases List.mem_append.1 hp with hp | hp
  ·exact h1 p hp
  ·exact h3 p hp
end Go.AW

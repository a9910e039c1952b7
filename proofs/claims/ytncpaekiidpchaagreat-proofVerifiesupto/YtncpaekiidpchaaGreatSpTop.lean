/- Topics: what the document says of them. No program in sight. -/
import Derived.Test.YtncpaekiidpchaaGreatMk5
import Derived.Test.YtncpaekiidpchaaGreatSpMap
import Derived.Test.YtncpaekiidpchaaGreatCl1
set_option linter.all false
namespace Go.AW
structure zcV where
 name : List UInt8
 base : Int
 recs : List (List UInt8)
 groups : List (List UInt8 × Int)
structure zch where
 l : List zcV
 last : List (Int × Int × Int)
def zdL : zch := ⟨[],List.replicate 8 (0, 0, 0)⟩
abbrev zpS (g : List UInt8 × Int) : List D := [.str g.1, .int .i64 g.2]
abbrev zcb (l : List (List UInt8 × Int)) : List (List D) := l.map zpS
def zcV.next (x : zcV) : Int := x.base + x.recs.length
def atF (n : List UInt8) : List zcV → Nat → Option Nat
 | [],_ => none
 | x :: r,i => if (x.name == n) = true then some i else atF n r (i + 1)
def ztc (n : List UInt8) : List zcV → Nat
 | [] => 0
 | x :: r => if Op.bytesLess x.name n = true then ztc n r + 1 else 0
def ztd (n : List UInt8) : List (List UInt8 × Int) → Nat
 | [] => 0
 | g :: r => if Op.bytesLess g.1 n = true then ztd n r + 1 else 0
abbrev TRes := Int × Int
def zdB (T : zch) (n : List UInt8) : TRes × zch :=
 if (atF n T.l 0).isSome then ((5, 0),T) else if 8 ≤ T.l.length then ((6, 0),T)
 else ((0, 0), { T with l := T.l.take (ztc n T.l) ++ ⟨n, 0, [], []⟩ :: T.l.drop (ztc n T.l) })
def zkZ (t : List UInt8) (o : Int) : List (List UInt8) → List zbt
 | [] => []
 | r :: l => ⟨t,o,r⟩ :: zkZ t (o + 1) l
def zdE (T : zch) (i : Nat) (x : zcV) (o : TOp) : TRes × List zbt × zch :=
 if 64 < x.recs.length + o.recs.length ∨ 9007199254740992 - (o.recs.length : Int) < x.next then ((71, 0), [],T)
 else ((0,x.next),zkZ x.name x.next o.recs, { T with l := T.l.set i { x with recs := x.recs ++ o.recs } })
def hadG (n : List UInt8) (l : List (List UInt8 × Int)) : Option Int := match l[ztd n l]? with
 | some g => if (g.1 == n) = true then some g.2 else none
 | none => none
def zcu (T : zch) (i : Nat) (x : zcV) (o : TOp) : TRes × zch :=
 if o.offset < (hadG o.group x.groups).getD 0 ∨ x.next < o.offset then ((72, 0),T)
 else if (hadG o.group x.groups).isSome = false ∧ 8 ≤ x.groups.length then ((6, 0),T)
 else ((0,o.offset), { T with l := T.l.set i { x with groups := x.groups.take (ztd o.group x.groups) ++ (o.group,o.offset) :: x.groups.drop (ztd o.group x.groups + if (hadG o.group x.groups).isSome then 1 else 0) } })
def zqG (T : zch) (i : Nat) (x : zcV) (o : TOp) : TRes × zch :=
 if o.offset < x.base ∨ x.next < o.offset then ((72, 0),T)
 else ((0,o.offset), { T with l := T.l.set i { x with recs := x.recs.drop (o.offset - x.base).toNat,base := o.offset } })
def zcB (T : zch) (o : TOp) : TRes × List zbt × zch :=
 if zby zeY o ≠ 0 then ((zby zeY o, 0), [],T)
 else if o.kind = 0 then ((0, 0), [],T)
 else if o.kind = 1 then ((zdB T o.topic).1, [],(zdB T o.topic).2)
 else match atF o.topic T.l 0 with
  | none => ((4, 0), [],T)
  | some i => match T.l[i]? with
   | none => ((4, 0), [],T)
   | some x => if o.kind = 2 then zdE T i x o
    else if o.kind = 3 then ((zcu T i x o).1, [],(zcu T i x o).2)
    else ((zqG T i x o).1, [],(zqG T i x o).2)
def zcp (T : zch) (c tm : Int) (o : TOp) : TRes × List zbt × Bool × zch :=
 if c < 0 ∨ 8 ≤ c ∨ tm < 1 ∨ 9007199254740992 < tm then ((1, 0), [],false,T)
 else if tm = (T.last.getD c.toNat (0, 0, 0)).1 then ((T.last.getD c.toNat (0, 0, 0)).2, [],false,T)
 else if tm < (T.last.getD c.toNat (0, 0, 0)).1 then ((7, 0), [],false,T)
 else ((zcB T o).1,(zcB T o).2.1,true, { (zcB T o).2.2 with last := (zcB T o).2.2.last.set c.toNat (tm,(zcB T o).1.1,(zcB T o).1.2) })
theorem zpB (T : zch) (o : TOp) : (zcB T o).2.2.last = T.last := by
 unfold zcB zdB zdE zcu zqG
 repeat' (first | rfl | split)
theorem zpb (t : List UInt8) : ∀ (l : List (List UInt8)) (o : Int),(zkZ t o l).length = l.length
 | [],_ => rfl
 | _ :: l,o => by simp [zkZ,zpb t l]
theorem zrs (t : List UInt8) : ∀ (l : List (List UInt8)) (o : Int) (r : List UInt8),zkZ t o (l ++ [r]) = zkZ t o l ++ [⟨t,o + l.length,r⟩]
 | [],o,r => by simp [zkZ]
 | a :: l,o,r => by
  simp only [List.cons_append,zkZ,zrs t l (o + 1) r,List.length_cons]
  congr 3
  simp; omega
theorem atF_step {n : List UInt8} {l : List zcV} {k : Nat} {x : zcV} (h : l[k]? = some x) : atF n (l.drop k) k = if (x.name == n) = true then some k else atF n (l.drop (k + 1)) (k + 1) := by
 have hk : k < l.length := (List.getElem?_eq_some_iff.1 h).1
 rw [List.drop_eq_getElem_cons hk,(List.getElem?_eq_some_iff.1 h).2]
 rfl
theorem atF_lt {n : List UInt8} : ∀ {l : List zcV} {i k : Nat},atF n l i = some k → i ≤ k ∧ k < i + l.length
 | [],_,_,h => by simp [atF] at h
 | x :: r,i,k,h => by
  simp only [atF] at h
  split at h
  ·cases h; simp
  ·have := atF_lt h; simp; omega
theorem ztF {n : List UInt8} {l : List zcV} {k : Nat} {x : zcV} (h : l[k]? = some x) : ztc n (l.drop k) = if Op.bytesLess x.name n = true then ztc n (l.drop (k + 1)) + 1 else 0 := by
 have hk : k < l.length := (List.getElem?_eq_some_iff.1 h).1
 rw [List.drop_eq_getElem_cons hk,(List.getElem?_eq_some_iff.1 h).2]
 rfl
theorem ztG {n : List UInt8} {l : List (List UInt8 × Int)} {k : Nat} {x : List UInt8 × Int} (h : l[k]? = some x) : ztd n (l.drop k) = if Op.bytesLess x.1 n = true then ztd n (l.drop (k + 1)) + 1 else 0 := by
 have hk : k < l.length := (List.getElem?_eq_some_iff.1 h).1
 rw [List.drop_eq_getElem_cons hk,(List.getElem?_eq_some_iff.1 h).2]
 rfl
abbrev topD (x : zcV) : List D := [.str x.name, .int .i64 x.base, .slice (zbZ x.recs), .slice (zcb x.groups)]
abbrev zbA (l : List zcV) : List (List D) := l.map topD
abbrev zan (es : List (List D)) : List AV := es.flatten.map .d
theorem zdR {sz : Nat} : ∀ {es : List (List D)},(∀ e ∈ es,e.length = sz) → (zan es).length = es.length * sz
 | [],_ => by simp [zan]
 | e :: es,h => by
  have h1 := zdR (es := es) fun x hx => h x (List.mem_cons_of_mem _ hx)
  have h2 := h e List.mem_cons_self
  simp only [zan,List.length_map] at h1
  simp only [zan,List.flatten_cons,List.map_append,List.length_append,List.length_map,h1,h2,List.length_cons,Nat.add_mul,Nat.one_mul]
  omega
theorem zpz {sz : Nat} : ∀ {es : List (List D)},(∀ e ∈ es,e.length = sz) → ∀ k,(zan es).take (k * sz) = zan (es.take k)
 | [],_,k => by simp [zan]
 | e :: es,h,k => by
  cases k with
  | zero => simp [zan]
  | succ k =>
   have h1 := zpz (es := es) (fun x hx => h x (List.mem_cons_of_mem _ hx)) k
   have h2 := h e List.mem_cons_self
   have e1 : zan (e :: es) = e.map .d ++ zan es := by simp [zan]
   have e2 : zan ((e :: es).take (k + 1)) = e.map .d ++ zan (es.take k) := by simp [zan]
   rw [e1,e2, ← h1,List.take_append,List.length_map,h2,show (k + 1) * sz - sz = k * sz by rw [Nat.add_mul]; omega,List.take_of_length_le (by rw [List.length_map,h2,Nat.add_mul]; omega)]
theorem zje {sz : Nat} : ∀ {es : List (List D)},(∀ e ∈ es,e.length = sz) → ∀ k,(zan es).drop (k * sz) = zan (es.drop k)
 | [],_,k => by simp [zan]
 | e :: es,h,k => by
  cases k with
  | zero => simp [zan]
  | succ k =>
   have h1 := zje (es := es) (fun x hx => h x (List.mem_cons_of_mem _ hx)) k
   have h2 := h e List.mem_cons_self
   have e1 : zan (e :: es) = e.map .d ++ zan es := by simp [zan]
   rw [e1,List.drop_succ_cons, ← h1,List.drop_append,List.length_map,h2,show (k + 1) * sz - sz = k * sz by rw [Nat.add_mul]; omega,List.drop_of_length_le (by rw [List.length_map,h2,Nat.add_mul]; omega)]
   rfl
theorem zlq {sz : Nat} {es : List (List D)} (h : ∀ e ∈ es,e.length = sz) {k : Nat} {e : List D} (he : es[k]? = some e) : ((zan es).drop (k * sz)).take sz = e.map .d := by
 have hk : k < es.length := (List.getElem?_eq_some_iff.1 he).1
 have hl := h e (List.mem_of_getElem? he)
 rw [zje h,List.drop_eq_getElem_cons hk,(List.getElem?_eq_some_iff.1 he).2]
 simp only [zan,List.flatten_cons,List.map_append]
 rw [List.take_append_of_le_length (by rw [List.length_map,hl]; exact Nat.le_refl _),List.take_of_length_le (by rw [List.length_map,hl]; exact Nat.le_refl _)]
theorem zpA {sz : Nat} {es : List (List D)} (h : ∀ e ∈ es,e.length = sz) {k i : Nat} {e : List D} (he : es[k]? = some e) (hi : i < sz) : (zan es)[k * sz + i]? = (e[i]?).map .d := by
 have h1 := zlq h he
 have h2 : (((zan es).drop (k * sz)).take sz)[i]? = (zan es)[k * sz + i]? := by rw [List.getElem?_take,if_pos hi,List.getElem?_drop]
 rw [← h2,h1,List.getElem?_map]
theorem zjd {sz : Nat} {es : List (List D)} (h : ∀ e ∈ es,e.length = sz) {k i : Nat} {e : List D} (he : es[k]? = some e) (hi : i < sz) (x : D) : (zan es).set (k * sz + i) (.d x) = zan (es.set k (e.set i x)) := by
 have hk : k < es.length := (List.getElem?_eq_some_iff.1 he).1
 have hl := h e (List.mem_of_getElem? he)
 have e0 : es = es.take k ++ e :: es.drop (k + 1) := by
  rw [← (List.getElem?_eq_some_iff.1 he).2, ← List.drop_eq_getElem_cons hk,List.take_append_drop]
 have e1 : es.set k (e.set i x) = es.take k ++ e.set i x :: es.drop (k + 1) := by rw [List.set_eq_take_append_cons_drop,if_pos hk]
 have hlen : (zan (es.take k)).length = k * sz := by
  rw [zdR fun y hy => h y (List.mem_of_mem_take hy),List.length_take,Nat.min_eq_left (by omega)]
 have e2 : zan es = zan (es.take k) ++ (e.map .d ++ zan (es.drop (k + 1))) := by
  conv => lhs; rw [e0]
  simp [zan]
 have e3 : zan (es.set k (e.set i x)) = zan (es.take k) ++ ((e.set i x).map .d ++ zan (es.drop (k + 1))) := by
  rw [e1]; simp [zan]
 rw [e2,e3,List.set_append_right _ _ (by omega),hlen,Nat.add_sub_cancel_left,List.set_append_left _ _ (by rw [List.length_map]; omega),List.map_set]
theorem zdu (l : List zcV) : ∀ e ∈ zbA l,e.length = 4 := by
 intro e he
 obtain ⟨x,_,rfl⟩ := List.mem_map.1 he
 rfl
structure TopI (x : zcV) : Prop where
 base : 0 ≤ x.base
 next : x.next ≤ 9007199254740992
 recs : x.recs.length ≤ 64
 groups : x.groups.length ≤ 8
 name : x.name.length ≤ 64
 each : ∀ r ∈ x.recs,r.length ≤ 64
 gs : ∀ g ∈ x.groups,g.1.length ≤ 64 ∧ 0 ≤ g.2 ∧ g.2 ≤ 9007199254740992
structure zhO (T : zch) : Prop where
 len : T.l.length ≤ 8
 tops : ∀ x ∈ T.l,TopI x
theorem zhO.none : zhO zdL := ⟨by simp [zdL],by simp [zdL]⟩
theorem check0 {o : TOp} (h : zby zeY o = 0) : 0 ≤ o.offset ∧ o.offset ≤ 9007199254740992 ∧ (o.kind ≠ 0 → zeY o.topic = true) ∧ (o.kind = 3 → zeY o.group = true) ∧ (o.kind = 2 → ∀ r ∈ o.recs,r.length ≤ 64) := by
 unfold zby at h
 split at h
 ·cases h
 ·split at h
  ·cases h
  ·rename_i h2
   split at h
   ·cases h
   ·rename_i h3
    split at h
    ·cases h
    ·rename_i h4
     split at h
     ·cases h
     ·rename_i h5
      refine ⟨by omega,by omega,fun hk => by simpa [hk] using h2,fun hk => by simpa [hk] using h3,fun hk r hr => ?_⟩
      have : ¬ (o.recs.any (fun r => decide (r.length > 64)) = true) := fun e => h4 ⟨hk, .inr (.inr e)⟩
      simp only [List.any_eq_true,decide_eq_true_eq,not_exists,not_and] at this
      have := this r hr
      omega
theorem zmj {α : Type} {l : List α} {i : Nat} {x y : α} (h : y ∈ l.set i x) : y ∈ l ∨ y = x := List.mem_or_eq_of_mem_set h
theorem doesI {T : zch} (h : zhO T) (o : TOp) : zhO (zcB T o).2.2 := by
 unfold zcB
 split
 ·exact h
 ·rename_i hc
  have hc : zby zeY o = 0 := by simpa using hc
  obtain ⟨q1,q2,q3,q4,q5⟩ := check0 hc
  split
  ·exact h
  ·rename_i k0
   have hn := name_len (q3 k0)
   split
   ·unfold zdB
    split
    ·exact h
    ·split
     ·exact h
     ·refine ⟨by simp only [List.length_append,List.length_take,List.length_cons,List.length_drop]; omega,fun x hx => ?_⟩
      rcases List.mem_append.1 hx with hx | hx
      ·exact h.tops x (List.mem_of_mem_take hx)
      ·rcases List.mem_cons.1 hx with rfl | hx
       ·exact ⟨by simp,by simp [zcV.next],by simp,by simp,hn,by simp,by simp⟩
       ·exact h.tops x (List.mem_of_mem_drop hx)
   ·split
    ·exact h
    ·rename_i i _
     split
     ·exact h
     ·rename_i x hx
      have hX := h.tops x (List.mem_of_getElem? hx)
      have a1 := hX.base; have a2 := hX.next; have a3 := hX.recs; have a4 := hX.groups
      split
      ·rename_i k2
       unfold zdE
       split
       ·exact h
       ·rename_i hq
        refine ⟨by simpa using h.len,fun y hy => ?_⟩
        rcases zmj hy with hy | rfl
        ·exact h.tops y hy
        ·have e : x.next = x.base + x.recs.length := rfl
         refine ⟨a1,by simp only [zcV.next,List.length_append]; omega,by simp; omega,a4,hX.name,fun r hr => ?_,hX.gs⟩
         rcases List.mem_append.1 hr with hr | hr
         ·exact hX.each r hr
         ·exact q5 k2 r hr
      ·split
       ·rename_i k3
        have hg := name_len (q4 k3)
        unfold zcu
        split
        ·exact h
        ·split
         ·exact h
         ·rename_i h6 h7
          refine ⟨by simpa using h.len,fun y hy => ?_⟩
          rcases zmj hy with hy | rfl
          ·exact h.tops y hy
          ·refine ⟨a1,a2,a3, ?_,hX.name,hX.each,fun g hg' => ?_⟩
           ·simp only [List.length_append,List.length_take,List.length_cons,List.length_drop]
            cases hh : hadG o.group x.groups with
            | none => simp [hh] at h7 ⊢; omega
            | some v =>
             have : ztd o.group x.groups < x.groups.length := by
              rw [hadG] at hh
              split at hh
              ·rename_i g0 hg0; exact (List.getElem?_eq_some_iff.1 hg0).1
              ·cases hh
             simp; omega
           ·rcases List.mem_append.1 hg' with hg' | hg'
            ·exact hX.gs g (List.mem_of_mem_take hg')
            ·rcases List.mem_cons.1 hg' with rfl | hg'
             ·exact ⟨hg,q1,q2⟩
             ·exact hX.gs g (List.mem_of_mem_drop hg')
       ·unfold zqG
        split
        ·exact h
        ·rename_i h6
         refine ⟨by simpa using h.len,fun y hy => ?_⟩
         rcases zmj hy with hy | rfl
         ·exact h.tops y hy
         ·have e : x.next = x.base + x.recs.length := rfl
          exact ⟨q1,by simp only [zcV.next,List.length_drop]; omega,by simp; omega,a4,hX.name,fun r hr => hX.each r (List.mem_of_mem_drop hr),hX.gs⟩
theorem applyI {T : zch} (h : zhO T) (c tm : Int) (o : TOp) : zhO (zcp T c tm o).2.2.2 := by
 unfold zcp
 split
 ·exact h
 ·split
  ·exact h
  ·split
   ·exact h
   ·exact ⟨(doesI h o).len,(doesI h o).tops⟩
def groupB (g : List UInt8 × Int) : List UInt8 := znI g.1 ++ zcr g.2.toNat
def zno (l : List (List UInt8 × Int)) : List UInt8 := (l.map groupB).flatten
def topB (x : zcV) : List UInt8 := znI x.name ++ (zcr x.base.toNat ++ (zcr x.recs.length ++ (zkQ x.recs ++ (zcr x.groups.length ++ zno x.groups))))
def znB (l : List zcV) : List UInt8 := (l.map topB).flatten
def lastB (a : Int × Int × Int) : List UInt8 := zcr a.1.toNat ++ (zcr a.2.1.toNat ++ zcr a.2.2.toNat)
def ztI (l : List (Int × Int × Int)) : List UInt8 := (l.map lastB).flatten
def zft (T : zch) : List UInt8 := zcr T.l.length ++ (znB T.l ++ ztI T.last)
theorem znp {α : Type} {f : α → List UInt8} {n : Nat} : ∀ {l : List α},(∀ x ∈ l,(f x).length ≤ n) → ((l.map f).flatten).length ≤ l.length * n
 | [],_ => by simp
 | x :: l,h => by
  have h1 := h x List.mem_cons_self
  have h2 := znp (l := l) fun y hy => h y (List.mem_cons_of_mem _ hy)
  simp only [List.map_cons,List.flatten_cons,List.length_append,List.length_cons,Nat.add_mul,Nat.one_mul]
  omega
theorem ztK {g : List UInt8 × Int} (h : g.1.length ≤ 64 ∧ 0 ≤ g.2 ∧ g.2 ≤ 9007199254740992) : (groupB g).length ≤ 84 := by
 have h1 := zeX (x := g.1) (by omega)
 have h2 := zD (n := g.2.toNat) (by omega)
 simp only [groupB,List.length_append]; omega
theorem topB_len {x : zcV} (h : TopI x) : (topB x).length ≤ 5600 := by
 have h1 := zeX (x := x.name) (by have := h.name; omega)
 have e : x.next = x.base + x.recs.length := rfl
 have a1 := h.base; have a2 := h.next; have a3 := h.recs; have a4 := h.groups; have a5 := h.name
 have h2 := zD (n := x.base.toNat) (by omega)
 have h3 := zD (n := x.recs.length) (by omega)
 have h4 := zD (n := x.groups.length) (by omega)
 have h5 : (zkQ x.recs).length ≤ x.recs.length * 74 := znp fun r hr => by have := h.each r hr; have := zeX (x := r) (by omega); omega
 have h6 : (zno x.groups).length ≤ x.groups.length * 84 := znp fun g hg => ztK (h.gs g hg)
 simp only [topB,List.length_append]; omega
theorem zto {l : List zcV} (h : ∀ x ∈ l,TopI x) : (znB l).length ≤ l.length * 5600 := znp fun x hx => topB_len (h x hx)
def zlY (l : List (Int × Int × Int)) : Prop := ∀ a ∈ l,(0 ≤ a.1 ∧ a.1 ≤ 9007199254740992) ∧ (0 ≤ a.2.1 ∧ a.2.1 ≤ 9007199254740992) ∧ (0 ≤ a.2.2 ∧ a.2.2 ≤ 9007199254740992)
theorem lastB_len {a : Int × Int × Int} (h : (0 ≤ a.1 ∧ a.1 ≤ 9007199254740992) ∧ (0 ≤ a.2.1 ∧ a.2.1 ≤ 9007199254740992) ∧ (0 ≤ a.2.2 ∧ a.2.2 ≤ 9007199254740992)) : (lastB a).length ≤ 30 := by
 have h1 := zD (n := a.1.toNat) (by omega)
 have h2 := zD (n := a.2.1.toNat) (by omega)
 have h3 := zD (n := a.2.2.toNat) (by omega)
 simp only [lastB,List.length_append]; omega
theorem ztH {l : List (Int × Int × Int)} (h : zlY l) : (ztI l).length ≤ l.length * 30 := znp fun a ha => lastB_len (h a ha)
def zaz : zch → List zt → List zbt × zch
 | T, [] => ([],T)
 | T,x :: r => ((zcp T x.client x.time x.op).2.1 ++ (zaz (zcp T x.client x.time x.op).2.2.2 r).1,(zaz (zcp T x.client x.time x.op).2.2.2 r).2)
theorem zou (x : zt) : ∀ (l : List zt) (T : zch),zaz T (l ++ [x]) = ((zaz T l).1 ++ (zcp (zaz T l).2 x.client x.time x.op).2.1,(zcp (zaz T l).2 x.client x.time x.op).2.2.2)
 | [],T => by simp [zaz]
 | y :: l,T => by
  simp only [List.cons_append,zaz,zou x l,List.append_assoc]
theorem zsA : ∀ (l : List zt) {T : zch},zhO T → zhO (zaz T l).2
 | [],_,h => h
 | x :: l,_,h => zsA l (applyI h x.client x.time x.op)
theorem checkOp_rng (n : List UInt8 → Bool) (o : TOp) : 0 ≤ zby n o ∧ zby n o ≤ 100 := by
 unfold zby
 repeat' split
 all_goals omega
theorem doesR {T : zch} (h : zhO T) (o : TOp) : (0 ≤ (zcB T o).1.1 ∧ (zcB T o).1.1 ≤ 9007199254740992) ∧ (0 ≤ (zcB T o).1.2 ∧ (zcB T o).1.2 ≤ 9007199254740992) := by
 unfold zcB
 split
 ·have := checkOp_rng zeY o
  exact ⟨⟨this.1,by simp only; omega⟩,by simp,by simp⟩
 ·rename_i hc
  have hc : zby zeY o = 0 := by simpa using hc
  obtain ⟨q1,q2,_⟩ := check0 hc
  split
  ·simp
  ·split
   ·unfold zdB
    repeat' split
    all_goals simp
   ·split
    ·simp
    ·split
     ·simp
     ·rename_i x hx
      have hX := h.tops x (List.mem_of_getElem? hx)
      have a1 := hX.base; have a2 := hX.next
      have e : x.next = x.base + x.recs.length := rfl
      split
      ·unfold zdE
       split
       ·simp
       ·exact ⟨by simp,by simp only; omega,by simp only; omega⟩
      ·split
       ·unfold zcu
        repeat' split
        all_goals first | simp; done | exact ⟨by simp,q1,q2⟩
       ·unfold zqG
        split
        ·simp
        ·exact ⟨by simp,q1,q2⟩
theorem applyL {T : zch} (h : zhO T) (hL : zlY T.last) (c tm : Int) (o : TOp) : zlY (zcp T c tm o).2.2.2.last := by
 unfold zcp
 split
 ·exact hL
 ·rename_i h1
  split
  ·exact hL
  ·split
   ·exact hL
   ·intro a ha
    rcases zmj ha with ha | rfl
    ·rw [zpB] at ha; exact hL a ha
    ·exact ⟨by simp only; omega,doesR h o⟩
theorem zsz : ∀ (l : List zt) {T : zch},zhO T → zlY T.last → zlY (zaz T l).2.last
 | [],_,_,h => h
 | x :: l,_,hI,h => zsz l (applyI hI x.client x.time x.op) (applyL hI h x.client x.time x.op)
theorem applyF_last {T : zch} (c tm : Int) (o : TOp) : (zcp T c tm o).2.2.2.last.length = T.last.length := by
 unfold zcp
 repeat' split
 all_goals simp [zpB]
def PlI (p : zbt) : Prop := 0 ≤ p.offset ∧ p.offset ≤ 9007199254740992 ∧ p.topic.length ≤ 64 ∧ p.rec_.length ≤ 64
theorem placeI {t : List UInt8} (ht : t.length ≤ 64) : ∀ {l : List (List UInt8)} {o : Int}, 0 ≤ o → o + l.length ≤ 9007199254740992 → (∀ r ∈ l,r.length ≤ 64) → ∀ p ∈ zkZ t o l,PlI p
 | [],_,_,_,_,p,h => by simp [zkZ] at h
 | r :: l,o,h0,h1,h2,p,h => by
  simp only [List.length_cons] at h1
  rcases List.mem_cons.1 h with rfl | h
  ·exact ⟨h0,by simp only; omega,ht,h2 r List.mem_cons_self⟩
  ·exact placeI ht (l := l) (o := o + 1) (by omega) (by omega) (fun r hr => h2 r (List.mem_cons_of_mem _ hr)) p h
theorem doesP {T : zch} (h : zhO T) (o : TOp) : (∀ p ∈ (zcB T o).2.1,PlI p) ∧ (zcB T o).2.1.length ≤ 64 := by
 unfold zcB
 split
 ·simp
 ·rename_i hc
  have hc : zby zeY o = 0 := by simpa using hc
  obtain ⟨q1,q2,q3,q4,q5⟩ := check0 hc
  split
  ·simp
  ·split
   ·simp
   ·split
    ·simp
    ·split
     ·simp
     ·rename_i x hx
      have hX := h.tops x (List.mem_of_getElem? hx)
      have a1 := hX.base; have a2 := hX.next
      have e : x.next = x.base + x.recs.length := rfl
      split
      ·rename_i k2
       unfold zdE
       split
       ·simp
       ·exact ⟨placeI hX.name (by omega) (by omega) (q5 k2),by simp only [zpb]; omega⟩
      ·split <;> simp
theorem applyP {T : zch} (h : zhO T) (c tm : Int) (o : TOp) : (∀ p ∈ (zcp T c tm o).2.1,PlI p) ∧ (zcp T c tm o).2.1.length ≤ 64 := by
 unfold zcp
 repeat' split
 all_goals first | (simp; done) | exact doesP h o
theorem zov : ∀ (l : List zt) {T : zch},zhO T → (∀ p ∈ (zaz T l).1,PlI p) ∧ (zaz T l).1.length ≤ l.length * 64
 | [],_,_ => by simp [zaz]
 | x :: l,T,h => by
  obtain ⟨h1,h2⟩ := applyP h x.client x.time x.op
  obtain ⟨h3,h4⟩ := zov l (applyI h x.client x.time x.op)
  refine ⟨fun p hp => ?_,by simp only [zaz,List.length_append,List.length_cons,Nat.add_mul]; omega⟩
  rcases List.mem_append.1 hp with hp | hp
  ·exact h1 p hp
  ·exact h3 p hp
end Go.AW

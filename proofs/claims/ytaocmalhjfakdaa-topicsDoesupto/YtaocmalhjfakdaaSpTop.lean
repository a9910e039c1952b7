/- Topics: what the document says of them. No program in sight. -/
import Derived.Test.YtaocmalhjfakdaaMk2
import Derived.Test.YtaocmalhjfakdaaSpMap
import Derived.Test.YtaocmalhjfakdaaCl1
set_option linter.all false
set_option linter.unusedSimpArgs false
set_option linter.unusedVariables false
namespace Go.AW

structure zJ where
  name : List UInt8
  base : Int
  recs : List (List UInt8)
  groups : List (List UInt8 × Int)
structure zP where
  l : List zJ
  last : List (Int × Int × Int)
def zcw : zP := ⟨[], List.replicate 8 (0, 0, 0)⟩
abbrev zhK (g : List UInt8 × Int) : List D := [.str g.1, .int .i64 g.2]
abbrev zaC (l : List (List UInt8 × Int)) : List (List D) := l.map zhK
def zJ.next (x : zJ) : Int := x.base + x.recs.length
def atF (n : List UInt8) : List zJ → Nat → Option Nat
  | [], _ => none
  | x :: r, i => if (x.name == n) = true then some i else atF n r (i + 1)
def zgM (n : List UInt8) : List zJ → Nat
  | [] => 0
  | x :: r => if Op.bytesLess x.name n = true then zgM n r + 1 else 0
def zgv (n : List UInt8) : List (List UInt8 × Int) → Nat
  | [] => 0
  | g :: r => if Op.bytesLess g.1 n = true then zgv n r + 1 else 0
abbrev TRes := Int × Int
def zaK (T : zP) (n : List UInt8) : TRes × zP :=
  if (atF n T.l 0).isSome then ((5, 0), T) else if 8 ≤ T.l.length then ((6, 0), T)
  else ((0, 0), { T with l := T.l.take (zgM n T.l) ++ ⟨n, 0, [], []⟩ :: T.l.drop (zgM n T.l) })
def zdg (t : List UInt8) (o : Int) : List (List UInt8) → List zen
  | [] => []
  | r :: l => ⟨t, o, r⟩ :: zdg t (o + 1) l
def zbh (T : zP) (i : Nat) (x : zJ) (o : TOp) : TRes × List zen × zP :=
  if 64 < x.recs.length + o.recs.length ∨ 9007199254740992 - (o.recs.length : Int) < x.next then ((71, 0), [], T)
  else ((0, x.next), zdg x.name x.next o.recs, { T with l := T.l.set i { x with recs := x.recs ++ o.recs } })
def zmw (n : List UInt8) (l : List (List UInt8 × Int)) : Option Int := match l[zgv n l]? with
  | some g => if (g.1 == n) = true then some g.2 else none
  | none => none
def zaH (T : zP) (i : Nat) (x : zJ) (o : TOp) : TRes × zP :=
  if o.offset < (zmw o.group x.groups).getD 0 ∨ x.next < o.offset then ((72, 0), T)
  else if (zmw o.group x.groups).isSome = false ∧ 8 ≤ x.groups.length then ((6, 0), T)
  else ((0, o.offset), { T with l := T.l.set i { x with groups := x.groups.take (zgv o.group x.groups) ++ (o.group, o.offset) :: x.groups.drop (zgv o.group x.groups + if (zmw o.group x.groups).isSome then 1 else 0) } })
def zgq (T : zP) (i : Nat) (x : zJ) (o : TOp) : TRes × zP :=
  if o.offset < x.base ∨ x.next < o.offset then ((72, 0), T)
  else ((0, o.offset), { T with l := T.l.set i { x with recs := x.recs.drop (o.offset - x.base).toNat, base := o.offset } })
def zaA (T : zP) (o : TOp) : TRes × List zen × zP :=
  if zan zda o ≠ 0 then ((zan zda o, 0), [], T)
  else if o.kind = 0 then ((0, 0), [], T)
  else if o.kind = 1 then ((zaK T o.topic).1, [], (zaK T o.topic).2)
  else match atF o.topic T.l 0 with
    | none => ((4, 0), [], T)
    | some i => match T.l[i]? with
      | none => ((4, 0), [], T)
      | some x => if o.kind = 2 then zbh T i x o
        else if o.kind = 3 then ((zaH T i x o).1, [], (zaH T i x o).2)
        else ((zgq T i x o).1, [], (zgq T i x o).2)
def zaa (T : zP) (c tm : Int) (o : TOp) : TRes × List zen × Bool × zP :=
  if c < 0 ∨ 8 ≤ c ∨ tm < 1 ∨ 9007199254740992 < tm then ((1, 0), [], false, T)
  else if tm = (T.last.getD c.toNat (0, 0, 0)).1 then ((T.last.getD c.toNat (0, 0, 0)).2, [], false, T)
  else if tm < (T.last.getD c.toNat (0, 0, 0)).1 then ((7, 0), [], false, T)
  else ((zaA T o).1, (zaA T o).2.1, true, { (zaA T o).2.2 with last := (zaA T o).2.2.last.set c.toNat (tm, (zaA T o).1.1, (zaA T o).1.2) })
theorem zhr (T : zP) (o : TOp) : (zaA T o).2.2.last = T.last := by
  unfold zaA zaK zbh zaH zgq
  repeat' (first | rfl | split)
theorem zhi (t : List UInt8) : ∀ (l : List (List UInt8)) (o : Int), (zdg t o l).length = l.length
  | [], _ => rfl
  | _ :: l, o => by simp [zdg, zhi t l]
theorem zhZ (t : List UInt8) : ∀ (l : List (List UInt8)) (o : Int) (r : List UInt8), zdg t o (l ++ [r]) = zdg t o l ++ [⟨t, o + l.length, r⟩]
  | [], o, r => by simp [zdg]
  | a :: l, o, r => by
    simp only [List.cons_append, zdg, zhZ t l (o + 1) r, List.length_cons]
    congr 3
    simp; omega
theorem atF_step {n : List UInt8} {l : List zJ} {k : Nat} {x : zJ} (h : l[k]? = some x) : atF n (l.drop k) k = if (x.name == n) = true then some k else atF n (l.drop (k + 1)) (k + 1) := by
  have hk : k < l.length := (List.getElem?_eq_some_iff.1 h).1
  rw [List.drop_eq_getElem_cons hk, (List.getElem?_eq_some_iff.1 h).2]
  rfl
theorem atF_lt {n : List UInt8} : ∀ {l : List zJ} {i k : Nat}, atF n l i = some k → i ≤ k ∧ k < i + l.length
  | [], _, _, h => by simp [atF] at h
  | x :: r, i, k, h => by
    simp only [atF] at h
    split at h
    · cases h; simp
    · have := atF_lt h; simp; omega
theorem zlG {n : List UInt8} {l : List zJ} {k : Nat} {x : zJ} (h : l[k]? = some x) : zgM n (l.drop k) = if Op.bytesLess x.name n = true then zgM n (l.drop (k + 1)) + 1 else 0 := by
  have hk : k < l.length := (List.getElem?_eq_some_iff.1 h).1
  rw [List.drop_eq_getElem_cons hk, (List.getElem?_eq_some_iff.1 h).2]
  rfl
theorem zlH {n : List UInt8} {l : List (List UInt8 × Int)} {k : Nat} {x : List UInt8 × Int} (h : l[k]? = some x) : zgv n (l.drop k) = if Op.bytesLess x.1 n = true then zgv n (l.drop (k + 1)) + 1 else 0 := by
  have hk : k < l.length := (List.getElem?_eq_some_iff.1 h).1
  rw [List.drop_eq_getElem_cons hk, (List.getElem?_eq_some_iff.1 h).2]
  rfl
abbrev topD (x : zJ) : List D := [.str x.name, .int .i64 x.base, .slice (zQ x.recs), .slice (zaC x.groups)]
abbrev zaw (l : List zJ) : List (List D) := l.map topD
abbrev zM (es : List (List D)) : List AV := es.flatten.map .d
theorem zcU {sz : Nat} : ∀ {es : List (List D)}, (∀ e ∈ es, e.length = sz) → (zM es).length = es.length * sz
  | [], _ => by simp [zM]
  | e :: es, h => by
    have h1 := zcU (es := es) fun x hx => h x (List.mem_cons_of_mem _ hx)
    have h2 := h e List.mem_cons_self
    simp only [zM, List.length_map] at h1
    simp only [zM, List.flatten_cons, List.map_append, List.length_append, List.length_map, h1, h2, List.length_cons, Nat.add_mul, Nat.one_mul]
    omega
theorem zlM {sz : Nat} : ∀ {es : List (List D)}, (∀ e ∈ es, e.length = sz) → ∀ k, (zM es).take (k * sz) = zM (es.take k)
  | [], _, k => by simp [zM]
  | e :: es, h, k => by
    cases k with
    | zero => simp [zM]
    | succ k =>
      have h1 := zlM (es := es) (fun x hx => h x (List.mem_cons_of_mem _ hx)) k
      have h2 := h e List.mem_cons_self
      have e1 : zM (e :: es) = e.map .d ++ zM es := by simp [zM]
      have e2 : zM ((e :: es).take (k + 1)) = e.map .d ++ zM (es.take k) := by simp [zM]
      rw [e1, e2, ← h1, List.take_append, List.length_map, h2, show (k + 1) * sz - sz = k * sz by rw [Nat.add_mul]; omega, List.take_of_length_le (by rw [List.length_map, h2, Nat.add_mul]; omega)]
theorem zjl {sz : Nat} : ∀ {es : List (List D)}, (∀ e ∈ es, e.length = sz) → ∀ k, (zM es).drop (k * sz) = zM (es.drop k)
  | [], _, k => by simp [zM]
  | e :: es, h, k => by
    cases k with
    | zero => simp [zM]
    | succ k =>
      have h1 := zjl (es := es) (fun x hx => h x (List.mem_cons_of_mem _ hx)) k
      have h2 := h e List.mem_cons_self
      have e1 : zM (e :: es) = e.map .d ++ zM es := by simp [zM]
      rw [e1, List.drop_succ_cons, ← h1, List.drop_append, List.length_map, h2, show (k + 1) * sz - sz = k * sz by rw [Nat.add_mul]; omega, List.drop_of_length_le (by rw [List.length_map, h2, Nat.add_mul]; omega)]
      rfl
theorem zfH {sz : Nat} {es : List (List D)} (h : ∀ e ∈ es, e.length = sz) {k : Nat} {e : List D} (he : es[k]? = some e) : ((zM es).drop (k * sz)).take sz = e.map .d := by
  have hk : k < es.length := (List.getElem?_eq_some_iff.1 he).1
  have hl := h e (List.mem_of_getElem? he)
  rw [zjl h, List.drop_eq_getElem_cons hk, (List.getElem?_eq_some_iff.1 he).2]
  simp only [zM, List.flatten_cons, List.map_append]
  rw [List.take_append_of_le_length (by rw [List.length_map, hl]; exact Nat.le_refl _), List.take_of_length_le (by rw [List.length_map, hl]; exact Nat.le_refl _)]
theorem zdQ {sz : Nat} {es : List (List D)} (h : ∀ e ∈ es, e.length = sz) {k i : Nat} {e : List D} (he : es[k]? = some e) (hi : i < sz) : (zM es)[k * sz + i]? = (e[i]?).map .d := by
  have h1 := zfH h he
  have h2 : (((zM es).drop (k * sz)).take sz)[i]? = (zM es)[k * sz + i]? := by rw [List.getElem?_take, if_pos hi, List.getElem?_drop]
  rw [← h2, h1, List.getElem?_map]
theorem ziJ {sz : Nat} {es : List (List D)} (h : ∀ e ∈ es, e.length = sz) {k i : Nat} {e : List D} (he : es[k]? = some e) (hi : i < sz) (x : D) : (zM es).set (k * sz + i) (.d x) = zM (es.set k (e.set i x)) := by
  have hk : k < es.length := (List.getElem?_eq_some_iff.1 he).1
  have hl := h e (List.mem_of_getElem? he)
  have e0 : es = es.take k ++ e :: es.drop (k + 1) := by
    rw [← (List.getElem?_eq_some_iff.1 he).2, ← List.drop_eq_getElem_cons hk, List.take_append_drop]
  have e1 : es.set k (e.set i x) = es.take k ++ e.set i x :: es.drop (k + 1) := by rw [List.set_eq_take_append_cons_drop, if_pos hk]
  have hlen : (zM (es.take k)).length = k * sz := by
    rw [zcU fun y hy => h y (List.mem_of_mem_take hy), List.length_take, Nat.min_eq_left (by omega)]
  have e2 : zM es = zM (es.take k) ++ (e.map .d ++ zM (es.drop (k + 1))) := by
    conv => lhs; rw [e0]
    simp [zM]
  have e3 : zM (es.set k (e.set i x)) = zM (es.take k) ++ ((e.set i x).map .d ++ zM (es.drop (k + 1))) := by
    rw [e1]; simp [zM]
  rw [e2, e3, List.set_append_right _ _ (by omega), hlen, Nat.add_sub_cancel_left, List.set_append_left _ _ (by rw [List.length_map]; omega), List.map_set]
theorem zbx (l : List zJ) : ∀ e ∈ zaw l, e.length = 4 := by
  intro e he
  obtain ⟨x, _, rfl⟩ := List.mem_map.1 he
  rfl
structure TopI (x : zJ) : Prop where
  base : 0 ≤ x.base
  next : x.next ≤ 9007199254740992
  recs : x.recs.length ≤ 64
  groups : x.groups.length ≤ 8
  name : x.name.length ≤ 64
  each : ∀ r ∈ x.recs, r.length ≤ 64
  gs : ∀ g ∈ x.groups, g.1.length ≤ 64 ∧ 0 ≤ g.2 ∧ g.2 ≤ 9007199254740992
structure zcF (T : zP) : Prop where
  len : T.l.length ≤ 8
  tops : ∀ x ∈ T.l, TopI x
theorem zcF.none : zcF zcw := ⟨by simp [zcw], by simp [zcw]⟩
theorem check0 {o : TOp} (h : zan zda o = 0) : 0 ≤ o.offset ∧ o.offset ≤ 9007199254740992 ∧ (o.kind ≠ 0 → zda o.topic = true) ∧ (o.kind = 3 → zda o.group = true) ∧ (o.kind = 2 → ∀ r ∈ o.recs, r.length ≤ 64) := by
  unfold zan at h
  split at h
  · cases h
  · split at h
    · cases h
    · rename_i h2
      split at h
      · cases h
      · rename_i h3
        split at h
        · cases h
        · rename_i h4
          split at h
          · cases h
          · rename_i h5
            refine ⟨by omega, by omega, fun hk => by simpa [hk] using h2, fun hk => by simpa [hk] using h3, fun hk r hr => ?_⟩
            have : ¬ (o.recs.any (fun r => decide (r.length > 64)) = true) := fun e => h4 ⟨hk, .inr (.inr e)⟩
            simp only [List.any_eq_true, decide_eq_true_eq, not_exists, not_and] at this
            have := this r hr
            omega
theorem zhm {α : Type} {l : List α} {i : Nat} {x y : α} (h : y ∈ l.set i x) : y ∈ l ∨ y = x := List.mem_or_eq_of_mem_set h
theorem doesI {T : zP} (h : zcF T) (o : TOp) : zcF (zaA T o).2.2 := by
  unfold zaA
  split
  · exact h
  · rename_i hc
    have hc : zan zda o = 0 := by simpa using hc
    obtain ⟨q1, q2, q3, q4, q5⟩ := check0 hc
    split
    · exact h
    · rename_i k0
      have hn := name_len (q3 k0)
      split
      · unfold zaK
        split
        · exact h
        · split
          · exact h
          · refine ⟨by simp only [List.length_append, List.length_take, List.length_cons, List.length_drop]; omega, fun x hx => ?_⟩
            rcases List.mem_append.1 hx with hx | hx
            · exact h.tops x (List.mem_of_mem_take hx)
            · rcases List.mem_cons.1 hx with rfl | hx
              · exact ⟨by simp, by simp [zJ.next], by simp, by simp, hn, by simp, by simp⟩
              · exact h.tops x (List.mem_of_mem_drop hx)
      · split
        · exact h
        · rename_i i _
          split
          · exact h
          · rename_i x hx
            have hX := h.tops x (List.mem_of_getElem? hx)
            have a1 := hX.base; have a2 := hX.next; have a3 := hX.recs; have a4 := hX.groups
            split
            · rename_i k2
              unfold zbh
              split
              · exact h
              · rename_i hq
                refine ⟨by simpa using h.len, fun y hy => ?_⟩
                rcases zhm hy with hy | rfl
                · exact h.tops y hy
                · have e : x.next = x.base + x.recs.length := rfl
                  refine ⟨a1, by simp only [zJ.next, List.length_append]; omega, by simp; omega, a4, hX.name, fun r hr => ?_, hX.gs⟩
                  rcases List.mem_append.1 hr with hr | hr
                  · exact hX.each r hr
                  · exact q5 k2 r hr
            · split
              · rename_i k3
                have hg := name_len (q4 k3)
                unfold zaH
                split
                · exact h
                · split
                  · exact h
                  · rename_i h6 h7
                    refine ⟨by simpa using h.len, fun y hy => ?_⟩
                    rcases zhm hy with hy | rfl
                    · exact h.tops y hy
                    · refine ⟨a1, a2, a3, ?_, hX.name, hX.each, fun g hg' => ?_⟩
                      · simp only [List.length_append, List.length_take, List.length_cons, List.length_drop]
                        cases hh : zmw o.group x.groups with
                        | none => simp [hh] at h7 ⊢; omega
                        | some v =>
                          have : zgv o.group x.groups < x.groups.length := by
                            rw [zmw] at hh
                            split at hh
                            · rename_i g0 hg0; exact (List.getElem?_eq_some_iff.1 hg0).1
                            · cases hh
                          simp; omega
                      · rcases List.mem_append.1 hg' with hg' | hg'
                        · exact hX.gs g (List.mem_of_mem_take hg')
                        · rcases List.mem_cons.1 hg' with rfl | hg'
                          · exact ⟨hg, q1, q2⟩
                          · exact hX.gs g (List.mem_of_mem_drop hg')
              · unfold zgq
                split
                · exact h
                · rename_i h6
                  refine ⟨by simpa using h.len, fun y hy => ?_⟩
                  rcases zhm hy with hy | rfl
                  · exact h.tops y hy
                  · have e : x.next = x.base + x.recs.length := rfl
                    exact ⟨q1, by simp only [zJ.next, List.length_drop]; omega, by simp; omega, a4, hX.name, fun r hr => hX.each r (List.mem_of_mem_drop hr), hX.gs⟩
theorem applyI {T : zP} (h : zcF T) (c tm : Int) (o : TOp) : zcF (zaa T c tm o).2.2.2 := by
  unfold zaa
  split
  · exact h
  · split
    · exact h
    · split
      · exact h
      · exact ⟨(doesI h o).len, (doesI h o).tops⟩
def zkG (g : List UInt8 × Int) : List UInt8 := putB g.1 ++ zcz g.2.toNat
def zcE (l : List (List UInt8 × Int)) : List UInt8 := (l.map zkG).flatten
def topB (x : zJ) : List UInt8 := putB x.name ++ (zcz x.base.toNat ++ (zcz x.recs.length ++ (zgs x.recs ++ (zcz x.groups.length ++ zcE x.groups))))
def zeo (l : List zJ) : List UInt8 := (l.map topB).flatten
def lastB (a : Int × Int × Int) : List UInt8 := zcz a.1.toNat ++ (zcz a.2.1.toNat ++ zcz a.2.2.toNat)
def zeq (l : List (Int × Int × Int)) : List UInt8 := (l.map lastB).flatten
def topsB (T : zP) : List UInt8 := zcz T.l.length ++ (zeo T.l ++ zeq T.last)
theorem zgb {α : Type} {f : α → List UInt8} {n : Nat} : ∀ {l : List α}, (∀ x ∈ l, (f x).length ≤ n) → ((l.map f).flatten).length ≤ l.length * n
  | [], _ => by simp
  | x :: l, h => by
    have h1 := h x List.mem_cons_self
    have h2 := zgb (l := l) fun y hy => h y (List.mem_cons_of_mem _ hy)
    simp only [List.map_cons, List.flatten_cons, List.length_append, List.length_cons, Nat.add_mul, Nat.one_mul]
    omega
theorem zjk {g : List UInt8 × Int} (h : g.1.length ≤ 64 ∧ 0 ≤ g.2 ∧ g.2 ≤ 9007199254740992) : (zkG g).length ≤ 84 := by
  have h1 := zeF (x := g.1) (by omega)
  have h2 := zN (n := g.2.toNat) (by omega)
  simp only [zkG, List.length_append]; omega
theorem topB_len {x : zJ} (h : TopI x) : (topB x).length ≤ 5600 := by
  have h1 := zeF (x := x.name) (by have := h.name; omega)
  have e : x.next = x.base + x.recs.length := rfl
  have a1 := h.base; have a2 := h.next; have a3 := h.recs; have a4 := h.groups; have a5 := h.name
  have h2 := zN (n := x.base.toNat) (by omega)
  have h3 := zN (n := x.recs.length) (by omega)
  have h4 := zN (n := x.groups.length) (by omega)
  have h5 : (zgs x.recs).length ≤ x.recs.length * 74 := zgb fun r hr => by have := h.each r hr; have := zeF (x := r) (by omega); omega
  have h6 : (zcE x.groups).length ≤ x.groups.length * 84 := zgb fun g hg => zjk (h.gs g hg)
  simp only [topB, List.length_append]; omega
theorem zlu {l : List zJ} (h : ∀ x ∈ l, TopI x) : (zeo l).length ≤ l.length * 5600 := zgb fun x hx => topB_len (h x hx)
def LastI (l : List (Int × Int × Int)) : Prop := ∀ a ∈ l, (0 ≤ a.1 ∧ a.1 ≤ 9007199254740992) ∧ (0 ≤ a.2.1 ∧ a.2.1 ≤ 9007199254740992) ∧ (0 ≤ a.2.2 ∧ a.2.2 ≤ 9007199254740992)
theorem lastB_len {a : Int × Int × Int} (h : (0 ≤ a.1 ∧ a.1 ≤ 9007199254740992) ∧ (0 ≤ a.2.1 ∧ a.2.1 ≤ 9007199254740992) ∧ (0 ≤ a.2.2 ∧ a.2.2 ≤ 9007199254740992)) : (lastB a).length ≤ 30 := by
  have h1 := zN (n := a.1.toNat) (by omega)
  have h2 := zN (n := a.2.1.toNat) (by omega)
  have h3 := zN (n := a.2.2.toNat) (by omega)
  simp only [lastB, List.length_append]; omega
theorem zlI {l : List (Int × Int × Int)} (h : LastI l) : (zeq l).length ≤ l.length * 30 := zgb fun a ha => lastB_len (h a ha)
theorem checkOp_rng (n : List UInt8 → Bool) (o : TOp) : 0 ≤ zan n o ∧ zan n o ≤ 100 := by
  unfold zan
  repeat' split
  all_goals omega
theorem doesR {T : zP} (h : zcF T) (o : TOp) : (0 ≤ (zaA T o).1.1 ∧ (zaA T o).1.1 ≤ 9007199254740992) ∧ (0 ≤ (zaA T o).1.2 ∧ (zaA T o).1.2 ≤ 9007199254740992) := by
  unfold zaA
  split
  · have := checkOp_rng zda o
    exact ⟨⟨this.1, by simp only; omega⟩, by simp, by simp⟩
  · rename_i hc
    have hc : zan zda o = 0 := by simpa using hc
    obtain ⟨q1, q2, _⟩ := check0 hc
    split
    · simp
    · split
      · unfold zaK
        repeat' split
        all_goals simp
      · split
        · simp
        · split
          · simp
          · rename_i x hx
            have hX := h.tops x (List.mem_of_getElem? hx)
            have a1 := hX.base; have a2 := hX.next
            have e : x.next = x.base + x.recs.length := rfl
            split
            · unfold zbh
              split
              · simp
              · exact ⟨by simp, by simp only; omega, by simp only; omega⟩
            · split
              · unfold zaH
                repeat' split
                all_goals first | simp; done | exact ⟨by simp, q1, q2⟩
              · unfold zgq
                split
                · simp
                · exact ⟨by simp, q1, q2⟩
theorem applyL {T : zP} (h : zcF T) (hL : LastI T.last) (c tm : Int) (o : TOp) : LastI (zaa T c tm o).2.2.2.last := by
  unfold zaa
  split
  · exact hL
  · rename_i h1
    split
    · exact hL
    · split
      · exact hL
      · intro a ha
        rcases zhm ha with ha | rfl
        · rw [zhr] at ha; exact hL a ha
        · exact ⟨by simp only; omega, doesR h o⟩
theorem applyF_last {T : zP} (c tm : Int) (o : TOp) : (zaa T c tm o).2.2.2.last.length = T.last.length := by
  unfold zaa
  repeat' split
  all_goals simp [zhr]
def PlI (p : zen) : Prop := 0 ≤ p.offset ∧ p.offset ≤ 9007199254740992 ∧ p.topic.length ≤ 64 ∧ p.rec_.length ≤ 64
theorem placeI {t : List UInt8} (ht : t.length ≤ 64) : ∀ {l : List (List UInt8)} {o : Int}, 0 ≤ o → o + l.length ≤ 9007199254740992 → (∀ r ∈ l, r.length ≤ 64) → ∀ p ∈ zdg t o l, PlI p
  | [], _, _, _, _, p, h => by simp [zdg] at h
  | r :: l, o, h0, h1, h2, p, h => by
    simp only [List.length_cons] at h1
    rcases List.mem_cons.1 h with rfl | h
    · exact ⟨h0, by simp only; omega, ht, h2 r List.mem_cons_self⟩
    · exact placeI ht (l := l) (o := o + 1) (by omega) (by omega) (fun r hr => h2 r (List.mem_cons_of_mem _ hr)) p h
theorem doesP {T : zP} (h : zcF T) (o : TOp) : (∀ p ∈ (zaA T o).2.1, PlI p) ∧ (zaA T o).2.1.length ≤ 64 := by
  unfold zaA
  split
  · simp
  · rename_i hc
    have hc : zan zda o = 0 := by simpa using hc
    obtain ⟨q1, q2, q3, q4, q5⟩ := check0 hc
    split
    · simp
    · split
      · simp
      · split
        · simp
        · split
          · simp
          · rename_i x hx
            have hX := h.tops x (List.mem_of_getElem? hx)
            have a1 := hX.base; have a2 := hX.next
            have e : x.next = x.base + x.recs.length := rfl
            split
            · rename_i k2
              unfold zbh
              split
              · simp
              · exact ⟨placeI hX.name (by omega) (by omega) (q5 k2), by simp only [zhi]; omega⟩
            · split <;> simp
theorem applyP {T : zP} (h : zcF T) (c tm : Int) (o : TOp) : (∀ p ∈ (zaa T c tm o).2.1, PlI p) ∧ (zaa T c tm o).2.1.length ≤ 64 := by
  unfold zaa
  repeat' split
  all_goals first | (simp; done) | exact doesP h o
end Go.AW

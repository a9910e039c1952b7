/- How a world and what is known of it turn together: a new block, a store into a box, a row that grows in place or anew. -/
import Derived.Test.YtahbjkanmagndaaAwBase
set_option linter.all false
namespace Go.AW
open Go.RowKit

theorem RE.mono {L L' : Nat → Loc} {σ σ' : List AObj} {w w' : World} (s : Step L σ w L' σ' w') {e : AV × AV} {m : MapEntry} (h : RE w L σ e m) : RE w' L' σ' e m :=
  ⟨s.rv h.1, s.rv h.2⟩

theorem ObjOk.keep {L L' : Nat → Loc} {σ σ' : List AObj} {w w' : World} (s : Step L σ w L' σ' w') {l : Loc} {x : AObj} (h : ObjOk w L σ l x)
    (hc : ∀ b o, Foot l x b o → w'.cell? ⟨b, o, none⟩ = w.cell? ⟨b, o, none⟩ ∧ w'.frozen? ⟨b, o, none⟩ = w.frozen? ⟨b, o, none⟩)
    (hb : ∀ b, (∀ o, Foot l x b o) → w'.heap[b]? = w.heap[b]?) : ObjOk w' L' σ' l x := by
  cases x with
  | box cs =>
    obtain ⟨h0, h00, h1⟩ := h
    refine ⟨h0, Nat.lt_of_lt_of_le h00 s.size, fun j c hj => ?_⟩
    have hl := lt_of_get hj
    obtain ⟨e1, e2⟩ := hc l.a.block (l.a.off + j) ⟨rfl, by omega, by omega⟩
    obtain ⟨h2, v, h3, h4⟩ := h1 j c hj
    exact ⟨e2.trans h2, v, e1.trans h3, s.rv h4⟩
  | tok sz n =>
    obtain ⟨h0, h1, h2, h3⟩ := h
    refine ⟨h0, h1, h2, fun hn o ho ho' => ?_⟩
    obtain ⟨e1, e2⟩ := hc l.a.block o ⟨hn, rfl, ho, ho'⟩
    obtain ⟨⟨v, h4⟩, h5⟩ := h3 hn o ho ho'
    exact ⟨⟨v, e1.trans h4⟩, e2.trans h5⟩
  | iter t pos => exact (hb l.a.block (fun _ => rfl)).trans h
  | map es =>
    obtain ⟨ms, clock, h1, h2, h3⟩ := h
    exact ⟨ms, clock, (hb l.a.block (fun _ => rfl)).trans h1, h2, fun i e m he hm => (h3 i e m he hm).mono s⟩
  | dead => trivial

theorem Foot.lt {L : Nat → Loc} {σ : List AObj} {w : World} {l : Loc} {x : AObj} (h : ObjOk w L σ l x) {b o : Nat} (hf : Foot l x b o) : b < w.heap.size := by
  cases x with
  | box cs => obtain ⟨rfl, _, _⟩ := hf; exact h.2.1
  | tok sz n => obtain ⟨h1, rfl, h2, h3⟩ := hf; obtain ⟨⟨v, hv⟩, _⟩ := h.2.2.2 h1 o h2 h3; exact cell?_some_lt hv
  | iter s pos => obtain rfl : b = l.a.block := hf; exact (Array.getElem?_eq_some_iff.1 (h : w.heap[l.a.block]? = _)).1
  | map es => obtain rfl : b = l.a.block := hf; obtain ⟨ms, c, h1, _⟩ := h; exact (Array.getElem?_eq_some_iff.1 h1).1
  | dead => exact hf.elim

theorem Sim.own_lt {L : Nat → Loc} {σ : List AObj} {w : World} (S : Sim L σ w) {b o : Nat} (h : Own L σ b o) : b < w.heap.size := by
  obtain ⟨id, x, hx, hf⟩ := h
  exact hf.lt (S.obj id x hx)

theorem frozen?_alloc_lt (w : World) (o : Obj) (a : Addr) (h : a.block < w.heap.size) : (w.alloc o).frozen? a = w.frozen? a := by
  simp only [World.alloc, World.frozen?, Array.getElem?_push]
  rw [if_neg (by omega)]

/-- L with one more place. -/
def Lput (L : Nat → Loc) (k : Nat) (l : Loc) : Nat → Loc := fun i => if i = k then l else L i
theorem Lput_same (L : Nat → Loc) (k : Nat) (l : Loc) : Lput L k l k = l := by simp [Lput]
theorem Lput_ne {L : Nat → Loc} {k i : Nat} {l : Loc} (h : i ≠ k) : Lput L k l i = L i := by simp [Lput, h]

/-- A NEW BLOCK, and an object over it. -/
theorem extend_step (L : Nat → Loc) (σ : List AObj) {w : World} (o : Obj) (l : Loc) (x : AObj) (hf : ∀ b c, Foot l x b c → b = w.heap.size) :
    Step L σ w (Lput L σ.length l) (σ ++ [x]) (w.alloc o) := by
  refine ⟨rfl, rfl, rfl, by simp, fun b hb _ => Below.heap_alloc w o b hb, fun b c hb _ => World.cell?_alloc_lt w o _ hb, fun b c hb h => ?_, by simp, fun id y hy => ?_⟩
  · obtain ⟨id, y, hy, hfy⟩ := h
    rcases Nat.lt_or_ge id σ.length with hl | hl
    · rw [List.getElem?_append_left hl] at hy
      rw [Lput_ne (by omega)] at hfy
      exact ⟨id, y, hy, hfy⟩
    · rw [List.getElem?_append_right hl] at hy
      have e : id = σ.length := by have := lt_of_get hy; simp at this; omega
      subst e
      simp at hy
      subst hy
      rw [Lput_same] at hfy
      exact absurd (hf _ _ hfy) (by omega)
  · have hl := lt_of_get hy
    refine ⟨y, by rw [List.getElem?_append_left hl]; exact hy, rfl, fun _ => Lput_ne (by omega), fun sz n e => ⟨n, e, Nat.le_refl _, fun _ => Lput_ne (by omega)⟩⟩

theorem extend_sim {L : Nat → Loc} {σ : List AObj} {w : World} (S : Sim L σ w) (o : Obj) (l : Loc) (x : AObj) (hf : ∀ b c, Foot l x b c → b = w.heap.size)
    (hx : ObjOk (w.alloc o) (Lput L σ.length l) (σ ++ [x]) l x) : Sim (Lput L σ.length l) (σ ++ [x]) (w.alloc o) := by
  have s := extend_step L σ o l x hf
  have hget : ∀ {id y}, (σ ++ [x])[id]? = some y → (id < σ.length ∧ σ[id]? = some y) ∨ (id = σ.length ∧ y = x) := fun {id y} hy => by
    rcases Nat.lt_or_ge id σ.length with hl | hl
    · rw [List.getElem?_append_left hl] at hy; exact .inl ⟨hl, hy⟩
    · rw [List.getElem?_append_right hl] at hy
      have e : id = σ.length := by have := lt_of_get hy; simp at this; omega
      subst e; simp at hy; exact .inr ⟨rfl, hy.symm⟩
  refine ⟨fun id y hy => ?_, fun i j y z b c hij hy hz hfy hfz => ?_⟩
  · rcases hget hy with ⟨hl, hy⟩ | ⟨rfl, rfl⟩
    · rw [Lput_ne (by omega)]
      have ho := S.obj id y hy
      exact ho.keep s (fun b c hfc => ⟨World.cell?_alloc_lt w o _ (hfc.lt ho), frozen?_alloc_lt w o _ (hfc.lt ho)⟩) (fun b hb => Below.heap_alloc w o b ((hb 0).lt ho))
    · rw [Lput_same]; exact hx
  · rcases hget hy with ⟨hl, hy1⟩ | ⟨e1, e2⟩
    · rw [Lput_ne (by omega)] at hfy
      rcases hget hz with ⟨hl', hz1⟩ | ⟨e1, e2⟩
      · rw [Lput_ne (by omega)] at hfz
        exact S.apart i j y z b c hij hy1 hz1 hfy hfz
      · rw [e1, Lput_same, e2] at hfz
        have := hf _ _ hfz
        have := hfy.lt (S.obj i y hy1)
        omega
    · rw [e1, Lput_same, e2] at hfy
      rcases hget hz with ⟨hl', hz1⟩ | ⟨e3, e4⟩
      · rw [Lput_ne (by omega)] at hfz
        have := hf _ _ hfy
        have := hfz.lt (S.obj j z hz1)
        omega
      · exact hij (e1.trans e3.symm)

theorem Sim.drew {L : Nat → Loc} {σ : List AObj} {w : World} (S : Sim L σ w) (d : Nat) : Sim L σ { w with drawn := d } ∧ Step L σ w L σ { w with drawn := d } := by
  have s : Step L σ w L σ { w with drawn := d } := ⟨rfl, rfl, rfl, Nat.le_refl _, fun _ _ _ => rfl, fun _ _ _ _ => rfl, fun _ _ _ h => h, Nat.le_refl _, fun _ _ h => .refl h⟩
  exact ⟨⟨fun id x hx => (S.obj id x hx).keep s (fun _ _ _ => ⟨rfl, rfl⟩) (fun _ _ => rfl), S.apart⟩, s⟩

/-- Where the footprints are the same, what is owned is. -/
theorem own_set {L : Nat → Loc} {σ : List AObj} {id : Nat} {x x' : AObj} (hx : σ[id]? = some x) (hf : ∀ b o, Foot (L id) x' b o → Foot (L id) x b o) {b o : Nat} (h : Own L (σ.set id x') b o) : Own L σ b o := by
  obtain ⟨i, y, hy, hfy⟩ := h
  rw [List.getElem?_set] at hy
  by_cases e : id = i
  · subst e
    simp [lt_of_get hx] at hy
    subst hy
    exact ⟨id, x, hx, hf _ _ hfy⟩
  · simp [e] at hy
    exact ⟨i, y, hy, hfy⟩

theorem frozen?_setCell (w : World) (a b : Addr) (v : Value) : (w.setCell a v).frozen? b = w.frozen? b := by
  simp only [World.setCell, World.frozen?, Array.getElem?_modify]
  by_cases h : a.block = b.block
  · simp only [h, if_true]
    cases hh : w.heap[b.block]? with
    | none => simp
    | some x => cases x <;> simp
  · simp [h]

theorem get_set_cases {σ : List AObj} {id i : Nat} {x y : AObj} (h : (σ.set id x)[i]? = some y) : (i = id ∧ y = x) ∨ (i ≠ id ∧ σ[i]? = some y) := by
  rw [List.getElem?_set] at h
  by_cases e : id = i
  · subst e
    by_cases hl : id < σ.length
    · simp [hl] at h; exact .inl ⟨rfl, h.symm⟩
    · simp [hl] at h
  · simp [e] at h; exact .inr ⟨fun e' => e e'.symm, h⟩

/-- A store into an owned cell, the object turning from x to x' (of one kind, its footprint at most what it was). -/
theorem store_step {L : Nat → Loc} {σ : List AObj} {w : World} {id : Nat} {x x' : AObj} (hx : σ[id]? = some x) (hk : x'.kind = x.kind)
    (hf : ∀ b o, Foot (L id) x' b o → Foot (L id) x b o) (htok : ∀ sz n, x = .tok sz n → ∃ n', x' = .tok sz n' ∧ n ≤ n') {b o : Nat} (hin : Foot (L id) x b o) (v : Value) :
    Step L σ w L (σ.set id x') (w.setCell ⟨b, o, none⟩ v) := by
  have hown : Own L σ b o := ⟨id, x, hx, hin⟩
  refine ⟨rfl, rfl, rfl, by simp, fun c hc hn => ?_, fun c p hc hn => ?_, fun c p _ h => own_set hx hf h, by simp, fun i y hy => ?_⟩
  · exact Below.heap_setCell w _ v c (fun e => by dsimp only at e; subst e; exact hn o hown)
  · exact World.cell?_setCell_other w _ _ v (fun e => by cases e; exact hn hown)
  · by_cases e : id = i
    · subst e
      rw [hx] at hy; cases hy
      refine ⟨x', by simp [lt_of_get hx], hk, fun _ => rfl, fun sz n e => ?_⟩
      obtain ⟨n', h1, h2⟩ := htok sz n e
      exact ⟨n', h1, h2, fun _ => rfl⟩
    · exact ⟨y, by rw [List.getElem?_set_ne e]; exact hy, rfl, fun _ => rfl, fun sz n e => ⟨n, e, Nat.le_refl _, fun _ => rfl⟩⟩

theorem store_sim {L : Nat → Loc} {σ : List AObj} {w : World} (S : Sim L σ w) {id : Nat} {x x' : AObj} (hx : σ[id]? = some x) (hk : x'.kind = x.kind)
    (hf : ∀ b o, Foot (L id) x' b o → Foot (L id) x b o) (htok : ∀ sz n, x = .tok sz n → ∃ n', x' = .tok sz n' ∧ n ≤ n') {b o : Nat} (hin : Foot (L id) x b o) (v : Value)
    (hok : ObjOk (w.setCell ⟨b, o, none⟩ v) L (σ.set id x') (L id) x') : Sim L (σ.set id x') (w.setCell ⟨b, o, none⟩ v) := by
  have s := store_step hx hk hf htok hin v (w := w)
  refine ⟨fun i y hy => ?_, fun i j y z c p hij hy hz hfy hfz => ?_⟩
  · rcases get_set_cases hy with ⟨rfl, rfl⟩ | ⟨hne, hy⟩
    · exact hok
    · have ho := S.obj i y hy
      refine ho.keep s (fun c p hfp => ⟨World.cell?_setCell_other w _ _ v (fun e => ?_), frozen?_setCell w _ _ v⟩) (fun c hc => ?_)
      · cases e; exact S.apart i id y x b o hne hy hx hfp hin
      · refine Below.heap_setCell w _ v c (fun e => ?_)
        dsimp only at e; subst e
        exact S.apart i id y x _ o hne hy hx (hc o) hin
  · have key : ∀ {i y}, (σ.set id x')[i]? = some y → Foot (L i) y c p → ∃ y', σ[i]? = some y' ∧ Foot (L i) y' c p := fun {i y} hy hfy => by
      rcases get_set_cases hy with ⟨rfl, rfl⟩ | ⟨_, hy⟩
      · exact ⟨x, hx, hf _ _ hfy⟩
      · exact ⟨y, hy, hfy⟩
    obtain ⟨y', hy', hfy'⟩ := key hy hfy
    obtain ⟨z', hz', hfz'⟩ := key hz hfz
    exact S.apart i j y' z' c p hij hy' hz' hfy' hfz'

/-- ONE CELL OF A BOX is written. -/
theorem box_store {L : Nat → Loc} {σ : List AObj} {w : World} (S : Sim L σ w) {id : Nat} {cs : List AV} (hx : σ[id]? = some (.box cs)) {j : Nat} (hj : j < cs.length) {c : AV} {v : Value} (hv : RV w L σ c v) :
    Step L σ w L (σ.set id (.box (cs.set j c))) (w.setCell ⟨(L id).a.block, (L id).a.off + j, none⟩ v) ∧
    Sim L (σ.set id (.box (cs.set j c))) (w.setCell ⟨(L id).a.block, (L id).a.off + j, none⟩ v) := by
  have hf : ∀ b o, Foot (L id) (.box (cs.set j c)) b o → Foot (L id) (.box cs) b o := fun b o h => by simpa [Foot] using h
  have hin : Foot (L id) (.box cs) (L id).a.block ((L id).a.off + j) := ⟨rfl, by omega, by omega⟩
  have s := store_step (x := .box cs) (x' := .box (cs.set j c)) hx rfl hf (fun _ _ e => by cases e) hin v (w := w)
  refine ⟨s, store_sim S (x := .box cs) (x' := .box (cs.set j c)) hx rfl hf (fun _ _ e => by cases e) hin v ?_⟩
  obtain ⟨h0, h00, h1⟩ := S.obj id _ hx
  refine ⟨h0, by simpa using h00, fun k d hk => ?_⟩
  rw [List.getElem?_set] at hk
  by_cases e : j = k
  · subst e
    simp [hj] at hk
    subst hk
    obtain ⟨c', hc'⟩ : ∃ c', cs[j]? = some c' := ⟨cs[j], by simp [hj]⟩
    obtain ⟨h2, u, h3, _⟩ := h1 j c' hc'
    exact ⟨(frozen?_setCell w _ _ v).trans h2, v, World.cell?_setCell_same w _ v h3, s.rv hv⟩
  · simp [e] at hk
    obtain ⟨h2, u, h3, h4⟩ := h1 k d hk
    exact ⟨(frozen?_setCell w _ _ v).trans h2, u, (World.cell?_setCell_other w _ _ v (fun e' => e (by have := congrArg Addr.off e'; dsimp only at this; omega))).trans h3, s.rv h4⟩

/-- A cell of a row's spare end is written. -/
theorem tok_store {L : Nat → Loc} {σ : List AObj} {w : World} (S : Sim L σ w) {id sz n : Nat} (hx : σ[id]? = some (.tok sz n)) {o : Nat} (hn : (L id).nil = false) (h1 : (L id).a.off + n * sz ≤ o) (h2 : o < (L id).a.off + (L id).cap * sz) (v : Value) :
    Step L σ w L σ (w.setCell ⟨(L id).a.block, o, none⟩ v) ∧ Sim L σ (w.setCell ⟨(L id).a.block, o, none⟩ v) := by
  have e : σ.set id (.tok sz n) = σ := by
    obtain ⟨hl, hh⟩ := List.getElem?_eq_some_iff.1 hx
    rw [← hh]; exact List.set_getElem_self hl
  have hin : Foot (L id) (.tok sz n) (L id).a.block o := ⟨hn, rfl, h1, h2⟩
  have s := store_step (x := .tok sz n) (x' := .tok sz n) hx rfl (fun _ _ h => h) (fun _ n' e => ⟨n', e, Nat.le_refl _⟩) hin v (w := w)
  have s' := store_sim S (x := .tok sz n) (x' := .tok sz n) hx rfl (fun _ _ h => h) (fun _ n' e => ⟨n', e, Nat.le_refl _⟩) hin v (by
    obtain ⟨h0, h3, h4, h5⟩ := S.obj id _ hx
    refine ⟨h0, h3, h4, fun hn p hp hp' => ?_⟩
    obtain ⟨⟨u, hu⟩, hz⟩ := h5 hn p hp hp'
    refine ⟨?_, (frozen?_setCell w _ _ v).trans hz⟩
    by_cases e : o = p
    · subst e; exact ⟨v, World.cell?_setCell_same w _ v hu⟩
    · exact ⟨u, (World.cell?_setCell_other w _ _ v (fun e' => e (by cases e'; rfl))).trans hu⟩)
  rw [e] at s s'
  exact ⟨s, s'⟩

/-- A row's end gives up the cells that were filled. -/
theorem tok_fill {L : Nat → Loc} {σ : List AObj} {w : World} (S : Sim L σ w) {id sz n m : Nat} (hx : σ[id]? = some (.tok sz n)) (hnm : n ≤ m) (hm : m ≤ (L id).cap) :
    Step L σ w L (σ.set id (.tok sz m)) w ∧ Sim L (σ.set id (.tok sz m)) w := by
  have hmul : n * sz ≤ m * sz := Nat.mul_le_mul_right sz hnm
  have hf : ∀ b o, Foot (L id) (.tok sz m) b o → Foot (L id) (.tok sz n) b o := fun b o h => ⟨h.1, h.2.1, by have := h.2.2.1; omega, h.2.2.2⟩
  have s : Step L σ w L (σ.set id (.tok sz m)) w := by
    refine ⟨rfl, rfl, rfl, Nat.le_refl _, fun _ _ _ => rfl, fun _ _ _ _ => rfl, fun c p _ h => own_set hx hf h, by simp, fun i y hy => ?_⟩
    by_cases e : id = i
    · subst e
      rw [hx] at hy; cases hy
      refine ⟨.tok sz m, by simp [lt_of_get hx], rfl, fun _ => rfl, fun sz' n' e => ?_⟩
      cases e
      exact ⟨m, rfl, hnm, fun _ => rfl⟩
    · exact ⟨y, by rw [List.getElem?_set_ne e]; exact hy, rfl, fun _ => rfl, fun sz n e => ⟨n, e, Nat.le_refl _, fun _ => rfl⟩⟩
  refine ⟨s, ⟨fun i y hy => ?_, fun i j y z c p hij hy hz hfy hfz => ?_⟩⟩
  · rcases get_set_cases hy with ⟨rfl, rfl⟩ | ⟨hne, hy⟩
    · obtain ⟨h0, h1, h2, h3⟩ := S.obj i _ hx
      exact ⟨hm, h1, h2, fun hn o ho ho' => h3 hn o (by omega) ho'⟩
    · exact (S.obj i y hy).keep s (fun _ _ _ => ⟨rfl, rfl⟩) (fun _ _ => rfl)
  · have key : ∀ {i y}, (σ.set id (.tok sz m))[i]? = some y → Foot (L i) y c p → ∃ y', σ[i]? = some y' ∧ Foot (L i) y' c p := fun {i y} hy hfy => by
      rcases get_set_cases hy with ⟨rfl, rfl⟩ | ⟨_, hy⟩
      · exact ⟨_, hx, hf _ _ hfy⟩
      · exact ⟨y, hy, hfy⟩
    obtain ⟨y', hy', hfy'⟩ := key hy hfy
    obtain ⟨z', hz', hfz'⟩ := key hz hfz
    exact S.apart i j y' z' c p hij hy' hz' hfy' hfz'

/-- A row grows into a new block: its end moves there. -/
theorem tok_move {L : Nat → Loc} {σ : List AObj} {w : World} (S : Sim L σ w) {id sz n m : Nat} (hx : σ[id]? = some (.tok sz n)) (hnm : n < m) (cells : Array Value) (elem : TypeId) (cap : Nat) (hm : m ≤ cap) (hc : cells.size = cap * sz) :
    Step L σ w (Lput L id { a := ⟨w.heap.size, 0, none⟩, cap := cap }) (σ.set id (.tok sz m)) (w.alloc (.cells cells elem)) ∧
    Sim (Lput L id { a := ⟨w.heap.size, 0, none⟩, cap := cap }) (σ.set id (.tok sz m)) (w.alloc (.cells cells elem)) := by
  have s : Step L σ w (Lput L id { a := ⟨w.heap.size, 0, none⟩, cap := cap }) (σ.set id (.tok sz m)) (w.alloc (.cells cells elem)) := by
    refine ⟨rfl, rfl, rfl, by simp, fun b hb _ => Below.heap_alloc w _ b hb, fun b c hb _ => World.cell?_alloc_lt w _ _ hb, fun b c hb h => ?_, by simp, fun i y hy => ?_⟩
    · obtain ⟨i, y, hy, hfy⟩ := h
      rcases get_set_cases hy with ⟨rfl, rfl⟩ | ⟨hne, hy⟩
      · rw [Lput_same] at hfy
        exact absurd hfy.2.1 (by dsimp only; omega)
      · rw [Lput_ne hne] at hfy
        exact ⟨i, y, hy, hfy⟩
    · by_cases e : id = i
      · subst e
        rw [hx] at hy; cases hy
        refine ⟨.tok sz m, by simp [lt_of_get hx], rfl, fun h => absurd rfl h, fun sz' n' e => ?_⟩
        cases e
        exact ⟨m, rfl, Nat.le_of_lt hnm, fun e => by omega⟩
      · refine ⟨y, by rw [List.getElem?_set_ne e]; exact hy, rfl, fun _ => Lput_ne (fun h => e h.symm), fun sz n e' => ⟨n, e', Nat.le_refl _, fun _ => Lput_ne (fun h => e h.symm)⟩⟩
  refine ⟨s, ⟨fun i y hy => ?_, fun i j y z c p hij hy hz hfy hfz => ?_⟩⟩
  · rcases get_set_cases hy with ⟨rfl, rfl⟩ | ⟨hne, hy⟩
    · rw [Lput_same]
      refine ⟨hm, fun h => Bool.noConfusion h, fun _ _ => rfl, fun _ o ho ho' => ⟨?_, World.frozen?_alloc_at cells elem _ o rfl⟩⟩
      dsimp only at ho ho'
      have hlt : o < cells.size := by omega
      exact ⟨cells[o], by rw [World.cell?_alloc_new]; simp [hlt]⟩
    · rw [Lput_ne hne]
      have ho := S.obj i y hy
      exact ho.keep s (fun b c hfc => ⟨World.cell?_alloc_lt w _ _ (hfc.lt ho), frozen?_alloc_lt w _ _ (hfc.lt ho)⟩) (fun b hb => Below.heap_alloc w _ b ((hb 0).lt ho))
  · rcases get_set_cases hy with ⟨e1, e2⟩ | ⟨hne, hy1⟩
    · rw [e1, Lput_same, e2] at hfy
      rcases get_set_cases hz with ⟨e3, e4⟩ | ⟨hne', hz1⟩
      · exact hij (e1.trans e3.symm)
      · rw [Lput_ne hne'] at hfz
        have h1 := hfz.lt (S.obj j z hz1)
        have h2 : c = w.heap.size := hfy.2.1
        omega
    · rw [Lput_ne hne] at hfy
      rcases get_set_cases hz with ⟨e3, e4⟩ | ⟨hne', hz1⟩
      · rw [e3, Lput_same, e4] at hfz
        have h1 := hfy.lt (S.obj i y hy1)
        have h2 : c = w.heap.size := hfz.2.1
        omega
      · rw [Lput_ne hne'] at hfz
        exact S.apart i j y z c p hij hy1 hz1 hfy hfz

/-- A whole block that an object owns is written (an iterator, a map). -/
theorem obj_set {L : Nat → Loc} {σ : List AObj} {w : World} (S : Sim L σ w) {id : Nat} {x x' : AObj} (hx : σ[id]? = some x) (hk : x'.kind = x.kind) (h2 : 2 ≤ x.kind) (h3 : x.kind ≤ 3) (o : Obj)
    (hok : (w' : World) → w' = { w with heap := w.heap.setIfInBounds (L id).a.block o } → Step L σ w L (σ.set id x') w' → ObjOk w' L (σ.set id x') (L id) x') :
    Step L σ w L (σ.set id x') { w with heap := w.heap.setIfInBounds (L id).a.block o } ∧ Sim L (σ.set id x') { w with heap := w.heap.setIfInBounds (L id).a.block o } := by
  have hall : ∀ b o, Foot (L id) x b o ↔ b = (L id).a.block := fun b o => by
    cases x <;> simp_all [AObj.kind, Foot]
  have hall' : ∀ b o, Foot (L id) x' b o ↔ b = (L id).a.block := fun b o => by
    cases x <;> cases x' <;> simp_all [AObj.kind, Foot]
  have hf : ∀ b o, Foot (L id) x' b o → Foot (L id) x b o := fun b o h => (hall b o).2 ((hall' b o).1 h)
  have hget : ∀ b, b ≠ (L id).a.block → (w.heap.setIfInBounds (L id).a.block o)[b]? = w.heap[b]? := fun b hb => by
    rw [Array.getElem?_setIfInBounds, if_neg (fun e => hb e.symm)]
  have hown : ∀ o, Own L σ (L id).a.block o := fun o => ⟨id, x, hx, (hall _ _).2 rfl⟩
  have s : Step L σ w L (σ.set id x') { w with heap := w.heap.setIfInBounds (L id).a.block o } := by
    refine ⟨rfl, rfl, rfl, by simp, fun b _ hn => hget b (fun e => hn 0 (e ▸ hown 0)), fun b c _ hn => ?_, fun c p _ h => own_set hx hf h, by simp, fun i y hy => ?_⟩
    · exact World.cell?_of_block (w := w) (hget b (fun e => hn (e ▸ hown c)))
    · by_cases e : id = i
      · subst e
        rw [hx] at hy; cases hy
        refine ⟨x', by simp [lt_of_get hx], hk, fun _ => rfl, fun sz n e => ?_⟩
        subst e; simp [AObj.kind] at h2
      · exact ⟨y, by rw [List.getElem?_set_ne e]; exact hy, rfl, fun _ => rfl, fun sz n e => ⟨n, e, Nat.le_refl _, fun _ => rfl⟩⟩
  refine ⟨s, ⟨fun i y hy => ?_, fun i j y z c p hij hy hz hfy hfz => ?_⟩⟩
  · rcases get_set_cases hy with ⟨rfl, rfl⟩ | ⟨hne, hy⟩
    · exact hok _ rfl s
    · have hno : ∀ b c, Foot (L i) y b c → b ≠ (L id).a.block := fun b c hfc e => S.apart i id y x b c hne hy hx hfc ((hall _ _).2 e)
      refine (S.obj i y hy).keep s (fun b c hfc => ⟨World.cell?_of_block (w := w) (hget b (hno b c hfc)), World.frozen?_of_block (w := w) (hget b (hno b c hfc))⟩) (fun b hb => hget b (hno b 0 (hb 0)))
  · have key : ∀ {i y}, (σ.set id x')[i]? = some y → Foot (L i) y c p → ∃ y', σ[i]? = some y' ∧ Foot (L i) y' c p := fun {i y} hy hfy => by
      rcases get_set_cases hy with ⟨rfl, rfl⟩ | ⟨_, hy⟩
      · exact ⟨_, hx, hf _ _ hfy⟩
      · exact ⟨y, hy, hfy⟩
    obtain ⟨y', hy', hfy'⟩ := key hy hfy
    obtain ⟨z', hz', hfz'⟩ := key hz hfz
    exact S.apart i j y' z' c p hij hy' hz' hfy' hfz'

end Go.AW

/- The base of an abstract logic over the model: data without addresses, objects of the call's own, and what a world must hold for them. -/
import Derived.Calls
import Derived.Below
import Derived.Laws.World
import Derived.Laws.NewBlocks
import Derived.Laws.Strings
import Derived.Laws.Wrap64
set_option linter.all false
namespace Go.AW

/-- Data that holds no address: a slice is the list of its elements, each a list of cells. -/
inductive D where
  | int (k : IntKind) (n : Int)
  | bool (b : Bool)
  | str (s : List UInt8)
  | slice (es : List (List D))
  | nilp
  | nilmap
  | nilfn

/-- A value of a slot: data, or a reference to an object of the call's own. -/
inductive AV where
  | d (x : D)
  | agg (cs : List AV)
  | tup (vs : List AV)
  | own (t : Nat) (es : List (List D))
  | exact (es : List (List D))
  | bsl (id off len cap sz : Nat)
  | box (id off : Nat)
  | vp (cs : List D)
  | map (id : Nat)
  | iter (id : Nat)
  | fn (f : Fn) (first cap : List AV)
  | undef

/-- An object of the call's own. -/
inductive AObj where
  | box (cs : List AV)
  | tok (sz n : Nat)
  | iter (s : List UInt8) (pos : Nat)
  | map (es : List (AV × AV))
  | dead

/-- Where an object lies. -/
structure Loc where
  a : Addr
  nil : Bool := false
  cap : Nat := 0

/-- The cells that an object owns. -/
def Foot (l : Loc) : AObj → Nat → Nat → Prop
  | .box cs, b, o => b = l.a.block ∧ l.a.off ≤ o ∧ o < l.a.off + cs.length
  | .tok sz n, b, o => l.nil = false ∧ b = l.a.block ∧ l.a.off + n * sz ≤ o ∧ o < l.a.off + l.cap * sz
  | .iter _ _, b, _ => b = l.a.block
  | .map _, b, _ => b = l.a.block
  | .dead, _, _ => False

def Own (L : Nat → Loc) (σ : List AObj) (b o : Nat) : Prop := ∃ (id : Nat) (x : AObj), σ[id]? = some x ∧ Foot (L id) x b o

/-- The value v is the data x in w, none of whose cells is owned. -/
inductive RD (w : World) (O : Nat → Nat → Prop) : D → Value → Prop
  | int (k n) : RD w O (.int k n) (.int k n)
  | bool (b) : RD w O (.bool b) (.bool b)
  | str (s) : RD w O (.str s) (.string ⟨s.toArray⟩)
  | nilp : RD w O .nilp (.pointer none)
  | nilmap : RD w O .nilmap (.map none)
  | nilfn : RD w O .nilfn .nilFunc
  | empty (a : Option Addr) (cap : Nat) : (a = none → cap = 0) → RD w O (.slice []) (.slice a 0 cap)
  | slice (es : List (List D)) (b off cap sz : Nat) (vs : Nat → Value) : es ≠ [] → es.length ≤ cap → (∀ e ∈ es, e.length = sz) →
      (∀ (i : Nat) e (j : Nat) d, es[i]? = some e → e[j]? = some d → w.cell? ⟨b, off + (i * sz + j), none⟩ = some (vs (i * sz + j)) ∧ ¬ O b (off + (i * sz + j))) →
      (∀ (i : Nat) e (j : Nat) d, es[i]? = some e → e[j]? = some d → RD w O d (vs (i * sz + j))) →
      RD w O (.slice es) (.slice (some ⟨b, off, none⟩) es.length cap)

/-- objects keep their kind -/
def AObj.kind : AObj → Nat
  | .box _ => 0 | .tok .. => 1 | .iter .. => 2 | .map _ => 3 | .dead => 4

/-- an object that keeps its place -/
def Fixed (σ : List AObj) (id : Nat) : Prop := ∃ x, σ[id]? = some x ∧ x.kind ≠ 1

inductive RV (w : World) (L : Nat → Loc) (σ : List AObj) : AV → Value → Prop
  | d (x v) : RD w (Own L σ) x v → RV w L σ (.d x) v
  | agg (cs : List AV) (vs : List Value) : vs.length = cs.length → (∀ (i : Nat) c v, cs[i]? = some c → vs[i]? = some v → RV w L σ c v) → RV w L σ (.agg cs) (.agg vs.toArray)
  | tup (cs : List AV) (vs : List Value) : vs.length = cs.length → (∀ (i : Nat) c v, cs[i]? = some c → vs[i]? = some v → RV w L σ c v) → RV w L σ (.tup cs) (.tuple vs.toArray)
  | own (t : Nat) (es : List (List D)) (v : Value) (sz n : Nat) : σ[t]? = some (.tok sz n) → es.length ≤ n → (∀ e ∈ es, e.length = sz) → RD w (Own L σ) (.slice es) v →
      (es.length = n → v = .slice (if (L t).nil then none else some (L t).a) n (L t).cap) → RV w L σ (.own t es) v
  | exact (es : List (List D)) (a : Option Addr) : RD w (Own L σ) (.slice es) (.slice a es.length es.length) → RV w L σ (.exact es) (.slice a es.length es.length)
  | bsl (id off len cap sz : Nat) : Fixed σ id → len ≤ cap → RV w L σ (.bsl id off len cap sz) (.slice (some ⟨(L id).a.block, (L id).a.off + off, none⟩) len cap)
  | box (id off : Nat) : Fixed σ id → RV w L σ (.box id off) (.pointer (some ⟨(L id).a.block, (L id).a.off + off, none⟩))
  | vp (cs : List D) (b off : Nat) : (∀ (j : Nat) d, cs[j]? = some d → ∃ v, w.cell? ⟨b, off + j, none⟩ = some v ∧ ¬ Own L σ b (off + j) ∧ RD w (Own L σ) d v) →
      RV w L σ (.vp cs) (.pointer (some ⟨b, off, none⟩))
  | map (id : Nat) : Fixed σ id → RV w L σ (.map id) (.map (some (L id).a.block))
  | iter (id : Nat) : Fixed σ id → RV w L σ (.iter id) (.pointer (some ⟨(L id).a.block, 0, none⟩))
  | fn (f : Fn) (first cap : List AV) (fs cs : List Value) : fs.length = first.length → cs.length = cap.length →
      (∀ (i : Nat) c v, first[i]? = some c → fs[i]? = some v → RV w L σ c v) → (∀ (i : Nat) c v, cap[i]? = some c → cs[i]? = some v → RV w L σ c v) →
      RV w L σ (.fn f first cap) (.func f fs.toArray cs.toArray)
  | undef (v) : RV w L σ .undef v

/-- the entries of a map, in the order in which they were made -/
def RE (w : World) (L : Nat → Loc) (σ : List AObj) (e : AV × AV) (m : MapEntry) : Prop :=
  RV w L σ e.1 m.key ∧ RV w L σ e.2 m.val

def ObjOk (w : World) (L : Nat → Loc) (σ : List AObj) (l : Loc) : AObj → Prop
  | .box cs => l.a.spot = none ∧ l.a.block < w.heap.size ∧ ∀ (j : Nat) c, cs[j]? = some c → w.frozen? ⟨l.a.block, l.a.off + j, none⟩ = false ∧ ∃ v, w.cell? ⟨l.a.block, l.a.off + j, none⟩ = some v ∧ RV w L σ c v
  | .tok sz n => n ≤ l.cap ∧ (l.nil = true → l.cap = 0) ∧ (l.nil = false → 0 < l.cap → l.a.spot = none) ∧
      (l.nil = false → ∀ o, l.a.off + n * sz ≤ o → o < l.a.off + l.cap * sz → (∃ v, w.cell? ⟨l.a.block, o, none⟩ = some v) ∧ w.frozen? ⟨l.a.block, o, none⟩ = false)
  | .iter s pos => w.heap[l.a.block]? = some (.stringIter ⟨s.toArray⟩ pos)
  | .map es => ∃ ms clock, w.heap[l.a.block]? = some (.map ms clock) ∧ ms.size = es.length ∧ ∀ (i : Nat) e m, es[i]? = some e → ms[i]? = some m → RE w L σ e m
  | .dead => True

structure Sim (L : Nat → Loc) (σ : List AObj) (w : World) : Prop where
  obj : ∀ (id : Nat) x, σ[id]? = some x → ObjOk w L σ (L id) x
  apart : ∀ (i j : Nat) x y b o, i ≠ j → σ[i]? = some x → σ[j]? = some y → Foot (L i) x b o → Foot (L j) y b o → False

/-- how an object may turn: it keeps its kind and its place; a row's end may move where it grows -/
def Turns (L L' : Nat → Loc) (σ' : List AObj) (id : Nat) (x : AObj) : Prop :=
  ∃ x', σ'[id]? = some x' ∧ x'.kind = x.kind ∧ (x.kind ≠ 1 → L' id = L id) ∧ ∀ sz n, x = .tok sz n → ∃ n', x' = .tok sz n' ∧ n ≤ n' ∧ (n = n' → L' id = L id)

/-- What a piece of a run may do to the world: nothing to what is not owned. -/
structure Step (L : Nat → Loc) (σ : List AObj) (w : World) (L' : Nat → Loc) (σ' : List AObj) (w' : World) : Prop where
  os : w'.os = w.os
  tape : w'.tape = w.tape
  output : w'.output = w.output
  size : w.heap.size ≤ w'.heap.size
  blk : ∀ b, b < w.heap.size → (∀ o, ¬ Own L σ b o) → w'.heap[b]? = w.heap[b]?
  cell : ∀ b o, b < w.heap.size → ¬ Own L σ b o → w'.cell? ⟨b, o, none⟩ = w.cell? ⟨b, o, none⟩
  own : ∀ b o, b < w.heap.size → Own L' σ' b o → Own L σ b o
  len : σ.length ≤ σ'.length
  turns : ∀ (id : Nat) x, σ[id]? = some x → Turns L L' σ' id x

theorem lt_of_get {α : Type} {l : List α} {i : Nat} {x : α} (h : l[i]? = some x) : i < l.length := (List.getElem?_eq_some_iff.1 h).1

theorem Turns.refl {L : Nat → Loc} {σ : List AObj} {id : Nat} {x : AObj} (h : σ[id]? = some x) : Turns L L σ id x :=
  ⟨x, h, rfl, fun _ => rfl, fun _ n e => ⟨n, e, Nat.le_refl _, fun _ => rfl⟩⟩

theorem Step.refl (L : Nat → Loc) (σ : List AObj) (w : World) : Step L σ w L σ w :=
  ⟨rfl, rfl, rfl, Nat.le_refl _, fun _ _ _ => rfl, fun _ _ _ _ => rfl, fun _ _ _ h => h, Nat.le_refl _, fun _ _ h => .refl h⟩

theorem Step.trans {L L1 L2 : Nat → Loc} {σ σ1 σ2 : List AObj} {w w1 w2 : World} (h : Step L σ w L1 σ1 w1) (k : Step L1 σ1 w1 L2 σ2 w2) : Step L σ w L2 σ2 w2 := by
  refine ⟨k.os.trans h.os, k.tape.trans h.tape, k.output.trans h.output, Nat.le_trans h.size k.size, fun b hb hn => ?_, fun b o hb hn => ?_, fun b o hb ho => ?_, Nat.le_trans h.len k.len, fun id x hx => ?_⟩
  · exact (k.blk b (Nat.lt_of_lt_of_le hb h.size) (fun o ho => hn o (h.own b o hb ho))).trans (h.blk b hb hn)
  · exact (k.cell b o (Nat.lt_of_lt_of_le hb h.size) (fun ho => hn (h.own b o hb ho))).trans (h.cell b o hb hn)
  · exact h.own b o hb (k.own b o (Nat.lt_of_lt_of_le hb h.size) ho)
  · obtain ⟨x1, h1, h2, h3, h4⟩ := h.turns id x hx
    obtain ⟨x2, k1, k2, k3, k4⟩ := k.turns id x1 h1
    refine ⟨x2, k1, k2.trans h2, fun hk => (k3 (by rw [h2]; exact hk)).trans (h3 hk), fun sz n e => ?_⟩
    obtain ⟨n1, e1, l1, f1⟩ := h4 sz n e
    obtain ⟨n2, e2, l2, f2⟩ := k4 sz n1 e1
    exact ⟨n2, e2, Nat.le_trans l1 l2, fun en => (f2 (by omega)).trans (f1 (by omega))⟩

theorem cell?_some_lt {w : World} {b o : Nat} {v : Value} (h : w.cell? ⟨b, o, none⟩ = some v) : b < w.heap.size := by
  unfold World.cell? at h
  split at h
  · rename_i c e f hb
    exact (Array.getElem?_eq_some_iff.1 hb).1
  · cases h

theorem RD.mono {w w' : World} {O O' : Nat → Nat → Prop} (hc : ∀ b o, b < w.heap.size → ¬ O b o → w'.cell? ⟨b, o, none⟩ = w.cell? ⟨b, o, none⟩)
    (ho : ∀ b o, b < w.heap.size → O' b o → O b o) {x : D} {v : Value} (h : RD w O x v) : RD w' O' x v := by
  induction h with
  | int k n => exact .int k n
  | bool b => exact .bool b
  | str s => exact .str s
  | nilp => exact .nilp
  | nilmap => exact .nilmap
  | nilfn => exact .nilfn
  | empty a cap h => exact .empty a cap h
  | slice es b off cap sz vs h0 h1 h2 h3 _ ih =>
    refine .slice es b off cap sz vs h0 h1 h2 (fun i e j d hi hj => ?_) ih
    obtain ⟨hcell, hn⟩ := h3 i e j d hi hj
    have hb := cell?_some_lt hcell
    exact ⟨(hc _ _ hb hn).trans hcell, fun h => hn (ho _ _ hb h)⟩

theorem Step.rd {L L' : Nat → Loc} {σ σ' : List AObj} {w w' : World} (s : Step L σ w L' σ' w') {x : D} {v : Value} (h : RD w (Own L σ) x v) : RD w' (Own L' σ') x v :=
  h.mono s.cell s.own

theorem Step.fixed {L L' : Nat → Loc} {σ σ' : List AObj} {w w' : World} (s : Step L σ w L' σ' w') {id : Nat} (h : Fixed σ id) : Fixed σ' id ∧ L' id = L id := by
  obtain ⟨x, hx, hk⟩ := h
  obtain ⟨x', h1, h2, h3, _⟩ := s.turns id x hx
  exact ⟨⟨x', h1, by rw [h2]; exact hk⟩, h3 hk⟩

theorem Step.rv {L L' : Nat → Loc} {σ σ' : List AObj} {w w' : World} (s : Step L σ w L' σ' w') {x : AV} {v : Value} (h : RV w L σ x v) : RV w' L' σ' x v := by
  induction h with
  | d x v h => exact .d x v (s.rd h)
  | agg cs vs hl _ ih => exact .agg cs vs hl ih
  | tup cs vs hl _ ih => exact .tup cs vs hl ih
  | own t es v sz n h1 h2 h3 h4 h5 =>
    obtain ⟨x', k1, _, _, k4⟩ := s.turns t _ h1
    obtain ⟨n', e, hle, hn⟩ := k4 sz n rfl
    subst e
    exact .own t es v sz n' k1 (Nat.le_trans h2 hle) h3 (s.rd h4) (fun e => by have e1 : n = n' := by omega
                                                                               rw [hn e1, ← e1]; exact h5 (by omega))
  | exact es a h => exact .exact es a (s.rd h)
  | bsl id off len cap sz h1 h2 => obtain ⟨h3, h4⟩ := s.fixed h1; rw [← h4]; exact .bsl id off len cap sz h3 h2
  | box id off h1 => obtain ⟨h3, h4⟩ := s.fixed h1; rw [← h4]; exact .box id off h3
  | vp cs b off h =>
    refine .vp cs b off fun j d hj => ?_
    obtain ⟨v, h1, h2, h3⟩ := h j d hj
    have hb := cell?_some_lt h1
    exact ⟨v, (s.cell _ _ hb h2).trans h1, fun h => h2 (s.own _ _ hb h), s.rd h3⟩
  | map id h1 => obtain ⟨h3, h4⟩ := s.fixed h1; rw [← h4]; exact .map id h3
  | iter id h1 => obtain ⟨h3, h4⟩ := s.fixed h1; rw [← h4]; exact .iter id h3
  | fn f first cap fs cs h1 h2 _ _ ih1 ih2 => exact .fn f first cap fs cs h1 h2 ih1 ih2
  | undef v => exact .undef v

/-- a frame's slots: what was put last stands first -/
abbrev Frame := List (Nat × AV)
def getS : Frame → Nat → AV
  | [], _ => .undef
  | (j, a) :: r, i => match Nat.beq i j with | true => a | false => getS r i
theorem getS_cons (j : Nat) (a : AV) (r : Frame) (i : Nat) : getS ((j, a) :: r) i = if i = j then a else getS r i := by
  simp only [getS]
  by_cases h : i = j
  · subst h; simp
  · have hb : Nat.beq i j = false := by
      cases hq : Nat.beq i j with
      | false => rfl
      | true => exact absurd (Nat.eq_of_beq_eq_true hq) h
    rw [if_neg h, hb]
theorem getS_none : ∀ {fr : Frame} {i : Nat}, (∀ p ∈ fr, p.1 ≠ i) → getS fr i = .undef
  | [], _, _ => rfl
  | (j, a) :: r, i, h => by
    rw [getS_cons, if_neg (fun e => h (j, a) (by simp) e.symm)]
    exact getS_none (fun p hp => h p (by simp [hp]))

/-- a frame's slots -/
structure FR (w : World) (L : Nat → Loc) (σ : List AObj) (fr : Frame) (ts : Array Value) : Prop where
  at_ : ∀ (i : Nat) v, ts[i]? = some v → RV w L σ (getS fr i) v
  keys : ∀ p ∈ fr, p.1 < ts.size

theorem Step.fr {L L' : Nat → Loc} {σ σ' : List AObj} {w w' : World} (s : Step L σ w L' σ' w') {fr : Frame} {ts : Array Value} (h : FR w L σ fr ts) : FR w' L' σ' fr ts :=
  ⟨fun i v h1 => s.rv (h.at_ i v h1), h.keys⟩

theorem FR.at' {w : World} {L : Nat → Loc} {σ : List AObj} {fr : Frame} {ts : Array Value} (h : FR w L σ fr ts) (t : Nat) : RV w L σ (getS fr t) (ts.getD t undef) := by
  rcases Nat.lt_or_ge t ts.size with hl | hl
  · have h2 : ts[t]? = some ts[t] := by simp [hl]
    have := h.at_ t _ h2
    simpa [Array.getD, hl] using this
  · rw [getS_none (fun p hp e => by have := h.keys p hp; omega)]
    exact .undef _

theorem FR.put {w : World} {L : Nat → Loc} {σ : List AObj} {fr : Frame} {ts : Array Value} (h : FR w L σ fr ts) {i : Nat} (hi : i < ts.size) {a : AV} {v : Value} (hv : RV w L σ a v) :
    FR w L σ ((i, a) :: fr) (ts.setIfInBounds i v) := by
  refine ⟨fun j u h2 => ?_, fun p hp => ?_⟩
  · rw [Array.getElem?_setIfInBounds] at h2
    rw [getS_cons]
    by_cases e : i = j
    · subst e
      rw [if_pos rfl]
      simp [hi] at h2
      subst h2; exact hv
    · rw [if_neg (fun h => e h.symm)]
      rw [if_neg e] at h2
      exact h.at_ j u h2
  · rcases List.mem_cons.1 hp with rfl | hp
    · simpa using hi
    · simpa using h.keys p hp

end Go.AW

/- Operations that only reckon: what they come to does not hang on their place among the others. -/
import Derived.Test.YtahbjkanmagndaaAwCode
set_option linter.all false
set_option linter.unusedSimpArgs false
set_option linter.unusedVariables false
namespace Go.AW
variable {P : Program}

theorem ACall.mono0 {f : FuncId} {as : List AV} {σ : List AObj} {K K' : AV → List AObj → Prop} (hk : ∀ r σ', K r σ' → K' r σ') (h : ACall P f as σ K) : ACall P f as σ K' :=
  ⟨h.1, fun L w vs S hv => Calls.mono (h.2 L w vs S hv) fun e w' he => by
    cases e with
    | returned v => obtain ⟨L', σ', r, a, b, c, d⟩ := he; exact ⟨L', σ', r, a, b, c, hk _ _ d⟩
    | panicked _ => exact he
    | outgrown => exact he⟩

theorem binA_mono {op : BinOp} {e : EK} {x y : AV} {K K' : AV → Prop} (hk : ∀ a, K a → K' a) (h : binA op e x y K) : binA op e x y K' := by
  unfold binA at *
  repeat' split at h
  all_goals (first | exact h.elim | exact hk _ h | exact ⟨h.1, hk _ h.2⟩ | exact ⟨h.1, h.2.1, hk _ h.2.2⟩ | skip)
  all_goals (simp only [*]; try exact ⟨h.1, hk _ h.2⟩)
  all_goals grind
theorem boxC_mono (x : AV) {σ : List AObj} {K K' : KT} (hk : ∀ a s, K a s → K' a s) (h : boxC x σ K) : boxC x σ K' := by
  unfold boxC at *
  repeat' split at h
  all_goals (first | exact h.elim | skip)
  all_goals (revert h; try simp only [*, if_true, if_false, Bool.false_eq_true, reduceIte, ite_true, ite_false])
  all_goals (intro h)
  all_goals (repeat (refine ⟨h.1, ?_⟩; replace h := h.2))
  all_goals (first | exact hk _ _ h | exact h.elim)
theorem buildC_mono (o : Option (List AV)) {σ : List AObj} {K K' : KT} (hk : ∀ a s, K a s → K' a s) (h : buildC o σ K) : buildC o σ K' := by
  unfold buildC at *
  repeat' split at h
  all_goals (first | exact h.elim | skip)
  all_goals (revert h; try simp only [*, if_true, if_false, Bool.false_eq_true, reduceIte, ite_true, ite_false])
  all_goals (intro h)
  all_goals (repeat (refine ⟨h.1, ?_⟩; replace h := h.2))
  all_goals (first | exact hk _ _ h | exact h.elim)
theorem mksliceC_mono (mu : Bool) (s n : Nat) (o : Option (List AV)) {σ : List AObj} {K K' : KT} (hk : ∀ a s, K a s → K' a s) (h : mksliceC mu s n o σ K) : mksliceC mu s n o σ K' := by
  unfold mksliceC at *
  repeat' split at h
  all_goals (first | exact h.elim | skip)
  all_goals (revert h; try simp only [*, if_true, if_false, Bool.false_eq_true, reduceIte, ite_true, ite_false])
  all_goals (intro h)
  all_goals (repeat (refine ⟨h.1, ?_⟩; replace h := h.2))
  all_goals (first | exact hk _ _ h | exact h.elim)
theorem loadC_mono (agg : Bool) (n : Nat) (x : AV) {σ : List AObj} {K K' : KT} (hk : ∀ a s, K a s → K' a s) (h : loadC agg n x σ K) : loadC agg n x σ K' := by
  unfold loadC at *
  repeat' split at h
  all_goals (first | exact h.elim | skip)
  all_goals (revert h; try simp only [*, if_true, if_false, Bool.false_eq_true, reduceIte, ite_true, ite_false])
  all_goals (intro h)
  all_goals (repeat (refine ⟨h.1, ?_⟩; replace h := h.2))
  all_goals (first | exact hk _ _ h | exact h.elim)
theorem storeC_mono (n : Nat) (x y : AV) {σ : List AObj} {K K' : KT} (hk : ∀ a s, K a s → K' a s) (h : storeC n x y σ K) : storeC n x y σ K' := by
  unfold storeC at *
  repeat' split at h
  all_goals (first | exact h.elim | skip)
  all_goals (revert h; try simp only [*, if_true, if_false, Bool.false_eq_true, reduceIte, ite_true, ite_false])
  all_goals (intro h)
  all_goals (repeat (refine ⟨h.1, ?_⟩; replace h := h.2))
  all_goals (first | exact hk _ _ h | exact h.elim)
theorem nilC_mono (x : AV) {σ : List AObj} {K K' : KT} (hk : ∀ a s, K a s → K' a s) (h : nilC x σ K) : nilC x σ K' := by
  unfold nilC at *
  repeat' split at h
  all_goals (first | exact h.elim | skip)
  all_goals (revert h; try simp only [*, if_true, if_false, Bool.false_eq_true, reduceIte, ite_true, ite_false])
  all_goals (intro h)
  all_goals (repeat (refine ⟨h.1, ?_⟩; replace h := h.2))
  all_goals (first | exact hk _ _ h | exact h.elim)
theorem convC_mono (c : CK) (x : AV) {σ : List AObj} {K K' : KT} (hk : ∀ a s, K a s → K' a s) (h : convC c x σ K) : convC c x σ K' := by
  unfold convC at *
  repeat' split at h
  all_goals (first | exact h.elim | skip)
  all_goals (revert h; try simp only [*, if_true, if_false, Bool.false_eq_true, reduceIte, ite_true, ite_false])
  all_goals (intro h)
  all_goals (repeat (refine ⟨h.1, ?_⟩; replace h := h.2))
  all_goals (first | exact hk _ _ h | exact h.elim)
theorem slcC_mono (k : SK) (x : AV) (lo hi mx : Option AV) {σ : List AObj} {K K' : KT} (hk : ∀ a s, K a s → K' a s) (h : slcC k x lo hi mx σ K) : slcC k x lo hi mx σ K' := by
  unfold slcC at *
  repeat' split at h
  all_goals (first | exact h.elim | skip)
  all_goals (revert h; try simp only [*, if_true, if_false, Bool.false_eq_true, reduceIte, ite_true, ite_false])
  all_goals (intro h)
  all_goals (repeat (refine ⟨h.1, ?_⟩; replace h := h.2))
  all_goals (first | exact hk _ _ h | exact h.elim)
theorem faddrC_mono (off : Nat) (x : AV) {σ : List AObj} {K K' : KT} (hk : ∀ a s, K a s → K' a s) (h : faddrC off x σ K) : faddrC off x σ K' := by
  unfold faddrC at *
  repeat' split at h
  all_goals (first | exact h.elim | skip)
  all_goals (revert h; try simp only [*, if_true, if_false, Bool.false_eq_true, reduceIte, ite_true, ite_false])
  all_goals (intro h)
  all_goals (repeat (refine ⟨h.1, ?_⟩; replace h := h.2))
  all_goals (first | exact hk _ _ h | exact h.elim)
theorem fieldC_mono (agg : Bool) (off n : Nat) (x : AV) {σ : List AObj} {K K' : KT} (hk : ∀ a s, K a s → K' a s) (h : fieldC agg off n x σ K) : fieldC agg off n x σ K' := by
  unfold fieldC at *
  repeat' split at h
  all_goals (first | exact h.elim | skip)
  all_goals (revert h; try simp only [*, if_true, if_false, Bool.false_eq_true, reduceIte, ite_true, ite_false])
  all_goals (intro h)
  all_goals (repeat (refine ⟨h.1, ?_⟩; replace h := h.2))
  all_goals (first | exact hk _ _ h | exact h.elim)
theorem iaddrC_mono (arr : Option Nat) (sz : Nat) (x i : AV) {σ : List AObj} {K K' : KT} (hk : ∀ a s, K a s → K' a s) (h : iaddrC arr sz x i σ K) : iaddrC arr sz x i σ K' := by
  unfold iaddrC at *
  repeat' split at h
  all_goals (first | exact h.elim | skip)
  all_goals (revert h; try simp only [*, if_true, if_false, Bool.false_eq_true, reduceIte, ite_true, ite_false])
  all_goals (intro h)
  all_goals (repeat (refine ⟨h.1, ?_⟩; replace h := h.2))
  all_goals (first | exact hk _ _ h | exact h.elim)
theorem idxSC_mono (x i : AV) {σ : List AObj} {K K' : KT} (hk : ∀ a s, K a s → K' a s) (h : idxSC x i σ K) : idxSC x i σ K' := by
  unfold idxSC at *
  repeat' split at h
  all_goals (first | exact h.elim | skip)
  all_goals (revert h; try simp only [*, if_true, if_false, Bool.false_eq_true, reduceIte, ite_true, ite_false])
  all_goals (intro h)
  all_goals (repeat (refine ⟨h.1, ?_⟩; replace h := h.2))
  all_goals (first | exact hk _ _ h | exact h.elim)
theorem idxAC_mono (agg : Bool) (n sz : Nat) (x i : AV) {σ : List AObj} {K K' : KT} (hk : ∀ a s, K a s → K' a s) (h : idxAC agg n sz x i σ K) : idxAC agg n sz x i σ K' := by
  unfold idxAC at *
  repeat' split at h
  all_goals (first | exact h.elim | skip)
  all_goals (revert h; try simp only [*, if_true, if_false, Bool.false_eq_true, reduceIte, ite_true, ite_false])
  all_goals (intro h)
  all_goals (repeat (refine ⟨h.1, ?_⟩; replace h := h.2))
  all_goals (first | exact hk _ _ h | exact h.elim)
theorem extractC_mono (x : AV) (k : Nat) {σ : List AObj} {K K' : KT} (hk : ∀ a s, K a s → K' a s) (h : extractC x k σ K) : extractC x k σ K' := by
  unfold extractC at *
  repeat' split at h
  all_goals (first | exact h.elim | skip)
  all_goals (revert h; try simp only [*, if_true, if_false, Bool.false_eq_true, reduceIte, ite_true, ite_false])
  all_goals (intro h)
  all_goals (repeat (refine ⟨h.1, ?_⟩; replace h := h.2))
  all_goals (first | exact hk _ _ h | exact h.elim)
theorem lenC_mono (k : LK) (x : AV) {σ : List AObj} {K K' : KT} (hk : ∀ a s, K a s → K' a s) (h : lenC k x σ K) : lenC k x σ K' := by
  unfold lenC at *
  repeat' split at h
  all_goals (first | exact h.elim | skip)
  all_goals (revert h; try simp only [*, if_true, if_false, Bool.false_eq_true, reduceIte, ite_true, ite_false])
  all_goals (intro h)
  all_goals (repeat (refine ⟨h.1, ?_⟩; replace h := h.2))
  all_goals (first | exact hk _ _ h | exact h.elim)
theorem appendC_mono (sz bytes : Nat) (x y : AV) {σ : List AObj} {K K' : KT} (hk : ∀ a s, K a s → K' a s) (h : appendC sz bytes x y σ K) : appendC sz bytes x y σ K' := by
  unfold appendC at *
  repeat' split at h
  all_goals (first | exact h.elim | skip)
  all_goals (revert h; try simp only [*, if_true, if_false, Bool.false_eq_true, reduceIte, ite_true, ite_false])
  all_goals (intro h)
  all_goals (repeat (refine ⟨h.1, ?_⟩; replace h := h.2))
  all_goals (first | exact hk _ _ h | exact h.elim)
theorem maxC_mono (xs : List AV) {σ : List AObj} {K K' : KT} (hk : ∀ a s, K a s → K' a s) (h : maxC xs σ K) : maxC xs σ K' := by
  unfold maxC at *
  repeat' split at h
  all_goals (first | exact h.elim | skip)
  all_goals (revert h; try simp only [*, if_true, if_false, Bool.false_eq_true, reduceIte, ite_true, ite_false])
  all_goals (intro h)
  all_goals (repeat (refine ⟨h.1, ?_⟩; replace h := h.2))
  all_goals (first | exact hk _ _ h | exact h.elim)
theorem minC_mono (xs : List AV) {σ : List AObj} {K K' : KT} (hk : ∀ a s, K a s → K' a s) (h : minC xs σ K) : minC xs σ K' := by
  unfold minC at *
  repeat' split at h
  all_goals (first | exact h.elim | skip)
  all_goals (revert h; try simp only [*, if_true, if_false, Bool.false_eq_true, reduceIte, ite_true, ite_false])
  all_goals (intro h)
  all_goals (repeat (refine ⟨h.1, ?_⟩; replace h := h.2))
  all_goals (first | exact hk _ _ h | exact h.elim)
theorem rangeC_mono (x : AV) {σ : List AObj} {K K' : KT} (hk : ∀ a s, K a s → K' a s) (h : rangeC x σ K) : rangeC x σ K' := by
  unfold rangeC at *
  repeat' split at h
  all_goals (first | exact h.elim | skip)
  all_goals (revert h; try simp only [*, if_true, if_false, Bool.false_eq_true, reduceIte, ite_true, ite_false])
  all_goals (intro h)
  all_goals (repeat (refine ⟨h.1, ?_⟩; replace h := h.2))
  all_goals (first | exact hk _ _ h | exact h.elim)
theorem nextC_mono (x : AV) {σ : List AObj} {K K' : KT} (hk : ∀ a s, K a s → K' a s) (h : nextC x σ K) : nextC x σ K' := by
  unfold nextC at *
  repeat' split at h
  all_goals (first | exact h.elim | skip)
  all_goals (revert h; try simp only [*, if_true, if_false, Bool.false_eq_true, reduceIte, ite_true, ite_false])
  all_goals (intro h)
  all_goals (repeat (refine ⟨h.1, ?_⟩; replace h := h.2))
  all_goals (first | exact hk _ _ h | exact h.elim)
theorem isnilC_mono (neg : Bool) (x : AV) {σ : List AObj} {K K' : KT} (hk : ∀ a s, K a s → K' a s) (h : isnilC neg x σ K) : isnilC neg x σ K' := by
  unfold isnilC at *
  repeat' split at h
  all_goals (first | exact h.elim | exact ⟨hk _ _ h.1, hk _ _ h.2⟩ | exact hk _ _ h)
theorem mgetC_mono (kk : KK) (ok : Bool) (z m k : AV) {σ : List AObj} {K K' : KT} (hk : ∀ a s, K a s → K' a s) (h : mgetC kk ok z m k σ K) : mgetC kk ok z m k σ K' := by
  unfold mgetC at *
  split at h
  · refine ⟨h.1, ?_⟩
    replace h := h.2
    split at h <;> first | exact hk _ _ h | exact h.elim
  · exact h.elim
theorem msetC_mono (kk : KK) (m k x : AV) {σ : List AObj} {K K' : KT} (hk : ∀ a s, K a s → K' a s) (h : msetC kk m k x σ K) : msetC kk m k x σ K' := by
  unfold msetC at *
  split at h
  · split at h
    · refine ⟨h.1, ?_⟩
      replace h := h.2
      split at h <;> first | exact hk _ _ h | exact h.elim
    · exact h.elim
  · exact h.elim
theorem mdelC_mono (kk : KK) (m k : AV) {σ : List AObj} {K K' : KT} (hk : ∀ a s, K a s → K' a s) (h : mdelC kk m k σ K) : mdelC kk m k σ K' := by
  unfold mdelC at *
  split at h
  · split at h
    · refine ⟨h.1, ?_⟩
      replace h := h.2
      split at h <;> first | exact hk _ _ h | exact h.elim
    · exact h.elim
  · exact ⟨h.1, hk _ _ h.2⟩
  · exact h.elim
theorem astep_mono {i : I} {fr : Frame} {σ : List AObj} {K K' : KT} (hk : ∀ a s, K a s → K' a s) (h : astep P i fr σ K) : astep P i fr σ K' := by
  cases i <;> simp only [astep] at h ⊢
  case mv => exact hk _ _ h
  case pick => unfold pickC at *; split at h <;> first | exact ⟨fun e => hk _ _ (h.1 e), fun e => hk _ _ (h.2 e)⟩ | exact h
  case alloc => exact hk _ _ h
  case boxi => exact boxC_mono _ hk h
  case build => exact buildC_mono _ hk h
  case mkslice => exact mksliceC_mono _ _ _ _ hk h
  case load => exact loadC_mono _ _ _ hk h
  case store => exact storeC_mono _ _ _ hk h
  case nilchk => exact nilC_mono _ hk h
  case bin => exact binA_mono (fun a => hk a σ) h
  case un => unfold unA at *; split at h <;> first | exact hk _ _ h | exact h
  case conv => exact convC_mono _ _ hk h
  case slc => exact slcC_mono _ _ _ _ _ hk h
  case faddr => exact faddrC_mono _ _ hk h
  case field => exact fieldC_mono _ _ _ _ hk h
  case iaddr => exact iaddrC_mono _ _ _ _ hk h
  case idxS => exact idxSC_mono _ _ hk h
  case idxA => exact idxAC_mono _ _ _ _ _ hk h
  case extract => exact extractC_mono _ _ hk h
  case len => exact lenC_mono _ _ hk h
  case append => exact appendC_mono _ _ _ _ hk h
  case maxi => exact maxC_mono _ hk h
  case mini => exact minC_mono _ hk h
  case rangeS => exact rangeC_mono _ hk h
  case nextS => exact nextC_mono _ hk h
  case isnil => exact isnilC_mono _ _ hk h
  case mkmap => exact hk _ _ h
  case mget => exact mgetC_mono _ _ _ _ _ hk h
  case mset => exact msetC_mono _ _ _ _ hk h
  case mdel => exact mdelC_mono _ _ _ hk h
  case call => exact ACall.mono0 hk h
  case callv => unfold callvC at *; split at h <;> first | exact ACall.mono0 hk h | exact h
  case mkfn => exact hk _ _ h

def Opd.slots : Opd → List Nat
  | .tmp t => [t]
  | .lit _ => []
def osl : Option Opd → List Nat
  | some x => x.slots
  | none => []
def lsl (l : List Opd) : List Nat := l.flatMap Opd.slots
def psl (l : List (Nat × Nat × Opd)) : List Nat := l.flatMap fun p => p.2.2.slots
def I.reads : I → List Nat
  | .mv x | .boxi x | .load _ _ x | .nilchk x | .un _ x | .conv _ x | .faddr _ x | .field _ _ _ x | .extract x _ | .len _ x | .rangeS x | .nextS x | .isnil _ x => x.slots
  | .mkmap => []
  | .mget _ _ _ m k => m.slots ++ k.slots
  | .mset _ m k x => m.slots ++ k.slots ++ x.slots
  | .mdel _ m k => m.slots ++ k.slots
  | .pick c a b => c.slots ++ a.slots ++ b.slots
  | .alloc _ => []
  | .build _ ps => psl ps
  | .mkslice _ _ _ _ ps => psl ps
  | .store _ a x => a.slots ++ x.slots
  | .bin _ _ x y => x.slots ++ y.slots
  | .slc _ x lo hi mx => x.slots ++ osl lo ++ osl hi ++ osl mx
  | .iaddr _ _ x i => x.slots ++ i.slots
  | .idxS x i => x.slots ++ i.slots
  | .idxA _ _ _ x i => x.slots ++ i.slots
  | .append _ _ _ x y => x.slots ++ y.slots
  | .maxi xs => lsl xs
  | .mini xs => lsl xs
  | .call _ xs => lsl xs
  | .callv f xs => f.slots ++ lsl xs
  | .mkfn _ xs ys => lsl xs ++ lsl ys
def Ai.reads (x : Ai) : List Nat :=
  match x.g with
  | some (s, _) => s :: x.i.reads
  | none => x.i.reads

theorem ev_ext {fr fr' : Frame} {x : Opd} (h : ∀ t ∈ x.slots, getS fr t = getS fr' t) : ev fr x = ev fr' x := by
  cases x with
  | tmp t => exact h t (by simp [Opd.slots])
  | lit a => rfl
theorem oev_ext {fr fr' : Frame} {x : Option Opd} (h : ∀ t ∈ osl x, getS fr t = getS fr' t) : x.map (ev fr) = x.map (ev fr') := by
  cases x with
  | none => rfl
  | some x => simp only [Option.map_some]; rw [ev_ext h]
theorem lev_ext {fr fr' : Frame} {l : List Opd} (h : ∀ t ∈ lsl l, getS fr t = getS fr' t) : l.map (ev fr) = l.map (ev fr') :=
  List.map_congr_left fun x hx => ev_ext fun t ht => h t (List.mem_flatMap.2 ⟨x, hx, ht⟩)
theorem fillA_ext {fr fr' : Frame} : ∀ {l : List (Nat × Nat × Opd)} {cs : List AV}, (∀ t ∈ psl l, getS fr t = getS fr' t) → fillA fr cs l = fillA fr' cs l
  | [], _, _ => rfl
  | (off, s, x) :: l, cs, h => by
    have e : ev fr x = ev fr' x := ev_ext fun t ht => h t (by simp [psl, ht])
    simp only [fillA]
    rw [e]
    split
    · split
      · exact fillA_ext fun t ht => h t (by simp only [psl, List.flatMap_cons, List.mem_append] at ht ⊢; exact .inr ht)
      · rfl
    · rfl

theorem astep_ext {i : I} {fr fr' : Frame} {σ : List AObj} {K : KT} (h : ∀ t ∈ i.reads, getS fr t = getS fr' t) : astep P i fr σ K = astep P i fr' σ K := by
  cases i <;> simp only [astep, I.reads, List.mem_append] at h ⊢
  case mv x => rw [ev_ext h]
  case boxi x => rw [ev_ext h]
  case load x => rw [ev_ext h]
  case nilchk x => rw [ev_ext h]
  case un x => rw [ev_ext h]
  case conv x => rw [ev_ext h]
  case faddr x => rw [ev_ext h]
  case field x => rw [ev_ext h]
  case extract x => rw [ev_ext h]
  case len x => rw [ev_ext h]
  case rangeS x => rw [ev_ext h]
  case nextS x => rw [ev_ext h]
  case isnil x => rw [ev_ext h]
  case mget m k => rw [ev_ext (x := m) fun t ht => h t (.inl ht), ev_ext (x := k) fun t ht => h t (.inr ht)]
  case mset m k x => rw [ev_ext (x := m) fun t ht => h t (.inl (.inl ht)), ev_ext (x := k) fun t ht => h t (.inl (.inr ht)), ev_ext (x := x) fun t ht => h t (.inr ht)]
  case mdel m k => rw [ev_ext (x := m) fun t ht => h t (.inl ht), ev_ext (x := k) fun t ht => h t (.inr ht)]
  case pick c a b => rw [ev_ext (x := c) fun t ht => h t (.inl (.inl ht)), ev_ext (x := a) fun t ht => h t (.inl (.inr ht)), ev_ext (x := b) fun t ht => h t (.inr ht)]
  case build => rw [fillA_ext h]
  case mkslice => rw [fillA_ext h]
  case store a x => rw [ev_ext (x := a) fun t ht => h t (.inl ht), ev_ext (x := x) fun t ht => h t (.inr ht)]
  case bin x y => rw [ev_ext (x := x) fun t ht => h t (.inl ht), ev_ext (x := y) fun t ht => h t (.inr ht)]
  case slc x lo hi mx => rw [ev_ext (x := x) fun t ht => h t (.inl (.inl (.inl ht))), oev_ext (x := lo) fun t ht => h t (.inl (.inl (.inr ht))), oev_ext (x := hi) fun t ht => h t (.inl (.inr ht)), oev_ext (x := mx) fun t ht => h t (.inr ht)]
  case iaddr x y => rw [ev_ext (x := x) fun t ht => h t (.inl ht), ev_ext (x := y) fun t ht => h t (.inr ht)]
  case idxS x y => rw [ev_ext (x := x) fun t ht => h t (.inl ht), ev_ext (x := y) fun t ht => h t (.inr ht)]
  case idxA x y => rw [ev_ext (x := x) fun t ht => h t (.inl ht), ev_ext (x := y) fun t ht => h t (.inr ht)]
  case append x y => rw [ev_ext (x := x) fun t ht => h t (.inl ht), ev_ext (x := y) fun t ht => h t (.inr ht)]
  case maxi => rw [lev_ext h]
  case mini => rw [lev_ext h]
  case call f xs => 
    have : xs.map (fun x => dm (ev fr x)) = xs.map (fun x => dm (ev fr' x)) := by
      have := congrArg (List.map dm) (lev_ext h)
      simpa [List.map_map, Function.comp_def] using this
    rw [this]
  case callv f xs =>
    have : xs.map (fun x => dm (ev fr x)) = xs.map (fun x => dm (ev fr' x)) := by
      have := congrArg (List.map dm) (lev_ext (l := xs) fun t ht => h t (.inr ht))
      simpa [List.map_map, Function.comp_def] using this
    rw [this, ev_ext (x := f) fun t ht => h t (.inl ht)]
  case mkfn f xs ys => rw [lev_ext (l := xs) fun t ht => h t (.inl ht), lev_ext (l := ys) fun t ht => h t (.inr ht)]

/-- operations that only reckon -/
def I.quiet : I → Bool
  | .mv _ | .pick .. | .build .. | .mkslice false .. | .load .. | .nilchk _ | .bin .. | .un .. | .conv .. | .slc .. | .faddr .. | .field .. | .iaddr .. | .idxS .. | .idxA .. | .extract .. | .maxi _ | .mini _ | .mget .. => true
  | .len k _ => match k with | .map => false | _ => true
  | _ => false
/-- the address that a load reads -/
def I.at? : I → Option Opd
  | .load _ _ x => some x
  | .mget _ _ _ m _ => some m
  | _ => none
/-- the box at an address is as it was -/
def keepO (a : AV) (σ σ' : List AObj) : Prop :=
  match a with
  | .box id _ => σ'[id]? = σ[id]?
  | .map id => σ'[id]? = σ[id]?
  | _ => True

theorem binA_quiet {op : BinOp} {e : EK} {x y : AV} {K : AV → Prop} (h : binA op e x y K) : ∃ v, K v ∧ ∀ K' : AV → Prop, K' v → binA op e x y K' := by
  unfold binA at *
  repeat' split at h
  all_goals (first | exact h.elim | exact h.2.elim | exact ⟨_, h, fun _ h' => h'⟩ | exact ⟨_, h.2, fun _ h' => ⟨h.1, h'⟩⟩ | exact ⟨_, h.2.2, fun _ h' => ⟨h.1, h.2.1, h'⟩⟩ | skip)
  all_goals (simp only [*] at h ⊢)
  all_goals (first | exact ⟨_, h, fun _ h' => h'⟩ | exact ⟨_, h.2, fun _ h' => ⟨h.1, h'⟩⟩ | skip)
theorem buildC_quiet (o : Option (List AV)) {σ : List AObj} {K : KT} (h : buildC o σ K) : ∃ v, K v σ ∧ ∀ (σ' : List AObj) (K' : KT), K' v σ' → buildC o σ' K' := by
  unfold buildC at *
  repeat' split at h
  all_goals (first | exact h.elim | skip)
  all_goals (revert h; try simp only [*, if_true, if_false, Bool.false_eq_true, reduceIte, ite_true, ite_false])
  all_goals (intro h)
  all_goals (first | exact h.2.elim | exact h.2.2.elim | exact ⟨_, h, fun _ _ h' => h'⟩ | exact ⟨_, h.2, fun _ _ h' => ⟨h.1, h'⟩⟩ | exact ⟨_, h.2.2, fun _ _ h' => ⟨h.1, h.2.1, h'⟩⟩ | exact ⟨_, h.2.2.2, fun _ _ h' => ⟨h.1, h.2.1, h.2.2.1, h'⟩⟩ | exact ⟨_, h.2.2.2.2, fun _ _ h' => ⟨h.1, h.2.1, h.2.2.1, h.2.2.2.1, h'⟩⟩ | exact ⟨_, h.2.2.2.2.2, fun _ _ h' => ⟨h.1, h.2.1, h.2.2.1, h.2.2.2.1, h.2.2.2.2.1, h'⟩⟩ | exact ⟨_, h.2.2.2.2.2.2, fun _ _ h' => ⟨h.1, h.2.1, h.2.2.1, h.2.2.2.1, h.2.2.2.2.1, h.2.2.2.2.2.1, h'⟩⟩)
theorem nilC_quiet (x : AV) {σ : List AObj} {K : KT} (h : nilC x σ K) : ∃ v, K v σ ∧ ∀ (σ' : List AObj) (K' : KT), K' v σ' → nilC x σ' K' := by
  unfold nilC at *
  repeat' split at h
  all_goals (first | exact h.elim | skip)
  all_goals (revert h; try simp only [*, if_true, if_false, Bool.false_eq_true, reduceIte, ite_true, ite_false])
  all_goals (intro h)
  all_goals (first | exact h.2.elim | exact h.2.2.elim | exact ⟨_, h, fun _ _ h' => h'⟩ | exact ⟨_, h.2, fun _ _ h' => ⟨h.1, h'⟩⟩ | exact ⟨_, h.2.2, fun _ _ h' => ⟨h.1, h.2.1, h'⟩⟩ | exact ⟨_, h.2.2.2, fun _ _ h' => ⟨h.1, h.2.1, h.2.2.1, h'⟩⟩ | exact ⟨_, h.2.2.2.2, fun _ _ h' => ⟨h.1, h.2.1, h.2.2.1, h.2.2.2.1, h'⟩⟩ | exact ⟨_, h.2.2.2.2.2, fun _ _ h' => ⟨h.1, h.2.1, h.2.2.1, h.2.2.2.1, h.2.2.2.2.1, h'⟩⟩ | exact ⟨_, h.2.2.2.2.2.2, fun _ _ h' => ⟨h.1, h.2.1, h.2.2.1, h.2.2.2.1, h.2.2.2.2.1, h.2.2.2.2.2.1, h'⟩⟩)
theorem convC_quiet (c : CK) (x : AV) {σ : List AObj} {K : KT} (h : convC c x σ K) : ∃ v, K v σ ∧ ∀ (σ' : List AObj) (K' : KT), K' v σ' → convC c x σ' K' := by
  unfold convC at *
  repeat' split at h
  all_goals (first | exact h.elim | skip)
  all_goals (revert h; try simp only [*, if_true, if_false, Bool.false_eq_true, reduceIte, ite_true, ite_false])
  all_goals (intro h)
  all_goals (first | exact h.2.elim | exact h.2.2.elim | exact ⟨_, h, fun _ _ h' => h'⟩ | exact ⟨_, h.2, fun _ _ h' => ⟨h.1, h'⟩⟩ | exact ⟨_, h.2.2, fun _ _ h' => ⟨h.1, h.2.1, h'⟩⟩ | exact ⟨_, h.2.2.2, fun _ _ h' => ⟨h.1, h.2.1, h.2.2.1, h'⟩⟩ | exact ⟨_, h.2.2.2.2, fun _ _ h' => ⟨h.1, h.2.1, h.2.2.1, h.2.2.2.1, h'⟩⟩ | exact ⟨_, h.2.2.2.2.2, fun _ _ h' => ⟨h.1, h.2.1, h.2.2.1, h.2.2.2.1, h.2.2.2.2.1, h'⟩⟩ | exact ⟨_, h.2.2.2.2.2.2, fun _ _ h' => ⟨h.1, h.2.1, h.2.2.1, h.2.2.2.1, h.2.2.2.2.1, h.2.2.2.2.2.1, h'⟩⟩)
theorem slcC_quiet (k : SK) (x : AV) (lo hi mx : Option AV) {σ : List AObj} {K : KT} (h : slcC k x lo hi mx σ K) : ∃ v, K v σ ∧ ∀ (σ' : List AObj) (K' : KT), K' v σ' → slcC k x lo hi mx σ' K' := by
  unfold slcC at *
  repeat' split at h
  all_goals (first | exact h.elim | skip)
  all_goals (revert h; try simp only [*, if_true, if_false, Bool.false_eq_true, reduceIte, ite_true, ite_false])
  all_goals (intro h)
  all_goals (first | exact h.2.elim | exact h.2.2.elim | exact ⟨_, h, fun _ _ h' => h'⟩ | exact ⟨_, h.2, fun _ _ h' => ⟨h.1, h'⟩⟩ | exact ⟨_, h.2.2, fun _ _ h' => ⟨h.1, h.2.1, h'⟩⟩ | exact ⟨_, h.2.2.2, fun _ _ h' => ⟨h.1, h.2.1, h.2.2.1, h'⟩⟩ | exact ⟨_, h.2.2.2.2, fun _ _ h' => ⟨h.1, h.2.1, h.2.2.1, h.2.2.2.1, h'⟩⟩ | exact ⟨_, h.2.2.2.2.2, fun _ _ h' => ⟨h.1, h.2.1, h.2.2.1, h.2.2.2.1, h.2.2.2.2.1, h'⟩⟩ | exact ⟨_, h.2.2.2.2.2.2, fun _ _ h' => ⟨h.1, h.2.1, h.2.2.1, h.2.2.2.1, h.2.2.2.2.1, h.2.2.2.2.2.1, h'⟩⟩)
theorem faddrC_quiet (off : Nat) (x : AV) {σ : List AObj} {K : KT} (h : faddrC off x σ K) : ∃ v, K v σ ∧ ∀ (σ' : List AObj) (K' : KT), K' v σ' → faddrC off x σ' K' := by
  unfold faddrC at *
  repeat' split at h
  all_goals (first | exact h.elim | skip)
  all_goals (revert h; try simp only [*, if_true, if_false, Bool.false_eq_true, reduceIte, ite_true, ite_false])
  all_goals (intro h)
  all_goals (first | exact h.2.elim | exact h.2.2.elim | exact ⟨_, h, fun _ _ h' => h'⟩ | exact ⟨_, h.2, fun _ _ h' => ⟨h.1, h'⟩⟩ | exact ⟨_, h.2.2, fun _ _ h' => ⟨h.1, h.2.1, h'⟩⟩ | exact ⟨_, h.2.2.2, fun _ _ h' => ⟨h.1, h.2.1, h.2.2.1, h'⟩⟩ | exact ⟨_, h.2.2.2.2, fun _ _ h' => ⟨h.1, h.2.1, h.2.2.1, h.2.2.2.1, h'⟩⟩ | exact ⟨_, h.2.2.2.2.2, fun _ _ h' => ⟨h.1, h.2.1, h.2.2.1, h.2.2.2.1, h.2.2.2.2.1, h'⟩⟩ | exact ⟨_, h.2.2.2.2.2.2, fun _ _ h' => ⟨h.1, h.2.1, h.2.2.1, h.2.2.2.1, h.2.2.2.2.1, h.2.2.2.2.2.1, h'⟩⟩)
theorem fieldC_quiet (agg : Bool) (off n : Nat) (x : AV) {σ : List AObj} {K : KT} (h : fieldC agg off n x σ K) : ∃ v, K v σ ∧ ∀ (σ' : List AObj) (K' : KT), K' v σ' → fieldC agg off n x σ' K' := by
  unfold fieldC at *
  repeat' split at h
  all_goals (first | exact h.elim | skip)
  all_goals (revert h; try simp only [*, if_true, if_false, Bool.false_eq_true, reduceIte, ite_true, ite_false])
  all_goals (intro h)
  all_goals (first | exact h.2.elim | exact h.2.2.elim | exact ⟨_, h, fun _ _ h' => h'⟩ | exact ⟨_, h.2, fun _ _ h' => ⟨h.1, h'⟩⟩ | exact ⟨_, h.2.2, fun _ _ h' => ⟨h.1, h.2.1, h'⟩⟩ | exact ⟨_, h.2.2.2, fun _ _ h' => ⟨h.1, h.2.1, h.2.2.1, h'⟩⟩ | exact ⟨_, h.2.2.2.2, fun _ _ h' => ⟨h.1, h.2.1, h.2.2.1, h.2.2.2.1, h'⟩⟩ | exact ⟨_, h.2.2.2.2.2, fun _ _ h' => ⟨h.1, h.2.1, h.2.2.1, h.2.2.2.1, h.2.2.2.2.1, h'⟩⟩ | exact ⟨_, h.2.2.2.2.2.2, fun _ _ h' => ⟨h.1, h.2.1, h.2.2.1, h.2.2.2.1, h.2.2.2.2.1, h.2.2.2.2.2.1, h'⟩⟩)
theorem iaddrC_quiet (arr : Option Nat) (sz : Nat) (x i : AV) {σ : List AObj} {K : KT} (h : iaddrC arr sz x i σ K) : ∃ v, K v σ ∧ ∀ (σ' : List AObj) (K' : KT), K' v σ' → iaddrC arr sz x i σ' K' := by
  unfold iaddrC at *
  repeat' split at h
  all_goals (first | exact h.elim | skip)
  all_goals (revert h; try simp only [*, if_true, if_false, Bool.false_eq_true, reduceIte, ite_true, ite_false])
  all_goals (intro h)
  all_goals (first | exact h.2.elim | exact h.2.2.elim | exact ⟨_, h, fun _ _ h' => h'⟩ | exact ⟨_, h.2, fun _ _ h' => ⟨h.1, h'⟩⟩ | exact ⟨_, h.2.2, fun _ _ h' => ⟨h.1, h.2.1, h'⟩⟩ | exact ⟨_, h.2.2.2, fun _ _ h' => ⟨h.1, h.2.1, h.2.2.1, h'⟩⟩ | exact ⟨_, h.2.2.2.2, fun _ _ h' => ⟨h.1, h.2.1, h.2.2.1, h.2.2.2.1, h'⟩⟩ | exact ⟨_, h.2.2.2.2.2, fun _ _ h' => ⟨h.1, h.2.1, h.2.2.1, h.2.2.2.1, h.2.2.2.2.1, h'⟩⟩ | exact ⟨_, h.2.2.2.2.2.2, fun _ _ h' => ⟨h.1, h.2.1, h.2.2.1, h.2.2.2.1, h.2.2.2.2.1, h.2.2.2.2.2.1, h'⟩⟩)
theorem idxSC_quiet (x i : AV) {σ : List AObj} {K : KT} (h : idxSC x i σ K) : ∃ v, K v σ ∧ ∀ (σ' : List AObj) (K' : KT), K' v σ' → idxSC x i σ' K' := by
  unfold idxSC at *
  repeat' split at h
  all_goals (first | exact h.elim | skip)
  all_goals (revert h; try simp only [*, if_true, if_false, Bool.false_eq_true, reduceIte, ite_true, ite_false])
  all_goals (intro h)
  all_goals (first | exact h.2.elim | exact h.2.2.elim | exact ⟨_, h, fun _ _ h' => h'⟩ | exact ⟨_, h.2, fun _ _ h' => ⟨h.1, h'⟩⟩ | exact ⟨_, h.2.2, fun _ _ h' => ⟨h.1, h.2.1, h'⟩⟩ | exact ⟨_, h.2.2.2, fun _ _ h' => ⟨h.1, h.2.1, h.2.2.1, h'⟩⟩ | exact ⟨_, h.2.2.2.2, fun _ _ h' => ⟨h.1, h.2.1, h.2.2.1, h.2.2.2.1, h'⟩⟩ | exact ⟨_, h.2.2.2.2.2, fun _ _ h' => ⟨h.1, h.2.1, h.2.2.1, h.2.2.2.1, h.2.2.2.2.1, h'⟩⟩ | exact ⟨_, h.2.2.2.2.2.2, fun _ _ h' => ⟨h.1, h.2.1, h.2.2.1, h.2.2.2.1, h.2.2.2.2.1, h.2.2.2.2.2.1, h'⟩⟩)
theorem idxAC_quiet (agg : Bool) (n sz : Nat) (x i : AV) {σ : List AObj} {K : KT} (h : idxAC agg n sz x i σ K) : ∃ v, K v σ ∧ ∀ (σ' : List AObj) (K' : KT), K' v σ' → idxAC agg n sz x i σ' K' := by
  unfold idxAC at *
  repeat' split at h
  all_goals (first | exact h.elim | skip)
  all_goals (revert h; try simp only [*, if_true, if_false, Bool.false_eq_true, reduceIte, ite_true, ite_false])
  all_goals (intro h)
  all_goals (first | exact h.2.elim | exact h.2.2.elim | exact ⟨_, h, fun _ _ h' => h'⟩ | exact ⟨_, h.2, fun _ _ h' => ⟨h.1, h'⟩⟩ | exact ⟨_, h.2.2, fun _ _ h' => ⟨h.1, h.2.1, h'⟩⟩ | exact ⟨_, h.2.2.2, fun _ _ h' => ⟨h.1, h.2.1, h.2.2.1, h'⟩⟩ | exact ⟨_, h.2.2.2.2, fun _ _ h' => ⟨h.1, h.2.1, h.2.2.1, h.2.2.2.1, h'⟩⟩ | exact ⟨_, h.2.2.2.2.2, fun _ _ h' => ⟨h.1, h.2.1, h.2.2.1, h.2.2.2.1, h.2.2.2.2.1, h'⟩⟩ | exact ⟨_, h.2.2.2.2.2.2, fun _ _ h' => ⟨h.1, h.2.1, h.2.2.1, h.2.2.2.1, h.2.2.2.2.1, h.2.2.2.2.2.1, h'⟩⟩)
theorem extractC_quiet (x : AV) (k : Nat) {σ : List AObj} {K : KT} (h : extractC x k σ K) : ∃ v, K v σ ∧ ∀ (σ' : List AObj) (K' : KT), K' v σ' → extractC x k σ' K' := by
  unfold extractC at *
  repeat' split at h
  all_goals (first | exact h.elim | skip)
  all_goals (revert h; try simp only [*, if_true, if_false, Bool.false_eq_true, reduceIte, ite_true, ite_false])
  all_goals (intro h)
  all_goals (first | exact h.2.elim | exact h.2.2.elim | exact ⟨_, h, fun _ _ h' => h'⟩ | exact ⟨_, h.2, fun _ _ h' => ⟨h.1, h'⟩⟩ | exact ⟨_, h.2.2, fun _ _ h' => ⟨h.1, h.2.1, h'⟩⟩ | exact ⟨_, h.2.2.2, fun _ _ h' => ⟨h.1, h.2.1, h.2.2.1, h'⟩⟩ | exact ⟨_, h.2.2.2.2, fun _ _ h' => ⟨h.1, h.2.1, h.2.2.1, h.2.2.2.1, h'⟩⟩ | exact ⟨_, h.2.2.2.2.2, fun _ _ h' => ⟨h.1, h.2.1, h.2.2.1, h.2.2.2.1, h.2.2.2.2.1, h'⟩⟩ | exact ⟨_, h.2.2.2.2.2.2, fun _ _ h' => ⟨h.1, h.2.1, h.2.2.1, h.2.2.2.1, h.2.2.2.2.1, h.2.2.2.2.2.1, h'⟩⟩)
theorem maxC_quiet (xs : List AV) {σ : List AObj} {K : KT} (h : maxC xs σ K) : ∃ v, K v σ ∧ ∀ (σ' : List AObj) (K' : KT), K' v σ' → maxC xs σ' K' := by
  unfold maxC at *
  repeat' split at h
  all_goals (first | exact h.elim | skip)
  all_goals (revert h; try simp only [*, if_true, if_false, Bool.false_eq_true, reduceIte, ite_true, ite_false])
  all_goals (intro h)
  all_goals (first | exact h.2.elim | exact h.2.2.elim | exact ⟨_, h, fun _ _ h' => h'⟩ | exact ⟨_, h.2, fun _ _ h' => ⟨h.1, h'⟩⟩ | exact ⟨_, h.2.2, fun _ _ h' => ⟨h.1, h.2.1, h'⟩⟩ | exact ⟨_, h.2.2.2, fun _ _ h' => ⟨h.1, h.2.1, h.2.2.1, h'⟩⟩ | exact ⟨_, h.2.2.2.2, fun _ _ h' => ⟨h.1, h.2.1, h.2.2.1, h.2.2.2.1, h'⟩⟩ | exact ⟨_, h.2.2.2.2.2, fun _ _ h' => ⟨h.1, h.2.1, h.2.2.1, h.2.2.2.1, h.2.2.2.2.1, h'⟩⟩ | exact ⟨_, h.2.2.2.2.2.2, fun _ _ h' => ⟨h.1, h.2.1, h.2.2.1, h.2.2.2.1, h.2.2.2.2.1, h.2.2.2.2.2.1, h'⟩⟩)
theorem minC_quiet (xs : List AV) {σ : List AObj} {K : KT} (h : minC xs σ K) : ∃ v, K v σ ∧ ∀ (σ' : List AObj) (K' : KT), K' v σ' → minC xs σ' K' := by
  unfold minC at *
  repeat' split at h
  all_goals (first | exact h.elim | skip)
  all_goals (revert h; try simp only [*, if_true, if_false, Bool.false_eq_true, reduceIte, ite_true, ite_false])
  all_goals (intro h)
  all_goals (first | exact h.2.elim | exact h.2.2.elim | exact ⟨_, h, fun _ _ h' => h'⟩ | exact ⟨_, h.2, fun _ _ h' => ⟨h.1, h'⟩⟩ | exact ⟨_, h.2.2, fun _ _ h' => ⟨h.1, h.2.1, h'⟩⟩ | exact ⟨_, h.2.2.2, fun _ _ h' => ⟨h.1, h.2.1, h.2.2.1, h'⟩⟩ | exact ⟨_, h.2.2.2.2, fun _ _ h' => ⟨h.1, h.2.1, h.2.2.1, h.2.2.2.1, h'⟩⟩ | exact ⟨_, h.2.2.2.2.2, fun _ _ h' => ⟨h.1, h.2.1, h.2.2.1, h.2.2.2.1, h.2.2.2.2.1, h'⟩⟩ | exact ⟨_, h.2.2.2.2.2.2, fun _ _ h' => ⟨h.1, h.2.1, h.2.2.1, h.2.2.2.1, h.2.2.2.2.1, h.2.2.2.2.2.1, h'⟩⟩)
theorem loadC_quiet (agg : Bool) (n : Nat) (x : AV) {σ : List AObj} {K : KT} (h : loadC agg n x σ K) : ∃ v, K v σ ∧ ∀ (σ' : List AObj) (K' : KT), keepO x σ σ' → K' v σ' → loadC agg n x σ' K' := by
  unfold loadC at h
  split at h
  · rename_i id off
    split at h
    · rename_i cs hcs
      split at h
      · rename_i hg
        exact ⟨_, h.2, fun σ' K' hk h' => by
          have hk' : σ'[id]? = σ[id]? := hk
          simp only [loadC]; rw [hk', hcs]; simp only [hg, if_true]; exact ⟨h.1, h'⟩⟩
      · rename_i hg
        split at h
        · rename_i hv
          exact ⟨_, h, fun σ' K' hk h' => by
            have hk' : σ'[id]? = σ[id]? := hk
            simp only [loadC]; rw [hk', hcs]; simp only [if_neg hg]; rw [hv]; exact h'⟩
        · exact h.elim
    · exact h.elim
  · split at h
    · rename_i hg
      exact ⟨_, h.2, fun σ' K' hk h' => by simp only [loadC, if_pos hg]; exact ⟨h.1, h'⟩⟩
    · rename_i hg
      split at h
      · rename_i hv
        exact ⟨_, h, fun σ' K' hk h' => by simp only [loadC, if_neg hg]; rw [hv]; exact h'⟩
      · exact h.elim
  · exact h.elim
theorem mgetC_quiet (kk : KK) (ok : Bool) (z m k : AV) {σ : List AObj} {K : KT} (h : mgetC kk ok z m k σ K) : ∃ v, K v σ ∧ ∀ (σ' : List AObj) (K' : KT), keepO m σ σ' → K' v σ' → mgetC kk ok z m k σ' K' := by
  unfold mgetC at h
  split at h
  · rename_i es hes
    have key : ∀ σ', keepO m σ σ' → entriesOf m σ' = some es := fun σ' hk => by
      cases m with
      | d x => cases x <;> simp only [entriesOf] at hes ⊢ <;> exact hes
      | map id => simp only [entriesOf, keepO] at hes hk ⊢; rw [hk]; exact hes
      | _ => simp only [entriesOf] at hes; cases hes
    obtain ⟨h1, h⟩ := h
    split at h
    · rename_i hf
      exact ⟨_, h, fun σ' K' hk h' => by simp only [mgetC, key σ' hk, hf]; exact ⟨h1, h'⟩⟩
    · rename_i hf
      exact ⟨_, h, fun σ' K' hk h' => by simp only [mgetC, key σ' hk, hf]; exact ⟨h1, h'⟩⟩
    · exact h.elim
  · exact h.elim
theorem lenC_quiet (k : LK) (x : AV) (hq : (match k with | .map => false | _ => true) = true) {σ : List AObj} {K : KT} (h : lenC k x σ K) : ∃ v, K v σ ∧ ∀ (σ' : List AObj) (K' : KT), K' v σ' → lenC k x σ' K' := by
  cases k with
  | map => cases hq
  | _ =>
    simp only [lenC] at h ⊢
    repeat' split at h
    all_goals (first | exact h.elim | skip)
    all_goals (revert h; try simp only [*])
    all_goals (intro h)
    all_goals (exact ⟨_, h, fun _ _ h' => h'⟩)
theorem mksliceC_quiet (s n : Nat) (o : Option (List AV)) {σ : List AObj} {K : KT} (h : mksliceC false s n o σ K) : ∃ v, K v σ ∧ ∀ (σ' : List AObj) (K' : KT), K' v σ' → mksliceC false s n o σ' K' := by
  simp only [mksliceC, Bool.false_eq_true, if_false] at *
  repeat' split at h
  all_goals (first | exact h.elim | skip)
  all_goals (revert h; try simp only [*])
  all_goals (intro h)
  all_goals (exact ⟨_, h, fun _ _ h' => h'⟩)
theorem pickC_quiet (c a b : AV) {σ : List AObj} {K : KT} (h : pickC c a b σ K) : ∃ v, K v σ ∧ ∀ (σ' : List AObj) (K' : KT), K' v σ' → pickC c a b σ' K' := by
  unfold pickC at *
  split at h
  · rename_i t
    cases t
    · exact ⟨_, h.2 rfl, fun _ _ h' => ⟨fun e => Bool.noConfusion e, fun _ => h'⟩⟩
    · exact ⟨_, h.1 rfl, fun _ _ h' => ⟨fun _ => h', fun e => Bool.noConfusion e⟩⟩
  · exact h.elim
theorem unA_quiet (op : UnOp) (x : AV) {K : AV → Prop} (h : unA op x K) : ∃ v, K v ∧ ∀ K' : AV → Prop, K' v → unA op x K' := by
  unfold unA at *
  split at h
  · exact ⟨_, h, fun _ h' => h'⟩
  · exact ⟨_, h, fun _ h' => h'⟩
  · exact h.elim

theorem astep_quiet {i : I} (hq : i.quiet = true) {fr : Frame} {σ : List AObj} {K : KT} (h : astep P i fr σ K) :
    ∃ v, K v σ ∧ ∀ (σ' : List AObj) (K' : KT), (∀ o, i.at? = some o → keepO (ev fr o) σ σ') → K' v σ' → astep P i fr σ' K' := by
  cases i <;> simp only [I.quiet, Bool.false_eq_true] at hq <;> simp only [astep] at h ⊢
  case mv => exact ⟨_, h, fun _ _ _ h' => h'⟩
  case pick => obtain ⟨v, hv, hk⟩ := pickC_quiet _ _ _ h; exact ⟨v, hv, fun σ' K' _ h' => hk σ' K' h'⟩
  case build => obtain ⟨v, hv, hk⟩ := buildC_quiet _ h; exact ⟨v, hv, fun σ' K' _ h' => hk σ' K' h'⟩
  case mkslice mu _ _ _ _ =>
    cases mu
    · obtain ⟨v, hv, hk⟩ := mksliceC_quiet _ _ _ h; exact ⟨v, hv, fun σ' K' _ h' => hk σ' K' h'⟩
    · simp [I.quiet] at hq
  case load => obtain ⟨v, hv, hk⟩ := loadC_quiet _ _ _ h; exact ⟨v, hv, fun σ' K' ho h' => hk σ' K' (ho _ rfl) h'⟩
  case nilchk => obtain ⟨v, hv, hk⟩ := nilC_quiet _ h; exact ⟨v, hv, fun σ' K' _ h' => hk σ' K' h'⟩
  case bin => obtain ⟨v, hv, hk⟩ := binA_quiet h; exact ⟨v, hv, fun σ' K' _ h' => hk (fun a => K' a σ') h'⟩
  case un => obtain ⟨v, hv, hk⟩ := unA_quiet _ _ h; exact ⟨v, hv, fun σ' K' _ h' => hk (fun a => K' a σ') h'⟩
  case conv => obtain ⟨v, hv, hk⟩ := convC_quiet _ _ h; exact ⟨v, hv, fun σ' K' _ h' => hk σ' K' h'⟩
  case slc => obtain ⟨v, hv, hk⟩ := slcC_quiet _ _ _ _ _ h; exact ⟨v, hv, fun σ' K' _ h' => hk σ' K' h'⟩
  case faddr => obtain ⟨v, hv, hk⟩ := faddrC_quiet _ _ h; exact ⟨v, hv, fun σ' K' _ h' => hk σ' K' h'⟩
  case field => obtain ⟨v, hv, hk⟩ := fieldC_quiet _ _ _ _ h; exact ⟨v, hv, fun σ' K' _ h' => hk σ' K' h'⟩
  case iaddr => obtain ⟨v, hv, hk⟩ := iaddrC_quiet _ _ _ _ h; exact ⟨v, hv, fun σ' K' _ h' => hk σ' K' h'⟩
  case idxS => obtain ⟨v, hv, hk⟩ := idxSC_quiet _ _ h; exact ⟨v, hv, fun σ' K' _ h' => hk σ' K' h'⟩
  case idxA => obtain ⟨v, hv, hk⟩ := idxAC_quiet _ _ _ _ _ h; exact ⟨v, hv, fun σ' K' _ h' => hk σ' K' h'⟩
  case extract => obtain ⟨v, hv, hk⟩ := extractC_quiet _ _ h; exact ⟨v, hv, fun σ' K' _ h' => hk σ' K' h'⟩
  case len => obtain ⟨v, hv, hk⟩ := lenC_quiet _ _ hq h; exact ⟨v, hv, fun σ' K' _ h' => hk σ' K' h'⟩
  case maxi => obtain ⟨v, hv, hk⟩ := maxC_quiet _ h; exact ⟨v, hv, fun σ' K' _ h' => hk σ' K' h'⟩
  case mini => obtain ⟨v, hv, hk⟩ := minC_quiet _ h; exact ⟨v, hv, fun σ' K' _ h' => hk σ' K' h'⟩
  case mget => obtain ⟨v, hv, hk⟩ := mgetC_quiet _ _ _ _ _ h; exact ⟨v, hv, fun σ' K' ho h' => hk σ' K' (ho _ rfl) h'⟩


theorem getS_aput (fr : Frame) (d : Option Nat) (a : AV) (i : Nat) : getS (aput fr d a) i = if d = some i then a else getS fr i := by
  cases d with
  | none => simp [aput]
  | some d => simp only [aput, getS_cons, Option.some.injEq]; by_cases h : i = d <;> simp [h, eq_comm]
/-- frames that hold the same -/
def FEq (fr fr' : Frame) : Prop := ∀ i, getS fr i = getS fr' i
def FE (K : Frame → List AObj → Prop) : Prop := ∀ fr fr' σ, FEq fr fr' → K fr σ → K fr' σ

/-- an operation done in another frame that holds what it reads, to another end -/
theorem aop_move {x : Ai} {fr fr' : Frame} {σ : List AObj} {K K' : Frame → List AObj → Prop} (he : ∀ t ∈ x.reads, getS fr t = getS fr' t)
    (hk : ∀ u s, K (aput fr x.dst u) s → K' (aput fr' x.dst u) s) (h : aop P x fr σ K) : aop P x fr' σ K' := by
  unfold aop at *
  cases hg : x.g with
  | none =>
    simp only [hg] at h ⊢
    rw [← astep_ext (fr := fr) (fr' := fr') fun t ht => he t (by simp only [Ai.reads, hg]; exact ht)]
    exact astep_mono (fun a s => hk a s) h
  | some p =>
    obtain ⟨s, want⟩ := p
    simp only [hg] at h ⊢
    have e1 : ∀ t ∈ x.i.reads, getS fr t = getS fr' t := fun t ht => he t (by simp only [Ai.reads, hg]; exact List.mem_cons_of_mem _ ht)
    have e0 : getS fr s = getS fr' s := he s (by simp only [Ai.reads, hg]; exact List.mem_cons_self)
    rw [← e0]
    unfold guardC at *
    split at h
    · refine ⟨fun e => ?_, fun e => hk _ _ (h.2 e)⟩
      have h1 := h.1 e
      rw [← astep_ext (fr := fr) (fr' := fr') e1]
      exact astep_mono (fun a s => hk a s) h1
    · exact hk _ _ h
    · exact h

theorem aop_mono {x : Ai} {fr : Frame} {σ : List AObj} {K K' : Frame → List AObj → Prop} (hk : ∀ f s, K f s → K' f s) (h : aop P x fr σ K) : aop P x fr σ K' :=
  aop_move (fun _ _ => rfl) (fun _ _ => hk _ _) h

/-- an operation that only reckons comes to the same wherever its operands, and the box it reads, are the same -/
theorem aop_quiet {x : Ai} (hq : x.i.quiet = true) {fr : Frame} {σ : List AObj} {K : Frame → List AObj → Prop} (h : aop P x fr σ K) :
    ∃ v, K (aput fr x.dst v) σ ∧ ∀ (fr' : Frame) (σ' : List AObj) (K' : Frame → List AObj → Prop), (∀ t ∈ x.reads, getS fr t = getS fr' t) → (∀ o, x.i.at? = some o → keepO (ev fr o) σ σ') → K' (aput fr' x.dst v) σ' → aop P x fr' σ' K' := by
  unfold aop at h
  cases hg : x.g with
  | none =>
    simp only [hg] at h
    obtain ⟨v, hv, hk⟩ := astep_quiet hq h
    refine ⟨v, hv, fun fr' σ' K' he hb h' => ?_⟩
    unfold aop
    simp only [hg]
    rw [← astep_ext (fr := fr) (fr' := fr') fun t ht => he t (by simp only [Ai.reads, hg]; exact ht)]
    exact hk σ' _ hb h'
  | some p =>
    obtain ⟨s, want⟩ := p
    simp only [hg] at h
    unfold guardC at h
    have e0 : ∀ fr' : Frame, (∀ t ∈ x.reads, getS fr t = getS fr' t) → getS fr s = getS fr' s := fun fr' he => he s (by simp only [Ai.reads, hg]; exact List.mem_cons_self)
    split at h
    · rename_i b hb
      cases hbw : (b == want)
      · refine ⟨_, h.2 hbw, fun fr' σ' K' he _ h' => ?_⟩
        unfold aop
        simp only [hg]
        rw [← e0 fr' he, hb]
        exact ⟨fun e => (by rw [hbw] at e; cases e), fun _ => h'⟩
      · obtain ⟨v, hv, hk⟩ := astep_quiet hq (h.1 hbw)
        refine ⟨v, hv, fun fr' σ' K' he ho h' => ?_⟩
        unfold aop
        simp only [hg]
        rw [← e0 fr' he, hb]
        refine ⟨fun _ => ?_, fun e => (by rw [hbw] at e; cases e)⟩
        rw [← astep_ext (fr := fr) (fr' := fr') fun t ht => he t (by simp only [Ai.reads, hg]; exact List.mem_cons_of_mem _ ht)]
        exact hk σ' _ ho h'
    · rename_i hb
      refine ⟨_, h, fun fr' σ' K' he _ h' => ?_⟩
      unfold aop
      simp only [hg]
      rw [← e0 fr' he, hb]
      exact h'
    · exact h.elim

/-! ### A region that draws its order, taken in one order. -/
/-- the boxes of these addresses are kept -/
def keeps (fr : Frame) (σ σ' : List AObj) : List Nat → Prop → Prop
  | [], p => p
  | o :: r, p => keepO (getS fr o) σ σ' ∧ keeps fr σ σ' r p
theorem keeps_iff {fr : Frame} {σ σ' : List AObj} {p : Prop} : ∀ {l : List Nat}, keeps fr σ σ' l p ↔ (∀ o ∈ l, keepO (getS fr o) σ σ') ∧ p
  | [] => by simp [keeps]
  | o :: r => by simp only [keeps, keeps_iff (l := r), List.mem_cons, forall_eq_or_imp, and_assoc]
def adraw (P : Program) (l : List Ai) : List (Nat × List Nat) → Frame → List AObj → (Frame → List AObj → Prop) → Prop
  | [], fr, σ, K => K fr σ
  | (i, nd) :: r, fr, σ, K =>
    match l[i]? with
    | some x => aop P x fr σ fun f s => keeps fr σ s nd (adraw P l r f s K)
    | none => False

theorem FEq.put {fr fr' : Frame} (h : FEq fr fr') (d : Option Nat) (a : AV) : FEq (aput fr d a) (aput fr' d a) := fun i => by
  rw [getS_aput, getS_aput, h i]
theorem FEq.ev {fr fr' : Frame} (h : FEq fr fr') (o : Opd) : ev fr o = ev fr' o := ev_ext fun t _ => h t

theorem adraw_fe {l : List Ai} {K : Frame → List AObj → Prop} (hK : FE K) : ∀ (lin : List (Nat × List Nat)) (fr fr' : Frame) (σ : List AObj), FEq fr fr' → adraw P l lin fr σ K → adraw P l lin fr' σ K
  | [], fr, fr', σ, he, h => hK fr fr' σ he h
  | (i, nd) :: r, fr, fr', σ, he, h => by
    unfold adraw at *
    split at h
    · refine aop_move (fun t _ => he t) (fun u s hs => ?_) h
      rw [keeps_iff] at hs ⊢
      exact ⟨fun o ho => (by rw [← he o]; exact hs.1 o ho), adraw_fe hK r _ _ s (he.put _ u) hs.2⟩
    · exact h
/-- 'x' may be passed by 'y', which 'nd' bids keep boxes -/
def passes (x y : Ai) : Bool :=
  x.i.quiet && (x.dst.all fun d => !y.reads.contains d) && (y.dst.all fun d => !x.reads.contains d) && (match x.dst with | some d => !(y.dst == some d) | none => true)

theorem passes_spec {x y : Ai} (h : passes x y = true) : x.i.quiet = true ∧ (∀ d, x.dst = some d → d ∉ y.reads) ∧ (∀ d, y.dst = some d → d ∉ x.reads) ∧ (∀ d, x.dst = some d → y.dst ≠ some d) := by
  simp only [passes, Bool.and_eq_true] at h
  obtain ⟨⟨⟨h1, h2⟩, h3⟩, h4⟩ := h
  refine ⟨h1, fun d hd => ?_, fun d hd => ?_, fun d hd => ?_⟩
  · rw [hd] at h2; simpa using h2
  · rw [hd] at h3; simpa using h3
  · rw [hd] at h4; simpa using h4

/-- one after the other, the other way round -/
theorem swap {x y : Ai} {fr : Frame} {σ : List AObj} {K : Frame → List AObj → Prop} (hp : passes x y = true) (hK : FE K)
    (h : aop P x fr σ fun f s => aop P y f s fun f' s' => (∀ o, x.i.at? = some o → keepO (ev fr o) σ s') ∧ K f' s') :
    aop P y fr σ fun f s => aop P x f s K := by
  obtain ⟨hq, h1, h2, h3⟩ := passes_spec hp
  obtain ⟨v, hv, hk⟩ := aop_quiet hq h
  refine aop_move (fun t ht => ?_) (fun u s hs => ?_) hv
  · rw [getS_aput]
    split
    · rename_i e; exact absurd ht (h1 t e)
    · rfl
  · refine hk _ _ _ (fun t ht => ?_) hs.1 (hK _ _ s (fun i => ?_) hs.2)
    · rw [getS_aput]
      split
      · rename_i e; exact absurd ht (h2 t e)
      · rfl
    · simp only [getS_aput]
      by_cases hx : x.dst = some i
      · have := h3 i hx
        simp [hx, this]
      · simp [hx]

theorem aop_still {x : Ai} (hq : x.i.quiet = true) {fr : Frame} {σ : List AObj} {K : Frame → List AObj → Prop} (h : aop P x fr σ K) : aop P x fr σ fun f s => s = σ ∧ K f s := by
  obtain ⟨v, hv, hk⟩ := aop_quiet hq h
  refine hk fr σ _ (fun _ _ => rfl) (fun o _ => ?_) ⟨rfl, hv⟩
  unfold keepO; split <;> trivial

/-- what must hold of two of a region's operations, the first ahead of the second in the order told -/
def pairOk (x y : Ai) (nx ny : List Nat) : Bool :=
  nx.isEmpty && passes x y && (match x.i.at? with | some (.tmp t) => y.i.quiet || ny.contains t | some (.lit (.box _ _)) => false | some (.lit (.map _)) => false | _ => true)
def stays (x y : Ai) : Bool :=
  match x.i.at? with
  | some (.tmp t) => !(y.dst == some t) && !(x.dst == some t)
  | _ => true

theorem extract {l : List Ai} {K : Frame → List AObj → Prop} (hK : FE K) {i : Nat} {nd : List Nat} {x : Ai} (hx : l[i]? = some x) {post : List (Nat × List Nat)} :
    ∀ (pre : List (Nat × List Nat)) (fr : Frame) (σ : List AObj), (∀ p ∈ pre, ∃ y, l[p.1]? = some y ∧ pairOk y x p.2 nd = true) →
      (pre.Pairwise fun p q => ∀ y z, l[p.1]? = some y → l[q.1]? = some z → stays y z = true) → (∀ p ∈ pre, ∀ y, l[p.1]? = some y → stays y y = true) →
      adraw P l (pre ++ (i, nd) :: post) fr σ K →
      aop P x fr σ fun f s => ((x.i.quiet = true → s = σ) ∧ ∀ t ∈ nd, (∀ p ∈ pre, ∀ y, l[p.1]? = some y → y.dst ≠ some t) → keepO (getS fr t) σ s) ∧ adraw P l (pre ++ post) f s K
  | [], fr, σ, _, _, _, h => by
    simp only [List.nil_append, adraw, hx] at h
    have h2 : aop P x fr σ fun f s => (∀ t ∈ nd, keepO (getS fr t) σ s) ∧ adraw P l post f s K := aop_mono (fun f s hs => keeps_iff.1 hs) h
    by_cases hq : x.i.quiet = true
    · exact aop_mono (fun f s hs => ⟨⟨fun _ => hs.1, fun t ht _ => hs.2.1 t ht⟩, hs.2.2⟩) (aop_still hq h2)
    · exact aop_mono (fun f s hs => ⟨⟨fun e => absurd e hq, fun t ht _ => hs.1 t ht⟩, hs.2⟩) h2
  | (j, nj) :: pre, fr, σ, hp, hs, hss, h => by
    obtain ⟨y, hy, hpy⟩ := hp (j, nj) List.mem_cons_self
    simp only [pairOk, Bool.and_eq_true, List.isEmpty_iff] at hpy
    obtain ⟨⟨hnj, hps⟩, hat⟩ := hpy
    subst hnj
    have hyq := (passes_spec hps).1
    have hyy := hss (j, []) List.mem_cons_self y hy
    rw [List.pairwise_cons] at hs
    simp only [List.cons_append, adraw, hy, keeps] at h
    obtain ⟨v, hv, hk⟩ := aop_quiet hyq h
    have ih := extract hK hx pre _ σ (fun p hp' => hp p (List.mem_cons_of_mem _ hp')) hs.2 (fun p hp' => hss p (List.mem_cons_of_mem _ hp')) hv
    have h3 : aop P y fr σ fun f s => aop P x f s fun f' s' => (∀ o, y.i.at? = some o → keepO (ev fr o) σ s') ∧
        (((x.i.quiet = true → s' = σ) ∧ ∀ t ∈ nd, (∀ p ∈ (j, []) :: pre, ∀ y, l[p.1]? = some y → y.dst ≠ some t) → keepO (getS fr t) σ s') ∧ adraw P l (pre ++ post) f' s' K) := by
      refine hk fr σ _ (fun _ _ => rfl) (fun o _ => (by unfold keepO; split <;> trivial)) (aop_mono (fun f' s' hh => ?_) ih)
      refine ⟨fun o ho => ?_, ⟨hh.1.1, fun t ht hno => ?_⟩, hh.2⟩
      · cases o with
        | lit a =>
          rw [ho] at hat
          cases a <;> first | trivial | simp at hat
        | tmp t =>
          rw [ho] at hat
          simp only [Bool.or_eq_true, List.contains_iff_mem] at hat
          rcases hat with hq | hm
          · rw [hh.1.1 hq]; simp only [keepO]; split <;> trivial
          · have h4 := hh.1.2 t hm fun p hp' z hz => by
              have := hs.1 p hp' y z hy hz
              simp only [stays, ho, Bool.and_eq_true] at this
              have := this.1
              simpa using this
            have h5 : y.dst ≠ some t := by
              simp only [stays, ho, Bool.and_eq_true] at hyy
              simpa using hyy.1
            rw [getS_aput, if_neg h5] at h4
            exact h4
      · have h4 := hh.1.2 t ht fun p hp' z hz => hno p (List.mem_cons_of_mem _ hp') z hz
        rw [getS_aput, if_neg (hno (j, []) List.mem_cons_self y hy)] at h4
        exact h4
    have hKK : FE fun f' s' => ((x.i.quiet = true → s' = σ) ∧ ∀ t ∈ nd, (∀ p ∈ (j, []) :: pre, ∀ y, l[p.1]? = some y → y.dst ≠ some t) → keepO (getS fr t) σ s') ∧ adraw P l (pre ++ post) f' s' K :=
      fun f f' s he hh => ⟨hh.1, adraw_fe hK _ _ _ _ he hh.2⟩
    refine aop_mono (fun f s hh => ?_) (swap hps hKK h3)
    obtain ⟨v', hv', _⟩ := aop_quiet hyq hh
    refine ⟨hv'.1, ?_⟩
    simp only [List.cons_append, adraw, hy, keeps]
    exact aop_mono (fun f' s' h' => h'.2) hh
end Go.AW

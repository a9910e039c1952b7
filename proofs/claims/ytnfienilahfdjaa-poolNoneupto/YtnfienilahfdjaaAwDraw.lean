/- Operations that only reckon: what they come to does not hang on their place among the others. -/
import Derived.Test.YtnfienilahfdjaaAwBase
import Derived.Test.YtnfienilahfdjaaAwSndR
import Derived.Test.YtnfienilahfdjaaAwSnd3
import Derived.Sort.LoopGhostIn
import Derived.RangeFuncRecord
set_option linter.all false
set_option linter.unusedSimpArgs false
set_option linter.unusedVariables false
namespace Go.AW
variable {P : Program}

theorem YCall.mono {P : Program} {l : Nat} {as0 : List AV} {σ : List AObj} {K K' : AV → List AObj → Prop} (hk : ∀ r s, K r s → K' r s) (h : YCall P l as0 σ K) : YCall P l as0 σ K' := fun L w vs S hv => by
  obtain ⟨fn, tmps, assign, body, h1, h2⟩ := h L w vs S hv
  refine ⟨fn, tmps, assign, body, h1, h2.mono fun e w' he => ?_⟩
  cases e with
  | returned v => obtain ⟨L', σ', r, s, S', hr, hK⟩ := he; exact ⟨L', σ', r, s, S', hr, hk r σ' hK⟩
  | panicked ch => exact he
  | outgrown => exact he
theorem ACall.mono0 {f : FuncId} {as0 : List AV} {σ : List AObj} {K K' : AV → List AObj → Prop} (hk : ∀ r σ', K r σ' → K' r σ') (h : ACall P f as0 σ K) : ACall P f as0 σ K' :=
  ⟨h.1, fun L w vs S hv => Calls.mono (h.2 L w vs S hv) fun e w' he => by
    cases e with
    | returned v => obtain ⟨L', σ', r, a, b, c, d⟩ := he; exact ⟨L', σ', r, a, b, c, hk _ _ d⟩
    | panicked _ => exact he
    | outgrown => exact he⟩

theorem binA_mono {op : BinOp} {e : EK} {x y : AV} {K K' : AV → Prop} (hk : ∀ a, K a → K' a) (h : binA op e x y K) : binA op e x y K' := by
  unfold binA at *
  repeat' split at h
  all_goals (first | exact h.elim | exact hk _ h | exact ⟨h.1, hk _ h.2⟩ | exact ⟨h.1, h.2.1, hk _ h.2.2⟩ | skip)
  all_goals (simp only [*]; try exact ⟨h.1, hk _ h.2⟩)
  all_goals grind
theorem boxC_mono (x : AV) {σ : List AObj} {K K' : KT} (hk : ∀ a s, K a s → K' a s) (h : boxC x σ K) : boxC x σ K' := by
  unfold boxC at *
  repeat' split at h
  all_goals (first | exact h.elim | skip)
  all_goals (revert h; try simp only [*, if_true, if_false, Bool.false_eq_true, reduceIte, ite_true, ite_false])
  all_goals (intro h)
  all_goals (repeat (refine ⟨h.1, ?_⟩; replace h := h.2))
  all_goals (first | exact hk _ _ h | exact h.elim)
theorem buildC_mono (o : Option (List AV)) {σ : List AObj} {K K' : KT} (hk : ∀ a s, K a s → K' a s) (h : buildC o σ K) : buildC o σ K' := by
  unfold buildC at *
  repeat' split at h
  all_goals (first | exact h.elim | skip)
  all_goals (revert h; try simp only [*, if_true, if_false, Bool.false_eq_true, reduceIte, ite_true, ite_false])
  all_goals (intro h)
  all_goals (repeat (refine ⟨h.1, ?_⟩; replace h := h.2))
  all_goals (first | exact hk _ _ h | exact h.elim)
theorem mksliceC_mono (mu : Bool) (s n : Nat) (o : Option (List AV)) {σ : List AObj} {K K' : KT} (hk : ∀ a s, K a s → K' a s) (h : mksliceC mu s n o σ K) : mksliceC mu s n o σ K' := by
  unfold mksliceC at *
  repeat' split at h
  all_goals (first | exact h.elim | skip)
  all_goals (revert h; try simp only [*, if_true, if_false, Bool.false_eq_true, reduceIte, ite_true, ite_false])
  all_goals (intro h)
  all_goals (repeat (refine ⟨h.1, ?_⟩; replace h := h.2))
  all_goals (first | exact hk _ _ h | exact h.elim)
theorem loadC_mono (agg : Bool) (n : Nat) (x : AV) {σ : List AObj} {K K' : KT} (hk : ∀ a s, K a s → K' a s) (h : loadC agg n x σ K) : loadC agg n x σ K' := by
  unfold loadC at *
  repeat' split at h
  all_goals (first | exact h.elim | skip)
  all_goals (revert h; try simp only [*, if_true, if_false, Bool.false_eq_true, reduceIte, ite_true, ite_false])
  all_goals (intro h)
  all_goals (repeat (refine ⟨h.1, ?_⟩; replace h := h.2))
  all_goals (first | exact hk _ _ h | exact h.elim)
theorem storeC_mono (n : Nat) (x y : AV) {σ : List AObj} {K K' : KT} (hk : ∀ a s, K a s → K' a s) (h : storeC n x y σ K) : storeC n x y σ K' := by
  unfold storeC at *
  repeat' split at h
  all_goals (first | exact h.elim | skip)
  all_goals (revert h; try simp only [*, if_true, if_false, Bool.false_eq_true, reduceIte, ite_true, ite_false])
  all_goals (intro h)
  all_goals (repeat (refine ⟨h.1, ?_⟩; replace h := h.2))
  all_goals (first | exact hk _ _ h | exact h.elim)
theorem nilC_mono (x : AV) {σ : List AObj} {K K' : KT} (hk : ∀ a s, K a s → K' a s) (h : nilC x σ K) : nilC x σ K' := by
  unfold nilC at *
  repeat' split at h
  all_goals (first | exact h.elim | skip)
  all_goals (revert h; try simp only [*, if_true, if_false, Bool.false_eq_true, reduceIte, ite_true, ite_false])
  all_goals (intro h)
  all_goals (repeat (refine ⟨h.1, ?_⟩; replace h := h.2))
  all_goals (first | exact hk _ _ h | exact h.elim)
theorem convC_mono (c : CK) (x : AV) {σ : List AObj} {K K' : KT} (hk : ∀ a s, K a s → K' a s) (h : convC c x σ K) : convC c x σ K' := by
  unfold convC at *
  repeat' split at h
  all_goals (first | exact h.elim | skip)
  all_goals (revert h; try simp only [*, if_true, if_false, Bool.false_eq_true, reduceIte, ite_true, ite_false])
  all_goals (intro h)
  all_goals (repeat (refine ⟨h.1, ?_⟩; replace h := h.2))
  all_goals (first | exact hk _ _ h | exact h.elim)
theorem slcC_mono (k : SK) (x : AV) (lo hi mx : Option AV) {σ : List AObj} {K K' : KT} (hk : ∀ a s, K a s → K' a s) (h : slcC k x lo hi mx σ K) : slcC k x lo hi mx σ K' := by
  unfold slcC at *
  repeat' split at h
  all_goals (first | exact h.elim | skip)
  all_goals (revert h; try simp only [*, if_true, if_false, Bool.false_eq_true, reduceIte, ite_true, ite_false])
  all_goals (intro h)
  all_goals (repeat (refine ⟨h.1, ?_⟩; replace h := h.2))
  all_goals (first | exact hk _ _ h | exact h.elim)
theorem faddrC_mono (off : Nat) (x : AV) {σ : List AObj} {K K' : KT} (hk : ∀ a s, K a s → K' a s) (h : faddrC off x σ K) : faddrC off x σ K' := by
  unfold faddrC at *
  repeat' split at h
  all_goals (first | exact h.elim | skip)
  all_goals (revert h; try simp only [*, if_true, if_false, Bool.false_eq_true, reduceIte, ite_true, ite_false])
  all_goals (intro h)
  all_goals (repeat (refine ⟨h.1, ?_⟩; replace h := h.2))
  all_goals (first | exact hk _ _ h | exact h.elim)
theorem fieldC_mono (agg : Bool) (off n : Nat) (x : AV) {σ : List AObj} {K K' : KT} (hk : ∀ a s, K a s → K' a s) (h : fieldC agg off n x σ K) : fieldC agg off n x σ K' := by
  unfold fieldC at *
  repeat' split at h
  all_goals (first | exact h.elim | skip)
  all_goals (revert h; try simp only [*, if_true, if_false, Bool.false_eq_true, reduceIte, ite_true, ite_false])
  all_goals (intro h)
  all_goals (repeat (refine ⟨h.1, ?_⟩; replace h := h.2))
  all_goals (first | exact hk _ _ h | exact h.elim)
theorem iaddrC_mono (arr : Option Nat) (sz : Nat) (x i : AV) {σ : List AObj} {K K' : KT} (hk : ∀ a s, K a s → K' a s) (h : iaddrC arr sz x i σ K) : iaddrC arr sz x i σ K' := by
  unfold iaddrC at *
  repeat' split at h
  all_goals (first | exact h.elim | skip)
  all_goals (revert h; try simp only [*, if_true, if_false, Bool.false_eq_true, reduceIte, ite_true, ite_false])
  all_goals (intro h)
  all_goals (repeat (refine ⟨h.1, ?_⟩; replace h := h.2))
  all_goals (first | exact hk _ _ h | exact h.elim)
theorem idxSC_mono (x i : AV) {σ : List AObj} {K K' : KT} (hk : ∀ a s, K a s → K' a s) (h : idxSC x i σ K) : idxSC x i σ K' := by
  unfold idxSC at *
  repeat' split at h
  all_goals (first | exact h.elim | skip)
  all_goals (revert h; try simp only [*, if_true, if_false, Bool.false_eq_true, reduceIte, ite_true, ite_false])
  all_goals (intro h)
  all_goals (repeat (refine ⟨h.1, ?_⟩; replace h := h.2))
  all_goals (first | exact hk _ _ h | exact h.elim)
theorem idxAC_mono (agg : Bool) (n sz : Nat) (x i : AV) {σ : List AObj} {K K' : KT} (hk : ∀ a s, K a s → K' a s) (h : idxAC agg n sz x i σ K) : idxAC agg n sz x i σ K' := by
  unfold idxAC at *
  repeat' split at h
  all_goals (first | exact h.elim | skip)
  all_goals (revert h; try simp only [*, if_true, if_false, Bool.false_eq_true, reduceIte, ite_true, ite_false])
  all_goals (intro h)
  all_goals (repeat (refine ⟨h.1, ?_⟩; replace h := h.2))
  all_goals (first | exact hk _ _ h | exact h.elim)
theorem extractC_mono (x : AV) (k : Nat) {σ : List AObj} {K K' : KT} (hk : ∀ a s, K a s → K' a s) (h : extractC x k σ K) : extractC x k σ K' := by
  unfold extractC at *
  repeat' split at h
  all_goals (first | exact h.elim | skip)
  all_goals (revert h; try simp only [*, if_true, if_false, Bool.false_eq_true, reduceIte, ite_true, ite_false])
  all_goals (intro h)
  all_goals (repeat (refine ⟨h.1, ?_⟩; replace h := h.2))
  all_goals (first | exact hk _ _ h | exact h.elim)
theorem lenC_mono (k : LK) (x : AV) {σ : List AObj} {K K' : KT} (hk : ∀ a s, K a s → K' a s) (h : lenC k x σ K) : lenC k x σ K' := by
  unfold lenC at *
  repeat' split at h
  all_goals (first | exact h.elim | skip)
  all_goals (revert h; try simp only [*, if_true, if_false, Bool.false_eq_true, reduceIte, ite_true, ite_false])
  all_goals (intro h)
  all_goals (repeat (refine ⟨h.1, ?_⟩; replace h := h.2))
  all_goals (first | exact hk _ _ h | exact h.elim)
theorem appendC_mono (sz bytes : Nat) (x y : AV) {σ : List AObj} {K K' : KT} (hk : ∀ a s, K a s → K' a s) (h : appendC sz bytes x y σ K) : appendC sz bytes x y σ K' := by
  unfold appendC at *
  repeat' split at h
  all_goals (first | exact h.elim | skip)
  all_goals (revert h; try simp only [*, if_true, if_false, Bool.false_eq_true, reduceIte, ite_true, ite_false])
  all_goals (intro h)
  all_goals (repeat (refine ⟨h.1, ?_⟩; replace h := h.2))
  all_goals (first | exact hk _ _ h | exact h.elim)
theorem growC_mono (sz bytes : Nat) (x : AV) (m : Nat) (ys : List AV) {σ : List AObj} {K K' : KT} (hk : ∀ a s, K a s → K' a s) (h : growC sz bytes x m ys σ K) : growC sz bytes x m ys σ K' := by
  unfold growC at *
  repeat' split at h
  all_goals (first | exact h.elim | skip)
  all_goals (revert h; try simp only [*, if_true, if_false, Bool.false_eq_true, reduceIte, ite_true, ite_false])
  all_goals (intro h)
  all_goals (repeat (refine ⟨h.1, ?_⟩; replace h := h.2))
  all_goals (first | exact hk _ _ h | exact h.elim)
theorem appendRC_mono (sz bytes : Nat) (x y : AV) {σ : List AObj} {K K' : KT} (hk : ∀ a s, K a s → K' a s) (h : appendRC sz bytes x y σ K) : appendRC sz bytes x y σ K' := by
  unfold appendRC at *
  split at h
  · split at h
    · exact ⟨h.1, h.2.1, h.2.2.1, growC_mono _ _ _ _ _ hk h.2.2.2⟩
    · exact h.elim
  · split at h
    · exact ⟨h.1, growC_mono _ _ _ _ _ hk h.2⟩
    · exact h.elim
theorem capC_mono (x : AV) {σ : List AObj} {K K' : KT} (hk : ∀ a s, K a s → K' a s) (h : capC x σ K) : capC x σ K' := by
  unfold capC at *
  split at h
  · exact hk _ _ h
  · exact h.elim
theorem appzC_mono (sz bytes : Nat) (z : List AV) (x n : AV) {σ : List AObj} {K K' : KT} (hk : ∀ a s, K a s → K' a s) (h : appzC sz bytes z x n σ K) : appzC sz bytes z x n σ K' := by
  unfold appzC at *
  split at h
  · exact ⟨h.1, growC_mono _ _ _ _ _ hk h.2⟩
  · exact h.elim
theorem maxC_mono (xs : List AV) {σ : List AObj} {K K' : KT} (hk : ∀ a s, K a s → K' a s) (h : maxC xs σ K) : maxC xs σ K' := by
  unfold maxC at *
  repeat' split at h
  all_goals (first | exact h.elim | skip)
  all_goals (revert h; try simp only [*, if_true, if_false, Bool.false_eq_true, reduceIte, ite_true, ite_false])
  all_goals (intro h)
  all_goals (repeat (refine ⟨h.1, ?_⟩; replace h := h.2))
  all_goals (first | exact hk _ _ h | exact h.elim)
theorem minC_mono (xs : List AV) {σ : List AObj} {K K' : KT} (hk : ∀ a s, K a s → K' a s) (h : minC xs σ K) : minC xs σ K' := by
  unfold minC at *
  repeat' split at h
  all_goals (first | exact h.elim | skip)
  all_goals (revert h; try simp only [*, if_true, if_false, Bool.false_eq_true, reduceIte, ite_true, ite_false])
  all_goals (intro h)
  all_goals (repeat (refine ⟨h.1, ?_⟩; replace h := h.2))
  all_goals (first | exact hk _ _ h | exact h.elim)
theorem rangeC_mono (x : AV) {σ : List AObj} {K K' : KT} (hk : ∀ a s, K a s → K' a s) (h : rangeC x σ K) : rangeC x σ K' := by
  unfold rangeC at *
  repeat' split at h
  all_goals (first | exact h.elim | skip)
  all_goals (revert h; try simp only [*, if_true, if_false, Bool.false_eq_true, reduceIte, ite_true, ite_false])
  all_goals (intro h)
  all_goals (repeat (refine ⟨h.1, ?_⟩; replace h := h.2))
  all_goals (first | exact hk _ _ h | exact h.elim)
theorem rangeMC_mono (x : AV) {σ : List AObj} {K K' : KT} (hk : ∀ a s, K a s → K' a s) (h : rangeMC x σ K) : rangeMC x σ K' := by
  unfold rangeMC at *
  split at h
  · split at h
    · exact fun c bs h1 h2 => hk _ _ (h c bs h1 h2)
    · exact h.elim
  · exact hk _ _ h
  · exact h.elim
theorem nextMC_mono (x : AV) {σ : List AObj} {K K' : KT} (hk : ∀ a s, K a s → K' a s) (h : nextMC x σ K) : nextMC x σ K' := by
  unfold nextMC at *
  split at h
  · split at h
    · exact hk _ _ h
    · split at h
      · exact ⟨h.1, fun h0 => hk _ _ (h.2.1 h0), fun i b e h1 h2 h3 => hk _ _ (h.2.2 i b e h1 h2 h3)⟩
      · exact h.elim
    · exact h.elim
  · exact h.elim
theorem entryMC_mono (x : AV) {σ : List AObj} {K K' : KT} (hk : ∀ a s, K a s → K' a s) (h : entryMC x σ K) : entryMC x σ K' := by
  unfold entryMC at *
  split at h
  · split at h
    · split at h
      · obtain ⟨h0, i, b, e, h1, h2, h3, h4⟩ := h
        exact ⟨h0, i, b, e, h1, h2, h3, hk _ _ h4⟩
      · exact h.elim
    · exact h.elim
  · exact h.elim
theorem nextC_mono (x : AV) {σ : List AObj} {K K' : KT} (hk : ∀ a s, K a s → K' a s) (h : nextC x σ K) : nextC x σ K' := by
  unfold nextC at *
  repeat' split at h
  all_goals (first | exact h.elim | skip)
  all_goals (revert h; try simp only [*, if_true, if_false, Bool.false_eq_true, reduceIte, ite_true, ite_false])
  all_goals (intro h)
  all_goals (repeat (refine ⟨h.1, ?_⟩; replace h := h.2))
  all_goals (first | exact hk _ _ h | exact h.elim)
theorem isnilC_mono (neg : Bool) (x : AV) {σ : List AObj} {K K' : KT} (hk : ∀ a s, K a s → K' a s) (h : isnilC neg x σ K) : isnilC neg x σ K' := by
  unfold isnilC at *
  repeat' split at h
  all_goals (first | exact h.elim | exact ⟨hk _ _ h.1, hk _ _ h.2⟩ | exact hk _ _ h | exact ⟨fun e => ⟨hk _ _ (h.1 e).1, hk _ _ (h.1 e).2⟩, fun e => hk _ _ (h.2 e)⟩)
theorem mgetC_mono (kk : KK) (ok : Bool) (z m k : AV) {σ : List AObj} {K K' : KT} (hk : ∀ a s, K a s → K' a s) (h : mgetC kk ok z m k σ K) : mgetC kk ok z m k σ K' := by
  unfold mgetC at *
  split at h
  · refine ⟨h.1, ?_⟩
    replace h := h.2
    split at h <;> first | exact hk _ _ h | exact h.elim
  · exact h.elim
theorem msetC_mono (kk : KK) (m k x : AV) {σ : List AObj} {K K' : KT} (hk : ∀ a s, K a s → K' a s) (h : msetC kk m k x σ K) : msetC kk m k x σ K' := by
  unfold msetC at *
  split at h
  · split at h
    · refine ⟨h.1, ?_⟩
      replace h := h.2
      split at h <;> first | exact hk _ _ h | exact h.elim
    · exact h.elim
  · exact h.elim
theorem mdelC_mono (kk : KK) (m k : AV) {σ : List AObj} {K K' : KT} (hk : ∀ a s, K a s → K' a s) (h : mdelC kk m k σ K) : mdelC kk m k σ K' := by
  unfold mdelC at *
  split at h
  · split at h
    · refine ⟨h.1, ?_⟩
      replace h := h.2
      split at h <;> first | exact hk _ _ h | exact h.elim
    · refine ⟨h.1, ?_⟩
      replace h := h.2
      split at h <;> first | exact hk _ _ h | exact h.elim
    · exact h.elim
  · exact ⟨h.1, hk _ _ h.2⟩
  · exact h.elim
theorem astep_mono {i : I} {fr : Frame} {σ : List AObj} {K K' : KT} (hk : ∀ a s, K a s → K' a s) (h : astep P i fr σ K) : astep P i fr σ K' := by
  cases i <;> simp only [astep] at h ⊢
  case mv => exact hk _ _ h
  case pick => unfold pickC at *; split at h <;> first | exact ⟨fun e => hk _ _ (h.1 e), fun e => hk _ _ (h.2 e)⟩ | exact h
  case alloc => exact hk _ _ h
  case boxi => exact boxC_mono _ hk h
  case build => exact buildC_mono _ hk h
  case mkslice => exact mksliceC_mono _ _ _ _ hk h
  case load => exact loadC_mono _ _ _ hk h
  case store => exact storeC_mono _ _ _ hk h
  case nilchk => exact nilC_mono _ hk h
  case bin => exact binA_mono (fun a => hk a σ) h
  case un => unfold unA at *; split at h <;> first | exact hk _ _ h | exact h
  case conv => exact convC_mono _ _ hk h
  case slc => exact slcC_mono _ _ _ _ _ hk h
  case faddr => exact faddrC_mono _ _ hk h
  case field => exact fieldC_mono _ _ _ _ hk h
  case iaddr => exact iaddrC_mono _ _ _ _ hk h
  case idxS => exact idxSC_mono _ _ hk h
  case idxA => exact idxAC_mono _ _ _ _ _ hk h
  case extract => exact extractC_mono _ _ hk h
  case len => exact lenC_mono _ _ hk h
  case append mu _ _ _ _ _ =>
    cases mu
    · exact appendC_mono _ _ _ _ hk h
    · exact appendRC_mono _ _ _ _ hk h
  case maxi => exact maxC_mono _ hk h
  case mini => exact minC_mono _ hk h
  case rangeS => exact rangeC_mono _ hk h
  case nextS => exact nextC_mono _ hk h
  case rangeM => exact rangeMC_mono _ hk h
  case nextM => exact nextMC_mono _ hk h
  case entryM => exact entryMC_mono _ hk h
  case isnil => exact isnilC_mono _ _ hk h
  case mkmap => exact hk _ _ h
  case mget => exact mgetC_mono _ _ _ _ _ hk h
  case mset => exact msetC_mono _ _ _ _ hk h
  case mdel => exact mdelC_mono _ _ _ hk h
  case call raw _ _ => cases raw <;> exact ACall.mono0 hk h
  case callv => unfold callvC at *; split at h <;> first | exact ACall.mono0 hk h | exact YCall.mono hk h | exact h
  case mkfn => exact hk _ _ h
  case cap => exact capC_mono _ hk h
  case appz => exact appzC_mono _ _ _ _ _ hk h

def Opd.slots : Opd → List Nat
  | .tmp t => [t]
  | .lit _ => []
def osl : Option Opd → List Nat
  | some x => x.slots
  | none => []
def lsl (l : List Opd) : List Nat := l.flatMap Opd.slots
def psl (l : List (Nat × Nat × Opd)) : List Nat := l.flatMap fun p => p.2.2.slots
def I.reads : I → List Nat
  | .mv x | .boxi x | .load _ _ x | .nilchk x | .un _ x | .conv _ x | .faddr _ x | .field _ _ _ x | .extract x _ | .len _ x | .rangeS x | .nextS x | .rangeM x | .nextM x | .entryM x | .isnil _ x | .cap x => x.slots
  | .bad => []
  | .appz _ _ _ x n => x.slots ++ n.slots
  | .mkmap => []
  | .mget _ _ _ m k => m.slots ++ k.slots
  | .mset _ m k x => m.slots ++ k.slots ++ x.slots
  | .mdel _ m k => m.slots ++ k.slots
  | .pick c a b => c.slots ++ a.slots ++ b.slots
  | .alloc _ => []
  | .build _ ps => psl ps
  | .mkslice _ _ _ _ ps => psl ps
  | .store _ a x => a.slots ++ x.slots
  | .bin _ _ x y => x.slots ++ y.slots
  | .slc _ x lo hi mx => x.slots ++ osl lo ++ osl hi ++ osl mx
  | .iaddr _ _ x i => x.slots ++ i.slots
  | .idxS x i => x.slots ++ i.slots
  | .idxA _ _ _ x i => x.slots ++ i.slots
  | .append _ _ _ _ x y => x.slots ++ y.slots
  | .maxi xs => lsl xs
  | .mini xs => lsl xs
  | .call _ _ xs => lsl xs
  | .callv f xs => f.slots ++ lsl xs
  | .mkfn _ xs ys => lsl xs ++ lsl ys
def Ai.reads (x : Ai) : List Nat :=
  match x.g with
  | some (s, _) => s :: x.i.reads
  | none => x.i.reads

theorem ev_ext {fr fr' : Frame} {x : Opd} (h : ∀ t ∈ x.slots, getS fr t = getS fr' t) : ev fr x = ev fr' x := by
  cases x with
  | tmp t => exact h t (by simp [Opd.slots])
  | lit a => rfl
theorem oev_ext {fr fr' : Frame} {x : Option Opd} (h : ∀ t ∈ osl x, getS fr t = getS fr' t) : x.map (ev fr) = x.map (ev fr') := by
  cases x with
  | none => rfl
  | some x => simp only [Option.map_some]; rw [ev_ext h]
theorem lev_ext {fr fr' : Frame} {l : List Opd} (h : ∀ t ∈ lsl l, getS fr t = getS fr' t) : l.map (ev fr) = l.map (ev fr') :=
  List.map_congr_left fun x hx => ev_ext fun t ht => h t (List.mem_flatMap.2 ⟨x, hx, ht⟩)
theorem fillA_ext {fr fr' : Frame} : ∀ {l : List (Nat × Nat × Opd)} {cs : List AV}, (∀ t ∈ psl l, getS fr t = getS fr' t) → fillA fr cs l = fillA fr' cs l
  | [], _, _ => rfl
  | (off, s, x) :: l, cs, h => by
    have e : ev fr x = ev fr' x := ev_ext fun t ht => h t (by simp [psl, ht])
    simp only [fillA]
    rw [e]
    split
    · split
      · exact fillA_ext fun t ht => h t (by simp only [psl, List.flatMap_cons, List.mem_append] at ht ⊢; exact .inr ht)
      · rfl
    · rfl

theorem astep_ext {i : I} {fr fr' : Frame} {σ : List AObj} {K : KT} (h : ∀ t ∈ i.reads, getS fr t = getS fr' t) : astep P i fr σ K = astep P i fr' σ K := by
  cases i <;> simp only [astep, I.reads, List.mem_append] at h ⊢
  case mv x => rw [ev_ext h]
  case boxi x => rw [ev_ext h]
  case load x => rw [ev_ext h]
  case nilchk x => rw [ev_ext h]
  case un x => rw [ev_ext h]
  case conv x => rw [ev_ext h]
  case faddr x => rw [ev_ext h]
  case field x => rw [ev_ext h]
  case extract x => rw [ev_ext h]
  case len x => rw [ev_ext h]
  case rangeS x => rw [ev_ext h]
  case nextS x => rw [ev_ext h]
  case rangeM x => rw [ev_ext h]
  case nextM x => rw [ev_ext h]
  case entryM x => rw [ev_ext h]
  case isnil x => rw [ev_ext h]
  case cap x => rw [ev_ext h]
  case appz x n => rw [ev_ext (x := x) fun t ht => h t (.inl ht), ev_ext (x := n) fun t ht => h t (.inr ht)]
  case mget m k => rw [ev_ext (x := m) fun t ht => h t (.inl ht), ev_ext (x := k) fun t ht => h t (.inr ht)]
  case mset m k x => rw [ev_ext (x := m) fun t ht => h t (.inl (.inl ht)), ev_ext (x := k) fun t ht => h t (.inl (.inr ht)), ev_ext (x := x) fun t ht => h t (.inr ht)]
  case mdel m k => rw [ev_ext (x := m) fun t ht => h t (.inl ht), ev_ext (x := k) fun t ht => h t (.inr ht)]
  case pick c a b => rw [ev_ext (x := c) fun t ht => h t (.inl (.inl ht)), ev_ext (x := a) fun t ht => h t (.inl (.inr ht)), ev_ext (x := b) fun t ht => h t (.inr ht)]
  case build => rw [fillA_ext h]
  case mkslice => rw [fillA_ext h]
  case store a x => rw [ev_ext (x := a) fun t ht => h t (.inl ht), ev_ext (x := x) fun t ht => h t (.inr ht)]
  case bin x y => rw [ev_ext (x := x) fun t ht => h t (.inl ht), ev_ext (x := y) fun t ht => h t (.inr ht)]
  case slc x lo hi mx => rw [ev_ext (x := x) fun t ht => h t (.inl (.inl (.inl ht))), oev_ext (x := lo) fun t ht => h t (.inl (.inl (.inr ht))), oev_ext (x := hi) fun t ht => h t (.inl (.inr ht)), oev_ext (x := mx) fun t ht => h t (.inr ht)]
  case iaddr x y => rw [ev_ext (x := x) fun t ht => h t (.inl ht), ev_ext (x := y) fun t ht => h t (.inr ht)]
  case idxS x y => rw [ev_ext (x := x) fun t ht => h t (.inl ht), ev_ext (x := y) fun t ht => h t (.inr ht)]
  case idxA x y => rw [ev_ext (x := x) fun t ht => h t (.inl ht), ev_ext (x := y) fun t ht => h t (.inr ht)]
  case append x y => rw [ev_ext (x := x) fun t ht => h t (.inl ht), ev_ext (x := y) fun t ht => h t (.inr ht)]
  case maxi => rw [lev_ext h]
  case mini => rw [lev_ext h]
  case call raw f xs =>
    have : xs.map (fun x => dm (ev fr x)) = xs.map (fun x => dm (ev fr' x)) := by
      have := congrArg (List.map dm) (lev_ext h)
      simpa [List.map_map, Function.comp_def] using this
    rw [this, lev_ext h]
  case callv f xs =>
    have : xs.map (fun x => dm (ev fr x)) = xs.map (fun x => dm (ev fr' x)) := by
      have := congrArg (List.map dm) (lev_ext (l := xs) fun t ht => h t (.inr ht))
      simpa [List.map_map, Function.comp_def] using this
    rw [this, ev_ext (x := f) fun t ht => h t (.inl ht)]
  case mkfn f xs ys => rw [lev_ext (l := xs) fun t ht => h t (.inl ht), lev_ext (l := ys) fun t ht => h t (.inr ht)]

def I.quiet : I → Bool
  | .mv _ | .pick .. | .build .. | .mkslice false .. | .load .. | .nilchk _ | .bin .. | .un .. | .conv .. | .slc .. | .faddr .. | .field .. | .iaddr .. | .idxS .. | .idxA .. | .extract .. | .maxi _ | .mini _ | .mget .. => true
  | .len k _ => match k with | .map => false | _ => true
  | _ => false
def I.at? : I → Option Opd
  | .load _ _ x => some x
  | .mget _ _ _ m _ => some m
  | _ => none
def keepO (a : AV) (σ σ' : List AObj) : Prop :=
  match a with
  | .box id _ => σ'[id]? = σ[id]?
  | .map id => σ'[id]? = σ[id]?
  | .rpt t _ _ => σ'[t]? = σ[t]?
  | _ => True

theorem binA_quiet {op : BinOp} {e : EK} {x y : AV} {K : AV → Prop} (h : binA op e x y K) : ∃ v, K v ∧ ∀ K' : AV → Prop, K' v → binA op e x y K' := by
  unfold binA at *
  repeat' split at h
  all_goals (first | exact h.elim | exact h.2.elim | exact ⟨_, h, fun _ h' => h'⟩ | exact ⟨_, h.2, fun _ h' => ⟨h.1, h'⟩⟩ | exact ⟨_, h.2.2, fun _ h' => ⟨h.1, h.2.1, h'⟩⟩ | skip)
  all_goals (simp only [*] at h ⊢)
  all_goals (first | exact ⟨_, h, fun _ h' => h'⟩ | exact ⟨_, h.2, fun _ h' => ⟨h.1, h'⟩⟩ | skip)
theorem buildC_quiet (o : Option (List AV)) {σ : List AObj} {K : KT} (h : buildC o σ K) : ∃ v, K v σ ∧ ∀ (σ' : List AObj) (K' : KT), K' v σ' → buildC o σ' K' := by
  unfold buildC at *
  repeat' split at h
  all_goals (first | exact h.elim | skip)
  all_goals (revert h; try simp only [*, if_true, if_false, Bool.false_eq_true, reduceIte, ite_true, ite_false])
  all_goals (intro h)
  all_goals (first | exact h.2.elim | exact h.2.2.elim | exact ⟨_, h, fun _ _ h' => h'⟩ | exact ⟨_, h.2, fun _ _ h' => ⟨h.1, h'⟩⟩ | exact ⟨_, h.2.2, fun _ _ h' => ⟨h.1, h.2.1, h'⟩⟩ | exact ⟨_, h.2.2.2, fun _ _ h' => ⟨h.1, h.2.1, h.2.2.1, h'⟩⟩ | exact ⟨_, h.2.2.2.2, fun _ _ h' => ⟨h.1, h.2.1, h.2.2.1, h.2.2.2.1, h'⟩⟩ | exact ⟨_, h.2.2.2.2.2, fun _ _ h' => ⟨h.1, h.2.1, h.2.2.1, h.2.2.2.1, h.2.2.2.2.1, h'⟩⟩ | exact ⟨_, h.2.2.2.2.2.2, fun _ _ h' => ⟨h.1, h.2.1, h.2.2.1, h.2.2.2.1, h.2.2.2.2.1, h.2.2.2.2.2.1, h'⟩⟩)
theorem nilC_quiet (x : AV) {σ : List AObj} {K : KT} (h : nilC x σ K) : ∃ v, K v σ ∧ ∀ (σ' : List AObj) (K' : KT), K' v σ' → nilC x σ' K' := by
  unfold nilC at *
  repeat' split at h
  all_goals (first | exact h.elim | skip)
  all_goals (revert h; try simp only [*, if_true, if_false, Bool.false_eq_true, reduceIte, ite_true, ite_false])
  all_goals (intro h)
  all_goals (first | exact h.2.elim | exact h.2.2.elim | exact ⟨_, h, fun _ _ h' => h'⟩ | exact ⟨_, h.2, fun _ _ h' => ⟨h.1, h'⟩⟩ | exact ⟨_, h.2.2, fun _ _ h' => ⟨h.1, h.2.1, h'⟩⟩ | exact ⟨_, h.2.2.2, fun _ _ h' => ⟨h.1, h.2.1, h.2.2.1, h'⟩⟩ | exact ⟨_, h.2.2.2.2, fun _ _ h' => ⟨h.1, h.2.1, h.2.2.1, h.2.2.2.1, h'⟩⟩ | exact ⟨_, h.2.2.2.2.2, fun _ _ h' => ⟨h.1, h.2.1, h.2.2.1, h.2.2.2.1, h.2.2.2.2.1, h'⟩⟩ | exact ⟨_, h.2.2.2.2.2.2, fun _ _ h' => ⟨h.1, h.2.1, h.2.2.1, h.2.2.2.1, h.2.2.2.2.1, h.2.2.2.2.2.1, h'⟩⟩)
theorem convC_quiet (c : CK) (x : AV) {σ : List AObj} {K : KT} (h : convC c x σ K) : ∃ v, K v σ ∧ ∀ (σ' : List AObj) (K' : KT), K' v σ' → convC c x σ' K' := by
  unfold convC at *
  repeat' split at h
  all_goals (first | exact h.elim | skip)
  all_goals (revert h; try simp only [*, if_true, if_false, Bool.false_eq_true, reduceIte, ite_true, ite_false])
  all_goals (intro h)
  all_goals (first | exact h.2.elim | exact h.2.2.elim | exact ⟨_, h, fun _ _ h' => h'⟩ | exact ⟨_, h.2, fun _ _ h' => ⟨h.1, h'⟩⟩ | exact ⟨_, h.2.2, fun _ _ h' => ⟨h.1, h.2.1, h'⟩⟩ | exact ⟨_, h.2.2.2, fun _ _ h' => ⟨h.1, h.2.1, h.2.2.1, h'⟩⟩ | exact ⟨_, h.2.2.2.2, fun _ _ h' => ⟨h.1, h.2.1, h.2.2.1, h.2.2.2.1, h'⟩⟩ | exact ⟨_, h.2.2.2.2.2, fun _ _ h' => ⟨h.1, h.2.1, h.2.2.1, h.2.2.2.1, h.2.2.2.2.1, h'⟩⟩ | exact ⟨_, h.2.2.2.2.2.2, fun _ _ h' => ⟨h.1, h.2.1, h.2.2.1, h.2.2.2.1, h.2.2.2.2.1, h.2.2.2.2.2.1, h'⟩⟩)
theorem slcC_quiet (k : SK) (x : AV) (lo hi mx : Option AV) {σ : List AObj} {K : KT} (h : slcC k x lo hi mx σ K) : ∃ v, K v σ ∧ ∀ (σ' : List AObj) (K' : KT), K' v σ' → slcC k x lo hi mx σ' K' := by
  unfold slcC at *
  repeat' split at h
  all_goals (first | exact h.elim | skip)
  all_goals (revert h; try simp only [*, if_true, if_false, Bool.false_eq_true, reduceIte, ite_true, ite_false])
  all_goals (intro h)
  all_goals (first | exact h.2.elim | exact h.2.2.elim | exact ⟨_, h, fun _ _ h' => h'⟩ | exact ⟨_, h.2, fun _ _ h' => ⟨h.1, h'⟩⟩ | exact ⟨_, h.2.2, fun _ _ h' => ⟨h.1, h.2.1, h'⟩⟩ | exact ⟨_, h.2.2.2, fun _ _ h' => ⟨h.1, h.2.1, h.2.2.1, h'⟩⟩ | exact ⟨_, h.2.2.2.2, fun _ _ h' => ⟨h.1, h.2.1, h.2.2.1, h.2.2.2.1, h'⟩⟩ | exact ⟨_, h.2.2.2.2.2, fun _ _ h' => ⟨h.1, h.2.1, h.2.2.1, h.2.2.2.1, h.2.2.2.2.1, h'⟩⟩ | exact ⟨_, h.2.2.2.2.2.2, fun _ _ h' => ⟨h.1, h.2.1, h.2.2.1, h.2.2.2.1, h.2.2.2.2.1, h.2.2.2.2.2.1, h'⟩⟩)
theorem faddrC_quiet (off : Nat) (x : AV) {σ : List AObj} {K : KT} (h : faddrC off x σ K) : ∃ v, K v σ ∧ ∀ (σ' : List AObj) (K' : KT), K' v σ' → faddrC off x σ' K' := by
  unfold faddrC at *
  repeat' split at h
  all_goals (first | exact h.elim | skip)
  all_goals (revert h; try simp only [*, if_true, if_false, Bool.false_eq_true, reduceIte, ite_true, ite_false])
  all_goals (intro h)
  all_goals (first | exact h.2.elim | exact h.2.2.elim | exact ⟨_, h, fun _ _ h' => h'⟩ | exact ⟨_, h.2, fun _ _ h' => ⟨h.1, h'⟩⟩ | exact ⟨_, h.2.2, fun _ _ h' => ⟨h.1, h.2.1, h'⟩⟩ | exact ⟨_, h.2.2.2, fun _ _ h' => ⟨h.1, h.2.1, h.2.2.1, h'⟩⟩ | exact ⟨_, h.2.2.2.2, fun _ _ h' => ⟨h.1, h.2.1, h.2.2.1, h.2.2.2.1, h'⟩⟩ | exact ⟨_, h.2.2.2.2.2, fun _ _ h' => ⟨h.1, h.2.1, h.2.2.1, h.2.2.2.1, h.2.2.2.2.1, h'⟩⟩ | exact ⟨_, h.2.2.2.2.2.2, fun _ _ h' => ⟨h.1, h.2.1, h.2.2.1, h.2.2.2.1, h.2.2.2.2.1, h.2.2.2.2.2.1, h'⟩⟩)
theorem fieldC_quiet (agg : Bool) (off n : Nat) (x : AV) {σ : List AObj} {K : KT} (h : fieldC agg off n x σ K) : ∃ v, K v σ ∧ ∀ (σ' : List AObj) (K' : KT), K' v σ' → fieldC agg off n x σ' K' := by
  unfold fieldC at *
  repeat' split at h
  all_goals (first | exact h.elim | skip)
  all_goals (revert h; try simp only [*, if_true, if_false, Bool.false_eq_true, reduceIte, ite_true, ite_false])
  all_goals (intro h)
  all_goals (first | exact h.2.elim | exact h.2.2.elim | exact ⟨_, h, fun _ _ h' => h'⟩ | exact ⟨_, h.2, fun _ _ h' => ⟨h.1, h'⟩⟩ | exact ⟨_, h.2.2, fun _ _ h' => ⟨h.1, h.2.1, h'⟩⟩ | exact ⟨_, h.2.2.2, fun _ _ h' => ⟨h.1, h.2.1, h.2.2.1, h'⟩⟩ | exact ⟨_, h.2.2.2.2, fun _ _ h' => ⟨h.1, h.2.1, h.2.2.1, h.2.2.2.1, h'⟩⟩ | exact ⟨_, h.2.2.2.2.2, fun _ _ h' => ⟨h.1, h.2.1, h.2.2.1, h.2.2.2.1, h.2.2.2.2.1, h'⟩⟩ | exact ⟨_, h.2.2.2.2.2.2, fun _ _ h' => ⟨h.1, h.2.1, h.2.2.1, h.2.2.2.1, h.2.2.2.2.1, h.2.2.2.2.2.1, h'⟩⟩)
theorem iaddrC_quiet (arr : Option Nat) (sz : Nat) (x i : AV) {σ : List AObj} {K : KT} (h : iaddrC arr sz x i σ K) : ∃ v, K v σ ∧ ∀ (σ' : List AObj) (K' : KT), K' v σ' → iaddrC arr sz x i σ' K' := by
  unfold iaddrC at *
  repeat' split at h
  all_goals (first | exact h.elim | skip)
  all_goals (revert h; try simp only [*, if_true, if_false, Bool.false_eq_true, reduceIte, ite_true, ite_false])
  all_goals (intro h)
  all_goals (first | exact h.2.elim | exact h.2.2.elim | exact ⟨_, h, fun _ _ h' => h'⟩ | exact ⟨_, h.2, fun _ _ h' => ⟨h.1, h'⟩⟩ | exact ⟨_, h.2.2, fun _ _ h' => ⟨h.1, h.2.1, h'⟩⟩ | exact ⟨_, h.2.2.2, fun _ _ h' => ⟨h.1, h.2.1, h.2.2.1, h'⟩⟩ | exact ⟨_, h.2.2.2.2, fun _ _ h' => ⟨h.1, h.2.1, h.2.2.1, h.2.2.2.1, h'⟩⟩ | exact ⟨_, h.2.2.2.2.2, fun _ _ h' => ⟨h.1, h.2.1, h.2.2.1, h.2.2.2.1, h.2.2.2.2.1, h'⟩⟩ | exact ⟨_, h.2.2.2.2.2.2, fun _ _ h' => ⟨h.1, h.2.1, h.2.2.1, h.2.2.2.1, h.2.2.2.2.1, h.2.2.2.2.2.1, h'⟩⟩)
theorem idxSC_quiet (x i : AV) {σ : List AObj} {K : KT} (h : idxSC x i σ K) : ∃ v, K v σ ∧ ∀ (σ' : List AObj) (K' : KT), K' v σ' → idxSC x i σ' K' := by
  unfold idxSC at *
  repeat' split at h
  all_goals (first | exact h.elim | skip)
  all_goals (revert h; try simp only [*, if_true, if_false, Bool.false_eq_true, reduceIte, ite_true, ite_false])
  all_goals (intro h)
  all_goals (first | exact h.2.elim | exact h.2.2.elim | exact ⟨_, h, fun _ _ h' => h'⟩ | exact ⟨_, h.2, fun _ _ h' => ⟨h.1, h'⟩⟩ | exact ⟨_, h.2.2, fun _ _ h' => ⟨h.1, h.2.1, h'⟩⟩ | exact ⟨_, h.2.2.2, fun _ _ h' => ⟨h.1, h.2.1, h.2.2.1, h'⟩⟩ | exact ⟨_, h.2.2.2.2, fun _ _ h' => ⟨h.1, h.2.1, h.2.2.1, h.2.2.2.1, h'⟩⟩ | exact ⟨_, h.2.2.2.2.2, fun _ _ h' => ⟨h.1, h.2.1, h.2.2.1, h.2.2.2.1, h.2.2.2.2.1, h'⟩⟩ | exact ⟨_, h.2.2.2.2.2.2, fun _ _ h' => ⟨h.1, h.2.1, h.2.2.1, h.2.2.2.1, h.2.2.2.2.1, h.2.2.2.2.2.1, h'⟩⟩)
theorem idxAC_quiet (agg : Bool) (n sz : Nat) (x i : AV) {σ : List AObj} {K : KT} (h : idxAC agg n sz x i σ K) : ∃ v, K v σ ∧ ∀ (σ' : List AObj) (K' : KT), K' v σ' → idxAC agg n sz x i σ' K' := by
  unfold idxAC at *
  repeat' split at h
  all_goals (first | exact h.elim | skip)
  all_goals (revert h; try simp only [*, if_true, if_false, Bool.false_eq_true, reduceIte, ite_true, ite_false])
  all_goals (intro h)
  all_goals (first | exact h.2.elim | exact h.2.2.elim | exact ⟨_, h, fun _ _ h' => h'⟩ | exact ⟨_, h.2, fun _ _ h' => ⟨h.1, h'⟩⟩ | exact ⟨_, h.2.2, fun _ _ h' => ⟨h.1, h.2.1, h'⟩⟩ | exact ⟨_, h.2.2.2, fun _ _ h' => ⟨h.1, h.2.1, h.2.2.1, h'⟩⟩ | exact ⟨_, h.2.2.2.2, fun _ _ h' => ⟨h.1, h.2.1, h.2.2.1, h.2.2.2.1, h'⟩⟩ | exact ⟨_, h.2.2.2.2.2, fun _ _ h' => ⟨h.1, h.2.1, h.2.2.1, h.2.2.2.1, h.2.2.2.2.1, h'⟩⟩ | exact ⟨_, h.2.2.2.2.2.2, fun _ _ h' => ⟨h.1, h.2.1, h.2.2.1, h.2.2.2.1, h.2.2.2.2.1, h.2.2.2.2.2.1, h'⟩⟩)
theorem extractC_quiet (x : AV) (k : Nat) {σ : List AObj} {K : KT} (h : extractC x k σ K) : ∃ v, K v σ ∧ ∀ (σ' : List AObj) (K' : KT), K' v σ' → extractC x k σ' K' := by
  unfold extractC at *
  repeat' split at h
  all_goals (first | exact h.elim | skip)
  all_goals (revert h; try simp only [*, if_true, if_false, Bool.false_eq_true, reduceIte, ite_true, ite_false])
  all_goals (intro h)
  all_goals (first | exact h.2.elim | exact h.2.2.elim | exact ⟨_, h, fun _ _ h' => h'⟩ | exact ⟨_, h.2, fun _ _ h' => ⟨h.1, h'⟩⟩ | exact ⟨_, h.2.2, fun _ _ h' => ⟨h.1, h.2.1, h'⟩⟩ | exact ⟨_, h.2.2.2, fun _ _ h' => ⟨h.1, h.2.1, h.2.2.1, h'⟩⟩ | exact ⟨_, h.2.2.2.2, fun _ _ h' => ⟨h.1, h.2.1, h.2.2.1, h.2.2.2.1, h'⟩⟩ | exact ⟨_, h.2.2.2.2.2, fun _ _ h' => ⟨h.1, h.2.1, h.2.2.1, h.2.2.2.1, h.2.2.2.2.1, h'⟩⟩ | exact ⟨_, h.2.2.2.2.2.2, fun _ _ h' => ⟨h.1, h.2.1, h.2.2.1, h.2.2.2.1, h.2.2.2.2.1, h.2.2.2.2.2.1, h'⟩⟩)
theorem maxC_quiet (xs : List AV) {σ : List AObj} {K : KT} (h : maxC xs σ K) : ∃ v, K v σ ∧ ∀ (σ' : List AObj) (K' : KT), K' v σ' → maxC xs σ' K' := by
  unfold maxC at *
  repeat' split at h
  all_goals (first | exact h.elim | skip)
  all_goals (revert h; try simp only [*, if_true, if_false, Bool.false_eq_true, reduceIte, ite_true, ite_false])
  all_goals (intro h)
  all_goals (first | exact h.2.elim | exact h.2.2.elim | exact ⟨_, h, fun _ _ h' => h'⟩ | exact ⟨_, h.2, fun _ _ h' => ⟨h.1, h'⟩⟩ | exact ⟨_, h.2.2, fun _ _ h' => ⟨h.1, h.2.1, h'⟩⟩ | exact ⟨_, h.2.2.2, fun _ _ h' => ⟨h.1, h.2.1, h.2.2.1, h'⟩⟩ | exact ⟨_, h.2.2.2.2, fun _ _ h' => ⟨h.1, h.2.1, h.2.2.1, h.2.2.2.1, h'⟩⟩ | exact ⟨_, h.2.2.2.2.2, fun _ _ h' => ⟨h.1, h.2.1, h.2.2.1, h.2.2.2.1, h.2.2.2.2.1, h'⟩⟩ | exact ⟨_, h.2.2.2.2.2.2, fun _ _ h' => ⟨h.1, h.2.1, h.2.2.1, h.2.2.2.1, h.2.2.2.2.1, h.2.2.2.2.2.1, h'⟩⟩)
theorem minC_quiet (xs : List AV) {σ : List AObj} {K : KT} (h : minC xs σ K) : ∃ v, K v σ ∧ ∀ (σ' : List AObj) (K' : KT), K' v σ' → minC xs σ' K' := by
  unfold minC at *
  repeat' split at h
  all_goals (first | exact h.elim | skip)
  all_goals (revert h; try simp only [*, if_true, if_false, Bool.false_eq_true, reduceIte, ite_true, ite_false])
  all_goals (intro h)
  all_goals (first | exact h.2.elim | exact h.2.2.elim | exact ⟨_, h, fun _ _ h' => h'⟩ | exact ⟨_, h.2, fun _ _ h' => ⟨h.1, h'⟩⟩ | exact ⟨_, h.2.2, fun _ _ h' => ⟨h.1, h.2.1, h'⟩⟩ | exact ⟨_, h.2.2.2, fun _ _ h' => ⟨h.1, h.2.1, h.2.2.1, h'⟩⟩ | exact ⟨_, h.2.2.2.2, fun _ _ h' => ⟨h.1, h.2.1, h.2.2.1, h.2.2.2.1, h'⟩⟩ | exact ⟨_, h.2.2.2.2.2, fun _ _ h' => ⟨h.1, h.2.1, h.2.2.1, h.2.2.2.1, h.2.2.2.2.1, h'⟩⟩ | exact ⟨_, h.2.2.2.2.2.2, fun _ _ h' => ⟨h.1, h.2.1, h.2.2.1, h.2.2.2.1, h.2.2.2.2.1, h.2.2.2.2.2.1, h'⟩⟩)
theorem loadC_quiet (agg : Bool) (n : Nat) (x : AV) {σ : List AObj} {K : KT} (h : loadC agg n x σ K) : ∃ v, K v σ ∧ ∀ (σ' : List AObj) (K' : KT), keepO x σ σ' → K' v σ' → loadC agg n x σ' K' := by
  unfold loadC at h
  split at h
  · rename_i id off
    split at h
    · rename_i cs hcs
      split at h
      · rename_i hg
        exact ⟨_, h.2, fun σ' K' hk h' => by
          have hk' : σ'[id]? = σ[id]? := hk
          simp only [loadC]; rw [hk', hcs]; simp only [hg, if_true]; exact ⟨h.1, h'⟩⟩
      · rename_i hg
        split at h
        · rename_i hv
          exact ⟨_, h, fun σ' K' hk h' => by
            have hk' : σ'[id]? = σ[id]? := hk
            simp only [loadC]; rw [hk', hcs]; simp only [if_neg hg]; rw [hv]; exact h'⟩
        · exact h.elim
    · exact h.elim
  · split at h
    · rename_i hg
      exact ⟨_, h.2, fun σ' K' hk h' => by simp only [loadC, if_pos hg]; exact ⟨h.1, h'⟩⟩
    · rename_i hg
      split at h
      · rename_i hv
        exact ⟨_, h, fun σ' K' hk h' => by simp only [loadC, if_neg hg]; rw [hv]; exact h'⟩
      · exact h.elim
  · rename_i t g off
    split at h
    · rename_i cs hcs
      obtain ⟨hg', h⟩ := h
      split at h
      · rename_i hg
        exact ⟨_, h.2, fun σ' K' hk h' => by
          have hk' : σ'[t]? = σ[t]? := hk
          simp only [loadC]; rw [hk', hcs]; simp only [hg, if_true]; exact ⟨hg', h.1, h'⟩⟩
      · rename_i hg
        split at h
        · rename_i hv
          exact ⟨_, h, fun σ' K' hk h' => by
            have hk' : σ'[t]? = σ[t]? := hk
            simp only [loadC]; rw [hk', hcs]; simp only [if_neg hg]; rw [hv]; exact ⟨hg', h'⟩⟩
        · exact h.elim
    · exact h.elim
  · exact h.elim
theorem mgetC_quiet (kk : KK) (ok : Bool) (z m k : AV) {σ : List AObj} {K : KT} (h : mgetC kk ok z m k σ K) : ∃ v, K v σ ∧ ∀ (σ' : List AObj) (K' : KT), keepO m σ σ' → K' v σ' → mgetC kk ok z m k σ' K' := by
  unfold mgetC at h
  split at h
  · rename_i es hes
    have key : ∀ σ', keepO m σ σ' → entriesOf m σ' = some es := fun σ' hk => by
      cases m with
      | d x => cases x <;> simp only [entriesOf] at hes ⊢ <;> exact hes
      | map id => simp only [entriesOf, keepO] at hes hk ⊢; rw [hk]; exact hes
      | _ => simp only [entriesOf] at hes; cases hes
    obtain ⟨h1, h⟩ := h
    split at h
    · rename_i hf
      exact ⟨_, h, fun σ' K' hk h' => by simp only [mgetC, key σ' hk, hf]; exact ⟨h1, h'⟩⟩
    · rename_i hf
      exact ⟨_, h, fun σ' K' hk h' => by simp only [mgetC, key σ' hk, hf]; exact ⟨h1, h'⟩⟩
    · exact h.elim
  · exact h.elim
theorem lenC_quiet (k : LK) (x : AV) (hq : (match k with | .map => false | _ => true) = true) {σ : List AObj} {K : KT} (h : lenC k x σ K) : ∃ v, K v σ ∧ ∀ (σ' : List AObj) (K' : KT), K' v σ' → lenC k x σ' K' := by
  cases k with
  | map => cases hq
  | _ =>
    simp only [lenC] at h ⊢
    repeat' split at h
    all_goals (first | exact h.elim | skip)
    all_goals (revert h; try simp only [*])
    all_goals (intro h)
    all_goals (exact ⟨_, h, fun _ _ h' => h'⟩)
theorem mksliceC_quiet (s n : Nat) (o : Option (List AV)) {σ : List AObj} {K : KT} (h : mksliceC false s n o σ K) : ∃ v, K v σ ∧ ∀ (σ' : List AObj) (K' : KT), K' v σ' → mksliceC false s n o σ' K' := by
  simp only [mksliceC, Bool.false_eq_true, if_false] at *
  repeat' split at h
  all_goals (first | exact h.elim | skip)
  all_goals (revert h; try simp only [*])
  all_goals (intro h)
  all_goals (exact ⟨_, h, fun _ _ h' => h'⟩)
theorem pickC_quiet (c a b : AV) {σ : List AObj} {K : KT} (h : pickC c a b σ K) : ∃ v, K v σ ∧ ∀ (σ' : List AObj) (K' : KT), K' v σ' → pickC c a b σ' K' := by
  unfold pickC at *
  split at h
  · rename_i t
    cases t
    · exact ⟨_, h.2 rfl, fun _ _ h' => ⟨fun e => Bool.noConfusion e, fun _ => h'⟩⟩
    · exact ⟨_, h.1 rfl, fun _ _ h' => ⟨fun _ => h', fun e => Bool.noConfusion e⟩⟩
  · exact h.elim
theorem unA_quiet (op : UnOp) (x : AV) {K : AV → Prop} (h : unA op x K) : ∃ v, K v ∧ ∀ K' : AV → Prop, K' v → unA op x K' := by
  unfold unA at *
  split at h
  · exact ⟨_, h, fun _ h' => h'⟩
  · exact ⟨_, h, fun _ h' => h'⟩
  · exact h.elim

theorem astep_quiet {i : I} (hq : i.quiet = true) {fr : Frame} {σ : List AObj} {K : KT} (h : astep P i fr σ K) :
    ∃ v, K v σ ∧ ∀ (σ' : List AObj) (K' : KT), (∀ o, i.at? = some o → keepO (ev fr o) σ σ') → K' v σ' → astep P i fr σ' K' := by
  cases i <;> simp only [I.quiet, Bool.false_eq_true] at hq <;> simp only [astep] at h ⊢
  case mv => exact ⟨_, h, fun _ _ _ h' => h'⟩
  case pick => obtain ⟨v, hv, hk⟩ := pickC_quiet _ _ _ h; exact ⟨v, hv, fun σ' K' _ h' => hk σ' K' h'⟩
  case build => obtain ⟨v, hv, hk⟩ := buildC_quiet _ h; exact ⟨v, hv, fun σ' K' _ h' => hk σ' K' h'⟩
  case mkslice mu _ _ _ _ =>
    cases mu
    · obtain ⟨v, hv, hk⟩ := mksliceC_quiet _ _ _ h; exact ⟨v, hv, fun σ' K' _ h' => hk σ' K' h'⟩
    · simp [I.quiet] at hq
  case load => obtain ⟨v, hv, hk⟩ := loadC_quiet _ _ _ h; exact ⟨v, hv, fun σ' K' ho h' => hk σ' K' (ho _ rfl) h'⟩
  case nilchk => obtain ⟨v, hv, hk⟩ := nilC_quiet _ h; exact ⟨v, hv, fun σ' K' _ h' => hk σ' K' h'⟩
  case bin => obtain ⟨v, hv, hk⟩ := binA_quiet h; exact ⟨v, hv, fun σ' K' _ h' => hk (fun a => K' a σ') h'⟩
  case un => obtain ⟨v, hv, hk⟩ := unA_quiet _ _ h; exact ⟨v, hv, fun σ' K' _ h' => hk (fun a => K' a σ') h'⟩
  case conv => obtain ⟨v, hv, hk⟩ := convC_quiet _ _ h; exact ⟨v, hv, fun σ' K' _ h' => hk σ' K' h'⟩
  case slc => obtain ⟨v, hv, hk⟩ := slcC_quiet _ _ _ _ _ h; exact ⟨v, hv, fun σ' K' _ h' => hk σ' K' h'⟩
  case faddr => obtain ⟨v, hv, hk⟩ := faddrC_quiet _ _ h; exact ⟨v, hv, fun σ' K' _ h' => hk σ' K' h'⟩
  case field => obtain ⟨v, hv, hk⟩ := fieldC_quiet _ _ _ _ h; exact ⟨v, hv, fun σ' K' _ h' => hk σ' K' h'⟩
  case iaddr => obtain ⟨v, hv, hk⟩ := iaddrC_quiet _ _ _ _ h; exact ⟨v, hv, fun σ' K' _ h' => hk σ' K' h'⟩
  case idxS => obtain ⟨v, hv, hk⟩ := idxSC_quiet _ _ h; exact ⟨v, hv, fun σ' K' _ h' => hk σ' K' h'⟩
  case idxA => obtain ⟨v, hv, hk⟩ := idxAC_quiet _ _ _ _ _ h; exact ⟨v, hv, fun σ' K' _ h' => hk σ' K' h'⟩
  case extract => obtain ⟨v, hv, hk⟩ := extractC_quiet _ _ h; exact ⟨v, hv, fun σ' K' _ h' => hk σ' K' h'⟩
  case len => obtain ⟨v, hv, hk⟩ := lenC_quiet _ _ hq h; exact ⟨v, hv, fun σ' K' _ h' => hk σ' K' h'⟩
  case maxi => obtain ⟨v, hv, hk⟩ := maxC_quiet _ h; exact ⟨v, hv, fun σ' K' _ h' => hk σ' K' h'⟩
  case mini => obtain ⟨v, hv, hk⟩ := minC_quiet _ h; exact ⟨v, hv, fun σ' K' _ h' => hk σ' K' h'⟩
  case mget => obtain ⟨v, hv, hk⟩ := mgetC_quiet _ _ _ _ _ h; exact ⟨v, hv, fun σ' K' ho h' => hk σ' K' (ho _ rfl) h'⟩


theorem getS_aput (fr : Frame) (d : Option Nat) (a : AV) (i : Nat) : getS (aput fr d a) i = if d = some i then a else getS fr i := by
  cases d with
  | none => simp [aput]
  | some d => simp only [aput, getS_cons, Option.some.injEq]; by_cases h : i = d <;> simp [h, eq_comm]
def FEq (fr fr' : Frame) : Prop := ∀ i, getS fr i = getS fr' i
def FE (K : Frame → List AObj → Prop) : Prop := ∀ fr fr' σ, FEq fr fr' → K fr σ → K fr' σ

theorem aop_move {x : Ai} {fr fr' : Frame} {σ : List AObj} {K K' : Frame → List AObj → Prop} (he : ∀ t ∈ x.reads, getS fr t = getS fr' t)
    (hk : ∀ u s, K (aput fr x.dst u) s → K' (aput fr' x.dst u) s) (h : aop P x fr σ K) : aop P x fr' σ K' := by
  unfold aop at *
  cases hg : x.g with
  | none =>
    simp only [hg] at h ⊢
    rw [← astep_ext (fr := fr) (fr' := fr') fun t ht => he t (by simp only [Ai.reads, hg]; exact ht)]
    exact astep_mono (fun a s => hk a s) h
  | some p =>
    obtain ⟨s, want⟩ := p
    simp only [hg] at h ⊢
    have e1 : ∀ t ∈ x.i.reads, getS fr t = getS fr' t := fun t ht => he t (by simp only [Ai.reads, hg]; exact List.mem_cons_of_mem _ ht)
    have e0 : getS fr s = getS fr' s := he s (by simp only [Ai.reads, hg]; exact List.mem_cons_self)
    rw [← e0]
    unfold guardC at *
    split at h
    · refine ⟨fun e => ?_, fun e => hk _ _ (h.2 e)⟩
      have h1 := h.1 e
      rw [← astep_ext (fr := fr) (fr' := fr') e1]
      exact astep_mono (fun a s => hk a s) h1
    · exact hk _ _ h
    · exact h

theorem aop_mono {x : Ai} {fr : Frame} {σ : List AObj} {K K' : Frame → List AObj → Prop} (hk : ∀ f s, K f s → K' f s) (h : aop P x fr σ K) : aop P x fr σ K' :=
  aop_move (fun _ _ => rfl) (fun _ _ => hk _ _) h

theorem aop_quiet {x : Ai} (hq : x.i.quiet = true) {fr : Frame} {σ : List AObj} {K : Frame → List AObj → Prop} (h : aop P x fr σ K) :
    ∃ v, K (aput fr x.dst v) σ ∧ ∀ (fr' : Frame) (σ' : List AObj) (K' : Frame → List AObj → Prop), (∀ t ∈ x.reads, getS fr t = getS fr' t) → (∀ o, x.i.at? = some o → keepO (ev fr o) σ σ') → K' (aput fr' x.dst v) σ' → aop P x fr' σ' K' := by
  unfold aop at h
  cases hg : x.g with
  | none =>
    simp only [hg] at h
    obtain ⟨v, hv, hk⟩ := astep_quiet hq h
    refine ⟨v, hv, fun fr' σ' K' he hb h' => ?_⟩
    unfold aop
    simp only [hg]
    rw [← astep_ext (fr := fr) (fr' := fr') fun t ht => he t (by simp only [Ai.reads, hg]; exact ht)]
    exact hk σ' _ hb h'
  | some p =>
    obtain ⟨s, want⟩ := p
    simp only [hg] at h
    unfold guardC at h
    have e0 : ∀ fr' : Frame, (∀ t ∈ x.reads, getS fr t = getS fr' t) → getS fr s = getS fr' s := fun fr' he => he s (by simp only [Ai.reads, hg]; exact List.mem_cons_self)
    split at h
    · rename_i b hb
      cases hbw : (b == want)
      · refine ⟨_, h.2 hbw, fun fr' σ' K' he _ h' => ?_⟩
        unfold aop
        simp only [hg]
        rw [← e0 fr' he, hb]
        exact ⟨fun e => (by rw [hbw] at e; cases e), fun _ => h'⟩
      · obtain ⟨v, hv, hk⟩ := astep_quiet hq (h.1 hbw)
        refine ⟨v, hv, fun fr' σ' K' he ho h' => ?_⟩
        unfold aop
        simp only [hg]
        rw [← e0 fr' he, hb]
        refine ⟨fun _ => ?_, fun e => (by rw [hbw] at e; cases e)⟩
        rw [← astep_ext (fr := fr) (fr' := fr') fun t ht => he t (by simp only [Ai.reads, hg]; exact List.mem_cons_of_mem _ ht)]
        exact hk σ' _ ho h'
    · rename_i hb
      refine ⟨_, h, fun fr' σ' K' he _ h' => ?_⟩
      unfold aop
      simp only [hg]
      rw [← e0 fr' he, hb]
      exact h'
    · exact h.elim

/-! ### A region that draws its order, taken in one order. -/
def keeps (fr : Frame) (σ σ' : List AObj) : List Nat → Prop → Prop
  | [], p => p
  | o :: r, p => keepO (getS fr o) σ σ' ∧ keeps fr σ σ' r p
theorem keeps_iff {fr : Frame} {σ σ' : List AObj} {p : Prop} : ∀ {l : List Nat}, keeps fr σ σ' l p ↔ (∀ o ∈ l, keepO (getS fr o) σ σ') ∧ p
  | [] => by simp [keeps]
  | o :: r => by simp only [keeps, keeps_iff (l := r), List.mem_cons, forall_eq_or_imp, and_assoc]
def adraw (P : Program) (l : List Ai) : List (Nat × List Nat) → Frame → List AObj → (Frame → List AObj → Prop) → Prop
  | [], fr, σ, K => K fr σ
  | (i, nd) :: r, fr, σ, K =>
    match l[i]? with
    | some x => aop P x fr σ fun f s => keeps fr σ s nd (adraw P l r f s K)
    | none => False

theorem FEq.put {fr fr' : Frame} (h : FEq fr fr') (d : Option Nat) (a : AV) : FEq (aput fr d a) (aput fr' d a) := fun i => by
  rw [getS_aput, getS_aput, h i]
theorem FEq.ev {fr fr' : Frame} (h : FEq fr fr') (o : Opd) : ev fr o = ev fr' o := ev_ext fun t _ => h t

theorem adraw_fe {l : List Ai} {K : Frame → List AObj → Prop} (hK : FE K) : ∀ (lin : List (Nat × List Nat)) (fr fr' : Frame) (σ : List AObj), FEq fr fr' → adraw P l lin fr σ K → adraw P l lin fr' σ K
  | [], fr, fr', σ, he, h => hK fr fr' σ he h
  | (i, nd) :: r, fr, fr', σ, he, h => by
    unfold adraw at *
    split at h
    · refine aop_move (fun t _ => he t) (fun u s hs => ?_) h
      rw [keeps_iff] at hs ⊢
      exact ⟨fun o ho => (by rw [← he o]; exact hs.1 o ho), adraw_fe hK r _ _ s (he.put _ u) hs.2⟩
    · exact h
def passes (x y : Ai) : Bool :=
  x.i.quiet && (x.dst.all fun d => !y.reads.contains d) && (y.dst.all fun d => !x.reads.contains d) && (match x.dst with | some d => !(y.dst == some d) | none => true)

theorem passes_spec {x y : Ai} (h : passes x y = true) : x.i.quiet = true ∧ (∀ d, x.dst = some d → d ∉ y.reads) ∧ (∀ d, y.dst = some d → d ∉ x.reads) ∧ (∀ d, x.dst = some d → y.dst ≠ some d) := by
  simp only [passes, Bool.and_eq_true] at h
  obtain ⟨⟨⟨h1, h2⟩, h3⟩, h4⟩ := h
  refine ⟨h1, fun d hd => ?_, fun d hd => ?_, fun d hd => ?_⟩
  · rw [hd] at h2; simpa using h2
  · rw [hd] at h3; simpa using h3
  · rw [hd] at h4; simpa using h4

theorem swap {x y : Ai} {fr : Frame} {σ : List AObj} {K : Frame → List AObj → Prop} (hp : passes x y = true) (hK : FE K)
    (h : aop P x fr σ fun f s => aop P y f s fun f' s' => (∀ o, x.i.at? = some o → keepO (ev fr o) σ s') ∧ K f' s') :
    aop P y fr σ fun f s => aop P x f s K := by
  obtain ⟨hq, h1, h2, h3⟩ := passes_spec hp
  obtain ⟨v, hv, hk⟩ := aop_quiet hq h
  refine aop_move (fun t ht => ?_) (fun u s hs => ?_) hv
  · rw [getS_aput]
    split
    · rename_i e; exact absurd ht (h1 t e)
    · rfl
  · refine hk _ _ _ (fun t ht => ?_) hs.1 (hK _ _ s (fun i => ?_) hs.2)
    · rw [getS_aput]
      split
      · rename_i e; exact absurd ht (h2 t e)
      · rfl
    · simp only [getS_aput]
      by_cases hx : x.dst = some i
      · have := h3 i hx
        simp [hx, this]
      · simp [hx]

theorem aop_still {x : Ai} (hq : x.i.quiet = true) {fr : Frame} {σ : List AObj} {K : Frame → List AObj → Prop} (h : aop P x fr σ K) : aop P x fr σ fun f s => s = σ ∧ K f s := by
  obtain ⟨v, hv, hk⟩ := aop_quiet hq h
  refine hk fr σ _ (fun _ _ => rfl) (fun o _ => ?_) ⟨rfl, hv⟩
  unfold keepO; split <;> trivial

def pairOk (x y : Ai) (nx ny : List Nat) : Bool :=
  nx.isEmpty && passes x y && (match x.i.at? with | some (.tmp t) => y.i.quiet || ny.contains t | some (.lit (.box _ _)) => false | some (.lit (.map _)) => false | some (.lit (.rpt _ _ _)) => false | _ => true)
def stays (x y : Ai) : Bool :=
  match x.i.at? with
  | some (.tmp t) => !(y.dst == some t) && !(x.dst == some t)
  | _ => true

theorem extract {l : List Ai} {K : Frame → List AObj → Prop} (hK : FE K) {i : Nat} {nd : List Nat} {x : Ai} (hx : l[i]? = some x) {post : List (Nat × List Nat)} :
    ∀ (pre : List (Nat × List Nat)) (fr : Frame) (σ : List AObj), (∀ p ∈ pre, ∃ y, l[p.1]? = some y ∧ pairOk y x p.2 nd = true) →
      (pre.Pairwise fun p q => ∀ y z, l[p.1]? = some y → l[q.1]? = some z → stays y z = true) → (∀ p ∈ pre, ∀ y, l[p.1]? = some y → stays y y = true) →
      adraw P l (pre ++ (i, nd) :: post) fr σ K →
      aop P x fr σ fun f s => ((x.i.quiet = true → s = σ) ∧ ∀ t ∈ nd, (∀ p ∈ pre, ∀ y, l[p.1]? = some y → y.dst ≠ some t) → keepO (getS fr t) σ s) ∧ adraw P l (pre ++ post) f s K
  | [], fr, σ, _, _, _, h => by
    simp only [List.nil_append, adraw, hx] at h
    have h2 : aop P x fr σ fun f s => (∀ t ∈ nd, keepO (getS fr t) σ s) ∧ adraw P l post f s K := aop_mono (fun f s hs => keeps_iff.1 hs) h
    by_cases hq : x.i.quiet = true
    · exact aop_mono (fun f s hs => ⟨⟨fun _ => hs.1, fun t ht _ => hs.2.1 t ht⟩, hs.2.2⟩) (aop_still hq h2)
    · exact aop_mono (fun f s hs => ⟨⟨fun e => absurd e hq, fun t ht _ => hs.1 t ht⟩, hs.2⟩) h2
  | (j, nj) :: pre, fr, σ, hp, hs, hss, h => by
    obtain ⟨y, hy, hpy⟩ := hp (j, nj) List.mem_cons_self
    simp only [pairOk, Bool.and_eq_true, List.isEmpty_iff] at hpy
    obtain ⟨⟨hnj, hps⟩, hat⟩ := hpy
    subst hnj
    have hyq := (passes_spec hps).1
    have hyy := hss (j, []) List.mem_cons_self y hy
    rw [List.pairwise_cons] at hs
    simp only [List.cons_append, adraw, hy, keeps] at h
    obtain ⟨v, hv, hk⟩ := aop_quiet hyq h
    have ih := extract hK hx pre _ σ (fun p hp' => hp p (List.mem_cons_of_mem _ hp')) hs.2 (fun p hp' => hss p (List.mem_cons_of_mem _ hp')) hv
    have h3 : aop P y fr σ fun f s => aop P x f s fun f' s' => (∀ o, y.i.at? = some o → keepO (ev fr o) σ s') ∧
        (((x.i.quiet = true → s' = σ) ∧ ∀ t ∈ nd, (∀ p ∈ (j, []) :: pre, ∀ y, l[p.1]? = some y → y.dst ≠ some t) → keepO (getS fr t) σ s') ∧ adraw P l (pre ++ post) f' s' K) := by
      refine hk fr σ _ (fun _ _ => rfl) (fun o _ => (by unfold keepO; split <;> trivial)) (aop_mono (fun f' s' hh => ?_) ih)
      refine ⟨fun o ho => ?_, ⟨hh.1.1, fun t ht hno => ?_⟩, hh.2⟩
      · cases o with
        | lit a =>
          rw [ho] at hat
          cases a <;> first | trivial | simp at hat
        | tmp t =>
          rw [ho] at hat
          simp only [Bool.or_eq_true, List.contains_iff_mem] at hat
          rcases hat with hq | hm
          · rw [hh.1.1 hq]; simp only [keepO]; split <;> trivial
          · have h4 := hh.1.2 t hm fun p hp' z hz => by
              have := hs.1 p hp' y z hy hz
              simp only [stays, ho, Bool.and_eq_true] at this
              have := this.1
              simpa using this
            have h5 : y.dst ≠ some t := by
              simp only [stays, ho, Bool.and_eq_true] at hyy
              simpa using hyy.1
            rw [getS_aput, if_neg h5] at h4
            exact h4
      · have h4 := hh.1.2 t ht fun p hp' z hz => hno p (List.mem_cons_of_mem _ hp') z hz
        rw [getS_aput, if_neg (hno (j, []) List.mem_cons_self y hy)] at h4
        exact h4
    have hKK : FE fun f' s' => ((x.i.quiet = true → s' = σ) ∧ ∀ t ∈ nd, (∀ p ∈ (j, []) :: pre, ∀ y, l[p.1]? = some y → y.dst ≠ some t) → keepO (getS fr t) σ s') ∧ adraw P l (pre ++ post) f' s' K :=
      fun f f' s he hh => ⟨hh.1, adraw_fe hK _ _ _ _ he hh.2⟩
    refine aop_mono (fun f s hh => ?_) (swap hps hKK h3)
    obtain ⟨v', hv', _⟩ := aop_quiet hyq hh
    refine ⟨hv'.1, ?_⟩
    simp only [List.cons_append, adraw, hy, keeps]
    exact aop_mono (fun f' s' h' => h'.2) hh
variable {P : Program}

def pw {α : Type} (f : α → α → Bool) : List α → Bool
  | [] => true
  | a :: r => r.all (f a) && pw f r
theorem pw_spec {α : Type} {f : α → α → Bool} : ∀ {l : List α}, pw f l = true → l.Pairwise fun a b => f a b = true
  | [], _ => .nil
  | a :: r, h => by
    simp only [pw, Bool.and_eq_true, List.all_eq_true] at h
    exact .cons h.1 (pw_spec h.2)
def mask (cl : List Nat) : List Nat → Nat
  | [] => 0
  | j :: r => (2 ^ j ||| cl.getD j 0) ||| mask cl r
theorem mask_spec {cl : List Nat} {p : Nat} : ∀ {a : List Nat}, (mask cl a).testBit p = true → ∃ j ∈ a, p = j ∨ (cl.getD j 0).testBit p = true
  | [], h => by simp [mask] at h
  | j :: r, h => by
    simp only [mask, Nat.testBit_or, Bool.or_eq_true] at h
    rcases h with (h | h) | h
    · rw [Nat.testBit_two_pow] at h
      exact ⟨j, List.mem_cons_self, .inl (by simpa using h : j = p).symm⟩
    · exact ⟨j, List.mem_cons_self, .inr h⟩
    · obtain ⟨k, hk, h'⟩ := mask_spec h
      exact ⟨k, List.mem_cons_of_mem _ hk, h'⟩

def linB (l : List Ai) (after : List (List Nat)) (cl : List Nat) (p q : Nat × List Nat) : Bool :=
  !(p.1 == q.1) && !(after.getD p.1 []).contains q.1 && match l[p.1]?, l[q.1]? with
    | some x, some y => stays x y && ((cl.getD q.1 0).testBit p.1 || pairOk x y p.2 q.2)
    | _, _ => false
def linA (l : List Ai) (after : List (List Nat)) (cl : List Nat) (i : Nat) : Bool :=
  (after.getD i []).all (fun j => decide (j < i) || (after.getD j []).isEmpty && decide (j < after.length)) && (mask cl (after.getD i []) ||| cl.getD i 0 == mask cl (after.getD i [])) && match l[i]? with
    | some x => stays x x
    | none => false
def linOk (l : List Ai) (after : List (List Nat)) (lin : List (Nat × List Nat)) (cl : List Nat) : Bool :=
  lin.length == after.length && (List.range after.length).all (fun i => (lin.map (·.1)).contains i && linA l after cl i) && lin.all (fun p => decide (p.1 < after.length)) && pw (linB l after cl) lin

structure LinInv (l : List Ai) (after : List (List Nat)) (cl : List Nat) (lin : List (Nat × List Nat)) (listed : List Bool) : Prop where
  len : listed.length = after.length
  mem : ∀ i, i < after.length → (listed.getD i true = false ↔ ∃ p ∈ lin, p.1 = i)
  low : ∀ p ∈ lin, p.1 < after.length
  pair : lin.Pairwise fun p q => linB l after cl p q = true
  down : ∀ i, i < after.length → listed.getD i true = true → ∀ j ∈ after.getD i [], listed.getD j false = true

theorem linA_spec {l : List Ai} {after : List (List Nat)} {cl : List Nat} {i : Nat} (h : linA l after cl i = true) :
    (∀ j ∈ after.getD i [], j < i ∨ (after.getD j [] = [] ∧ j < after.length)) ∧ (∀ p, (cl.getD i 0).testBit p = true → ∃ j ∈ after.getD i [], p = j ∨ (cl.getD j 0).testBit p = true) ∧ ∃ x, l[i]? = some x ∧ stays x x = true := by
  simp only [linA, Bool.and_eq_true, List.all_eq_true, Bool.or_eq_true, decide_eq_true_eq, beq_iff_eq, List.isEmpty_iff] at h
  refine ⟨h.1.1, fun p hp => mask_spec ?_, ?_⟩
  · rw [← h.1.2, Nat.testBit_or, hp, Bool.or_true]
  · have := h.2
    split at this
    · rename_i x hx; exact ⟨x, hx, this⟩
    · cases this

theorem getD_tf {l : List Bool} {i n : Nat} (hl : l.length = n) (hi : i < n) (a b : Bool) : l.getD i a = l.getD i b := by
  subst hl
  simp [List.getD, List.getElem?_eq_getElem hi]

theorem clos_listed {l : List Ai} {after : List (List Nat)} {cl : List Nat} {lin : List (Nat × List Nat)} {listed : List Bool} (hA : ∀ i, i < after.length → linA l after cl i = true) (I : LinInv l after cl lin listed) :
    ∀ (n i : Nat), i < n → i < after.length → (∀ j ∈ after.getD i [], listed.getD j false = true) → ∀ p, (cl.getD i 0).testBit p = true → listed.getD p false = true
  | 0, i, h, _, _, _, _ => absurd h (Nat.not_lt_zero _)
  | n + 1, i, hn, hi, hd, p, hp => by
    obtain ⟨h1, h2, _⟩ := linA_spec (hA i hi)
    obtain ⟨j, hj, hpj⟩ := h2 p hp
    rcases hpj with rfl | hpj
    · exact hd p hj
    · rcases h1 j hj with hji | ⟨he, hjn⟩
      · have hjn : j < after.length := by omega
        exact clos_listed hA I n j (by omega) hjn (I.down j hjn (by rw [getD_tf I.len hjn true false]; exact hd j hj)) p hpj
      · obtain ⟨_, h2', _⟩ := linA_spec (hA j hjn)
        obtain ⟨k, hk, _⟩ := h2' p hpj
        rw [he] at hk; cases hk

theorem mem_aready {after : List (List Nat)} {listed : List Bool} {i : Nat} : i ∈ aready after listed ↔ i < after.length ∧ listed.getD i true = false ∧ ∀ j ∈ after.getD i [], listed.getD j false = true := by
  simp only [aready, List.mem_filter, List.mem_range, Bool.and_eq_true, Bool.not_eq_true', List.all_eq_true]

theorem adraw_any {l : List Ai} {after : List (List Nat)} {cl : List Nat} (hA : ∀ i, i < after.length → linA l after cl i = true) {K : Frame → List AObj → Prop} (hK : FE K) :
    ∀ (n : Nat) (lin : List (Nat × List Nat)) (listed : List Bool) (fr : Frame) (σ : List AObj), lin.length = n → LinInv l after cl lin listed → adraw P l lin fr σ K → aany P l after K n listed fr σ
  | 0, lin, listed, fr, σ, hn, I, h => by
    have e : lin = [] := List.length_eq_zero_iff.1 hn
    subst e
    refine ⟨?_, h⟩
    rw [List.eq_nil_iff_forall_not_mem]
    intro i hi
    obtain ⟨h1, h2, _⟩ := mem_aready.1 hi
    obtain ⟨p, hp, _⟩ := (I.mem i h1).1 h2
    cases hp
  | n + 1, lin, listed, fr, σ, hn, I, h => by
    refine ⟨fun h0 => ?_, fun i hi => ?_⟩
    · exfalso
      cases lin with
      | nil => cases hn
      | cons p r =>
        have hlow := I.low p List.mem_cons_self
        have hr : p.1 ∈ aready after listed := by
          refine mem_aready.2 ⟨hlow, (I.mem _ hlow).2 ⟨p, List.mem_cons_self, rfl⟩, fun j hj => ?_⟩
          have hjp := (linA_spec (hA _ hlow)).1 j hj
          have hjn : j < after.length := by rcases hjp with h | h; · omega
                                            exact h.2
          have hjne : j ≠ p.1 := by
            rintro rfl
            rcases hjp with h | h
            · omega
            · rw [h.1] at hj; cases hj
          cases hl : listed.getD j false with
          | true => rfl
          | false =>
            rw [getD_tf I.len hjn false true] at hl
            obtain ⟨q, hq, e⟩ := (I.mem j hjn).1 hl
            rcases List.mem_cons.1 hq with rfl | hq
            · exact absurd e.symm hjne
            · have := (List.pairwise_cons.1 I.pair).1 q hq
              simp only [linB, Bool.and_eq_true, Bool.not_eq_true', List.contains_eq_mem, decide_eq_false_iff_not] at this
              rw [e] at this
              exact absurd hj this.1.2
        rw [h0] at hr
        cases hr
    · obtain ⟨h1, h2, h3⟩ := mem_aready.1 hi
      obtain ⟨q, hq, e⟩ := (I.mem i h1).1 h2
      obtain ⟨pre, post, rfl⟩ := List.append_of_mem hq
      obtain ⟨i', nd⟩ := q
      simp only at e
      subst e
      obtain ⟨_, _, x, hx, _⟩ := linA_spec (hA i' h1)
      have hpair := List.pairwise_append.1 I.pair
      have hcross : ∀ p ∈ pre, linB l after cl p (i', nd) = true := fun p hp => hpair.2.2 p hp (i', nd) List.mem_cons_self
      have hpost : ∀ p ∈ post, linB l after cl (i', nd) p = true := fun p hp => (List.pairwise_cons.1 hpair.2.1).1 p hp
      have hB : ∀ p q, linB l after cl p q = true → p.1 ≠ q.1 ∧ ∃ y z, l[p.1]? = some y ∧ l[q.1]? = some z ∧ stays y z = true ∧ ((cl.getD q.1 0).testBit p.1 = true ∨ pairOk y z p.2 q.2 = true) := by
        intro p q hpq
        simp only [linB, Bool.and_eq_true, Bool.not_eq_true', beq_eq_false_iff_ne] at hpq
        refine ⟨hpq.1.1, ?_⟩
        have := hpq.2
        split at this
        · rename_i y z hy hz
          simp only [Bool.and_eq_true, Bool.or_eq_true] at this
          exact ⟨y, z, hy, hz, this.1, this.2⟩
        · cases this
      have hun : ∀ p ∈ pre, listed.getD p.1 false = false := fun p hp => by
        have hlow := I.low p (List.mem_append_left _ hp)
        rw [getD_tf I.len hlow false true]
        exact (I.mem _ hlow).2 ⟨p, List.mem_append_left _ hp, rfl⟩
      have hex := extract hK hx (post := post) pre fr σ (fun p hp => by
          obtain ⟨_, y, z, hy, hz, _, hor⟩ := hB _ _ (hcross p hp)
          rw [hx] at hz; cases hz
          refine ⟨y, hy, ?_⟩
          rcases hor with hc | hc
          · have := clos_listed hA I _ i' (Nat.lt_succ_self _) h1 h3 p.1 hc
            rw [hun p hp] at this; cases this
          · exact hc)
        (hpair.1.imp fun {p q} hpq y z hy hz => by
          obtain ⟨_, y', z', hy', hz', hs, _⟩ := hB _ _ hpq
          rw [hy] at hy'; rw [hz] at hz'; cases hy'; cases hz'; exact hs)
        (fun p hp y hy => by
          obtain ⟨_, _, y', hy', hs⟩ := linA_spec (hA p.1 (I.low p (List.mem_append_left _ hp)))
          rw [hy] at hy'; cases hy'; exact hs) h
      simp only [hx]
      refine aop_mono (fun f s hs => adraw_any hA hK n (pre ++ post) (listed.set i' true) f s (by simp at hn ⊢; omega) ?_ hs.2) hex
      have hne : ∀ p ∈ pre ++ post, p.1 ≠ i' := fun p hp => by
        rcases List.mem_append.1 hp with hp | hp
        · exact (hB _ _ (hcross p hp)).1
        · exact fun e => (hB _ _ (hpost p hp)).1 e.symm
      have hset : ∀ k d, k ≠ i' → (listed.set i' true).getD k d = listed.getD k d := fun k d hk => by simp [List.getD, List.getElem?_set_ne (Ne.symm hk)]
      have hseti : ∀ d, (listed.set i' true).getD i' d = true := fun d => by simp [List.getD, List.getElem?_set, I.len, h1]
      refine ⟨by rw [List.length_set]; exact I.len, fun k hk => ?_, fun p hp => I.low p ?_, ?_, fun k hk hl j hj => ?_⟩
      · by_cases hki : k = i'
        · subst hki
          rw [hseti]
          exact ⟨fun e => Bool.noConfusion e, fun ⟨p, hp, e⟩ => absurd e (hne p hp)⟩
        · rw [hset k true hki, I.mem k hk]
          constructor
          · rintro ⟨p, hp, rfl⟩
            refine ⟨p, ?_, rfl⟩
            rcases List.mem_append.1 hp with hp | hp
            · exact List.mem_append_left _ hp
            · rcases List.mem_cons.1 hp with rfl | hp
              · exact absurd rfl hki
              · exact List.mem_append_right _ hp
          · rintro ⟨p, hp, rfl⟩
            refine ⟨p, ?_, rfl⟩
            rcases List.mem_append.1 hp with hp | hp
            · exact List.mem_append_left _ hp
            · exact List.mem_append_right _ (List.mem_cons_of_mem _ hp)
      · rcases List.mem_append.1 hp with hp | hp
        · exact List.mem_append_left _ hp
        · exact List.mem_append_right _ (List.mem_cons_of_mem _ hp)
      · exact I.pair.sublist (List.Sublist.append_left (List.sublist_cons_self _ _) _)
      · have hj' : listed.getD j false = true := by
          by_cases hki : k = i'
          · subst hki; exact h3 j hj
          · rw [hset k true hki] at hl
            exact I.down k hk hl j hj
        by_cases hji : j = i'
        · subst hji; exact hseti _
        · rw [hset j false hji]; exact hj'

theorem linOk_inv {l : List Ai} {after : List (List Nat)} {lin : List (Nat × List Nat)} {cl : List Nat} (h : linOk l after lin cl = true) :
    lin.length = after.length ∧ LinInv l after cl lin (List.replicate after.length false) ∧ ∀ i, i < after.length → linA l after cl i = true := by
  simp only [linOk, Bool.and_eq_true, List.all_eq_true, decide_eq_true_eq, beq_iff_eq, List.mem_range, List.contains_eq_mem, List.mem_map] at h
  obtain ⟨⟨⟨h1, h2⟩, h3⟩, h4⟩ := h
  refine ⟨h1, ⟨by simp, fun i hi => ?_, h3, pw_spec h4, fun i hi e => ?_⟩, fun i hi => (h2 i hi).2⟩
  · constructor
    · intro _
      exact (h2 i hi).1
    · intro _
      simp [List.getD, hi]
  · simp [List.getD, hi] at e
theorem draw_front {l : List Ai} {after : List (List Nat)} {cl : List Nat} {pre post post' : List (Nat × List Nat)} {i' : Nat} {nd : List Nat} {listed : List Bool} (hA : ∀ i, i < after.length → linA l after cl i = true)
    (I : LinInv l after cl (pre ++ (i', nd) :: post') listed) (h1 : i' < after.length) (h2 : listed.getD i' true = false) (h3 : ∀ j ∈ after.getD i' [], listed.getD j false = true) {x : Ai} (hx : l[i']? = some x)
    {K : Frame → List AObj → Prop} (hK : FE K) {fr : Frame} {σ : List AObj} (h : adraw P l (pre ++ (i', nd) :: post) fr σ K) :
    aop P x fr σ fun f s => adraw P l (pre ++ post) f s K := by
  have hpair := List.pairwise_append.1 I.pair
  have hcross : ∀ p ∈ pre, linB l after cl p (i', nd) = true := fun p hp => hpair.2.2 p hp (i', nd) List.mem_cons_self
  have hB : ∀ p q, linB l after cl p q = true → p.1 ≠ q.1 ∧ ∃ y z, l[p.1]? = some y ∧ l[q.1]? = some z ∧ stays y z = true ∧ ((cl.getD q.1 0).testBit p.1 = true ∨ pairOk y z p.2 q.2 = true) := by
    intro p q hpq
    simp only [linB, Bool.and_eq_true, Bool.not_eq_true', beq_eq_false_iff_ne] at hpq
    refine ⟨hpq.1.1, ?_⟩
    have := hpq.2
    split at this
    · rename_i y z hy hz
      simp only [Bool.and_eq_true, Bool.or_eq_true] at this
      exact ⟨y, z, hy, hz, this.1, this.2⟩
    · cases this
  have hun : ∀ p ∈ pre, listed.getD p.1 false = false := fun p hp => by
    have hlow := I.low p (List.mem_append_left _ hp)
    rw [getD_tf I.len hlow false true]
    exact (I.mem _ hlow).2 ⟨p, List.mem_append_left _ hp, rfl⟩
  have hex := extract hK hx (post := post) pre fr σ (fun p hp => by
      obtain ⟨_, y, z, hy, hz, _, hor⟩ := hB _ _ (hcross p hp)
      rw [hx] at hz; cases hz
      refine ⟨y, hy, ?_⟩
      rcases hor with hc | hc
      · have := clos_listed hA I _ i' (Nat.lt_succ_self _) h1 h3 p.1 hc
        rw [hun p hp] at this; cases this
      · exact hc)
    (hpair.1.imp fun {p q} hpq y z hy hz => by
      obtain ⟨_, y', z', hy', hz', hs, _⟩ := hB _ _ hpq
      rw [hy] at hy'; rw [hz] at hz'; cases hy'; cases hz'; exact hs)
    (fun p hp y hy => by
      obtain ⟨_, _, y', hy', hs⟩ := linA_spec (hA p.1 (I.low p (List.mem_append_left _ hp)))
      rw [hy] at hy'; cases hy'; exact hs) h
  exact aop_mono (fun f s hs => hs.2) hex
theorem adraw_mono' {l : List Ai} {K K' : Frame → List AObj → Prop} (hk : ∀ f s, K f s → K' f s) : ∀ (lin : List (Nat × List Nat)) (fr : Frame) (σ : List AObj), adraw P l lin fr σ K → adraw P l lin fr σ K'
  | [], fr, σ, h => hk _ _ h
  | (i, nd) :: r, fr, σ, h => by
    unfold adraw at *
    split at h
    · refine aop_mono (fun f s hs => ?_) h
      rw [keeps_iff] at hs ⊢
      exact ⟨hs.1, adraw_mono' hk r _ s hs.2⟩
    · exact h

theorem linOk_any {l : List Ai} {after : List (List Nat)} {lin : List (Nat × List Nat)} {cl : List Nat} (h : linOk l after lin cl = true) {K : Frame → List AObj → Prop} (hK : FE K) {fr : Frame} {σ : List AObj} (hd : adraw P l lin fr σ K) :
    aany P l after K after.length (List.replicate after.length false) fr σ := by
  simp only [linOk, Bool.and_eq_true, List.all_eq_true, decide_eq_true_eq, beq_iff_eq, List.mem_range, List.contains_eq_mem, List.mem_map] at h
  obtain ⟨⟨⟨h1, h2⟩, h3⟩, h4⟩ := h
  refine adraw_any (fun i hi => (h2 i hi).2) hK _ lin _ fr σ h1 ⟨by simp, fun i hi => ?_, h3, pw_spec h4, fun i hi e => ?_⟩ hd
  · constructor
    · intro _
      exact (h2 i hi).1
    · intro _
      simp [List.getD, hi]
  · simp [List.getD, hi] at e

theorem LinInv.step {l : List Ai} {after : List (List Nat)} {cl : List Nat} {pre post : List (Nat × List Nat)} {i' : Nat} {nd : List Nat} {listed : List Bool} (I : LinInv l after cl (pre ++ (i', nd) :: post) listed) (h1 : i' < after.length)
    (h3 : ∀ j ∈ after.getD i' [], listed.getD j false = true) : LinInv l after cl (pre ++ post) (listed.set i' true) := by
  have hpair := List.pairwise_append.1 I.pair
  have hcross : ∀ p ∈ pre, linB l after cl p (i', nd) = true := fun p hp => hpair.2.2 p hp (i', nd) List.mem_cons_self
  have hpost : ∀ p ∈ post, linB l after cl (i', nd) p = true := fun p hp => (List.pairwise_cons.1 hpair.2.1).1 p hp
  have hB : ∀ p q, linB l after cl p q = true → p.1 ≠ q.1 := by
    intro p q hpq
    simp only [linB, Bool.and_eq_true, Bool.not_eq_true', beq_eq_false_iff_ne] at hpq
    exact hpq.1.1
  have hne : ∀ p ∈ pre ++ post, p.1 ≠ i' := fun p hp => by
    rcases List.mem_append.1 hp with hp | hp
    · exact hB _ _ (hcross p hp)
    · exact fun e => hB _ _ (hpost p hp) e.symm
  have hset : ∀ k d, k ≠ i' → (listed.set i' true).getD k d = listed.getD k d := fun k d hk => by simp [List.getD, List.getElem?_set_ne (Ne.symm hk)]
  have hseti : ∀ d, (listed.set i' true).getD i' d = true := fun d => by simp [List.getD, List.getElem?_set, I.len, h1]
  refine ⟨by rw [List.length_set]; exact I.len, fun k hk => ?_, fun p hp => I.low p ?_, ?_, fun k hk hl j hj => ?_⟩
  · by_cases hki : k = i'
    · subst hki
      rw [hseti]
      exact ⟨fun e => Bool.noConfusion e, fun ⟨p, hp, e⟩ => absurd e (hne p hp)⟩
    · rw [hset k true hki, I.mem k hk]
      constructor
      · rintro ⟨p, hp, rfl⟩
        refine ⟨p, ?_, rfl⟩
        rcases List.mem_append.1 hp with hp | hp
        · exact List.mem_append_left _ hp
        · rcases List.mem_cons.1 hp with rfl | hp
          · exact absurd rfl hki
          · exact List.mem_append_right _ hp
      · rintro ⟨p, hp, rfl⟩
        refine ⟨p, ?_, rfl⟩
        rcases List.mem_append.1 hp with hp | hp
        · exact List.mem_append_left _ hp
        · exact List.mem_append_right _ (List.mem_cons_of_mem _ hp)
  · rcases List.mem_append.1 hp with hp | hp
    · exact List.mem_append_left _ hp
    · exact List.mem_append_right _ (List.mem_cons_of_mem _ hp)
  · exact I.pair.sublist (List.Sublist.append_left (List.sublist_cons_self _ _) _)
  · have hj' : listed.getD j false = true := by
      by_cases hki : k = i'
      · subst hki; exact h3 j hj
      · rw [hset k true hki] at hl
        exact I.down k hk hl j hj
    by_cases hji : j = i'
    · subst hji; exact hseti _
    · rw [hset j false hji]; exact hj'
def dep (after : List (List Nat)) (i j : Nat) : List (List Nat) := after.set i (j :: after.getD i [])
theorem dep_len (after : List (List Nat)) (i j : Nat) : (dep after i j).length = after.length := by simp [dep]
theorem dep_ne (after : List (List Nat)) {i j k : Nat} (h : k ≠ i) : (dep after i j).getD k [] = after.getD k [] := by
  simp [dep, List.getD, List.getElem?_set_ne (Ne.symm h)]
theorem dep_same (after : List (List Nat)) {i j : Nat} (h : i < after.length) : (dep after i j).getD i [] = j :: after.getD i [] := by
  simp [dep, List.getD, List.getElem?_set, h]
theorem dep_ready {after : List (List Nat)} {i j : Nat} {listed : List Bool} {k : Nat} (h : k ∈ aready after listed) (hk : k = i → listed.getD j false = true) : k ∈ aready (dep after i j) listed := by
  obtain ⟨h1, h2, h3⟩ := mem_aready.1 h
  refine mem_aready.2 ⟨by rw [dep_len]; exact h1, h2, fun x hx => ?_⟩
  by_cases e : k = i
  · subst e
    rw [dep_same _ h1] at hx
    rcases List.mem_cons.1 hx with rfl | hx
    · exact hk rfl
    · exact h3 x hx
  · rw [dep_ne _ e] at hx
    exact h3 x hx
theorem ready_dep {after : List (List Nat)} {i j : Nat} {listed : List Bool} {k : Nat} (h : k ∈ aready (dep after i j) listed) : k ∈ aready after listed := by
  obtain ⟨h1, h2, h3⟩ := mem_aready.1 h
  rw [dep_len] at h1
  refine mem_aready.2 ⟨h1, h2, fun x hx => h3 x ?_⟩
  by_cases e : k = i
  · subst e
    rw [dep_same _ h1]
    exact List.mem_cons_of_mem _ hx
  · rw [dep_ne _ e]
    exact hx
theorem nil_dep {after : List (List Nat)} {i j : Nat} {listed : List Bool} (h : aready after listed = []) : aready (dep after i j) listed = [] := by
  rw [List.eq_nil_iff_forall_not_mem] at h ⊢
  exact fun k hk => h k (ready_dep hk)
theorem aany_undep {l : List Ai} {after : List (List Nat)} {i j : Nat} {K : Frame → List AObj → Prop} : ∀ (n : Nat) (listed : List Bool) (fr : Frame) (σ : List AObj), listed.getD j false = true → aany P l (dep after i j) K n listed fr σ → aany P l after K n listed fr σ
  | 0, listed, fr, σ, hj, h => by
    refine ⟨?_, h.2⟩
    have h1 := h.1
    rw [List.eq_nil_iff_forall_not_mem] at h1 ⊢
    exact fun k hk => h1 k (dep_ready hk fun _ => hj)
  | n + 1, listed, fr, σ, hj, h => by
    refine ⟨fun h0 => h.1 (nil_dep h0), fun k hk => ?_⟩
    have h2 := h.2 k (dep_ready hk fun _ => hj)
    split at h2
    · refine aop_mono (fun f s hs => aany_undep n _ f s ?_ hs) h2
      by_cases e : k = j
      · subst e
        rcases Nat.lt_or_ge k listed.length with hl | hl
        · simp [List.getD, List.getElem?_set, hl]
        · simp [List.getD, List.getElem?_eq_none hl] at hj
      · simp only [List.getD, List.getElem?_set_ne e]
        exact hj
    · exact h2.elim

theorem adraw_append {l : List Ai} {K : Frame → List AObj → Prop} : ∀ (a b : List (Nat × List Nat)) (fr : Frame) (σ : List AObj), adraw P l a fr σ (fun f s => adraw P l b f s K) → adraw P l (a ++ b) fr σ K
  | [], b, fr, σ, h => h
  | (i, nd) :: r, b, fr, σ, h => by
    rw [List.cons_append]
    unfold adraw at *
    split at h
    · refine aop_mono (fun f s hs => ?_) h
      rw [keeps_iff] at hs ⊢
      exact ⟨hs.1, adraw_append r b f s hs.2⟩
    · exact h.elim

structure Two (l : List Ai) (after : List (List Nat)) (p q : Nat) : Prop where
  hp : p < after.length
  hq : q < after.length
  ne : p ≠ q

theorem two_any {l : List Ai} {after : List (List Nat)} {p q : Nat} {clA clB : List Nat} {restA restB : List (Nat × List Nat)} (hne : p ≠ q)
    (hA : ∀ i, i < (dep after q p).length → linA l (dep after q p) clA i = true) (hB : ∀ i, i < (dep after p q).length → linA l (dep after p q) clB i = true)
    {K : Frame → List AObj → Prop} (hK : FE K) :
    ∀ (n : Nat) (pre : List (Nat × List Nat)) (listed : List Bool) (fr : Frame) (σ : List AObj),
      (∀ x, x < after.length → listed.getD x true = false → x = p ∨ x = q ∨ (∃ y ∈ pre, y.1 = x) ∨ (clA.getD x 0).testBit p = true) →
      listed.getD p false = false → listed.getD q false = false → p < after.length → q < after.length →
      (pre ++ restA).length = n → (pre ++ restB).length = n → LinInv l (dep after q p) clA (pre ++ restA) listed → LinInv l (dep after p q) clB (pre ++ restB) listed →
      adraw P l pre fr σ (fun f s => adraw P l restA f s K ∧ adraw P l restB f s K) → aany P l after K n listed fr σ := by
  intro n
  induction n with
  | zero =>
    intro pre listed fr σ hx hp hq hpl hql e1 e2 IA IB h
    have e : pre ++ restA = [] := List.length_eq_zero_iff.1 e1
    have : ∃ y ∈ pre ++ restA, y.1 = p := (IA.mem p (by rw [dep_len]; exact hpl)).1 (by rw [getD_tf (by rw [IA.len, dep_len]) hpl true false]; exact hp)
    rw [e] at this
    obtain ⟨y, hy, _⟩ := this
    cases hy
  | succ n ih =>
    intro pre listed fr σ hx hp hq hpl hql e1 e2 IA IB h
    have AA := adraw_any hA hK (n + 1) _ listed fr σ e1 IA (adraw_append _ _ _ _ (adraw_mono' (fun f s hs => hs.1) pre fr σ h))
    have AB := adraw_any hB hK (n + 1) _ listed fr σ e2 IB (adraw_append _ _ _ _ (adraw_mono' (fun f s hs => hs.2) pre fr σ h))
    refine ⟨fun h0 => AA.1 (nil_dep h0), fun i hi => ?_⟩
    obtain ⟨h1, h2, h3⟩ := mem_aready.1 hi
    have hset : ∀ d, (listed.set i true).getD i d = true := fun d => by
      have := IA.len
      rw [dep_len] at this
      simp [List.getD, List.getElem?_set, this, h1]
    by_cases eip : i = p
    · subst eip
      have h4 := AA.2 i (dep_ready hi fun e => absurd e hne)
      split at h4
      · exact aop_mono (fun f s hs => aany_undep n _ f s (hset _) hs) h4
      · exact h4.elim
    by_cases eiq : i = q
    · subst eiq
      have h4 := AB.2 i (dep_ready hi fun e => absurd e (Ne.symm hne))
      split at h4
      · exact aop_mono (fun f s hs => aany_undep n _ f s (hset _) hs) h4
      · exact h4.elim
    have hin : ∃ y ∈ pre, y.1 = i := by
      rcases hx i h1 h2 with h | h | h | h
      · exact absurd h eip
      · exact absurd h eiq
      · exact h
      · obtain ⟨a1, a2, a3⟩ := mem_aready.1 (dep_ready (i := q) (j := p) hi fun e => absurd e eiq)
        have := clos_listed hA IA _ i (Nat.lt_succ_self _) a1 a3 p h
        rw [this] at hp; cases hp
    obtain ⟨y, hy, e⟩ := hin
    obtain ⟨pre1, post1, rfl⟩ := List.append_of_mem hy
    obtain ⟨i', nd⟩ := y
    simp only at e
    subst e
    have hiA := dep_ready (i := q) (j := p) hi fun e => absurd e eiq
    have hiB := dep_ready (i := p) (j := q) hi fun e => absurd e eip
    obtain ⟨a1, a2, a3⟩ := mem_aready.1 hiA
    obtain ⟨b1, b2, b3⟩ := mem_aready.1 hiB
    obtain ⟨_, _, x, hxl, _⟩ := linA_spec (hA i' a1)
    have IA' : LinInv l (dep after q p) clA (pre1 ++ (i', nd) :: (post1 ++ restA)) listed := by simpa [List.append_assoc] using IA
    have IB' : LinInv l (dep after p q) clB (pre1 ++ (i', nd) :: (post1 ++ restB)) listed := by simpa [List.append_assoc] using IB
    have hex := draw_front hA IA' a1 a2 a3 hxl (K := fun f s => adraw P l restA f s K ∧ adraw P l restB f s K) (fun f f' s he hs => ⟨adraw_fe hK _ _ _ _ he hs.1, adraw_fe hK _ _ _ _ he hs.2⟩) (post := post1) h
    simp only [hxl]
    refine aop_mono (fun f s hs => ih (pre1 ++ post1) (listed.set i' true) f s (fun k hk hkl => ?_) ?_ ?_ hpl hql ?_ ?_ ?_ ?_ hs) hex
    · by_cases ek : k = i'
      · subst ek; rw [hset] at hkl; cases hkl
      · have hkl' : listed.getD k true = false := by simpa [List.getD, List.getElem?_set_ne (Ne.symm ek)] using hkl
        rcases hx k hk hkl' with h | h | ⟨y, hy, e⟩ | h
        · exact .inl h
        · exact .inr (.inl h)
        · refine .inr (.inr (.inl ⟨y, ?_, e⟩))
          rcases List.mem_append.1 hy with hy | hy
          · exact List.mem_append_left _ hy
          · rcases List.mem_cons.1 hy with rfl | hy
            · exact absurd e.symm ek
            · exact List.mem_append_right _ hy
        · exact .inr (.inr (.inr h))
    · simpa [List.getD, List.getElem?_set_ne eip] using hp
    · simpa [List.getD, List.getElem?_set_ne eiq] using hq
    · simp only [List.length_append, List.length_cons] at e1 ⊢; omega
    · simp only [List.length_append, List.length_cons] at e2 ⊢; omega
    · have := IA'.step a1 a3
      simpa [List.append_assoc] using this
    · have := IB'.step b1 b3
      simpa [List.append_assoc] using this

def twoOk (l : List Ai) (after : List (List Nat)) (lin : List (Nat × List Nat)) : List Nat → Bool
  | p :: q :: k :: r =>
    decide (p < after.length) && decide (q < after.length) && !(p == q) && decide (k ≤ after.length) && linOk l (dep after q p) (lin.take after.length) (r.take after.length) &&
    linOk l (dep after p q) (lin.take k ++ lin.drop after.length) (r.drop after.length) &&
    (List.range after.length).all fun x => x == p || x == q || ((lin.take k).map (·.1)).contains x || ((r.take after.length).getD x 0).testBit p
  | _ => false
def twoK : List Nat → Nat
  | _ :: _ :: k :: _ => k
  | _ => 0
theorem twoOk_any {l : List Ai} {after : List (List Nat)} {lin : List (Nat × List Nat)} {cl : List Nat} (h : twoOk l after lin cl = true) {K : Frame → List AObj → Prop} (hK : FE K) {fr : Frame} {σ : List AObj}
    (hd : adraw P l (lin.take (twoK cl)) fr σ fun f s => adraw P l ((lin.take after.length).drop (twoK cl)) f s K ∧ adraw P l (lin.drop after.length) f s K) :
    aany P l after K after.length (List.replicate after.length false) fr σ := by
  unfold twoOk at h
  split at h
  · rename_i p q k r
    simp only [twoK] at hd
    simp only [Bool.and_eq_true, decide_eq_true_eq, Bool.not_eq_true', beq_eq_false_iff_ne] at h
    obtain ⟨⟨⟨⟨⟨⟨hp, hq⟩, hne⟩, hk⟩, hA⟩, hB⟩, hx⟩ := h
    obtain ⟨lA, IA, AA⟩ := linOk_inv hA
    obtain ⟨lB, IB, AB⟩ := linOk_inv hB
    rw [dep_len] at lA lB IA IB
    have esplit : lin.take k ++ (lin.take after.length).drop k = lin.take after.length := by
      have e1 : lin.take k = (lin.take after.length).take k := by rw [List.take_take, Nat.min_eq_left hk]
      rw [e1]
      exact List.take_append_drop ..
    refine two_any hne AA AB hK after.length (lin.take k) _ fr σ (fun x hxl _ => ?_) ?_ ?_ hp hq ?_ ?_ ?_ ?_ hd
    · have := List.all_eq_true.1 hx x (List.mem_range.2 hxl)
      simp only [Bool.or_eq_true, beq_iff_eq, List.contains_eq_mem, decide_eq_true_eq, List.mem_map] at this
      rcases this with ((h | h) | h) | h
      · exact .inl h
      · exact .inr (.inl h)
      · exact .inr (.inr (.inl h))
      · exact .inr (.inr (.inr h))
    · simp [List.getD, hp]
    · simp [List.getD, hq]
    · rw [esplit]; exact lA
    · exact lB
    · rw [esplit]; exact IA
    · exact IB
  · cases h

def keysLt (n : Nat) (fr : Frame) : Prop := ∀ p ∈ fr, p.1 < n
theorem adraw_keys {l : List Ai} {n : Nat} (hl : ∀ x ∈ l, ∀ d, x.dst = some d → d < n) {K : Frame → List AObj → Prop} : ∀ (lin : List (Nat × List Nat)) (fr : Frame) (σ : List AObj), keysLt n fr → adraw P l lin fr σ K → adraw P l lin fr σ fun f s => keysLt n f ∧ K f s
  | [], fr, σ, hf, h => ⟨hf, h⟩
  | (i, nd) :: r, fr, σ, hf, h => by
    unfold adraw at *
    split at h
    · rename_i x hx
      refine aop_move (fun _ _ => rfl) (fun u s hs => ?_) h
      rw [keeps_iff] at hs ⊢
      refine ⟨hs.1, adraw_keys hl r _ s (fun p hp => ?_) hs.2⟩
      unfold aput at hp
      split at hp
      · rename_i d hd
        rcases List.mem_cons.1 hp with rfl | hp
        · exact hl x (List.mem_of_getElem? hx) d hd
        · exact hf p hp
      · exact hf p hp
    · exact h
theorem adraw_mono {l : List Ai} {K K' : Frame → List AObj → Prop} (hk : ∀ f s, K f s → K' f s) : ∀ (lin : List (Nat × List Nat)) (fr : Frame) (σ : List AObj), adraw P l lin fr σ K → adraw P l lin fr σ K'
  | [], fr, σ, h => hk _ _ h
  | (i, nd) :: r, fr, σ, h => by
    unfold adraw at *
    split at h
    · refine aop_mono (fun f s hs => ?_) h
      rw [keeps_iff] at hs ⊢
      exact ⟨hs.1, adraw_mono hk r _ s hs.2⟩
    · exact h
inductive Ex where
  | normal
  | exit (id : Nat)
  | ret

def awp (P : Program) : AC → (Ex → Frame → List AObj → Prop) → Frame → List AObj → Prop
  | .skip, Q, fr, σ => Q .normal fr σ
  | .ops l, Q, fr, σ => aops P l fr σ (Q .normal)
  | .draw l after lin cl, Q, fr, σ => match linOk l after lin cl with
    | true => adraw P l lin fr σ (Q .normal)
    | false => match twoOk l after lin cl with
      | true => adraw P l (lin.take (twoK cl)) fr σ fun f s => adraw P l ((lin.take after.length).drop (twoK cl)) f s (Q .normal) ∧ adraw P l (lin.drop after.length) f s (Q .normal)
      | false => False
  | .seq a b, Q, fr, σ => awp P a (fun | .normal, fr', σ' => awp P b Q fr' σ' | e, fr', σ' => Q e fr' σ') fr σ
  | .cond c a b, Q, fr, σ => condC (ev fr c) (awp P a Q fr σ) (awp P b Q fr σ)
  | .block id a, Q, fr, σ => awp P a (fun | .exit id', fr', σ' => if id' = id then Q .normal fr' σ' else Q (.exit id') fr' σ' | e, fr', σ' => Q e fr' σ') fr σ
  | .loop lv dd a, Q, fr, σ => loopC (lv.map (getS fr)) σ fun vs σ' again =>
      awp P a (fun | .normal, f, s => again (lv.map (getS f)) s | e, f, s => Q e f s) (setS (kill fr dd) lv vs) σ'
  | .rangeF g ps a b, Q, fr, σ => rangeFC P (ev fr g) ps.length σ (fun x s id r0 rb next =>
      awp P a (fun | .normal, f, s1 => s1[id]? = some r0 ∧ awp P b (fun | .normal, _, s2 => s2[id]? = some rb ∧ next (s2.set id r0) | _, _, _ => False) f (s1.set id rb) | _, _, _ => False) (putF fr ps x) s) fun s => Q .normal fr s
  | .exit id, Q, fr, σ => Q (.exit id) fr σ
  | .ret, Q, fr, σ => Q .ret fr σ

open Go.RowKit
section
variable {P : Program} {ro : Option Nat} {rm : Nat}

def Agree (A : List Nat) (a a' : Act) : Prop := a'.tmps.size = a.tmps.size ∧ ∀ i, i ∉ A → a'.tmps[i]? = a.tmps[i]?
theorem Agree.refl (A : List Nat) (a : Act) : Agree A a a := ⟨rfl, fun _ _ => rfl⟩
theorem Agree.trans {A B : List Nat} {a b c : Act} (h : Agree A a b) (k : Agree B b c) : Agree (A ++ B) a c := ⟨k.1.trans h.1, fun i hi => by
  simp only [List.mem_append, not_or] at hi
  exact (k.2 i hi.2).trans (h.2 i hi.1)⟩
theorem Agree.mono {A B : List Nat} {a b : Act} (h : Agree A a b) (hs : ∀ i ∈ A, i ∈ B) : Agree B a b := ⟨h.1, fun i hi => h.2 i (fun hA => hi (hs i hA))⟩
theorem Agree.put (a : Act) (dst : Option Nat) (v : Value) : Agree dst.toList a (a.put dst v) := ⟨by cases dst <;> simp [Act.put], fun i hi => by
  cases dst with
  | none => rfl
  | some d =>
    simp at hi
    simp only [Act.put, Array.getElem?_setIfInBounds]
    rw [if_neg (fun e => hi e.symm)]⟩

def asg : AC → List Nat
  | .ops l => l.filterMap (·.dst)
  | .draw l _ _ _ => l.filterMap (·.dst)
  | .seq a b => asg a ++ asg b
  | .cond _ a b => asg a ++ asg b
  | .block _ a => asg a
  | .loop _ _ a => asg a
  | _ => []
def dstOk (n : Nat) (x : Ai) : Bool := match x.dst with | none => true | some d => Nat.blt d n
def nodup : List Nat → Bool
  | [] => true
  | a :: l => l.all (fun b => Nat.blt a b || Nat.blt b a) && nodup l
theorem nodup_spec : ∀ {l : List Nat}, nodup l = true → l.Nodup
  | [], _ => .nil
  | a :: l, h => by
    simp only [nodup, Bool.and_eq_true, List.all_eq_true, Bool.or_eq_true, Nat.blt_eq] at h
    exact List.nodup_cons.2 ⟨fun hm => by have := h.1 a hm; omega, nodup_spec h.2⟩
def AC.noRF : AC → Bool
  | .seq a b => a.noRF && b.noRF
  | .cond _ a b => a.noRF && b.noRF
  | .block _ a => a.noRF
  | .loop _ _ a => a.noRF
  | .rangeF .. => false
  | _ => true
def AC.ok (n : Nat) : AC → Bool
  | .ops l => l.all (dstOk n)
  | .draw l _ _ _ => l.all (dstOk n)
  | .seq a b => a.ok n && b.ok n
  | .cond _ a b => a.ok n && b.ok n
  | .block _ a => a.ok n
  | .rangeF _ ps a b => a.ok n && b.ok n && a.noRF && b.noRF && ps.all fun i => Nat.blt i n
  | .loop lv dd a => a.ok n && nodup lv && lv.all (fun i => Nat.blt i n) && dd.all (fun i => Nat.blt i n) && (asg a).all fun i => lv.contains i || dd.contains i
  | _ => true
theorem dstOk_lt {n : Nat} {x : Ai} (h : dstOk n x = true) (d : Nat) (hd : x.dst = some d) : d < n := by
  simp only [dstOk, hd] at h
  rwa [Nat.blt_eq] at h

abbrev Then (A : List Nat) (a : Act) (L : Nat → Loc) (σ : List AObj) (w : World) (K : Frame → List AObj → Prop) (next : Act → World → Prop) : Prop :=
  ∀ fr' L' σ' a' w', Step L σ w L' σ' w' → Sim L' σ' w' → FR w' L' σ' fr' a'.tmps → a'.defers = a.defers → Agree A a a' → K fr' σ' → next a' w'

theorem FR.aput {w : World} {L : Nat → Loc} {σ : List AObj} {fr : Frame} {a : Act} (h : FR w L σ fr a.tmps) {x : AV} {v : Value} (hv : RV w L σ x v) {dst : Option Nat} (hd : ∀ d, dst = some d → d < a.tmps.size) : FR w L σ (aput fr dst x) (a.put dst v).tmps := by
  cases dst with
  | none => exact h
  | some d => exact h.put (hd d rfl) hv
theorem put_defers (a : Act) (dst : Option Nat) (v : Value) : (a.put dst v).defers = a.defers := by cases dst <;> rfl

theorem aop_sound {ops : Array Oper} {i : Nat} {x : Ai} {o : Oper} {fr : Frame} {σ : List AObj} {L : Nat → Loc} {w : World} {a : Act} {K : Frame → List AObj → Prop} {next : Act → World → Prop} {Q : Exit → Act → World → Prop}
    (ho : ops[i]? = some o) (hc : compO P ops o = some x.norm) (S : Sim L σ w) (F : FR w L σ fr a.tmps) (h : aop P x fr σ K) (hdst : ∀ d, x.dst = some d → d < a.tmps.size) (hk : Then x.dst.toList a L σ w K next) : wpOpIn (Fr ro) rm P ops Q i next a w := by
  unfold wpOpIn
  simp only [ho]
  simp only [compO, Option.bind_eq_bind, Option.bind_eq_some_iff] at hc
  obtain ⟨i', hi, hc⟩ := hc
  have step1 : ∀ {K' : AV → List AObj → Prop}, astep P x.i fr σ (fun r σ' => K (aput fr x.dst r) σ') → i' = x.i.norm → o.dst = x.dst → o.wpIn (Fr ro) rm P a w next Q := fun {K'} h1 e1 e2 => by
    subst e1
    refine (astep_sound hi S F h1).wpIn (fun c hd => by simp [compI, hd] at hi) fun r v L' σ' w' s S' hr hK => ?_
    rw [e2]
    exact hk _ L' σ' _ w' s S' ((s.fr F).aput hr hdst) (put_defers _ _ _) (Agree.put _ _ _) hK
  have skip1 : o.dst = x.dst → K (aput fr x.dst (.tup [])) σ → next (a.put o.dst undef) w := fun e2 hK => by
    rw [e2]
    exact hk _ L σ _ w (Step.refl _ _ _) S (F.aput (.tup [] [] rfl (by simp)) hdst) (put_defers _ _ _) (Agree.put _ _ _) hK
  split at hc
  · rename_i hg
    simp only [Option.pure_def, Option.some.injEq] at hc
    have hx1 : x.norm.g = none := by rw [← hc]
    have hx2 : i' = x.i.norm := by have := congrArg Ai.i hc; exact this
    have hx3 : o.dst = x.dst := by have := congrArg Ai.dst hc; exact this
    have hxg : x.g = none := hx1
    simp only [aop, hxg] at h
    rw [if_pos (by simp [Region.wanted, hg])]
    exact (step1 (K' := fun _ _ => True) h hx2 hx3)
  · rename_i j want hg
    simp only [Option.bind_eq_some_iff, Option.pure_def, Option.some.injEq] at hc
    obtain ⟨oj, hoj, d, hd, hc⟩ := hc
    have hx2 : i' = x.i.norm := by have := congrArg Ai.i hc; exact this
    have hx3 : o.dst = x.dst := by have := congrArg Ai.dst hc; exact this
    have hxg : x.g = some (d, want) := by have := congrArg Ai.g hc; exact this.symm
    simp only [aop, hxg] at h
    have hyl : yielded ops a.tmps j = match a.tmps[d]? with | some (.bool b) => some b | _ => none := by
      simp only [yielded, hoj, hd, Option.bind_some]; rfl
    have hw : Region.wanted o (yielded ops a.tmps) = (yielded ops a.tmps j == some want) := by simp [Region.wanted, hg]
    have hat : ∀ {c}, getS fr d = c → c ≠ .undef → ∃ v, a.tmps[d]? = some v ∧ RV w L σ c v := fun {c} hc hne => by
      have hl : d < a.tmps.size := by
        rcases Nat.lt_or_ge d a.tmps.size with h | h
        · exact h
        · exact absurd (hc.symm.trans (getS_none (fun p hp e => by have := F.keys p hp; omega))) hne
      have hv : a.tmps[d]? = some a.tmps[d] := Array.getElem?_eq_getElem _
      exact ⟨_, hv, hc ▸ F.at_ d _ hv⟩
    unfold guardC at h
    split at h
    · rename_i b hfr
      obtain ⟨v, hv, hr⟩ := hat hfr (fun e => by cases e)
      have hb := hr.bool_inv
      subst hb
      rw [hw, hyl, hv]
      by_cases hbw : b = want
      · subst hbw
        rw [if_pos (by simp)]
        exact (step1 (K' := fun _ _ => True) (h.1 (by simp)) hx2 hx3)
      · rw [if_neg (by simpa using hbw)]
        exact ⟨fun _ _ => trivial, skip1 hx3 (h.2 (by simpa using hbw))⟩
    · rename_i hfr
      obtain ⟨v, hv, hr⟩ := hat hfr (fun e => by cases e)
      have hb := hr.nil_tup
      subst hb
      rw [hw, hyl, hv, if_neg (by simp)]
      exact ⟨fun _ _ => trivial, skip1 hx3 h⟩
    · exact h.elim

theorem aops_sound {ops : Array Oper} {Q : Exit → Act → World → Prop} : ∀ (l : List Ai) (s : Nat) (fr : Frame) (σ : List AObj) (L : Nat → Loc) (w : World) (a : Act) (K : Frame → List AObj → Prop),
    l.length + s = ops.size → (∀ (k : Nat) x, l[k]? = some x → ∃ o, ops[s + k]? = some o ∧ compO P ops o = some x.norm) → Sim L σ w → FR w L σ fr a.tmps → l.all (dstOk a.tmps.size) = true → aops P l fr σ K → Then (l.filterMap (·.dst)) a L σ w K (Q .normal) → wpOpsIn (Fr ro) rm P ops Q (List.range' s l.length) a w
  | [], s, fr, σ, L, w, a, K, _, _, S, F, _, h, hk => by
    simp only [List.length_nil, List.range'_zero, wpOpsIn]
    exact hk fr L σ a w (Step.refl _ _ _) S F rfl (Agree.refl _ _) h
  | x :: l, s, fr, σ, L, w, a, K, hl, hx, S, F, hok, h, hk => by
    simp only [List.all_cons, Bool.and_eq_true] at hok
    simp only [List.length_cons] at hl ⊢
    rw [List.range'_succ, wpOpsIn_cons]
    obtain ⟨o, ho, hc⟩ := hx 0 x rfl
    refine aop_sound ho hc S F h (dstOk_lt hok.1) fun fr' L' σ' a' w' st S' F' hd hag hK => ?_
    refine aops_sound l (s + 1) fr' σ' L' w' a' K (by omega) (fun k y hy => ?_) S' F' (by rw [hag.1]; exact hok.2) hK fun fr2 L2 σ2 a2 w2 st2 S2 F2 hd2 hag2 hK2 => hk fr2 L2 σ2 a2 w2 (st.trans st2) S2 F2 (hd2.trans hd) ((hag.trans hag2).mono fun i hi => by
      cases hx' : x.dst <;> simp_all) hK2
    obtain ⟨o', ho', hc'⟩ := hx (k + 1) y hy
    exact ⟨o', by rw [← ho']; congr 1; omega, hc'⟩

theorem ready_eq {ops : Array Oper} {after : List (List Nat)} (ha : after = ops.toList.map deps) (listed : Array Bool) (l' : List Bool) (hl : l' = listed.toList) :
    aready after l' = Region.ready .any ops listed := by
  subst ha hl
  unfold aready Region.ready
  simp only [List.length_map, Array.length_toList]
  apply List.filter_congr
  intro i hi
  have hi' : i < ops.size := List.mem_range.1 hi
  have e1 : listed.toList.getD i true = listed.getD i true := by simp [List.getD, Array.getD, Array.getElem?_toList]; split <;> simp_all
  rw [e1]
  congr 1
  have e2 : (ops.toList.map deps).getD i [] = deps ops[i] := by simp [List.getD, hi']
  rw [e2]
  simp only [Array.getElem?_eq_getElem hi', Option.map_some, Option.getD_some, deps]
  have key : ∀ k, listed.toList.getD k false = listed.getD k false := fun k => by simp [List.getD, Array.getD, Array.getElem?_toList]; split <;> simp_all
  rw [Bool.eq_iff_iff]
  simp only [List.all_eq_true, List.mem_map, List.mem_filter, Array.all_eq_true', Bool.or_eq_true, Bool.not_eq_true', key]
  constructor
  · intro h e he
    by_cases hb : Region.binds .any e = true
    · exact .inr (h e.on ⟨e, ⟨by simpa using he, hb⟩, rfl⟩)
    · left; simpa using hb
  · rintro h x ⟨e, ⟨he, hb⟩, rfl⟩
    rcases h e (by simpa using he) with h1 | h1
    · rw [hb] at h1; cases h1
    · exact h1

theorem aany_sound {ops : Array Oper} {Q : Exit → Act → World → Prop} {l : List Ai} {after : List (List Nat)} (ha : after = ops.toList.map deps) (hl : l.length = ops.size)
    (hx : ∀ (k : Nat) x, l[k]? = some x → ∃ o, ops[k]? = some o ∧ compO P ops o = some x.norm) : ∀ (n : Nat) (listed : Array Bool) (l' : List Bool) (fr : Frame) (σ : List AObj) (L : Nat → Loc) (w : World) (a : Act) (K : Frame → List AObj → Prop),
    l' = listed.toList → Sim L σ w → FR w L σ fr a.tmps → l.all (dstOk a.tmps.size) = true → aany P l after K n l' fr σ → Then (l.filterMap (·.dst)) a L σ w K (Q .normal) → wpAnyIn (Fr ro) rm P .any ops Q n listed a w
  | 0, listed, l', fr, σ, L, w, a, K, e, S, F, _, h, hk => by
    have hr := ready_eq ha listed l' e
    exact ⟨by rw [← hr]; exact h.1, hk fr L σ a w (Step.refl _ _ _) S F rfl (Agree.refl _ _) h.2⟩
  | n + 1, listed, l', fr, σ, L, w, a, K, e, S, F, hok, h, hk => by
    have hr := ready_eq ha listed l' e
    refine ⟨fun h0 => hk fr L σ a w (Step.refl _ _ _) S F rfl (Agree.refl _ _) (h.1 (by rw [hr]; exact h0)), fun i hi => ?_⟩
    have h2 := h.2 i (by rw [hr]; exact hi)
    split at h2
    · rename_i x hxi
      obtain ⟨o, ho, hc⟩ := hx i x hxi
      refine aop_sound ho hc S F h2 (dstOk_lt (List.all_eq_true.1 hok x (List.mem_of_getElem? hxi))) fun fr' L' σ' a' w' st S' F' hd hag hK => ?_
      exact aany_sound ha hl hx n (listed.setIfInBounds i true) (l'.set i true) fr' σ' L' w' a' K (by rw [e]; simp) S' F' (by rw [hag.1]; exact hok) hK fun fr2 L2 σ2 a2 w2 st2 S2 F2 hd2 hag2 hK2 => hk fr2 L2 σ2 a2 w2 (st.trans st2) S2 F2 (hd2.trans hd) ((hag.trans hag2).mono fun j hj => by
        rcases List.mem_append.1 hj with h | h
        · exact List.mem_filterMap.2 ⟨x, List.mem_of_getElem? hxi, by simpa using h⟩
        · exact h) hK2
    · exact h2.elim

def markOf (D : Nat) : Deferred := { target := .collected D, args := #[] }
def Marks (b0 : Nat) (ds : List Deferred) (L : Nat → Loc) (σ : List AObj) (w : World) : Prop :=
  b0 ≤ w.heap.size ∧ ∃ Ds : List Nat, ds = Ds.map markOf ∧ Ds.Nodup ∧ ∀ D ∈ Ds, b0 ≤ D ∧ w.heap[D]? = some (.deferred (some [])) ∧ ∀ o, ¬ Own L σ D o
theorem Marks.step {b0 : Nat} {ds : List Deferred} {L L' : Nat → Loc} {σ σ' : List AObj} {w w' : World} (h : Marks b0 ds L σ w) (s : Step L σ w L' σ' w') : Marks b0 ds L' σ' w' := by
  obtain ⟨h0, Ds, h1, h2, h3⟩ := h
  refine ⟨Nat.le_trans h0 s.size, Ds, h1, h2, fun D hD => ?_⟩
  obtain ⟨k1, k2, k3⟩ := h3 D hD
  have hlt := (Array.getElem?_eq_some_iff.1 k2).1
  exact ⟨k1, (s.blk D hlt k3).trans k2, fun o ho => k3 o (s.own D o hlt ho)⟩
structure Holds (b0 : Nat) (A : List Nat) (a0 : Act) (L : Nat → Loc) (σ : List AObj) (w : World) (Q : Frame → List AObj → Prop) (a : Act) (w' : World) : Prop where
  ex : ∃ L' σ' fr', Step L σ w L' σ' w' ∧ Sim L' σ' w' ∧ FR w' L' σ' fr' a.tmps ∧ Marks b0 a.defers L' σ' w' ∧ Agree A a0 a ∧ Q fr' σ'
def lift (b0 : Nat) (A : List Nat) (a0 : Act) (L : Nat → Loc) (σ : List AObj) (w : World) (Q : Ex → Frame → List AObj → Prop) : Exit → Act → World → Prop
  | .normal, a, w' => Holds b0 A a0 L σ w (Q .normal) a w'
  | .exit id, a, w' => Holds b0 A a0 L σ w (Q (.exit id)) a w'
  | .ret, a, w' => Holds b0 A a0 L σ w (Q .ret) a w'
  | _, _, _ => False


theorem Holds.widen {b0 : Nat} {A B : List Nat} {a0 a1 : Act} {L L1 : Nat → Loc} {σ σ1 : List AObj} {w w1 : World} {Q : Frame → List AObj → Prop} {a : Act} {w' : World} (st : Step L σ w L1 σ1 w1) (hag : Agree A a0 a1) (h : Holds b0 B a1 L1 σ1 w1 Q a w') : Holds b0 (A ++ B) a0 L σ w Q a w' := by
  obtain ⟨L', σ', fr', s, S, F, hd, hg, hq⟩ := h
  exact ⟨L', σ', fr', st.trans s, S, F, hd, hag.trans hg, hq⟩
theorem Holds.more {b0 : Nat} {A B : List Nat} {a0 : Act} {L : Nat → Loc} {σ : List AObj} {w : World} {Q : Frame → List AObj → Prop} {a : Act} {w' : World} (h : Holds b0 A a0 L σ w Q a w') (hs : ∀ i ∈ A, i ∈ B) : Holds b0 B a0 L σ w Q a w' := by
  obtain ⟨L', σ', fr', s, S, F, hd, hg, hq⟩ := h
  exact ⟨L', σ', fr', s, S, F, hd, hg.mono hs, hq⟩

theorem mapO {ops : Array Oper} {l : List Ai} (h : ops.toList.mapM (compO P ops) = some (l.map Ai.norm)) : l.length = ops.size ∧ ∀ (k : Nat) x, l[k]? = some x → ∃ o, ops[k]? = some o ∧ compO P ops o = some x.norm := by
  obtain ⟨h1, h2⟩ := mapM_some h
  have hl : l.length = ops.size := by simpa using h1
  refine ⟨hl, fun k x hk => ?_⟩
  have hlt := lt_of_get hk
  have ho : ops[k]? = some (ops[k]'(by omega)) := Array.getElem?_eq_getElem _
  exact ⟨_, ho, h2 k _ x.norm (by simpa using ho) (by simp [hk])⟩

theorem getS_kill : ∀ (dd : List Nat) (fr : Frame) (i : Nat), getS (kill fr dd) i = if i ∈ dd then .undef else getS fr i
  | [], fr, i => by simp [kill]
  | j :: dd, fr, i => by
    simp only [kill]
    rw [getS_kill dd _ i, getS_cons]
    by_cases h1 : i ∈ dd
    · simp [h1]
    · by_cases h2 : i = j <;> simp [h1, h2]
theorem keys_kill : ∀ (dd : List Nat) (fr : Frame) {n : Nat}, (∀ p ∈ fr, p.1 < n) → (∀ i ∈ dd, i < n) → ∀ p ∈ kill fr dd, p.1 < n
  | [], fr, n, h, _ => h
  | j :: dd, fr, n, h, hd => keys_kill dd _ (fun p hp => by
      rcases List.mem_cons.1 hp with rfl | hp
      · exact hd j (by simp)
      · exact h p hp) (fun i hi => hd i (by simp [hi]))
theorem keys_setS : ∀ (lv : List Nat) (fr : Frame) (vs : List AV) {n : Nat}, (∀ p ∈ fr, p.1 < n) → (∀ i ∈ lv, i < n) → ∀ p ∈ setS fr lv vs, p.1 < n
  | [], fr, _, n, h, _ => h
  | j :: lv, fr, vs, n, h, hd => keys_setS lv _ _ (fun p hp => by
      rcases List.mem_cons.1 hp with rfl | hp
      · exact hd j (by simp)
      · exact h p hp) (fun i hi => hd i (by simp [hi]))
theorem getS_setS (g : Nat → AV) : ∀ (lv : List Nat) (fr : Frame) (i : Nat), getS (setS fr lv (lv.map g)) i = if i ∈ lv then g i else getS fr i
  | [], fr, i => by simp [setS]
  | j :: lv, fr, i => by
    simp only [List.map_cons, setS, List.drop_succ_cons, List.drop_zero]
    rw [getS_setS g lv _ i, getS_cons]
    by_cases h1 : i ∈ lv
    · simp [h1]
    · by_cases h2 : i = j
      · subst h2; simp [h1, List.getD]
      · simp [h1, h2]

theorem FR.head {w : World} {L : Nat → Loc} {σ : List AObj} {fr fr' : Frame} {a a' : Act} {A lv dd : List Nat} (F : FR w L σ fr a.tmps) (F' : FR w L σ fr' a'.tmps) (hag : Agree A a a') (hA : ∀ i ∈ A, i ∈ lv ∨ i ∈ dd)
    (h1 : ∀ i ∈ lv, i < a.tmps.size) (h2 : ∀ i ∈ dd, i < a.tmps.size) : FR w L σ (setS (kill fr dd) lv (lv.map (getS fr'))) a'.tmps := by
  refine ⟨fun i v hv => ?_, by rw [hag.1]; exact keys_setS lv _ _ (keys_kill dd _ F.keys h2) h1⟩
  rw [getS_setS, getS_kill]
  split
  · exact F'.at_ i v hv
  · rename_i hi
    split
    · exact .undef v
    · rename_i hd
      have hA' : i ∉ A := fun h => (hA i h).elim hi hd
      rw [hag.2 i hA'] at hv
      exact F.at_ i v hv

theorem weak_sound {vs vs' : List AV} {σ σ' : List AObj} (hw : Weak vs σ vs' σ') : ∀ {L : Nat → Loc} {w : World} {us : List Value}, Sim L σ w → RVs w L σ vs us → ∃ L', Step L σ w L' σ' w ∧ Sim L' σ' w ∧ RVs w L' σ' vs' us := by
  have setv : ∀ {L : Nat → Loc} {w : World} {σ : List AObj} {vs : List AV} {us : List Value} {i : Nat} {a : AV}, RVs w L σ vs us → (∀ u, us[i]? = some u → RV w L σ a u) → RVs w L σ (vs.set i a) us := fun {L w σ vs us i a} h ha => by
    refine ⟨by rw [List.length_set]; exact h.1, fun j c u hc hu => ?_⟩
    rw [List.getElem?_set] at hc
    split at hc
    · rename_i e; subst e
      split at hc
      · cases hc; exact ha u hu
      · cases hc
    · exact h.2 j c u hc hu
  induction hw with
  | refl vs σ => intro L w us S hv; exact ⟨L, Step.refl _ _ _, S, hv⟩
  | tok i es sz hi hes _ ih =>
    rename_i vs σ vs' σ'
    intro L w us S hv
    have hlt := lt_of_get hi
    have hu : us[i]? = some (us[i]'(by rw [hv.1]; exact hlt)) := List.getElem?_eq_getElem _
    obtain ⟨a, hv', hrd, ha, hs⟩ := exact_inv (hv.2 i _ _ hi hu)
    obtain ⟨st, S2⟩ := add_tok S sz es.length a ha hs
    obtain ⟨L', s', S', h'⟩ := ih S2 (setv ⟨hv.1, fun j c u hc hu => st.rv (hv.2 j c u hc hu)⟩ fun u hu' => by
      rw [hu] at hu'; cases hu'
      refine .own _ _ _ sz es.length (by simp) (Nat.le_refl _) hes (st.rd hrd) fun _ => ?_
      rw [hv', Lput_same]
      cases a <;> rfl)
    exact ⟨L', st.trans s', S', h'⟩
  | row i sz hi hsz _ ih =>
    rename_i vs σ vs' σ'
    intro L w us S hv
    have hlt := lt_of_get hi
    have hu : us[i]? = some (us[i]'(by rw [hv.1]; exact hlt)) := List.getElem?_eq_getElem _
    obtain ⟨a, hv', hrd, ha, hs⟩ := exact_inv (hv.2 i _ _ hi hu)
    obtain ⟨st, S2, hr⟩ := add_row S sz hsz a
    obtain ⟨L', s', S', h'⟩ := ih S2 (setv ⟨hv.1, fun j c u hc hu => st.rv (hv.2 j c u hc hu)⟩ fun u hu' => by
      rw [hu] at hu'; cases hu'
      rw [hv']; exact hr)
    exact ⟨L', st.trans s', S', h'⟩
  | tokB id j cs es sz hid hj hes _ ih =>
    rename_i vs σ vs' σ'
    intro L w us S hv
    obtain ⟨L1, st, S1⟩ := box_tok S hid hj sz hes
    obtain ⟨L', s', S', h'⟩ := ih S1 ⟨hv.1, fun j c u hc hu => st.rv (hv.2 j c u hc hu)⟩
    exact ⟨L', st.trans s', S', h'⟩
  | rowB id j cs sz hid hj hsz _ ih =>
    rename_i vs σ vs' σ'
    intro L w us S hv
    obtain ⟨L1, st, S1⟩ := box_row S hid hj sz hsz
    obtain ⟨L', s', S', h'⟩ := ih S1 ⟨hv.1, fun j c u hc hu => st.rv (hv.2 j c u hc hu)⟩
    exact ⟨L', st.trans s', S', h'⟩
  | cut i t g sz lo hi cs hi' ht _ ih =>
    rename_i vs σ vs' σ'
    intro L w us S hv
    have hlt := lt_of_get hi'
    have hu : us[i]? = some (us[i]'(by rw [hv.1]; exact hlt)) := List.getElem?_eq_getElem _
    obtain ⟨st, S1, hr⟩ := row_cut S ht (hv.2 i _ _ hi' hu)
    obtain ⟨L', s', S', h'⟩ := ih S1 (setv ⟨hv.1, fun j c u hc hu => st.rv (hv.2 j c u hc hu)⟩ fun u hu' => by
      rw [hu] at hu'; cases hu'
      exact hr)
    exact ⟨L', st.trans s', S', h'⟩
  | data i c es hi hc _ ih =>
    rename_i vs σ vs' σ'
    intro L w us S hv
    have hlt := lt_of_get hi
    have hu : us[i]? = some (us[i]'(by rw [hv.1]; exact hlt)) := List.getElem?_eq_getElem _
    have hrd := (hv.2 i _ _ hi hu).esOf_inv hc
    exact ih S (setv hv fun u hu' => by rw [hu] at hu'; cases hu'; exact .d _ _ hrd)
  | dataB id j cs c es hid hj hc _ ih =>
    rename_i vs σ vs' σ'
    intro L w us S hv
    obtain ⟨_, _, hcells⟩ := S.obj id _ hid
    obtain ⟨_, u, hu, hr⟩ := hcells j _ hj
    obtain ⟨st, S1⟩ := box_retell' S hid hj (c' := .d (.slice es)) (fun v hv => by
      rw [hu] at hv; cases hv
      exact .d _ _ (hr.esOf_inv hc))
    obtain ⟨L', s', S', h'⟩ := ih S1 ⟨hv.1, fun j c u hc hu => st.rv (hv.2 j c u hc hu)⟩
    exact ⟨L', st.trans s', S', h'⟩
  | dataR t j g sz cs c es ht hj hc _ ih =>
    rename_i vs σ vs' σ'
    intro L w us S hv
    obtain ⟨st, S1⟩ := row_retell S ht hj (c' := .d (.slice es)) rfl (fun v hv => .d _ _ (hv.esOf_inv hc))
    obtain ⟨L', s', S', h'⟩ := ih S1 ⟨hv.1, fun j c u hc hu => st.rv (hv.2 j c u hc hu)⟩
    exact ⟨L', st.trans s', S', h'⟩

theorem nodup_fun : ∀ {lv : List Nat} {vs : List AV}, lv.Nodup → vs.length = lv.length → ∃ g : Nat → AV, lv.map g = vs
  | [], vs, _, h => ⟨fun _ => .undef, by rw [List.eq_nil_of_length_eq_zero (l := vs) (by simpa using h)]; rfl⟩
  | i :: lv, [], _, h => by simp at h
  | i :: lv, v :: vs, hn, h => by
    rw [List.nodup_cons] at hn
    obtain ⟨g, hg⟩ := nodup_fun hn.2 (vs := vs) (by simpa using h)
    refine ⟨fun k => if k = i then v else g k, ?_⟩
    simp only [List.map_cons, if_true, List.cons.injEq, true_and]
    rw [← hg]
    exact List.map_congr_left fun k hk => by rw [if_neg (fun e : k = i => hn.1 (e ▸ hk))]

theorem FR.retold {w : World} {L L' : Nat → Loc} {σ σ' : List AObj} {fr : Frame} {ts : Array Value} (F : FR w L σ fr ts) (s : Step L σ w L' σ' w) {lv : List Nat} (hn : lv.Nodup) (hlt : ∀ i ∈ lv, i < ts.size) {vs' : List AV} (hv : RVs w L' σ' vs' (lv.map fun i => ts.getD i undef)) :
    ∃ fr', FR w L' σ' fr' ts ∧ lv.map (getS fr') = vs' := by
  obtain ⟨g, rfl⟩ := nodup_fun (vs := vs') hn (by have := hv.1; simpa using this.symm)
  refine ⟨setS fr lv (lv.map g), ⟨fun i v hi => ?_, keys_setS lv _ _ F.keys hlt⟩, List.map_congr_left fun i hi => by rw [getS_setS, if_pos hi]⟩
  rw [getS_setS]
  split
  · rename_i hm
    obtain ⟨k, hk⟩ := List.mem_iff_getElem?.1 hm
    refine hv.2 k (g i) v (by simp [hk]) ?_
    simp only [List.getElem?_map, hk, Option.map_some, Option.some.injEq]
    have := (Array.getElem?_eq_some_iff.1 hi).1
    rw [Array.getElem?_eq_getElem this] at hi
    simp [Array.getD, this]
    exact Option.some.inj hi
  · exact s.rv (F.at_ i v hi)

theorem wpIn_any {ro : Option Nat} {n m : Nat} {c : Code} {Q : Exit → Act → World → Prop} {a : Act} {w : World} (h : c.wpIn (Fr ro) n P Q a w) : c.wpIn (Fr ro) m P Q a w := fun b k cs h1 h2 _ => h b k cs h1 h2 (room_fr _ _)
theorem putF_sound {L : Nat → Loc} {σ : List AObj} {w : World} : ∀ (ps : List Nat) (xs : List AV) (us : List Value) (fr : Frame) (ts : Array Value), FR w L σ fr ts → (∀ p ∈ ps, p < ts.size) → RVs w L σ xs us → xs.length = ps.length →
    FR w L σ (putF fr ps xs) ((ps.zip us).foldl (fun t (p : Nat × Value) => t.setIfInBounds p.1 p.2) ts) ∧ ((ps.zip us).foldl (fun t (p : Nat × Value) => t.setIfInBounds p.1 p.2) ts).size = ts.size
  | [], xs, us, fr, ts, F, _, _, _ => by simpa [putF] using F
  | p :: ps, [], us, fr, ts, F, _, _, h => by simp at h
  | p :: ps, x :: xs, [], fr, ts, F, _, hv, _ => by have := hv.1; simp at this
  | p :: ps, x :: xs, u :: us, fr, ts, F, hp, hv, h => by
    have F1 := F.put (i := p) (hp p (.head _)) (hv.2 0 x u rfl rfl)
    obtain ⟨g1, g2⟩ := putF_sound ps xs us ((p, x) :: fr) (ts.setIfInBounds p u) F1 (fun q hq => by simpa using hp q (.tail _ hq)) ⟨by have := hv.1; simpa using this, fun i c v hc hv' => hv.2 (i + 1) c v (by simpa using hc) (by simpa using hv')⟩ (by simpa using h)
    exact ⟨by simpa [putF] using g1, by simpa using g2⟩
theorem awp_sound (hP : P.follows .mixedOrders = true) : ∀ (c : Code) (ro : Option Nat) (b0 : Nat) (ac : AC) (Q : Ex → Frame → List AObj → Prop) (fr : Frame) (σ : List AObj) (L : Nat → Loc) (w : World) (a : Act),
    comp P c = some ac.norm → ac.ok a.tmps.size = true → (ac.noRF = true ∨ ro = none) → awp P ac Q fr σ → Sim L σ w → FR w L σ fr a.tmps → Marks b0 a.defers L σ w → c.wpIn (Fr ro) rm P (lift b0 (asg ac) a L σ w Q) a w := by
  intro c
  induction c with
  | skip =>
    intro ro b0 ac Q fr σ L w a hc hok hr h S F hd
    simp only [comp, Option.some.injEq] at hc
    cases ac <;> simp only [AC.norm] at hc <;> cases hc
    exact wpIn_skip ⟨L, σ, fr, Step.refl _ _ _, S, F, hd, Agree.refl _ _, h⟩
  | region id ops draw =>
    intro ro b0 ac Q fr σ L w a hc hok hr h S F hd
    cases draw
    · simp only [comp, Option.bind_eq_bind, Option.bind_eq_some_iff, Option.pure_def, Option.some.injEq] at hc
      obtain ⟨l', hl', hc⟩ := hc
      cases ac <;> simp only [AC.norm] at hc <;> cases hc
      rename_i l
      obtain ⟨hl, hx⟩ := mapO hl'
      refine wpIn_region ?_
      rw [List.range_eq_range', ← hl]
      exact aops_sound l 0 fr σ L w a (Q .normal) (by omega) (fun k x hk => by rw [Nat.zero_add]; exact hx k x hk) S F hok h fun fr' L' σ' a' w' st S' F' hd' hag hK => ⟨L', σ', fr', st, S', F', (by rw [hd']; exact hd.step st), hag, hK⟩
    · simp only [comp, Option.bind_eq_bind, Option.bind_eq_some_iff, Option.pure_def, Option.some.injEq] at hc
      obtain ⟨l', hl', hc⟩ := hc
      cases ac <;> simp only [AC.norm] at hc <;> cases hc
      rename_i l lin cl
      obtain ⟨hl, hx⟩ := mapO hl'
      obtain ⟨S1, s1⟩ := S.drew (w.drawn + 1)
      refine wpIn_region_any hP ?_
      simp only [awp] at h
      have h2 : aany P l (ops.toList.map deps) (fun f s => ∃ f0, FEq f0 f ∧ keysLt a.tmps.size f0 ∧ Q .normal f0 s) (ops.toList.map deps).length (List.replicate (ops.toList.map deps).length false) fr σ := by
        have hkey : ∀ x ∈ l, ∀ d, x.dst = some d → d < a.tmps.size := fun x hxl d hd => dstOk_lt (List.all_eq_true.1 hok x hxl) d hd
        have hFE : FE fun f s => ∃ f0, FEq f0 f ∧ keysLt a.tmps.size f0 ∧ Q .normal f0 s := fun f f' s he hh => by
          obtain ⟨f0, e, hh⟩ := hh
          exact ⟨f0, fun i => (e i).trans (he i), hh⟩
        split at h
        · rename_i hlin
          have h1 := adraw_keys (n := a.tmps.size) hkey lin fr σ F.keys h
          exact linOk_any hlin hFE (adraw_mono (fun f s hh => ⟨f, fun _ => rfl, hh⟩) lin fr σ h1)
        · split at h
          · rename_i hlin
            refine twoOk_any hlin hFE (adraw_mono (fun f s hh => ?_) _ fr σ (adraw_keys (n := a.tmps.size) hkey _ fr σ F.keys h))
            obtain ⟨hf, hA, hB⟩ := hh
            exact ⟨adraw_mono (fun f s hh => ⟨f, fun _ => rfl, hh⟩) _ f s (adraw_keys (n := a.tmps.size) hkey _ f s hf hA), adraw_mono (fun f s hh => ⟨f, fun _ => rfl, hh⟩) _ f s (adraw_keys (n := a.tmps.size) hkey _ f s hf hB)⟩
          · exact h.elim
      simp only [List.length_map, Array.length_toList] at h2
      exact aany_sound rfl hl hx ops.size _ _ fr σ L _ a _ (by simp) S1 (s1.fr F) hok h2 fun fr' L' σ' a' w' st S' F' hd' hag hK => by
        obtain ⟨f0, e, hk0, hq⟩ := hK
        exact ⟨L', σ', f0, s1.trans st, S', ⟨fun i v hv => (by rw [e i]; exact F'.at_ i v hv), (by rw [hag.1]; exact hk0)⟩, (by rw [hd']; exact hd.step (s1.trans st)), hag, hq⟩
  | seq x y ihx ihy =>
    intro ro b0 ac Q fr σ L w a hc hok hr h S F hd
    simp only [comp, Option.bind_eq_bind, Option.bind_eq_some_iff, Option.pure_def, Option.some.injEq] at hc
    obtain ⟨x', hx, y', hy, hc⟩ := hc
    cases ac <;> simp only [AC.norm] at hc <;> cases hc
    rename_i ax ay
    simp only [AC.ok, Bool.and_eq_true] at hok
    refine wpIn_seq (wpIn_mono (ihx ro b0 ax _ fr σ L w a hx hok.1 (hr.imp (fun e => by simp only [AC.noRF, Bool.and_eq_true] at e; exact e.1) (fun h => h)) h S F hd) fun e a' w' he => ?_)
    cases e with
    | normal =>
      obtain ⟨L', σ', fr', st, S', F', hd', hag, hq⟩ := he
      refine wpIn_mono (ihy ro b0 ay Q fr' σ' L' w' a' hy (by rw [hag.1]; exact hok.2) (hr.imp (fun e => by simp only [AC.noRF, Bool.and_eq_true] at e; exact e.2) (fun h => h)) hq S' F' hd') fun e2 a2 w2 he2 => ?_
      cases e2 with
      | normal => exact Holds.widen st hag he2
      | exit id => exact Holds.widen st hag he2
      | ret => exact Holds.widen st hag he2
      | goto l => exact he2
      | panic ch => exact he2
      | outgrown => exact he2.elim
    | exit id => exact Holds.more he (fun i hi => List.mem_append_left _ hi)
    | ret => exact Holds.more he (fun i hi => List.mem_append_left _ hi)
    | goto l => exact he
    | panic ch => exact he
    | outgrown => exact he.elim
  | cond c x y ihx ihy =>
    intro ro b0 ac Q fr σ L w a hc hok hr h S F hd
    simp only [comp, Option.bind_eq_bind, Option.bind_eq_some_iff, Option.pure_def, Option.some.injEq] at hc
    obtain ⟨c', hcc, x', hx, y', hy, hc⟩ := hc
    cases ac <;> simp only [AC.norm] at hc <;> cases hc
    rename_i ax ay
    simp only [AC.ok, Bool.and_eq_true] at hok
    simp only [awp, condC] at h
    have hv := ev_sound F hcc
    have wide : ∀ {B : List Nat}, (∀ i ∈ B, i ∈ asg ax ++ asg ay) → ∀ e a' w', lift b0 B a L σ w Q e a' w' → lift b0 (asg (.cond c' ax ay)) a L σ w Q e a' w' := fun {B} hs e a' w' he => by
      cases e with
      | normal => exact Holds.more he hs
      | exit id => exact Holds.more he hs
      | ret => exact Holds.more he hs
      | goto l => exact he
      | panic ch => exact he
      | outgrown => exact he.elim
    split at h
    · rename_i t ht
      rw [ht] at hv
      exact wpIn_cond_split hv.bool_inv (fun e => wpIn_mono (ihx ro b0 ax Q fr σ L w a hx hok.1 (hr.imp (fun e => by simp only [AC.noRF, Bool.and_eq_true] at e; exact e.1) (fun h => h)) (h.1 e) S F hd) (wide fun i hi => List.mem_append_left _ hi)) (fun e => wpIn_mono (ihy ro b0 ay Q fr σ L w a hy hok.2 (hr.imp (fun e => by simp only [AC.noRF, Bool.and_eq_true] at e; exact e.2) (fun h => h)) (h.2 e) S F hd) (wide fun i hi => List.mem_append_right _ hi))
    · exact h.elim
  | block id x ihx =>
    intro ro b0 ac Q fr σ L w a hc hok hr h S F hd
    simp only [comp, Option.bind_eq_bind, Option.bind_eq_some_iff, Option.pure_def, Option.some.injEq] at hc
    obtain ⟨x', hx, hc⟩ := hc
    cases ac <;> simp only [AC.norm] at hc <;> cases hc
    rename_i ax
    refine wpIn_block (wpIn_mono (ihx ro b0 ax _ fr σ L w a hx hok (hr.imp (fun e => by simpa only [AC.noRF] using e) (fun h => h)) h S F hd) fun e a' w' he => ?_)
    cases e with
    | normal => exact he
    | exit id' =>
      obtain ⟨L', σ', fr', st, S', F', hd', hag, hq⟩ := he
      simp only [Exit.inBlock]
      dsimp only at hq
      split
      · rename_i hid; rw [if_pos hid] at hq; exact ⟨L', σ', fr', st, S', F', hd', hag, hq⟩
      · rename_i hid; rw [if_neg hid] at hq; exact ⟨L', σ', fr', st, S', F', hd', hag, hq⟩
    | ret => exact he
    | goto l => exact he
    | panic ch => exact he
    | outgrown => exact he.elim
  | loop x ihx =>
    intro ro b0 ac Q fr σ L w a hc hok hr h S F hd
    simp only [comp, Option.bind_eq_bind, Option.bind_eq_some_iff, Option.pure_def, Option.some.injEq] at hc
    obtain ⟨x', hx, hc⟩ := hc
    cases ac <;> simp only [AC.norm] at hc <;> cases hc
    rename_i lv dd ax
    simp only [AC.ok, Bool.and_eq_true, List.all_eq_true, Bool.or_eq_true, List.contains_iff_mem, Nat.blt_eq] at hok
    obtain ⟨⟨⟨⟨hok, hnd⟩, hlv⟩, hdd⟩, hmem⟩ := hok
    obtain ⟨I, n₀, ⟨vs0, s0, hweak, h0⟩, hround⟩ := h
    obtain ⟨L0, st0, S0, hv0⟩ := weak_sound hweak S (us := lv.map fun i => a.tmps.getD i undef) ⟨by simp, fun k c u hc hu => by
      simp only [List.getElem?_map, Option.map_eq_some_iff] at hc hu
      obtain ⟨i, hi, rfl⟩ := hc
      obtain ⟨j, hj, rfl⟩ := hu
      rw [hi] at hj; cases hj
      exact F.at' i⟩
    obtain ⟨fr0, F0, hvs0⟩ := F.retold st0 (nodup_spec hnd) hlv hv0
    rw [← hvs0] at h0
    refine wpIn_loop_ghost (fun n a' w' => ∃ L' σ' fr', Step L σ w L' σ' w' ∧ Sim L' σ' w' ∧ FR w' L' σ' fr' a'.tmps ∧ Marks b0 a'.defers L' σ' w' ∧ Agree (asg ax) a a' ∧ I n (lv.map (getS fr')) σ') n₀ ⟨L0, s0, fr0, st0, S0, F0, hd.step st0, Agree.refl _ _, h0⟩ ?_
    rintro n a' w' ⟨L', σ', fr', st, S', F', hd', hag, hI⟩
    have Fh := FR.head (st.fr F) F' hag hmem hlv hdd
    refine wpIn_mono (ihx ro b0 ax _ _ σ' L' w' a' hx (by rw [hag.1]; exact hok) (hr.imp (fun e => by simpa only [AC.noRF] using e) (fun h => h)) (hround n _ σ' hI) S' Fh hd') fun e a2 w2 he => ?_
    have wide : ∀ {Q' : Frame → List AObj → Prop}, Holds b0 (asg ax) a' L' σ' w' Q' a2 w2 → Holds b0 (asg ax) a L σ w Q' a2 w2 := fun hh => (Holds.widen st hag hh).more fun i hi => by
      rcases List.mem_append.1 hi with h | h <;> exact h
    cases e with
    | normal =>
      obtain ⟨L2, σ2, fr2, st2, S2, F2, hd2, hag2, n', hlt, hI2⟩ := he
      have hagA : Agree (asg ax) a a2 := (hag.trans hag2).mono fun i hi => by rcases List.mem_append.1 hi with h | h <;> exact h
      exact ⟨n', hlt, L2, σ2, fr2, st.trans st2, S2, F2, hd2, hagA, hI2⟩
    | exit id => exact wide he
    | ret => exact wide he
    | goto l => exact he
    | panic ch => exact he
    | outgrown => exact he.elim
  | exit id =>
    intro ro b0 ac Q fr σ L w a hc hok hr h S F hd
    simp only [comp, Option.some.injEq] at hc
    cases ac <;> simp only [AC.norm] at hc <;> cases hc
    exact wpIn_exit ⟨L, σ, fr, Step.refl _ _ _, S, F, hd, Agree.refl _ _, h⟩
  | ret =>
    intro ro b0 ac Q fr σ L w a hc hok hr h S F hd
    simp only [comp, Option.some.injEq] at hc
    cases ac <;> simp only [AC.norm] at hc <;> cases hc
    exact wpIn_ret ⟨L, σ, fr, Step.refl _ _ _, S, F, hd, Agree.refl _ _, h⟩
  | rangeFunc g ps ca cb iha ihb =>
    intro ro b0 ac Q fr σ L w a hc hok hr h S F hd
    simp only [comp, Option.bind_eq_bind, Option.bind_eq_some_iff, Option.pure_def, Option.some.injEq] at hc
    obtain ⟨g', hg, a', ha, b', hb, hc⟩ := hc
    cases ac <;> simp only [AC.norm] at hc <;> cases hc
    rename_i aa ab
    simp only [AC.ok, Bool.and_eq_true, List.all_eq_true, Nat.blt_eq] at hok
    obtain ⟨⟨⟨⟨ok1, ok2⟩, nr1⟩, nr2⟩, hps⟩ := hok
    obtain rfl : ro = none := hr.resolve_left (by simp [AC.noRF])
    simp only [awp, rangeFC] at h
    have hv := ev_sound F hg
    split at h
    · rename_i f cap hid
      rw [hid] at hv
      obtain ⟨fs, cs, hX, r1, r2⟩ := hv.fn_inv
      obtain rfl : fs = [] := List.eq_nil_of_length_eq_zero r1.1
      refine wpIn_rangeFunc fun fn _ => ?_
      obtain ⟨rec0, hrec⟩ : ∃ rec0 : Loop, rec0 = { state := .ready, pending := none, fn, tmps := a.tmps, params := ps, assign := ca, body := cb, defers := w.heap.size } := ⟨_, rfl⟩
      obtain ⟨vs, hvs0⟩ : ∃ vs, vs = (List.range a.tmps.size).map (getS fr) := ⟨_, rfl⟩
      have hvl : vs.length = rec0.tmps.size := by rw [hvs0, hrec]; simp
      have hvs : ∀ i, (vs[i]?).getD .undef = getS fr i := fun i => by
        rw [hvs0]
        rcases Nat.lt_or_ge i a.tmps.size with hl | hl
        · simp [hl]
        · rw [getS_none (fun p hp e => by have := F.keys p hp; omega)]
          simp [hl]
      have hf1 : ∀ b c, Foot { a := ⟨w.heap.size, 0, none⟩ } .dead b c → b = w.heap.size := fun b c h => h.elim
      have st1 := extend_step L σ (.deferred (some [])) { a := ⟨w.heap.size, 0, none⟩ } .dead hf1
      have S1 := extend_sim S (.deferred (some [])) { a := ⟨w.heap.size, 0, none⟩ } .dead hf1 trivial
      obtain ⟨w1, hw1⟩ : ∃ w1, w.alloc (.deferred (some [])) = w1 := ⟨_, rfl⟩
      obtain ⟨L1, hL1⟩ : ∃ L1, Lput L σ.length { a := ⟨w.heap.size, 0, none⟩ } = L1 := ⟨_, rfl⟩
      have hD1 : w1.heap[w.heap.size]? = some (.deferred (some [])) := by rw [← hw1]; exact World.alloc_heap_new w _
      have hsz1 : w1.heap.size = w.heap.size + 1 := by rw [← hw1]; simp
      rw [hw1, hL1] at st1 S1
      obtain ⟨l, hl⟩ : ∃ l, w1.heap.size = l := ⟨_, rfl⟩
      have hf2 : ∀ b c, Foot { a := ⟨w1.heap.size, 0, none⟩ } (.lrec l rec0 vs) b c → b = w1.heap.size := fun b c h => h
      have st2 := extend_step L1 (σ ++ [.dead]) (.loop rec0) { a := ⟨w1.heap.size, 0, none⟩ } (.lrec l rec0 vs) hf2 (w := w1)
      have S2 := extend_sim S1 (.loop rec0) { a := ⟨w1.heap.size, 0, none⟩ } (.lrec l rec0 vs) hf2 ⟨hl, by rw [← hl]; exact World.alloc_heap_new w1 _, hvl, fun i c v hc hv => by
        have := hvs i
        rw [hc] at this
        have e : c = getS fr i := this
        rw [e]
        exact (st1.trans st2).rv (F.at_ i v (by rw [hrec] at hv; exact hv))⟩
      obtain ⟨w2, hw2⟩ : ∃ w2, w1.alloc (.loop rec0) = w2 := ⟨_, rfl⟩
      obtain ⟨L2, hL2⟩ : ∃ L2, Lput L1 (σ ++ [AObj.dead]).length { a := ⟨w1.heap.size, 0, none⟩ } = L2 := ⟨_, rfl⟩
      rw [hw2, hL2, List.append_assoc] at st2 S2
      have st12 := st1.trans st2
      simp only [List.cons_append, List.nil_append] at st2 S2 st12
      have hD2 : w2.heap[w.heap.size]? = some (.deferred (some [])) := by rw [← hw2]; exact (Below.heap_alloc _ _ _ (by omega)).trans hD1
      have hDo : ∀ o, ¬ Own L2 (σ ++ [.dead, .lrec l rec0 vs]) w.heap.size o := fun o ho => by
        have h1 := st2.own w.heap.size o (by omega) ho
        obtain ⟨id, y, hy, hfy⟩ := h1
        rcases Nat.lt_or_ge id σ.length with hl' | hl'
        · rw [List.getElem?_append_left hl'] at hy
          rw [← hL1, Lput_ne (by omega)] at hfy
          have := hfy.lt (S.obj id y hy)
          omega
        · rw [List.getElem?_append_right hl'] at hy
          cases hk : id - σ.length with
          | zero => rw [hk] at hy; simp at hy; subst hy; exact hfy
          | succ n => rw [hk] at hy; simp at hy
      have hM : Marks b0 (markOf w.heap.size :: a.defers) L2 (σ ++ [.dead, .lrec l rec0 vs]) w2 := by
        obtain ⟨q0, Ds, q1, q2, q3⟩ := hd.step st12
        obtain ⟨p0, Ds', p1, p2, p3⟩ := hd
        refine ⟨q0, w.heap.size :: Ds, by rw [q1]; rfl, List.nodup_cons.2 ⟨fun hm => ?_, q2⟩, fun D hD => ?_⟩
        · have e : Ds.map markOf = Ds'.map markOf := q1.symm.trans p1
          have : markOf w.heap.size ∈ Ds'.map markOf := by rw [← e]; exact List.mem_map.2 ⟨_, hm, rfl⟩
          obtain ⟨D, hD, e2⟩ := List.mem_map.1 this
          have hDe : D = w.heap.size := by
            have := congrArg Deferred.target e2
            simpa [markOf] using this
          have := (Array.getElem?_eq_some_iff.1 (p3 D hD).2.1).1
          omega
        · rcases List.mem_cons.1 hD with rfl | hD
          · exact ⟨p0, hD2, hDo⟩
          · exact q3 D hD
      obtain ⟨ι, J, i0, Nx, Fin, hxs, hJ0, hJl, hiter, hbody, hdone⟩ := h l rec0 vs
      have hy : ∀ k x k' s, Nx k x k' → J k s → YCall P l x s fun v s' => v = .d (.bool true) ∧ J k' s' := by
        intro k x k' s hx hJ Ly wy us Sy hu
        have hlr := hJl k s hJ
        obtain ⟨k1, k2, k3, k4⟩ := Sy.obj _ _ hlr
        have hxl := hxs k x k' hx
        have hrun := run_yield (P := P) (args := us.toArray) k2 (by rw [hrec]; show us.toArray.size = ps.size; simp [hu.1, hxl])
        refine ⟨_, _, _, _, hrun, roundIn_of_wpIn (F := Fence.wide) trivial ?_⟩
        have Fr0 : FR wy Ly s fr a.tmps := ⟨fun i v hv => by
          have hlt := (Array.getElem?_eq_some_iff.1 hv).1
          have e := hvs i
          have hc : vs[i]? = some (vs[i]'(by rw [hvl, hrec]; exact hlt)) := List.getElem?_eq_getElem _
          rw [hc] at e
          have e : vs[i]'(by rw [hvl, hrec]; exact hlt) = getS fr i := e
          rw [← e]
          exact k4 i _ v hc (by rw [hrec]; exact hv), F.keys⟩
        obtain ⟨Fr1, hsz⟩ := putF_sound ps.toList x us fr a.tmps Fr0 hps hu hxl
        have etm : (ps.zip us.toArray).foldl (fun (tmps : Array Value) (x : Nat × Value) => match x with | (t, a) => tmps.setIfInBounds t a) rec0.tmps = (ps.toList.zip us).foldl (fun t (p : Nat × Value) => t.setIfInBounds p.1 p.2) a.tmps := by
          rw [hrec, ← Array.foldl_toList]
          simp [Array.toList_zip]
        rw [show rec0.params = ps by rw [hrec], etm, show rec0.assign = ca by rw [hrec], show rec0.body = cb by rw [hrec]]
        obtain ⟨ts, hts⟩ : ∃ ts, (ps.toList.zip us).foldl (fun t (p : Nat × Value) => t.setIfInBounds p.1 p.2) a.tmps = ts := ⟨_, rfl⟩
        rw [hts] at Fr1 hsz ⊢
        change ca.wpIn (Fr (some l)) 0 P _ _ _
        refine wpIn_mono (wpIn_any (iha (some l) 0 aa _ (putF fr ps.toList x) s Ly wy { tmps := ts, defers := [] } ha (by show aa.ok ts.size = true; rw [hsz]; exact ok1) (.inl nr1) (hbody k x k' s hx hJ) Sy Fr1 ⟨Nat.zero_le _, [], rfl, .nil, by simp⟩)) fun e a1 wa he => ?_
        cases e with
        | normal =>
          obtain ⟨La, σa, fra, sta, Sa, Fa, hda, haga, hlra, hbb⟩ := he
          obtain ⟨m1, m2, m3, m4⟩ := Sa.obj _ _ hlra
          refine ⟨_, run_beginRound m2 (by rw [hrec]), ?_⟩
          have hm2 := (Array.getElem?_eq_some_iff.1 m2).1
          obtain ⟨stb, Sb⟩ := obj_set Sa hlra (x' := .lrec l { rec0 with state := .busy } vs) rfl (by simp [AObj.kind]) (by simp [AObj.kind]) (.loop { rec0 with state := .busy }) (fun w' e st => by
            subst e
            refine ⟨m1, ?_, m3, fun i c v hc hv => st.rv (m4 i c v hc hv)⟩
            show (wa.heap.setIfInBounds _ _)[_]? = _
            rw [m1]; simp [hm2])
          rw [m1] at stb Sb
          change cb.wpIn (Fr (some l)) 0 P _ _ _
          refine wpIn_mono (wpIn_any (ihb (some l) 0 ab _ fra _ La _ a1 hb (by rw [haga.1]; show ab.ok ts.size = true; rw [hsz]; exact ok2) (.inl nr2) hbb Sb (stb.fr Fa) (hda.step stb))) fun e2 a2 w3 he2 => ?_
          cases e2 with
          | normal =>
            obtain ⟨Lc, σc, frc, stc, Sc, Fc, hdc, hagc, hlrc, hJn⟩ := he2
            obtain ⟨n1, n2, n3, n4⟩ := Sc.obj _ _ hlrc
            have hn2 := (Array.getElem?_eq_some_iff.1 n2).1
            have hrr : { ({ rec0 with state := .busy } : Loop) with state := .ready, pending := none } = rec0 := by rw [hrec]
            obtain ⟨std, Sd⟩ := obj_set Sc hlrc (x' := .lrec l rec0 vs) rfl (by simp [AObj.kind]) (by simp [AObj.kind]) (.loop rec0) (fun w' e st => by
              subst e
              refine ⟨n1, ?_, n3, fun i c v hc hv => st.rv (n4 i c v hc hv)⟩
              show (w3.heap.setIfInBounds _ _)[_]? = _
              rw [n1]; simp [hn2])
            rw [n1] at std Sd
            refine ⟨_, _, run_endRound none n2, ?_⟩
            simp only [Option.isNone_none, if_true, hrr]
            exact ⟨Lc, _, .d (.bool true), sta.trans (stb.trans (stc.trans std)), Sd, .d _ _ (.bool true), rfl, hJn⟩
          | exit id => obtain ⟨_, _, _, _, _, _, _, _, hq⟩ := he2; exact hq.elim
          | ret => obtain ⟨_, _, _, _, _, _, _, _, hq⟩ := he2; exact hq.elim
          | goto l => exact he2.elim
          | panic ch => exact he2.elim
          | outgrown => exact he2.elim
        | exit id => obtain ⟨_, _, _, _, _, _, _, _, hq⟩ := he; exact hq.elim
        | ret => obtain ⟨_, _, _, _, _, _, _, _, hq⟩ := he; exact hq.elim
        | goto l => exact he.elim
        | panic ch => exact he.elim
        | outgrown => exact he.elim
      have hcall0 := hiter hy
      have hcall := hcall0.2 L2 w2 (.func (.yield l) #[] #[] :: cs) S2 ⟨by simp [r2.1], fun i c v hc hv => by
        cases i with
        | zero => simp at hc hv; subst hc hv; exact .fn _ [] [] [] [] rfl rfl (by simp) (by simp)
        | succ i => exact st12.rv (r2.2 i c v (by simpa using hc) (by simpa using hv))⟩
      refine ⟨l, [markOf w.heap.size], w2, { target := .fn (.func f) cs.toArray, args := #[.func (.yield l) #[] #[]] }, w2, f, #[.func (.yield l) #[] #[]] ++ cs.toArray, w2, ?_, ?_, fun _ _ => trivial, ?_, fun h => by simp [Fence.wide] at h, callsIn_fr.2 ?_⟩
      · have := run_enterLoop_outer (P := P) (w := w) fn a.tmps ps ca cb
        rw [← hrec, hw1, hw2, ← hsz1, hl] at this
        exact this
      · simp only [resolve, rangeCall, hX]
        simp [Deferred.ofValue]
        rfl
      · simp [invoke, run_callFunc hcall0.1]
      · have e1 : (#[.func (.yield l) #[] #[]] ++ cs.toArray : Array Value) = (.func (.yield l) #[] #[] :: cs).toArray := by simp
        rw [e1]
        refine hcall.mono fun e w3 he => ?_
        cases e with
        | returned v =>
          obtain ⟨L3, σ3, r3, st3, S3, hr3, ys, hFin, hJ⟩ := he
          have hlr := hJl _ _ hJ
          obtain ⟨k1, k2, k3, k4⟩ := S3.obj _ _ hlr
          have hk2 := (Array.getElem?_eq_some_iff.1 k2).1
          obtain ⟨st4, S4⟩ := obj_set S3 hlr (x' := .lrec l { rec0 with state := .exhausted } vs) rfl (by simp [AObj.kind]) (by simp [AObj.kind]) (.loop { rec0 with state := .exhausted }) (fun w' e st => by
            subst e
            refine ⟨k1, ?_, k3, fun i c v hc hv => st.rv (k4 i c v hc hv)⟩
            show (w3.heap.setIfInBounds _ _)[_]? = _
            rw [k1]; simp [hk2])
          rw [k1] at st4 S4
          have hrun : (Instr.endLoop l).run P w3 = .ok none (w3.putObj l (.loop { rec0 with state := .exhausted })) := (run_endLoop k2 (by rw [hrec]; simp)).trans (by congr 1; rw [hrec])
          refine ⟨_, _, hrun, ?_⟩
          exact ⟨L3, _, fr, st12.trans (st3.trans st4), S4, (st12.trans (st3.trans st4)).fr F, hM.step (st3.trans st4), ⟨rfl, fun _ _ => rfl⟩, hdone _ _ hFin hJ⟩
        | panicked ch => exact he.elim
        | outgrown => exact he.elim
    · exact h.elim
  | scope b => intro ro b0 ac Q fr σ L w a hc; simp [comp] at hc
  | label l => intro ro b0 ac Q fr σ L w a hc; simp [comp] at hc
  | goto l => intro ro b0 ac Q fr σ L w a hc; simp [comp] at hc
  | refuse why => intro ro b0 ac Q fr σ L w a hc; simp [comp] at hc

end

end Go.AW

/- Operations that only reckon: what they come to does not hang on their place among the others. -/
import Derived.Test.YtdgcepphjnoalaaGreatAwBase
set_option linter.all false
set_option linter.unusedSimpArgs false
set_option linter.unusedVariables false
namespace Go.AW
variable {P : Program}

theorem YCall.mono {P : Program} {l : Nat} {as0 : List AV} {σ : List zc} {K K' : AV → List zc → Prop} (hk : ∀ r s, K r s → K' r s) (h : YCall P l as0 σ K) : YCall P l as0 σ K' := fun L w vs S hv => by
  obtain ⟨fn, tmps, assign, body, h1, h2⟩ := h L w vs S hv
  refine ⟨fn, tmps, assign, body, h1, h2.mono fun e w' he => ?_⟩
  cases e with
  | returned v => obtain ⟨L', σ', r, s, S', hr, hK⟩ := he; exact ⟨L', σ', r, s, S', hr, hk r σ' hK⟩
  | panicked ch => exact he
  | outgrown => exact he
theorem zl.mono0 {f : FuncId} {as0 : List AV} {σ : List zc} {K K' : AV → List zc → Prop} (hk : ∀ r σ', K r σ' → K' r σ') (h : zl P f as0 σ K) : zl P f as0 σ K' :=
  ⟨h.1, fun L w vs S hv => Calls.mono (h.2 L w vs S hv) fun e w' he => by
    cases e with
    | returned v => obtain ⟨L', σ', r, a, b, c, d⟩ := he; exact ⟨L', σ', r, a, b, c, hk _ _ d⟩
    | panicked _ => exact he
    | outgrown => exact he⟩

theorem binA_mono {op : BinOp} {e : EK} {x y : AV} {K K' : AV → Prop} (hk : ∀ a, K a → K' a) (h : zen op e x y K) : zen op e x y K' := by
  unfold zen at *
  repeat' split at h
  all_goals (first | exact h.elim | exact hk _ h | exact ⟨h.1, hk _ h.2⟩ | exact ⟨h.1, h.2.1, hk _ h.2.2⟩ | skip)
  all_goals (simp only [*]; try exact ⟨h.1, hk _ h.2⟩)
  all_goals grind
theorem boxC_mono (x : AV) {σ : List zc} {K K' : KT} (hk : ∀ a s, K a s → K' a s) (h : zbD x σ K) : zbD x σ K' := by
  unfold zbD at *
  repeat' split at h
  all_goals (first | exact h.elim | skip)
  all_goals (revert h; try simp only [*, if_true, if_false, Bool.false_eq_true, reduceIte, ite_true, ite_false])
  all_goals (intro h)
  all_goals (repeat (refine ⟨h.1, ?_⟩; replace h := h.2))
  all_goals (first | exact hk _ _ h | exact h.elim)
theorem buildC_mono (o : Option (List AV)) {σ : List zc} {K K' : KT} (hk : ∀ a s, K a s → K' a s) (h : zB o σ K) : zB o σ K' := by
  unfold zB at *
  repeat' split at h
  all_goals (first | exact h.elim | skip)
  all_goals (revert h; try simp only [*, if_true, if_false, Bool.false_eq_true, reduceIte, ite_true, ite_false])
  all_goals (intro h)
  all_goals (repeat (refine ⟨h.1, ?_⟩; replace h := h.2))
  all_goals (first | exact hk _ _ h | exact h.elim)
theorem zqO (mu : Bool) (s n : Nat) (o : Option (List AV)) {σ : List zc} {K K' : KT} (hk : ∀ a s, K a s → K' a s) (h : zn mu s n o σ K) : zn mu s n o σ K' := by
  unfold zn at *
  repeat' split at h
  all_goals (first | exact h.elim | skip)
  all_goals (revert h; try simp only [*, if_true, if_false, Bool.false_eq_true, reduceIte, ite_true, ite_false])
  all_goals (intro h)
  all_goals (repeat (refine ⟨h.1, ?_⟩; replace h := h.2))
  all_goals (first | exact hk _ _ h | exact h.elim)
theorem loadC_mono (agg : Bool) (n : Nat) (x : AV) {σ : List zc} {K K' : KT} (hk : ∀ a s, K a s → K' a s) (h : zi agg n x σ K) : zi agg n x σ K' := by
  unfold zi at *
  repeat' split at h
  all_goals (first | exact h.elim | skip)
  all_goals (revert h; try simp only [*, if_true, if_false, Bool.false_eq_true, reduceIte, ite_true, ite_false])
  all_goals (intro h)
  all_goals (repeat (refine ⟨h.1, ?_⟩; replace h := h.2))
  all_goals (first | exact hk _ _ h | exact h.elim)
theorem storeC_mono (n : Nat) (x y : AV) {σ : List zc} {K K' : KT} (hk : ∀ a s, K a s → K' a s) (h : zg n x y σ K) : zg n x y σ K' := by
  unfold zg at *
  repeat' split at h
  all_goals (first | exact h.elim | skip)
  all_goals (revert h; try simp only [*, if_true, if_false, Bool.false_eq_true, reduceIte, ite_true, ite_false])
  all_goals (intro h)
  all_goals (repeat (refine ⟨h.1, ?_⟩; replace h := h.2))
  all_goals (first | exact hk _ _ h | exact h.elim)
theorem nilC_mono (x : AV) {σ : List zc} {K K' : KT} (hk : ∀ a s, K a s → K' a s) (h : zbr x σ K) : zbr x σ K' := by
  unfold zbr at *
  repeat' split at h
  all_goals (first | exact h.elim | skip)
  all_goals (revert h; try simp only [*, if_true, if_false, Bool.false_eq_true, reduceIte, ite_true, ite_false])
  all_goals (intro h)
  all_goals (repeat (refine ⟨h.1, ?_⟩; replace h := h.2))
  all_goals (first | exact hk _ _ h | exact h.elim)
theorem convC_mono (c : CK) (x : AV) {σ : List zc} {K K' : KT} (hk : ∀ a s, K a s → K' a s) (h : zay c x σ K) : zay c x σ K' := by
  unfold zay at *
  repeat' split at h
  all_goals (first | exact h.elim | skip)
  all_goals (revert h; try simp only [*, if_true, if_false, Bool.false_eq_true, reduceIte, ite_true, ite_false])
  all_goals (intro h)
  all_goals (repeat (refine ⟨h.1, ?_⟩; replace h := h.2))
  all_goals (first | exact hk _ _ h | exact h.elim)
theorem slcC_mono (k : SK) (x : AV) (lo hi mx : Option AV) {σ : List zc} {K K' : KT} (hk : ∀ a s, K a s → K' a s) (h : zdU k x lo hi mx σ K) : zdU k x lo hi mx σ K' := by
  unfold zdU at *
  repeat' split at h
  all_goals (first | exact h.elim | skip)
  all_goals (revert h; try simp only [*, if_true, if_false, Bool.false_eq_true, reduceIte, ite_true, ite_false])
  all_goals (intro h)
  all_goals (repeat (refine ⟨h.1, ?_⟩; replace h := h.2))
  all_goals (first | exact hk _ _ h | exact h.elim)
theorem faddrC_mono (off : Nat) (x : AV) {σ : List zc} {K K' : KT} (hk : ∀ a s, K a s → K' a s) (h : zd off x σ K) : zd off x σ K' := by
  unfold zd at *
  repeat' split at h
  all_goals (first | exact h.elim | skip)
  all_goals (revert h; try simp only [*, if_true, if_false, Bool.false_eq_true, reduceIte, ite_true, ite_false])
  all_goals (intro h)
  all_goals (repeat (refine ⟨h.1, ?_⟩; replace h := h.2))
  all_goals (first | exact hk _ _ h | exact h.elim)
theorem fieldC_mono (agg : Bool) (off n : Nat) (x : AV) {σ : List zc} {K K' : KT} (hk : ∀ a s, K a s → K' a s) (h : zan agg off n x σ K) : zan agg off n x σ K' := by
  unfold zan at *
  repeat' split at h
  all_goals (first | exact h.elim | skip)
  all_goals (revert h; try simp only [*, if_true, if_false, Bool.false_eq_true, reduceIte, ite_true, ite_false])
  all_goals (intro h)
  all_goals (repeat (refine ⟨h.1, ?_⟩; replace h := h.2))
  all_goals (first | exact hk _ _ h | exact h.elim)
theorem iaddrC_mono (arr : Option Nat) (sz : Nat) (x i : AV) {σ : List zc} {K K' : KT} (hk : ∀ a s, K a s → K' a s) (h : zO arr sz x i σ K) : zO arr sz x i σ K' := by
  unfold zO at *
  repeat' split at h
  all_goals (first | exact h.elim | skip)
  all_goals (revert h; try simp only [*, if_true, if_false, Bool.false_eq_true, reduceIte, ite_true, ite_false])
  all_goals (intro h)
  all_goals (repeat (refine ⟨h.1, ?_⟩; replace h := h.2))
  all_goals (first | exact hk _ _ h | exact h.elim)
theorem idxSC_mono (x i : AV) {σ : List zc} {K K' : KT} (hk : ∀ a s, K a s → K' a s) (h : zbf x i σ K) : zbf x i σ K' := by
  unfold zbf at *
  repeat' split at h
  all_goals (first | exact h.elim | skip)
  all_goals (revert h; try simp only [*, if_true, if_false, Bool.false_eq_true, reduceIte, ite_true, ite_false])
  all_goals (intro h)
  all_goals (repeat (refine ⟨h.1, ?_⟩; replace h := h.2))
  all_goals (first | exact hk _ _ h | exact h.elim)
theorem idxAC_mono (agg : Bool) (n sz : Nat) (x i : AV) {σ : List zc} {K K' : KT} (hk : ∀ a s, K a s → K' a s) (h : zbg agg n sz x i σ K) : zbg agg n sz x i σ K' := by
  unfold zbg at *
  repeat' split at h
  all_goals (first | exact h.elim | skip)
  all_goals (revert h; try simp only [*, if_true, if_false, Bool.false_eq_true, reduceIte, ite_true, ite_false])
  all_goals (intro h)
  all_goals (repeat (refine ⟨h.1, ?_⟩; replace h := h.2))
  all_goals (first | exact hk _ _ h | exact h.elim)
theorem zqV (x : AV) (k : Nat) {σ : List zc} {K K' : KT} (hk : ∀ a s, K a s → K' a s) (h : zf x k σ K) : zf x k σ K' := by
  unfold zf at *
  repeat' split at h
  all_goals (first | exact h.elim | skip)
  all_goals (revert h; try simp only [*, if_true, if_false, Bool.false_eq_true, reduceIte, ite_true, ite_false])
  all_goals (intro h)
  all_goals (repeat (refine ⟨h.1, ?_⟩; replace h := h.2))
  all_goals (first | exact hk _ _ h | exact h.elim)
theorem lenC_mono (k : LK) (x : AV) {σ : List zc} {K K' : KT} (hk : ∀ a s, K a s → K' a s) (h : zaV k x σ K) : zaV k x σ K' := by
  unfold zaV at *
  repeat' split at h
  all_goals (first | exact h.elim | skip)
  all_goals (revert h; try simp only [*, if_true, if_false, Bool.false_eq_true, reduceIte, ite_true, ite_false])
  all_goals (intro h)
  all_goals (repeat (refine ⟨h.1, ?_⟩; replace h := h.2))
  all_goals (first | exact hk _ _ h | exact h.elim)
theorem appendC_mono (sz bytes : Nat) (x y : AV) {σ : List zc} {K K' : KT} (hk : ∀ a s, K a s → K' a s) (h : zD sz bytes x y σ K) : zD sz bytes x y σ K' := by
  unfold zD at *
  repeat' split at h
  all_goals (first | exact h.elim | skip)
  all_goals (revert h; try simp only [*, if_true, if_false, Bool.false_eq_true, reduceIte, ite_true, ite_false])
  all_goals (intro h)
  all_goals (repeat (refine ⟨h.1, ?_⟩; replace h := h.2))
  all_goals (first | exact hk _ _ h | exact h.elim)
theorem zml (sz bytes : Nat) (x : AV) (m : Nat) (ys : List AV) {σ : List zc} {K K' : KT} (hk : ∀ a s, K a s → K' a s) (h : zor sz bytes x m ys σ K) : zor sz bytes x m ys σ K' := by
  unfold zor at *
  repeat' split at h
  all_goals (first | exact h.elim | skip)
  all_goals (revert h; try simp only [*, if_true, if_false, Bool.false_eq_true, reduceIte, ite_true, ite_false])
  all_goals (intro h)
  all_goals (repeat (refine ⟨h.1, ?_⟩; replace h := h.2))
  all_goals (first | exact hk _ _ h | exact h.elim)
theorem zrl (sz bytes : Nat) (x y : AV) {σ : List zc} {K K' : KT} (hk : ∀ a s, K a s → K' a s) (h : zgp sz bytes x y σ K) : zgp sz bytes x y σ K' := by
  unfold zgp at *
  split at h
  · split at h
    · exact ⟨h.1, h.2.1, h.2.2.1, zml _ _ _ _ _ hk h.2.2.2⟩
    · exact h.elim
  · split at h
    · exact ⟨h.1, zml _ _ _ _ _ hk h.2⟩
    · exact h.elim
theorem capC_mono (x : AV) {σ : List zc} {K K' : KT} (hk : ∀ a s, K a s → K' a s) (h : capC x σ K) : capC x σ K' := by
  unfold capC at *
  split at h
  · exact hk _ _ h
  · exact h.elim
theorem appzC_mono (sz bytes : Nat) (z : List AV) (x n : AV) {σ : List zc} {K K' : KT} (hk : ∀ a s, K a s → K' a s) (h : appzC sz bytes z x n σ K) : appzC sz bytes z x n σ K' := by
  unfold appzC at *
  split at h
  · exact ⟨h.1, zml _ _ _ _ _ hk h.2⟩
  · exact h.elim
theorem maxC_mono (xs : List AV) {σ : List zc} {K K' : KT} (hk : ∀ a s, K a s → K' a s) (h : zeb xs σ K) : zeb xs σ K' := by
  unfold zeb at *
  repeat' split at h
  all_goals (first | exact h.elim | skip)
  all_goals (revert h; try simp only [*, if_true, if_false, Bool.false_eq_true, reduceIte, ite_true, ite_false])
  all_goals (intro h)
  all_goals (repeat (refine ⟨h.1, ?_⟩; replace h := h.2))
  all_goals (first | exact hk _ _ h | exact h.elim)
theorem minC_mono (xs : List AV) {σ : List zc} {K K' : KT} (hk : ∀ a s, K a s → K' a s) (h : zes xs σ K) : zes xs σ K' := by
  unfold zes at *
  repeat' split at h
  all_goals (first | exact h.elim | skip)
  all_goals (revert h; try simp only [*, if_true, if_false, Bool.false_eq_true, reduceIte, ite_true, ite_false])
  all_goals (intro h)
  all_goals (repeat (refine ⟨h.1, ?_⟩; replace h := h.2))
  all_goals (first | exact hk _ _ h | exact h.elim)
theorem rangeC_mono (x : AV) {σ : List zc} {K K' : KT} (hk : ∀ a s, K a s → K' a s) (h : zao x σ K) : zao x σ K' := by
  unfold zao at *
  repeat' split at h
  all_goals (first | exact h.elim | skip)
  all_goals (revert h; try simp only [*, if_true, if_false, Bool.false_eq_true, reduceIte, ite_true, ite_false])
  all_goals (intro h)
  all_goals (repeat (refine ⟨h.1, ?_⟩; replace h := h.2))
  all_goals (first | exact hk _ _ h | exact h.elim)
theorem rangeMC_mono (x : AV) {σ : List zc} {K K' : KT} (hk : ∀ a s, K a s → K' a s) (h : zji x σ K) : zji x σ K' := by
  unfold zji at *
  split at h
  · split at h
    · exact fun c bs h1 h2 => hk _ _ (h c bs h1 h2)
    · exact h.elim
  · exact hk _ _ h
  · exact h.elim
theorem nextMC_mono (x : AV) {σ : List zc} {K K' : KT} (hk : ∀ a s, K a s → K' a s) (h : zmN x σ K) : zmN x σ K' := by
  unfold zmN at *
  split at h
  · split at h
    · exact hk _ _ h
    · split at h
      · exact ⟨h.1, fun h0 => hk _ _ (h.2.1 h0), fun i b e h1 h2 h3 => hk _ _ (h.2.2 i b e h1 h2 h3)⟩
      · exact h.elim
    · exact h.elim
  · exact h.elim
theorem entryMC_mono (x : AV) {σ : List zc} {K K' : KT} (hk : ∀ a s, K a s → K' a s) (h : zjs x σ K) : zjs x σ K' := by
  unfold zjs at *
  split at h
  · split at h
    · split at h
      · obtain ⟨h0, i, b, e, h1, h2, h3, h4⟩ := h
        exact ⟨h0, i, b, e, h1, h2, h3, hk _ _ h4⟩
      · exact h.elim
    · exact h.elim
  · exact h.elim
theorem nextC_mono (x : AV) {σ : List zc} {K K' : KT} (hk : ∀ a s, K a s → K' a s) (h : zln x σ K) : zln x σ K' := by
  unfold zln at *
  repeat' split at h
  all_goals (first | exact h.elim | skip)
  all_goals (revert h; try simp only [*, if_true, if_false, Bool.false_eq_true, reduceIte, ite_true, ite_false])
  all_goals (intro h)
  all_goals (repeat (refine ⟨h.1, ?_⟩; replace h := h.2))
  all_goals (first | exact hk _ _ h | exact h.elim)
theorem isnilC_mono (neg : Bool) (x : AV) {σ : List zc} {K K' : KT} (hk : ∀ a s, K a s → K' a s) (h : zZ neg x σ K) : zZ neg x σ K' := by
  unfold zZ at *
  repeat' split at h
  all_goals (first | exact h.elim | exact ⟨hk _ _ h.1, hk _ _ h.2⟩ | exact hk _ _ h | exact ⟨fun e => ⟨hk _ _ (h.1 e).1, hk _ _ (h.1 e).2⟩, fun e => hk _ _ (h.2 e)⟩)
theorem mgetC_mono (kk : KK) (ok : Bool) (z m k : AV) {σ : List zc} {K K' : KT} (hk : ∀ a s, K a s → K' a s) (h : zbe kk ok z m k σ K) : zbe kk ok z m k σ K' := by
  unfold zbe at *
  split at h
  · refine ⟨h.1, ?_⟩
    replace h := h.2
    split at h <;> first | exact hk _ _ h | exact h.elim
  · exact h.elim
theorem msetC_mono (kk : KK) (m k x : AV) {σ : List zc} {K K' : KT} (hk : ∀ a s, K a s → K' a s) (h : zbl kk m k x σ K) : zbl kk m k x σ K' := by
  unfold zbl at *
  split at h
  · split at h
    · refine ⟨h.1, ?_⟩
      replace h := h.2
      split at h <;> first | exact hk _ _ h | exact h.elim
    · exact h.elim
  · exact h.elim
theorem mdelC_mono (kk : KK) (m k : AV) {σ : List zc} {K K' : KT} (hk : ∀ a s, K a s → K' a s) (h : zbG kk m k σ K) : zbG kk m k σ K' := by
  unfold zbG at *
  split at h
  · split at h
    · refine ⟨h.1, ?_⟩
      replace h := h.2
      split at h <;> first | exact hk _ _ h | exact h.elim
    · refine ⟨h.1, ?_⟩
      replace h := h.2
      split at h <;> first | exact hk _ _ h | exact h.elim
    · exact h.elim
  · exact ⟨h.1, hk _ _ h.2⟩
  · exact h.elim
theorem zqm {i : I} {fr : zE} {σ : List zc} {K K' : KT} (hk : ∀ a s, K a s → K' a s) (h : zar P i fr σ K) : zar P i fr σ K' := by
  cases i <;> simp only [zar] at h ⊢
  case mv => exact hk _ _ h
  case pick => unfold zpg at *; split at h <;> first | exact ⟨fun e => hk _ _ (h.1 e), fun e => hk _ _ (h.2 e)⟩ | exact h
  case alloc => exact hk _ _ h
  case boxi => exact boxC_mono _ hk h
  case build => exact buildC_mono _ hk h
  case mkslice => exact zqO _ _ _ _ hk h
  case load => exact loadC_mono _ _ _ hk h
  case store => exact storeC_mono _ _ _ hk h
  case nilchk => exact nilC_mono _ hk h
  case bin => exact binA_mono (fun a => hk a σ) h
  case un => unfold unA at *; split at h <;> first | exact hk _ _ h | exact h
  case conv => exact convC_mono _ _ hk h
  case slc => exact slcC_mono _ _ _ _ _ hk h
  case faddr => exact faddrC_mono _ _ hk h
  case field => exact fieldC_mono _ _ _ _ hk h
  case iaddr => exact iaddrC_mono _ _ _ _ hk h
  case idxS => exact idxSC_mono _ _ hk h
  case idxA => exact idxAC_mono _ _ _ _ _ hk h
  case extract => exact zqV _ _ hk h
  case len => exact lenC_mono _ _ hk h
  case append mu _ _ _ _ _ =>
    cases mu
    · exact appendC_mono _ _ _ _ hk h
    · exact zrl _ _ _ _ hk h
  case maxi => exact maxC_mono _ hk h
  case mini => exact minC_mono _ hk h
  case rangeS => exact rangeC_mono _ hk h
  case nextS => exact nextC_mono _ hk h
  case rangeM => exact rangeMC_mono _ hk h
  case nextM => exact nextMC_mono _ hk h
  case entryM => exact entryMC_mono _ hk h
  case isnil => exact isnilC_mono _ _ hk h
  case mkmap => exact hk _ _ h
  case mget => exact mgetC_mono _ _ _ _ _ hk h
  case mset => exact msetC_mono _ _ _ _ hk h
  case mdel => exact mdelC_mono _ _ _ hk h
  case call raw _ _ => cases raw <;> exact zl.mono0 hk h
  case callv => unfold zaq at *; split at h <;> first | exact zl.mono0 hk h | exact YCall.mono hk h | exact h
  case mkfn => exact hk _ _ h
  case cap => exact capC_mono _ hk h
  case appz => exact appzC_mono _ _ _ _ _ hk h

def Opd.slots : Opd → List Nat
  | .tmp t => [t]
  | .lit _ => []
def osl : Option Opd → List Nat
  | some x => x.slots
  | none => []
def lsl (l : List Opd) : List Nat := l.flatMap Opd.slots
def psl (l : List (Nat × Nat × Opd)) : List Nat := l.flatMap fun p => p.2.2.slots
def I.reads : I → List Nat
  | .mv x | .boxi x | .load _ _ x | .nilchk x | .un _ x | .conv _ x | .faddr _ x | .field _ _ _ x | .extract x _ | .len _ x | .rangeS x | .nextS x | .rangeM x | .nextM x | .entryM x | .isnil _ x | .cap x => x.slots
  | .bad => []
  | .appz _ _ _ x n => x.slots ++ n.slots
  | .mkmap => []
  | .mget _ _ _ m k => m.slots ++ k.slots
  | .mset _ m k x => m.slots ++ k.slots ++ x.slots
  | .mdel _ m k => m.slots ++ k.slots
  | .pick c a b => c.slots ++ a.slots ++ b.slots
  | .alloc _ => []
  | .build _ ps => psl ps
  | .mkslice _ _ _ _ ps => psl ps
  | .store _ a x => a.slots ++ x.slots
  | .bin _ _ x y => x.slots ++ y.slots
  | .slc _ x lo hi mx => x.slots ++ osl lo ++ osl hi ++ osl mx
  | .iaddr _ _ x i => x.slots ++ i.slots
  | .idxS x i => x.slots ++ i.slots
  | .idxA _ _ _ x i => x.slots ++ i.slots
  | .append _ _ _ _ x y => x.slots ++ y.slots
  | .maxi xs => lsl xs
  | .mini xs => lsl xs
  | .call _ _ xs => lsl xs
  | .callv f xs => f.slots ++ lsl xs
  | .mkfn _ xs ys => lsl xs ++ lsl ys
def Ai.reads (x : Ai) : List Nat :=
  match x.g with
  | some (s, _) => s :: x.i.reads
  | none => x.i.reads

theorem zaN {fr fr' : zE} {x : Opd} (h : ∀ t ∈ x.slots, zeG fr t = zeG fr' t) : ev fr x = ev fr' x := by
  cases x with
  | tmp t => exact h t (by simp [Opd.slots])
  | lit a => rfl
theorem oev_ext {fr fr' : zE} {x : Option Opd} (h : ∀ t ∈ osl x, zeG fr t = zeG fr' t) : x.map (ev fr) = x.map (ev fr') := by
  cases x with
  | none => rfl
  | some x => simp only [Option.map_some]; rw [zaN h]
theorem zkF {fr fr' : zE} {l : List Opd} (h : ∀ t ∈ lsl l, zeG fr t = zeG fr' t) : l.map (ev fr) = l.map (ev fr') :=
  List.map_congr_left fun x hx => zaN fun t ht => h t (List.mem_flatMap.2 ⟨x, hx, ht⟩)
theorem zot {fr fr' : zE} : ∀ {l : List (Nat × Nat × Opd)} {cs : List AV}, (∀ t ∈ psl l, zeG fr t = zeG fr' t) → znt fr cs l = znt fr' cs l
  | [], _, _ => rfl
  | (off, s, x) :: l, cs, h => by
    have e : ev fr x = ev fr' x := zaN fun t ht => h t (by simp [psl, ht])
    simp only [znt]
    rw [e]
    split
    · split
      · exact zot fun t ht => h t (by simp only [psl, List.flatMap_cons, List.mem_append] at ht ⊢; exact .inr ht)
      · rfl
    · rfl

theorem zlI {i : I} {fr fr' : zE} {σ : List zc} {K : KT} (h : ∀ t ∈ i.reads, zeG fr t = zeG fr' t) : zar P i fr σ K = zar P i fr' σ K := by
  cases i <;> simp only [zar, I.reads, List.mem_append] at h ⊢
  case mv x => rw [zaN h]
  case boxi x => rw [zaN h]
  case load x => rw [zaN h]
  case nilchk x => rw [zaN h]
  case un x => rw [zaN h]
  case conv x => rw [zaN h]
  case faddr x => rw [zaN h]
  case field x => rw [zaN h]
  case extract x => rw [zaN h]
  case len x => rw [zaN h]
  case rangeS x => rw [zaN h]
  case nextS x => rw [zaN h]
  case rangeM x => rw [zaN h]
  case nextM x => rw [zaN h]
  case entryM x => rw [zaN h]
  case isnil x => rw [zaN h]
  case cap x => rw [zaN h]
  case appz x n => rw [zaN (x := x) fun t ht => h t (.inl ht), zaN (x := n) fun t ht => h t (.inr ht)]
  case mget m k => rw [zaN (x := m) fun t ht => h t (.inl ht), zaN (x := k) fun t ht => h t (.inr ht)]
  case mset m k x => rw [zaN (x := m) fun t ht => h t (.inl (.inl ht)), zaN (x := k) fun t ht => h t (.inl (.inr ht)), zaN (x := x) fun t ht => h t (.inr ht)]
  case mdel m k => rw [zaN (x := m) fun t ht => h t (.inl ht), zaN (x := k) fun t ht => h t (.inr ht)]
  case pick c a b => rw [zaN (x := c) fun t ht => h t (.inl (.inl ht)), zaN (x := a) fun t ht => h t (.inl (.inr ht)), zaN (x := b) fun t ht => h t (.inr ht)]
  case build => rw [zot h]
  case mkslice => rw [zot h]
  case store a x => rw [zaN (x := a) fun t ht => h t (.inl ht), zaN (x := x) fun t ht => h t (.inr ht)]
  case bin x y => rw [zaN (x := x) fun t ht => h t (.inl ht), zaN (x := y) fun t ht => h t (.inr ht)]
  case slc x lo hi mx => rw [zaN (x := x) fun t ht => h t (.inl (.inl (.inl ht))), oev_ext (x := lo) fun t ht => h t (.inl (.inl (.inr ht))), oev_ext (x := hi) fun t ht => h t (.inl (.inr ht)), oev_ext (x := mx) fun t ht => h t (.inr ht)]
  case iaddr x y => rw [zaN (x := x) fun t ht => h t (.inl ht), zaN (x := y) fun t ht => h t (.inr ht)]
  case idxS x y => rw [zaN (x := x) fun t ht => h t (.inl ht), zaN (x := y) fun t ht => h t (.inr ht)]
  case idxA x y => rw [zaN (x := x) fun t ht => h t (.inl ht), zaN (x := y) fun t ht => h t (.inr ht)]
  case append x y => rw [zaN (x := x) fun t ht => h t (.inl ht), zaN (x := y) fun t ht => h t (.inr ht)]
  case maxi => rw [zkF h]
  case mini => rw [zkF h]
  case call raw f xs =>
    have : xs.map (fun x => dm (ev fr x)) = xs.map (fun x => dm (ev fr' x)) := by
      have := congrArg (List.map dm) (zkF h)
      simpa [List.map_map, Function.comp_def] using this
    rw [this, zkF h]
  case callv f xs =>
    have : xs.map (fun x => dm (ev fr x)) = xs.map (fun x => dm (ev fr' x)) := by
      have := congrArg (List.map dm) (zkF (l := xs) fun t ht => h t (.inr ht))
      simpa [List.map_map, Function.comp_def] using this
    rw [this, zaN (x := f) fun t ht => h t (.inl ht)]
  case mkfn f xs ys => rw [zkF (l := xs) fun t ht => h t (.inl ht), zkF (l := ys) fun t ht => h t (.inr ht)]

def I.quiet : I → Bool
  | .mv _ | .pick .. | .build .. | .mkslice false .. | .load .. | .nilchk _ | .bin .. | .un .. | .conv .. | .slc .. | .faddr .. | .field .. | .iaddr .. | .idxS .. | .idxA .. | .extract .. | .maxi _ | .mini _ | .mget .. => true
  | .len k _ => match k with | .map => false | _ => true
  | _ => false
def I.at? : I → Option Opd
  | .load _ _ x => some x
  | .mget _ _ _ m _ => some m
  | _ => none
def zI (a : AV) (σ σ' : List zc) : Prop :=
  match a with
  | .box id _ => σ'[id]? = σ[id]?
  | .map id => σ'[id]? = σ[id]?
  | .rpt t _ _ => σ'[t]? = σ[t]?
  | _ => True

theorem binA_quiet {op : BinOp} {e : EK} {x y : AV} {K : AV → Prop} (h : zen op e x y K) : ∃ v, K v ∧ ∀ K' : AV → Prop, K' v → zen op e x y K' := by
  unfold zen at *
  repeat' split at h
  all_goals (first | exact h.elim | exact h.2.elim | exact ⟨_, h, fun _ h' => h'⟩ | exact ⟨_, h.2, fun _ h' => ⟨h.1, h'⟩⟩ | exact ⟨_, h.2.2, fun _ h' => ⟨h.1, h.2.1, h'⟩⟩ | skip)
  all_goals (simp only [*] at h ⊢)
  all_goals (first | exact ⟨_, h, fun _ h' => h'⟩ | exact ⟨_, h.2, fun _ h' => ⟨h.1, h'⟩⟩ | skip)
theorem buildC_quiet (o : Option (List AV)) {σ : List zc} {K : KT} (h : zB o σ K) : ∃ v, K v σ ∧ ∀ (σ' : List zc) (K' : KT), K' v σ' → zB o σ' K' := by
  unfold zB at *
  repeat' split at h
  all_goals (first | exact h.elim | skip)
  all_goals (revert h; try simp only [*, if_true, if_false, Bool.false_eq_true, reduceIte, ite_true, ite_false])
  all_goals (intro h)
  all_goals (first | exact h.2.elim | exact h.2.2.elim | exact ⟨_, h, fun _ _ h' => h'⟩ | exact ⟨_, h.2, fun _ _ h' => ⟨h.1, h'⟩⟩ | exact ⟨_, h.2.2, fun _ _ h' => ⟨h.1, h.2.1, h'⟩⟩ | exact ⟨_, h.2.2.2, fun _ _ h' => ⟨h.1, h.2.1, h.2.2.1, h'⟩⟩ | exact ⟨_, h.2.2.2.2, fun _ _ h' => ⟨h.1, h.2.1, h.2.2.1, h.2.2.2.1, h'⟩⟩ | exact ⟨_, h.2.2.2.2.2, fun _ _ h' => ⟨h.1, h.2.1, h.2.2.1, h.2.2.2.1, h.2.2.2.2.1, h'⟩⟩ | exact ⟨_, h.2.2.2.2.2.2, fun _ _ h' => ⟨h.1, h.2.1, h.2.2.1, h.2.2.2.1, h.2.2.2.2.1, h.2.2.2.2.2.1, h'⟩⟩)
theorem nilC_quiet (x : AV) {σ : List zc} {K : KT} (h : zbr x σ K) : ∃ v, K v σ ∧ ∀ (σ' : List zc) (K' : KT), K' v σ' → zbr x σ' K' := by
  unfold zbr at *
  repeat' split at h
  all_goals (first | exact h.elim | skip)
  all_goals (revert h; try simp only [*, if_true, if_false, Bool.false_eq_true, reduceIte, ite_true, ite_false])
  all_goals (intro h)
  all_goals (first | exact h.2.elim | exact h.2.2.elim | exact ⟨_, h, fun _ _ h' => h'⟩ | exact ⟨_, h.2, fun _ _ h' => ⟨h.1, h'⟩⟩ | exact ⟨_, h.2.2, fun _ _ h' => ⟨h.1, h.2.1, h'⟩⟩ | exact ⟨_, h.2.2.2, fun _ _ h' => ⟨h.1, h.2.1, h.2.2.1, h'⟩⟩ | exact ⟨_, h.2.2.2.2, fun _ _ h' => ⟨h.1, h.2.1, h.2.2.1, h.2.2.2.1, h'⟩⟩ | exact ⟨_, h.2.2.2.2.2, fun _ _ h' => ⟨h.1, h.2.1, h.2.2.1, h.2.2.2.1, h.2.2.2.2.1, h'⟩⟩ | exact ⟨_, h.2.2.2.2.2.2, fun _ _ h' => ⟨h.1, h.2.1, h.2.2.1, h.2.2.2.1, h.2.2.2.2.1, h.2.2.2.2.2.1, h'⟩⟩)
theorem convC_quiet (c : CK) (x : AV) {σ : List zc} {K : KT} (h : zay c x σ K) : ∃ v, K v σ ∧ ∀ (σ' : List zc) (K' : KT), K' v σ' → zay c x σ' K' := by
  unfold zay at *
  repeat' split at h
  all_goals (first | exact h.elim | skip)
  all_goals (revert h; try simp only [*, if_true, if_false, Bool.false_eq_true, reduceIte, ite_true, ite_false])
  all_goals (intro h)
  all_goals (first | exact h.2.elim | exact h.2.2.elim | exact ⟨_, h, fun _ _ h' => h'⟩ | exact ⟨_, h.2, fun _ _ h' => ⟨h.1, h'⟩⟩ | exact ⟨_, h.2.2, fun _ _ h' => ⟨h.1, h.2.1, h'⟩⟩ | exact ⟨_, h.2.2.2, fun _ _ h' => ⟨h.1, h.2.1, h.2.2.1, h'⟩⟩ | exact ⟨_, h.2.2.2.2, fun _ _ h' => ⟨h.1, h.2.1, h.2.2.1, h.2.2.2.1, h'⟩⟩ | exact ⟨_, h.2.2.2.2.2, fun _ _ h' => ⟨h.1, h.2.1, h.2.2.1, h.2.2.2.1, h.2.2.2.2.1, h'⟩⟩ | exact ⟨_, h.2.2.2.2.2.2, fun _ _ h' => ⟨h.1, h.2.1, h.2.2.1, h.2.2.2.1, h.2.2.2.2.1, h.2.2.2.2.2.1, h'⟩⟩)
theorem slcC_quiet (k : SK) (x : AV) (lo hi mx : Option AV) {σ : List zc} {K : KT} (h : zdU k x lo hi mx σ K) : ∃ v, K v σ ∧ ∀ (σ' : List zc) (K' : KT), K' v σ' → zdU k x lo hi mx σ' K' := by
  unfold zdU at *
  repeat' split at h
  all_goals (first | exact h.elim | skip)
  all_goals (revert h; try simp only [*, if_true, if_false, Bool.false_eq_true, reduceIte, ite_true, ite_false])
  all_goals (intro h)
  all_goals (first | exact h.2.elim | exact h.2.2.elim | exact ⟨_, h, fun _ _ h' => h'⟩ | exact ⟨_, h.2, fun _ _ h' => ⟨h.1, h'⟩⟩ | exact ⟨_, h.2.2, fun _ _ h' => ⟨h.1, h.2.1, h'⟩⟩ | exact ⟨_, h.2.2.2, fun _ _ h' => ⟨h.1, h.2.1, h.2.2.1, h'⟩⟩ | exact ⟨_, h.2.2.2.2, fun _ _ h' => ⟨h.1, h.2.1, h.2.2.1, h.2.2.2.1, h'⟩⟩ | exact ⟨_, h.2.2.2.2.2, fun _ _ h' => ⟨h.1, h.2.1, h.2.2.1, h.2.2.2.1, h.2.2.2.2.1, h'⟩⟩ | exact ⟨_, h.2.2.2.2.2.2, fun _ _ h' => ⟨h.1, h.2.1, h.2.2.1, h.2.2.2.1, h.2.2.2.2.1, h.2.2.2.2.2.1, h'⟩⟩)
theorem faddrC_quiet (off : Nat) (x : AV) {σ : List zc} {K : KT} (h : zd off x σ K) : ∃ v, K v σ ∧ ∀ (σ' : List zc) (K' : KT), K' v σ' → zd off x σ' K' := by
  unfold zd at *
  repeat' split at h
  all_goals (first | exact h.elim | skip)
  all_goals (revert h; try simp only [*, if_true, if_false, Bool.false_eq_true, reduceIte, ite_true, ite_false])
  all_goals (intro h)
  all_goals (first | exact h.2.elim | exact h.2.2.elim | exact ⟨_, h, fun _ _ h' => h'⟩ | exact ⟨_, h.2, fun _ _ h' => ⟨h.1, h'⟩⟩ | exact ⟨_, h.2.2, fun _ _ h' => ⟨h.1, h.2.1, h'⟩⟩ | exact ⟨_, h.2.2.2, fun _ _ h' => ⟨h.1, h.2.1, h.2.2.1, h'⟩⟩ | exact ⟨_, h.2.2.2.2, fun _ _ h' => ⟨h.1, h.2.1, h.2.2.1, h.2.2.2.1, h'⟩⟩ | exact ⟨_, h.2.2.2.2.2, fun _ _ h' => ⟨h.1, h.2.1, h.2.2.1, h.2.2.2.1, h.2.2.2.2.1, h'⟩⟩ | exact ⟨_, h.2.2.2.2.2.2, fun _ _ h' => ⟨h.1, h.2.1, h.2.2.1, h.2.2.2.1, h.2.2.2.2.1, h.2.2.2.2.2.1, h'⟩⟩)
theorem fieldC_quiet (agg : Bool) (off n : Nat) (x : AV) {σ : List zc} {K : KT} (h : zan agg off n x σ K) : ∃ v, K v σ ∧ ∀ (σ' : List zc) (K' : KT), K' v σ' → zan agg off n x σ' K' := by
  unfold zan at *
  repeat' split at h
  all_goals (first | exact h.elim | skip)
  all_goals (revert h; try simp only [*, if_true, if_false, Bool.false_eq_true, reduceIte, ite_true, ite_false])
  all_goals (intro h)
  all_goals (first | exact h.2.elim | exact h.2.2.elim | exact ⟨_, h, fun _ _ h' => h'⟩ | exact ⟨_, h.2, fun _ _ h' => ⟨h.1, h'⟩⟩ | exact ⟨_, h.2.2, fun _ _ h' => ⟨h.1, h.2.1, h'⟩⟩ | exact ⟨_, h.2.2.2, fun _ _ h' => ⟨h.1, h.2.1, h.2.2.1, h'⟩⟩ | exact ⟨_, h.2.2.2.2, fun _ _ h' => ⟨h.1, h.2.1, h.2.2.1, h.2.2.2.1, h'⟩⟩ | exact ⟨_, h.2.2.2.2.2, fun _ _ h' => ⟨h.1, h.2.1, h.2.2.1, h.2.2.2.1, h.2.2.2.2.1, h'⟩⟩ | exact ⟨_, h.2.2.2.2.2.2, fun _ _ h' => ⟨h.1, h.2.1, h.2.2.1, h.2.2.2.1, h.2.2.2.2.1, h.2.2.2.2.2.1, h'⟩⟩)
theorem iaddrC_quiet (arr : Option Nat) (sz : Nat) (x i : AV) {σ : List zc} {K : KT} (h : zO arr sz x i σ K) : ∃ v, K v σ ∧ ∀ (σ' : List zc) (K' : KT), K' v σ' → zO arr sz x i σ' K' := by
  unfold zO at *
  repeat' split at h
  all_goals (first | exact h.elim | skip)
  all_goals (revert h; try simp only [*, if_true, if_false, Bool.false_eq_true, reduceIte, ite_true, ite_false])
  all_goals (intro h)
  all_goals (first | exact h.2.elim | exact h.2.2.elim | exact ⟨_, h, fun _ _ h' => h'⟩ | exact ⟨_, h.2, fun _ _ h' => ⟨h.1, h'⟩⟩ | exact ⟨_, h.2.2, fun _ _ h' => ⟨h.1, h.2.1, h'⟩⟩ | exact ⟨_, h.2.2.2, fun _ _ h' => ⟨h.1, h.2.1, h.2.2.1, h'⟩⟩ | exact ⟨_, h.2.2.2.2, fun _ _ h' => ⟨h.1, h.2.1, h.2.2.1, h.2.2.2.1, h'⟩⟩ | exact ⟨_, h.2.2.2.2.2, fun _ _ h' => ⟨h.1, h.2.1, h.2.2.1, h.2.2.2.1, h.2.2.2.2.1, h'⟩⟩ | exact ⟨_, h.2.2.2.2.2.2, fun _ _ h' => ⟨h.1, h.2.1, h.2.2.1, h.2.2.2.1, h.2.2.2.2.1, h.2.2.2.2.2.1, h'⟩⟩)
theorem idxSC_quiet (x i : AV) {σ : List zc} {K : KT} (h : zbf x i σ K) : ∃ v, K v σ ∧ ∀ (σ' : List zc) (K' : KT), K' v σ' → zbf x i σ' K' := by
  unfold zbf at *
  repeat' split at h
  all_goals (first | exact h.elim | skip)
  all_goals (revert h; try simp only [*, if_true, if_false, Bool.false_eq_true, reduceIte, ite_true, ite_false])
  all_goals (intro h)
  all_goals (first | exact h.2.elim | exact h.2.2.elim | exact ⟨_, h, fun _ _ h' => h'⟩ | exact ⟨_, h.2, fun _ _ h' => ⟨h.1, h'⟩⟩ | exact ⟨_, h.2.2, fun _ _ h' => ⟨h.1, h.2.1, h'⟩⟩ | exact ⟨_, h.2.2.2, fun _ _ h' => ⟨h.1, h.2.1, h.2.2.1, h'⟩⟩ | exact ⟨_, h.2.2.2.2, fun _ _ h' => ⟨h.1, h.2.1, h.2.2.1, h.2.2.2.1, h'⟩⟩ | exact ⟨_, h.2.2.2.2.2, fun _ _ h' => ⟨h.1, h.2.1, h.2.2.1, h.2.2.2.1, h.2.2.2.2.1, h'⟩⟩ | exact ⟨_, h.2.2.2.2.2.2, fun _ _ h' => ⟨h.1, h.2.1, h.2.2.1, h.2.2.2.1, h.2.2.2.2.1, h.2.2.2.2.2.1, h'⟩⟩)
theorem idxAC_quiet (agg : Bool) (n sz : Nat) (x i : AV) {σ : List zc} {K : KT} (h : zbg agg n sz x i σ K) : ∃ v, K v σ ∧ ∀ (σ' : List zc) (K' : KT), K' v σ' → zbg agg n sz x i σ' K' := by
  unfold zbg at *
  repeat' split at h
  all_goals (first | exact h.elim | skip)
  all_goals (revert h; try simp only [*, if_true, if_false, Bool.false_eq_true, reduceIte, ite_true, ite_false])
  all_goals (intro h)
  all_goals (first | exact h.2.elim | exact h.2.2.elim | exact ⟨_, h, fun _ _ h' => h'⟩ | exact ⟨_, h.2, fun _ _ h' => ⟨h.1, h'⟩⟩ | exact ⟨_, h.2.2, fun _ _ h' => ⟨h.1, h.2.1, h'⟩⟩ | exact ⟨_, h.2.2.2, fun _ _ h' => ⟨h.1, h.2.1, h.2.2.1, h'⟩⟩ | exact ⟨_, h.2.2.2.2, fun _ _ h' => ⟨h.1, h.2.1, h.2.2.1, h.2.2.2.1, h'⟩⟩ | exact ⟨_, h.2.2.2.2.2, fun _ _ h' => ⟨h.1, h.2.1, h.2.2.1, h.2.2.2.1, h.2.2.2.2.1, h'⟩⟩ | exact ⟨_, h.2.2.2.2.2.2, fun _ _ h' => ⟨h.1, h.2.1, h.2.2.1, h.2.2.2.1, h.2.2.2.2.1, h.2.2.2.2.2.1, h'⟩⟩)
theorem zpl (x : AV) (k : Nat) {σ : List zc} {K : KT} (h : zf x k σ K) : ∃ v, K v σ ∧ ∀ (σ' : List zc) (K' : KT), K' v σ' → zf x k σ' K' := by
  unfold zf at *
  repeat' split at h
  all_goals (first | exact h.elim | skip)
  all_goals (revert h; try simp only [*, if_true, if_false, Bool.false_eq_true, reduceIte, ite_true, ite_false])
  all_goals (intro h)
  all_goals (first | exact h.2.elim | exact h.2.2.elim | exact ⟨_, h, fun _ _ h' => h'⟩ | exact ⟨_, h.2, fun _ _ h' => ⟨h.1, h'⟩⟩ | exact ⟨_, h.2.2, fun _ _ h' => ⟨h.1, h.2.1, h'⟩⟩ | exact ⟨_, h.2.2.2, fun _ _ h' => ⟨h.1, h.2.1, h.2.2.1, h'⟩⟩ | exact ⟨_, h.2.2.2.2, fun _ _ h' => ⟨h.1, h.2.1, h.2.2.1, h.2.2.2.1, h'⟩⟩ | exact ⟨_, h.2.2.2.2.2, fun _ _ h' => ⟨h.1, h.2.1, h.2.2.1, h.2.2.2.1, h.2.2.2.2.1, h'⟩⟩ | exact ⟨_, h.2.2.2.2.2.2, fun _ _ h' => ⟨h.1, h.2.1, h.2.2.1, h.2.2.2.1, h.2.2.2.2.1, h.2.2.2.2.2.1, h'⟩⟩)
theorem maxC_quiet (xs : List AV) {σ : List zc} {K : KT} (h : zeb xs σ K) : ∃ v, K v σ ∧ ∀ (σ' : List zc) (K' : KT), K' v σ' → zeb xs σ' K' := by
  unfold zeb at *
  repeat' split at h
  all_goals (first | exact h.elim | skip)
  all_goals (revert h; try simp only [*, if_true, if_false, Bool.false_eq_true, reduceIte, ite_true, ite_false])
  all_goals (intro h)
  all_goals (first | exact h.2.elim | exact h.2.2.elim | exact ⟨_, h, fun _ _ h' => h'⟩ | exact ⟨_, h.2, fun _ _ h' => ⟨h.1, h'⟩⟩ | exact ⟨_, h.2.2, fun _ _ h' => ⟨h.1, h.2.1, h'⟩⟩ | exact ⟨_, h.2.2.2, fun _ _ h' => ⟨h.1, h.2.1, h.2.2.1, h'⟩⟩ | exact ⟨_, h.2.2.2.2, fun _ _ h' => ⟨h.1, h.2.1, h.2.2.1, h.2.2.2.1, h'⟩⟩ | exact ⟨_, h.2.2.2.2.2, fun _ _ h' => ⟨h.1, h.2.1, h.2.2.1, h.2.2.2.1, h.2.2.2.2.1, h'⟩⟩ | exact ⟨_, h.2.2.2.2.2.2, fun _ _ h' => ⟨h.1, h.2.1, h.2.2.1, h.2.2.2.1, h.2.2.2.2.1, h.2.2.2.2.2.1, h'⟩⟩)
theorem minC_quiet (xs : List AV) {σ : List zc} {K : KT} (h : zes xs σ K) : ∃ v, K v σ ∧ ∀ (σ' : List zc) (K' : KT), K' v σ' → zes xs σ' K' := by
  unfold zes at *
  repeat' split at h
  all_goals (first | exact h.elim | skip)
  all_goals (revert h; try simp only [*, if_true, if_false, Bool.false_eq_true, reduceIte, ite_true, ite_false])
  all_goals (intro h)
  all_goals (first | exact h.2.elim | exact h.2.2.elim | exact ⟨_, h, fun _ _ h' => h'⟩ | exact ⟨_, h.2, fun _ _ h' => ⟨h.1, h'⟩⟩ | exact ⟨_, h.2.2, fun _ _ h' => ⟨h.1, h.2.1, h'⟩⟩ | exact ⟨_, h.2.2.2, fun _ _ h' => ⟨h.1, h.2.1, h.2.2.1, h'⟩⟩ | exact ⟨_, h.2.2.2.2, fun _ _ h' => ⟨h.1, h.2.1, h.2.2.1, h.2.2.2.1, h'⟩⟩ | exact ⟨_, h.2.2.2.2.2, fun _ _ h' => ⟨h.1, h.2.1, h.2.2.1, h.2.2.2.1, h.2.2.2.2.1, h'⟩⟩ | exact ⟨_, h.2.2.2.2.2.2, fun _ _ h' => ⟨h.1, h.2.1, h.2.2.1, h.2.2.2.1, h.2.2.2.2.1, h.2.2.2.2.2.1, h'⟩⟩)
theorem loadC_quiet (agg : Bool) (n : Nat) (x : AV) {σ : List zc} {K : KT} (h : zi agg n x σ K) : ∃ v, K v σ ∧ ∀ (σ' : List zc) (K' : KT), zI x σ σ' → K' v σ' → zi agg n x σ' K' := by
  unfold zi at h
  split at h
  · rename_i id off
    split at h
    · rename_i cs hcs
      split at h
      · rename_i hg
        exact ⟨_, h.2, fun σ' K' hk h' => by
          have hk' : σ'[id]? = σ[id]? := hk
          simp only [zi]; rw [hk', hcs]; simp only [hg, if_true]; exact ⟨h.1, h'⟩⟩
      · rename_i hg
        split at h
        · rename_i hv
          exact ⟨_, h, fun σ' K' hk h' => by
            have hk' : σ'[id]? = σ[id]? := hk
            simp only [zi]; rw [hk', hcs]; simp only [if_neg hg]; rw [hv]; exact h'⟩
        · exact h.elim
    · exact h.elim
  · split at h
    · rename_i hg
      exact ⟨_, h.2, fun σ' K' hk h' => by simp only [zi, if_pos hg]; exact ⟨h.1, h'⟩⟩
    · rename_i hg
      split at h
      · rename_i hv
        exact ⟨_, h, fun σ' K' hk h' => by simp only [zi, if_neg hg]; rw [hv]; exact h'⟩
      · exact h.elim
  · rename_i t g off
    split at h
    · rename_i cs hcs
      obtain ⟨hg', h⟩ := h
      split at h
      · rename_i hg
        exact ⟨_, h.2, fun σ' K' hk h' => by
          have hk' : σ'[t]? = σ[t]? := hk
          simp only [zi]; rw [hk', hcs]; simp only [hg, if_true]; exact ⟨hg', h.1, h'⟩⟩
      · rename_i hg
        split at h
        · rename_i hv
          exact ⟨_, h, fun σ' K' hk h' => by
            have hk' : σ'[t]? = σ[t]? := hk
            simp only [zi]; rw [hk', hcs]; simp only [if_neg hg]; rw [hv]; exact ⟨hg', h'⟩⟩
        · exact h.elim
    · exact h.elim
  · exact h.elim
theorem mgetC_quiet (kk : KK) (ok : Bool) (z m k : AV) {σ : List zc} {K : KT} (h : zbe kk ok z m k σ K) : ∃ v, K v σ ∧ ∀ (σ' : List zc) (K' : KT), zI m σ σ' → K' v σ' → zbe kk ok z m k σ' K' := by
  unfold zbe at h
  split at h
  · rename_i es hes
    have key : ∀ σ', zI m σ σ' → zeN m σ' = some es := fun σ' hk => by
      cases m with
      | d x => cases x <;> simp only [zeN] at hes ⊢ <;> exact hes
      | map id => simp only [zeN, zI] at hes hk ⊢; rw [hk]; exact hes
      | _ => simp only [zeN] at hes; cases hes
    obtain ⟨h1, h⟩ := h
    split at h
    · rename_i hf
      exact ⟨_, h, fun σ' K' hk h' => by simp only [zbe, key σ' hk, hf]; exact ⟨h1, h'⟩⟩
    · rename_i hf
      exact ⟨_, h, fun σ' K' hk h' => by simp only [zbe, key σ' hk, hf]; exact ⟨h1, h'⟩⟩
    · exact h.elim
  · exact h.elim
theorem lenC_quiet (k : LK) (x : AV) (hq : (match k with | .map => false | _ => true) = true) {σ : List zc} {K : KT} (h : zaV k x σ K) : ∃ v, K v σ ∧ ∀ (σ' : List zc) (K' : KT), K' v σ' → zaV k x σ' K' := by
  cases k with
  | map => cases hq
  | _ =>
    simp only [zaV] at h ⊢
    repeat' split at h
    all_goals (first | exact h.elim | skip)
    all_goals (revert h; try simp only [*])
    all_goals (intro h)
    all_goals (exact ⟨_, h, fun _ _ h' => h'⟩)
theorem zph (s n : Nat) (o : Option (List AV)) {σ : List zc} {K : KT} (h : zn false s n o σ K) : ∃ v, K v σ ∧ ∀ (σ' : List zc) (K' : KT), K' v σ' → zn false s n o σ' K' := by
  simp only [zn, Bool.false_eq_true, if_false] at *
  repeat' split at h
  all_goals (first | exact h.elim | skip)
  all_goals (revert h; try simp only [*])
  all_goals (intro h)
  all_goals (exact ⟨_, h, fun _ _ h' => h'⟩)
theorem pickC_quiet (c a b : AV) {σ : List zc} {K : KT} (h : zpg c a b σ K) : ∃ v, K v σ ∧ ∀ (σ' : List zc) (K' : KT), K' v σ' → zpg c a b σ' K' := by
  unfold zpg at *
  split at h
  · rename_i t
    cases t
    · exact ⟨_, h.2 rfl, fun _ _ h' => ⟨fun e => Bool.noConfusion e, fun _ => h'⟩⟩
    · exact ⟨_, h.1 rfl, fun _ _ h' => ⟨fun _ => h', fun e => Bool.noConfusion e⟩⟩
  · exact h.elim
theorem unA_quiet (op : UnOp) (x : AV) {K : AV → Prop} (h : unA op x K) : ∃ v, K v ∧ ∀ K' : AV → Prop, K' v → unA op x K' := by
  unfold unA at *
  split at h
  · exact ⟨_, h, fun _ h' => h'⟩
  · exact ⟨_, h, fun _ h' => h'⟩
  · exact h.elim

theorem zoN {i : I} (hq : i.quiet = true) {fr : zE} {σ : List zc} {K : KT} (h : zar P i fr σ K) :
    ∃ v, K v σ ∧ ∀ (σ' : List zc) (K' : KT), (∀ o, i.at? = some o → zI (ev fr o) σ σ') → K' v σ' → zar P i fr σ' K' := by
  cases i <;> simp only [I.quiet, Bool.false_eq_true] at hq <;> simp only [zar] at h ⊢
  case mv => exact ⟨_, h, fun _ _ _ h' => h'⟩
  case pick => obtain ⟨v, hv, hk⟩ := pickC_quiet _ _ _ h; exact ⟨v, hv, fun σ' K' _ h' => hk σ' K' h'⟩
  case build => obtain ⟨v, hv, hk⟩ := buildC_quiet _ h; exact ⟨v, hv, fun σ' K' _ h' => hk σ' K' h'⟩
  case mkslice mu _ _ _ _ =>
    cases mu
    · obtain ⟨v, hv, hk⟩ := zph _ _ _ h; exact ⟨v, hv, fun σ' K' _ h' => hk σ' K' h'⟩
    · simp [I.quiet] at hq
  case load => obtain ⟨v, hv, hk⟩ := loadC_quiet _ _ _ h; exact ⟨v, hv, fun σ' K' ho h' => hk σ' K' (ho _ rfl) h'⟩
  case nilchk => obtain ⟨v, hv, hk⟩ := nilC_quiet _ h; exact ⟨v, hv, fun σ' K' _ h' => hk σ' K' h'⟩
  case bin => obtain ⟨v, hv, hk⟩ := binA_quiet h; exact ⟨v, hv, fun σ' K' _ h' => hk (fun a => K' a σ') h'⟩
  case un => obtain ⟨v, hv, hk⟩ := unA_quiet _ _ h; exact ⟨v, hv, fun σ' K' _ h' => hk (fun a => K' a σ') h'⟩
  case conv => obtain ⟨v, hv, hk⟩ := convC_quiet _ _ h; exact ⟨v, hv, fun σ' K' _ h' => hk σ' K' h'⟩
  case slc => obtain ⟨v, hv, hk⟩ := slcC_quiet _ _ _ _ _ h; exact ⟨v, hv, fun σ' K' _ h' => hk σ' K' h'⟩
  case faddr => obtain ⟨v, hv, hk⟩ := faddrC_quiet _ _ h; exact ⟨v, hv, fun σ' K' _ h' => hk σ' K' h'⟩
  case field => obtain ⟨v, hv, hk⟩ := fieldC_quiet _ _ _ _ h; exact ⟨v, hv, fun σ' K' _ h' => hk σ' K' h'⟩
  case iaddr => obtain ⟨v, hv, hk⟩ := iaddrC_quiet _ _ _ _ h; exact ⟨v, hv, fun σ' K' _ h' => hk σ' K' h'⟩
  case idxS => obtain ⟨v, hv, hk⟩ := idxSC_quiet _ _ h; exact ⟨v, hv, fun σ' K' _ h' => hk σ' K' h'⟩
  case idxA => obtain ⟨v, hv, hk⟩ := idxAC_quiet _ _ _ _ _ h; exact ⟨v, hv, fun σ' K' _ h' => hk σ' K' h'⟩
  case extract => obtain ⟨v, hv, hk⟩ := zpl _ _ h; exact ⟨v, hv, fun σ' K' _ h' => hk σ' K' h'⟩
  case len => obtain ⟨v, hv, hk⟩ := lenC_quiet _ _ hq h; exact ⟨v, hv, fun σ' K' _ h' => hk σ' K' h'⟩
  case maxi => obtain ⟨v, hv, hk⟩ := maxC_quiet _ h; exact ⟨v, hv, fun σ' K' _ h' => hk σ' K' h'⟩
  case mini => obtain ⟨v, hv, hk⟩ := minC_quiet _ h; exact ⟨v, hv, fun σ' K' _ h' => hk σ' K' h'⟩
  case mget => obtain ⟨v, hv, hk⟩ := mgetC_quiet _ _ _ _ _ h; exact ⟨v, hv, fun σ' K' ho h' => hk σ' K' (ho _ rfl) h'⟩


theorem zgH (fr : zE) (d : Option Nat) (a : AV) (i : Nat) : zeG (aput fr d a) i = if d = some i then a else zeG fr i := by
  cases d with
  | none => simp [aput]
  | some d => simp only [aput, zhJ, Option.some.injEq]; by_cases h : i = d <;> simp [h, eq_comm]
def FEq (fr fr' : zE) : Prop := ∀ i, zeG fr i = zeG fr' i
def FE (K : zE → List zc → Prop) : Prop := ∀ fr fr' σ, FEq fr fr' → K fr σ → K fr' σ

theorem znJ {x : Ai} {fr fr' : zE} {σ : List zc} {K K' : zE → List zc → Prop} (he : ∀ t ∈ x.reads, zeG fr t = zeG fr' t)
    (hk : ∀ u s, K (aput fr x.dst u) s → K' (aput fr' x.dst u) s) (h : aop P x fr σ K) : aop P x fr' σ K' := by
  unfold aop at *
  cases hg : x.g with
  | none =>
    simp only [hg] at h ⊢
    rw [← zlI (fr := fr) (fr' := fr') fun t ht => he t (by simp only [Ai.reads, hg]; exact ht)]
    exact zqm (fun a s => hk a s) h
  | some p =>
    obtain ⟨s, want⟩ := p
    simp only [hg] at h ⊢
    have e1 : ∀ t ∈ x.i.reads, zeG fr t = zeG fr' t := fun t ht => he t (by simp only [Ai.reads, hg]; exact List.mem_cons_of_mem _ ht)
    have e0 : zeG fr s = zeG fr' s := he s (by simp only [Ai.reads, hg]; exact List.mem_cons_self)
    rw [← e0]
    unfold zfG at *
    split at h
    · refine ⟨fun e => ?_, fun e => hk _ _ (h.2 e)⟩
      have h1 := h.1 e
      rw [← zlI (fr := fr) (fr' := fr') e1]
      exact zqm (fun a s => hk a s) h1
    · exact hk _ _ h
    · exact h

theorem zcM {x : Ai} {fr : zE} {σ : List zc} {K K' : zE → List zc → Prop} (hk : ∀ f s, K f s → K' f s) (h : aop P x fr σ K) : aop P x fr σ K' :=
  znJ (fun _ _ => rfl) (fun _ _ => hk _ _) h

theorem zlK {x : Ai} (hq : x.i.quiet = true) {fr : zE} {σ : List zc} {K : zE → List zc → Prop} (h : aop P x fr σ K) :
    ∃ v, K (aput fr x.dst v) σ ∧ ∀ (fr' : zE) (σ' : List zc) (K' : zE → List zc → Prop), (∀ t ∈ x.reads, zeG fr t = zeG fr' t) → (∀ o, x.i.at? = some o → zI (ev fr o) σ σ') → K' (aput fr' x.dst v) σ' → aop P x fr' σ' K' := by
  unfold aop at h
  cases hg : x.g with
  | none =>
    simp only [hg] at h
    obtain ⟨v, hv, hk⟩ := zoN hq h
    refine ⟨v, hv, fun fr' σ' K' he hb h' => ?_⟩
    unfold aop
    simp only [hg]
    rw [← zlI (fr := fr) (fr' := fr') fun t ht => he t (by simp only [Ai.reads, hg]; exact ht)]
    exact hk σ' _ hb h'
  | some p =>
    obtain ⟨s, want⟩ := p
    simp only [hg] at h
    unfold zfG at h
    have e0 : ∀ fr' : zE, (∀ t ∈ x.reads, zeG fr t = zeG fr' t) → zeG fr s = zeG fr' s := fun fr' he => he s (by simp only [Ai.reads, hg]; exact List.mem_cons_self)
    split at h
    · rename_i b hb
      cases hbw : (b == want)
      · refine ⟨_, h.2 hbw, fun fr' σ' K' he _ h' => ?_⟩
        unfold aop
        simp only [hg]
        rw [← e0 fr' he, hb]
        exact ⟨fun e => (by rw [hbw] at e; cases e), fun _ => h'⟩
      · obtain ⟨v, hv, hk⟩ := zoN hq (h.1 hbw)
        refine ⟨v, hv, fun fr' σ' K' he ho h' => ?_⟩
        unfold aop
        simp only [hg]
        rw [← e0 fr' he, hb]
        refine ⟨fun _ => ?_, fun e => (by rw [hbw] at e; cases e)⟩
        rw [← zlI (fr := fr) (fr' := fr') fun t ht => he t (by simp only [Ai.reads, hg]; exact List.mem_cons_of_mem _ ht)]
        exact hk σ' _ ho h'
    · rename_i hb
      refine ⟨_, h, fun fr' σ' K' he _ h' => ?_⟩
      unfold aop
      simp only [hg]
      rw [← e0 fr' he, hb]
      exact h'
    · exact h.elim

/-! ### A region that draws its order, taken in one order. -/
def zpi (fr : zE) (σ σ' : List zc) : List Nat → Prop → Prop
  | [], p => p
  | o :: r, p => zI (zeG fr o) σ σ' ∧ zpi fr σ σ' r p
theorem zgG {fr : zE} {σ σ' : List zc} {p : Prop} : ∀ {l : List Nat}, zpi fr σ σ' l p ↔ (∀ o ∈ l, zI (zeG fr o) σ σ') ∧ p
  | [] => by simp [zpi]
  | o :: r => by simp only [zpi, zgG (l := r), List.mem_cons, forall_eq_or_imp, and_assoc]
def zcp (P : Program) (l : List Ai) : List (Nat × List Nat) → zE → List zc → (zE → List zc → Prop) → Prop
  | [], fr, σ, K => K fr σ
  | (i, nd) :: r, fr, σ, K =>
    match l[i]? with
    | some x => aop P x fr σ fun f s => zpi fr σ s nd (zcp P l r f s K)
    | none => False

theorem FEq.put {fr fr' : zE} (h : FEq fr fr') (d : Option Nat) (a : AV) : FEq (aput fr d a) (aput fr' d a) := fun i => by
  rw [zgH, zgH, h i]
theorem FEq.ev {fr fr' : zE} (h : FEq fr fr') (o : Opd) : ev fr o = ev fr' o := zaN fun t _ => h t

theorem zjR {l : List Ai} {K : zE → List zc → Prop} (hK : FE K) : ∀ (lin : List (Nat × List Nat)) (fr fr' : zE) (σ : List zc), FEq fr fr' → zcp P l lin fr σ K → zcp P l lin fr' σ K
  | [], fr, fr', σ, he, h => hK fr fr' σ he h
  | (i, nd) :: r, fr, fr', σ, he, h => by
    unfold zcp at *
    split at h
    · refine znJ (fun t _ => he t) (fun u s hs => ?_) h
      rw [zgG] at hs ⊢
      exact ⟨fun o ho => (by rw [← he o]; exact hs.1 o ho), zjR hK r _ _ s (he.put _ u) hs.2⟩
    · exact h
def passes (x y : Ai) : Bool :=
  x.i.quiet && (x.dst.all fun d => !y.reads.contains d) && (y.dst.all fun d => !x.reads.contains d) && (match x.dst with | some d => !(y.dst == some d) | none => true)

theorem zoa {x y : Ai} (h : passes x y = true) : x.i.quiet = true ∧ (∀ d, x.dst = some d → d ∉ y.reads) ∧ (∀ d, y.dst = some d → d ∉ x.reads) ∧ (∀ d, x.dst = some d → y.dst ≠ some d) := by
  simp only [passes, Bool.and_eq_true] at h
  obtain ⟨⟨⟨h1, h2⟩, h3⟩, h4⟩ := h
  refine ⟨h1, fun d hd => ?_, fun d hd => ?_, fun d hd => ?_⟩
  · rw [hd] at h2; simpa using h2
  · rw [hd] at h3; simpa using h3
  · rw [hd] at h4; simpa using h4

theorem swap {x y : Ai} {fr : zE} {σ : List zc} {K : zE → List zc → Prop} (hp : passes x y = true) (hK : FE K)
    (h : aop P x fr σ fun f s => aop P y f s fun f' s' => (∀ o, x.i.at? = some o → zI (ev fr o) σ s') ∧ K f' s') :
    aop P y fr σ fun f s => aop P x f s K := by
  obtain ⟨hq, h1, h2, h3⟩ := zoa hp
  obtain ⟨v, hv, hk⟩ := zlK hq h
  refine znJ (fun t ht => ?_) (fun u s hs => ?_) hv
  · rw [zgH]
    split
    · rename_i e; exact absurd ht (h1 t e)
    · rfl
  · refine hk _ _ _ (fun t ht => ?_) hs.1 (hK _ _ s (fun i => ?_) hs.2)
    · rw [zgH]
      split
      · rename_i e; exact absurd ht (h2 t e)
      · rfl
    · simp only [zgH]
      by_cases hx : x.dst = some i
      · have := h3 i hx
        simp [hx, this]
      · simp [hx]

theorem aop_still {x : Ai} (hq : x.i.quiet = true) {fr : zE} {σ : List zc} {K : zE → List zc → Prop} (h : aop P x fr σ K) : aop P x fr σ fun f s => s = σ ∧ K f s := by
  obtain ⟨v, hv, hk⟩ := zlK hq h
  refine hk fr σ _ (fun _ _ => rfl) (fun o _ => ?_) ⟨rfl, hv⟩
  unfold zI; split <;> trivial

def pairOk (x y : Ai) (nx ny : List Nat) : Bool :=
  nx.isEmpty && passes x y && (match x.i.at? with | some (.tmp t) => y.i.quiet || ny.contains t | some (.lit (.box _ _)) => false | some (.lit (.map _)) => false | some (.lit (.rpt _ _ _)) => false | _ => true)
def zld (x y : Ai) : Bool :=
  match x.i.at? with
  | some (.tmp t) => !(y.dst == some t) && !(x.dst == some t)
  | _ => true

theorem extract {l : List Ai} {K : zE → List zc → Prop} (hK : FE K) {i : Nat} {nd : List Nat} {x : Ai} (hx : l[i]? = some x) {post : List (Nat × List Nat)} :
    ∀ (pre : List (Nat × List Nat)) (fr : zE) (σ : List zc), (∀ p ∈ pre, ∃ y, l[p.1]? = some y ∧ pairOk y x p.2 nd = true) →
      (pre.Pairwise fun p q => ∀ y z, l[p.1]? = some y → l[q.1]? = some z → zld y z = true) → (∀ p ∈ pre, ∀ y, l[p.1]? = some y → zld y y = true) →
      zcp P l (pre ++ (i, nd) :: post) fr σ K →
      aop P x fr σ fun f s => ((x.i.quiet = true → s = σ) ∧ ∀ t ∈ nd, (∀ p ∈ pre, ∀ y, l[p.1]? = some y → y.dst ≠ some t) → zI (zeG fr t) σ s) ∧ zcp P l (pre ++ post) f s K
  | [], fr, σ, _, _, _, h => by
    simp only [List.nil_append, zcp, hx] at h
    have h2 : aop P x fr σ fun f s => (∀ t ∈ nd, zI (zeG fr t) σ s) ∧ zcp P l post f s K := zcM (fun f s hs => zgG.1 hs) h
    by_cases hq : x.i.quiet = true
    · exact zcM (fun f s hs => ⟨⟨fun _ => hs.1, fun t ht _ => hs.2.1 t ht⟩, hs.2.2⟩) (aop_still hq h2)
    · exact zcM (fun f s hs => ⟨⟨fun e => absurd e hq, fun t ht _ => hs.1 t ht⟩, hs.2⟩) h2
  | (j, nj) :: pre, fr, σ, hp, hs, hss, h => by
    obtain ⟨y, hy, hpy⟩ := hp (j, nj) List.mem_cons_self
    simp only [pairOk, Bool.and_eq_true, List.isEmpty_iff] at hpy
    obtain ⟨⟨hnj, hps⟩, hat⟩ := hpy
    subst hnj
    have hyq := (zoa hps).1
    have hyy := hss (j, []) List.mem_cons_self y hy
    rw [List.pairwise_cons] at hs
    simp only [List.cons_append, zcp, hy, zpi] at h
    obtain ⟨v, hv, hk⟩ := zlK hyq h
    have ih := extract hK hx pre _ σ (fun p hp' => hp p (List.mem_cons_of_mem _ hp')) hs.2 (fun p hp' => hss p (List.mem_cons_of_mem _ hp')) hv
    have h3 : aop P y fr σ fun f s => aop P x f s fun f' s' => (∀ o, y.i.at? = some o → zI (ev fr o) σ s') ∧
        (((x.i.quiet = true → s' = σ) ∧ ∀ t ∈ nd, (∀ p ∈ (j, []) :: pre, ∀ y, l[p.1]? = some y → y.dst ≠ some t) → zI (zeG fr t) σ s') ∧ zcp P l (pre ++ post) f' s' K) := by
      refine hk fr σ _ (fun _ _ => rfl) (fun o _ => (by unfold zI; split <;> trivial)) (zcM (fun f' s' hh => ?_) ih)
      refine ⟨fun o ho => ?_, ⟨hh.1.1, fun t ht hno => ?_⟩, hh.2⟩
      · cases o with
        | lit a =>
          rw [ho] at hat
          cases a <;> first | trivial | simp at hat
        | tmp t =>
          rw [ho] at hat
          simp only [Bool.or_eq_true, List.contains_iff_mem] at hat
          rcases hat with hq | hm
          · rw [hh.1.1 hq]; simp only [zI]; split <;> trivial
          · have h4 := hh.1.2 t hm fun p hp' z hz => by
              have := hs.1 p hp' y z hy hz
              simp only [zld, ho, Bool.and_eq_true] at this
              have := this.1
              simpa using this
            have h5 : y.dst ≠ some t := by
              simp only [zld, ho, Bool.and_eq_true] at hyy
              simpa using hyy.1
            rw [zgH, if_neg h5] at h4
            exact h4
      · have h4 := hh.1.2 t ht fun p hp' z hz => hno p (List.mem_cons_of_mem _ hp') z hz
        rw [zgH, if_neg (hno (j, []) List.mem_cons_self y hy)] at h4
        exact h4
    have hKK : FE fun f' s' => ((x.i.quiet = true → s' = σ) ∧ ∀ t ∈ nd, (∀ p ∈ (j, []) :: pre, ∀ y, l[p.1]? = some y → y.dst ≠ some t) → zI (zeG fr t) σ s') ∧ zcp P l (pre ++ post) f' s' K :=
      fun f f' s he hh => ⟨hh.1, zjR hK _ _ _ _ he hh.2⟩
    refine zcM (fun f s hh => ?_) (swap hps hKK h3)
    obtain ⟨v', hv', _⟩ := zlK hyq hh
    refine ⟨hv'.1, ?_⟩
    simp only [List.cons_append, zcp, hy, zpi]
    exact zcM (fun f' s' h' => h'.2) hh
variable {P : Program}

def pw {α : Type} (f : α → α → Bool) : List α → Bool
  | [] => true
  | a :: r => r.all (f a) && pw f r
theorem pw_spec {α : Type} {f : α → α → Bool} : ∀ {l : List α}, pw f l = true → l.Pairwise fun a b => f a b = true
  | [], _ => .nil
  | a :: r, h => by
    simp only [pw, Bool.and_eq_true, List.all_eq_true] at h
    exact .cons h.1 (pw_spec h.2)
def mask (cl : List Nat) : List Nat → Nat
  | [] => 0
  | j :: r => (2 ^ j ||| cl.getD j 0) ||| mask cl r
theorem mask_spec {cl : List Nat} {p : Nat} : ∀ {a : List Nat}, (mask cl a).testBit p = true → ∃ j ∈ a, p = j ∨ (cl.getD j 0).testBit p = true
  | [], h => by simp [mask] at h
  | j :: r, h => by
    simp only [mask, Nat.testBit_or, Bool.or_eq_true] at h
    rcases h with (h | h) | h
    · rw [Nat.testBit_two_pow] at h
      exact ⟨j, List.mem_cons_self, .inl (by simpa using h : j = p).symm⟩
    · exact ⟨j, List.mem_cons_self, .inr h⟩
    · obtain ⟨k, hk, h'⟩ := mask_spec h
      exact ⟨k, List.mem_cons_of_mem _ hk, h'⟩

def linB (l : List Ai) (after : List (List Nat)) (cl : List Nat) (p q : Nat × List Nat) : Bool :=
  !(p.1 == q.1) && !(after.getD p.1 []).contains q.1 && match l[p.1]?, l[q.1]? with
    | some x, some y => zld x y && ((cl.getD q.1 0).testBit p.1 || pairOk x y p.2 q.2)
    | _, _ => false
def linA (l : List Ai) (after : List (List Nat)) (cl : List Nat) (i : Nat) : Bool :=
  (match Nat.ble cl.length after.length with
    | true => (after.getD i []).all fun j => decide (j < i) || (after.getD j []).isEmpty && decide (j < after.length)
    | false => (after.getD i []).all fun j => Nat.blt j after.length && Nat.blt (cl.getD (after.length + j) 0) (cl.getD (after.length + i) 0)) && (mask cl (after.getD i []) ||| cl.getD i 0 == mask cl (after.getD i [])) && match l[i]? with
    | some x => zld x x
    | none => false
def linOk (l : List Ai) (after : List (List Nat)) (lin : List (Nat × List Nat)) (cl : List Nat) : Bool :=
  lin.length == after.length && (List.range after.length).all (fun i => (lin.map (·.1)).contains i && linA l after cl i) && lin.all (fun p => decide (p.1 < after.length)) && pw (linB l after cl) lin

structure zia (l : List Ai) (after : List (List Nat)) (cl : List Nat) (lin : List (Nat × List Nat)) (listed : List Bool) : Prop where
  len : listed.length = after.length
  mem : ∀ i, i < after.length → (listed.getD i true = false ↔ ∃ p ∈ lin, p.1 = i)
  low : ∀ p ∈ lin, p.1 < after.length
  pair : lin.Pairwise fun p q => linB l after cl p q = true
  down : ∀ i, i < after.length → listed.getD i true = true → ∀ j ∈ after.getD i [], listed.getD j false = true

def rkF (after : List (List Nat)) (cl : List Nat) (i : Nat) : Nat := match Nat.ble cl.length after.length with
  | true => if after.getD i [] = [] then 0 else i + 1
  | false => cl.getD (after.length + i) 0
theorem zfF {l : List Ai} {after : List (List Nat)} {cl : List Nat} {i : Nat} (hi : i < after.length) (h : linA l after cl i = true) :
    (∀ j ∈ after.getD i [], j < after.length ∧ rkF after cl j < rkF after cl i) ∧ (∀ p, (cl.getD i 0).testBit p = true → ∃ j ∈ after.getD i [], p = j ∨ (cl.getD j 0).testBit p = true) ∧ ∃ x, l[i]? = some x ∧ zld x x = true := by
  simp only [linA, Bool.and_eq_true, beq_iff_eq] at h
  refine ⟨fun j hj => ?_, fun p hp => mask_spec ?_, ?_⟩
  · have h0 := h.1.1
    unfold rkF
    split at h0
    · rename_i e
      simp only [List.all_eq_true, Bool.or_eq_true, Bool.and_eq_true, decide_eq_true_eq, List.isEmpty_iff] at h0
      have hne : ¬ after.getD i [] = [] := fun e => by rw [e] at hj; cases hj
      simp only [if_neg hne]
      rcases h0 j hj with h | ⟨h, h'⟩
      · exact ⟨by omega, by split <;> omega⟩
      · exact ⟨h', by rw [if_pos h]; omega⟩
    · rename_i e
      simp only [List.all_eq_true, Bool.and_eq_true, Nat.blt_eq] at h0
      exact h0 j hj
  · rw [← h.1.2, Nat.testBit_or, hp, Bool.or_true]
  · have := h.2
    split at this
    · rename_i x hx; exact ⟨x, hx, this⟩
    · cases this

theorem zkG {l : List Bool} {i n : Nat} (hl : l.length = n) (hi : i < n) (a b : Bool) : l.getD i a = l.getD i b := by
  subst hl
  simp [List.getD, List.getElem?_eq_getElem hi]

theorem zix {l : List Ai} {after : List (List Nat)} {cl : List Nat} {lin : List (Nat × List Nat)} {listed : List Bool} (hA : ∀ i, i < after.length → linA l after cl i = true) (I : zia l after cl lin listed) :
    ∀ (n i : Nat), rkF after cl i < n → i < after.length → (∀ j ∈ after.getD i [], listed.getD j false = true) → ∀ p, (cl.getD i 0).testBit p = true → listed.getD p false = true
  | 0, i, h, _, _, _, _ => absurd h (Nat.not_lt_zero _)
  | n + 1, i, hn, hi, hd, p, hp => by
    obtain ⟨h1, h2, _⟩ := zfF hi (hA i hi)
    obtain ⟨j, hj, hpj⟩ := h2 p hp
    rcases hpj with rfl | hpj
    · exact hd p hj
    · obtain ⟨hjn, hji⟩ := h1 j hj
      exact zix hA I n j (by omega) hjn (I.down j hjn (by rw [zkG I.len hjn true false]; exact hd j hj)) p hpj

theorem zbq {after : List (List Nat)} {listed : List Bool} {i : Nat} : i ∈ zfb after listed ↔ i < after.length ∧ listed.getD i true = false ∧ ∀ j ∈ after.getD i [], listed.getD j false = true := by
  simp only [zfb, List.mem_filter, List.mem_range, Bool.and_eq_true, Bool.not_eq_true', List.all_eq_true]

theorem zjw {l : List Ai} {after : List (List Nat)} {cl : List Nat} (hA : ∀ i, i < after.length → linA l after cl i = true) {K : zE → List zc → Prop} (hK : FE K) :
    ∀ (n : Nat) (lin : List (Nat × List Nat)) (listed : List Bool) (fr : zE) (σ : List zc), lin.length = n → zia l after cl lin listed → zcp P l lin fr σ K → aany P l after K n listed fr σ
  | 0, lin, listed, fr, σ, hn, I, h => by
    have e : lin = [] := List.length_eq_zero_iff.1 hn
    subst e
    refine ⟨?_, h⟩
    rw [List.eq_nil_iff_forall_not_mem]
    intro i hi
    obtain ⟨h1, h2, _⟩ := zbq.1 hi
    obtain ⟨p, hp, _⟩ := (I.mem i h1).1 h2
    cases hp
  | n + 1, lin, listed, fr, σ, hn, I, h => by
    refine ⟨fun h0 => ?_, fun i hi => ?_⟩
    · exfalso
      cases lin with
      | nil => cases hn
      | cons p r =>
        have hlow := I.low p List.mem_cons_self
        have hr : p.1 ∈ zfb after listed := by
          refine zbq.2 ⟨hlow, (I.mem _ hlow).2 ⟨p, List.mem_cons_self, rfl⟩, fun j hj => ?_⟩
          obtain ⟨hjn, hjr⟩ := (zfF hlow (hA _ hlow)).1 j hj
          have hjne : j ≠ p.1 := by
            rintro rfl
            omega
          cases hl : listed.getD j false with
          | true => rfl
          | false =>
            rw [zkG I.len hjn false true] at hl
            obtain ⟨q, hq, e⟩ := (I.mem j hjn).1 hl
            rcases List.mem_cons.1 hq with rfl | hq
            · exact absurd e.symm hjne
            · have := (List.pairwise_cons.1 I.pair).1 q hq
              simp only [linB, Bool.and_eq_true, Bool.not_eq_true', List.contains_eq_mem, decide_eq_false_iff_not] at this
              rw [e] at this
              exact absurd hj this.1.2
        rw [h0] at hr
        cases hr
    · obtain ⟨h1, h2, h3⟩ := zbq.1 hi
      obtain ⟨q, hq, e⟩ := (I.mem i h1).1 h2
      obtain ⟨pre, post, rfl⟩ := List.append_of_mem hq
      obtain ⟨i', nd⟩ := q
      simp only at e
      subst e
      obtain ⟨_, _, x, hx, _⟩ := zfF h1 (hA i' h1)
      have hpair := List.pairwise_append.1 I.pair
      have hcross : ∀ p ∈ pre, linB l after cl p (i', nd) = true := fun p hp => hpair.2.2 p hp (i', nd) List.mem_cons_self
      have hpost : ∀ p ∈ post, linB l after cl (i', nd) p = true := fun p hp => (List.pairwise_cons.1 hpair.2.1).1 p hp
      have hB : ∀ p q, linB l after cl p q = true → p.1 ≠ q.1 ∧ ∃ y z, l[p.1]? = some y ∧ l[q.1]? = some z ∧ zld y z = true ∧ ((cl.getD q.1 0).testBit p.1 = true ∨ pairOk y z p.2 q.2 = true) := by
        intro p q hpq
        simp only [linB, Bool.and_eq_true, Bool.not_eq_true', beq_eq_false_iff_ne] at hpq
        refine ⟨hpq.1.1, ?_⟩
        have := hpq.2
        split at this
        · rename_i y z hy hz
          simp only [Bool.and_eq_true, Bool.or_eq_true] at this
          exact ⟨y, z, hy, hz, this.1, this.2⟩
        · cases this
      have hun : ∀ p ∈ pre, listed.getD p.1 false = false := fun p hp => by
        have hlow := I.low p (List.mem_append_left _ hp)
        rw [zkG I.len hlow false true]
        exact (I.mem _ hlow).2 ⟨p, List.mem_append_left _ hp, rfl⟩
      have hex := extract hK hx (post := post) pre fr σ (fun p hp => by
          obtain ⟨_, y, z, hy, hz, _, hor⟩ := hB _ _ (hcross p hp)
          rw [hx] at hz; cases hz
          refine ⟨y, hy, ?_⟩
          rcases hor with hc | hc
          · have := zix hA I _ i' (Nat.lt_succ_self _) h1 h3 p.1 hc
            rw [hun p hp] at this; cases this
          · exact hc)
        (hpair.1.imp fun {p q} hpq y z hy hz => by
          obtain ⟨_, y', z', hy', hz', hs, _⟩ := hB _ _ hpq
          rw [hy] at hy'; rw [hz] at hz'; cases hy'; cases hz'; exact hs)
        (fun p hp y hy => by
          obtain ⟨_, _, y', hy', hs⟩ := zfF (I.low p (List.mem_append_left _ hp)) (hA p.1 (I.low p (List.mem_append_left _ hp)))
          rw [hy] at hy'; cases hy'; exact hs) h
      simp only [hx]
      refine zcM (fun f s hs => zjw hA hK n (pre ++ post) (listed.set i' true) f s (by simp at hn ⊢; omega) ?_ hs.2) hex
      have hne : ∀ p ∈ pre ++ post, p.1 ≠ i' := fun p hp => by
        rcases List.mem_append.1 hp with hp | hp
        · exact (hB _ _ (hcross p hp)).1
        · exact fun e => (hB _ _ (hpost p hp)).1 e.symm
      have hset : ∀ k d, k ≠ i' → (listed.set i' true).getD k d = listed.getD k d := fun k d hk => by simp [List.getD, List.getElem?_set_ne (Ne.symm hk)]
      have hseti : ∀ d, (listed.set i' true).getD i' d = true := fun d => by simp [List.getD, List.getElem?_set, I.len, h1]
      refine ⟨by rw [List.length_set]; exact I.len, fun k hk => ?_, fun p hp => I.low p ?_, ?_, fun k hk hl j hj => ?_⟩
      · by_cases hki : k = i'
        · subst hki
          rw [hseti]
          exact ⟨fun e => Bool.noConfusion e, fun ⟨p, hp, e⟩ => absurd e (hne p hp)⟩
        · rw [hset k true hki, I.mem k hk]
          constructor
          · rintro ⟨p, hp, rfl⟩
            refine ⟨p, ?_, rfl⟩
            rcases List.mem_append.1 hp with hp | hp
            · exact List.mem_append_left _ hp
            · rcases List.mem_cons.1 hp with rfl | hp
              · exact absurd rfl hki
              · exact List.mem_append_right _ hp
          · rintro ⟨p, hp, rfl⟩
            refine ⟨p, ?_, rfl⟩
            rcases List.mem_append.1 hp with hp | hp
            · exact List.mem_append_left _ hp
            · exact List.mem_append_right _ (List.mem_cons_of_mem _ hp)
      · rcases List.mem_append.1 hp with hp | hp
        · exact List.mem_append_left _ hp
        · exact List.mem_append_right _ (List.mem_cons_of_mem _ hp)
      · exact I.pair.sublist (List.Sublist.append_left (List.sublist_cons_self _ _) _)
      · have hj' : listed.getD j false = true := by
          by_cases hki : k = i'
          · subst hki; exact h3 j hj
          · rw [hset k true hki] at hl
            exact I.down k hk hl j hj
        by_cases hji : j = i'
        · subst hji; exact hseti _
        · rw [hset j false hji]; exact hj'

theorem zoi {l : List Ai} {after : List (List Nat)} {lin : List (Nat × List Nat)} {cl : List Nat} (h : linOk l after lin cl = true) :
    lin.length = after.length ∧ zia l after cl lin (List.replicate after.length false) ∧ ∀ i, i < after.length → linA l after cl i = true := by
  simp only [linOk, Bool.and_eq_true, List.all_eq_true, decide_eq_true_eq, beq_iff_eq, List.mem_range, List.contains_eq_mem, List.mem_map] at h
  obtain ⟨⟨⟨h1, h2⟩, h3⟩, h4⟩ := h
  refine ⟨h1, ⟨by simp, fun i hi => ?_, h3, pw_spec h4, fun i hi e => ?_⟩, fun i hi => (h2 i hi).2⟩
  · constructor
    · intro _
      exact (h2 i hi).1
    · intro _
      simp [List.getD, hi]
  · simp [List.getD, hi] at e
theorem zqe {l : List Ai} {after : List (List Nat)} {cl : List Nat} {pre post post' : List (Nat × List Nat)} {i' : Nat} {nd : List Nat} {listed : List Bool} (hA : ∀ i, i < after.length → linA l after cl i = true)
    (I : zia l after cl (pre ++ (i', nd) :: post') listed) (h1 : i' < after.length) (h2 : listed.getD i' true = false) (h3 : ∀ j ∈ after.getD i' [], listed.getD j false = true) {x : Ai} (hx : l[i']? = some x)
    {K : zE → List zc → Prop} (hK : FE K) {fr : zE} {σ : List zc} (h : zcp P l (pre ++ (i', nd) :: post) fr σ K) :
    aop P x fr σ fun f s => zcp P l (pre ++ post) f s K := by
  have hpair := List.pairwise_append.1 I.pair
  have hcross : ∀ p ∈ pre, linB l after cl p (i', nd) = true := fun p hp => hpair.2.2 p hp (i', nd) List.mem_cons_self
  have hB : ∀ p q, linB l after cl p q = true → p.1 ≠ q.1 ∧ ∃ y z, l[p.1]? = some y ∧ l[q.1]? = some z ∧ zld y z = true ∧ ((cl.getD q.1 0).testBit p.1 = true ∨ pairOk y z p.2 q.2 = true) := by
    intro p q hpq
    simp only [linB, Bool.and_eq_true, Bool.not_eq_true', beq_eq_false_iff_ne] at hpq
    refine ⟨hpq.1.1, ?_⟩
    have := hpq.2
    split at this
    · rename_i y z hy hz
      simp only [Bool.and_eq_true, Bool.or_eq_true] at this
      exact ⟨y, z, hy, hz, this.1, this.2⟩
    · cases this
  have hun : ∀ p ∈ pre, listed.getD p.1 false = false := fun p hp => by
    have hlow := I.low p (List.mem_append_left _ hp)
    rw [zkG I.len hlow false true]
    exact (I.mem _ hlow).2 ⟨p, List.mem_append_left _ hp, rfl⟩
  have hex := extract hK hx (post := post) pre fr σ (fun p hp => by
      obtain ⟨_, y, z, hy, hz, _, hor⟩ := hB _ _ (hcross p hp)
      rw [hx] at hz; cases hz
      refine ⟨y, hy, ?_⟩
      rcases hor with hc | hc
      · have := zix hA I _ i' (Nat.lt_succ_self _) h1 h3 p.1 hc
        rw [hun p hp] at this; cases this
      · exact hc)
    (hpair.1.imp fun {p q} hpq y z hy hz => by
      obtain ⟨_, y', z', hy', hz', hs, _⟩ := hB _ _ hpq
      rw [hy] at hy'; rw [hz] at hz'; cases hy'; cases hz'; exact hs)
    (fun p hp y hy => by
      obtain ⟨_, _, y', hy', hs⟩ := zfF (I.low p (List.mem_append_left _ hp)) (hA p.1 (I.low p (List.mem_append_left _ hp)))
      rw [hy] at hy'; cases hy'; exact hs) h
  exact zcM (fun f s hs => hs.2) hex
theorem adraw_mono' {l : List Ai} {K K' : zE → List zc → Prop} (hk : ∀ f s, K f s → K' f s) : ∀ (lin : List (Nat × List Nat)) (fr : zE) (σ : List zc), zcp P l lin fr σ K → zcp P l lin fr σ K'
  | [], fr, σ, h => hk _ _ h
  | (i, nd) :: r, fr, σ, h => by
    unfold zcp at *
    split at h
    · refine zcM (fun f s hs => ?_) h
      rw [zgG] at hs ⊢
      exact ⟨hs.1, adraw_mono' hk r _ s hs.2⟩
    · exact h

theorem linOk_any {l : List Ai} {after : List (List Nat)} {lin : List (Nat × List Nat)} {cl : List Nat} (h : linOk l after lin cl = true) {K : zE → List zc → Prop} (hK : FE K) {fr : zE} {σ : List zc} (hd : zcp P l lin fr σ K) :
    aany P l after K after.length (List.replicate after.length false) fr σ := by
  simp only [linOk, Bool.and_eq_true, List.all_eq_true, decide_eq_true_eq, beq_iff_eq, List.mem_range, List.contains_eq_mem, List.mem_map] at h
  obtain ⟨⟨⟨h1, h2⟩, h3⟩, h4⟩ := h
  refine zjw (fun i hi => (h2 i hi).2) hK _ lin _ fr σ h1 ⟨by simp, fun i hi => ?_, h3, pw_spec h4, fun i hi e => ?_⟩ hd
  · constructor
    · intro _
      exact (h2 i hi).1
    · intro _
      simp [List.getD, hi]
  · simp [List.getD, hi] at e

theorem zia.step {l : List Ai} {after : List (List Nat)} {cl : List Nat} {pre post : List (Nat × List Nat)} {i' : Nat} {nd : List Nat} {listed : List Bool} (I : zia l after cl (pre ++ (i', nd) :: post) listed) (h1 : i' < after.length)
    (h3 : ∀ j ∈ after.getD i' [], listed.getD j false = true) : zia l after cl (pre ++ post) (listed.set i' true) := by
  have hpair := List.pairwise_append.1 I.pair
  have hcross : ∀ p ∈ pre, linB l after cl p (i', nd) = true := fun p hp => hpair.2.2 p hp (i', nd) List.mem_cons_self
  have hpost : ∀ p ∈ post, linB l after cl (i', nd) p = true := fun p hp => (List.pairwise_cons.1 hpair.2.1).1 p hp
  have hB : ∀ p q, linB l after cl p q = true → p.1 ≠ q.1 := by
    intro p q hpq
    simp only [linB, Bool.and_eq_true, Bool.not_eq_true', beq_eq_false_iff_ne] at hpq
    exact hpq.1.1
  have hne : ∀ p ∈ pre ++ post, p.1 ≠ i' := fun p hp => by
    rcases List.mem_append.1 hp with hp | hp
    · exact hB _ _ (hcross p hp)
    · exact fun e => hB _ _ (hpost p hp) e.symm
  have hset : ∀ k d, k ≠ i' → (listed.set i' true).getD k d = listed.getD k d := fun k d hk => by simp [List.getD, List.getElem?_set_ne (Ne.symm hk)]
  have hseti : ∀ d, (listed.set i' true).getD i' d = true := fun d => by simp [List.getD, List.getElem?_set, I.len, h1]
  refine ⟨by rw [List.length_set]; exact I.len, fun k hk => ?_, fun p hp => I.low p ?_, ?_, fun k hk hl j hj => ?_⟩
  · by_cases hki : k = i'
    · subst hki
      rw [hseti]
      exact ⟨fun e => Bool.noConfusion e, fun ⟨p, hp, e⟩ => absurd e (hne p hp)⟩
    · rw [hset k true hki, I.mem k hk]
      constructor
      · rintro ⟨p, hp, rfl⟩
        refine ⟨p, ?_, rfl⟩
        rcases List.mem_append.1 hp with hp | hp
        · exact List.mem_append_left _ hp
        · rcases List.mem_cons.1 hp with rfl | hp
          · exact absurd rfl hki
          · exact List.mem_append_right _ hp
      · rintro ⟨p, hp, rfl⟩
        refine ⟨p, ?_, rfl⟩
        rcases List.mem_append.1 hp with hp | hp
        · exact List.mem_append_left _ hp
        · exact List.mem_append_right _ (List.mem_cons_of_mem _ hp)
  · rcases List.mem_append.1 hp with hp | hp
    · exact List.mem_append_left _ hp
    · exact List.mem_append_right _ (List.mem_cons_of_mem _ hp)
  · exact I.pair.sublist (List.Sublist.append_left (List.sublist_cons_self _ _) _)
  · have hj' : listed.getD j false = true := by
      by_cases hki : k = i'
      · subst hki; exact h3 j hj
      · rw [hset k true hki] at hl
        exact I.down k hk hl j hj
    by_cases hji : j = i'
    · subst hji; exact hseti _
    · rw [hset j false hji]; exact hj'
def dep (after : List (List Nat)) (i j : Nat) : List (List Nat) := after.set i (j :: after.getD i [])
theorem zkP (after : List (List Nat)) (i j : Nat) : (dep after i j).length = after.length := by simp [dep]
theorem dep_ne (after : List (List Nat)) {i j k : Nat} (h : k ≠ i) : (dep after i j).getD k [] = after.getD k [] := by
  simp [dep, List.getD, List.getElem?_set_ne (Ne.symm h)]
theorem dep_same (after : List (List Nat)) {i j : Nat} (h : i < after.length) : (dep after i j).getD i [] = j :: after.getD i [] := by
  simp [dep, List.getD, List.getElem?_set, h]
theorem zfJ {after : List (List Nat)} {i j : Nat} {listed : List Bool} {k : Nat} (h : k ∈ zfb after listed) (hk : k = i → listed.getD j false = true) : k ∈ zfb (dep after i j) listed := by
  obtain ⟨h1, h2, h3⟩ := zbq.1 h
  refine zbq.2 ⟨by rw [zkP]; exact h1, h2, fun x hx => ?_⟩
  by_cases e : k = i
  · subst e
    rw [dep_same _ h1] at hx
    rcases List.mem_cons.1 hx with rfl | hx
    · exact hk rfl
    · exact h3 x hx
  · rw [dep_ne _ e] at hx
    exact h3 x hx
theorem ready_dep {after : List (List Nat)} {i j : Nat} {listed : List Bool} {k : Nat} (h : k ∈ zfb (dep after i j) listed) : k ∈ zfb after listed := by
  obtain ⟨h1, h2, h3⟩ := zbq.1 h
  rw [zkP] at h1
  refine zbq.2 ⟨h1, h2, fun x hx => h3 x ?_⟩
  by_cases e : k = i
  · subst e
    rw [dep_same _ h1]
    exact List.mem_cons_of_mem _ hx
  · rw [dep_ne _ e]
    exact hx
theorem nil_dep {after : List (List Nat)} {i j : Nat} {listed : List Bool} (h : zfb after listed = []) : zfb (dep after i j) listed = [] := by
  rw [List.eq_nil_iff_forall_not_mem] at h ⊢
  exact fun k hk => h k (ready_dep hk)
theorem zjS {l : List Ai} {after : List (List Nat)} {i j : Nat} {K : zE → List zc → Prop} : ∀ (n : Nat) (listed : List Bool) (fr : zE) (σ : List zc), listed.getD j false = true → aany P l (dep after i j) K n listed fr σ → aany P l after K n listed fr σ
  | 0, listed, fr, σ, hj, h => by
    refine ⟨?_, h.2⟩
    have h1 := h.1
    rw [List.eq_nil_iff_forall_not_mem] at h1 ⊢
    exact fun k hk => h1 k (zfJ hk fun _ => hj)
  | n + 1, listed, fr, σ, hj, h => by
    refine ⟨fun h0 => h.1 (nil_dep h0), fun k hk => ?_⟩
    have h2 := h.2 k (zfJ hk fun _ => hj)
    split at h2
    · refine zcM (fun f s hs => zjS n _ f s ?_ hs) h2
      by_cases e : k = j
      · subst e
        rcases Nat.lt_or_ge k listed.length with hl | hl
        · simp [List.getD, List.getElem?_set, hl]
        · simp [List.getD, List.getElem?_eq_none hl] at hj
      · simp only [List.getD, List.getElem?_set_ne e]
        exact hj
    · exact h2.elim

theorem zfK {l : List Ai} {K : zE → List zc → Prop} : ∀ (a b : List (Nat × List Nat)) (fr : zE) (σ : List zc), zcp P l a fr σ (fun f s => zcp P l b f s K) → zcp P l (a ++ b) fr σ K
  | [], b, fr, σ, h => h
  | (i, nd) :: r, b, fr, σ, h => by
    rw [List.cons_append]
    unfold zcp at *
    split at h
    · refine zcM (fun f s hs => ?_) h
      rw [zgG] at hs ⊢
      exact ⟨hs.1, zfK r b f s hs.2⟩
    · exact h.elim

structure Two (l : List Ai) (after : List (List Nat)) (p q : Nat) : Prop where
  hp : p < after.length
  hq : q < after.length
  ne : p ≠ q

theorem two_any {l : List Ai} {after : List (List Nat)} {p q : Nat} {clA clB : List Nat} {restA restB : List (Nat × List Nat)} (hne : p ≠ q)
    (hA : ∀ i, i < (dep after q p).length → linA l (dep after q p) clA i = true) (hB : ∀ i, i < (dep after p q).length → linA l (dep after p q) clB i = true)
    {K : zE → List zc → Prop} (hK : FE K) :
    ∀ (n : Nat) (pre : List (Nat × List Nat)) (listed : List Bool) (fr : zE) (σ : List zc),
      (∀ x, x < after.length → listed.getD x true = false → x = p ∨ x = q ∨ (∃ y ∈ pre, y.1 = x) ∨ (clA.getD x 0).testBit p = true) →
      listed.getD p false = false → listed.getD q false = false → p < after.length → q < after.length →
      (pre ++ restA).length = n → (pre ++ restB).length = n → zia l (dep after q p) clA (pre ++ restA) listed → zia l (dep after p q) clB (pre ++ restB) listed →
      zcp P l pre fr σ (fun f s => zcp P l restA f s K ∧ zcp P l restB f s K) → aany P l after K n listed fr σ := by
  intro n
  induction n with
  | zero =>
    intro pre listed fr σ hx hp hq hpl hql e1 e2 IA IB h
    have e : pre ++ restA = [] := List.length_eq_zero_iff.1 e1
    have : ∃ y ∈ pre ++ restA, y.1 = p := (IA.mem p (by rw [zkP]; exact hpl)).1 (by rw [zkG (by rw [IA.len, zkP]) hpl true false]; exact hp)
    rw [e] at this
    obtain ⟨y, hy, _⟩ := this
    cases hy
  | succ n ih =>
    intro pre listed fr σ hx hp hq hpl hql e1 e2 IA IB h
    have AA := zjw hA hK (n + 1) _ listed fr σ e1 IA (zfK _ _ _ _ (adraw_mono' (fun f s hs => hs.1) pre fr σ h))
    have AB := zjw hB hK (n + 1) _ listed fr σ e2 IB (zfK _ _ _ _ (adraw_mono' (fun f s hs => hs.2) pre fr σ h))
    refine ⟨fun h0 => AA.1 (nil_dep h0), fun i hi => ?_⟩
    obtain ⟨h1, h2, h3⟩ := zbq.1 hi
    have hset : ∀ d, (listed.set i true).getD i d = true := fun d => by
      have := IA.len
      rw [zkP] at this
      simp [List.getD, List.getElem?_set, this, h1]
    by_cases eip : i = p
    · subst eip
      have h4 := AA.2 i (zfJ hi fun e => absurd e hne)
      split at h4
      · exact zcM (fun f s hs => zjS n _ f s (hset _) hs) h4
      · exact h4.elim
    by_cases eiq : i = q
    · subst eiq
      have h4 := AB.2 i (zfJ hi fun e => absurd e (Ne.symm hne))
      split at h4
      · exact zcM (fun f s hs => zjS n _ f s (hset _) hs) h4
      · exact h4.elim
    have hin : ∃ y ∈ pre, y.1 = i := by
      rcases hx i h1 h2 with h | h | h | h
      · exact absurd h eip
      · exact absurd h eiq
      · exact h
      · obtain ⟨a1, a2, a3⟩ := zbq.1 (zfJ (i := q) (j := p) hi fun e => absurd e eiq)
        have := zix hA IA _ i (Nat.lt_succ_self _) a1 a3 p h
        rw [this] at hp; cases hp
    obtain ⟨y, hy, e⟩ := hin
    obtain ⟨pre1, post1, rfl⟩ := List.append_of_mem hy
    obtain ⟨i', nd⟩ := y
    simp only at e
    subst e
    have hiA := zfJ (i := q) (j := p) hi fun e => absurd e eiq
    have hiB := zfJ (i := p) (j := q) hi fun e => absurd e eip
    obtain ⟨a1, a2, a3⟩ := zbq.1 hiA
    obtain ⟨b1, b2, b3⟩ := zbq.1 hiB
    obtain ⟨_, _, x, hxl, _⟩ := zfF a1 (hA i' a1)
    have IA' : zia l (dep after q p) clA (pre1 ++ (i', nd) :: (post1 ++ restA)) listed := by simpa [List.append_assoc] using IA
    have IB' : zia l (dep after p q) clB (pre1 ++ (i', nd) :: (post1 ++ restB)) listed := by simpa [List.append_assoc] using IB
    have hex := zqe hA IA' a1 a2 a3 hxl (K := fun f s => zcp P l restA f s K ∧ zcp P l restB f s K) (fun f f' s he hs => ⟨zjR hK _ _ _ _ he hs.1, zjR hK _ _ _ _ he hs.2⟩) (post := post1) h
    simp only [hxl]
    refine zcM (fun f s hs => ih (pre1 ++ post1) (listed.set i' true) f s (fun k hk hkl => ?_) ?_ ?_ hpl hql ?_ ?_ ?_ ?_ hs) hex
    · by_cases ek : k = i'
      · subst ek; rw [hset] at hkl; cases hkl
      · have hkl' : listed.getD k true = false := by simpa [List.getD, List.getElem?_set_ne (Ne.symm ek)] using hkl
        rcases hx k hk hkl' with h | h | ⟨y, hy, e⟩ | h
        · exact .inl h
        · exact .inr (.inl h)
        · refine .inr (.inr (.inl ⟨y, ?_, e⟩))
          rcases List.mem_append.1 hy with hy | hy
          · exact List.mem_append_left _ hy
          · rcases List.mem_cons.1 hy with rfl | hy
            · exact absurd e.symm ek
            · exact List.mem_append_right _ hy
        · exact .inr (.inr (.inr h))
    · simpa [List.getD, List.getElem?_set_ne eip] using hp
    · simpa [List.getD, List.getElem?_set_ne eiq] using hq
    · simp only [List.length_append, List.length_cons] at e1 ⊢; omega
    · simp only [List.length_append, List.length_cons] at e2 ⊢; omega
    · have := IA'.step a1 a3
      simpa [List.append_assoc] using this
    · have := IB'.step b1 b3
      simpa [List.append_assoc] using this

def twoOk (l : List Ai) (after : List (List Nat)) (lin : List (Nat × List Nat)) : List Nat → Bool
  | p :: q :: k :: r =>
    decide (p < after.length) && decide (q < after.length) && !(p == q) && decide (k ≤ after.length) && linOk l (dep after q p) (lin.take after.length) (r.take after.length) &&
    linOk l (dep after p q) (lin.take k ++ lin.drop after.length) (r.drop after.length) &&
    (List.range after.length).all fun x => x == p || x == q || ((lin.take k).map (·.1)).contains x || ((r.take after.length).getD x 0).testBit p
  | _ => false
def twoK : List Nat → Nat
  | _ :: _ :: k :: _ => k
  | _ => 0
theorem twoOk_any {l : List Ai} {after : List (List Nat)} {lin : List (Nat × List Nat)} {cl : List Nat} (h : twoOk l after lin cl = true) {K : zE → List zc → Prop} (hK : FE K) {fr : zE} {σ : List zc}
    (hd : zcp P l (lin.take (twoK cl)) fr σ fun f s => zcp P l ((lin.take after.length).drop (twoK cl)) f s K ∧ zcp P l (lin.drop after.length) f s K) :
    aany P l after K after.length (List.replicate after.length false) fr σ := by
  unfold twoOk at h
  split at h
  · rename_i p q k r
    simp only [twoK] at hd
    simp only [Bool.and_eq_true, decide_eq_true_eq, Bool.not_eq_true', beq_eq_false_iff_ne] at h
    obtain ⟨⟨⟨⟨⟨⟨hp, hq⟩, hne⟩, hk⟩, hA⟩, hB⟩, hx⟩ := h
    obtain ⟨lA, IA, AA⟩ := zoi hA
    obtain ⟨lB, IB, AB⟩ := zoi hB
    rw [zkP] at lA lB IA IB
    have esplit : lin.take k ++ (lin.take after.length).drop k = lin.take after.length := by
      have e1 : lin.take k = (lin.take after.length).take k := by rw [List.take_take, Nat.min_eq_left hk]
      rw [e1]
      exact List.take_append_drop ..
    refine two_any hne AA AB hK after.length (lin.take k) _ fr σ (fun x hxl _ => ?_) ?_ ?_ hp hq ?_ ?_ ?_ ?_ hd
    · have := List.all_eq_true.1 hx x (List.mem_range.2 hxl)
      simp only [Bool.or_eq_true, beq_iff_eq, List.contains_eq_mem, decide_eq_true_eq, List.mem_map] at this
      rcases this with ((h | h) | h) | h
      · exact .inl h
      · exact .inr (.inl h)
      · exact .inr (.inr (.inl h))
      · exact .inr (.inr (.inr h))
    · simp [List.getD, hp]
    · simp [List.getD, hq]
    · rw [esplit]; exact lA
    · exact lB
    · rw [esplit]; exact IA
    · exact IB
  · cases h

/-! several operations that may change places: a tree of orders -/
inductive Tr where
  | leaf (lin : List (Nat × List Nat)) (cl : List Nat)
  | node (pre : List (Nat × List Nat)) (heads bits : List Nat) (kids : Tr)
  | kid (h : Nat) (c rest : Tr)
  | done
def trOf (n : Nat) : Nat → List (Nat × List Nat) → List Nat → Tr
  | 0, _, _ => .done
  | f + 1, lin, cl => match cl with
    | 0 :: bits => .leaf lin bits
    | 1 :: k :: rn :: r => .node (lin.take k) (r.take rn) ((r.drop rn).take (n + n)) (trOf n f (lin.drop k) ((r.drop rn).drop (n + n)))
    | 2 :: h :: s :: m :: r => .kid h (trOf n f (lin.take m) (r.take s)) (trOf n f (lin.drop m) (r.drop s))
    | _ => .done
def zmv (after : List (List Nat)) (h : Nat) : List Nat → List (List Nat)
  | [] => after
  | x :: r => match Nat.beq x h with
    | true => zmv after h r
    | false => zmv (dep after x h) h r
def zic (P : Program) (l : List Ai) (K : zE → List zc → Prop) : Tr → zE → List zc → Prop
  | .leaf lin _, fr, σ => zcp P l lin fr σ K
  | .node pre _ _ kids, fr, σ => zcp P l pre fr σ (zic P l K kids)
  | .kid _ c .done, fr, σ => zic P l K c fr σ
  | .kid _ c r, fr, σ => zic P l K c fr σ ∧ zic P l K r fr σ
  | .done, _, _ => True
def kidHs : Tr → List Nat
  | .kid h _ r => h :: kidHs r
  | _ => []
def znn (l : List Ai) : Tr → Option (List Nat) → List (List Nat) → List (Nat × List Nat) → Bool
  | .leaf lin cl, none, after, pre => linOk l after (pre ++ lin) cl
  | .node pr heads bits kids, none, after, pre =>
    heads.all (fun h => Nat.blt h after.length) && (kidHs kids == heads) && !(heads.isEmpty) && ((List.range after.length).all fun i => linA l after bits i) && ((pre ++ pr).all fun y => !(heads.contains y.1)) &&
    ((List.range after.length).all fun x => heads.contains x || ((pre ++ pr).map (·.1)).contains x || heads.any fun h => (bits.getD x 0).testBit h) && znn l kids (some heads) after (pre ++ pr)
  | .kid h c r, some H, after, pre => znn l c none (zmv after h H) pre && znn l r (some H) after pre
  | .done, some _, _, _ => true
  | _, _, _, _ => false
def TInv (l : List Ai) : Tr → Option (List Nat) → List (List Nat) → List (Nat × List Nat) → Nat → List Bool → Prop
  | .leaf lin cl, none, after, pre, n, listed => (pre ++ lin).length = n ∧ zia l after cl (pre ++ lin) listed ∧ ∀ i, i < after.length → linA l after cl i = true
  | .node pr heads bits kids, none, after, pre, n, listed =>
    ((∀ h ∈ heads, h < after.length) ∧ kidHs kids = heads ∧ heads ≠ [] ∧ ∀ i, i < after.length → linA l after bits i = true) ∧
    (listed.length = after.length ∧ (∀ i, i < after.length → listed.getD i true = true → ∀ j ∈ after.getD i [], listed.getD j false = true) ∧ ∀ h ∈ heads, listed.getD h false = false) ∧
    (∀ y ∈ pre ++ pr, y.1 ∉ heads) ∧
    (∀ x, x < after.length → listed.getD x true = false → x ∈ heads ∨ (∃ y ∈ pre ++ pr, y.1 = x) ∨ ∃ h ∈ heads, (bits.getD x 0).testBit h = true) ∧ TInv l kids (some heads) after (pre ++ pr) n listed
  | .kid h c r, some H, after, pre, n, listed => TInv l c none (zmv after h H) pre n listed ∧ TInv l r (some H) after pre n listed
  | .done, some _, _, _, _, _ => True
  | _, _, _, _, _, _ => False

theorem znG (h : Nat) : ∀ (H : List Nat) (after : List (List Nat)), (zmv after h H).length = after.length
  | [], _ => rfl
  | x :: r, after => by
    unfold zmv
    split
    · exact znG h r after
    · rw [znG h r, zkP]
theorem zhO {h : Nat} {listed : List Bool} {k : Nat} : ∀ (H : List Nat) (after : List (List Nat)), k ∈ zfb after listed → (k ∈ H → k = h ∨ listed.getD h false = true) → k ∈ zfb (zmv after h H) listed
  | [], _, hk, _ => hk
  | x :: r, after, hk, hh => by
    unfold zmv
    split
    · exact zhO r after hk fun hm => hh (List.mem_cons_of_mem _ hm)
    · rename_i e
      refine zhO r _ (zfJ hk fun e2 => ?_) fun hm => hh (List.mem_cons_of_mem _ hm)
      rcases hh (by rw [e2]; exact List.mem_cons_self) with h1 | h1
      · have hb : Nat.beq x h = true := by rw [← e2, h1]; exact Nat.beq_refl h
        rw [e] at hb; cases hb
      · exact h1
theorem zkB {h : Nat} {listed : List Bool} {k : Nat} : ∀ (H : List Nat) (after : List (List Nat)), k ∈ zfb (zmv after h H) listed → k ∈ zfb after listed
  | [], _, hk => hk
  | x :: r, after, hk => by
    unfold zmv at hk
    split at hk
    · exact zkB r after hk
    · exact ready_dep (zkB r _ hk)
theorem zkW {l : List Ai} {h : Nat} {K : zE → List zc → Prop} {n : Nat} {listed : List Bool} {fr : zE} {σ : List zc} (hh : listed.getD h false = true) : ∀ (H : List Nat) (after : List (List Nat)), aany P l (zmv after h H) K n listed fr σ → aany P l after K n listed fr σ
  | [], _, ha => ha
  | x :: r, after, ha => by
    unfold zmv at ha
    split at ha
    · exact zkW hh r after ha
    · exact zjS n listed fr σ hh (zkW hh r _ ha)
theorem zoC {l : List Ai} {after : List (List Nat)} {cl : List Nat} {listed : List Bool} (hA : ∀ i, i < after.length → linA l after cl i = true) (hlen : listed.length = after.length)
    (hdown : ∀ i, i < after.length → listed.getD i true = true → ∀ j ∈ after.getD i [], listed.getD j false = true) :
    ∀ (n i : Nat), rkF after cl i < n → i < after.length → (∀ j ∈ after.getD i [], listed.getD j false = true) → ∀ p, (cl.getD i 0).testBit p = true → listed.getD p false = true
  | 0, i, h, _, _, _, _ => absurd h (Nat.not_lt_zero _)
  | n + 1, i, hn, hi, hd, p, hp => by
    obtain ⟨h1, h2, _⟩ := zfF hi (hA i hi)
    obtain ⟨j, hj, hpj⟩ := h2 p hp
    rcases hpj with rfl | hpj
    · exact hd p hj
    · obtain ⟨hjn, hji⟩ := h1 j hj
      exact zoC hA hlen hdown n j (by omega) hjn (hdown j hjn (by rw [zkG hlen hjn true false]; exact hd j hj)) p hpj
theorem zlX {l : List Ai} {K : zE → List zc → Prop} (hK : FE K) {n : Nat} {listed : List Bool} {x : Ai} {fr : zE} {σ : List zc} {pre1 : List (Nat × List Nat)} {i : Nat} {nd : List Nat} (hx : l[i]? = some x) (post0 : List (Nat × List Nat)) (h : zcp P l (pre1 ++ (i, nd) :: post0) fr σ K) :
    ∀ (T : Tr) (o : Option (List Nat)) (after : List (List Nat)) (post1 : List (Nat × List Nat)), TInv l T o after (pre1 ++ (i, nd) :: post1) n listed → (∀ H, o = some H → i ∉ H ∧ kidHs T ≠ []) → i < after.length → listed.getD i true = false → (∀ j ∈ after.getD i [], listed.getD j false = true) →
    aop P x fr σ fun f s => zcp P l (pre1 ++ post0) f s K
  | .leaf lin cl, none, after, post1, hT, _, h1, h2, h3 => by
    obtain ⟨_, I, hA⟩ := hT
    exact zqe hA (by simpa [List.append_assoc] using I) h1 h2 h3 hx hK h
  | .node pr heads bits kids, none, after, post1, hT, _, h1, h2, h3 => by
    obtain ⟨⟨_, e1, e2, _⟩, _, hpre, _, TK⟩ := hT
    rw [List.append_assoc, List.cons_append] at TK
    exact zlX hK hx post0 h kids (some heads) after _ TK (fun H e => by cases e; exact ⟨hpre (i, nd) (by simp), by rw [e1]; exact e2⟩) h1 h2 h3
  | .kid h' c r, some H, after, post1, hT, ho, h1, h2, h3 => by
    obtain ⟨a1, a2, a3⟩ := zbq.1 (zhO (h := h') H after (zbq.2 ⟨h1, h2, h3⟩) fun hm => absurd hm (ho H rfl).1)
    exact zlX hK hx post0 h c none _ _ hT.1 (fun H e => by cases e) a1 a2 a3
  | .done, some H, after, post1, hT, ho, h1, h2, h3 => absurd rfl (ho H rfl).2
  | .leaf .., some _, _, _, hT, _, _, _, _ => hT.elim
  | .node .., some _, _, _, hT, _, _, _, _ => hT.elim
  | .kid .., none, _, _, hT, _, _, _, _ => hT.elim
  | .done, none, _, _, hT, _, _, _, _ => hT.elim
theorem zkZ {l : List Ai} {n : Nat} {listed : List Bool} {pre1 : List (Nat × List Nat)} {i : Nat} {nd : List Nat} :
    ∀ (T : Tr) (o : Option (List Nat)) (after : List (List Nat)) (post1 : List (Nat × List Nat)), TInv l T o after (pre1 ++ (i, nd) :: post1) (n + 1) listed → (∀ H, o = some H → i ∉ H) → i < after.length → listed.getD i true = false → (∀ j ∈ after.getD i [], listed.getD j false = true) →
    TInv l T o after (pre1 ++ post1) n (listed.set i true)
  | .leaf lin cl, none, after, post1, hT, _, h1, h2, h3 => by
    obtain ⟨e, I, hA⟩ := hT
    have I' : zia l after cl (pre1 ++ (i, nd) :: (post1 ++ lin)) listed := by simpa [List.append_assoc] using I
    refine ⟨by simp only [List.length_append, List.length_cons] at e ⊢; omega, ?_, hA⟩
    have := I'.step h1 h3
    simpa [List.append_assoc] using this
  | .node pr heads bits kids, none, after, post1, hT, _, h1, h2, h3 => by
    obtain ⟨hs, ⟨hlen, hdown, hup⟩, hpre, hcov, TK⟩ := hT
    have hi : i ∉ heads := hpre (i, nd) (by simp)
    have hset : ∀ j d, j ≠ i → (listed.set i true).getD j d = listed.getD j d := fun j d hj => by simp [List.getD, List.getElem?_set_ne (Ne.symm hj)]
    have hseti : ∀ d, (listed.set i true).getD i d = true := fun d => by simp [List.getD, List.getElem?_set, hlen, h1]
    rw [List.append_assoc, List.cons_append] at TK
    have SK := zkZ kids (some heads) after _ TK (fun H e => by cases e; exact hi) h1 h2 h3
    rw [← List.append_assoc] at SK
    refine ⟨hs, ⟨by rw [List.length_set]; exact hlen, fun x hx hl j hj => ?_, fun h hh => by rw [hset h _ (fun e => hi (e ▸ hh))]; exact hup h hh⟩, fun y hy => hpre y ?_, fun x hx hl => ?_, SK⟩
    · have hj' : listed.getD j false = true := by
        by_cases hxi : x = i
        · subst hxi; exact h3 j hj
        · rw [hset x true hxi] at hl
          exact hdown x hx hl j hj
      by_cases hji : j = i
      · subst hji; exact hseti _
      · rw [hset j false hji]; exact hj'
    · rcases List.mem_append.1 hy with hy | hy
      · rcases List.mem_append.1 hy with hy | hy
        · exact List.mem_append_left _ (List.mem_append_left _ hy)
        · exact List.mem_append_left _ (List.mem_append_right _ (List.mem_cons_of_mem _ hy))
      · exact List.mem_append_right _ hy
    · by_cases hxi : x = i
      · subst hxi; rw [hseti] at hl; cases hl
      · rw [hset x true hxi] at hl
        rcases hcov x hx hl with h | ⟨y, hy, e⟩ | h
        · exact .inl h
        · refine .inr (.inl ⟨y, ?_, e⟩)
          rcases List.mem_append.1 hy with hy | hy
          · rcases List.mem_append.1 hy with hy | hy
            · exact List.mem_append_left _ (List.mem_append_left _ hy)
            · rcases List.mem_cons.1 hy with rfl | hy
              · exact absurd e.symm hxi
              · exact List.mem_append_left _ (List.mem_append_right _ hy)
          · exact List.mem_append_right _ hy
        · exact .inr (.inr h)
  | .kid h' c r, some H, after, post1, hT, ho, h1, h2, h3 => by
    obtain ⟨a1, a2, a3⟩ := zbq.1 (zhO (h := h') H after (zbq.2 ⟨h1, h2, h3⟩) fun hm => absurd hm (ho H rfl))
    exact ⟨zkZ c none _ _ hT.1 (fun H e => by cases e) a1 a2 a3, zkZ r (some H) _ _ hT.2 ho h1 h2 h3⟩
  | .done, some _, _, _, _, _, _, _, _ => trivial
  | .leaf .., some _, _, _, hT, _, _, _, _ => hT.elim
  | .node .., some _, _, _, hT, _, _, _, _ => hT.elim
  | .kid .., none, _, _, hT, _, _, _, _ => hT.elim
  | .done, none, _, _, hT, _, _, _, _ => hT.elim
theorem zhC {l : List Ai} {K : zE → List zc → Prop} {h : Nat} {c r : Tr} {fr : zE} {σ : List zc} (hw : zic P l K (.kid h c r) fr σ) : zic P l K c fr σ ∧ zic P l K r fr σ := by
  cases r with
  | done => exact ⟨hw, trivial⟩
  | _ => exact hw
theorem treeW_kid' {l : List Ai} {K : zE → List zc → Prop} {h : Nat} {c r : Tr} {fr : zE} {σ : List zc} (hw : zic P l K c fr σ ∧ zic P l K r fr σ) : zic P l K (.kid h c r) fr σ := by
  cases r with
  | done => exact hw.1
  | _ => exact hw
theorem znC {l : List Ai} {K : zE → List zc → Prop} (hK : FE K) : ∀ (T : Tr), FE (zic P l K T)
  | .leaf _ _ => fun _ _ _ he h => zjR hK _ _ _ _ he h
  | .node _ _ _ kids => fun _ _ _ he h => zjR (znC hK kids) _ _ _ _ he h
  | .kid _ c r => fun a b s he h => treeW_kid' ⟨znC hK c a b s he (zhC h).1, znC hK r a b s he (zhC h).2⟩
  | .done => fun _ _ _ _ _ => trivial
theorem znQ {l : List Ai} : ∀ (T : Tr) (o : Option (List Nat)) (after : List (List Nat)) (pre : List (Nat × List Nat)) (listed : List Bool), TInv l T o after pre 0 listed → (o ≠ none → kidHs T ≠ []) → (∀ x, x < after.length → listed.getD x true = true)
  | .leaf lin cl, none, after, pre, listed, hT, _ => by
    obtain ⟨e, I, _⟩ := hT
    intro x hx
    cases hb : listed.getD x true with
    | true => rfl
    | false =>
      obtain ⟨y, hy, _⟩ := (I.mem x hx).1 hb
      rw [List.length_eq_zero_iff.1 e] at hy; cases hy
  | .node pr heads bits kids, none, after, pre, listed, hT, _ => by
    obtain ⟨⟨_, e1, e2, _⟩, _, _, _, TK⟩ := hT
    exact znQ kids (some heads) after _ listed TK fun _ => by rw [e1]; exact e2
  | .kid h c r, some H, after, pre, listed, hT, _ => fun x hx => znQ c none _ _ _ hT.1 (fun e => absurd rfl e) x (by rw [znG]; exact hx)
  | .done, some H, after, pre, listed, hT, ho => absurd rfl (ho (by simp))
  | .leaf .., some _, _, _, _, hT, _ => hT.elim
  | .node .., some _, _, _, _, hT, _ => hT.elim
  | .kid .., none, _, _, _, hT, _ => hT.elim
  | .done, none, _, _, _, hT, _ => hT.elim
theorem znB {l : List Ai} {K : zE → List zc → Prop} (hK : FE K) : ∀ (T : Tr),
    (∀ (after : List (List Nat)) (n : Nat) (pre : List (Nat × List Nat)) (listed : List Bool) (fr : zE) (σ : List zc), TInv l T none after pre n listed → zcp P l pre fr σ (zic P l K T) → aany P l after K n listed fr σ) ∧
    (∀ (H : List Nat) (i : Nat) (after : List (List Nat)) (n : Nat) (pre : List (Nat × List Nat)) (listed : List Bool) (fr : zE) (σ : List zc), TInv l T (some H) after pre n listed → i ∈ kidHs T → zcp P l pre fr σ (zic P l K T) → aany P l (zmv after i H) K n listed fr σ)
  | .leaf lin cl => ⟨fun after n pre listed fr σ hT h => by
      obtain ⟨e, I, hA⟩ := hT
      exact zjw hA hK n _ listed fr σ e I (zfK _ _ _ _ h), fun H i after n pre listed fr σ hT _ _ => hT.elim⟩
  | .kid h' c r => ⟨fun after n pre listed fr σ hT _ => hT.elim, fun H i after n pre listed fr σ hT hi h => by
      rcases List.mem_cons.1 hi with e | hi
      · subst e
        exact (znB hK c).1 _ n pre listed fr σ hT.1 (adraw_mono' (fun f s hs => (zhC hs).1) pre fr σ h)
      · exact (znB hK r).2 H i after n pre listed fr σ hT.2 hi (adraw_mono' (fun f s hs => (zhC hs).2) pre fr σ h)⟩
  | .done => ⟨fun after n pre listed fr σ hT _ => hT.elim, fun H i after n pre listed fr σ _ hi _ => by cases hi⟩
  | .node pr heads bits kids => ⟨fun after n pre listed fr σ hT h => by
      have IK := (znB (l := l) hK kids).2
      have h := zfK (K := zic P l K kids) _ _ _ _ h
      have go : ∀ (n : Nat) (pre' : List (Nat × List Nat)) (listed : List Bool) (fr : zE) (σ : List zc),
          ((∀ h ∈ heads, h < after.length) ∧ kidHs kids = heads ∧ heads ≠ [] ∧ ∀ i, i < after.length → linA l after bits i = true) →
          (listed.length = after.length ∧ (∀ i, i < after.length → listed.getD i true = true → ∀ j ∈ after.getD i [], listed.getD j false = true) ∧ ∀ h ∈ heads, listed.getD h false = false) →
          (∀ y ∈ pre', y.1 ∉ heads) → (∀ x, x < after.length → listed.getD x true = false → x ∈ heads ∨ (∃ y ∈ pre', y.1 = x) ∨ ∃ h ∈ heads, (bits.getD x 0).testBit h = true) →
          TInv l kids (some heads) after pre' n listed → zcp P l pre' fr σ (zic P l K kids) → aany P l after K n listed fr σ := by
        intro n
        induction n with
        | zero =>
          intro pre' listed fr σ ⟨hp, e1, e2, hA⟩ ⟨hlen, hdown, hup⟩ hpre hcov TK h
          obtain ⟨q, hq⟩ := List.exists_mem_of_ne_nil _ e2
          have := znQ kids (some heads) after _ listed TK (fun _ => by rw [e1]; exact e2) q (hp q hq)
          rw [zkG hlen (hp q hq) true false, hup q hq] at this
          cases this
        | succ n ih =>
          intro pre' listed fr σ hs hs2 hpre hcov TK h
          obtain ⟨hp, e1, e2, hA⟩ := hs
          obtain ⟨hlen, hdown, hup⟩ := hs2
          refine ⟨fun h0 => ?_, fun i hi => ?_⟩
          · obtain ⟨q, hq⟩ := List.exists_mem_of_ne_nil _ e2
            have AA := IK heads q after (n + 1) pre' listed fr σ TK (by rw [e1]; exact hq) h
            refine AA.1 ?_
            rw [List.eq_nil_iff_forall_not_mem] at h0 ⊢
            exact fun k hk => h0 k (zkB _ _ hk)
          obtain ⟨h1, h2, h3⟩ := zbq.1 hi
          have hset : ∀ d, (listed.set i true).getD i d = true := fun d => by simp [List.getD, List.getElem?_set, hlen, h1]
          by_cases hih : i ∈ heads
          · have AA := IK heads i after (n + 1) pre' listed fr σ TK (by rw [e1]; exact hih) h
            have h4 := AA.2 i (zhO heads after hi fun _ => .inl rfl)
            split at h4
            · exact zcM (fun f s hs => zkW (hset _) _ _ hs) h4
            · exact h4.elim
          have hin : ∃ y ∈ pre', y.1 = i := by
            rcases hcov i h1 h2 with h | h | ⟨q, hq, h⟩
            · exact absurd h hih
            · exact h
            · have := zoC hA hlen hdown _ i (Nat.lt_succ_self _) h1 h3 q h
              rw [hup q hq] at this; cases this
          obtain ⟨y, hy, e⟩ := hin
          obtain ⟨pre1, post1, rfl⟩ := List.append_of_mem hy
          obtain ⟨i', nd⟩ := y
          simp only at e
          subst e
          obtain ⟨_, _, x, hxl, _⟩ := zfF h1 (hA i' h1)
          have hex := zlX (znC hK kids) hxl post1 h kids (some heads) after post1 TK (fun H e => by cases e; exact ⟨hih, by rw [e1]; exact e2⟩) h1 h2 h3
          simp only [hxl]
          have hset' : ∀ j d, j ≠ i' → (listed.set i' true).getD j d = listed.getD j d := fun j d hj => by simp [List.getD, List.getElem?_set_ne (Ne.symm hj)]
          refine zcM (fun f s hs => ih (pre1 ++ post1) (listed.set i' true) f s ⟨hp, e1, e2, hA⟩ ⟨by rw [List.length_set]; exact hlen, fun x hx hl j hj => ?_, fun q hq => by rw [hset' q _ (fun e => hih (e ▸ hq))]; exact hup q hq⟩ (fun y hy => hpre y ?_) (fun x hx hl => ?_) (zkZ kids (some heads) after post1 TK (fun H e => by cases e; exact hih) h1 h2 h3) hs) hex
          · have hj' : listed.getD j false = true := by
              by_cases hxi : x = i'
              · subst hxi; exact h3 j hj
              · rw [hset' x true hxi] at hl
                exact hdown x hx hl j hj
            by_cases hji : j = i'
            · subst hji; exact hset _
            · rw [hset' j false hji]; exact hj'
          · rcases List.mem_append.1 hy with hy | hy
            · exact List.mem_append_left _ hy
            · exact List.mem_append_right _ (List.mem_cons_of_mem _ hy)
          · by_cases hxi : x = i'
            · subst hxi; rw [hset] at hl; cases hl
            · rw [hset' x true hxi] at hl
              rcases hcov x hx hl with h | ⟨y, hy, e⟩ | h
              · exact .inl h
              · refine .inr (.inl ⟨y, ?_, e⟩)
                rcases List.mem_append.1 hy with hy | hy
                · exact List.mem_append_left _ hy
                · rcases List.mem_cons.1 hy with rfl | hy
                  · exact absurd e.symm hxi
                  · exact List.mem_append_right _ hy
              · exact .inr (.inr h)
      obtain ⟨s1, s2, s3, s4, s5⟩ := hT
      exact go n _ listed fr σ s1 s2 s3 s4 s5 h, fun H i after n pre listed fr σ hT _ _ => hT.elim⟩
theorem zlb {l : List Ai} : ∀ (T : Tr) (o : Option (List Nat)) (after : List (List Nat)) (pre : List (Nat × List Nat)), znn l T o after pre = true → TInv l T o after pre after.length (List.replicate after.length false)
  | .leaf lin cl, none, after, pre, h => zoi h
  | .node pr heads bits kids, none, after, pre, h => by
    simp only [znn, Bool.and_eq_true, Nat.blt_eq, Bool.not_eq_true', List.all_eq_true, List.any_eq_true, List.mem_range, Bool.or_eq_true, beq_iff_eq, List.contains_eq_mem, List.mem_map, decide_eq_true_eq, decide_eq_false_iff_not, List.isEmpty_eq_false_iff] at h
    obtain ⟨⟨⟨⟨⟨⟨hp, e1⟩, e2⟩, hA⟩, hpre⟩, hcov⟩, hTK⟩ := h
    refine ⟨⟨hp, e1, e2, hA⟩, ⟨by simp, fun i hi e => ?_, fun q hq => by simp [List.getD, hp q hq]⟩, hpre, fun x hx _ => ?_, zlb kids (some heads) after _ hTK⟩
    · simp [List.getD, hi] at e
    · rcases hcov x hx with (h | h) | h
      · exact .inl h
      · exact .inr (.inl h)
      · exact .inr (.inr h)
  | .kid h' c r, some H, after, pre, h => by
    simp only [znn, Bool.and_eq_true] at h
    have := zlb c none _ _ h.1
    rw [znG] at this
    exact ⟨this, zlb r (some H) _ _ h.2⟩
  | .done, some _, _, _, _ => trivial
  | .leaf .., some _, _, _, h => by simp [znn] at h
  | .node .., some _, _, _, h => by simp [znn] at h
  | .kid .., none, _, _, h => by simp [znn] at h
  | .done, none, _, _, h => by simp [znn] at h
theorem treeC_any {l : List Ai} {after : List (List Nat)} {T : Tr} (h : znn l T none after [] = true) {K : zE → List zc → Prop} (hK : FE K) {fr : zE} {σ : List zc}
    (hd : zic P l K T fr σ) : aany P l after K after.length (List.replicate after.length false) fr σ :=
  (znB hK T).1 after after.length [] _ fr σ (zlb T none after [] h) hd

def zpW (n : Nat) (fr : zE) : Prop := ∀ p ∈ fr, p.1 < n
theorem zfr {l : List Ai} {n : Nat} (hl : ∀ x ∈ l, ∀ d, x.dst = some d → d < n) {K : zE → List zc → Prop} : ∀ (lin : List (Nat × List Nat)) (fr : zE) (σ : List zc), zpW n fr → zcp P l lin fr σ K → zcp P l lin fr σ fun f s => zpW n f ∧ K f s
  | [], fr, σ, hf, h => ⟨hf, h⟩
  | (i, nd) :: r, fr, σ, hf, h => by
    unfold zcp at *
    split at h
    · rename_i x hx
      refine znJ (fun _ _ => rfl) (fun u s hs => ?_) h
      rw [zgG] at hs ⊢
      refine ⟨hs.1, zfr hl r _ s (fun p hp => ?_) hs.2⟩
      unfold aput at hp
      split at hp
      · rename_i d hd
        rcases List.mem_cons.1 hp with rfl | hp
        · exact hl x (List.mem_of_getElem? hx) d hd
        · exact hf p hp
      · exact hf p hp
    · exact h
theorem zfq {l : List Ai} {K K' : zE → List zc → Prop} (hk : ∀ f s, K f s → K' f s) : ∀ (lin : List (Nat × List Nat)) (fr : zE) (σ : List zc), zcp P l lin fr σ K → zcp P l lin fr σ K'
  | [], fr, σ, h => hk _ _ h
  | (i, nd) :: r, fr, σ, h => by
    unfold zcp at *
    split at h
    · refine zcM (fun f s hs => ?_) h
      rw [zgG] at hs ⊢
      exact ⟨hs.1, zfq hk r _ s hs.2⟩
    · exact h
theorem zjH {l : List Ai} {n : Nat} (hl : ∀ x ∈ l, ∀ d, x.dst = some d → d < n) {K K' : zE → List zc → Prop} (hk : ∀ f s, zpW n f → K f s → K' f s) : ∀ (T : Tr) (fr : zE) (σ : List zc), zpW n fr → zic P l K T fr σ → zic P l K' T fr σ
  | .leaf lin _, fr, σ, hf, h => zfq (fun f s hh => hk f s hh.1 hh.2) _ fr σ (zfr hl _ fr σ hf h)
  | .node pre _ _ kids, fr, σ, hf, h => zfq (fun g s hh => zjH hl hk kids g s hh.1 hh.2) _ fr σ (zfr hl _ fr σ hf h)
  | .kid _ c r, fr, σ, hf, h => treeW_kid' ⟨zjH hl hk c fr σ hf (zhC h).1, zjH hl hk r fr σ hf (zhC h).2⟩
  | .done, _, _, _, _ => trivial
inductive Ex where
  | normal
  | exit (id : Nat)
  | ret

def awp (P : Program) : AC → (Ex → zE → List zc → Prop) → zE → List zc → Prop
  | .skip, Q, fr, σ => Q .normal fr σ
  | .ops l, Q, fr, σ => aops P l fr σ (Q .normal)
  | .draw l after lin cl, Q, fr, σ => match linOk l after lin cl with
    | true => zcp P l lin fr σ (Q .normal)
    | false => match twoOk l after lin cl with
      | true => zcp P l (lin.take (twoK cl)) fr σ fun f s => zcp P l ((lin.take after.length).drop (twoK cl)) f s (Q .normal) ∧ zcp P l (lin.drop after.length) f s (Q .normal)
      | false => match znn l (trOf after.length 60 lin (cl.drop 1)) none after [] with
        | true => zic P l (Q .normal) (trOf after.length 60 lin (cl.drop 1)) fr σ
        | false => False
  | .seq a b, Q, fr, σ => awp P a (fun | .normal, fr', σ' => awp P b Q fr' σ' | e, fr', σ' => Q e fr' σ') fr σ
  | .cond c a b, Q, fr, σ => zo (ev fr c) (awp P a Q fr σ) (awp P b Q fr σ)
  | .block id a, Q, fr, σ => awp P a (fun | .exit id', fr', σ' => if id' = id then Q .normal fr' σ' else Q (.exit id') fr' σ' | e, fr', σ' => Q e fr' σ') fr σ
  | .loop lv dd a, Q, fr, σ => zec (lv.map (zeG fr)) σ fun vs σ' again =>
      awp P a (fun | .normal, f, s => again (lv.map (zeG f)) s | e, f, s => Q e f s) (setS (kill fr dd) lv vs) σ'
  | .rangeF g ps a b, Q, fr, σ => rangeFC P (ev fr g) ps.length σ (fun x s id r0 rb next =>
      awp P a (fun | .normal, f, s1 => s1[id]? = some r0 ∧ awp P b (fun | .normal, _, s2 => s2[id]? = some rb ∧ next (s2.set id r0) | _, _, _ => False) f (s1.set id rb) | _, _, _ => False) (putF fr ps x) s) fun s => Q .normal fr s
  | .exit id, Q, fr, σ => Q (.exit id) fr σ
  | .ret, Q, fr, σ => Q .ret fr σ

end Go.AW

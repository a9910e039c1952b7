/- Operations that only reckon: what they come to does not hang on their place among the others. -/
import Derived.Test.YthpnelbciibjeaaAwBase
set_option linter.all false
set_option linter.unusedSimpArgs false
set_option linter.unusedVariables false
namespace Go.AW
variable {P : Program}

theorem zoo.mono {P : Program} {l : Nat} {as0 : List AV} {σ : List zc} {K K' : AV → List zc → Prop} (hk : ∀ r s, K r s → K' r s) (h : zoo P l as0 σ K) : zoo P l as0 σ K' := fun L w vs S hv => by
  obtain ⟨fn, tmps, assign, body, h1, h2⟩ := h L w vs S hv
  refine ⟨fn, tmps, assign, body, h1, h2.mono fun e w' he => ?_⟩
  cases e with
  | returned v => obtain ⟨L', σ', r, s, S', hr, hK⟩ := he; exact ⟨L', σ', r, s, S', hr, hk r σ' hK⟩
  | panicked ch => exact he
  | outgrown => exact he
theorem zj.mono0 {f : FuncId} {as0 : List AV} {σ : List zc} {K K' : AV → List zc → Prop} (hk : ∀ r σ', K r σ' → K' r σ') (h : zj P f as0 σ K) : zj P f as0 σ K' :=
  ⟨h.1, fun L w vs S hv => Calls.mono (h.2 L w vs S hv) fun e w' he => by
    cases e with
    | returned v => obtain ⟨L', σ', r, a, b, c, d⟩ := he; exact ⟨L', σ', r, a, b, c, hk _ _ d⟩
    | panicked _ => exact he
    | outgrown => exact he⟩

theorem binA_mono {op : BinOp} {e : EK} {x y : AV} {K K' : AV → Prop} (hk : ∀ a, K a → K' a) (h : zfb op e x y K) : zfb op e x y K' := by
  unfold zfb at *
  repeat' split at h
  all_goals (first | exact h.elim | exact hk _ h | exact ⟨h.1, hk _ h.2⟩ | exact ⟨h.1, h.2.1, hk _ h.2.2⟩ | skip)
  all_goals (simp only [*]; try exact ⟨h.1, hk _ h.2⟩)
  all_goals grind
theorem boxC_mono (x : AV) {σ : List zc} {K K' : KT} (hk : ∀ a s, K a s → K' a s) (h : zcA x σ K) : zcA x σ K' := by
  unfold zcA at *
  repeat' split at h
  all_goals (first | exact h.elim | skip)
  all_goals (revert h; try simp only [*, if_true, if_false, Bool.false_eq_true, reduceIte, ite_true, ite_false])
  all_goals (intro h)
  all_goals (repeat (refine ⟨h.1, ?_⟩; replace h := h.2))
  all_goals (first | exact hk _ _ h | exact h.elim)
theorem buildC_mono (o : Option (List AV)) {σ : List zc} {K K' : KT} (hk : ∀ a s, K a s → K' a s) (h : zK o σ K) : zK o σ K' := by
  unfold zK at *
  repeat' split at h
  all_goals (first | exact h.elim | skip)
  all_goals (revert h; try simp only [*, if_true, if_false, Bool.false_eq_true, reduceIte, ite_true, ite_false])
  all_goals (intro h)
  all_goals (repeat (refine ⟨h.1, ?_⟩; replace h := h.2))
  all_goals (first | exact hk _ _ h | exact h.elim)
theorem znI (mu : Bool) (s n : Nat) (o : Option (List AV)) {σ : List zc} {K K' : KT} (hk : ∀ a s, K a s → K' a s) (h : zq mu s n o σ K) : zq mu s n o σ K' := by
  unfold zq at *
  repeat' split at h
  all_goals (first | exact h.elim | skip)
  all_goals (revert h; try simp only [*, if_true, if_false, Bool.false_eq_true, reduceIte, ite_true, ite_false])
  all_goals (intro h)
  all_goals (repeat (refine ⟨h.1, ?_⟩; replace h := h.2))
  all_goals (first | exact hk _ _ h | exact h.elim)
theorem loadC_mono (agg : Bool) (n : Nat) (x : AV) {σ : List zc} {K K' : KT} (hk : ∀ a s, K a s → K' a s) (h : zu agg n x σ K) : zu agg n x σ K' := by
  unfold zu at *
  repeat' split at h
  all_goals (first | exact h.elim | skip)
  all_goals (revert h; try simp only [*, if_true, if_false, Bool.false_eq_true, reduceIte, ite_true, ite_false])
  all_goals (intro h)
  all_goals (repeat (refine ⟨h.1, ?_⟩; replace h := h.2))
  all_goals (first | exact hk _ _ h | exact h.elim)
theorem storeC_mono (n : Nat) (x y : AV) {σ : List zc} {K K' : KT} (hk : ∀ a s, K a s → K' a s) (h : zo n x y σ K) : zo n x y σ K' := by
  unfold zo at *
  repeat' split at h
  all_goals (first | exact h.elim | skip)
  all_goals (revert h; try simp only [*, if_true, if_false, Bool.false_eq_true, reduceIte, ite_true, ite_false])
  all_goals (intro h)
  all_goals (repeat (refine ⟨h.1, ?_⟩; replace h := h.2))
  all_goals (first | exact hk _ _ h | exact h.elim)
theorem nilC_mono (x : AV) {σ : List zc} {K K' : KT} (hk : ∀ a s, K a s → K' a s) (h : zcT x σ K) : zcT x σ K' := by
  unfold zcT at *
  repeat' split at h
  all_goals (first | exact h.elim | skip)
  all_goals (revert h; try simp only [*, if_true, if_false, Bool.false_eq_true, reduceIte, ite_true, ite_false])
  all_goals (intro h)
  all_goals (repeat (refine ⟨h.1, ?_⟩; replace h := h.2))
  all_goals (first | exact hk _ _ h | exact h.elim)
theorem convC_mono (c : CK) (x : AV) {σ : List zc} {K K' : KT} (hk : ∀ a s, K a s → K' a s) (h : zaj c x σ K) : zaj c x σ K' := by
  unfold zaj at *
  repeat' split at h
  all_goals (first | exact h.elim | skip)
  all_goals (revert h; try simp only [*, if_true, if_false, Bool.false_eq_true, reduceIte, ite_true, ite_false])
  all_goals (intro h)
  all_goals (repeat (refine ⟨h.1, ?_⟩; replace h := h.2))
  all_goals (first | exact hk _ _ h | exact h.elim)
theorem slcC_mono (k : SK) (x : AV) (lo hi mx : Option AV) {σ : List zc} {K K' : KT} (hk : ∀ a s, K a s → K' a s) (h : zea k x lo hi mx σ K) : zea k x lo hi mx σ K' := by
  unfold zea at *
  repeat' split at h
  all_goals (first | exact h.elim | skip)
  all_goals (revert h; try simp only [*, if_true, if_false, Bool.false_eq_true, reduceIte, ite_true, ite_false])
  all_goals (intro h)
  all_goals (repeat (refine ⟨h.1, ?_⟩; replace h := h.2))
  all_goals (first | exact hk _ _ h | exact h.elim)
theorem faddrC_mono (off : Nat) (x : AV) {σ : List zc} {K K' : KT} (hk : ∀ a s, K a s → K' a s) (h : zi off x σ K) : zi off x σ K' := by
  unfold zi at *
  repeat' split at h
  all_goals (first | exact h.elim | skip)
  all_goals (revert h; try simp only [*, if_true, if_false, Bool.false_eq_true, reduceIte, ite_true, ite_false])
  all_goals (intro h)
  all_goals (repeat (refine ⟨h.1, ?_⟩; replace h := h.2))
  all_goals (first | exact hk _ _ h | exact h.elim)
theorem fieldC_mono (agg : Bool) (off n : Nat) (x : AV) {σ : List zc} {K K' : KT} (hk : ∀ a s, K a s → K' a s) (h : zax agg off n x σ K) : zax agg off n x σ K' := by
  unfold zax at *
  repeat' split at h
  all_goals (first | exact h.elim | skip)
  all_goals (revert h; try simp only [*, if_true, if_false, Bool.false_eq_true, reduceIte, ite_true, ite_false])
  all_goals (intro h)
  all_goals (repeat (refine ⟨h.1, ?_⟩; replace h := h.2))
  all_goals (first | exact hk _ _ h | exact h.elim)
theorem iaddrC_mono (arr : Option Nat) (sz : Nat) (x i : AV) {σ : List zc} {K K' : KT} (hk : ∀ a s, K a s → K' a s) (h : zac arr sz x i σ K) : zac arr sz x i σ K' := by
  unfold zac at *
  repeat' split at h
  all_goals (first | exact h.elim | skip)
  all_goals (revert h; try simp only [*, if_true, if_false, Bool.false_eq_true, reduceIte, ite_true, ite_false])
  all_goals (intro h)
  all_goals (repeat (refine ⟨h.1, ?_⟩; replace h := h.2))
  all_goals (first | exact hk _ _ h | exact h.elim)
theorem idxSC_mono (x i : AV) {σ : List zc} {K K' : KT} (hk : ∀ a s, K a s → K' a s) (h : zbm x i σ K) : zbm x i σ K' := by
  unfold zbm at *
  repeat' split at h
  all_goals (first | exact h.elim | skip)
  all_goals (revert h; try simp only [*, if_true, if_false, Bool.false_eq_true, reduceIte, ite_true, ite_false])
  all_goals (intro h)
  all_goals (repeat (refine ⟨h.1, ?_⟩; replace h := h.2))
  all_goals (first | exact hk _ _ h | exact h.elim)
theorem idxAC_mono (agg : Bool) (n sz : Nat) (x i : AV) {σ : List zc} {K K' : KT} (hk : ∀ a s, K a s → K' a s) (h : zbg agg n sz x i σ K) : zbg agg n sz x i σ K' := by
  unfold zbg at *
  repeat' split at h
  all_goals (first | exact h.elim | skip)
  all_goals (revert h; try simp only [*, if_true, if_false, Bool.false_eq_true, reduceIte, ite_true, ite_false])
  all_goals (intro h)
  all_goals (repeat (refine ⟨h.1, ?_⟩; replace h := h.2))
  all_goals (first | exact hk _ _ h | exact h.elim)
theorem znQ (x : AV) (k : Nat) {σ : List zc} {K K' : KT} (hk : ∀ a s, K a s → K' a s) (h : zd x k σ K) : zd x k σ K' := by
  unfold zd at *
  repeat' split at h
  all_goals (first | exact h.elim | skip)
  all_goals (revert h; try simp only [*, if_true, if_false, Bool.false_eq_true, reduceIte, ite_true, ite_false])
  all_goals (intro h)
  all_goals (repeat (refine ⟨h.1, ?_⟩; replace h := h.2))
  all_goals (first | exact hk _ _ h | exact h.elim)
theorem lenC_mono (k : LK) (x : AV) {σ : List zc} {K K' : KT} (hk : ∀ a s, K a s → K' a s) (h : zbl k x σ K) : zbl k x σ K' := by
  unfold zbl at *
  repeat' split at h
  all_goals (first | exact h.elim | skip)
  all_goals (revert h; try simp only [*, if_true, if_false, Bool.false_eq_true, reduceIte, ite_true, ite_false])
  all_goals (intro h)
  all_goals (repeat (refine ⟨h.1, ?_⟩; replace h := h.2))
  all_goals (first | exact hk _ _ h | exact h.elim)
theorem appendC_mono (sz bytes : Nat) (x y : AV) {σ : List zc} {K K' : KT} (hk : ∀ a s, K a s → K' a s) (h : zJ sz bytes x y σ K) : zJ sz bytes x y σ K' := by
  unfold zJ at *
  repeat' split at h
  all_goals (first | exact h.elim | skip)
  all_goals (revert h; try simp only [*, if_true, if_false, Bool.false_eq_true, reduceIte, ite_true, ite_false])
  all_goals (intro h)
  all_goals (repeat (refine ⟨h.1, ?_⟩; replace h := h.2))
  all_goals (first | exact hk _ _ h | exact h.elim)
theorem zkd (sz bytes : Nat) (x : AV) (m : Nat) (ys : List AV) {σ : List zc} {K K' : KT} (hk : ∀ a s, K a s → K' a s) (h : zlL sz bytes x m ys σ K) : zlL sz bytes x m ys σ K' := by
  unfold zlL at *
  repeat' split at h
  all_goals (first | exact h.elim | skip)
  all_goals (revert h; try simp only [*, if_true, if_false, Bool.false_eq_true, reduceIte, ite_true, ite_false])
  all_goals (intro h)
  all_goals (repeat (refine ⟨h.1, ?_⟩; replace h := h.2))
  all_goals (first | exact hk _ _ h | exact h.elim)
theorem zon (sz bytes : Nat) (x y : AV) {σ : List zc} {K K' : KT} (hk : ∀ a s, K a s → K' a s) (h : zgC sz bytes x y σ K) : zgC sz bytes x y σ K' := by
  unfold zgC at *
  split at h
  · split at h
    · exact ⟨h.1, h.2.1, h.2.2.1, zkd _ _ _ _ _ hk h.2.2.2⟩
    · exact h.elim
  · split at h
    · exact ⟨h.1, zkd _ _ _ _ _ hk h.2⟩
    · exact h.elim
theorem capC_mono (x : AV) {σ : List zc} {K K' : KT} (hk : ∀ a s, K a s → K' a s) (h : capC x σ K) : capC x σ K' := by
  unfold capC at *
  split at h
  · exact hk _ _ h
  · exact h.elim
theorem appzC_mono (sz bytes : Nat) (z : List AV) (x n : AV) {σ : List zc} {K K' : KT} (hk : ∀ a s, K a s → K' a s) (h : appzC sz bytes z x n σ K) : appzC sz bytes z x n σ K' := by
  unfold appzC at *
  split at h
  · exact ⟨h.1, zkd _ _ _ _ _ hk h.2⟩
  · exact h.elim
theorem maxC_mono (xs : List AV) {σ : List zc} {K K' : KT} (hk : ∀ a s, K a s → K' a s) (h : zeE xs σ K) : zeE xs σ K' := by
  unfold zeE at *
  repeat' split at h
  all_goals (first | exact h.elim | skip)
  all_goals (revert h; try simp only [*, if_true, if_false, Bool.false_eq_true, reduceIte, ite_true, ite_false])
  all_goals (intro h)
  all_goals (repeat (refine ⟨h.1, ?_⟩; replace h := h.2))
  all_goals (first | exact hk _ _ h | exact h.elim)
theorem minC_mono (xs : List AV) {σ : List zc} {K K' : KT} (hk : ∀ a s, K a s → K' a s) (h : zfi xs σ K) : zfi xs σ K' := by
  unfold zfi at *
  repeat' split at h
  all_goals (first | exact h.elim | skip)
  all_goals (revert h; try simp only [*, if_true, if_false, Bool.false_eq_true, reduceIte, ite_true, ite_false])
  all_goals (intro h)
  all_goals (repeat (refine ⟨h.1, ?_⟩; replace h := h.2))
  all_goals (first | exact hk _ _ h | exact h.elim)
theorem rangeC_mono (x : AV) {σ : List zc} {K K' : KT} (hk : ∀ a s, K a s → K' a s) (h : zaA x σ K) : zaA x σ K' := by
  unfold zaA at *
  repeat' split at h
  all_goals (first | exact h.elim | skip)
  all_goals (revert h; try simp only [*, if_true, if_false, Bool.false_eq_true, reduceIte, ite_true, ite_false])
  all_goals (intro h)
  all_goals (repeat (refine ⟨h.1, ?_⟩; replace h := h.2))
  all_goals (first | exact hk _ _ h | exact h.elim)
theorem rangeMC_mono (x : AV) {σ : List zc} {K K' : KT} (hk : ∀ a s, K a s → K' a s) (h : zfe x σ K) : zfe x σ K' := by
  unfold zfe at *
  split at h
  · split at h
    · exact fun c bs h1 h2 => hk _ _ (h c bs h1 h2)
    · exact h.elim
  · exact hk _ _ h
  · exact h.elim
theorem nextMC_mono (x : AV) {σ : List zc} {K K' : KT} (hk : ∀ a s, K a s → K' a s) (h : zgZ x σ K) : zgZ x σ K' := by
  unfold zgZ at *
  split at h
  · split at h
    · exact hk _ _ h
    · split at h
      · exact ⟨h.1, fun h0 => hk _ _ (h.2.1 h0), fun i b e h1 h2 h3 => hk _ _ (h.2.2 i b e h1 h2 h3)⟩
      · exact h.elim
    · exact h.elim
  · exact h.elim
theorem entryMC_mono (x : AV) {σ : List zc} {K K' : KT} (hk : ∀ a s, K a s → K' a s) (h : zfn x σ K) : zfn x σ K' := by
  unfold zfn at *
  split at h
  · split at h
    · split at h
      · obtain ⟨h0, i, b, e, h1, h2, h3, h4⟩ := h
        exact ⟨h0, i, b, e, h1, h2, h3, hk _ _ h4⟩
      · exact h.elim
    · exact h.elim
  · exact h.elim
theorem nextC_mono (x : AV) {σ : List zc} {K K' : KT} (hk : ∀ a s, K a s → K' a s) (h : zjh x σ K) : zjh x σ K' := by
  unfold zjh at *
  repeat' split at h
  all_goals (first | exact h.elim | skip)
  all_goals (revert h; try simp only [*, if_true, if_false, Bool.false_eq_true, reduceIte, ite_true, ite_false])
  all_goals (intro h)
  all_goals (repeat (refine ⟨h.1, ?_⟩; replace h := h.2))
  all_goals (first | exact hk _ _ h | exact h.elim)
theorem isnilC_mono (neg : Bool) (x : AV) {σ : List zc} {K K' : KT} (hk : ∀ a s, K a s → K' a s) (h : zaI neg x σ K) : zaI neg x σ K' := by
  unfold zaI at *
  repeat' split at h
  all_goals (first | exact h.elim | exact ⟨hk _ _ h.1, hk _ _ h.2⟩ | exact hk _ _ h | exact ⟨fun e => ⟨hk _ _ (h.1 e).1, hk _ _ (h.1 e).2⟩, fun e => hk _ _ (h.2 e)⟩)
theorem mgetC_mono (kk : KK) (ok : Bool) (z m k : AV) {σ : List zc} {K K' : KT} (hk : ∀ a s, K a s → K' a s) (h : zaY kk ok z m k σ K) : zaY kk ok z m k σ K' := by
  unfold zaY at *
  split at h
  · refine ⟨h.1, ?_⟩
    replace h := h.2
    split at h <;> first | exact hk _ _ h | exact h.elim
  · exact h.elim
theorem msetC_mono (kk : KK) (m k x : AV) {σ : List zc} {K K' : KT} (hk : ∀ a s, K a s → K' a s) (h : zbC kk m k x σ K) : zbC kk m k x σ K' := by
  unfold zbC at *
  split at h
  · split at h
    · refine ⟨h.1, ?_⟩
      replace h := h.2
      split at h <;> first | exact hk _ _ h | exact h.elim
    · exact h.elim
  · exact h.elim
theorem mdelC_mono (kk : KK) (m k : AV) {σ : List zc} {K K' : KT} (hk : ∀ a s, K a s → K' a s) (h : zck kk m k σ K) : zck kk m k σ K' := by
  unfold zck at *
  split at h
  · split at h
    · refine ⟨h.1, ?_⟩
      replace h := h.2
      split at h <;> first | exact hk _ _ h | exact h.elim
    · refine ⟨h.1, ?_⟩
      replace h := h.2
      split at h <;> first | exact hk _ _ h | exact h.elim
    · exact h.elim
  · exact ⟨h.1, hk _ _ h.2⟩
  · exact h.elim
theorem znj {i : I} {fr : zw} {σ : List zc} {K K' : KT} (hk : ∀ a s, K a s → K' a s) (h : zP P i fr σ K) : zP P i fr σ K' := by
  cases i <;> simp only [zP] at h ⊢
  case mv => exact hk _ _ h
  case pick => unfold zmr at *; split at h <;> first | exact ⟨fun e => hk _ _ (h.1 e), fun e => hk _ _ (h.2 e)⟩ | exact h
  case alloc => exact hk _ _ h
  case boxi => exact boxC_mono _ hk h
  case build => exact buildC_mono _ hk h
  case mkslice => exact znI _ _ _ _ hk h
  case load => exact loadC_mono _ _ _ hk h
  case store => exact storeC_mono _ _ _ hk h
  case nilchk => exact nilC_mono _ hk h
  case bin => exact binA_mono (fun a => hk a σ) h
  case un => unfold unA at *; split at h <;> first | exact hk _ _ h | exact h
  case conv => exact convC_mono _ _ hk h
  case slc => exact slcC_mono _ _ _ _ _ hk h
  case faddr => exact faddrC_mono _ _ hk h
  case field => exact fieldC_mono _ _ _ _ hk h
  case iaddr => exact iaddrC_mono _ _ _ _ hk h
  case idxS => exact idxSC_mono _ _ hk h
  case idxA => exact idxAC_mono _ _ _ _ _ hk h
  case extract => exact znQ _ _ hk h
  case len => exact lenC_mono _ _ hk h
  case append mu _ _ _ _ _ =>
    cases mu
    · exact appendC_mono _ _ _ _ hk h
    · exact zon _ _ _ _ hk h
  case maxi => exact maxC_mono _ hk h
  case mini => exact minC_mono _ hk h
  case rangeS => exact rangeC_mono _ hk h
  case nextS => exact nextC_mono _ hk h
  case rangeM => exact rangeMC_mono _ hk h
  case nextM => exact nextMC_mono _ hk h
  case entryM => exact entryMC_mono _ hk h
  case isnil => exact isnilC_mono _ _ hk h
  case mkmap => exact hk _ _ h
  case mget => exact mgetC_mono _ _ _ _ _ hk h
  case mset => exact msetC_mono _ _ _ _ hk h
  case mdel => exact mdelC_mono _ _ _ hk h
  case call raw _ _ => cases raw <;> exact zj.mono0 hk h
  case callv => unfold zat at *; split at h <;> first | exact zj.mono0 hk h | exact zoo.mono hk h | exact h
  case mkfn => exact hk _ _ h
  case cap => exact capC_mono _ hk h
  case appz => exact appzC_mono _ _ _ _ _ hk h

def Opd.slots : Opd → List Nat
  | .tmp t => [t]
  | .lit _ => []
def osl : Option Opd → List Nat
  | some x => x.slots
  | none => []
def lsl (l : List Opd) : List Nat := l.flatMap Opd.slots
def psl (l : List (Nat × Nat × Opd)) : List Nat := l.flatMap fun p => p.2.2.slots
def I.reads : I → List Nat
  | .mv x | .boxi x | .load _ _ x | .nilchk x | .un _ x | .conv _ x | .faddr _ x | .field _ _ _ x | .extract x _ | .len _ x | .rangeS x | .nextS x | .rangeM x | .nextM x | .entryM x | .isnil _ x | .cap x => x.slots
  | .bad => []
  | .appz _ _ _ x n => x.slots ++ n.slots
  | .mkmap => []
  | .mget _ _ _ m k => m.slots ++ k.slots
  | .mset _ m k x => m.slots ++ k.slots ++ x.slots
  | .mdel _ m k => m.slots ++ k.slots
  | .pick c a b => c.slots ++ a.slots ++ b.slots
  | .alloc _ => []
  | .build _ ps => psl ps
  | .mkslice _ _ _ _ ps => psl ps
  | .store _ a x => a.slots ++ x.slots
  | .bin _ _ x y => x.slots ++ y.slots
  | .slc _ x lo hi mx => x.slots ++ osl lo ++ osl hi ++ osl mx
  | .iaddr _ _ x i => x.slots ++ i.slots
  | .idxS x i => x.slots ++ i.slots
  | .idxA _ _ _ x i => x.slots ++ i.slots
  | .append _ _ _ _ x y => x.slots ++ y.slots
  | .maxi xs => lsl xs
  | .mini xs => lsl xs
  | .call _ _ xs => lsl xs
  | .callv f xs => f.slots ++ lsl xs
  | .mkfn _ xs ys => lsl xs ++ lsl ys
def Ai.reads (x : Ai) : List Nat :=
  match x.g with
  | some (s, _) => s :: x.i.reads
  | none => x.i.reads

theorem zay {fr fr' : zw} {x : Opd} (h : ∀ t ∈ x.slots, zdw fr t = zdw fr' t) : ev fr x = ev fr' x := by
  cases x with
  | tmp t => exact h t (by simp [Opd.slots])
  | lit a => rfl
theorem oev_ext {fr fr' : zw} {x : Option Opd} (h : ∀ t ∈ osl x, zdw fr t = zdw fr' t) : x.map (ev fr) = x.map (ev fr') := by
  cases x with
  | none => rfl
  | some x => simp only [Option.map_some]; rw [zay h]
theorem ziG {fr fr' : zw} {l : List Opd} (h : ∀ t ∈ lsl l, zdw fr t = zdw fr' t) : l.map (ev fr) = l.map (ev fr') :=
  List.map_congr_left fun x hx => zay fun t ht => h t (List.mem_flatMap.2 ⟨x, hx, ht⟩)
theorem zlN {fr fr' : zw} : ∀ {l : List (Nat × Nat × Opd)} {cs : List AV}, (∀ t ∈ psl l, zdw fr t = zdw fr' t) → zkP fr cs l = zkP fr' cs l
  | [], _, _ => rfl
  | (off, s, x) :: l, cs, h => by
    have e : ev fr x = ev fr' x := zay fun t ht => h t (by simp [psl, ht])
    simp only [zkP]
    rw [e]
    split
    · split
      · exact zlN fun t ht => h t (by simp only [psl, List.flatMap_cons, List.mem_append] at ht ⊢; exact .inr ht)
      · rfl
    · rfl

theorem zjx {i : I} {fr fr' : zw} {σ : List zc} {K : KT} (h : ∀ t ∈ i.reads, zdw fr t = zdw fr' t) : zP P i fr σ K = zP P i fr' σ K := by
  cases i <;> simp only [zP, I.reads, List.mem_append] at h ⊢
  case mv x => rw [zay h]
  case boxi x => rw [zay h]
  case load x => rw [zay h]
  case nilchk x => rw [zay h]
  case un x => rw [zay h]
  case conv x => rw [zay h]
  case faddr x => rw [zay h]
  case field x => rw [zay h]
  case extract x => rw [zay h]
  case len x => rw [zay h]
  case rangeS x => rw [zay h]
  case nextS x => rw [zay h]
  case rangeM x => rw [zay h]
  case nextM x => rw [zay h]
  case entryM x => rw [zay h]
  case isnil x => rw [zay h]
  case cap x => rw [zay h]
  case appz x n => rw [zay (x := x) fun t ht => h t (.inl ht), zay (x := n) fun t ht => h t (.inr ht)]
  case mget m k => rw [zay (x := m) fun t ht => h t (.inl ht), zay (x := k) fun t ht => h t (.inr ht)]
  case mset m k x => rw [zay (x := m) fun t ht => h t (.inl (.inl ht)), zay (x := k) fun t ht => h t (.inl (.inr ht)), zay (x := x) fun t ht => h t (.inr ht)]
  case mdel m k => rw [zay (x := m) fun t ht => h t (.inl ht), zay (x := k) fun t ht => h t (.inr ht)]
  case pick c a b => rw [zay (x := c) fun t ht => h t (.inl (.inl ht)), zay (x := a) fun t ht => h t (.inl (.inr ht)), zay (x := b) fun t ht => h t (.inr ht)]
  case build => rw [zlN h]
  case mkslice => rw [zlN h]
  case store a x => rw [zay (x := a) fun t ht => h t (.inl ht), zay (x := x) fun t ht => h t (.inr ht)]
  case bin x y => rw [zay (x := x) fun t ht => h t (.inl ht), zay (x := y) fun t ht => h t (.inr ht)]
  case slc x lo hi mx => rw [zay (x := x) fun t ht => h t (.inl (.inl (.inl ht))), oev_ext (x := lo) fun t ht => h t (.inl (.inl (.inr ht))), oev_ext (x := hi) fun t ht => h t (.inl (.inr ht)), oev_ext (x := mx) fun t ht => h t (.inr ht)]
  case iaddr x y => rw [zay (x := x) fun t ht => h t (.inl ht), zay (x := y) fun t ht => h t (.inr ht)]
  case idxS x y => rw [zay (x := x) fun t ht => h t (.inl ht), zay (x := y) fun t ht => h t (.inr ht)]
  case idxA x y => rw [zay (x := x) fun t ht => h t (.inl ht), zay (x := y) fun t ht => h t (.inr ht)]
  case append x y => rw [zay (x := x) fun t ht => h t (.inl ht), zay (x := y) fun t ht => h t (.inr ht)]
  case maxi => rw [ziG h]
  case mini => rw [ziG h]
  case call raw f xs =>
    have : xs.map (fun x => dm (ev fr x)) = xs.map (fun x => dm (ev fr' x)) := by
      have := congrArg (List.map dm) (ziG h)
      simpa [List.map_map, Function.comp_def] using this
    rw [this, ziG h]
  case callv f xs =>
    have : xs.map (fun x => dm (ev fr x)) = xs.map (fun x => dm (ev fr' x)) := by
      have := congrArg (List.map dm) (ziG (l := xs) fun t ht => h t (.inr ht))
      simpa [List.map_map, Function.comp_def] using this
    rw [this, zay (x := f) fun t ht => h t (.inl ht)]
  case mkfn f xs ys => rw [ziG (l := xs) fun t ht => h t (.inl ht), ziG (l := ys) fun t ht => h t (.inr ht)]

def I.quiet : I → Bool
  | .mv _ | .pick .. | .build .. | .mkslice false .. | .load .. | .nilchk _ | .bin .. | .un .. | .conv .. | .slc .. | .faddr .. | .field .. | .iaddr .. | .idxS .. | .idxA .. | .extract .. | .maxi _ | .mini _ | .mget .. => true
  | .len k _ => match k with | .map => false | _ => true
  | _ => false
def I.at? : I → Option Opd
  | .load _ _ x => some x
  | .mget _ _ _ m _ => some m
  | _ => none
def zZ (a : AV) (σ σ' : List zc) : Prop :=
  match a with
  | .box id _ => σ'[id]? = σ[id]?
  | .map id => σ'[id]? = σ[id]?
  | .rpt t _ _ => σ'[t]? = σ[t]?
  | _ => True

theorem binA_quiet {op : BinOp} {e : EK} {x y : AV} {K : AV → Prop} (h : zfb op e x y K) : ∃ v, K v ∧ ∀ K' : AV → Prop, K' v → zfb op e x y K' := by
  unfold zfb at *
  repeat' split at h
  all_goals (first | exact h.elim | exact h.2.elim | exact ⟨_, h, fun _ h' => h'⟩ | exact ⟨_, h.2, fun _ h' => ⟨h.1, h'⟩⟩ | exact ⟨_, h.2.2, fun _ h' => ⟨h.1, h.2.1, h'⟩⟩ | skip)
  all_goals (simp only [*] at h ⊢)
  all_goals (first | exact ⟨_, h, fun _ h' => h'⟩ | exact ⟨_, h.2, fun _ h' => ⟨h.1, h'⟩⟩ | skip)
theorem buildC_quiet (o : Option (List AV)) {σ : List zc} {K : KT} (h : zK o σ K) : ∃ v, K v σ ∧ ∀ (σ' : List zc) (K' : KT), K' v σ' → zK o σ' K' := by
  unfold zK at *
  repeat' split at h
  all_goals (first | exact h.elim | skip)
  all_goals (revert h; try simp only [*, if_true, if_false, Bool.false_eq_true, reduceIte, ite_true, ite_false])
  all_goals (intro h)
  all_goals (first | exact h.2.elim | exact h.2.2.elim | exact ⟨_, h, fun _ _ h' => h'⟩ | exact ⟨_, h.2, fun _ _ h' => ⟨h.1, h'⟩⟩ | exact ⟨_, h.2.2, fun _ _ h' => ⟨h.1, h.2.1, h'⟩⟩ | exact ⟨_, h.2.2.2, fun _ _ h' => ⟨h.1, h.2.1, h.2.2.1, h'⟩⟩ | exact ⟨_, h.2.2.2.2, fun _ _ h' => ⟨h.1, h.2.1, h.2.2.1, h.2.2.2.1, h'⟩⟩ | exact ⟨_, h.2.2.2.2.2, fun _ _ h' => ⟨h.1, h.2.1, h.2.2.1, h.2.2.2.1, h.2.2.2.2.1, h'⟩⟩ | exact ⟨_, h.2.2.2.2.2.2, fun _ _ h' => ⟨h.1, h.2.1, h.2.2.1, h.2.2.2.1, h.2.2.2.2.1, h.2.2.2.2.2.1, h'⟩⟩)
theorem nilC_quiet (x : AV) {σ : List zc} {K : KT} (h : zcT x σ K) : ∃ v, K v σ ∧ ∀ (σ' : List zc) (K' : KT), K' v σ' → zcT x σ' K' := by
  unfold zcT at *
  repeat' split at h
  all_goals (first | exact h.elim | skip)
  all_goals (revert h; try simp only [*, if_true, if_false, Bool.false_eq_true, reduceIte, ite_true, ite_false])
  all_goals (intro h)
  all_goals (first | exact h.2.elim | exact h.2.2.elim | exact ⟨_, h, fun _ _ h' => h'⟩ | exact ⟨_, h.2, fun _ _ h' => ⟨h.1, h'⟩⟩ | exact ⟨_, h.2.2, fun _ _ h' => ⟨h.1, h.2.1, h'⟩⟩ | exact ⟨_, h.2.2.2, fun _ _ h' => ⟨h.1, h.2.1, h.2.2.1, h'⟩⟩ | exact ⟨_, h.2.2.2.2, fun _ _ h' => ⟨h.1, h.2.1, h.2.2.1, h.2.2.2.1, h'⟩⟩ | exact ⟨_, h.2.2.2.2.2, fun _ _ h' => ⟨h.1, h.2.1, h.2.2.1, h.2.2.2.1, h.2.2.2.2.1, h'⟩⟩ | exact ⟨_, h.2.2.2.2.2.2, fun _ _ h' => ⟨h.1, h.2.1, h.2.2.1, h.2.2.2.1, h.2.2.2.2.1, h.2.2.2.2.2.1, h'⟩⟩)
theorem convC_quiet (c : CK) (x : AV) {σ : List zc} {K : KT} (h : zaj c x σ K) : ∃ v, K v σ ∧ ∀ (σ' : List zc) (K' : KT), K' v σ' → zaj c x σ' K' := by
  unfold zaj at *
  repeat' split at h
  all_goals (first | exact h.elim | skip)
  all_goals (revert h; try simp only [*, if_true, if_false, Bool.false_eq_true, reduceIte, ite_true, ite_false])
  all_goals (intro h)
  all_goals (first | exact h.2.elim | exact h.2.2.elim | exact ⟨_, h, fun _ _ h' => h'⟩ | exact ⟨_, h.2, fun _ _ h' => ⟨h.1, h'⟩⟩ | exact ⟨_, h.2.2, fun _ _ h' => ⟨h.1, h.2.1, h'⟩⟩ | exact ⟨_, h.2.2.2, fun _ _ h' => ⟨h.1, h.2.1, h.2.2.1, h'⟩⟩ | exact ⟨_, h.2.2.2.2, fun _ _ h' => ⟨h.1, h.2.1, h.2.2.1, h.2.2.2.1, h'⟩⟩ | exact ⟨_, h.2.2.2.2.2, fun _ _ h' => ⟨h.1, h.2.1, h.2.2.1, h.2.2.2.1, h.2.2.2.2.1, h'⟩⟩ | exact ⟨_, h.2.2.2.2.2.2, fun _ _ h' => ⟨h.1, h.2.1, h.2.2.1, h.2.2.2.1, h.2.2.2.2.1, h.2.2.2.2.2.1, h'⟩⟩)
theorem slcC_quiet (k : SK) (x : AV) (lo hi mx : Option AV) {σ : List zc} {K : KT} (h : zea k x lo hi mx σ K) : ∃ v, K v σ ∧ ∀ (σ' : List zc) (K' : KT), K' v σ' → zea k x lo hi mx σ' K' := by
  unfold zea at *
  repeat' split at h
  all_goals (first | exact h.elim | skip)
  all_goals (revert h; try simp only [*, if_true, if_false, Bool.false_eq_true, reduceIte, ite_true, ite_false])
  all_goals (intro h)
  all_goals (first | exact h.2.elim | exact h.2.2.elim | exact ⟨_, h, fun _ _ h' => h'⟩ | exact ⟨_, h.2, fun _ _ h' => ⟨h.1, h'⟩⟩ | exact ⟨_, h.2.2, fun _ _ h' => ⟨h.1, h.2.1, h'⟩⟩ | exact ⟨_, h.2.2.2, fun _ _ h' => ⟨h.1, h.2.1, h.2.2.1, h'⟩⟩ | exact ⟨_, h.2.2.2.2, fun _ _ h' => ⟨h.1, h.2.1, h.2.2.1, h.2.2.2.1, h'⟩⟩ | exact ⟨_, h.2.2.2.2.2, fun _ _ h' => ⟨h.1, h.2.1, h.2.2.1, h.2.2.2.1, h.2.2.2.2.1, h'⟩⟩ | exact ⟨_, h.2.2.2.2.2.2, fun _ _ h' => ⟨h.1, h.2.1, h.2.2.1, h.2.2.2.1, h.2.2.2.2.1, h.2.2.2.2.2.1, h'⟩⟩)
theorem faddrC_quiet (off : Nat) (x : AV) {σ : List zc} {K : KT} (h : zi off x σ K) : ∃ v, K v σ ∧ ∀ (σ' : List zc) (K' : KT), K' v σ' → zi off x σ' K' := by
  unfold zi at *
  repeat' split at h
  all_goals (first | exact h.elim | skip)
  all_goals (revert h; try simp only [*, if_true, if_false, Bool.false_eq_true, reduceIte, ite_true, ite_false])
  all_goals (intro h)
  all_goals (first | exact h.2.elim | exact h.2.2.elim | exact ⟨_, h, fun _ _ h' => h'⟩ | exact ⟨_, h.2, fun _ _ h' => ⟨h.1, h'⟩⟩ | exact ⟨_, h.2.2, fun _ _ h' => ⟨h.1, h.2.1, h'⟩⟩ | exact ⟨_, h.2.2.2, fun _ _ h' => ⟨h.1, h.2.1, h.2.2.1, h'⟩⟩ | exact ⟨_, h.2.2.2.2, fun _ _ h' => ⟨h.1, h.2.1, h.2.2.1, h.2.2.2.1, h'⟩⟩ | exact ⟨_, h.2.2.2.2.2, fun _ _ h' => ⟨h.1, h.2.1, h.2.2.1, h.2.2.2.1, h.2.2.2.2.1, h'⟩⟩ | exact ⟨_, h.2.2.2.2.2.2, fun _ _ h' => ⟨h.1, h.2.1, h.2.2.1, h.2.2.2.1, h.2.2.2.2.1, h.2.2.2.2.2.1, h'⟩⟩)
theorem fieldC_quiet (agg : Bool) (off n : Nat) (x : AV) {σ : List zc} {K : KT} (h : zax agg off n x σ K) : ∃ v, K v σ ∧ ∀ (σ' : List zc) (K' : KT), K' v σ' → zax agg off n x σ' K' := by
  unfold zax at *
  repeat' split at h
  all_goals (first | exact h.elim | skip)
  all_goals (revert h; try simp only [*, if_true, if_false, Bool.false_eq_true, reduceIte, ite_true, ite_false])
  all_goals (intro h)
  all_goals (first | exact h.2.elim | exact h.2.2.elim | exact ⟨_, h, fun _ _ h' => h'⟩ | exact ⟨_, h.2, fun _ _ h' => ⟨h.1, h'⟩⟩ | exact ⟨_, h.2.2, fun _ _ h' => ⟨h.1, h.2.1, h'⟩⟩ | exact ⟨_, h.2.2.2, fun _ _ h' => ⟨h.1, h.2.1, h.2.2.1, h'⟩⟩ | exact ⟨_, h.2.2.2.2, fun _ _ h' => ⟨h.1, h.2.1, h.2.2.1, h.2.2.2.1, h'⟩⟩ | exact ⟨_, h.2.2.2.2.2, fun _ _ h' => ⟨h.1, h.2.1, h.2.2.1, h.2.2.2.1, h.2.2.2.2.1, h'⟩⟩ | exact ⟨_, h.2.2.2.2.2.2, fun _ _ h' => ⟨h.1, h.2.1, h.2.2.1, h.2.2.2.1, h.2.2.2.2.1, h.2.2.2.2.2.1, h'⟩⟩)
theorem iaddrC_quiet (arr : Option Nat) (sz : Nat) (x i : AV) {σ : List zc} {K : KT} (h : zac arr sz x i σ K) : ∃ v, K v σ ∧ ∀ (σ' : List zc) (K' : KT), K' v σ' → zac arr sz x i σ' K' := by
  unfold zac at *
  repeat' split at h
  all_goals (first | exact h.elim | skip)
  all_goals (revert h; try simp only [*, if_true, if_false, Bool.false_eq_true, reduceIte, ite_true, ite_false])
  all_goals (intro h)
  all_goals (first | exact h.2.elim | exact h.2.2.elim | exact ⟨_, h, fun _ _ h' => h'⟩ | exact ⟨_, h.2, fun _ _ h' => ⟨h.1, h'⟩⟩ | exact ⟨_, h.2.2, fun _ _ h' => ⟨h.1, h.2.1, h'⟩⟩ | exact ⟨_, h.2.2.2, fun _ _ h' => ⟨h.1, h.2.1, h.2.2.1, h'⟩⟩ | exact ⟨_, h.2.2.2.2, fun _ _ h' => ⟨h.1, h.2.1, h.2.2.1, h.2.2.2.1, h'⟩⟩ | exact ⟨_, h.2.2.2.2.2, fun _ _ h' => ⟨h.1, h.2.1, h.2.2.1, h.2.2.2.1, h.2.2.2.2.1, h'⟩⟩ | exact ⟨_, h.2.2.2.2.2.2, fun _ _ h' => ⟨h.1, h.2.1, h.2.2.1, h.2.2.2.1, h.2.2.2.2.1, h.2.2.2.2.2.1, h'⟩⟩)
theorem idxSC_quiet (x i : AV) {σ : List zc} {K : KT} (h : zbm x i σ K) : ∃ v, K v σ ∧ ∀ (σ' : List zc) (K' : KT), K' v σ' → zbm x i σ' K' := by
  unfold zbm at *
  repeat' split at h
  all_goals (first | exact h.elim | skip)
  all_goals (revert h; try simp only [*, if_true, if_false, Bool.false_eq_true, reduceIte, ite_true, ite_false])
  all_goals (intro h)
  all_goals (first | exact h.2.elim | exact h.2.2.elim | exact ⟨_, h, fun _ _ h' => h'⟩ | exact ⟨_, h.2, fun _ _ h' => ⟨h.1, h'⟩⟩ | exact ⟨_, h.2.2, fun _ _ h' => ⟨h.1, h.2.1, h'⟩⟩ | exact ⟨_, h.2.2.2, fun _ _ h' => ⟨h.1, h.2.1, h.2.2.1, h'⟩⟩ | exact ⟨_, h.2.2.2.2, fun _ _ h' => ⟨h.1, h.2.1, h.2.2.1, h.2.2.2.1, h'⟩⟩ | exact ⟨_, h.2.2.2.2.2, fun _ _ h' => ⟨h.1, h.2.1, h.2.2.1, h.2.2.2.1, h.2.2.2.2.1, h'⟩⟩ | exact ⟨_, h.2.2.2.2.2.2, fun _ _ h' => ⟨h.1, h.2.1, h.2.2.1, h.2.2.2.1, h.2.2.2.2.1, h.2.2.2.2.2.1, h'⟩⟩)
theorem idxAC_quiet (agg : Bool) (n sz : Nat) (x i : AV) {σ : List zc} {K : KT} (h : zbg agg n sz x i σ K) : ∃ v, K v σ ∧ ∀ (σ' : List zc) (K' : KT), K' v σ' → zbg agg n sz x i σ' K' := by
  unfold zbg at *
  repeat' split at h
  all_goals (first | exact h.elim | skip)
  all_goals (revert h; try simp only [*, if_true, if_false, Bool.false_eq_true, reduceIte, ite_true, ite_false])
  all_goals (intro h)
  all_goals (first | exact h.2.elim | exact h.2.2.elim | exact ⟨_, h, fun _ _ h' => h'⟩ | exact ⟨_, h.2, fun _ _ h' => ⟨h.1, h'⟩⟩ | exact ⟨_, h.2.2, fun _ _ h' => ⟨h.1, h.2.1, h'⟩⟩ | exact ⟨_, h.2.2.2, fun _ _ h' => ⟨h.1, h.2.1, h.2.2.1, h'⟩⟩ | exact ⟨_, h.2.2.2.2, fun _ _ h' => ⟨h.1, h.2.1, h.2.2.1, h.2.2.2.1, h'⟩⟩ | exact ⟨_, h.2.2.2.2.2, fun _ _ h' => ⟨h.1, h.2.1, h.2.2.1, h.2.2.2.1, h.2.2.2.2.1, h'⟩⟩ | exact ⟨_, h.2.2.2.2.2.2, fun _ _ h' => ⟨h.1, h.2.1, h.2.2.1, h.2.2.2.1, h.2.2.2.2.1, h.2.2.2.2.2.1, h'⟩⟩)
theorem zmz (x : AV) (k : Nat) {σ : List zc} {K : KT} (h : zd x k σ K) : ∃ v, K v σ ∧ ∀ (σ' : List zc) (K' : KT), K' v σ' → zd x k σ' K' := by
  unfold zd at *
  repeat' split at h
  all_goals (first | exact h.elim | skip)
  all_goals (revert h; try simp only [*, if_true, if_false, Bool.false_eq_true, reduceIte, ite_true, ite_false])
  all_goals (intro h)
  all_goals (first | exact h.2.elim | exact h.2.2.elim | exact ⟨_, h, fun _ _ h' => h'⟩ | exact ⟨_, h.2, fun _ _ h' => ⟨h.1, h'⟩⟩ | exact ⟨_, h.2.2, fun _ _ h' => ⟨h.1, h.2.1, h'⟩⟩ | exact ⟨_, h.2.2.2, fun _ _ h' => ⟨h.1, h.2.1, h.2.2.1, h'⟩⟩ | exact ⟨_, h.2.2.2.2, fun _ _ h' => ⟨h.1, h.2.1, h.2.2.1, h.2.2.2.1, h'⟩⟩ | exact ⟨_, h.2.2.2.2.2, fun _ _ h' => ⟨h.1, h.2.1, h.2.2.1, h.2.2.2.1, h.2.2.2.2.1, h'⟩⟩ | exact ⟨_, h.2.2.2.2.2.2, fun _ _ h' => ⟨h.1, h.2.1, h.2.2.1, h.2.2.2.1, h.2.2.2.2.1, h.2.2.2.2.2.1, h'⟩⟩)
theorem maxC_quiet (xs : List AV) {σ : List zc} {K : KT} (h : zeE xs σ K) : ∃ v, K v σ ∧ ∀ (σ' : List zc) (K' : KT), K' v σ' → zeE xs σ' K' := by
  unfold zeE at *
  repeat' split at h
  all_goals (first | exact h.elim | skip)
  all_goals (revert h; try simp only [*, if_true, if_false, Bool.false_eq_true, reduceIte, ite_true, ite_false])
  all_goals (intro h)
  all_goals (first | exact h.2.elim | exact h.2.2.elim | exact ⟨_, h, fun _ _ h' => h'⟩ | exact ⟨_, h.2, fun _ _ h' => ⟨h.1, h'⟩⟩ | exact ⟨_, h.2.2, fun _ _ h' => ⟨h.1, h.2.1, h'⟩⟩ | exact ⟨_, h.2.2.2, fun _ _ h' => ⟨h.1, h.2.1, h.2.2.1, h'⟩⟩ | exact ⟨_, h.2.2.2.2, fun _ _ h' => ⟨h.1, h.2.1, h.2.2.1, h.2.2.2.1, h'⟩⟩ | exact ⟨_, h.2.2.2.2.2, fun _ _ h' => ⟨h.1, h.2.1, h.2.2.1, h.2.2.2.1, h.2.2.2.2.1, h'⟩⟩ | exact ⟨_, h.2.2.2.2.2.2, fun _ _ h' => ⟨h.1, h.2.1, h.2.2.1, h.2.2.2.1, h.2.2.2.2.1, h.2.2.2.2.2.1, h'⟩⟩)
theorem minC_quiet (xs : List AV) {σ : List zc} {K : KT} (h : zfi xs σ K) : ∃ v, K v σ ∧ ∀ (σ' : List zc) (K' : KT), K' v σ' → zfi xs σ' K' := by
  unfold zfi at *
  repeat' split at h
  all_goals (first | exact h.elim | skip)
  all_goals (revert h; try simp only [*, if_true, if_false, Bool.false_eq_true, reduceIte, ite_true, ite_false])
  all_goals (intro h)
  all_goals (first | exact h.2.elim | exact h.2.2.elim | exact ⟨_, h, fun _ _ h' => h'⟩ | exact ⟨_, h.2, fun _ _ h' => ⟨h.1, h'⟩⟩ | exact ⟨_, h.2.2, fun _ _ h' => ⟨h.1, h.2.1, h'⟩⟩ | exact ⟨_, h.2.2.2, fun _ _ h' => ⟨h.1, h.2.1, h.2.2.1, h'⟩⟩ | exact ⟨_, h.2.2.2.2, fun _ _ h' => ⟨h.1, h.2.1, h.2.2.1, h.2.2.2.1, h'⟩⟩ | exact ⟨_, h.2.2.2.2.2, fun _ _ h' => ⟨h.1, h.2.1, h.2.2.1, h.2.2.2.1, h.2.2.2.2.1, h'⟩⟩ | exact ⟨_, h.2.2.2.2.2.2, fun _ _ h' => ⟨h.1, h.2.1, h.2.2.1, h.2.2.2.1, h.2.2.2.2.1, h.2.2.2.2.2.1, h'⟩⟩)
theorem loadC_quiet (agg : Bool) (n : Nat) (x : AV) {σ : List zc} {K : KT} (h : zu agg n x σ K) : ∃ v, K v σ ∧ ∀ (σ' : List zc) (K' : KT), zZ x σ σ' → K' v σ' → zu agg n x σ' K' := by
  unfold zu at h
  split at h
  · rename_i id off
    split at h
    · rename_i cs hcs
      split at h
      · rename_i hg
        exact ⟨_, h.2, fun σ' K' hk h' => by
          have hk' : σ'[id]? = σ[id]? := hk
          simp only [zu]; rw [hk', hcs]; simp only [hg, if_true]; exact ⟨h.1, h'⟩⟩
      · rename_i hg
        split at h
        · rename_i hv
          exact ⟨_, h, fun σ' K' hk h' => by
            have hk' : σ'[id]? = σ[id]? := hk
            simp only [zu]; rw [hk', hcs]; simp only [if_neg hg]; rw [hv]; exact h'⟩
        · exact h.elim
    · exact h.elim
  · split at h
    · rename_i hg
      exact ⟨_, h.2, fun σ' K' hk h' => by simp only [zu, if_pos hg]; exact ⟨h.1, h'⟩⟩
    · rename_i hg
      split at h
      · rename_i hv
        exact ⟨_, h, fun σ' K' hk h' => by simp only [zu, if_neg hg]; rw [hv]; exact h'⟩
      · exact h.elim
  · rename_i t g off
    split at h
    · rename_i cs hcs
      obtain ⟨hg', h⟩ := h
      split at h
      · rename_i hg
        exact ⟨_, h.2, fun σ' K' hk h' => by
          have hk' : σ'[t]? = σ[t]? := hk
          simp only [zu]; rw [hk', hcs]; simp only [hg, if_true]; exact ⟨hg', h.1, h'⟩⟩
      · rename_i hg
        split at h
        · rename_i hv
          exact ⟨_, h, fun σ' K' hk h' => by
            have hk' : σ'[t]? = σ[t]? := hk
            simp only [zu]; rw [hk', hcs]; simp only [if_neg hg]; rw [hv]; exact ⟨hg', h'⟩⟩
        · exact h.elim
    · exact h.elim
  · exact h.elim
theorem mgetC_quiet (kk : KK) (ok : Bool) (z m k : AV) {σ : List zc} {K : KT} (h : zaY kk ok z m k σ K) : ∃ v, K v σ ∧ ∀ (σ' : List zc) (K' : KT), zZ m σ σ' → K' v σ' → zaY kk ok z m k σ' K' := by
  unfold zaY at h
  split at h
  · rename_i es hes
    have key : ∀ σ', zZ m σ σ' → zeo m σ' = some es := fun σ' hk => by
      cases m with
      | d x => cases x <;> simp only [zeo] at hes ⊢ <;> exact hes
      | map id => simp only [zeo, zZ] at hes hk ⊢; rw [hk]; exact hes
      | _ => simp only [zeo] at hes; cases hes
    obtain ⟨h1, h⟩ := h
    split at h
    · rename_i hf
      exact ⟨_, h, fun σ' K' hk h' => by simp only [zaY, key σ' hk, hf]; exact ⟨h1, h'⟩⟩
    · rename_i hf
      exact ⟨_, h, fun σ' K' hk h' => by simp only [zaY, key σ' hk, hf]; exact ⟨h1, h'⟩⟩
    · exact h.elim
  · exact h.elim
theorem lenC_quiet (k : LK) (x : AV) (hq : (match k with | .map => false | _ => true) = true) {σ : List zc} {K : KT} (h : zbl k x σ K) : ∃ v, K v σ ∧ ∀ (σ' : List zc) (K' : KT), K' v σ' → zbl k x σ' K' := by
  cases k with
  | map => cases hq
  | _ =>
    simp only [zbl] at h ⊢
    repeat' split at h
    all_goals (first | exact h.elim | skip)
    all_goals (revert h; try simp only [*])
    all_goals (intro h)
    all_goals (exact ⟨_, h, fun _ _ h' => h'⟩)
theorem zmt (s n : Nat) (o : Option (List AV)) {σ : List zc} {K : KT} (h : zq false s n o σ K) : ∃ v, K v σ ∧ ∀ (σ' : List zc) (K' : KT), K' v σ' → zq false s n o σ' K' := by
  simp only [zq, Bool.false_eq_true, if_false] at *
  repeat' split at h
  all_goals (first | exact h.elim | skip)
  all_goals (revert h; try simp only [*])
  all_goals (intro h)
  all_goals (exact ⟨_, h, fun _ _ h' => h'⟩)
theorem pickC_quiet (c a b : AV) {σ : List zc} {K : KT} (h : zmr c a b σ K) : ∃ v, K v σ ∧ ∀ (σ' : List zc) (K' : KT), K' v σ' → zmr c a b σ' K' := by
  unfold zmr at *
  split at h
  · rename_i t
    cases t
    · exact ⟨_, h.2 rfl, fun _ _ h' => ⟨fun e => Bool.noConfusion e, fun _ => h'⟩⟩
    · exact ⟨_, h.1 rfl, fun _ _ h' => ⟨fun _ => h', fun e => Bool.noConfusion e⟩⟩
  · exact h.elim
theorem unA_quiet (op : UnOp) (x : AV) {K : AV → Prop} (h : unA op x K) : ∃ v, K v ∧ ∀ K' : AV → Prop, K' v → unA op x K' := by
  unfold unA at *
  split at h
  · exact ⟨_, h, fun _ h' => h'⟩
  · exact ⟨_, h, fun _ h' => h'⟩
  · exact h.elim

theorem zme {i : I} (hq : i.quiet = true) {fr : zw} {σ : List zc} {K : KT} (h : zP P i fr σ K) :
    ∃ v, K v σ ∧ ∀ (σ' : List zc) (K' : KT), (∀ o, i.at? = some o → zZ (ev fr o) σ σ') → K' v σ' → zP P i fr σ' K' := by
  cases i <;> simp only [I.quiet, Bool.false_eq_true] at hq <;> simp only [zP] at h ⊢
  case mv => exact ⟨_, h, fun _ _ _ h' => h'⟩
  case pick => obtain ⟨v, hv, hk⟩ := pickC_quiet _ _ _ h; exact ⟨v, hv, fun σ' K' _ h' => hk σ' K' h'⟩
  case build => obtain ⟨v, hv, hk⟩ := buildC_quiet _ h; exact ⟨v, hv, fun σ' K' _ h' => hk σ' K' h'⟩
  case mkslice mu _ _ _ _ =>
    cases mu
    · obtain ⟨v, hv, hk⟩ := zmt _ _ _ h; exact ⟨v, hv, fun σ' K' _ h' => hk σ' K' h'⟩
    · simp [I.quiet] at hq
  case load => obtain ⟨v, hv, hk⟩ := loadC_quiet _ _ _ h; exact ⟨v, hv, fun σ' K' ho h' => hk σ' K' (ho _ rfl) h'⟩
  case nilchk => obtain ⟨v, hv, hk⟩ := nilC_quiet _ h; exact ⟨v, hv, fun σ' K' _ h' => hk σ' K' h'⟩
  case bin => obtain ⟨v, hv, hk⟩ := binA_quiet h; exact ⟨v, hv, fun σ' K' _ h' => hk (fun a => K' a σ') h'⟩
  case un => obtain ⟨v, hv, hk⟩ := unA_quiet _ _ h; exact ⟨v, hv, fun σ' K' _ h' => hk (fun a => K' a σ') h'⟩
  case conv => obtain ⟨v, hv, hk⟩ := convC_quiet _ _ h; exact ⟨v, hv, fun σ' K' _ h' => hk σ' K' h'⟩
  case slc => obtain ⟨v, hv, hk⟩ := slcC_quiet _ _ _ _ _ h; exact ⟨v, hv, fun σ' K' _ h' => hk σ' K' h'⟩
  case faddr => obtain ⟨v, hv, hk⟩ := faddrC_quiet _ _ h; exact ⟨v, hv, fun σ' K' _ h' => hk σ' K' h'⟩
  case field => obtain ⟨v, hv, hk⟩ := fieldC_quiet _ _ _ _ h; exact ⟨v, hv, fun σ' K' _ h' => hk σ' K' h'⟩
  case iaddr => obtain ⟨v, hv, hk⟩ := iaddrC_quiet _ _ _ _ h; exact ⟨v, hv, fun σ' K' _ h' => hk σ' K' h'⟩
  case idxS => obtain ⟨v, hv, hk⟩ := idxSC_quiet _ _ h; exact ⟨v, hv, fun σ' K' _ h' => hk σ' K' h'⟩
  case idxA => obtain ⟨v, hv, hk⟩ := idxAC_quiet _ _ _ _ _ h; exact ⟨v, hv, fun σ' K' _ h' => hk σ' K' h'⟩
  case extract => obtain ⟨v, hv, hk⟩ := zmz _ _ h; exact ⟨v, hv, fun σ' K' _ h' => hk σ' K' h'⟩
  case len => obtain ⟨v, hv, hk⟩ := lenC_quiet _ _ hq h; exact ⟨v, hv, fun σ' K' _ h' => hk σ' K' h'⟩
  case maxi => obtain ⟨v, hv, hk⟩ := maxC_quiet _ h; exact ⟨v, hv, fun σ' K' _ h' => hk σ' K' h'⟩
  case mini => obtain ⟨v, hv, hk⟩ := minC_quiet _ h; exact ⟨v, hv, fun σ' K' _ h' => hk σ' K' h'⟩
  case mget => obtain ⟨v, hv, hk⟩ := mgetC_quiet _ _ _ _ _ h; exact ⟨v, hv, fun σ' K' ho h' => hk σ' K' (ho _ rfl) h'⟩


theorem zfk (fr : zw) (d : Option Nat) (a : AV) (i : Nat) : zdw (aput fr d a) i = if d = some i then a else zdw fr i := by
  cases d with
  | none => simp [aput]
  | some d => simp only [aput, zfZ, Option.some.injEq]; by_cases h : i = d <;> simp [h, eq_comm]
def FEq (fr fr' : zw) : Prop := ∀ i, zdw fr i = zdw fr' i
def FE (K : zw → List zc → Prop) : Prop := ∀ fr fr' σ, FEq fr fr' → K fr σ → K fr' σ

theorem zkY {x : Ai} {fr fr' : zw} {σ : List zc} {K K' : zw → List zc → Prop} (he : ∀ t ∈ x.reads, zdw fr t = zdw fr' t)
    (hk : ∀ u s, K (aput fr x.dst u) s → K' (aput fr' x.dst u) s) (h : aop P x fr σ K) : aop P x fr' σ K' := by
  unfold aop at *
  cases hg : x.g with
  | none =>
    simp only [hg] at h ⊢
    rw [← zjx (fr := fr) (fr' := fr') fun t ht => he t (by simp only [Ai.reads, hg]; exact ht)]
    exact znj (fun a s => hk a s) h
  | some p =>
    obtain ⟨s, want⟩ := p
    simp only [hg] at h ⊢
    have e1 : ∀ t ∈ x.i.reads, zdw fr t = zdw fr' t := fun t ht => he t (by simp only [Ai.reads, hg]; exact List.mem_cons_of_mem _ ht)
    have e0 : zdw fr s = zdw fr' s := he s (by simp only [Ai.reads, hg]; exact List.mem_cons_self)
    rw [← e0]
    unfold zen at *
    split at h
    · refine ⟨fun e => ?_, fun e => hk _ _ (h.2 e)⟩
      have h1 := h.1 e
      rw [← zjx (fr := fr) (fr' := fr') e1]
      exact znj (fun a s => hk a s) h1
    · exact hk _ _ h
    · exact h

theorem zbu {x : Ai} {fr : zw} {σ : List zc} {K K' : zw → List zc → Prop} (hk : ∀ f s, K f s → K' f s) (h : aop P x fr σ K) : aop P x fr σ K' :=
  zkY (fun _ _ => rfl) (fun _ _ => hk _ _) h

theorem zjz {x : Ai} (hq : x.i.quiet = true) {fr : zw} {σ : List zc} {K : zw → List zc → Prop} (h : aop P x fr σ K) :
    ∃ v, K (aput fr x.dst v) σ ∧ ∀ (fr' : zw) (σ' : List zc) (K' : zw → List zc → Prop), (∀ t ∈ x.reads, zdw fr t = zdw fr' t) → (∀ o, x.i.at? = some o → zZ (ev fr o) σ σ') → K' (aput fr' x.dst v) σ' → aop P x fr' σ' K' := by
  unfold aop at h
  cases hg : x.g with
  | none =>
    simp only [hg] at h
    obtain ⟨v, hv, hk⟩ := zme hq h
    refine ⟨v, hv, fun fr' σ' K' he hb h' => ?_⟩
    unfold aop
    simp only [hg]
    rw [← zjx (fr := fr) (fr' := fr') fun t ht => he t (by simp only [Ai.reads, hg]; exact ht)]
    exact hk σ' _ hb h'
  | some p =>
    obtain ⟨s, want⟩ := p
    simp only [hg] at h
    unfold zen at h
    have e0 : ∀ fr' : zw, (∀ t ∈ x.reads, zdw fr t = zdw fr' t) → zdw fr s = zdw fr' s := fun fr' he => he s (by simp only [Ai.reads, hg]; exact List.mem_cons_self)
    split at h
    · rename_i b hb
      cases hbw : (b == want)
      · refine ⟨_, h.2 hbw, fun fr' σ' K' he _ h' => ?_⟩
        unfold aop
        simp only [hg]
        rw [← e0 fr' he, hb]
        exact ⟨fun e => (by rw [hbw] at e; cases e), fun _ => h'⟩
      · obtain ⟨v, hv, hk⟩ := zme hq (h.1 hbw)
        refine ⟨v, hv, fun fr' σ' K' he ho h' => ?_⟩
        unfold aop
        simp only [hg]
        rw [← e0 fr' he, hb]
        refine ⟨fun _ => ?_, fun e => (by rw [hbw] at e; cases e)⟩
        rw [← zjx (fr := fr) (fr' := fr') fun t ht => he t (by simp only [Ai.reads, hg]; exact List.mem_cons_of_mem _ ht)]
        exact hk σ' _ ho h'
    · rename_i hb
      refine ⟨_, h, fun fr' σ' K' he _ h' => ?_⟩
      unfold aop
      simp only [hg]
      rw [← e0 fr' he, hb]
      exact h'
    · exact h.elim

/-! ### A region that draws its order, taken in one order. -/
def zmv (fr : zw) (σ σ' : List zc) : List Nat → Prop → Prop
  | [], p => p
  | o :: r, p => zZ (zdw fr o) σ σ' ∧ zmv fr σ σ' r p
theorem zfj {fr : zw} {σ σ' : List zc} {p : Prop} : ∀ {l : List Nat}, zmv fr σ σ' l p ↔ (∀ o ∈ l, zZ (zdw fr o) σ σ') ∧ p
  | [] => by simp [zmv]
  | o :: r => by simp only [zmv, zfj (l := r), List.mem_cons, forall_eq_or_imp, and_assoc]
def zbe (P : Program) (l : List Ai) : List (Nat × List Nat) → zw → List zc → (zw → List zc → Prop) → Prop
  | [], fr, σ, K => K fr σ
  | (i, nd) :: r, fr, σ, K =>
    match l[i]? with
    | some x => aop P x fr σ fun f s => zmv fr σ s nd (zbe P l r f s K)
    | none => False

theorem FEq.put {fr fr' : zw} (h : FEq fr fr') (d : Option Nat) (a : AV) : FEq (aput fr d a) (aput fr' d a) := fun i => by
  rw [zfk, zfk, h i]
theorem FEq.ev {fr fr' : zw} (h : FEq fr fr') (o : Opd) : ev fr o = ev fr' o := zay fun t _ => h t

theorem zhR {l : List Ai} {K : zw → List zc → Prop} (hK : FE K) : ∀ (lin : List (Nat × List Nat)) (fr fr' : zw) (σ : List zc), FEq fr fr' → zbe P l lin fr σ K → zbe P l lin fr' σ K
  | [], fr, fr', σ, he, h => hK fr fr' σ he h
  | (i, nd) :: r, fr, fr', σ, he, h => by
    unfold zbe at *
    split at h
    · refine zkY (fun t _ => he t) (fun u s hs => ?_) h
      rw [zfj] at hs ⊢
      exact ⟨fun o ho => (by rw [← he o]; exact hs.1 o ho), zhR hK r _ _ s (he.put _ u) hs.2⟩
    · exact h
def passes (x y : Ai) : Bool :=
  x.i.quiet && (x.dst.all fun d => !y.reads.contains d) && (y.dst.all fun d => !x.reads.contains d) && (match x.dst with | some d => !(y.dst == some d) | none => true)

theorem zlw {x y : Ai} (h : passes x y = true) : x.i.quiet = true ∧ (∀ d, x.dst = some d → d ∉ y.reads) ∧ (∀ d, y.dst = some d → d ∉ x.reads) ∧ (∀ d, x.dst = some d → y.dst ≠ some d) := by
  simp only [passes, Bool.and_eq_true] at h
  obtain ⟨⟨⟨h1, h2⟩, h3⟩, h4⟩ := h
  refine ⟨h1, fun d hd => ?_, fun d hd => ?_, fun d hd => ?_⟩
  · rw [hd] at h2; simpa using h2
  · rw [hd] at h3; simpa using h3
  · rw [hd] at h4; simpa using h4

theorem swap {x y : Ai} {fr : zw} {σ : List zc} {K : zw → List zc → Prop} (hp : passes x y = true) (hK : FE K)
    (h : aop P x fr σ fun f s => aop P y f s fun f' s' => (∀ o, x.i.at? = some o → zZ (ev fr o) σ s') ∧ K f' s') :
    aop P y fr σ fun f s => aop P x f s K := by
  obtain ⟨hq, h1, h2, h3⟩ := zlw hp
  obtain ⟨v, hv, hk⟩ := zjz hq h
  refine zkY (fun t ht => ?_) (fun u s hs => ?_) hv
  · rw [zfk]
    split
    · rename_i e; exact absurd ht (h1 t e)
    · rfl
  · refine hk _ _ _ (fun t ht => ?_) hs.1 (hK _ _ s (fun i => ?_) hs.2)
    · rw [zfk]
      split
      · rename_i e; exact absurd ht (h2 t e)
      · rfl
    · simp only [zfk]
      by_cases hx : x.dst = some i
      · have := h3 i hx
        simp [hx, this]
      · simp [hx]

theorem aop_still {x : Ai} (hq : x.i.quiet = true) {fr : zw} {σ : List zc} {K : zw → List zc → Prop} (h : aop P x fr σ K) : aop P x fr σ fun f s => s = σ ∧ K f s := by
  obtain ⟨v, hv, hk⟩ := zjz hq h
  refine hk fr σ _ (fun _ _ => rfl) (fun o _ => ?_) ⟨rfl, hv⟩
  unfold zZ; split <;> trivial

def pairOk (x y : Ai) (nx ny : List Nat) : Bool :=
  nx.isEmpty && passes x y && (match x.i.at? with | some (.tmp t) => y.i.quiet || ny.contains t | some (.lit (.box _ _)) => false | some (.lit (.map _)) => false | some (.lit (.rpt _ _ _)) => false | _ => true)
def zja (x y : Ai) : Bool :=
  match x.i.at? with
  | some (.tmp t) => !(y.dst == some t) && !(x.dst == some t)
  | _ => true

theorem extract {l : List Ai} {K : zw → List zc → Prop} (hK : FE K) {i : Nat} {nd : List Nat} {x : Ai} (hx : l[i]? = some x) {post : List (Nat × List Nat)} :
    ∀ (pre : List (Nat × List Nat)) (fr : zw) (σ : List zc), (∀ p ∈ pre, ∃ y, l[p.1]? = some y ∧ pairOk y x p.2 nd = true) →
      (pre.Pairwise fun p q => ∀ y z, l[p.1]? = some y → l[q.1]? = some z → zja y z = true) → (∀ p ∈ pre, ∀ y, l[p.1]? = some y → zja y y = true) →
      zbe P l (pre ++ (i, nd) :: post) fr σ K →
      aop P x fr σ fun f s => ((x.i.quiet = true → s = σ) ∧ ∀ t ∈ nd, (∀ p ∈ pre, ∀ y, l[p.1]? = some y → y.dst ≠ some t) → zZ (zdw fr t) σ s) ∧ zbe P l (pre ++ post) f s K
  | [], fr, σ, _, _, _, h => by
    simp only [List.nil_append, zbe, hx] at h
    have h2 : aop P x fr σ fun f s => (∀ t ∈ nd, zZ (zdw fr t) σ s) ∧ zbe P l post f s K := zbu (fun f s hs => zfj.1 hs) h
    by_cases hq : x.i.quiet = true
    · exact zbu (fun f s hs => ⟨⟨fun _ => hs.1, fun t ht _ => hs.2.1 t ht⟩, hs.2.2⟩) (aop_still hq h2)
    · exact zbu (fun f s hs => ⟨⟨fun e => absurd e hq, fun t ht _ => hs.1 t ht⟩, hs.2⟩) h2
  | (j, nj) :: pre, fr, σ, hp, hs, hss, h => by
    obtain ⟨y, hy, hpy⟩ := hp (j, nj) List.mem_cons_self
    simp only [pairOk, Bool.and_eq_true, List.isEmpty_iff] at hpy
    obtain ⟨⟨hnj, hps⟩, hat⟩ := hpy
    subst hnj
    have hyq := (zlw hps).1
    have hyy := hss (j, []) List.mem_cons_self y hy
    rw [List.pairwise_cons] at hs
    simp only [List.cons_append, zbe, hy, zmv] at h
    obtain ⟨v, hv, hk⟩ := zjz hyq h
    have ih := extract hK hx pre _ σ (fun p hp' => hp p (List.mem_cons_of_mem _ hp')) hs.2 (fun p hp' => hss p (List.mem_cons_of_mem _ hp')) hv
    have h3 : aop P y fr σ fun f s => aop P x f s fun f' s' => (∀ o, y.i.at? = some o → zZ (ev fr o) σ s') ∧
        (((x.i.quiet = true → s' = σ) ∧ ∀ t ∈ nd, (∀ p ∈ (j, []) :: pre, ∀ y, l[p.1]? = some y → y.dst ≠ some t) → zZ (zdw fr t) σ s') ∧ zbe P l (pre ++ post) f' s' K) := by
      refine hk fr σ _ (fun _ _ => rfl) (fun o _ => (by unfold zZ; split <;> trivial)) (zbu (fun f' s' hh => ?_) ih)
      refine ⟨fun o ho => ?_, ⟨hh.1.1, fun t ht hno => ?_⟩, hh.2⟩
      · cases o with
        | lit a =>
          rw [ho] at hat
          cases a <;> first | trivial | simp at hat
        | tmp t =>
          rw [ho] at hat
          simp only [Bool.or_eq_true, List.contains_iff_mem] at hat
          rcases hat with hq | hm
          · rw [hh.1.1 hq]; simp only [zZ]; split <;> trivial
          · have h4 := hh.1.2 t hm fun p hp' z hz => by
              have := hs.1 p hp' y z hy hz
              simp only [zja, ho, Bool.and_eq_true] at this
              have := this.1
              simpa using this
            have h5 : y.dst ≠ some t := by
              simp only [zja, ho, Bool.and_eq_true] at hyy
              simpa using hyy.1
            rw [zfk, if_neg h5] at h4
            exact h4
      · have h4 := hh.1.2 t ht fun p hp' z hz => hno p (List.mem_cons_of_mem _ hp') z hz
        rw [zfk, if_neg (hno (j, []) List.mem_cons_self y hy)] at h4
        exact h4
    have hKK : FE fun f' s' => ((x.i.quiet = true → s' = σ) ∧ ∀ t ∈ nd, (∀ p ∈ (j, []) :: pre, ∀ y, l[p.1]? = some y → y.dst ≠ some t) → zZ (zdw fr t) σ s') ∧ zbe P l (pre ++ post) f' s' K :=
      fun f f' s he hh => ⟨hh.1, zhR hK _ _ _ _ he hh.2⟩
    refine zbu (fun f s hh => ?_) (swap hps hKK h3)
    obtain ⟨v', hv', _⟩ := zjz hyq hh
    refine ⟨hv'.1, ?_⟩
    simp only [List.cons_append, zbe, hy, zmv]
    exact zbu (fun f' s' h' => h'.2) hh
variable {P : Program}

def pw {α : Type} (f : α → α → Bool) : List α → Bool
  | [] => true
  | a :: r => r.all (f a) && pw f r
theorem pw_spec {α : Type} {f : α → α → Bool} : ∀ {l : List α}, pw f l = true → l.Pairwise fun a b => f a b = true
  | [], _ => .nil
  | a :: r, h => by
    simp only [pw, Bool.and_eq_true, List.all_eq_true] at h
    exact .cons h.1 (pw_spec h.2)
def mask (cl : List Nat) : List Nat → Nat
  | [] => 0
  | j :: r => (2 ^ j ||| cl.getD j 0) ||| mask cl r
theorem mask_spec {cl : List Nat} {p : Nat} : ∀ {a : List Nat}, (mask cl a).testBit p = true → ∃ j ∈ a, p = j ∨ (cl.getD j 0).testBit p = true
  | [], h => by simp [mask] at h
  | j :: r, h => by
    simp only [mask, Nat.testBit_or, Bool.or_eq_true] at h
    rcases h with (h | h) | h
    · rw [Nat.testBit_two_pow] at h
      exact ⟨j, List.mem_cons_self, .inl (by simpa using h : j = p).symm⟩
    · exact ⟨j, List.mem_cons_self, .inr h⟩
    · obtain ⟨k, hk, h'⟩ := mask_spec h
      exact ⟨k, List.mem_cons_of_mem _ hk, h'⟩

def linB (l : List Ai) (after : List (List Nat)) (cl : List Nat) (p q : Nat × List Nat) : Bool :=
  !(p.1 == q.1) && !(after.getD p.1 []).contains q.1 && match l[p.1]?, l[q.1]? with
    | some x, some y => zja x y && ((cl.getD q.1 0).testBit p.1 || pairOk x y p.2 q.2)
    | _, _ => false
def linA (l : List Ai) (after : List (List Nat)) (cl : List Nat) (i : Nat) : Bool :=
  (match Nat.ble cl.length after.length with
    | true => (after.getD i []).all fun j => decide (j < i) || (after.getD j []).isEmpty && decide (j < after.length)
    | false => (after.getD i []).all fun j => Nat.blt j after.length && Nat.blt (cl.getD (after.length + j) 0) (cl.getD (after.length + i) 0)) && (mask cl (after.getD i []) ||| cl.getD i 0 == mask cl (after.getD i [])) && match l[i]? with
    | some x => zja x x
    | none => false
def linOk (l : List Ai) (after : List (List Nat)) (lin : List (Nat × List Nat)) (cl : List Nat) : Bool :=
  lin.length == after.length && (List.range after.length).all (fun i => (lin.map (·.1)).contains i && linA l after cl i) && lin.all (fun p => decide (p.1 < after.length)) && pw (linB l after cl) lin

structure zgn (l : List Ai) (after : List (List Nat)) (cl : List Nat) (lin : List (Nat × List Nat)) (listed : List Bool) : Prop where
  len : listed.length = after.length
  mem : ∀ i, i < after.length → (listed.getD i true = false ↔ ∃ p ∈ lin, p.1 = i)
  low : ∀ p ∈ lin, p.1 < after.length
  pair : lin.Pairwise fun p q => linB l after cl p q = true
  down : ∀ i, i < after.length → listed.getD i true = true → ∀ j ∈ after.getD i [], listed.getD j false = true

def rkF (after : List (List Nat)) (cl : List Nat) (i : Nat) : Nat := match Nat.ble cl.length after.length with
  | true => if after.getD i [] = [] then 0 else i + 1
  | false => cl.getD (after.length + i) 0
theorem zem {l : List Ai} {after : List (List Nat)} {cl : List Nat} {i : Nat} (hi : i < after.length) (h : linA l after cl i = true) :
    (∀ j ∈ after.getD i [], j < after.length ∧ rkF after cl j < rkF after cl i) ∧ (∀ p, (cl.getD i 0).testBit p = true → ∃ j ∈ after.getD i [], p = j ∨ (cl.getD j 0).testBit p = true) ∧ ∃ x, l[i]? = some x ∧ zja x x = true := by
  simp only [linA, Bool.and_eq_true, beq_iff_eq] at h
  refine ⟨fun j hj => ?_, fun p hp => mask_spec ?_, ?_⟩
  · have h0 := h.1.1
    unfold rkF
    split at h0
    · rename_i e
      simp only [List.all_eq_true, Bool.or_eq_true, Bool.and_eq_true, decide_eq_true_eq, List.isEmpty_iff] at h0
      have hne : ¬ after.getD i [] = [] := fun e => by rw [e] at hj; cases hj
      simp only [if_neg hne]
      rcases h0 j hj with h | ⟨h, h'⟩
      · exact ⟨by omega, by split <;> omega⟩
      · exact ⟨h', by rw [if_pos h]; omega⟩
    · rename_i e
      simp only [List.all_eq_true, Bool.and_eq_true, Nat.blt_eq] at h0
      exact h0 j hj
  · rw [← h.1.2, Nat.testBit_or, hp, Bool.or_true]
  · have := h.2
    split at this
    · rename_i x hx; exact ⟨x, hx, this⟩
    · cases this

theorem ziH {l : List Bool} {i n : Nat} (hl : l.length = n) (hi : i < n) (a b : Bool) : l.getD i a = l.getD i b := by
  subst hl
  simp [List.getD, List.getElem?_eq_getElem hi]

theorem zgA {l : List Ai} {after : List (List Nat)} {cl : List Nat} {lin : List (Nat × List Nat)} {listed : List Bool} (hA : ∀ i, i < after.length → linA l after cl i = true) (I : zgn l after cl lin listed) :
    ∀ (n i : Nat), rkF after cl i < n → i < after.length → (∀ j ∈ after.getD i [], listed.getD j false = true) → ∀ p, (cl.getD i 0).testBit p = true → listed.getD p false = true
  | 0, i, h, _, _, _, _ => absurd h (Nat.not_lt_zero _)
  | n + 1, i, hn, hi, hd, p, hp => by
    obtain ⟨h1, h2, _⟩ := zem hi (hA i hi)
    obtain ⟨j, hj, hpj⟩ := h2 p hp
    rcases hpj with rfl | hpj
    · exact hd p hj
    · obtain ⟨hjn, hji⟩ := h1 j hj
      exact zgA hA I n j (by omega) hjn (I.down j hjn (by rw [ziH I.len hjn true false]; exact hd j hj)) p hpj

theorem zaf {after : List (List Nat)} {listed : List Bool} {i : Nat} : i ∈ zfE after listed ↔ i < after.length ∧ listed.getD i true = false ∧ ∀ j ∈ after.getD i [], listed.getD j false = true := by
  simp only [zfE, List.mem_filter, List.mem_range, Bool.and_eq_true, Bool.not_eq_true', List.all_eq_true]

theorem zhq {l : List Ai} {after : List (List Nat)} {cl : List Nat} (hA : ∀ i, i < after.length → linA l after cl i = true) {K : zw → List zc → Prop} (hK : FE K) :
    ∀ (n : Nat) (lin : List (Nat × List Nat)) (listed : List Bool) (fr : zw) (σ : List zc), lin.length = n → zgn l after cl lin listed → zbe P l lin fr σ K → aany P l after K n listed fr σ
  | 0, lin, listed, fr, σ, hn, I, h => by
    have e : lin = [] := List.length_eq_zero_iff.1 hn
    subst e
    refine ⟨?_, h⟩
    rw [List.eq_nil_iff_forall_not_mem]
    intro i hi
    obtain ⟨h1, h2, _⟩ := zaf.1 hi
    obtain ⟨p, hp, _⟩ := (I.mem i h1).1 h2
    cases hp
  | n + 1, lin, listed, fr, σ, hn, I, h => by
    refine ⟨fun h0 => ?_, fun i hi => ?_⟩
    · exfalso
      cases lin with
      | nil => cases hn
      | cons p r =>
        have hlow := I.low p List.mem_cons_self
        have hr : p.1 ∈ zfE after listed := by
          refine zaf.2 ⟨hlow, (I.mem _ hlow).2 ⟨p, List.mem_cons_self, rfl⟩, fun j hj => ?_⟩
          obtain ⟨hjn, hjr⟩ := (zem hlow (hA _ hlow)).1 j hj
          have hjne : j ≠ p.1 := by
            rintro rfl
            omega
          cases hl : listed.getD j false with
          | true => rfl
          | false =>
            rw [ziH I.len hjn false true] at hl
            obtain ⟨q, hq, e⟩ := (I.mem j hjn).1 hl
            rcases List.mem_cons.1 hq with rfl | hq
            · exact absurd e.symm hjne
            · have := (List.pairwise_cons.1 I.pair).1 q hq
              simp only [linB, Bool.and_eq_true, Bool.not_eq_true', List.contains_eq_mem, decide_eq_false_iff_not] at this
              rw [e] at this
              exact absurd hj this.1.2
        rw [h0] at hr
        cases hr
    · obtain ⟨h1, h2, h3⟩ := zaf.1 hi
      obtain ⟨q, hq, e⟩ := (I.mem i h1).1 h2
      obtain ⟨pre, post, rfl⟩ := List.append_of_mem hq
      obtain ⟨i', nd⟩ := q
      simp only at e
      subst e
      obtain ⟨_, _, x, hx, _⟩ := zem h1 (hA i' h1)
      have hpair := List.pairwise_append.1 I.pair
      have hcross : ∀ p ∈ pre, linB l after cl p (i', nd) = true := fun p hp => hpair.2.2 p hp (i', nd) List.mem_cons_self
      have hpost : ∀ p ∈ post, linB l after cl (i', nd) p = true := fun p hp => (List.pairwise_cons.1 hpair.2.1).1 p hp
      have hB : ∀ p q, linB l after cl p q = true → p.1 ≠ q.1 ∧ ∃ y z, l[p.1]? = some y ∧ l[q.1]? = some z ∧ zja y z = true ∧ ((cl.getD q.1 0).testBit p.1 = true ∨ pairOk y z p.2 q.2 = true) := by
        intro p q hpq
        simp only [linB, Bool.and_eq_true, Bool.not_eq_true', beq_eq_false_iff_ne] at hpq
        refine ⟨hpq.1.1, ?_⟩
        have := hpq.2
        split at this
        · rename_i y z hy hz
          simp only [Bool.and_eq_true, Bool.or_eq_true] at this
          exact ⟨y, z, hy, hz, this.1, this.2⟩
        · cases this
      have hun : ∀ p ∈ pre, listed.getD p.1 false = false := fun p hp => by
        have hlow := I.low p (List.mem_append_left _ hp)
        rw [ziH I.len hlow false true]
        exact (I.mem _ hlow).2 ⟨p, List.mem_append_left _ hp, rfl⟩
      have hex := extract hK hx (post := post) pre fr σ (fun p hp => by
          obtain ⟨_, y, z, hy, hz, _, hor⟩ := hB _ _ (hcross p hp)
          rw [hx] at hz; cases hz
          refine ⟨y, hy, ?_⟩
          rcases hor with hc | hc
          · have := zgA hA I _ i' (Nat.lt_succ_self _) h1 h3 p.1 hc
            rw [hun p hp] at this; cases this
          · exact hc)
        (hpair.1.imp fun {p q} hpq y z hy hz => by
          obtain ⟨_, y', z', hy', hz', hs, _⟩ := hB _ _ hpq
          rw [hy] at hy'; rw [hz] at hz'; cases hy'; cases hz'; exact hs)
        (fun p hp y hy => by
          obtain ⟨_, _, y', hy', hs⟩ := zem (I.low p (List.mem_append_left _ hp)) (hA p.1 (I.low p (List.mem_append_left _ hp)))
          rw [hy] at hy'; cases hy'; exact hs) h
      simp only [hx]
      refine zbu (fun f s hs => zhq hA hK n (pre ++ post) (listed.set i' true) f s (by simp at hn ⊢; omega) ?_ hs.2) hex
      have hne : ∀ p ∈ pre ++ post, p.1 ≠ i' := fun p hp => by
        rcases List.mem_append.1 hp with hp | hp
        · exact (hB _ _ (hcross p hp)).1
        · exact fun e => (hB _ _ (hpost p hp)).1 e.symm
      have hset : ∀ k d, k ≠ i' → (listed.set i' true).getD k d = listed.getD k d := fun k d hk => by simp [List.getD, List.getElem?_set_ne (Ne.symm hk)]
      have hseti : ∀ d, (listed.set i' true).getD i' d = true := fun d => by simp [List.getD, List.getElem?_set, I.len, h1]
      refine ⟨by rw [List.length_set]; exact I.len, fun k hk => ?_, fun p hp => I.low p ?_, ?_, fun k hk hl j hj => ?_⟩
      · by_cases hki : k = i'
        · subst hki
          rw [hseti]
          exact ⟨fun e => Bool.noConfusion e, fun ⟨p, hp, e⟩ => absurd e (hne p hp)⟩
        · rw [hset k true hki, I.mem k hk]
          constructor
          · rintro ⟨p, hp, rfl⟩
            refine ⟨p, ?_, rfl⟩
            rcases List.mem_append.1 hp with hp | hp
            · exact List.mem_append_left _ hp
            · rcases List.mem_cons.1 hp with rfl | hp
              · exact absurd rfl hki
              · exact List.mem_append_right _ hp
          · rintro ⟨p, hp, rfl⟩
            refine ⟨p, ?_, rfl⟩
            rcases List.mem_append.1 hp with hp | hp
            · exact List.mem_append_left _ hp
            · exact List.mem_append_right _ (List.mem_cons_of_mem _ hp)
      · rcases List.mem_append.1 hp with hp | hp
        · exact List.mem_append_left _ hp
        · exact List.mem_append_right _ (List.mem_cons_of_mem _ hp)
      · exact I.pair.sublist (List.Sublist.append_left (List.sublist_cons_self _ _) _)
      · have hj' : listed.getD j false = true := by
          by_cases hki : k = i'
          · subst hki; exact h3 j hj
          · rw [hset k true hki] at hl
            exact I.down k hk hl j hj
        by_cases hji : j = i'
        · subst hji; exact hseti _
        · rw [hset j false hji]; exact hj'

theorem zlD {l : List Ai} {after : List (List Nat)} {lin : List (Nat × List Nat)} {cl : List Nat} (h : linOk l after lin cl = true) :
    lin.length = after.length ∧ zgn l after cl lin (List.replicate after.length false) ∧ ∀ i, i < after.length → linA l after cl i = true := by
  simp only [linOk, Bool.and_eq_true, List.all_eq_true, decide_eq_true_eq, beq_iff_eq, List.mem_range, List.contains_eq_mem, List.mem_map] at h
  obtain ⟨⟨⟨h1, h2⟩, h3⟩, h4⟩ := h
  refine ⟨h1, ⟨by simp, fun i hi => ?_, h3, pw_spec h4, fun i hi e => ?_⟩, fun i hi => (h2 i hi).2⟩
  · constructor
    · intro _
      exact (h2 i hi).1
    · intro _
      simp [List.getD, hi]
  · simp [List.getD, hi] at e
theorem zkj {l : List Ai} {after : List (List Nat)} {cl : List Nat} {pre post post' : List (Nat × List Nat)} {i' : Nat} {nd : List Nat} {listed : List Bool} (hA : ∀ i, i < after.length → linA l after cl i = true)
    (I : zgn l after cl (pre ++ (i', nd) :: post') listed) (h1 : i' < after.length) (h2 : listed.getD i' true = false) (h3 : ∀ j ∈ after.getD i' [], listed.getD j false = true) {x : Ai} (hx : l[i']? = some x)
    {K : zw → List zc → Prop} (hK : FE K) {fr : zw} {σ : List zc} (h : zbe P l (pre ++ (i', nd) :: post) fr σ K) :
    aop P x fr σ fun f s => zbe P l (pre ++ post) f s K := by
  have hpair := List.pairwise_append.1 I.pair
  have hcross : ∀ p ∈ pre, linB l after cl p (i', nd) = true := fun p hp => hpair.2.2 p hp (i', nd) List.mem_cons_self
  have hB : ∀ p q, linB l after cl p q = true → p.1 ≠ q.1 ∧ ∃ y z, l[p.1]? = some y ∧ l[q.1]? = some z ∧ zja y z = true ∧ ((cl.getD q.1 0).testBit p.1 = true ∨ pairOk y z p.2 q.2 = true) := by
    intro p q hpq
    simp only [linB, Bool.and_eq_true, Bool.not_eq_true', beq_eq_false_iff_ne] at hpq
    refine ⟨hpq.1.1, ?_⟩
    have := hpq.2
    split at this
    · rename_i y z hy hz
      simp only [Bool.and_eq_true, Bool.or_eq_true] at this
      exact ⟨y, z, hy, hz, this.1, this.2⟩
    · cases this
  have hun : ∀ p ∈ pre, listed.getD p.1 false = false := fun p hp => by
    have hlow := I.low p (List.mem_append_left _ hp)
    rw [ziH I.len hlow false true]
    exact (I.mem _ hlow).2 ⟨p, List.mem_append_left _ hp, rfl⟩
  have hex := extract hK hx (post := post) pre fr σ (fun p hp => by
      obtain ⟨_, y, z, hy, hz, _, hor⟩ := hB _ _ (hcross p hp)
      rw [hx] at hz; cases hz
      refine ⟨y, hy, ?_⟩
      rcases hor with hc | hc
      · have := zgA hA I _ i' (Nat.lt_succ_self _) h1 h3 p.1 hc
        rw [hun p hp] at this; cases this
      · exact hc)
    (hpair.1.imp fun {p q} hpq y z hy hz => by
      obtain ⟨_, y', z', hy', hz', hs, _⟩ := hB _ _ hpq
      rw [hy] at hy'; rw [hz] at hz'; cases hy'; cases hz'; exact hs)
    (fun p hp y hy => by
      obtain ⟨_, _, y', hy', hs⟩ := zem (I.low p (List.mem_append_left _ hp)) (hA p.1 (I.low p (List.mem_append_left _ hp)))
      rw [hy] at hy'; cases hy'; exact hs) h
  exact zbu (fun f s hs => hs.2) hex
theorem adraw_mono' {l : List Ai} {K K' : zw → List zc → Prop} (hk : ∀ f s, K f s → K' f s) : ∀ (lin : List (Nat × List Nat)) (fr : zw) (σ : List zc), zbe P l lin fr σ K → zbe P l lin fr σ K'
  | [], fr, σ, h => hk _ _ h
  | (i, nd) :: r, fr, σ, h => by
    unfold zbe at *
    split at h
    · refine zbu (fun f s hs => ?_) h
      rw [zfj] at hs ⊢
      exact ⟨hs.1, adraw_mono' hk r _ s hs.2⟩
    · exact h

theorem linOk_any {l : List Ai} {after : List (List Nat)} {lin : List (Nat × List Nat)} {cl : List Nat} (h : linOk l after lin cl = true) {K : zw → List zc → Prop} (hK : FE K) {fr : zw} {σ : List zc} (hd : zbe P l lin fr σ K) :
    aany P l after K after.length (List.replicate after.length false) fr σ := by
  simp only [linOk, Bool.and_eq_true, List.all_eq_true, decide_eq_true_eq, beq_iff_eq, List.mem_range, List.contains_eq_mem, List.mem_map] at h
  obtain ⟨⟨⟨h1, h2⟩, h3⟩, h4⟩ := h
  refine zhq (fun i hi => (h2 i hi).2) hK _ lin _ fr σ h1 ⟨by simp, fun i hi => ?_, h3, pw_spec h4, fun i hi e => ?_⟩ hd
  · constructor
    · intro _
      exact (h2 i hi).1
    · intro _
      simp [List.getD, hi]
  · simp [List.getD, hi] at e

theorem zgn.step {l : List Ai} {after : List (List Nat)} {cl : List Nat} {pre post : List (Nat × List Nat)} {i' : Nat} {nd : List Nat} {listed : List Bool} (I : zgn l after cl (pre ++ (i', nd) :: post) listed) (h1 : i' < after.length)
    (h3 : ∀ j ∈ after.getD i' [], listed.getD j false = true) : zgn l after cl (pre ++ post) (listed.set i' true) := by
  have hpair := List.pairwise_append.1 I.pair
  have hcross : ∀ p ∈ pre, linB l after cl p (i', nd) = true := fun p hp => hpair.2.2 p hp (i', nd) List.mem_cons_self
  have hpost : ∀ p ∈ post, linB l after cl (i', nd) p = true := fun p hp => (List.pairwise_cons.1 hpair.2.1).1 p hp
  have hB : ∀ p q, linB l after cl p q = true → p.1 ≠ q.1 := by
    intro p q hpq
    simp only [linB, Bool.and_eq_true, Bool.not_eq_true', beq_eq_false_iff_ne] at hpq
    exact hpq.1.1
  have hne : ∀ p ∈ pre ++ post, p.1 ≠ i' := fun p hp => by
    rcases List.mem_append.1 hp with hp | hp
    · exact hB _ _ (hcross p hp)
    · exact fun e => hB _ _ (hpost p hp) e.symm
  have hset : ∀ k d, k ≠ i' → (listed.set i' true).getD k d = listed.getD k d := fun k d hk => by simp [List.getD, List.getElem?_set_ne (Ne.symm hk)]
  have hseti : ∀ d, (listed.set i' true).getD i' d = true := fun d => by simp [List.getD, List.getElem?_set, I.len, h1]
  refine ⟨by rw [List.length_set]; exact I.len, fun k hk => ?_, fun p hp => I.low p ?_, ?_, fun k hk hl j hj => ?_⟩
  · by_cases hki : k = i'
    · subst hki
      rw [hseti]
      exact ⟨fun e => Bool.noConfusion e, fun ⟨p, hp, e⟩ => absurd e (hne p hp)⟩
    · rw [hset k true hki, I.mem k hk]
      constructor
      · rintro ⟨p, hp, rfl⟩
        refine ⟨p, ?_, rfl⟩
        rcases List.mem_append.1 hp with hp | hp
        · exact List.mem_append_left _ hp
        · rcases List.mem_cons.1 hp with rfl | hp
          · exact absurd rfl hki
          · exact List.mem_append_right _ hp
      · rintro ⟨p, hp, rfl⟩
        refine ⟨p, ?_, rfl⟩
        rcases List.mem_append.1 hp with hp | hp
        · exact List.mem_append_left _ hp
        · exact List.mem_append_right _ (List.mem_cons_of_mem _ hp)
  · rcases List.mem_append.1 hp with hp | hp
    · exact List.mem_append_left _ hp
    · exact List.mem_append_right _ (List.mem_cons_of_mem _ hp)
  · exact I.pair.sublist (List.Sublist.append_left (List.sublist_cons_self _ _) _)
  · have hj' : listed.getD j false = true := by
      by_cases hki : k = i'
      · subst hki; exact h3 j hj
      · rw [hset k true hki] at hl
        exact I.down k hk hl j hj
    by_cases hji : j = i'
    · subst hji; exact hseti _
    · rw [hset j false hji]; exact hj'
def dep (after : List (List Nat)) (i j : Nat) : List (List Nat) := after.set i (j :: after.getD i [])
theorem zfp (after : List (List Nat)) (i j : Nat) : (dep after i j).length = after.length := by simp [dep]
theorem dep_ne (after : List (List Nat)) {i j k : Nat} (h : k ≠ i) : (dep after i j).getD k [] = after.getD k [] := by
  simp [dep, List.getD, List.getElem?_set_ne (Ne.symm h)]
theorem dep_same (after : List (List Nat)) {i j : Nat} (h : i < after.length) : (dep after i j).getD i [] = j :: after.getD i [] := by
  simp [dep, List.getD, List.getElem?_set, h]
theorem zbq {after : List (List Nat)} {i j : Nat} {listed : List Bool} {k : Nat} (h : k ∈ zfE after listed) (hk : k = i → listed.getD j false = true) : k ∈ zfE (dep after i j) listed := by
  obtain ⟨h1, h2, h3⟩ := zaf.1 h
  refine zaf.2 ⟨by rw [zfp]; exact h1, h2, fun x hx => ?_⟩
  by_cases e : k = i
  · subst e
    rw [dep_same _ h1] at hx
    rcases List.mem_cons.1 hx with rfl | hx
    · exact hk rfl
    · exact h3 x hx
  · rw [dep_ne _ e] at hx
    exact h3 x hx
theorem ready_dep {after : List (List Nat)} {i j : Nat} {listed : List Bool} {k : Nat} (h : k ∈ zfE (dep after i j) listed) : k ∈ zfE after listed := by
  obtain ⟨h1, h2, h3⟩ := zaf.1 h
  rw [zfp] at h1
  refine zaf.2 ⟨h1, h2, fun x hx => h3 x ?_⟩
  by_cases e : k = i
  · subst e
    rw [dep_same _ h1]
    exact List.mem_cons_of_mem _ hx
  · rw [dep_ne _ e]
    exact hx
theorem nil_dep {after : List (List Nat)} {i j : Nat} {listed : List Bool} (h : zfE after listed = []) : zfE (dep after i j) listed = [] := by
  rw [List.eq_nil_iff_forall_not_mem] at h ⊢
  exact fun k hk => h k (ready_dep hk)
theorem zgg {l : List Ai} {after : List (List Nat)} {i j : Nat} {K : zw → List zc → Prop} : ∀ (n : Nat) (listed : List Bool) (fr : zw) (σ : List zc), listed.getD j false = true → aany P l (dep after i j) K n listed fr σ → aany P l after K n listed fr σ
  | 0, listed, fr, σ, hj, h => by
    refine ⟨?_, h.2⟩
    have h1 := h.1
    rw [List.eq_nil_iff_forall_not_mem] at h1 ⊢
    exact fun k hk => h1 k (zbq hk fun _ => hj)
  | n + 1, listed, fr, σ, hj, h => by
    refine ⟨fun h0 => h.1 (nil_dep h0), fun k hk => ?_⟩
    have h2 := h.2 k (zbq hk fun _ => hj)
    split at h2
    · refine zbu (fun f s hs => zgg n _ f s ?_ hs) h2
      by_cases e : k = j
      · subst e
        rcases Nat.lt_or_ge k listed.length with hl | hl
        · simp [List.getD, List.getElem?_set, hl]
        · simp [List.getD, List.getElem?_eq_none hl] at hj
      · simp only [List.getD, List.getElem?_set_ne e]
        exact hj
    · exact h2.elim

theorem zet {l : List Ai} {K : zw → List zc → Prop} : ∀ (a b : List (Nat × List Nat)) (fr : zw) (σ : List zc), zbe P l a fr σ (fun f s => zbe P l b f s K) → zbe P l (a ++ b) fr σ K
  | [], b, fr, σ, h => h
  | (i, nd) :: r, b, fr, σ, h => by
    rw [List.cons_append]
    unfold zbe at *
    split at h
    · refine zbu (fun f s hs => ?_) h
      rw [zfj] at hs ⊢
      exact ⟨hs.1, zet r b f s hs.2⟩
    · exact h.elim

structure Two (l : List Ai) (after : List (List Nat)) (p q : Nat) : Prop where
  hp : p < after.length
  hq : q < after.length
  ne : p ≠ q

theorem two_any {l : List Ai} {after : List (List Nat)} {p q : Nat} {clA clB : List Nat} {restA restB : List (Nat × List Nat)} (hne : p ≠ q)
    (hA : ∀ i, i < (dep after q p).length → linA l (dep after q p) clA i = true) (hB : ∀ i, i < (dep after p q).length → linA l (dep after p q) clB i = true)
    {K : zw → List zc → Prop} (hK : FE K) :
    ∀ (n : Nat) (pre : List (Nat × List Nat)) (listed : List Bool) (fr : zw) (σ : List zc),
      (∀ x, x < after.length → listed.getD x true = false → x = p ∨ x = q ∨ (∃ y ∈ pre, y.1 = x) ∨ (clA.getD x 0).testBit p = true) →
      listed.getD p false = false → listed.getD q false = false → p < after.length → q < after.length →
      (pre ++ restA).length = n → (pre ++ restB).length = n → zgn l (dep after q p) clA (pre ++ restA) listed → zgn l (dep after p q) clB (pre ++ restB) listed →
      zbe P l pre fr σ (fun f s => zbe P l restA f s K ∧ zbe P l restB f s K) → aany P l after K n listed fr σ := by
  intro n
  induction n with
  | zero =>
    intro pre listed fr σ hx hp hq hpl hql e1 e2 IA IB h
    have e : pre ++ restA = [] := List.length_eq_zero_iff.1 e1
    have : ∃ y ∈ pre ++ restA, y.1 = p := (IA.mem p (by rw [zfp]; exact hpl)).1 (by rw [ziH (by rw [IA.len, zfp]) hpl true false]; exact hp)
    rw [e] at this
    obtain ⟨y, hy, _⟩ := this
    cases hy
  | succ n ih =>
    intro pre listed fr σ hx hp hq hpl hql e1 e2 IA IB h
    have AA := zhq hA hK (n + 1) _ listed fr σ e1 IA (zet _ _ _ _ (adraw_mono' (fun f s hs => hs.1) pre fr σ h))
    have AB := zhq hB hK (n + 1) _ listed fr σ e2 IB (zet _ _ _ _ (adraw_mono' (fun f s hs => hs.2) pre fr σ h))
    refine ⟨fun h0 => AA.1 (nil_dep h0), fun i hi => ?_⟩
    obtain ⟨h1, h2, h3⟩ := zaf.1 hi
    have hset : ∀ d, (listed.set i true).getD i d = true := fun d => by
      have := IA.len
      rw [zfp] at this
      simp [List.getD, List.getElem?_set, this, h1]
    by_cases eip : i = p
    · subst eip
      have h4 := AA.2 i (zbq hi fun e => absurd e hne)
      split at h4
      · exact zbu (fun f s hs => zgg n _ f s (hset _) hs) h4
      · exact h4.elim
    by_cases eiq : i = q
    · subst eiq
      have h4 := AB.2 i (zbq hi fun e => absurd e (Ne.symm hne))
      split at h4
      · exact zbu (fun f s hs => zgg n _ f s (hset _) hs) h4
      · exact h4.elim
    have hin : ∃ y ∈ pre, y.1 = i := by
      rcases hx i h1 h2 with h | h | h | h
      · exact absurd h eip
      · exact absurd h eiq
      · exact h
      · obtain ⟨a1, a2, a3⟩ := zaf.1 (zbq (i := q) (j := p) hi fun e => absurd e eiq)
        have := zgA hA IA _ i (Nat.lt_succ_self _) a1 a3 p h
        rw [this] at hp; cases hp
    obtain ⟨y, hy, e⟩ := hin
    obtain ⟨pre1, post1, rfl⟩ := List.append_of_mem hy
    obtain ⟨i', nd⟩ := y
    simp only at e
    subst e
    have hiA := zbq (i := q) (j := p) hi fun e => absurd e eiq
    have hiB := zbq (i := p) (j := q) hi fun e => absurd e eip
    obtain ⟨a1, a2, a3⟩ := zaf.1 hiA
    obtain ⟨b1, b2, b3⟩ := zaf.1 hiB
    obtain ⟨_, _, x, hxl, _⟩ := zem a1 (hA i' a1)
    have IA' : zgn l (dep after q p) clA (pre1 ++ (i', nd) :: (post1 ++ restA)) listed := by simpa [List.append_assoc] using IA
    have IB' : zgn l (dep after p q) clB (pre1 ++ (i', nd) :: (post1 ++ restB)) listed := by simpa [List.append_assoc] using IB
    have hex := zkj hA IA' a1 a2 a3 hxl (K := fun f s => zbe P l restA f s K ∧ zbe P l restB f s K) (fun f f' s he hs => ⟨zhR hK _ _ _ _ he hs.1, zhR hK _ _ _ _ he hs.2⟩) (post := post1) h
    simp only [hxl]
    refine zbu (fun f s hs => ih (pre1 ++ post1) (listed.set i' true) f s (fun k hk hkl => ?_) ?_ ?_ hpl hql ?_ ?_ ?_ ?_ hs) hex
    · by_cases ek : k = i'
      · subst ek; rw [hset] at hkl; cases hkl
      · have hkl' : listed.getD k true = false := by simpa [List.getD, List.getElem?_set_ne (Ne.symm ek)] using hkl
        rcases hx k hk hkl' with h | h | ⟨y, hy, e⟩ | h
        · exact .inl h
        · exact .inr (.inl h)
        · refine .inr (.inr (.inl ⟨y, ?_, e⟩))
          rcases List.mem_append.1 hy with hy | hy
          · exact List.mem_append_left _ hy
          · rcases List.mem_cons.1 hy with rfl | hy
            · exact absurd e.symm ek
            · exact List.mem_append_right _ hy
        · exact .inr (.inr (.inr h))
    · simpa [List.getD, List.getElem?_set_ne eip] using hp
    · simpa [List.getD, List.getElem?_set_ne eiq] using hq
    · simp only [List.length_append, List.length_cons] at e1 ⊢; omega
    · simp only [List.length_append, List.length_cons] at e2 ⊢; omega
    · have := IA'.step a1 a3
      simpa [List.append_assoc] using this
    · have := IB'.step b1 b3
      simpa [List.append_assoc] using this

def twoOk (l : List Ai) (after : List (List Nat)) (lin : List (Nat × List Nat)) : List Nat → Bool
  | p :: q :: k :: r =>
    decide (p < after.length) && decide (q < after.length) && !(p == q) && decide (k ≤ after.length) && linOk l (dep after q p) (lin.take after.length) (r.take after.length) &&
    linOk l (dep after p q) (lin.take k ++ lin.drop after.length) (r.drop after.length) &&
    (List.range after.length).all fun x => x == p || x == q || ((lin.take k).map (·.1)).contains x || ((r.take after.length).getD x 0).testBit p
  | _ => false
def twoK : List Nat → Nat
  | _ :: _ :: k :: _ => k
  | _ => 0
theorem twoOk_any {l : List Ai} {after : List (List Nat)} {lin : List (Nat × List Nat)} {cl : List Nat} (h : twoOk l after lin cl = true) {K : zw → List zc → Prop} (hK : FE K) {fr : zw} {σ : List zc}
    (hd : zbe P l (lin.take (twoK cl)) fr σ fun f s => zbe P l ((lin.take after.length).drop (twoK cl)) f s K ∧ zbe P l (lin.drop after.length) f s K) :
    aany P l after K after.length (List.replicate after.length false) fr σ := by
  unfold twoOk at h
  split at h
  · rename_i p q k r
    simp only [twoK] at hd
    simp only [Bool.and_eq_true, decide_eq_true_eq, Bool.not_eq_true', beq_eq_false_iff_ne] at h
    obtain ⟨⟨⟨⟨⟨⟨hp, hq⟩, hne⟩, hk⟩, hA⟩, hB⟩, hx⟩ := h
    obtain ⟨lA, IA, AA⟩ := zlD hA
    obtain ⟨lB, IB, AB⟩ := zlD hB
    rw [zfp] at lA lB IA IB
    have esplit : lin.take k ++ (lin.take after.length).drop k = lin.take after.length := by
      have e1 : lin.take k = (lin.take after.length).take k := by rw [List.take_take, Nat.min_eq_left hk]
      rw [e1]
      exact List.take_append_drop ..
    refine two_any hne AA AB hK after.length (lin.take k) _ fr σ (fun x hxl _ => ?_) ?_ ?_ hp hq ?_ ?_ ?_ ?_ hd
    · have := List.all_eq_true.1 hx x (List.mem_range.2 hxl)
      simp only [Bool.or_eq_true, beq_iff_eq, List.contains_eq_mem, decide_eq_true_eq, List.mem_map] at this
      rcases this with ((h | h) | h) | h
      · exact .inl h
      · exact .inr (.inl h)
      · exact .inr (.inr (.inl h))
      · exact .inr (.inr (.inr h))
    · simp [List.getD, hp]
    · simp [List.getD, hq]
    · rw [esplit]; exact lA
    · exact lB
    · rw [esplit]; exact IA
    · exact IB
  · cases h

/-! several operations that may change places: a tree of orders. cl: 0 :: bits at a leaf (lin: the rest); 1 :: p :: q :: k :: sA :: mA :: bits ++ clA ++ clB at a node: k of lin are told ahead of both, then p first or q first. -/
def zgq (P : Program) (l : List Ai) (K : zw → List zc → Prop) : Nat → Nat → List (Nat × List Nat) → List Nat → zw → List zc → Prop
  | 0, _, _, _, _, _ => False
  | n + 1, m, lin, cl, fr, σ => match cl with
    | 0 :: _ => zbe P l lin fr σ K
    | 1 :: _ :: _ :: k :: sA :: mA :: r => zbe P l (lin.take k) fr σ fun f s => zgq P l K n m ((lin.drop k).take mA) ((r.drop (m + m)).take sA) f s ∧ zgq P l K n m ((lin.drop k).drop mA) ((r.drop (m + m)).drop sA) f s
    | _ => False
def treeC (l : List Ai) : Nat → List (List Nat) → List (Nat × List Nat) → List (Nat × List Nat) → List Nat → Bool
  | 0, _, _, _, _ => false
  | n + 1, after, pre, lin, cl => match cl with
    | 0 :: bits => linOk l after (pre ++ lin) bits
    | 1 :: p :: q :: k :: sA :: mA :: r =>
      decide (p < after.length) && decide (q < after.length) && !(p == q) && ((List.range after.length).all fun i => linA l after (r.take (after.length + after.length)) i) && ((pre ++ lin.take k).all fun y => !(y.1 == p) && !(y.1 == q)) &&
      ((List.range after.length).all fun x => x == p || x == q || ((pre ++ lin.take k).map (·.1)).contains x || ((r.take (after.length + after.length)).getD x 0).testBit p) &&
      treeC l n (dep after q p) (pre ++ lin.take k) ((lin.drop k).take mA) ((r.drop (after.length + after.length)).take sA) && treeC l n (dep after p q) (pre ++ lin.take k) ((lin.drop k).drop mA) ((r.drop (after.length + after.length)).drop sA)
    | _ => false
def zmi (l : List Ai) : Nat → List (List Nat) → List (Nat × List Nat) → List (Nat × List Nat) → List Nat → Nat → List Bool → Prop
  | 0, _, _, _, _, _, _ => False
  | f + 1, after, pre, lin, cl, n, listed => match cl with
    | 0 :: bits => (pre ++ lin).length = n ∧ zgn l after bits (pre ++ lin) listed ∧ ∀ i, i < after.length → linA l after bits i = true
    | 1 :: p :: q :: k :: sA :: mA :: r =>
      (p < after.length ∧ q < after.length ∧ p ≠ q ∧ (∀ i, i < after.length → linA l after (r.take (after.length + after.length)) i = true)) ∧
      (listed.length = after.length ∧ (∀ i, i < after.length → listed.getD i true = true → ∀ j ∈ after.getD i [], listed.getD j false = true) ∧ listed.getD p false = false ∧ listed.getD q false = false) ∧
      (∀ y ∈ pre ++ lin.take k, y.1 ≠ p ∧ y.1 ≠ q) ∧
      (∀ x, x < after.length → listed.getD x true = false → x = p ∨ x = q ∨ (∃ y ∈ pre ++ lin.take k, y.1 = x) ∨ ((r.take (after.length + after.length)).getD x 0).testBit p = true) ∧
      zmi l f (dep after q p) (pre ++ lin.take k) ((lin.drop k).take mA) ((r.drop (after.length + after.length)).take sA) n listed ∧ zmi l f (dep after p q) (pre ++ lin.take k) ((lin.drop k).drop mA) ((r.drop (after.length + after.length)).drop sA) n listed
    | _ => False

theorem zlT {l : List Ai} {after : List (List Nat)} {cl : List Nat} {listed : List Bool} (hA : ∀ i, i < after.length → linA l after cl i = true) (hlen : listed.length = after.length)
    (hdown : ∀ i, i < after.length → listed.getD i true = true → ∀ j ∈ after.getD i [], listed.getD j false = true) :
    ∀ (n i : Nat), rkF after cl i < n → i < after.length → (∀ j ∈ after.getD i [], listed.getD j false = true) → ∀ p, (cl.getD i 0).testBit p = true → listed.getD p false = true
  | 0, i, h, _, _, _, _ => absurd h (Nat.not_lt_zero _)
  | n + 1, i, hn, hi, hd, p, hp => by
    obtain ⟨h1, h2, _⟩ := zem hi (hA i hi)
    obtain ⟨j, hj, hpj⟩ := h2 p hp
    rcases hpj with rfl | hpj
    · exact hd p hj
    · obtain ⟨hjn, hji⟩ := h1 j hj
      exact zlT hA hlen hdown n j (by omega) hjn (hdown j hjn (by rw [ziH hlen hjn true false]; exact hd j hj)) p hpj
theorem tree_front {l : List Ai} {K : zw → List zc → Prop} (hK : FE K) : ∀ (f : Nat) (after : List (List Nat)) (pre1 post1 : List (Nat × List Nat)) (i : Nat) (nd : List Nat) (lin : List (Nat × List Nat)) (cl : List Nat) (n : Nat) (listed : List Bool) (x : Ai) (fr : zw) (σ : List zc),
    zmi l f after (pre1 ++ (i, nd) :: post1) lin cl n listed → i < after.length → listed.getD i true = false → (∀ j ∈ after.getD i [], listed.getD j false = true) → l[i]? = some x → zbe P l (pre1 ++ (i, nd) :: post1) fr σ K →
    aop P x fr σ fun f s => zbe P l (pre1 ++ post1) f s K
  | 0, _, _, _, _, _, _, _, _, _, _, _, _, hT, _, _, _, _, _ => by simp [zmi] at hT
  | f + 1, after, pre1, post1, i, nd, lin, cl, n, listed, x, fr, σ, hT, h1, h2, h3, hx, h => by
    unfold zmi at hT
    split at hT
    · obtain ⟨_, I, hA⟩ := hT
      exact zkj hA (by simpa [List.append_assoc] using I) h1 h2 h3 hx hK h
    · rename_i p q k sA mA r
      obtain ⟨⟨hp, hq, hne, hA⟩, ⟨hlen, hdown, up, uq⟩, hpre, hcov, TA, TB⟩ := hT
      have hi := hpre (i, nd) (by simp)
      have hr := zbq (i := q) (j := p) (zaf.2 ⟨h1, h2, h3⟩) fun e => absurd e hi.2
      obtain ⟨a1, a2, a3⟩ := zaf.1 hr
      rw [List.append_assoc, List.cons_append] at TA
      -- what is told behind it does not matter: a front of the longer list, cut
      have key : ∀ (f : Nat) (after : List (List Nat)) (post2 : List (Nat × List Nat)) (lin : List (Nat × List Nat)) (cl : List Nat), zmi l f after (pre1 ++ (i, nd) :: post2) lin cl n listed → i < after.length → listed.getD i true = false → (∀ j ∈ after.getD i [], listed.getD j false = true) → aop P x fr σ fun f s => zbe P l (pre1 ++ post1) f s K := by
        intro f
        induction f with
        | zero => intro after post2 lin cl hT; simp [zmi] at hT
        | succ f ih =>
          intro after post2 lin cl hT h1 h2 h3
          unfold zmi at hT
          split at hT
          · obtain ⟨_, I, hA⟩ := hT
            exact zkj hA (by simpa [List.append_assoc] using I) h1 h2 h3 hx hK h
          · rename_i p q k sA mA r
            obtain ⟨⟨hp, hq, hne, hA⟩, ⟨hlen, hdown, up, uq⟩, hpre, hcov, TA, TB⟩ := hT
            have hi := hpre (i, nd) (by simp)
            have hr := zbq (i := q) (j := p) (zaf.2 ⟨h1, h2, h3⟩) fun e => absurd e hi.2
            obtain ⟨a1, a2, a3⟩ := zaf.1 hr
            rw [List.append_assoc, List.cons_append] at TA
            exact ih _ _ _ _ TA a1 a2 a3
          · exact hT.elim
      exact key f _ _ _ _ TA a1 a2 a3
    · exact hT.elim
theorem ziX {l : List Ai} : ∀ (f : Nat) (after : List (List Nat)) (pre1 post1 : List (Nat × List Nat)) (i : Nat) (nd : List Nat) (lin : List (Nat × List Nat)) (cl : List Nat) (n : Nat) (listed : List Bool),
    zmi l f after (pre1 ++ (i, nd) :: post1) lin cl (n + 1) listed → i < after.length → listed.getD i true = false → (∀ j ∈ after.getD i [], listed.getD j false = true) → zmi l f after (pre1 ++ post1) lin cl n (listed.set i true)
  | 0, _, _, _, _, _, _, _, _, _, hT, _, _, _ => by simp [zmi] at hT
  | f + 1, after, pre1, post1, i, nd, lin, cl, n, listed, hT, h1, h2, h3 => by
    unfold zmi at hT ⊢
    split at hT
    · rename_i bits
      obtain ⟨e, I, hA⟩ := hT
      have I' : zgn l after bits (pre1 ++ (i, nd) :: (post1 ++ lin)) listed := by simpa [List.append_assoc] using I
      refine ⟨by simp only [List.length_append, List.length_cons] at e ⊢; omega, ?_, hA⟩
      have := I'.step h1 h3
      simpa [List.append_assoc] using this
    · rename_i p q k sA mA r
      obtain ⟨⟨hp, hq, hne, hA⟩, ⟨hlen, hdown, up, uq⟩, hpre, hcov, TA, TB⟩ := hT
      have hi := hpre (i, nd) (by simp)
      have hset : ∀ j d, j ≠ i → (listed.set i true).getD j d = listed.getD j d := fun j d hj => by simp [List.getD, List.getElem?_set_ne (Ne.symm hj)]
      have hseti : ∀ d, (listed.set i true).getD i d = true := fun d => by simp [List.getD, List.getElem?_set, hlen, h1]
      obtain ⟨a1, a2, a3⟩ := zaf.1 (zbq (i := q) (j := p) (zaf.2 ⟨h1, h2, h3⟩) fun e => absurd e hi.2)
      obtain ⟨b1, b2, b3⟩ := zaf.1 (zbq (i := p) (j := q) (zaf.2 ⟨h1, h2, h3⟩) fun e => absurd e hi.1)
      rw [List.append_assoc, List.cons_append] at TA TB
      have SA := ziX f _ _ _ _ _ _ _ _ _ TA a1 a2 a3
      have SB := ziX f _ _ _ _ _ _ _ _ _ TB b1 b2 b3
      rw [← List.append_assoc] at SA SB
      refine ⟨⟨hp, hq, hne, hA⟩, ⟨by rw [List.length_set]; exact hlen, fun x hx hl j hj => ?_, by rw [hset p _ (Ne.symm hi.1)]; exact up, by rw [hset q _ (Ne.symm hi.2)]; exact uq⟩, fun y hy => hpre y ?_, fun x hx hl => ?_, SA, SB⟩
      · have hj' : listed.getD j false = true := by
          by_cases hxi : x = i
          · subst hxi; exact h3 j hj
          · rw [hset x true hxi] at hl
            exact hdown x hx hl j hj
        by_cases hji : j = i
        · subst hji; exact hseti _
        · rw [hset j false hji]; exact hj'
      · rcases List.mem_append.1 hy with hy | hy
        · rcases List.mem_append.1 hy with hy | hy
          · exact List.mem_append_left _ (List.mem_append_left _ hy)
          · exact List.mem_append_left _ (List.mem_append_right _ (List.mem_cons_of_mem _ hy))
        · exact List.mem_append_right _ hy
      · by_cases hxi : x = i
        · subst hxi; rw [hseti] at hl; cases hl
        · rw [hset x true hxi] at hl
          rcases hcov x hx hl with h | h | ⟨y, hy, e⟩ | h
          · exact .inl h
          · exact .inr (.inl h)
          · refine .inr (.inr (.inl ⟨y, ?_, e⟩))
            rcases List.mem_append.1 hy with hy | hy
            · rcases List.mem_append.1 hy with hy | hy
              · exact List.mem_append_left _ (List.mem_append_left _ hy)
              · rcases List.mem_cons.1 hy with rfl | hy
                · exact absurd e.symm hxi
                · exact List.mem_append_left _ (List.mem_append_right _ hy)
            · exact List.mem_append_right _ hy
          · exact .inr (.inr (.inr h))
    · exact hT.elim
theorem ziY {l : List Ai} {K : zw → List zc → Prop} (hK : FE K) : ∀ (f m : Nat) (lin : List (Nat × List Nat)) (cl : List Nat), FE (zgq P l K f m lin cl)
  | 0, _, _, _ => fun _ _ _ _ h => h
  | f + 1, m, lin, cl => fun fr fr' σ he h => by
    unfold zgq at h ⊢
    split at h
    · exact zhR hK _ _ _ _ he h
    · exact zhR (fun a b s e hs => ⟨ziY hK f m _ _ a b s e hs.1, ziY hK f m _ _ a b s e hs.2⟩) _ _ _ _ he h
    · exact h
theorem tree_zero {l : List Ai} : ∀ (f : Nat) (after : List (List Nat)) (pre lin : List (Nat × List Nat)) (cl : List Nat) (listed : List Bool), zmi l f after pre lin cl 0 listed → (∀ x, x < after.length → listed.getD x true = true)
  | 0, _, _, _, _, _, hT => by simp [zmi] at hT
  | f + 1, after, pre, lin, cl, listed, hT => by
    unfold zmi at hT
    split at hT
    · obtain ⟨e, I, _⟩ := hT
      intro x hx
      cases hb : listed.getD x true with
      | true => rfl
      | false =>
        obtain ⟨y, hy, _⟩ := (I.mem x hx).1 hb
        rw [List.length_eq_zero_iff.1 e] at hy; cases hy
    · obtain ⟨_, _, _, _, TA, _⟩ := hT
      intro x hx
      exact tree_zero f _ _ _ _ _ TA x (by rw [zfp]; exact hx)
    · exact hT.elim
theorem znp {l : List Ai} {K : zw → List zc → Prop} (hK : FE K) : ∀ (f : Nat) (after : List (List Nat)) (lin : List (Nat × List Nat)) (cl : List Nat) (n : Nat) (pre : List (Nat × List Nat)) (listed : List Bool) (fr : zw) (σ : List zc),
    zmi l f after pre lin cl n listed → zbe P l pre fr σ (zgq P l K f after.length lin cl) → aany P l after K n listed fr σ
  | 0, _, _, _, _, _, _, _, _, hT, _ => by simp [zmi] at hT
  | f + 1, after, lin, cl, n, pre, listed, fr, σ, hT, h => by
    have hW := ziY (P := P) (l := l) hK (f + 1) after.length lin cl
    have hT0 := hT
    unfold zmi at hT
    split at hT
    · obtain ⟨e, I, hA⟩ := hT
      refine zhq hA hK n _ listed fr σ e I (zet _ _ _ _ (adraw_mono' (fun f s hs => ?_) pre fr σ h))
      unfold zgq at hs
      exact hs
    · rename_i p q k sA mA r
      clear hT
      have hC : ∀ fr σ, zbe P l pre fr σ (zgq P l K (f + 1) after.length lin (1 :: p :: q :: k :: sA :: mA :: r)) → zbe P l (pre ++ lin.take k) fr σ fun f' s => zgq P l K f after.length ((lin.drop k).take mA) ((r.drop (after.length + after.length)).take sA) f' s ∧ zgq P l K f after.length ((lin.drop k).drop mA) ((r.drop (after.length + after.length)).drop sA) f' s := fun fr σ h => by
        refine zet _ _ _ _ (adraw_mono' (fun f' s hs => ?_) pre fr σ h)
        unfold zgq at hs
        exact hs
      have h := hC fr σ h
      clear hC hW
      -- the induction over what is left, with what is told ahead of both
      have go : ∀ (n : Nat) (pre' : List (Nat × List Nat)) (listed : List Bool) (fr : zw) (σ : List zc),
          (p < after.length ∧ q < after.length ∧ p ≠ q ∧ (∀ i, i < after.length → linA l after (r.take (after.length + after.length)) i = true)) →
          (listed.length = after.length ∧ (∀ i, i < after.length → listed.getD i true = true → ∀ j ∈ after.getD i [], listed.getD j false = true) ∧ listed.getD p false = false ∧ listed.getD q false = false) →
          (∀ y ∈ pre', y.1 ≠ p ∧ y.1 ≠ q) → (∀ x, x < after.length → listed.getD x true = false → x = p ∨ x = q ∨ (∃ y ∈ pre', y.1 = x) ∨ ((r.take (after.length + after.length)).getD x 0).testBit p = true) →
          zmi l f (dep after q p) pre' ((lin.drop k).take mA) ((r.drop (after.length + after.length)).take sA) n listed → zmi l f (dep after p q) pre' ((lin.drop k).drop mA) ((r.drop (after.length + after.length)).drop sA) n listed →
          zbe P l pre' fr σ (fun f' s => zgq P l K f after.length ((lin.drop k).take mA) ((r.drop (after.length + after.length)).take sA) f' s ∧ zgq P l K f after.length ((lin.drop k).drop mA) ((r.drop (after.length + after.length)).drop sA) f' s) → aany P l after K n listed fr σ := by
        intro n
        induction n with
        | zero =>
          intro pre' listed fr σ ⟨hp, hq, hne, hA⟩ ⟨hlen, hdown, up, uq⟩ hpre hcov TA TB h
          have := tree_zero f _ _ _ _ _ TA p (by rw [zfp]; exact hp)
          rw [ziH hlen hp true false, up] at this
          cases this
        | succ n ih =>
          intro pre' listed fr σ hs1 hs2 hpre hcov TA TB h
          obtain ⟨hp, hq, hne, hA⟩ := hs1
          obtain ⟨hlen, hdown, up, uq⟩ := hs2
          have AA := znp hK f (dep after q p) _ _ (n + 1) pre' listed fr σ TA (by rw [zfp]; exact adraw_mono' (fun f s hs => hs.1) pre' fr σ h)
          have AB := znp hK f (dep after p q) _ _ (n + 1) pre' listed fr σ TB (by rw [zfp]; exact adraw_mono' (fun f s hs => hs.2) pre' fr σ h)
          refine ⟨fun h0 => AA.1 (nil_dep h0), fun i hi => ?_⟩
          obtain ⟨h1, h2, h3⟩ := zaf.1 hi
          have hset : ∀ d, (listed.set i true).getD i d = true := fun d => by simp [List.getD, List.getElem?_set, hlen, h1]
          by_cases eip : i = p
          · subst eip
            have h4 := AA.2 i (zbq hi fun e => absurd e hne)
            split at h4
            · exact zbu (fun f s hs => zgg n _ f s (hset _) hs) h4
            · exact h4.elim
          by_cases eiq : i = q
          · subst eiq
            have h4 := AB.2 i (zbq hi fun e => absurd e (Ne.symm hne))
            split at h4
            · exact zbu (fun f s hs => zgg n _ f s (hset _) hs) h4
            · exact h4.elim
          have hin : ∃ y ∈ pre', y.1 = i := by
            rcases hcov i h1 h2 with h | h | h | h
            · exact absurd h eip
            · exact absurd h eiq
            · exact h
            · have := zlT hA hlen hdown _ i (Nat.lt_succ_self _) h1 h3 p h
              rw [this] at up; cases up
          obtain ⟨y, hy, e⟩ := hin
          obtain ⟨pre1, post1, rfl⟩ := List.append_of_mem hy
          obtain ⟨i', nd⟩ := y
          simp only at e
          subst e
          obtain ⟨a1, a2, a3⟩ := zaf.1 (zbq (i := q) (j := p) hi fun e => absurd e eiq)
          obtain ⟨b1, b2, b3⟩ := zaf.1 (zbq (i := p) (j := q) hi fun e => absurd e eip)
          obtain ⟨_, _, x, hxl, _⟩ := zem h1 (hA i' h1)
          have hex := tree_front (P := P) (K := fun f' s => zgq P l K f after.length ((lin.drop k).take mA) ((r.drop (after.length + after.length)).take sA) f' s ∧ zgq P l K f after.length ((lin.drop k).drop mA) ((r.drop (after.length + after.length)).drop sA) f' s)
            (fun a b s e hs => ⟨ziY hK f _ _ _ a b s e hs.1, ziY hK f _ _ _ a b s e hs.2⟩) f _ _ _ _ _ _ _ _ _ x fr σ TA a1 a2 a3 hxl h
          simp only [hxl]
          have hset' : ∀ j d, j ≠ i' → (listed.set i' true).getD j d = listed.getD j d := fun j d hj => by simp [List.getD, List.getElem?_set_ne (Ne.symm hj)]
          refine zbu (fun f s hs => ih (pre1 ++ post1) (listed.set i' true) f s ⟨hp, hq, hne, hA⟩ ⟨by rw [List.length_set]; exact hlen, fun x hx hl j hj => ?_, by rw [hset' p _ (Ne.symm eip)]; exact up, by rw [hset' q _ (Ne.symm eiq)]; exact uq⟩ (fun y hy => hpre y ?_) (fun x hx hl => ?_) (ziX _ _ _ _ _ _ _ _ _ _ TA a1 a2 a3) (ziX _ _ _ _ _ _ _ _ _ _ TB b1 b2 b3) hs) hex
          · have hj' : listed.getD j false = true := by
              by_cases hxi : x = i'
              · subst hxi; exact h3 j hj
              · rw [hset' x true hxi] at hl
                exact hdown x hx hl j hj
            by_cases hji : j = i'
            · subst hji; exact hset _
            · rw [hset' j false hji]; exact hj'
          · rcases List.mem_append.1 hy with hy | hy
            · exact List.mem_append_left _ hy
            · exact List.mem_append_right _ (List.mem_cons_of_mem _ hy)
          · by_cases hxi : x = i'
            · subst hxi; rw [hset] at hl; cases hl
            · rw [hset' x true hxi] at hl
              rcases hcov x hx hl with h | h | ⟨y, hy, e⟩ | h
              · exact .inl h
              · exact .inr (.inl h)
              · refine .inr (.inr (.inl ⟨y, ?_, e⟩))
                rcases List.mem_append.1 hy with hy | hy
                · exact List.mem_append_left _ hy
                · rcases List.mem_cons.1 hy with rfl | hy
                  · exact absurd e.symm hxi
                  · exact List.mem_append_right _ hy
              · exact .inr (.inr (.inr h))
      unfold zmi at hT0
      obtain ⟨s1, s2, s3, s4, s5, s6⟩ := hT0
      exact go n _ listed fr σ s1 s2 s3 s4 s5 s6 h
    · exact hT.elim
theorem zlf {l : List Ai} : ∀ (f : Nat) (after : List (List Nat)) (pre lin : List (Nat × List Nat)) (cl : List Nat), treeC l f after pre lin cl = true → zmi l f after pre lin cl after.length (List.replicate after.length false)
  | 0, _, _, _, _, h => by simp [treeC] at h
  | f + 1, after, pre, lin, cl, h => by
    unfold treeC at h
    unfold zmi
    split at h
    · exact zlD h
    · rename_i p q k sA mA r
      simp only [Bool.and_eq_true, decide_eq_true_eq, Bool.not_eq_true', beq_eq_false_iff_ne, List.all_eq_true, List.mem_range, Bool.or_eq_true, beq_iff_eq, List.contains_eq_mem, List.mem_map] at h
      obtain ⟨⟨⟨⟨⟨⟨⟨hp, hq⟩, hne⟩, hA⟩, hpre⟩, hcov⟩, hTA⟩, hTB⟩ := h
      have TA := zlf f _ _ _ _ hTA
      have TB := zlf f _ _ _ _ hTB
      rw [zfp] at TA TB
      refine ⟨⟨hp, hq, hne, hA⟩, ⟨by simp, fun i hi e => ?_, by simp [List.getD, hp], by simp [List.getD, hq]⟩, hpre, fun x hx _ => ?_, TA, TB⟩
      · simp [List.getD, hi] at e
      · rcases hcov x hx with ((h | h) | h) | h
        · exact .inl h
        · exact .inr (.inl h)
        · exact .inr (.inr (.inl h))
        · exact .inr (.inr (.inr h))
    · cases h
theorem treeC_any {l : List Ai} {after : List (List Nat)} {lin : List (Nat × List Nat)} {cl : List Nat} {f : Nat} (h : treeC l f after [] lin cl = true) {K : zw → List zc → Prop} (hK : FE K) {fr : zw} {σ : List zc}
    (hd : zgq P l K f after.length lin cl fr σ) : aany P l after K after.length (List.replicate after.length false) fr σ :=
  znp hK f after lin cl after.length [] _ fr σ (zlf f after [] lin cl h) hd

def zmW (n : Nat) (fr : zw) : Prop := ∀ p ∈ fr, p.1 < n
theorem zej {l : List Ai} {n : Nat} (hl : ∀ x ∈ l, ∀ d, x.dst = some d → d < n) {K : zw → List zc → Prop} : ∀ (lin : List (Nat × List Nat)) (fr : zw) (σ : List zc), zmW n fr → zbe P l lin fr σ K → zbe P l lin fr σ fun f s => zmW n f ∧ K f s
  | [], fr, σ, hf, h => ⟨hf, h⟩
  | (i, nd) :: r, fr, σ, hf, h => by
    unfold zbe at *
    split at h
    · rename_i x hx
      refine zkY (fun _ _ => rfl) (fun u s hs => ?_) h
      rw [zfj] at hs ⊢
      refine ⟨hs.1, zej hl r _ s (fun p hp => ?_) hs.2⟩
      unfold aput at hp
      split at hp
      · rename_i d hd
        rcases List.mem_cons.1 hp with rfl | hp
        · exact hl x (List.mem_of_getElem? hx) d hd
        · exact hf p hp
      · exact hf p hp
    · exact h
theorem zei {l : List Ai} {K K' : zw → List zc → Prop} (hk : ∀ f s, K f s → K' f s) : ∀ (lin : List (Nat × List Nat)) (fr : zw) (σ : List zc), zbe P l lin fr σ K → zbe P l lin fr σ K'
  | [], fr, σ, h => hk _ _ h
  | (i, nd) :: r, fr, σ, h => by
    unfold zbe at *
    split at h
    · refine zbu (fun f s hs => ?_) h
      rw [zfj] at hs ⊢
      exact ⟨hs.1, zei hk r _ s hs.2⟩
    · exact h
theorem zjP {l : List Ai} {n : Nat} (hl : ∀ x ∈ l, ∀ d, x.dst = some d → d < n) {K K' : zw → List zc → Prop} (hk : ∀ f s, zmW n f → K f s → K' f s) : ∀ (f m : Nat) (lin : List (Nat × List Nat)) (cl : List Nat) (fr : zw) (σ : List zc), zmW n fr → zgq P l K f m lin cl fr σ → zgq P l K' f m lin cl fr σ
  | 0, _, _, _, _, _, _, h => h
  | f + 1, m, lin, cl, fr, σ, hf, h => by
    unfold zgq at h ⊢
    split at h
    · exact zei (fun f s hh => hk f s hh.1 hh.2) _ fr σ (zej hl _ fr σ hf h)
    · exact zei (fun g s hh => ⟨zjP hl hk f m _ _ g s hh.1 hh.2.1, zjP hl hk f m _ _ g s hh.1 hh.2.2⟩) _ fr σ (zej hl _ fr σ hf h)
    · exact h
inductive Ex where
  | normal
  | exit (id : Nat)
  | ret

def awp (P : Program) : AC → (Ex → zw → List zc → Prop) → zw → List zc → Prop
  | .skip, Q, fr, σ => Q .normal fr σ
  | .ops l, Q, fr, σ => aops P l fr σ (Q .normal)
  | .draw l after lin cl, Q, fr, σ => match linOk l after lin cl with
    | true => zbe P l lin fr σ (Q .normal)
    | false => match twoOk l after lin cl with
      | true => zbe P l (lin.take (twoK cl)) fr σ fun f s => zbe P l ((lin.take after.length).drop (twoK cl)) f s (Q .normal) ∧ zbe P l (lin.drop after.length) f s (Q .normal)
      | false => match treeC l 12 after [] lin (cl.drop 1) with
        | true => zgq P l (Q .normal) 12 after.length lin (cl.drop 1) fr σ
        | false => False
  | .seq a b, Q, fr, σ => awp P a (fun | .normal, fr', σ' => awp P b Q fr' σ' | e, fr', σ' => Q e fr' σ') fr σ
  | .cond c a b, Q, fr, σ => zy (ev fr c) (awp P a Q fr σ) (awp P b Q fr σ)
  | .block id a, Q, fr, σ => awp P a (fun | .exit id', fr', σ' => if id' = id then Q .normal fr' σ' else Q (.exit id') fr' σ' | e, fr', σ' => Q e fr' σ') fr σ
  | .loop lv dd a, Q, fr, σ => zcO (lv.map (zdw fr)) σ fun vs σ' again =>
      awp P a (fun | .normal, f, s => again (lv.map (zdw f)) s | e, f, s => Q e f s) (setS (kill fr dd) lv vs) σ'
  | .rangeF g ps a b, Q, fr, σ => zjT P (ev fr g) ps.length σ (fun x s id r0 rb next =>
      awp P a (fun | .normal, f, s1 => s1[id]? = some r0 ∧ awp P b (fun | .normal, _, s2 => s2[id]? = some rb ∧ next (s2.set id r0) | _, _, _ => False) f (s1.set id rb) | _, _, _ => False) (putF fr ps x) s) fun s => Q .normal fr s
  | .exit id, Q, fr, σ => Q (.exit id) fr σ
  | .ret, Q, fr, σ => Q .ret fr σ

end Go.AW

/- What an operation does, against the model: arithmetic and comparisons, conversions, indexes and parts. -/
import Derived.Test.YtahbjkanmagndaaAwSnd2
import Derived.WalkSpells
import Derived.Laws.StructEq
import Derived.Laws.Slices
import Derived.Laws.Strings2
import Derived.Laws.IdiomStrings
set_option linter.all false
set_option linter.unusedSimpArgs false
set_option linter.unusedVariables false
namespace Go.AW
section
variable {P : Program} {o : Oper} {i : I} {fr : Frame} {σ : List AObj} {K : AV → List AObj → Prop} {L : Nat → Loc} {w : World} {a : Act}

theorem ba_toList (l : List UInt8) : (ByteArray.mk l.toArray).toList = l := ByteArray.toList_mk l

theorem run_binInt {op : BinOp} {t : TypeId} {k k' : IntKind} {x y : Int} (h : binA op .plain (.d (.int k x)) (.d (.int k' y)) (fun a => K a σ)) :
    ∃ d, (∀ w, (binOp op t (.int k x) (.int k' y)).run P w = .ok d w ∧ ∃ r, RD w (Own L σ) r d ∧ K (.d r) σ) := by
  simp only [binA] at h
  cases op <;> simp only [intOp] at h <;>
    first
      | (obtain ⟨rfl, h0, h⟩ := h
         refine ⟨_, fun w => ⟨?_, _, .int _ _, h⟩⟩
         simp [binOp, Op.intDiv, h0]; done)
      | (obtain ⟨rfl, h⟩ := h
         refine ⟨_, fun w => ⟨?_, _, .int _ _, h⟩⟩
         simp [binOp, Op.intArith, Op.intBits]; done)
      | (obtain ⟨rfl, h⟩ := h
         refine ⟨_, fun w => ⟨?_, _, .bool _, h⟩⟩
         simp [binOp, Op.intCmp]; done)
      | (obtain ⟨h0, h⟩ := h
         refine ⟨_, fun w => ⟨?_, _, .int _ _, h⟩⟩
         simp [binOp, Op.shift, Int.not_lt.2 h0]; done)
      | exact h.2.elim

theorem run_binStr {op : BinOp} {t : TypeId} {x y : List UInt8} (h : binA op .plain (.d (.str x)) (.d (.str y)) (fun a => K a σ)) :
    ∃ d, (∀ w, (binOp op t (.string ⟨x.toArray⟩) (.string ⟨y.toArray⟩)).run P w = .ok d w ∧ ∃ r, RD w (Own L σ) r d ∧ K (.d r) σ) := by
  simp only [binA] at h
  cases op <;> simp only [strOp] at h <;>
    first
      | (obtain ⟨h0, h⟩ := h
         refine ⟨.string ⟨(x ++ y).toArray⟩, fun w => ⟨?_, _, .str _, h⟩⟩
         have e : (ByteArray.mk x.toArray ++ ByteArray.mk y.toArray) = ⟨(x ++ y).toArray⟩ := by
           apply ByteArray.ext; simp
         have e2 : ¬ ((((ByteArray.mk x.toArray).size + (ByteArray.mk y.toArray).size : Nat) : Int) > IntKind.i64.max) := by
           have e3 : (ByteArray.mk x.toArray).size = x.length := by simp [ByteArray.size]
           have e4 : (ByteArray.mk y.toArray).size = y.length := by simp [ByteArray.size]
           rw [e3, e4, IntKind.max_i64]; omega
         simp only [binOp, Op.stringOp]
         rw [if_neg e2, e]; rfl)
      | (refine ⟨_, fun w => ⟨?_, _, .bool _, h⟩⟩
         simp [binOp, Op.stringOp]; done)
      | exact h.elim

theorem intsB_spec {t : TypeId} {n : Nat} (h : intsB P t = some n) : ∃ fs i, P.underlying t = some (.struct fs) ∧ P.stoodInHeld t = false ∧ P.eqGuardType P.depth t = false ∧ fs.size = n ∧ P.info? t = some i ∧ i.size = fs.size ∧
    ∀ (k : Nat) f, fs[k]? = some f → f.name ≠ "_" ∧ f.offset = k ∧ ∃ q, P.underlying f.type = some (.int q) := by
  unfold intsB at h
  split at h
  · rename_i fs hfs
    simp only [Option.ite_none_right_eq_some, Option.some.injEq] at h
    obtain ⟨hall, rfl⟩ := h
    simp only [intsOk, Bool.and_eq_true, Bool.not_eq_true'] at hall
    obtain ⟨⟨⟨h1, h2⟩, h3⟩, h4⟩ := hall
    unfold sizeIs at h3
    split at h3
    · rename_i i hi
      refine ⟨fs, i, hfs, h1, h2, rfl, hi, by simpa using h3, fun k f hk => ?_⟩
      have := List.all_eq_true.1 h4 (f, k) (by rw [List.mem_iff_getElem?]; exact ⟨k, by simp [List.getElem?_zipIdx, hk]⟩)
      simp only [Bool.and_eq_true, bne_iff_ne, ne_eq, beq_iff_eq] at this
      refine ⟨this.1.1, this.1.2, ?_⟩
      have h3 := this.2
      unfold intT at h3
      split at h3
      · rename_i q hq; exact ⟨q, hq⟩
      · cases h3
    · cases h3
  · cases h

theorem bin_eql (t : TypeId) (b : Option Addr) (y : Value) (hy : ∀ k n, y ≠ .int k n) : binOp .eql t (.pointer b) y = (do pure (.bool (← Op.equal t (.pointer b) y))) := by
  cases y <;> first | rfl | exact absurd rfl (hy _ _)
theorem bin_neq (t : TypeId) (b : Option Addr) (y : Value) (hy : ∀ k n, y ≠ .int k n) : binOp .neq t (.pointer b) y = (do pure (.bool (!(← Op.equal t (.pointer b) y)))) := by
  cases y <;> first | rfl | exact absurd rfl (hy _ _)
theorem bin_eqlB (t : TypeId) (b c : Bool) : binOp .eql t (.bool b) (.bool c) = (do pure (.bool (← Op.equal t (.bool b) (.bool c)))) := rfl
theorem bin_neqB (t : TypeId) (b c : Bool) : binOp .neq t (.bool b) (.bool c) = (do pure (.bool (!(← Op.equal t (.bool b) (.bool c))))) := rfl
theorem run_equal_bool {t : TypeId} (ht : P.underlying t = some .bool) (b c : Bool) (w : World) : (Op.equal t (.bool b) (.bool c)).run P w = .ok (b == c) w := run_equalIn_bool' w 9999 t b c ht
theorem equalIn_nilR {t s : TypeId} (ht : P.underlying t = some (.pointer s)) (b : Option Addr) (d : Nat) (w : World) : (Op.equalIn (d + 1) t (.pointer b) (.pointer none)).run P w = .ok b.isNone w := by
  cases b <;> simp [Op.equalIn, run_underlying ht]
theorem equalIn_nilL {t s : TypeId} (ht : P.underlying t = some (.pointer s)) (b : Option Addr) (d : Nat) (w : World) : (Op.equalIn (d + 1) t (.pointer none) (.pointer b)).run P w = .ok b.isNone w := by
  cases b <;> simp [Op.equalIn, run_underlying ht]
theorem run_equal_nilR {t s : TypeId} (ht : P.underlying t = some (.pointer s)) (b : Option Addr) (w : World) : (Op.equal t (.pointer b) (.pointer none)).run P w = .ok b.isNone w := equalIn_nilR ht b 9999 w
theorem run_equal_nilL {t s : TypeId} (ht : P.underlying t = some (.pointer s)) (b : Option Addr) (w : World) : (Op.equal t (.pointer none) (.pointer b)).run P w = .ok b.isNone w := equalIn_nilL ht b 9999 w

theorem intsEq_cons {x y : AV} {xs ys : List AV} {r : Bool} (h : intsEq (x :: xs) (y :: ys) = some r) : ∃ k a b r', x = .d (.int k a) ∧ y = .d (.int k b) ∧ intsEq xs ys = some r' ∧ r = ((a == b) && r') := by
  unfold intsEq at h
  split at h
  · rename_i e1 e2; cases e1
  · rename_i k a rr k' b ss e1 e2
    cases e1; cases e2
    split at h
    · rename_i hk; subst hk
      simp only [Option.map_eq_some_iff] at h
      obtain ⟨r', h1, h2⟩ := h
      exact ⟨k, a, b, r', rfl, rfl, h1, h2.symm⟩
    · cases h
  · cases h

theorem eqFields_ints (d : Nat) : ∀ (l : List Field) (s : Nat) (xs ys : List AV) (us vs : List Value) (r : Bool), (∀ (k : Nat) f, l[k]? = some f → f.name ≠ "_" ∧ f.offset = s + k ∧ ∃ q, P.underlying f.type = some (.int q)) →
    xs.length = l.length → RVs w L σ xs (us.drop s) → RVs w L σ ys (vs.drop s) → intsEq xs ys = some r → (Op.eqFields (d + 1) us.toArray vs.toArray l).run P w = .ok r w
  | [], s, xs, ys, us, vs, r, _, hl, _, _, hr => by
    have : xs = [] := by simpa using hl
    subst this
    cases ys with
    | nil => simp [intsEq] at hr; subst hr; simp [Op.eqFields]
    | cons y ys => simp [intsEq] at hr
  | f :: l, s, xs, ys, us, vs, r, hf, hl, hx, hy, hr => by
    cases xs with
    | nil => simp at hl
    | cons x xs =>
    cases ys with
    | nil => simp [intsEq] at hr
    | cons y ys =>
    obtain ⟨k, a, b, r', rfl, rfl, hr', rfl⟩ := intsEq_cons hr
    obtain ⟨hn, ho, q, hq⟩ := hf 0 f rfl
    have hu : us[s]? = some (.int k a) := by
      have h1 := hx.1; simp at h1
      have h2 : us[s]? = some (us[s]'(by omega)) := List.getElem?_eq_getElem _
      have := hx.2 0 _ (us[s]'(by omega)) rfl (by simp [List.getElem?_drop, h2])
      rw [h2, this.int_inv]
    have hv : vs[s]? = some (.int k b) := by
      have h1 := hy.1; simp at h1
      have h2 : vs[s]? = some (vs[s]'(by omega)) := List.getElem?_eq_getElem _
      have := hy.2 0 _ (vs[s]'(by omega)) rfl (by simp [List.getElem?_drop, h2])
      rw [h2, this.int_inv]
    have hag : aggB P f.type = some false := by simp [aggB, hq]
    have p1 : (part f.type us.toArray f.offset).run P w = .ok (.int k a) w := by simp [part, run_agg hag, ho, hu]
    have p2 : (part f.type vs.toArray f.offset).run P w = .ok (.int k b) w := by simp [part, run_agg hag, ho, hv]
    have ih := eqFields_ints d l (s + 1) xs ys us vs r' (fun j g hj => by have := hf (j + 1) g hj; exact ⟨this.1, by rw [this.2.1]; omega, this.2.2⟩) (by simpa using hl)
      ⟨by have := hx.1; simp at this ⊢; omega, fun j c u hc hu => hx.2 (j + 1) c u hc (by rw [List.getElem?_drop] at hu ⊢; rw [← hu]; congr 1; omega)⟩
      ⟨by have := hy.1; simp at this ⊢; omega, fun j c u hc hu => hy.2 (j + 1) c u hc (by rw [List.getElem?_drop] at hu ⊢; rw [← hu]; congr 1; omega)⟩ hr'
    simp only [Op.eqFields, if_pos hn, Sem.run_bind, p1, p2, Result.andThen_ok, run_equalIn_int w d f.type k q a b hq]
    cases hab : a == b
    · simp
    · simpa using ih

theorem snd_bin (S : Sim L σ w) (F : FR w L σ fr a.tmps) {op : BinOp} {t u : TypeId} {e : EK} {x y : Operand} {x' y' : Opd} (he : ekOf P op t = some e) (hx : opd x = some x') (hy : opd y = some y') (ho : o.op = .binOp op t x y u)
    (h : astep P (.bin op e x' y') fr σ K) : Yields1 P o a L σ w K := by
  simp only [astep] at h
  have hv := ev_sound F hx
  have hu := ev_sound F hy
  have fin : ∀ {d r}, (eqGuard op t x y (a.eval x) (a.eval y)).run P w = .ok () w → (binOp op t (a.eval x) (a.eval y)).run P w = .ok d w → RD w (Own L σ) r d → K (.d r) σ → Yields1 P o a L σ w K := fun {d r} h0 h1 h2 h3 =>
    .same S (r := .d r) (v := d) (by simp [execOp, ho, h0, h1]) (.d _ _ h2) h3
  generalize hX : ev fr x' = X at h hv
  generalize hY : ev fr y' = Y at h hu
  unfold binA at h
  split at h
  · rename_i k p k' q
    have e1 := hv.int_inv
    have e2 := hu.int_inv
    obtain ⟨d, hd⟩ := run_binInt (P := P) (L := L) (t := t) (K := K) (σ := σ) (op := op) (k := k) (k' := k') (x := p) (y := q) (by simpa only [binA] using h)
    obtain ⟨h1, r, h2, h3⟩ := hd w
    exact fin (by rw [e1, eqGuard_at_int]; simp) (by rw [e1, e2]; exact h1) h2 h3
  · rename_i p q
    have e1 := hv.str_inv
    have e2 := hu.str_inv
    obtain ⟨d, hd⟩ := run_binStr (P := P) (L := L) (t := t) (K := K) (σ := σ) (op := op) (x := p) (y := q) (by simpa only [binA] using h)
    obtain ⟨h1, r, h2, h3⟩ := hd w
    exact fin (by rw [e1, eqGuard_at_string]; simp) (by rw [e1, e2]; exact h1) h2 h3
  · rename_i p q
    have e1 := hv.bool_inv
    have e2 := hu.bool_inv
    have ht : P.underlying t = some .bool := by
      unfold ekOf at he
      cases op <;> simp only at he <;> first | (cases he; done) | (split at he <;> first | (cases he; done) | assumption | (simp at he; done))
    split at h
    · exact fin (d := .bool (p == q)) (by rw [e1, eqGuard_at_bool]; simp) (by rw [e1, e2]; simp [bin_eqlB, bin_neqB, run_equal_bool ht]) (.bool _) h
    · exact fin (d := .bool (!(p == q))) (by rw [e1, eqGuard_at_bool]; simp) (by rw [e1, e2]; simp [bin_eqlB, bin_neqB, run_equal_bool ht]) (.bool _) h
    · exact h.elim
  · rename_i id off
    obtain ⟨e1, _⟩ := hv.box_inv
    have e2 := hu.nilp_inv
    have ⟨s, ht⟩ : ∃ s, P.underlying t = some (.pointer s) := by
      unfold ekOf at he
      cases op <;> simp only at he <;> first | (cases he; done) | (split at he <;> first | (cases he; done) | exact ⟨_, by assumption⟩ | (simp at he; done))
    split at h
    · exact fin (d := .bool false) (by rw [e1, eqGuard_at_pointer]; simp) (by rw [e1, e2]; simp [bin_eql, bin_neq, run_equal_nilR ht]) (.bool _) h
    · exact fin (d := .bool true) (by rw [e1, eqGuard_at_pointer]; simp) (by rw [e1, e2]; simp [bin_eql, bin_neq, run_equal_nilR ht]) (.bool _) h
    · exact h.elim
  · rename_i id off
    have e1 := hv.nilp_inv
    obtain ⟨e2, _⟩ := hu.box_inv
    have ⟨s, ht⟩ : ∃ s, P.underlying t = some (.pointer s) := by
      unfold ekOf at he
      cases op <;> simp only at he <;> first | (cases he; done) | (split at he <;> first | (cases he; done) | exact ⟨_, by assumption⟩ | (simp at he; done))
    split at h
    · exact fin (d := .bool false) (by rw [e1, eqGuard_at_pointer]; simp) (by rw [e1, e2]; simp [bin_eql, bin_neq, run_equal_nilL ht]) (.bool _) h
    · exact fin (d := .bool true) (by rw [e1, eqGuard_at_pointer]; simp) (by rw [e1, e2]; simp [bin_eql, bin_neq, run_equal_nilL ht]) (.bool _) h
    · exact h.elim
  · have e1 := hv.nilp_inv
    have e2 := hu.nilp_inv
    have ⟨s, ht⟩ : ∃ s, P.underlying t = some (.pointer s) := by
      unfold ekOf at he
      cases op <;> simp only at he <;> first | (cases he; done) | (split at he <;> first | (cases he; done) | exact ⟨_, by assumption⟩ | (simp at he; done))
    split at h
    · exact fin (d := .bool true) (by rw [e1, eqGuard_at_pointer]; simp) (by rw [e1, e2]; simp [bin_eql, bin_neq, run_equal_nilL ht]) (.bool _) h
    · exact fin (d := .bool false) (by rw [e1, eqGuard_at_pointer]; simp) (by rw [e1, e2]; simp [bin_eql, bin_neq, run_equal_nilL ht]) (.bool _) h
    · exact h.elim
  · rename_i id
    have hX1 : a.eval x = .map (some (L id).a.block) := hv.map_inv.1
    have hY1 := hu.nilmap_inv
    have ⟨s, s', ht⟩ : ∃ s s', P.underlying t = some (.map s s') := by
      unfold ekOf at he
      cases op <;> simp only at he <;> first | (cases he; done) | (split at he <;> first | (cases he; done) | exact ⟨_, _, by assumption⟩ | (simp at he; done))
    split at h
    · exact fin (d := .bool false) (by rw [hX1, eqGuard_at_map]; simp) (by rw [hX1, hY1]; exact run_eql_map_nil w t s s' _ ht) (.bool _) h
    · exact fin (d := .bool true) (by rw [hX1, eqGuard_at_map]; simp) (by rw [hX1, hY1]; exact run_neq_map_nil w t s s' _ ht) (.bool _) h
    · exact h.elim
  · have hX1 := hv.nilmap_inv
    have hY1 := hu.nilmap_inv
    have ⟨s, s', ht⟩ : ∃ s s', P.underlying t = some (.map s s') := by
      unfold ekOf at he
      cases op <;> simp only at he <;> first | (cases he; done) | (split at he <;> first | (cases he; done) | exact ⟨_, _, by assumption⟩ | (simp at he; done))
    split at h
    · exact fin (d := .bool true) (by rw [hX1, eqGuard_at_map]; simp) (by rw [hX1, hY1]; exact run_eql_map_nil w t s s' _ ht) (.bool _) h
    · exact fin (d := .bool false) (by rw [hX1, eqGuard_at_map]; simp) (by rw [hX1, hY1]; exact run_neq_map_nil w t s s' _ ht) (.bool _) h
    · exact h.elim
  · rename_i n xs ys
    obtain ⟨us, e1, r1⟩ := hv.agg_inv
    obtain ⟨vs, e2, r2⟩ := hu.agg_inv
    obtain ⟨hn, h⟩ := h
    have ht : intsB P t = some n := by
      unfold ekOf at he
      cases op <;> simp only at he <;> first | (cases he; done) | (split at he <;> first | (cases he; done) | (simpa using he))
    obtain ⟨fs, inf, hu1, hu2, hu3, hu4, hu5, hu6, hu7⟩ := intsB_spec ht
    have hfo : P.fieldsOf t = fs := by simp [Program.fieldsOf, hu1]
    split at h
    · rename_i r hr
      have hrun : (Op.equalIn 10000 t (.agg us.toArray) (.agg vs.toArray)).run P w = .ok r w := by
        rw [run_equalIn_agg w 9999 t _ _ (by rw [hfo]; exact hu1) hu2, hfo]
        exact eqFields_ints 9998 fs.toList 0 xs ys us vs r (fun k f hk => by have := hu7 k f (by simpa using hk); exact ⟨this.1, by rw [this.2.1]; omega, this.2.2⟩) (by rw [hn, ← hu4]; simp) (by simpa using r1) (by simpa using r2) hr
      split at h
      · exact fin (d := .bool r) (by rw [e1, e2]; exact run_eqGuard_agg w _ t x y _ _ hu3) (by rw [e1, e2, run_eql_struct, hrun]; rfl) (.bool _) h
      · exact fin (d := .bool (!r)) (by rw [e1, e2]; exact run_eqGuard_agg w _ t x y _ _ hu3) (by rw [e1, e2, run_neq_struct, hrun]; rfl) (.bool _) h
      · exact h.elim
    · exact h.elim
  · exact h.elim
end
end Go.AW

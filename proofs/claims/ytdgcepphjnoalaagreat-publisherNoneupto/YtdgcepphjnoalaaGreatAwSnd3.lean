/- What an operation does, against the model: arithmetic and comparisons, conversions, indexes and parts. -/
import Derived.Test.YtdgcepphjnoalaaGreatAwBase
import Derived.WalkSpells
import Derived.Laws.StructEq
import Derived.Laws.Slices
import Derived.Laws.Strings2
import Derived.Laws.IdiomStrings
import Derived.Laws.BytesArg
import Derived.Laws.Tables
import Derived.Laws.RangeAny
import Derived.Laws.RangeString
import Derived.Laws.Append
import Derived.Laws.AppendOwn
set_option linter.all false
set_option linter.unusedSimpArgs false
set_option linter.unusedVariables false
namespace Go.AW
section
variable {P : Program} {o : Oper} {i : I} {fr : zE} {σ : List zc} {K : AV → List zc → Prop} {L : Nat → Loc} {w : World} {a : Act}

theorem ba_toList (l : List UInt8) : (ByteArray.mk l.toArray).toList = l := ByteArray.toList_mk l

theorem run_binInt {op : BinOp} {t : TypeId} {k k' : IntKind} {x y : Int} (h : zen op .plain (.d (.int k x)) (.d (.int k' y)) (fun a => K a σ)) :
    ∃ d, (∀ w, (binOp op t (.int k x) (.int k' y)).run P w = .ok d w ∧ ∃ r, RD w (Own L σ) r d ∧ K (.d r) σ) := by
  simp only [zen] at h
  cases op <;> simp only [zbP] at h <;>
    first
      | (obtain ⟨rfl, h0, h⟩ := h
         refine ⟨_, fun w => ⟨?_, _, .int _ _, h⟩⟩
         simp [binOp, Op.intDiv, h0]; done)
      | (obtain ⟨rfl, h⟩ := h
         refine ⟨_, fun w => ⟨?_, _, .int _ _, h⟩⟩
         simp [binOp, Op.intArith, Op.intBits]; done)
      | (obtain ⟨rfl, h⟩ := h
         refine ⟨_, fun w => ⟨?_, _, .bool _, h⟩⟩
         simp [binOp, Op.intCmp]; done)
      | (obtain ⟨h0, h⟩ := h
         refine ⟨_, fun w => ⟨?_, _, .int _ _, h⟩⟩
         simp [binOp, Op.shift, Int.not_lt.2 h0]; done)
      | exact h.2.elim

theorem run_binStr {op : BinOp} {t : TypeId} {x y : List UInt8} (h : zen op .plain (.d (.str x)) (.d (.str y)) (fun a => K a σ)) :
    ∃ d, (∀ w, (binOp op t (.string ⟨x.toArray⟩) (.string ⟨y.toArray⟩)).run P w = .ok d w ∧ ∃ r, RD w (Own L σ) r d ∧ K (.d r) σ) := by
  simp only [zen] at h
  cases op <;> simp only [zbL] at h <;>
    first
      | (obtain ⟨h0, h⟩ := h
         refine ⟨.string ⟨(x ++ y).toArray⟩, fun w => ⟨?_, _, .str _, h⟩⟩
         have e : (ByteArray.mk x.toArray ++ ByteArray.mk y.toArray) = ⟨(x ++ y).toArray⟩ := by
           apply ByteArray.ext; simp
         have e2 : ¬ ((((ByteArray.mk x.toArray).size + (ByteArray.mk y.toArray).size : Nat) : Int) > IntKind.i64.max) := by
           have e3 : (ByteArray.mk x.toArray).size = x.length := by simp [ByteArray.size]
           have e4 : (ByteArray.mk y.toArray).size = y.length := by simp [ByteArray.size]
           rw [e3, e4, IntKind.max_i64]; omega
         simp only [binOp, Op.stringOp]
         rw [if_neg e2, e]; rfl)
      | (refine ⟨_, fun w => ⟨?_, _, .bool _, h⟩⟩
         simp [binOp, Op.stringOp]; done)
      | exact h.elim

theorem zjO {t : TypeId} {n : Nat} (h : zpj P t = some n) : ∃ fs i, P.underlying t = some (.struct fs) ∧ P.stoodInHeld t = false ∧ P.eqGuardType P.depth t = false ∧ fs.size = n ∧ P.info? t = some i ∧ i.size = fs.size ∧
    ∀ (k : Nat) f, fs[k]? = some f → f.name ≠ "_" ∧ f.offset = k ∧ ∃ q, P.underlying f.type = some (.int q) := by
  unfold zpj at h
  split at h
  · rename_i fs hfs
    simp only [Option.ite_none_right_eq_some, Option.some.injEq] at h
    obtain ⟨hall, rfl⟩ := h
    simp only [intsOk, Bool.and_eq_true, Bool.not_eq_true'] at hall
    obtain ⟨⟨⟨h1, h2⟩, h3⟩, h4⟩ := hall
    unfold sizeIs at h3
    split at h3
    · rename_i i hi
      refine ⟨fs, i, hfs, h1, h2, rfl, hi, by simpa using h3, fun k f hk => ?_⟩
      have := List.all_eq_true.1 h4 (f, k) (by rw [List.mem_iff_getElem?]; exact ⟨k, by simp [List.getElem?_zipIdx, hk]⟩)
      simp only [Bool.and_eq_true, bne_iff_ne, ne_eq, beq_iff_eq] at this
      refine ⟨this.1.1, this.1.2, ?_⟩
      have h3 := this.2
      unfold intT at h3
      split at h3
      · rename_i q hq; exact ⟨q, hq⟩
      · cases h3
    · cases h3
  · cases h

theorem zmD (t : TypeId) (b : Option Addr) (y : Value) (hy : ∀ k n, y ≠ .int k n) : binOp .eql t (.pointer b) y = (do pure (.bool (← Op.equal t (.pointer b) y))) := by
  cases y <;> first | rfl | exact absurd rfl (hy _ _)
theorem zmC (t : TypeId) (b : Option Addr) (y : Value) (hy : ∀ k n, y ≠ .int k n) : binOp .neq t (.pointer b) y = (do pure (.bool (!(← Op.equal t (.pointer b) y)))) := by
  cases y <;> first | rfl | exact absurd rfl (hy _ _)
theorem bin_eqlB (t : TypeId) (b c : Bool) : binOp .eql t (.bool b) (.bool c) = (do pure (.bool (← Op.equal t (.bool b) (.bool c)))) := rfl
theorem bin_neqB (t : TypeId) (b c : Bool) : binOp .neq t (.bool b) (.bool c) = (do pure (.bool (!(← Op.equal t (.bool b) (.bool c))))) := rfl
theorem zke {t : TypeId} (ht : P.underlying t = some .bool) (b c : Bool) (w : World) : (Op.equal t (.bool b) (.bool c)).run P w = .ok (b == c) w := run_equalIn_bool' w 9999 t b c ht
theorem equalIn_nilR {t s : TypeId} (ht : P.underlying t = some (.pointer s)) (b : Option Addr) (d : Nat) (w : World) : (Op.equalIn (d + 1) t (.pointer b) (.pointer none)).run P w = .ok b.isNone w := by
  cases b <;> simp [Op.equalIn, run_underlying ht]
theorem equalIn_nilL {t s : TypeId} (ht : P.underlying t = some (.pointer s)) (b : Option Addr) (d : Nat) (w : World) : (Op.equalIn (d + 1) t (.pointer none) (.pointer b)).run P w = .ok b.isNone w := by
  cases b <;> simp [Op.equalIn, run_underlying ht]
theorem zkd {t s : TypeId} (ht : P.underlying t = some (.pointer s)) (b : Option Addr) (w : World) : (Op.equal t (.pointer b) (.pointer none)).run P w = .ok b.isNone w := equalIn_nilR ht b 9999 w
theorem zfs {t s : TypeId} (ht : P.underlying t = some (.pointer s)) (b : Option Addr) (w : World) : (Op.equal t (.pointer none) (.pointer b)).run P w = .ok b.isNone w := equalIn_nilL ht b 9999 w

theorem zfo {x y : AV} {xs ys : List AV} {r : Bool} (h : zbM (x :: xs) (y :: ys) = some r) : ∃ k a b r', x = .d (.int k a) ∧ y = .d (.int k b) ∧ zbM xs ys = some r' ∧ r = ((a == b) && r') := by
  unfold zbM at h
  split at h
  · rename_i e1 e2; cases e1
  · rename_i k a rr k' b ss e1 e2
    cases e1; cases e2
    split at h
    · rename_i hk; subst hk
      simp only [Option.map_eq_some_iff] at h
      obtain ⟨r', h1, h2⟩ := h
      exact ⟨k, a, b, r', rfl, rfl, h1, h2.symm⟩
    · cases h
  · cases h

theorem zir (d : Nat) : ∀ (l : List Field) (s : Nat) (xs ys : List AV) (us vs : List Value) (r : Bool), (∀ (k : Nat) f, l[k]? = some f → f.name ≠ "_" ∧ f.offset = s + k ∧ ∃ q, P.underlying f.type = some (.int q)) →
    xs.length = l.length → RVs w L σ xs (us.drop s) → RVs w L σ ys (vs.drop s) → zbM xs ys = some r → (Op.eqFields (d + 1) us.toArray vs.toArray l).run P w = .ok r w
  | [], s, xs, ys, us, vs, r, _, hl, _, _, hr => by
    have : xs = [] := by simpa using hl
    subst this
    cases ys with
    | nil => simp [zbM] at hr; subst hr; simp [Op.eqFields]
    | cons y ys => simp [zbM] at hr
  | f :: l, s, xs, ys, us, vs, r, hf, hl, hx, hy, hr => by
    cases xs with
    | nil => simp at hl
    | cons x xs =>
    cases ys with
    | nil => simp [zbM] at hr
    | cons y ys =>
    obtain ⟨k, a, b, r', rfl, rfl, hr', rfl⟩ := zfo hr
    obtain ⟨hn, ho, q, hq⟩ := hf 0 f rfl
    have hu : us[s]? = some (.int k a) := by
      have h1 := hx.1; simp at h1
      have h2 : us[s]? = some (us[s]'(by omega)) := List.getElem?_eq_getElem _
      have := hx.2 0 _ (us[s]'(by omega)) rfl (by simp [List.getElem?_drop, h2])
      rw [h2, this.int_inv]
    have hv : vs[s]? = some (.int k b) := by
      have h1 := hy.1; simp at h1
      have h2 : vs[s]? = some (vs[s]'(by omega)) := List.getElem?_eq_getElem _
      have := hy.2 0 _ (vs[s]'(by omega)) rfl (by simp [List.getElem?_drop, h2])
      rw [h2, this.int_inv]
    have hag : zny P f.type = some false := by simp [zny, hq]
    have p1 : (part f.type us.toArray f.offset).run P w = .ok (.int k a) w := by simp [part, zea hag, ho, hu]
    have p2 : (part f.type vs.toArray f.offset).run P w = .ok (.int k b) w := by simp [part, zea hag, ho, hv]
    have ih := zir d l (s + 1) xs ys us vs r' (fun j g hj => by have := hf (j + 1) g hj; exact ⟨this.1, by rw [this.2.1]; omega, this.2.2⟩) (by simpa using hl)
      ⟨by have := hx.1; simp at this ⊢; omega, fun j c u hc hu => hx.2 (j + 1) c u hc (by rw [List.getElem?_drop] at hu ⊢; rw [← hu]; congr 1; omega)⟩
      ⟨by have := hy.1; simp at this ⊢; omega, fun j c u hc hu => hy.2 (j + 1) c u hc (by rw [List.getElem?_drop] at hu ⊢; rw [← hu]; congr 1; omega)⟩ hr'
    simp only [Op.eqFields, if_pos hn, Sem.run_bind, p1, p2, Result.andThen_ok, run_equalIn_int w d f.type k q a b hq]
    cases hab : a == b
    · simp
    · simpa using ih

theorem zhg {c : Bool} {sh : List Bool} {xs ys : List AV} {r : Bool} (h : zbK (c :: sh) xs ys = some r) :
    (∃ k a b rx ry r', c = false ∧ xs = .d (.int k a) :: rx ∧ ys = .d (.int k b) :: ry ∧ zbK sh rx ry = some r' ∧ r = ((a == b) && r')) ∨
    (∃ a b rx ry r', c = true ∧ xs = .d (.str a) :: rx ∧ ys = .d (.str b) :: ry ∧ zbK sh rx ry = some r' ∧ r = ((a == b) && r')) := by
  unfold zbK at h
  split at h
  · rename_i e1; cases e1
  · rename_i sh2 k a rx k' b ry e1
    cases e1
    split at h
    · rename_i hk; subst hk
      simp only [Option.map_eq_some_iff] at h
      obtain ⟨r', h1, h2⟩ := h
      exact .inl ⟨k, a, b, rx, ry, r', rfl, rfl, rfl, h1, h2.symm⟩
    · cases h
  · rename_i sh2 a rx b ry e1
    cases e1
    simp only [Option.map_eq_some_iff] at h
    obtain ⟨r', h1, h2⟩ := h
    exact .inr ⟨a, b, rx, ry, r', rfl, rfl, rfl, h1, h2.symm⟩
  · cases h
theorem zkR : ∀ {sh : List Bool} {xs ys : List AV} {r : Bool}, zbK sh xs ys = some r → xs.length = sh.length ∧ ys.length = sh.length
  | [], [], [], _, _ => ⟨rfl, rfl⟩
  | [], [], _ :: _, _, h => by simp [zbK] at h
  | [], _ :: _, _, _, h => by simp [zbK] at h
  | c :: sh, xs, ys, r, h => by
    rcases zhg h with ⟨k, a, b, rx, ry, r', rfl, rfl, rfl, h1, rfl⟩ | ⟨a, b, rx, ry, r', rfl, rfl, rfl, h1, rfl⟩ <;>
    · have := zkR h1
      simp only [List.length_cons]; omega
theorem zoJ : ∀ {a b : List Bool} {xs ys : List AV} {r : Bool}, zbK (a ++ b) xs ys = some r → ∃ r1 r2, zbK a (xs.take a.length) (ys.take a.length) = some r1 ∧ zbK b (xs.drop a.length) (ys.drop a.length) = some r2 ∧ r = (r1 && r2)
  | [], b, xs, ys, r, h => ⟨true, r, by simp [zbK], by simpa using h, by simp⟩
  | c :: a, b, xs, ys, r, h => by
    simp only [List.cons_append] at h
    rcases zhg h with ⟨k, p, q, rx, ry, r', rfl, rfl, rfl, h1, rfl⟩ | ⟨p, q, rx, ry, r', rfl, rfl, rfl, h1, rfl⟩ <;>
    · obtain ⟨r1, r2, h2, h3, h4⟩ := zoJ h1
      exact ⟨(p == q) && r1, r2, by simp [zbK, h2], by simpa using h3, by rw [h4, Bool.and_assoc]⟩
theorem zeM : ∀ (d : Nat) (l : List Field) (s : Nat) (sh : List Bool) (dd : Nat) (xs ys : List AV) (us vs : List Value) (r : Bool), zqU P d l s = some sh → d ≤ dd →
    RVs w L σ xs (us.drop s) → RVs w L σ ys (vs.drop s) → zbK sh xs ys = some r → (Op.eqFields (dd + 1) us.toArray vs.toArray l).run P w = .ok r w
  | _, [], s, sh, dd, xs, ys, us, vs, r, hf, _, hx, hy, hr => by
    simp only [zqU, Option.some.injEq] at hf
    subst hf
    obtain ⟨h1, h2⟩ := zkR hr
    have h1 : xs = [] := by simpa using h1
    have h2 : ys = [] := by simpa using h2
    subst h1 h2
    simp [zbK] at hr; subst hr; simp [Op.eqFields]
  | 0, f :: l, s, sh, dd, xs, ys, us, vs, r, hf, _, _, _, _ => by simp [zqU] at hf
  | d + 1, f :: l, s, sh, dd, xs, ys, us, vs, r, hf, hd, hx, hy, hr => by
    simp only [zqU] at hf
    split at hf
    rotate_left
    · cases hf
    rename_i hno
    simp only [Bool.and_eq_true, bne_iff_ne, ne_eq, beq_iff_eq] at hno
    obtain ⟨hn, ho⟩ := hno
    have tl : ∀ {zs : List AV} {ws : List Value} {n : Nat}, RVs w L σ zs (ws.drop s) → RVs w L σ (zs.drop n) (ws.drop (s + n)) := fun {zs ws n} h =>
      ⟨by have := h.1; simp at this ⊢; omega, fun j c u hc hu => h.2 (n + j) c u (by rw [List.getElem?_drop] at hc; exact hc) (by rw [List.getElem?_drop] at hu ⊢; rw [← hu]; congr 1; omega)⟩
    split at hf
    · -- an integer
      rename_i q hq
      simp only [Option.map_eq_some_iff] at hf
      obtain ⟨sh', hf', rfl⟩ := hf
      rcases zhg hr with ⟨k, a, b, rx, ry, r', _, rfl, rfl, hr', rfl⟩ | ⟨_, _, _, _, _, hc, _⟩
      · · skip
          have hu : us[s]? = some (.int k a) := by
            have h1 := hx.1; simp at h1
            have h2 : us[s]? = some (us[s]'(by omega)) := List.getElem?_eq_getElem _
            have := hx.2 0 _ (us[s]'(by omega)) rfl (by simp [List.getElem?_drop, h2])
            rw [h2, this.int_inv]
          have hv : vs[s]? = some (.int k b) := by
            have h1 := hy.1; simp at h1
            have h2 : vs[s]? = some (vs[s]'(by omega)) := List.getElem?_eq_getElem _
            have := hy.2 0 _ (vs[s]'(by omega)) rfl (by simp [List.getElem?_drop, h2])
            rw [h2, this.int_inv]
          have hag : zny P f.type = some false := by simp [zny, hq]
          have p1 : (part f.type us.toArray f.offset).run P w = .ok (.int k a) w := by simp [part, zea hag, ho, hu]
          have p2 : (part f.type vs.toArray f.offset).run P w = .ok (.int k b) w := by simp [part, zea hag, ho, hv]
          have ih := zeM d l (s + 1) sh' dd rx ry us vs r' hf' (by omega) (tl (n := 1) hx) (tl (n := 1) hy) hr'
          simp only [Op.eqFields, if_pos hn, Sem.run_bind, p1, p2, Result.andThen_ok, run_equalIn_int w dd f.type k q a b hq]
          cases hab : a == b
          · simp
          · simpa using ih
      · cases hc
    · -- a string
      rename_i hq
      simp only [Option.map_eq_some_iff] at hf
      obtain ⟨sh', hf', rfl⟩ := hf
      rcases zhg hr with ⟨_, _, _, _, _, _, hc, _⟩ | ⟨a, b, rx, ry, r', _, rfl, rfl, hr', rfl⟩
      · cases hc
      · skip
        have hu : us[s]? = some (.string ⟨a.toArray⟩) := by
          have h1 := hx.1; simp at h1
          have h2 : us[s]? = some (us[s]'(by omega)) := List.getElem?_eq_getElem _
          have := hx.2 0 _ (us[s]'(by omega)) rfl (by simp [List.getElem?_drop, h2])
          rw [h2, this.str_inv]
        have hv : vs[s]? = some (.string ⟨b.toArray⟩) := by
          have h1 := hy.1; simp at h1
          have h2 : vs[s]? = some (vs[s]'(by omega)) := List.getElem?_eq_getElem _
          have := hy.2 0 _ (vs[s]'(by omega)) rfl (by simp [List.getElem?_drop, h2])
          rw [h2, this.str_inv]
        have hag : zny P f.type = some false := by simp [zny, hq]
        have p1 : (part f.type us.toArray f.offset).run P w = .ok (.string ⟨a.toArray⟩) w := by simp [part, zea hag, ho, hu]
        have p2 : (part f.type vs.toArray f.offset).run P w = .ok (.string ⟨b.toArray⟩) w := by simp [part, zea hag, ho, hv]
        have ih := zeM d l (s + 1) sh' dd rx ry us vs r' hf' (by omega) (tl (n := 1) hx) (tl (n := 1) hy) hr'
        simp only [Op.eqFields, if_pos hn, Sem.run_bind, p1, p2, Result.andThen_ok, run_equalIn_string w dd f.type _ _ hq, ba_toList]
        cases hab : a == b
        · simp
        · simpa using ih
    · -- a struct
      rename_i fs hq
      split at hf
      · cases hf
      rename_i hst
      split at hf
      rotate_left
      · cases hf
      rename_i sh1 hf1
      split at hf
      rotate_left
      · cases hf
      rename_i hsz
      simp only [Option.map_eq_some_iff] at hf
      obtain ⟨sh2, hf', rfl⟩ := hf
      obtain ⟨r1, r2, c1, c2, rfl⟩ := zoJ hr
      obtain ⟨n1, n2⟩ := zkR hr
      rw [List.length_append] at n1 n2
      have hsz' : sizeOf? P f.type = some sh1.length := by
        unfold sizeIs at hsz
        split at hsz
        · rename_i i hi; simp [sizeOf?, hi]; simpa using hsz
        · cases hsz
      have hag : zny P f.type = some true := by simp [zny, hq]
      have hd2 : ∀ {zs : List AV} {ws : List Value}, RVs w L σ zs (ws.drop s) → RVs w L σ (zs.take sh1.length) (((ws.drop s).take sh1.length).drop 0) := fun {zs ws} h =>
        ⟨by have := h.1; simp at this ⊢; omega, fun j c u hc hu => by
          rw [List.drop_zero] at hu
          rw [List.getElem?_take] at hc hu
          split at hc
          · rename_i hj; rw [if_pos hj] at hu; exact h.2 j c u hc hu
          · cases hc⟩
      have ex : ∀ ws : List Value, ws.toArray.extract s (s + sh1.length) = ((ws.drop s).take sh1.length).toArray := fun ws => by
        simp [List.extract_toArray, List.extract_eq_drop_take, Nat.add_sub_cancel_left]
      have p1 : (part f.type us.toArray f.offset).run P w = .ok (.agg ((us.drop s).take sh1.length).toArray) w := by rw [ho]; simp [part, zea hag, zbj hsz', ex]
      have p2 : (part f.type vs.toArray f.offset).run P w = .ok (.agg ((vs.drop s).take sh1.length).toArray) w := by rw [ho]; simp [part, zea hag, zbj hsz', ex]
      have hfo : P.fieldsOf f.type = fs := by simp [Program.fieldsOf, hq]
      obtain ⟨dd, rfl⟩ : ∃ d', dd = d' + 1 := ⟨dd - 1, by omega⟩
      have in1 : (Op.equalIn (dd + 1 + 1) f.type (.agg ((us.drop s).take sh1.length).toArray) (.agg ((vs.drop s).take sh1.length).toArray)).run P w = .ok r1 w := by
        rw [run_equalIn_agg w (dd + 1) f.type _ _ (by rw [hfo]; exact hq) (by simpa using hst), hfo]
        exact zeM d fs.toList 0 sh1 dd _ _ _ _ r1 hf1 (by omega) (hd2 hx) (hd2 hy) c1
      have ih := zeM d l (s + sh1.length) sh2 (dd + 1) _ _ us vs r2 hf' (by omega) (tl (n := sh1.length) hx) (tl (n := sh1.length) hy) c2
      simp only [Op.eqFields, if_pos hn, Sem.run_bind, p1, p2, Result.andThen_ok, in1]
      cases r1
      · simp
      · simpa using ih
    · cases hf
theorem zfH {t : TypeId} {e : EK} (he : (match zpj P t with | some n => some (EK.ints n) | none => (flatB P t).map EK.flat) = some e) : (∃ n, zpj P t = some n ∧ e = .ints n) ∨ (∃ sh, flatB P t = some sh ∧ e = .flat sh) := by
  split at he
  · rename_i n hn; cases he; exact .inl ⟨n, hn, rfl⟩
  · simp only [Option.map_eq_some_iff] at he
    obtain ⟨sh, h1, rfl⟩ := he
    exact .inr ⟨sh, h1, rfl⟩

theorem snd_bin (S : Sim L σ w) (F : FR w L σ fr a.tmps) {op : BinOp} {t u : TypeId} {e : EK} {x y : Operand} {x' y' : Opd} (he : ekOf P op t = some e) (hx : opd x = some x') (hy : opd y = some y') (ho : o.op = .binOp op t x y u)
    (h : zar P (.bin op e x' y') fr σ K) : zai P o a L σ w K := by
  simp only [zar] at h
  have hv := zA F hx
  have hu := zA F hy
  have fin : ∀ {d r}, (eqGuard op t x y (a.eval x) (a.eval y)).run P w = .ok () w → (binOp op t (a.eval x) (a.eval y)).run P w = .ok d w → RD w (Own L σ) r d → K (.d r) σ → zai P o a L σ w K := fun {d r} h0 h1 h2 h3 =>
    .same S (r := .d r) (v := d) (by simp [execOp, ho, h0, h1]) (.d _ _ h2) h3
  generalize hX : ev fr x' = X at h hv
  generalize hY : ev fr y' = Y at h hu
  unfold zen at h
  split at h
  · rename_i k p k' q
    have e1 := hv.int_inv
    have e2 := hu.int_inv
    obtain ⟨d, hd⟩ := run_binInt (P := P) (L := L) (t := t) (K := K) (σ := σ) (op := op) (k := k) (k' := k') (x := p) (y := q) (by simpa only [zen] using h)
    obtain ⟨h1, r, h2, h3⟩ := hd w
    exact fin (by rw [e1, eqGuard_at_int]; simp) (by rw [e1, e2]; exact h1) h2 h3
  · rename_i p q
    have e1 := hv.str_inv
    have e2 := hu.str_inv
    obtain ⟨d, hd⟩ := run_binStr (P := P) (L := L) (t := t) (K := K) (σ := σ) (op := op) (x := p) (y := q) (by simpa only [zen] using h)
    obtain ⟨h1, r, h2, h3⟩ := hd w
    exact fin (by rw [e1, eqGuard_at_string]; simp) (by rw [e1, e2]; exact h1) h2 h3
  · rename_i p q
    have e1 := hv.bool_inv
    have e2 := hu.bool_inv
    have ht : P.underlying t = some .bool := by
      unfold ekOf at he
      cases op <;> simp only at he <;> first | (cases he; done) | (split at he <;> first | (cases he; done) | assumption | (rcases zfH he with ⟨_, _, h⟩ | ⟨_, _, h⟩ <;> cases h; done))
    split at h
    · exact fin (d := .bool (p == q)) (by rw [e1, eqGuard_at_bool]; simp) (by rw [e1, e2]; simp [bin_eqlB, bin_neqB, zke ht]) (.bool _) h
    · exact fin (d := .bool (!(p == q))) (by rw [e1, eqGuard_at_bool]; simp) (by rw [e1, e2]; simp [bin_eqlB, bin_neqB, zke ht]) (.bool _) h
    · exact h.elim
  · rename_i id off
    obtain ⟨e1, _⟩ := hv.box_inv
    have e2 := hu.nilp_inv
    have ⟨s, ht⟩ : ∃ s, P.underlying t = some (.pointer s) := by
      unfold ekOf at he
      cases op <;> simp only at he <;> first | (cases he; done) | (split at he <;> first | (cases he; done) | exact ⟨_, by assumption⟩ | (rcases zfH he with ⟨_, _, h⟩ | ⟨_, _, h⟩ <;> cases h; done))
    split at h
    · exact fin (d := .bool false) (by rw [e1, eqGuard_at_pointer]; simp) (by rw [e1, e2]; simp [zmD, zmC, zkd ht]) (.bool _) h
    · exact fin (d := .bool true) (by rw [e1, eqGuard_at_pointer]; simp) (by rw [e1, e2]; simp [zmD, zmC, zkd ht]) (.bool _) h
    · exact h.elim
  · rename_i id off
    have e1 := hv.nilp_inv
    obtain ⟨e2, _⟩ := hu.box_inv
    have ⟨s, ht⟩ : ∃ s, P.underlying t = some (.pointer s) := by
      unfold ekOf at he
      cases op <;> simp only at he <;> first | (cases he; done) | (split at he <;> first | (cases he; done) | exact ⟨_, by assumption⟩ | (rcases zfH he with ⟨_, _, h⟩ | ⟨_, _, h⟩ <;> cases h; done))
    split at h
    · exact fin (d := .bool false) (by rw [e1, eqGuard_at_pointer]; simp) (by rw [e1, e2]; simp [zmD, zmC, zfs ht]) (.bool _) h
    · exact fin (d := .bool true) (by rw [e1, eqGuard_at_pointer]; simp) (by rw [e1, e2]; simp [zmD, zmC, zfs ht]) (.bool _) h
    · exact h.elim
  · have e1 := hv.nilp_inv
    have e2 := hu.nilp_inv
    have ⟨s, ht⟩ : ∃ s, P.underlying t = some (.pointer s) := by
      unfold ekOf at he
      cases op <;> simp only at he <;> first | (cases he; done) | (split at he <;> first | (cases he; done) | exact ⟨_, by assumption⟩ | (rcases zfH he with ⟨_, _, h⟩ | ⟨_, _, h⟩ <;> cases h; done))
    split at h
    · exact fin (d := .bool true) (by rw [e1, eqGuard_at_pointer]; simp) (by rw [e1, e2]; simp [zmD, zmC, zfs ht]) (.bool _) h
    · exact fin (d := .bool false) (by rw [e1, eqGuard_at_pointer]; simp) (by rw [e1, e2]; simp [zmD, zmC, zfs ht]) (.bool _) h
    · exact h.elim
  · rename_i id
    have hX1 : a.eval x = .map (some (L id).a.block) := hv.map_inv.1
    have hY1 := hu.nilmap_inv
    have ⟨s, s', ht⟩ : ∃ s s', P.underlying t = some (.map s s') := by
      unfold ekOf at he
      cases op <;> simp only at he <;> first | (cases he; done) | (split at he <;> first | (cases he; done) | exact ⟨_, _, by assumption⟩ | (rcases zfH he with ⟨_, _, h⟩ | ⟨_, _, h⟩ <;> cases h; done))
    split at h
    · exact fin (d := .bool false) (by rw [hX1, eqGuard_at_map]; simp) (by rw [hX1, hY1]; exact run_eql_map_nil w t s s' _ ht) (.bool _) h
    · exact fin (d := .bool true) (by rw [hX1, eqGuard_at_map]; simp) (by rw [hX1, hY1]; exact run_neq_map_nil w t s s' _ ht) (.bool _) h
    · exact h.elim
  · have hX1 := hv.nilmap_inv
    have hY1 := hu.nilmap_inv
    have ⟨s, s', ht⟩ : ∃ s s', P.underlying t = some (.map s s') := by
      unfold ekOf at he
      cases op <;> simp only at he <;> first | (cases he; done) | (split at he <;> first | (cases he; done) | exact ⟨_, _, by assumption⟩ | (rcases zfH he with ⟨_, _, h⟩ | ⟨_, _, h⟩ <;> cases h; done))
    split at h
    · exact fin (d := .bool true) (by rw [hX1, eqGuard_at_map]; simp) (by rw [hX1, hY1]; exact run_eql_map_nil w t s s' _ ht) (.bool _) h
    · exact fin (d := .bool false) (by rw [hX1, eqGuard_at_map]; simp) (by rw [hX1, hY1]; exact run_neq_map_nil w t s s' _ ht) (.bool _) h
    · exact h.elim
  · rename_i n xs ys
    obtain ⟨us, e1, r1⟩ := hv.agg_inv
    obtain ⟨vs, e2, r2⟩ := hu.agg_inv
    obtain ⟨hn, h⟩ := h
    have ht : zpj P t = some n := by
      unfold ekOf at he
      cases op <;> simp only at he <;> first | (cases he; done) | (split at he <;> first | (cases he; done) | (rcases zfH he with ⟨_, h1, h⟩ | ⟨_, _, h⟩ <;> cases h; exact h1))
    obtain ⟨fs, inf, hu1, hu2, hu3, hu4, hu5, hu6, hu7⟩ := zjO ht
    have hfo : P.fieldsOf t = fs := by simp [Program.fieldsOf, hu1]
    split at h
    · rename_i r hr
      have hrun : (Op.equalIn 10000 t (.agg us.toArray) (.agg vs.toArray)).run P w = .ok r w := by
        rw [run_equalIn_agg w 9999 t _ _ (by rw [hfo]; exact hu1) hu2, hfo]
        exact zir 9998 fs.toList 0 xs ys us vs r (fun k f hk => by have := hu7 k f (by simpa using hk); exact ⟨this.1, by rw [this.2.1]; omega, this.2.2⟩) (by rw [hn, ← hu4]; simp) (by simpa using r1) (by simpa using r2) hr
      split at h
      · exact fin (d := .bool r) (by rw [e1, e2]; exact run_eqGuard_agg w _ t x y _ _ hu3) (by rw [e1, e2, run_eql_struct, hrun]; rfl) (.bool _) h
      · exact fin (d := .bool (!r)) (by rw [e1, e2]; exact run_eqGuard_agg w _ t x y _ _ hu3) (by rw [e1, e2, run_neq_struct, hrun]; rfl) (.bool _) h
      · exact h.elim
    · exact h.elim
  · rename_i sh xs ys
    obtain ⟨us, e1, r1⟩ := hv.agg_inv
    obtain ⟨vs, e2, r2⟩ := hu.agg_inv
    have ht : flatB P t = some sh := by
      unfold ekOf at he
      cases op <;> simp only at he <;> first | (cases he; done) | (split at he <;> first | (cases he; done) | (rcases zfH he with ⟨_, _, h⟩ | ⟨_, h1, h⟩ <;> cases h; exact h1))
    unfold flatB at ht
    split at ht
    rotate_left
    · cases ht
    rename_i fs hu1
    split at ht
    · cases ht
    rename_i hg
    have hu2 : P.stoodInHeld t = false := by cases hh : P.stoodInHeld t <;> simp_all
    have hu3 : P.eqGuardType P.depth t = false := by cases hh : P.eqGuardType P.depth t <;> simp_all
    have hfo : P.fieldsOf t = fs := by simp [Program.fieldsOf, hu1]
    split at h
    · rename_i r hr
      have hrun : (Op.equalIn 10000 t (.agg us.toArray) (.agg vs.toArray)).run P w = .ok r w := by
        rw [run_equalIn_agg w 9999 t _ _ (by rw [hfo]; exact hu1) hu2, hfo]
        exact zeM 64 fs.toList 0 sh 9998 xs ys us vs r ht (by omega) (by simpa using r1) (by simpa using r2) hr
      split at h
      · exact fin (d := .bool r) (by rw [e1, e2]; exact run_eqGuard_agg w _ t x y _ _ hu3) (by rw [e1, e2, run_eql_struct, hrun]; rfl) (.bool _) h
      · exact fin (d := .bool (!r)) (by rw [e1, e2]; exact run_eqGuard_agg w _ t x y _ _ hu3) (by rw [e1, e2, run_neq_struct, hrun]; rfl) (.bool _) h
      · exact h.elim
    · exact h.elim
  · exact h.elim
end

section
variable {P : Program} {o : Oper} {i : I} {fr : zE} {σ : List zc} {K : AV → List zc → Prop} {L : Nat → Loc} {w : World} {a : Act}

theorem zkV (S : Sim L σ w) (o : Obj) : zcq L σ w L σ (w.alloc o) ∧ Sim L σ (w.alloc o) := by
  have s : zcq L σ w L σ (w.alloc o) := ⟨rfl, rfl, rfl, by simp, fun b hb _ => RowKit.Below.heap_alloc w o b hb, fun b c hb _ => World.cell?_alloc_lt w o _ hb, fun b c hb _ => frozen?_alloc_lt w o _ hb, fun _ _ _ h => h, Nat.le_refl _, fun _ _ h => .refl h⟩
  exact ⟨s, ⟨fun id x hx => (S.obj id x hx).keep s (fun b c hf => ⟨World.cell?_alloc_lt w o _ (hf.lt (S.obj id x hx)), frozen?_alloc_lt w o _ (hf.lt (S.obj id x hx))⟩) (fun b hb => RowKit.Below.heap_alloc w o b ((hb 0).lt (S.obj id x hx))), S.apart⟩⟩

theorem cell?_alloc_any (w : World) (c : Array Value) (t : TypeId) (f : Nat × Nat) (i : Nat) : (w.alloc (.cells c t f)).cell? ⟨w.heap.size, i, none⟩ = c[i]? := by
  show (match (w.heap.push (.cells c t f))[w.heap.size]? with | some (.cells c _ _) => if (none : Option Nat).isSome then none else c[i]? | _ => none) = _
  simp

theorem RD.of_block {O : Nat → Nat → Prop} {es : List (List D)} {b cap sz : Nat} {off : Nat} (hcap : es.length ≤ cap) (hsz : ∀ e ∈ es, e.length = sz)
    (h : ∀ (i : Nat) e (j : Nat) d, es[i]? = some e → e[j]? = some d → ∃ v, w.cell? ⟨b, off + (i * sz + j), none⟩ = some v ∧ ¬ O b (off + (i * sz + j)) ∧ RD w O d v) : RD w O (.slice es) (.slice (some ⟨b, off, none⟩) es.length cap) := by
  by_cases he : es = []
  · subst he; exact .empty _ _ (fun e => by cases e)
  · refine .slice es b off cap sz (fun k => (w.cell? ⟨b, off + k, none⟩).getD undef) he hcap hsz (fun i e j d hi hj => ?_) (fun i e j d hi hj => ?_)
    · obtain ⟨v, h1, h2, _⟩ := h i e j d hi hj
      exact ⟨by rw [h1]; rfl, h2⟩
    · obtain ⟨v, h1, _, h3⟩ := h i e j d hi hj
      rw [h1]; exact h3

theorem snd_conv (S : Sim L σ w) (F : FR w L σ fr a.tmps) {src dst : TypeId} {x : Operand} {i : I} (ho : o.op = .convert src dst x) (hc : zbu P o = some i) (h : zar P i fr σ K) : zai P o a L σ w K := by
  unfold zbu at hc
  rw [ho] at hc
  simp only at hc
  split at hc
  · rename_i k0 k hsrc hdst
    simp only [Option.bind_eq_bind, Option.bind_eq_some_iff, Option.pure_def, Option.some.injEq] at hc
    obtain ⟨y, hx, rfl⟩ := hc
    simp only [zar, zay] at h
    have hv := zA F hx
    split at h
    · rename_i k1 n hid
      rw [hid] at hv
      have hv := hv.int_inv
      exact .same S (r := .d (.int k (k.wrap n))) (v := .int k (k.wrap n)) (by simp [execOp, ho, hv, convert, run_underlying hsrc, run_underlying hdst, Conv.intToInt]) (.d _ _ (.int _ _)) h
    · exact h.elim
  · rename_i e hsrc hdst
    split at hc
    · rename_i he
      simp only [Option.bind_eq_bind, Option.bind_eq_some_iff, Option.pure_def, Option.some.injEq] at hc
      obtain ⟨y, hx, rfl⟩ := hc
      simp only [zar, zay] at h
      have hv := zA F hx
      split at h
      · rename_i s hid
        rw [hid] at hv
        have hv := hv.str_inv
        have hrun := run_bytes_of_string (P := P) w src dst e ⟨s.toArray⟩ hsrc hdst he
        obtain ⟨S1, s1⟩ := S.drew (w.drawn + 1)
        obtain ⟨s2, S2⟩ := zkV S1 (.cells (bytesRow ⟨s.toArray⟩ (grownCap w (ByteArray.mk s.toArray).size 0 e)) e ((bytesRow ⟨s.toArray⟩ (grownCap w (ByteArray.mk s.toArray).size 0 e)).size, (bytesRow ⟨s.toArray⟩ (grownCap w (ByteArray.mk s.toArray).size 0 e)).size + 1))
        refine ⟨.d (.slice (s.map zcj)), _, L, σ, _, .inl (by simp [execOp, ho, hv, hrun]; rfl), s1.trans s2, S2, .d _ _ ?_, h⟩
        have hl : (ByteArray.mk s.toArray).size = (s.map zcj).length := by simp [ByteArray.size]
        rw [hl]
        refine RD.of_block (sz := 1) ?_ (by intro e he; simp at he; obtain ⟨b, _, rfl⟩ := he; rfl) (fun i e' j d hi hj => ?_)
        · unfold grownCap; simp [Question.cut]
        · simp only [List.getElem?_map, Option.map_eq_some_iff] at hi
          obtain ⟨b, hb, rfl⟩ := hi
          have hj0 : j = 0 := by have := ze hj; simp [zcj] at this; exact this
          subst hj0
          simp [zcj] at hj
          subst hj
          refine ⟨.int .u8 b.toNat, ?_, ?_, .int _ _⟩
          · have := cell?_alloc_any { w with drawn := w.drawn + 1 } (bytesRow ⟨s.toArray⟩ (grownCap w (s.map zcj).length 0 e)) e ((bytesRow ⟨s.toArray⟩ (grownCap w (s.map zcj).length 0 e)).size, (bytesRow ⟨s.toArray⟩ (grownCap w (s.map zcj).length 0 e)).size + 1) i
            simp only [Nat.zero_add, Nat.mul_one, Nat.add_zero]
            refine this.trans ?_
            have hil := ze hb
            have hb' : s[i] = b := by rw [List.getElem?_eq_getElem hil] at hb; exact Option.some.inj hb
            simp [bytesRow, Array.getElem?_append, hil, hb']
          · intro hown
            have := S.own_lt hown
            exact Nat.lt_irrefl _ this
      · exact h.elim
    · cases hc
  · rename_i e hsrc hdst
    split at hc
    · rename_i he
      simp only [Option.bind_eq_bind, Option.bind_eq_some_iff, Option.pure_def, Option.some.injEq] at hc
      obtain ⟨y, hx, rfl⟩ := hc
      simp only [zar, zay] at h
      have hv := zA F hx
      split at h
      · rename_i es hes
        split at h
        · rename_i s hs
          have hrd := hv.esOf_inv hes
          refine .same S (r := .d (.str s)) (v := .string ⟨s.toArray⟩) ?_ (.d _ _ (.str _)) h
          have hby : ∀ (es : List (List D)) (s : List UInt8), zkU es = some s → es.length = s.length ∧ ∀ (i : Nat) b, s[i]? = some b → ∃ n : Int, es[i]? = some [D.int .u8 n] ∧ b = UInt8.ofNat n.toNat := by
            intro es
            induction es with
            | nil => intro s h; simp [zkU] at h; subst h; simp
            | cons e es ih =>
              intro s h
              unfold zkU at h
              split at h
              · rename_i heq; cases heq
              · rename_i n r heq
                cases heq
                simp only [Option.map_eq_some_iff] at h
                obtain ⟨s', h1, rfl⟩ := h
                obtain ⟨h2, h3⟩ := ih s' h1
                refine ⟨by simp [h2], fun i b hb => ?_⟩
                cases i with
                | zero => simp at hb; subst hb; exact ⟨n, rfl, rfl⟩
                | succ i => simp at hb; exact h3 i b hb
              · cases h
          obtain ⟨hl, hall⟩ := hby es s hs
          generalize hX : a.eval x = X at hrd
          cases hrd with
          | empty b cap hb =>
            have : s = [] := by simpa using hl.symm
            subst this
            cases b with
            | none => simp only [execOp, ho]; rw [hX]; simp [run_convert_bytes_nil w src e hsrc he 0 cap dst hdst]; rfl
            | some b =>
              simp only [execOp, ho]; rw [hX]
              have := run_convert_bytes_back (P := P) w src dst e b cap [] hsrc he hdst (by simp)
              rw [List.length_nil] at this
              simp [this]
          | slice es b off cap sz vs h0 h1 h2 h3 h4 =>
            simp only [execOp, ho]; rw [hX]
            have := run_convert_bytes_arg (P := P) w src e hsrc he b off es.length cap (es.map fun e => match e with | [.int _ n] => n | _ => 0) (by simp) (fun i hi => by
              have hsl : i < s.length := by omega
              obtain ⟨n, hn, _⟩ := hall i s[i] (by simp [hsl])
              have hsz : sz = 1 := by
                have := h2 [.int .u8 n] (List.mem_of_getElem? hn)
                simpa using this.symm
              subst hsz
              have hc := (h3 i _ 0 (.int .u8 n) hn rfl).1
              have hr := h4 i _ 0 (.int .u8 n) hn rfl
              simp only [Nat.mul_one, Nat.add_zero] at hc hr
              rw [hc]
              have hq := RV.int_inv (L := L) (σ := σ) (.d _ _ hr)
              rw [hq]
              simp [List.getD, hn]) dst hdst
            simp [this]
            congr 2
            unfold strOfNums
            congr 1
            apply congrArg List.toArray
            apply List.ext_getElem?
            intro i
            by_cases hi : i < s.length
            · obtain ⟨n, hn, hb⟩ := hall i s[i] (by simp [hi])
              simp [hn, hi, hb]
            · simp [List.getElem?_eq_none (show s.length ≤ i by omega), List.getElem?_eq_none (show es.length ≤ i by omega)]
        · exact h.elim
      · exact h.elim
    · cases hc
  · rename_i hsrc hdst
    simp only [Option.bind_eq_bind, Option.bind_eq_some_iff, Option.pure_def, Option.some.injEq] at hc
    obtain ⟨y, hx, rfl⟩ := hc
    simp only [zar, zay] at h
    have hv := zA F hx
    split at h
    · rename_i s hid
      rw [hid] at hv
      have hv := hv.str_inv
      exact .same S (r := .d (.str s)) (v := .string ⟨s.toArray⟩) (by simp [execOp, ho, hv, convert, run_underlying hsrc, run_underlying hdst]) (.d _ _ (.str _)) h
    · exact h.elim
  · cases hc

end

section
variable {P : Program} {o : Oper} {i : I} {fr : zE} {σ : List zc} {K : AV → List zc → Prop} {L : Nat → Loc} {w : World} {a : Act}

def BV (v : Option Value) (dflt : Nat) (n : Int) : Prop := (v = none ∧ n = dflt) ∨ ∃ k, v = some (.int k n)

theorem zcZ (F : FR w L σ fr a.tmps) {x : Option Operand} {y : Option Opd} (hx : zpI opd x = some y) {dflt : Nat} {n : Int} (h : bnd (y.map (ev fr)) dflt = some n) : BV (x.map a.eval) dflt n := by
  cases x with
  | none => simp [zpI] at hx; subst hx; simp [bnd] at h; exact .inl ⟨rfl, h.symm⟩
  | some x =>
    simp only [zpI, Option.map_eq_some_iff] at hx
    obtain ⟨y, hy, rfl⟩ := hx
    obtain ⟨k, hk⟩ := (zA F hy).intV_inv h
    exact .inr ⟨k, by simp [hk]⟩

theorem zgu (isS : Bool) (len cap : Nat) {lo hi : Option Value} {l h : Int} (hl : BV lo 0 l) (hh : BV hi len h) (h0 : 0 ≤ l) (h1 : l ≤ h) (h2 : h ≤ cap) (w : World) :
    (Instr.sliceBounds isS len cap lo hi none).run P w = .ok (l.toNat, h.toNat, cap) w := by
  have eh : (h.toNat : Int) = h := Int.toNat_of_nonneg (by omega)
  have h5 : 0 ≤ h := by omega
  rcases hl with ⟨rfl, e⟩ | ⟨k, rfl⟩ <;> rcases hh with ⟨rfl, e'⟩ | ⟨k', rfl⟩
  · simp [Instr.sliceBounds]; omega
  · simp [Instr.sliceBounds, run_sliceBound, h2, h5]; omega
  · have := run_sliceBound (P := P) w k l len (if (none : Option Value).isSome then .slice3C else .sliceB) h0 (by omega)
    simp at this
    simp [Instr.sliceBounds, this]; omega
  · have := run_sliceBound (P := P) w k l h.toNat (if (none : Option Value).isSome then .slice3C else .sliceB) h0 (by omega)
    simp at this
    simp [Instr.sliceBounds, run_sliceBound, h2, h5, this]

theorem run_bounds3 (len cap : Nat) {lo : Option Value} {l h : Int} {k k' : IntKind} (hl : BV lo 0 l) (h0 : 0 ≤ l) (h1 : l ≤ h) (h2 : h ≤ cap) (w : World) :
    (Instr.sliceBounds true len cap lo (some (.int k h)) (some (.int k' h))).run P w = .ok (l.toNat, h.toNat, h.toNat) w := by
  have eh : (h.toNat : Int) = h := Int.toNat_of_nonneg (by omega)
  have h5 : 0 ≤ h := by omega
  rcases hl with ⟨rfl, e⟩ | ⟨k, rfl⟩ <;>
    simp [Instr.sliceBounds, run_sliceBound, h0, h1, h2, h5, eh] <;> omega

theorem RD.sub {O : Nat → Nat → Prop} {es : List (List D)} {b : Option Addr} {n cap : Nat} (h : RD w O (.slice es) (.slice b n cap)) {sz l k m : Nat} (hsz : ∀ e ∈ es, e.length = sz) (h1 : l ≤ k) (h2 : k ≤ es.length) (h3 : k ≤ m) (h4 : m ≤ cap) :
    RD w O (.slice ((es.take k).drop l)) (.slice (if m = l then b else b.map (·.add (l * sz))) (k - l) (m - l)) := by
  have hlen : ((es.take k).drop l).length = k - l := by simp; omega
  by_cases hkl : k = l
  · have : (es.take k).drop l = [] := List.eq_nil_of_length_eq_zero (by omega)
    rw [this, show k - l = 0 by omega]
    refine .empty _ _ fun e => ?_
    cases h with
    | empty b cap hb =>
      have : b = none := by split at e <;> simpa using e
      have := hb this; omega
    | slice es b off cap sz vs h0 h1 h2 h3 h4 => split at e <;> simp at e
  · cases h with
    | empty b cap hb => simp at h2; omega
    | slice es b off cap sz' vs g0 g1 g2 g3 g4 =>
      have : sz' = sz := by
        cases es with
        | nil => exact absurd rfl g0
        | cons e es => rw [← g2 e (by simp), hsz e (by simp)]
      subst this
      rw [if_neg (by omega)]
      simp only [Option.map_some, zbw]
      rw [← hlen]
      refine RD.of_block (sz := sz') (by rw [hlen]; omega) (fun e he => hsz e (List.mem_of_mem_take (List.mem_of_mem_drop he))) fun i e j d hi hj => ?_
      rw [List.getElem?_drop, List.getElem?_take] at hi
      split at hi
      · obtain ⟨c1, c2⟩ := g3 (l + i) e j d hi hj
        have c3 := g4 (l + i) e j d hi hj
        have e1 : off + l * sz' + (i * sz' + j) = off + ((l + i) * sz' + j) := by rw [Nat.add_mul]; omega
        rw [e1]
        exact ⟨_, c1, c2, c3⟩
      · cases hi

theorem snd_slc (S : Sim L σ w) (F : FR w L σ fr a.tmps) {t : TypeId} {x : Operand} {lo hi mx : Option Operand} {i : I} (ho : o.op = .slice t x lo hi mx) (hc : zbu P o = some i) (h : zar P i fr σ K) : zai P o a L σ w K := by
  unfold zbu at hc
  rw [ho] at hc
  simp only at hc
  split at hc
  · rename_i ht
    simp only [Option.bind_eq_bind, Option.bind_eq_some_iff, Option.pure_def, Option.some.injEq] at hc
    obtain ⟨y, hx, lo', hlo, hi', hhi, mx', hmx, rfl⟩ := hc
    simp only [zar, zdU, zd, zan, zO, zbf, zbg] at h
    have hv := zA F hx
    split at h
    · rename_i s hs
      rw [hs] at hv
      have hv := hv.str_inv
      split at h
      · rename_i l k hl hk hmx0
        obtain ⟨h0, h1, h2, hK⟩ := h
        have hmx1 : mx' = none := by simpa using hmx0
        subst hmx1
        have hm : mx = none := by cases mx with | none => rfl | some m => simp [zpI, Option.map_eq_some_iff] at hmx
        subst hm
        have hsz : (ByteArray.mk s.toArray).size = s.length := by simp [ByteArray.size]
        have hb := zgu (P := P) false s.length s.length (zcZ F hlo hl) (zcZ F hhi hk) h0 h1 h2 w
        refine .same S (r := .d (.str ((s.take k.toNat).drop l.toNat))) (v := .string ⟨((s.take k.toNat).drop l.toNat).toArray⟩) ?_ (.d _ _ (.str _)) hK
        have hex : (ByteArray.mk s.toArray).extract l.toNat k.toNat = ⟨((s.take k.toNat).drop l.toNat).toArray⟩ := by
          apply ByteArray.ext
          rw [ByteArray.data_extract]
          apply Array.ext'
          simp [List.drop_take]
        simp [execOp, ho, hv, Instr.sliceAt, run_underlying ht, Instr.slice, hsz, hb, hex]
      · exact h.elim
    · exact h.elim
  · rename_i e ht
    simp only [Option.bind_eq_bind, Option.bind_eq_some_iff, Option.pure_def, Option.some.injEq] at hc
    obtain ⟨sz, hsz, y, hx, lo', hlo, hi', hhi, mx', hmx, rfl⟩ := hc
    simp only [zar, zdU, zd, zan, zO, zbf, zbg] at h
    have hv := zA F hx
    split at h
    · rename_i es hes
      have hrd := hv.esOf_inv hes
      obtain ⟨b, cap, hX, hcap, hnil⟩ := hrd.len
      rw [hX] at hrd
      split at h
      · rename_i l k hl hk
        split at h
        · rename_i hmx0
          have hmx1 : mx' = none := by simpa using hmx0
          subst hmx1
          have hm : mx = none := by cases mx with | none => rfl | some m => simp [zpI, Option.map_eq_some_iff] at hmx
          subst hm
          split at h
          · rename_i hx0
            obtain ⟨h0, h1, h2, hK⟩ := h
            rw [hx0] at hes hv
            cases hes
            have hb := zgu (P := P) true 0 cap (zcZ F hlo hl) (zcZ F hhi hk) h0 h1 (by omega) w
            have hl0 : l = 0 := by omega
            have hk0 : k = 0 := by omega
            subst hl0; subst hk0
            generalize he0 : ([] : List (List D)) = es0 at hv
            have hfun : ∀ v, RV w L σ (.exact es0) v → ∃ b2, v = .slice b2 0 0 := fun v hv => by
              cases hv with | exact _ b2 _ => subst he0; exact ⟨b2, rfl⟩
            obtain ⟨b2, hX2⟩ := hfun _ hv
            subst he0
            rw [hX2] at hX hv
            cases hX
            refine .same S (r := .exact []) (v := .slice b 0 0) ?_ hv hK
            simp only [Int.toNat_zero] at hb
            simp [execOp, ho, hX2, Instr.sliceAt, run_underlying ht, Instr.slice, zbj hsz, hb]
          · obtain ⟨h0, h1, h2, h3, hK⟩ := h
            have hb := zgu (P := P) true es.length cap (zcZ F hlo hl) (zcZ F hhi hk) h0 h1 (by omega) w
            refine .same S (r := .d (.slice ((es.take k.toNat).drop l.toNat))) (v := .slice (if cap = l.toNat then b else b.map (·.add (l.toNat * sz))) (k.toNat - l.toNat) (cap - l.toNat)) ?_ (.d _ _ (hrd.sub h3 (by omega) (by omega) (by omega) (Nat.le_refl _))) hK
            simp [execOp, ho, hX, Instr.sliceAt, run_underlying ht, Instr.slice, hb, zbj hsz]
        · rename_i m hmx0
          obtain ⟨hs, hm, h0, h1, h2, h3, hK⟩ := h
          obtain ⟨m1, hm1, rfl⟩ := Option.map_eq_some_iff.1 hmx0
          subst hm1
          cases mx with
          | none => simp [zpI] at hmx
          | some mx =>
          cases hi with
          | none => simp [zpI] at hhi; subst hhi; simp at hs
          | some hi =>
          simp only [zpI, Option.map_eq_some_iff, Option.some.injEq, exists_eq_right] at hmx hhi
          have hm' := hmx
          obtain ⟨q, hq, rfl⟩ := hhi
          obtain ⟨k1, e1⟩ := (zA F hm').intV_inv hm
          obtain ⟨k2, e2⟩ := (zA F hq).intV_inv (by simpa [bnd] using hk)
          have hb := run_bounds3 (P := P) es.length cap (k := k2) (k' := k1) (zcZ F hlo hl) h0 h1 (by omega : k ≤ cap) w
          have hr := hrd.sub (m := k.toNat) h3 (l := l.toNat) (k := k.toNat) (by omega) (by omega) (Nat.le_refl _) (by omega)
          have hlen : ((es.take k.toNat).drop l.toNat).length = k.toNat - l.toNat := by simp; omega
          refine .same S (r := .exact ((es.take k.toNat).drop l.toNat)) (v := .slice (if k.toNat = l.toNat then b else b.map (·.add (l.toNat * sz))) (k.toNat - l.toNat) (k.toNat - l.toNat)) ?_ ?_ hK
          · simp [execOp, ho, hX, Instr.sliceAt, run_underlying ht, Instr.slice, hb, zbj hsz, e1, e2]
          · rw [← hlen] at hr ⊢; exact .exact _ _ hr
      · exact h.elim
    · split at h
      · rename_i id off len cap s hid
        rw [hid] at hv
        obtain ⟨hX, hfix, hlc⟩ := hv.bsl_inv
        split at h
        · rename_i l k hl hk hmx0
          obtain ⟨rfl, h0, h1, h2, h3, hK⟩ := h
          have hmx1 : mx' = none := by simpa using hmx0
          subst hmx1
          have hm : mx = none := by cases mx with | none => rfl | some m => simp [zpI, Option.map_eq_some_iff] at hmx
          subst hm
          have hb := zgu (P := P) true len cap (zcZ F hlo hl) (zcZ F hhi hk) h0 h1 (by omega) w
          refine .same S (r := .bsl id (off + l.toNat * s) (k.toNat - l.toNat) (cap - l.toNat) s) (v := .slice (some ⟨(L id).a.block, (L id).a.off + (off + l.toNat * s), none⟩) (k.toNat - l.toNat) (cap - l.toNat)) ?_ (.bsl _ _ _ _ _ hfix (by omega)) hK
          simp [execOp, ho, hX, Instr.sliceAt, run_underlying ht, Instr.slice, hb, zbj hsz, show cap ≠ l.toNat by omega, zbw, Nat.add_assoc]
        · exact h.elim
      · rename_i tt gg s lo0 hi0 hid
        rw [hid] at hv
        obtain ⟨b0, c0, hX, hrow, hlh, hlc, hn0, hn1, hg, hcur⟩ := hv.rsl_inv
        split at h
        · rename_i l k hl hk hmx0
          obtain ⟨rfl, h0, h1, h2, hK⟩ := h
          have hmx1 : mx' = none := by simpa using hmx0
          subst hmx1
          have hm : mx = none := by cases mx with | none => rfl | some m => simp [zpI, Option.map_eq_some_iff] at hmx
          subst hm
          have hb := zgu (P := P) true (hi0 - lo0) c0 (zcZ F hlo hl) (zcZ F hhi hk) h0 h1 (by omega) w
          have hlk : l.toNat ≤ k.toNat := by omega
          have hkn : k.toNat ≤ hi0 - lo0 := by omega
          refine .same S (r := .rsl tt gg s (lo0 + l.toNat) (lo0 + k.toNat)) (v := .slice (if c0 = l.toNat then b0 else b0.map (·.add (l.toNat * s))) (k.toNat - l.toNat) (c0 - l.toNat)) ?_ ?_ hK
          · simp [execOp, ho, hX, Instr.sliceAt, run_underlying ht, Instr.slice, hb, zbj hsz]
          · have e1 : k.toNat - l.toNat = (lo0 + k.toNat) - (lo0 + l.toNat) := by omega
            rw [e1]
            refine .rsl tt gg s _ _ _ _ hrow hg (by omega) (by omega) (fun e => ?_) (fun hp => ?_) (fun sz' cs e => ?_)
            · have : b0 = none := by split at e <;> simpa using e
              have := hn0 this; omega
            · rw [if_neg (by omega)]
              obtain ⟨b1, o1, hb1⟩ := hn1 (by omega)
              exact ⟨b1, o1 + l.toNat * s, by rw [hb1]; simp [zbw]⟩
            · obtain ⟨q1, q2, q3, q4, q5⟩ := hcur sz' cs e
              have hmul : (lo0 + k.toNat) * s ≤ hi0 * s := Nat.mul_le_mul_right _ (by omega)
              refine ⟨q1, by omega, by omega, by omega, fun hlt => ?_⟩
              rw [if_neg (by omega), q5 (by omega)]
              simp [zbw, Nat.add_mul, Nat.add_assoc]
        · exact h.elim
      · exact h.elim
  · rename_i n e ht
    simp only [Option.bind_eq_bind, Option.bind_eq_some_iff, Option.pure_def, Option.some.injEq] at hc
    obtain ⟨sz, hsz, y, hx, lo', hlo, hi', hhi, mx', hmx, rfl⟩ := hc
    simp only [zar, zdU, zd, zan, zO, zbf, zbg] at h
    have hv := zA F hx
    split at h
    · rename_i id off hid
      rw [hid] at hv
      obtain ⟨hX, hfix⟩ := hv.box_inv
      split at h
      · rename_i l k hl hk hmx0
        obtain ⟨h0, h1, h2, h3, hK⟩ := h
        have hmx1 : mx' = none := by simpa using hmx0
        subst hmx1
        have hm : mx = none := by cases mx with | none => rfl | some m => simp [zpI, Option.map_eq_some_iff] at hmx
        subst hm
        have hb := zgu (P := P) false n n (zcZ F hlo hl) (zcZ F hhi hk) h0 h1 h2 w
        refine .same S (r := .bsl id (off + l.toNat * sz) (k.toNat - l.toNat) (n - l.toNat) sz) (v := .slice (some ⟨(L id).a.block, (L id).a.off + (off + l.toNat * sz), none⟩) (k.toNat - l.toNat) (n - l.toNat)) ?_ (.bsl _ _ _ _ _ hfix (by omega)) hK
        simp [execOp, ho, hX, Instr.sliceAt, Instr.sureAddr, run_underlying ht, hb, zbj hsz, show n ≠ l.toNat by omega, zbw, Nat.add_assoc]
      · exact h.elim
    · exact h.elim
  · cases hc

theorem snd_faddr (S : Sim L σ w) (F : FR w L σ fr a.tmps) {t : TypeId} {x : Operand} {k : Nat} {i : I} (ho : o.op = .fieldAddr t x k) (hc : zbu P o = some i) (h : zar P i fr σ K) : zai P o a L σ w K := by
  unfold zbu at hc
  rw [ho] at hc
  simp only at hc
  split at hc
  · rename_i fs ht
    simp only [Option.bind_eq_bind, Option.bind_eq_some_iff] at hc
    obtain ⟨f, hf, s, hs, hc⟩ := hc
    split at hc
    · cases hc
    · rename_i hs0
      simp only [Option.bind_eq_some_iff, Option.pure_def, Option.some.injEq] at hc
      obtain ⟨y, hx, rfl⟩ := hc
      simp only [zar, zdU, zd, zan, zO, zbf, zbg] at h
      have hv := zA F hx
      have hrun : ∀ b off, a.eval x = .pointer (some ⟨b, off, none⟩) → (execOp a.eval o).run P w = .ok (.value (.pointer (some ⟨b, off + f.offset, none⟩))) w := fun b off e => by
        simp [execOp, ho, e, Instr.fieldAt, run_underlying ht, hf, Instr.sureAddr, fieldPlace, zbj hs, hs0, zbw]
      split at h
      · rename_i id off hid
        rw [hid] at hv
        obtain ⟨hX, hfix⟩ := hv.box_inv
        exact .same S (r := .box id (off + f.offset)) (v := .pointer (some ⟨(L id).a.block, (L id).a.off + (off + f.offset), none⟩)) (by rw [hrun _ _ hX, Nat.add_assoc]) (.box _ _ hfix) h
      · rename_i cs hid
        rw [hid] at hv
        obtain ⟨b, off, hX, hcs⟩ := hv.vp_inv
        refine .same S (r := .vp (cs.drop f.offset)) (v := .pointer (some ⟨b, off + f.offset, none⟩)) (hrun _ _ hX) (.vp _ _ _ fun j d hj => ?_) h
        rw [List.getElem?_drop] at hj
        rw [Nat.add_assoc]
        exact hcs _ d hj
      · rename_i tt gg off hid
        rw [hid] at hv
        obtain ⟨b0, o0, hX, hrow, hg, hcur⟩ := hv.rpt_inv
        refine .same S (r := .rpt tt gg (off + f.offset)) (v := .pointer (some ⟨b0, o0 + f.offset, none⟩)) (hrun _ _ hX) (.rpt _ _ _ _ _ hrow hg fun sz' cs e => ?_) h
        obtain ⟨q1, q2⟩ := hcur sz' cs e
        exact ⟨q1, by omega⟩
      · exact h.elim
  · cases hc

theorem snd_field (S : Sim L σ w) (F : FR w L σ fr a.tmps) {t : TypeId} {x : Operand} {k : Nat} {i : I} (ho : o.op = .field t x k) (hc : zbu P o = some i) (h : zar P i fr σ K) : zai P o a L σ w K := by
  unfold zbu at hc
  rw [ho] at hc
  simp only at hc
  split at hc
  · rename_i fs ht
    simp only [Option.bind_eq_bind, Option.bind_eq_some_iff, Option.pure_def, Option.some.injEq] at hc
    obtain ⟨f, hf, g, hg, n, hn, y, hx, rfl⟩ := hc
    simp only [zar, zdU, zd, zan, zO, zbf, zbg] at h
    have hv := zA F hx
    split at h
    · rename_i cs hid
      rw [hid] at hv
      obtain ⟨vs, hX, h1, h2⟩ := hv.agg_inv
      cases g
      · simp only [Bool.false_eq_true, if_false] at h
        split at h
        · rename_i c hcs
          have hl := ze hcs
          have hu : vs[f.offset]? = some (vs[f.offset]'(by omega)) := List.getElem?_eq_getElem _
          exact .same S (r := c) (v := vs[f.offset]'(by omega)) (by simp [execOp, ho, hX, Instr.field, run_underlying ht, hf, asAgg, part, zea hg, hu]) (h2 _ c _ hcs hu) h
        · exact h.elim
      · simp only [if_true] at h
        obtain ⟨hle, hK⟩ := h
        have e1 : vs.toArray.extract f.offset (f.offset + n) = ((vs.drop f.offset).take n).toArray := by apply Array.ext'; simp [List.drop_take]
        refine .same S (r := .agg ((cs.drop f.offset).take n)) (v := .agg ((vs.drop f.offset).take n).toArray) (by simp [execOp, ho, hX, Instr.field, run_underlying ht, hf, asAgg, part, zea hg, zbj hn]; try (simpa using e1)) (.agg _ _ (by simp [h1]) fun j c v hc hv => ?_) hK
        rw [List.getElem?_take] at hc hv
        split at hc
        · rename_i hj
          rw [if_pos hj] at hv
          rw [List.getElem?_drop] at hc hv
          exact h2 _ c v hc hv
        · cases hc
    · exact h.elim
  · cases hc

theorem snd_idxA (S : Sim L σ w) (F : FR w L σ fr a.tmps) {t : TypeId} {x y : Operand} {i : I} (ho : o.op = .index t x y) (hc : zbu P o = some i) (h : zar P i fr σ K) : zai P o a L σ w K := by
  unfold zbu at hc
  rw [ho] at hc
  simp only at hc
  split at hc
  · rename_i ht
    simp only [Option.bind_eq_bind, Option.bind_eq_some_iff, Option.pure_def, Option.some.injEq] at hc
    obtain ⟨x', hx, y', hy, rfl⟩ := hc
    simp only [zar, zdU, zd, zan, zO, zbf, zbg] at h
    have hv := zA F hx
    split at h
    · rename_i s k hid hk
      rw [hid] at hv
      have hX := hv.str_inv
      obtain ⟨q, hY⟩ := (zA F hy).intV_inv hk
      split at h
      · rename_i b hb
        have hl := ze hb
        have hget : (ByteArray.mk s.toArray)[k.toNat]? = some b := by
          rw [ByteArray.getElem?_lt' _ _ (by simpa [ByteArray.size] using hl)]
          rw [List.getElem?_eq_getElem hl] at hb
          have := Option.some.inj hb
          rw [← this]; rfl
        exact .same S (r := .d (.int .u8 b.toNat)) (v := .int .u8 b.toNat) (by simp [execOp, ho, hX, hY, Instr.index, asIntOf, run_underlying ht, h.1, hget]) (.d _ _ (.int _ _)) h.2
      · exact h.elim
    · exact h.elim
  · rename_i n e ht
    simp only [Option.bind_eq_bind, Option.bind_eq_some_iff, Option.pure_def, Option.some.injEq] at hc
    obtain ⟨g, hg, sz, hsz, x', hx, y', hy, rfl⟩ := hc
    simp only [zar, zdU, zd, zan, zO, zbf, zbg] at h
    have hv := zA F hx
    split at h
    · rename_i cs k hid hk
      rw [hid] at hv
      obtain ⟨vs, hX, h1, h2⟩ := hv.agg_inv
      obtain ⟨q, hY⟩ := (zA F hy).intV_inv hk
      obtain ⟨g0, g1, h⟩ := h
      cases g
      · simp only [Bool.false_eq_true, if_false] at h
        split at h
        · rename_i c hcs
          have hl := ze hcs
          have hu : vs[k.toNat * sz]? = some (vs[k.toNat * sz]'(by omega)) := List.getElem?_eq_getElem _
          exact .same S (r := c) (v := vs[k.toNat * sz]'(by omega)) (by simp [execOp, ho, hX, hY, Instr.index, asIntOf, run_underlying ht, g0, g1, part, zea hg, zbj hsz, hu]) (h2 _ c _ hcs hu) h
        · exact h.elim
      · simp only [if_true] at h
        obtain ⟨hle, hK⟩ := h
        have e1 : vs.toArray.extract (k.toNat * sz) (k.toNat * sz + sz) = ((vs.drop (k.toNat * sz)).take sz).toArray := by apply Array.ext'; simp [List.drop_take]
        refine .same S (r := .agg ((cs.drop (k.toNat * sz)).take sz)) (v := .agg ((vs.drop (k.toNat * sz)).take sz).toArray) (by simp [execOp, ho, hX, hY, Instr.index, asIntOf, run_underlying ht, g0, g1, part, zea hg, zbj hsz]; try (simpa using e1)) (.agg _ _ (by simp [h1]) fun j c v hc hv => ?_) hK
        rw [List.getElem?_take] at hc hv
        split at hc
        · rename_i hj
          rw [if_pos hj] at hv
          rw [List.getElem?_drop] at hc hv
          exact h2 _ c v hc hv
        · cases hc
    · exact h.elim
  · cases hc

theorem snd_iaddr (S : Sim L σ w) (F : FR w L σ fr a.tmps) {t : TypeId} {x y : Operand} {i : I} (ho : o.op = .indexAddr t x y) (hc : zbu P o = some i) (h : zar P i fr σ K) : zai P o a L σ w K := by
  unfold zbu at hc
  rw [ho] at hc
  simp only at hc
  split at hc
  · rename_i n e ht
    simp only [Option.bind_eq_bind, Option.bind_eq_some_iff, Option.pure_def, Option.some.injEq] at hc
    obtain ⟨sz, hsz, x', hx, y', hy, rfl⟩ := hc
    simp only [zar, zdU, zd, zan, zO, zbf, zbg] at h
    have hv := zA F hx
    split at h
    · rename_i k id off hk hid
      rw [hid] at hv
      obtain ⟨hX, hfix⟩ := hv.box_inv
      obtain ⟨q, hY⟩ := (zA F hy).intV_inv hk
      obtain ⟨g0, g1, hK⟩ := h
      exact .same S (r := .box id (off + k.toNat * sz)) (v := .pointer (some ⟨(L id).a.block, (L id).a.off + (off + k.toNat * sz), none⟩)) (by simp [execOp, ho, hX, hY, Instr.indexAt, asIntOf, run_underlying ht, Instr.sureAddr, g0, g1, zbj hsz, zbw, Nat.add_assoc]) (.box _ _ hfix) hK
    · exact h.elim
  · rename_i e ht
    simp only [Option.bind_eq_bind, Option.bind_eq_some_iff, Option.pure_def, Option.some.injEq] at hc
    obtain ⟨sz, hsz, x', hx, y', hy, rfl⟩ := hc
    simp only [zar, zdU, zd, zan, zO, zbf, zbg] at h
    have hv := zA F hx
    split at h
    · rename_i k hk
      obtain ⟨q, hY⟩ := (zA F hy).intV_inv hk
      split at h
      · rename_i es hes
        have hrd := hv.esOf_inv hes
        split at h
        · rename_i e0 he0
          obtain ⟨g0, hlen, hK⟩ := h
          generalize hX : a.eval x = X at hrd
          cases hrd with
          | empty => simp at he0
          | slice es b off cap sz' vs h0 h1 h2 h3 h4 =>
            have : sz' = sz := by rw [← hlen, h2 e0 (List.mem_of_getElem? he0)]
            subst this
            have hlt := ze he0
            refine .same S (r := .vp e0) (v := .pointer (some ⟨b, off + k.toNat * sz', none⟩)) ?_ (.vp _ _ _ fun j d hj => ?_) hK
            · have : k < es.length := by omega
              simp [execOp, ho, hX, hY, Instr.indexAt, asIntOf, run_underlying ht, g0, this, zbj hsz, zbw]
            · obtain ⟨c1, c2⟩ := h3 k.toNat e0 j d he0 hj
              rw [Nat.add_assoc]
              exact ⟨_, c1, c2, h4 k.toNat e0 j d he0 hj⟩
        · exact h.elim
      · split at h
        · rename_i id off len cap s hid
          rw [hid] at hv
          obtain ⟨hX, hfix, hlc⟩ := hv.bsl_inv
          obtain ⟨rfl, g0, g1, hK⟩ := h
          exact .same S (r := .box id (off + k.toNat * s)) (v := .pointer (some ⟨(L id).a.block, (L id).a.off + (off + k.toNat * s), none⟩)) (by simp [execOp, ho, hX, hY, Instr.indexAt, asIntOf, run_underlying ht, g0, g1, zbj hsz, zbw, Nat.add_assoc]) (.box _ _ hfix) hK
        · rename_i tt gg s lo hi hid
          rw [hid] at hv
          obtain ⟨b0, c0, hX, hrow, hlh, hlc, hn0, hn1, hg, hcur⟩ := hv.rsl_inv
          obtain ⟨rfl, g0, g1, hK⟩ := h
          obtain ⟨b1, o1, hb1⟩ := hn1 (by omega)
          subst hb1
          refine .same S (r := .rpt tt gg ((lo + k.toNat) * s)) (v := .pointer (some ⟨b1, o1 + k.toNat * s, none⟩)) (by simp [execOp, ho, hX, hY, Instr.indexAt, asIntOf, run_underlying ht, g0, g1, zbj hsz, zbw]) (.rpt _ _ _ _ _ hrow hg fun sz' cs e => ?_) hK
          obtain ⟨q1, q2, q3, q4, q5⟩ := hcur sz' cs e
          have := q5 (by omega)
          simp only [Option.some.injEq, Addr.mk.injEq, and_true] at this
          exact ⟨this.1, by rw [this.2, Nat.add_mul]; omega⟩
        · exact h.elim
    · exact h.elim
  · cases hc

end

section
variable {P : Program} {o : Oper} {i : I} {fr : zE} {σ : List zc} {K : AV → List zc → Prop} {L : Nat → Loc} {w : World} {a : Act}

def LKok (P : Program) (t : TypeId) : LK → Prop
  | .str => P.underlying t = some .string
  | .sl => ∃ e, P.underlying t = some (.slice e)
  | .arr n => (∃ e, P.underlying t = some (.array n e)) ∨ ∃ e e', P.underlying t = some (.pointer e) ∧ P.underlying e = some (.array n e')
  | .map => ∃ k e, P.underlying t = some (.map k e)

theorem snd_len (S : Sim L σ w) (F : FR w L σ fr a.tmps) {c : Call} {t : TypeId} {x : Operand} {k : LK} {y : Opd} (ho : o.op = .call c) (hcal : c.callee = .builtin .len) (ht : c.argTypes[0]? = some t) (hargs : c.args.toList = [x]) (hx : opd x = some y)
    (hk : LKok P t k)
    (h : zar P (.len k y) fr σ K) : zai P o a L σ w K := by
  have hargs' : c.args = #[x] := by apply Array.ext'; simpa using hargs
  have hv := zA F hx
  have fin : ∀ {n : Int}, (Builtin.len_ c.argTypes o.type #[a.eval x]).run P w = .ok (.int .i64 n) w → K (.d (.int .i64 n)) σ → zai P o a L σ w K := fun {n} h1 h2 => by
    refine .same S (r := .d (.int .i64 n)) (v := .int .i64 n) ?_ (.d _ _ (.int _ _)) h2
    simp [execOp, ho, resolve, hcal, hargs', invoke, builtin, h1]
  cases k with
  | str =>
    simp only [zar, zaV, zeb, zes, zB, zao, zln] at h
    split at h
    · rename_i s hid
      rw [hid] at hv
      have hX := hv.str_inv
      exact fin (by have hsz : (ByteArray.mk s.toArray).size = s.length := (by simp [ByteArray.size]); simp [Builtin.len_, ht, hX, run_underlying hk, goInt, hsz]) h
    · exact h.elim
  | sl =>
    obtain ⟨e, hk⟩ := hk
    simp only [zar, zaV, zeb, zes, zB, zao, zln] at h
    split at h
    · rename_i es hes
      obtain ⟨b, cap, hX, _⟩ := (hv.esOf_inv hes).len
      exact fin (by simp [Builtin.len_, ht, hX, run_underlying hk, goInt]) h
    · split at h
      · rename_i hid
        rw [hid] at hv
        obtain ⟨hX, _⟩ := hv.bsl_inv
        exact fin (by simp [Builtin.len_, ht, hX, run_underlying hk, goInt]) h
      · rename_i lo hi hid
        rw [hid] at hv
        obtain ⟨b0, c0, hX, _⟩ := hv.rsl_inv
        exact fin (by simp [Builtin.len_, ht, hX, run_underlying hk, goInt]) h
      · exact h.elim
  | arr n =>
    simp only [zar, zaV, zeb, zes, zB, zao, zln] at h
    rcases hk with ⟨e, hk⟩ | ⟨e, e', hk, hk'⟩
    · exact fin (by simp [Builtin.len_, ht, run_underlying hk, goInt]) h
    · exact fin (by simp [Builtin.len_, ht, run_underlying hk, run_underlying hk', goInt]) h
  | map =>
    obtain ⟨kt, et, hk⟩ := hk
    simp only [zar, zaV] at h
    split at h
    · rename_i id hid
      rw [hid] at hv
      obtain ⟨hX, _⟩ := hv.map_inv
      split at h
      · rename_i es hes
        obtain ⟨ms, clock, h1, h2, _⟩ := S.obj id _ hes
        exact fin (by simp [Builtin.len_, ht, hX, run_underlying hk, goInt, getObj, Sem.run, h1, h2]) h
      · exact h.elim
    · rename_i hid
      rw [hid] at hv
      have hX := hv.nilmap_inv
      exact fin (n := 0) (by simp [Builtin.len_, ht, hX, run_underlying hk, goInt]) h
    · exact h.elim

theorem zpP : ∀ (l : List AV) (vs : List Value) (k : IntKind) (m n : Int), RVs w L σ l vs → zfy m l = some n → (vs.foldlM Builtin.max2 (.int k m)).run P w = .ok (.int k n) w
  | [], vs, k, m, n, hv, h => by
    have : vs = [] := by have := hv.1; simpa using this
    subst this
    simp [zfy] at h; subst h; simp
  | x :: l, vs, k, m, n, hv, h => by
    cases vs with
    | nil => have := hv.1; simp at this
    | cons v vs =>
      unfold zfy at h
      split at h
      · rename_i heq; cases heq
      · rename_i _ m' k' q r heq
        cases heq
        have e := (hv.2 0 _ v rfl rfl).int_inv
        have ih := zpP l vs k _ n ⟨by have := hv.1; simpa using this, fun i a b ha hb => hv.2 (i + 1) a b ha hb⟩ h
        simp [e, Builtin.max2]
        exact ih
      · cases h
theorem zpM : ∀ (l : List AV) (vs : List Value) (k : IntKind) (m n : Int), RVs w L σ l vs → zfx m l = some n → (vs.foldlM Builtin.min2 (.int k m)).run P w = .ok (.int k n) w
  | [], vs, k, m, n, hv, h => by
    have : vs = [] := by have := hv.1; simpa using this
    subst this
    simp [zfx] at h; subst h; simp
  | x :: l, vs, k, m, n, hv, h => by
    cases vs with
    | nil => have := hv.1; simp at this
    | cons v vs =>
      unfold zfx at h
      split at h
      · rename_i heq; cases heq
      · rename_i _ m' k' q r heq
        cases heq
        have e := (hv.2 0 _ v rfl rfl).int_inv
        have ih := zpM l vs k _ n ⟨by have := hv.1; simpa using this, fun i a b ha hb => hv.2 (i + 1) a b ha hb⟩ h
        simp [e, Builtin.min2]
        exact ih
      · cases h

theorem snd_max (S : Sim L σ w) (F : FR w L σ fr a.tmps) {c : Call} {ys : List Opd} (ho : o.op = .call c) (hcal : c.callee = .builtin .max) (hy : c.args.toList.mapM opd = some ys) (h : zar P (.maxi ys) fr σ K) : zai P o a L σ w K := by
  simp only [zar, zaV, zeb, zes, zB, zao, zln] at h
  have hv := zhL F hy
  split at h
  · rename_i k n r heq
    rw [heq] at hv
    split at h
    · rename_i m hm
      generalize hvs : c.args.toList.map a.eval = vs at hv
      cases vs with
      | nil => have := hv.1; simp at this
      | cons v vs =>
        have e := (hv.2 0 _ v rfl rfl).int_inv
        have := zpP (P := P) r vs k n m ⟨by have := hv.1; simpa using this, fun i a b ha hb => hv.2 (i + 1) a b ha hb⟩ hm
        refine .same S (r := .d (.int k m)) (v := .int k m) ?_ (.d _ _ (.int _ _)) h
        simp [execOp, ho, resolve, hcal, invoke, builtin, Builtin.max_, hvs, e, this]
    · exact h.elim
  · exact h.elim
theorem snd_min (S : Sim L σ w) (F : FR w L σ fr a.tmps) {c : Call} {ys : List Opd} (ho : o.op = .call c) (hcal : c.callee = .builtin .min) (hy : c.args.toList.mapM opd = some ys) (h : zar P (.mini ys) fr σ K) : zai P o a L σ w K := by
  simp only [zar, zaV, zeb, zes, zB, zao, zln] at h
  have hv := zhL F hy
  split at h
  · rename_i k n r heq
    rw [heq] at hv
    split at h
    · rename_i m hm
      generalize hvs : c.args.toList.map a.eval = vs at hv
      cases vs with
      | nil => have := hv.1; simp at this
      | cons v vs =>
        have e := (hv.2 0 _ v rfl rfl).int_inv
        have := zpM (P := P) r vs k n m ⟨by have := hv.1; simpa using this, fun i a b ha hb => hv.2 (i + 1) a b ha hb⟩ hm
        refine .same S (r := .d (.int k m)) (v := .int k m) ?_ (.d _ _ (.int _ _)) h
        simp [execOp, ho, resolve, hcal, invoke, builtin, Builtin.min_, hvs, e, this]
    · exact h.elim
  · exact h.elim

/-! literals -/
theorem znb : ∀ (xs : List Value) (cs : Array Value) (off j0 : Nat), off + j0 + xs.length ≤ cs.size →
    ((xs.zipIdx j0).foldl (fun cs (p : Value × Nat) => cs.setIfInBounds (off + p.2) p.1) cs).toList = zV cs.toList (off + j0) xs
  | [], cs, off, j0, _ => by simp [zV]
  | x :: xs, cs, off, j0, h => by
    simp only [List.length_cons] at h
    simp only [List.zipIdx_cons, List.foldl_cons]
    rw [znb xs _ off (j0 + 1) (by simp; omega)]
    simp only [Array.toList_setIfInBounds]
    apply List.ext_getElem?
    intro q
    have hl : cs.toList.length = cs.size := by simp
    simp only [zV, List.append_assoc, List.getElem?_append, List.length_take, List.length_set, List.length_cons, List.cons_append, hl]
    have h1 : min (off + j0) cs.size = off + j0 := by omega
    have h2 : min (off + (j0 + 1)) cs.size = off + j0 + 1 := by omega
    rw [h1, h2]
    by_cases c1 : q < off + j0
    · rw [if_pos c1, if_pos (by omega)]
      simp [List.getElem?_take, c1, show q < off + (j0 + 1) by omega, List.getElem?_set_ne (show off + j0 ≠ q by omega)]
    · rw [if_neg c1]
      by_cases c2 : q = off + j0
      · subst c2
        simp [List.getElem?_take, show off + j0 < cs.size by omega, show off + j0 < off + (j0 + 1) by omega]
      · rw [if_neg (by omega)]
        rw [show q - (off + j0) = (q - (off + j0 + 1)) + 1 by omega, List.getElem?_cons_succ, List.getElem?_append]
        split
        · rfl
        · simp only [List.getElem?_drop]
          rw [List.getElem?_set_ne (by omega)]
          congr 1; omega

theorem splice_rvs {cs xs : List AV} {vs us : List Value} {off : Nat} (h : RVs w L σ cs vs) (h' : RVs w L σ xs us) (hle : off + xs.length ≤ cs.length) : RVs w L σ (zV cs off xs) (zV vs off us) := by
  refine ⟨by simp [zV, h.1, h'.1], fun i c v hc hv => ?_⟩
  have e1 := h.1
  have e2 := h'.1
  simp only [zV, List.append_assoc, List.getElem?_append, List.length_take, e1, e2] at hc hv
  have h1 : min off cs.length = off := by omega
  rw [h1] at hc hv
  split at hc
  · rename_i c1
    rw [if_pos c1] at hv
    rw [List.getElem?_take] at hc hv
    rw [if_pos c1] at hc hv
    exact h.2 i c v hc hv
  · rename_i c1
    rw [if_neg c1] at hv
    split at hc
    · rename_i c2
      rw [if_pos c2] at hv
      exact h'.2 _ c v hc hv
    · rename_i c2
      rw [if_neg c2] at hv
      rw [List.getElem?_drop] at hc hv
      exact h.2 _ c v hc hv

theorem zkH (F : FR w L σ fr a.tmps) (place : Nat → Option (Nat × Nat)) : ∀ (ps : List (Nat × Operand)) (qs : List (Nat × Nat × Opd)) (cs out : List AV) (cells : Array Value),
    qs.length = ps.length → (∀ (k : Nat) p q, ps[k]? = some p → qs[k]? = some q → place p.1 = some (q.1, q.2.1) ∧ opd p.2 = some q.2.2) → RVs w L σ cs cells.toList → znt fr cs qs = some out →
    ∃ cells', Instr.fill place cells (ps.map fun p => (p.1, a.eval p.2)) = some cells' ∧ RVs w L σ out cells'.toList
  | [], qs, cs, out, cells, hl, _, hr, h => by
    have : qs = [] := by simpa using hl
    subst this
    simp [znt] at h; subst h
    exact ⟨cells, rfl, hr⟩
  | p :: ps, [], _, _, _, hl, _, _, _ => by simp at hl
  | p :: ps, (off, s, x) :: qs, cs, out, cells, hl, hp, hr, h => by
    obtain ⟨h1, h2⟩ := hp 0 p (off, s, x) rfl rfl
    simp only [znt] at h
    split at h
    · rename_i xs hxs
      split at h
      · rename_i hc
        obtain ⟨c1, c2⟩ := hc
        have hrv := (zA F h2).cells hxs
        have hsz : (a.eval p.2).cells.size = s := by have := hrv.1; simp at this; omega
        have hcs : cells.size = cs.length := by have := hr.1; simpa using this
        have hsp := znb (a.eval p.2).cells.toList cells off 0 (by simp; omega)
        have hrr : RVs w L σ (zV cs off xs) (zV cells.toList off (a.eval p.2).cells.toList) := splice_rvs hr hrv (by omega)
        obtain ⟨cells', g1, g2⟩ := zkH F place ps qs (zV cs off xs) out (((a.eval p.2).cells.toList.zipIdx 0).foldl (fun cs (p : Value × Nat) => cs.setIfInBounds (off + p.2) p.1) cells) (by simpa using hl) (fun k p' q' hk hk' => hp (k + 1) p' q' hk hk') (by rw [hsp, Nat.add_zero]; exact hrr) h
        refine ⟨cells', ?_, g2⟩
        simp only [List.map_cons, Instr.fill, h1]
        have hneg : ¬ ((decide ((a.eval p.2).cells.size ≠ s) || decide (off + (a.eval p.2).cells.size > cells.size)) = true) := by simp; omega
        rw [if_neg hneg, ← g1]
        congr 1
        rw [← Array.foldl_toList, Array.toList_zipIdx]
      · cases h
    · cases h

theorem snd_build (S : Sim L σ w) (F : FR w L σ fr a.tmps) {t : TypeId} {parts : Array (Nat × Operand)} {i : I} (ho : o.op = .build t parts) (hc : zbu P o = some i) (h : zar P i fr σ K) : zai P o a L σ w K := by
  unfold zbu at hc
  rw [ho] at hc
  simp only at hc
  have fin : ∀ {zs : List AV} {ps : List (Nat × Nat × Opd)} {z : Value} (place : Nat → Option (Nat × Nat)), RVs w L σ zs z.cells.toList → (ps.length = parts.toList.length) →
      (∀ (k : Nat) p q, parts.toList[k]? = some p → ps[k]? = some q → place p.1 = some (q.1, q.2.1) ∧ opd p.2 = some q.2.2) →
      (∀ l, P.built t l = Instr.fill place z.cells l) → zar P (.build zs ps) fr σ K → zai P o a L σ w K := fun {zs ps z} place hz hl hp hb h => by
    simp only [zar, zaV, zeb, zes, zB, zao, zln] at h
    split at h
    · rename_i cs hcs
      obtain ⟨cells', g1, g2⟩ := zkH F place parts.toList ps zs cs z.cells hl hp hz hcs
      have hrun := run_build (P := P) w t (parts.map fun p => (p.1, a.eval p.2)) cells' (by rw [hb, ← g1]; congr 1; simp)
      refine .same S (r := .agg cs) (v := .agg cells') (by simp only [execOp, ho]; simp [hrun]) ?_ h
      have := RV.agg (w := w) (L := L) (σ := σ) cs cells'.toList g2.1 g2.2
      simpa using this
    · exact h.elim
  split at hc
  · rename_i fs ht
    simp only [Option.bind_eq_bind, Option.bind_eq_some_iff] at hc
    obtain ⟨zs, hz, ps, hps, hc⟩ := hc
    split at hc
    · rename_i hall
      simp only [Option.pure_def, Option.some.injEq] at hc
      subst hc
      obtain ⟨inf, z, hi, hz1, hz2⟩ := zev hz
      obtain ⟨m1, m2⟩ := mapM_some hps
      have hall' : ∃ places, fs.toList.mapM (fun f => (P.info? f.type).map fun i => (f.offset, i.size)) = some places := by
        clear hps m1 m2
        generalize fs.toList = l at hall
        induction l with
        | nil => exact ⟨[], rfl⟩
        | cons f l ih =>
          simp only [List.all_cons, Bool.and_eq_true] at hall
          obtain ⟨pl, hpl⟩ := ih hall.2
          have h1 := hall.1
          simp only [sizeOf?, Option.isSome_map] at h1
          cases hf : P.info? f.type with
          | none => simp [hf] at h1
          | some i => exact ⟨(f.offset, i.size) :: pl, by simp [List.mapM_cons, hf, hpl]⟩
      obtain ⟨places, hpl⟩ := hall'
      obtain ⟨n1, n2⟩ := mapM_some hpl
      refine fin (z := z) (places.toArray[·]?) (zkX hz2) m1 (fun k p q hp hq => ?_) (fun l => by simp [Program.built, hi, ht, hz1, hpl]) h
      have := m2 k p q hp hq
      simp only [Option.bind_eq_bind, Option.bind_eq_some_iff, Option.pure_def, Option.some.injEq] at this
      obtain ⟨f, hf, s, hs, y, hy, rfl⟩ := this
      refine ⟨?_, hy⟩
      have hfl : fs.toList[p.1]? = some f := by simpa using hf
      have hlt := ze hfl
      have hpp : places[p.1]? = some (places[p.1]'(by omega)) := List.getElem?_eq_getElem _
      have := n2 p.1 f _ hfl hpp
      simp only [sizeOf?, Option.map_eq_some_iff] at hs this
      obtain ⟨i1, e1, e2⟩ := hs
      obtain ⟨i2, e3, e4⟩ := this
      rw [e1] at e3; cases e3
      simp only [List.getElem?_toArray, hpp, ← e4, e2]
    · cases hc
  · rename_i n e ht
    simp only [Option.bind_eq_bind, Option.bind_eq_some_iff, Option.pure_def, Option.some.injEq] at hc
    obtain ⟨zs, hz, s, hs, ps, hps, rfl⟩ := hc
    obtain ⟨inf, z, hi, hz1, hz2⟩ := zev hz
    obtain ⟨m1, m2⟩ := mapM_some hps
    simp only [sizeOf?, Option.map_eq_some_iff] at hs
    obtain ⟨ie, e1, e2⟩ := hs
    refine fin (z := z) (fun i => some (i * s, s)) (zkX hz2) m1 (fun k p q hp hq => ?_) (fun l => by simp [Program.built, hi, ht, hz1, e1, e2]) h
    have := m2 k p q hp hq
    simp only [Option.bind_eq_bind, Option.bind_eq_some_iff, Option.pure_def, Option.some.injEq] at this
    obtain ⟨y, hy, rfl⟩ := this
    exact ⟨rfl, hy⟩
  · cases hc

theorem snd_rangeS (S : Sim L σ w) (F : FR w L σ fr a.tmps) {t : TypeId} {x : Operand} {i : I} (hs : P.underlying t = some .string) (ho : o.op = .range t x) (hc : zbu P o = some i) (h : zar P i fr σ K) : zai P o a L σ w K := by
  unfold zbu at hc
  rw [ho] at hc
  simp only at hc
  split at hc
  · rename_i ht
    simp only [Option.bind_eq_bind, Option.bind_eq_some_iff, Option.pure_def, Option.some.injEq] at hc
    obtain ⟨y, hx, rfl⟩ := hc
    simp only [zar, zaV, zeb, zes, zB, zao, zln] at h
    have hv := zA F hx
    split at h
    · rename_i s hid
      rw [hid] at hv
      have hX := hv.str_inv
      have hf : ∀ b c, zdB { a := ⟨w.heap.size, 0, none⟩ } (.iter s 0) b c → b = w.heap.size := fun b c h => h
      have st := zcO L σ (.stringIter ⟨s.toArray⟩ 0) { a := ⟨w.heap.size, 0, none⟩ } (.iter s 0) hf
      have S' := zdR S (.stringIter ⟨s.toArray⟩ 0) { a := ⟨w.heap.size, 0, none⟩ } (.iter s 0) hf (by
        show (w.heap.push _)[w.heap.size]? = _
        simp)
      refine ⟨.iter σ.length, .pointer (some ⟨w.heap.size, 0, none⟩), _, _, _, .inl ?_, st, S', ?_, h⟩
      · simp [execOp, ho, hX, Instr.range, run_underlying ht, newObj, Sem.run]
      · have := RV.iter (w := w.alloc (.stringIter ⟨s.toArray⟩ 0)) (L := zgr L σ.length { a := ⟨w.heap.size, 0, none⟩ }) (σ := σ ++ [.iter s 0]) σ.length ⟨.iter s 0, by simp, by simp [zc.kind]⟩
        rw [zF] at this
        exact this
    · exact h.elim
  · rename_i ht; rw [hs] at ht; cases ht
  · cases hc

theorem snd_nextS (S : Sim L σ w) (F : FR w L σ fr a.tmps) {x : Operand} {y : Opd} (hx : opd x = some y) (ho : o.op = .next x true) (h : zar P (.nextS y) fr σ K) : zai P o a L σ w K := by
  simp only [zar, zaV, zeb, zes, zB, zao, zln] at h
  have hv := zA F hx
  split at h
  · rename_i id hid
    rw [hid] at hv
    obtain ⟨hX, hfix⟩ := hv.iter_inv
    split at h
    · rename_i s pos hs
      have hob := S.obj id _ hs
      have hsz : (ByteArray.mk s.toArray).size = s.length := by simp [ByteArray.size]
      have hheap : w.heap[(L id).a.block]? = some (.stringIter ⟨s.toArray⟩ pos) := hob
      split at h
      · rename_i hlt
        obtain ⟨st, S'⟩ := zii S hs (x' := .iter s (pos + (Utf8.decode ⟨s.toArray⟩ pos).2)) rfl (by simp [zc.kind]) (by simp [zc.kind]) (.stringIter ⟨s.toArray⟩ (pos + (Utf8.decode ⟨s.toArray⟩ pos).2)) (fun w' e _ => by
          subst e
          show (w.heap.setIfInBounds _ _)[_]? = _
          simp [(Array.getElem?_eq_some_iff.1 hheap).1])
        refine ⟨.tup [.d (.bool true), .d (.int .i64 pos), .d (.int .i32 (Utf8.decode ⟨s.toArray⟩ pos).1)], .tuple #[.bool true, .int .i64 pos, .int .i32 (Utf8.decode ⟨s.toArray⟩ pos).1], L, _, _, .inl ?_, st, S', ?_, h⟩
        · simp [execOp, ho, hX, Instr.next, getObj, setObj, Sem.run, hheap, hsz, hlt, goInt]
        · have := RV.tup (w := { w with heap := w.heap.setIfInBounds (L id).a.block (.stringIter ⟨s.toArray⟩ (pos + (Utf8.decode ⟨s.toArray⟩ pos).2)) }) (L := L) (σ := σ.set id (.iter s (pos + (Utf8.decode ⟨s.toArray⟩ pos).2)))
            [.d (.bool true), .d (.int .i64 pos), .d (.int .i32 (Utf8.decode ⟨s.toArray⟩ pos).1)] [.bool true, .int .i64 pos, .int .i32 (Utf8.decode ⟨s.toArray⟩ pos).1] rfl (fun i c v hc hv => by
              match i with
              | 0 => simp at hc hv; subst hc hv; exact .d _ _ (.bool _)
              | 1 => simp at hc hv; subst hc hv; exact .d _ _ (.int _ _)
              | 2 => simp at hc hv; subst hc hv; exact .d _ _ (.int _ _)
              | n + 3 => simp at hc)
          exact this
      · rename_i hlt
        refine .same S (r := .tup [.d (.bool false)]) (v := .tuple #[.bool false]) ?_ ?_ h
        · simp [execOp, ho, hX, Instr.next, getObj, Sem.run, hheap, hsz, hlt]
        · exact .tup [.d (.bool false)] [.bool false] rfl (fun i c v hc hv => by
              match i with
              | 0 => simp at hc hv; subst hc hv; exact .d _ _ (.bool _)
              | n + 1 => simp at hc)
    · exact h.elim
  · exact h.elim

end

section
variable {P : Program} {o : Oper} {i : I} {fr : zE} {σ : List zc} {K : AV → List zc → Prop} {L : Nat → Loc} {w : World} {a : Act}

theorem rep_get {α : Type} (z : List α) (s : Nat) (hz : z.length = s) (hs : 0 < s) : ∀ (n i : Nat), i < n * s → (rep z n)[i]? = z[i % s]?
  | 0, i, h => by simp at h
  | n + 1, i, h => by
    simp only [rep]
    rcases Nat.lt_or_ge i s with hi | hi
    · rw [List.getElem?_append_left (by omega), Nat.mod_eq_of_lt hi]
    · rw [List.getElem?_append_right (by omega), hz, rep_get z s hz hs n (i - s) (by rw [Nat.succ_mul] at h; omega)]
      congr 1
      rw [Nat.mod_eq_sub_mod hi]
theorem zgv {α : Type} (z : List α) : ∀ n, (rep z n).length = n * z.length
  | 0 => by simp [rep]
  | n + 1 => by simp [rep, zgv z n, Nat.succ_mul, Nat.add_comm]

theorem zjQ {α : Type} (s : Nat) : ∀ (n : Nat) (l : List α) (i : Nat) (e : List α) (j : Nat) (d : α), (zad s n l)[i]? = some e → e[j]? = some d → j < s ∧ i < n ∧ l[i * s + j]? = some d
  | 0, l, i, e, j, d, h, _ => by simp [zad] at h
  | n + 1, l, i, e, j, d, h, hj => by
    cases i with
    | zero =>
      simp [zad] at h; subst h
      rw [List.getElem?_take] at hj
      split at hj
      · rename_i c; exact ⟨c, by omega, by simpa using hj⟩
      · cases hj
    | succ i =>
      simp [zad] at h
      obtain ⟨h1, h2, h3⟩ := zjQ s n _ i e j d h hj
      rw [List.getElem?_drop] at h3
      exact ⟨h1, by omega, by rw [← h3]; congr 1; rw [Nat.succ_mul]; omega⟩
theorem zgw {α : Type} (s : Nat) : ∀ (n : Nat) (l : List α), (zad s n l).length = n
  | 0, _ => rfl
  | n + 1, l => by simp [zad, zgw s n]
theorem zkQ {α : Type} (s : Nat) : ∀ (n : Nat) (l : List α), l.length = n * s → ∀ e ∈ zad s n l, e.length = s
  | 0, l, h, e, he => by simp [zad] at he
  | n + 1, l, h, e, he => by
    rw [Nat.succ_mul] at h
    simp only [zad, List.mem_cons] at he
    rcases he with rfl | he
    · simp; omega
    · exact zkQ s n (l.drop s) (by simp; omega) e he

theorem toD_sound {c : AV} {d : D} {v : Value} (h : RV w L σ c v) (hd : toD c = some d) : RD w (Own L σ) d v := by
  cases h with
  | d _ _ h => simp [toD] at hd; subst hd; exact h
  | own _ _ _ _ _ _ _ _ h => simp [toD] at hd; subst hd; exact h
  | exact _ _ h => simp [toD] at hd; subst hd; exact h
  | _ => simp [toD] at hd

theorem zlY : ∀ {cs : List AV} {ds : List D}, zfi cs = some ds → ds.length = cs.length ∧ ∀ (i : Nat) c d, cs[i]? = some c → ds[i]? = some d → toD c = some d
  | [], ds, h => by simp [zfi] at h; subst h; simp
  | c :: cs, ds, h => by
    simp only [zfi] at h
    split at h
    · rename_i x r h1 h2
      cases h
      obtain ⟨g1, g2⟩ := zlY h2
      refine ⟨by simp [g1], fun i c' d hc hd => ?_⟩
      cases i with
      | zero => simp at hc hd; subst hc hd; exact h1
      | succ i => simp at hc hd; exact g2 i c' d hc hd
    · cases h

theorem znc : ∀ {qs : List (Nat × Nat × Opd)} {cs out : List AV}, znt fr cs qs = some out → out.length = cs.length
  | [], cs, out, h => by simp [znt] at h; subst h; rfl
  | (off, s, x) :: qs, cs, out, h => by
    simp only [znt] at h
    split at h
    · rename_i xs hxs
      split at h
      · rename_i hc
        rw [znc h, zqA (by omega)]
      · cases h
    · cases h

theorem block_elem (S : Sim L σ w) {cs : List AV} {ds : List D} {cells : Array Value} (hr : RVs w L σ cs cells.toList) (hd : zfi cs = some ds) (t : TypeId) (s n : Nat) (hl : cs.length = n * s) :
    RD (w.alloc (.cells cells t)) (Own L σ) (.slice (zad s n ds)) (.slice (some ⟨w.heap.size, 0, none⟩) n n) := by
  obtain ⟨g1, g2⟩ := zlY hd
  obtain ⟨st, _⟩ := zkV S (.cells cells t)
  have hn : (zad s n ds).length = n := zgw s n ds
  have hds := zkQ s n ds (by omega)
  generalize hes : zad s n ds = es at hn hds
  rw [← hn]
  refine RD.of_block (sz := s) (Nat.le_refl _) hds fun i e j d hi hj => ?_
  rw [← hes] at hi
  obtain ⟨c1, c2, c3⟩ := zjQ s n ds i e j d hi hj
  have hlt := ze c3
  have hc : cs[i * s + j]? = some (cs[i * s + j]'(by omega)) := List.getElem?_eq_getElem _
  have hsz : cells.size = cs.length := by have := hr.1; simpa using this
  have hv : cells[i * s + j]? = some (cells[i * s + j]'(by omega)) := Array.getElem?_eq_getElem _
  refine ⟨cells[i * s + j]'(by omega), ?_, fun h => ?_, ?_⟩
  · rw [Nat.zero_add, cell?_alloc_any]; exact hv
  · have := S.own_lt h; omega
  · exact st.rd (toD_sound (hr.2 _ _ _ hc (by rw [Array.getElem?_toList]; exact hv)) (g2 _ _ _ hc c3))

theorem run_mkslice {t e : TypeId} {n s : Nat} {zv : Value} {parts : Array (Nat × Value)} {cells : Array Value} (ht : P.underlying t = some (.slice e)) (hs : sizeOf? P e = some s) (k1 : n * s ≤ 16777216) (hz0 : ∀ w, (zeroValue e).run P w = .ok zv w)
    (g : Instr.fill (fun i => some (i * s, s)) ((Array.range (n * s)).map (zv.cells[· % zv.cells.size]!)) parts.toList = some cells) :
    (Instr.buildSlice t n parts).run P w = .ok (.slice (some ⟨w.heap.size, 0, none⟩) n n) (w.alloc (.cells cells e)) := by
  unfold Instr.buildSlice
  have h24 : ¬ (n * s > 2 ^ 24) := by omega
  simp only [Sem.run_bind, run_underlying ht, zbj hs, Result.andThen_ok, if_neg h24, Sem.run_pure]
  by_cases hn0 : n * s = 0
  · rw [if_pos hn0]
    rw [hn0] at g ⊢
    have e0 : (Array.range 0).map (fun i => zv.cells[i % zv.cells.size]!) = (Array.range 0).map (fun i => (#[] : Array Value)[i % (#[] : Array Value).size]!) := by apply Array.ext' ; simp
    rw [e0] at g
    try simp only [Sem.run_bind, Sem.run_pure, Result.andThen_ok]
    split
    · rename_i c hc
      rw [g] at hc; cases hc
      simp [newRow, newObj, Sem.run]
    · rename_i hc; exact absurd g (hc _)
  · rw [if_neg hn0]
    simp only [Sem.run_bind, hz0, Sem.run_pure, Result.andThen_ok]
    split
    · rename_i c hc
      rw [g] at hc; cases hc
      simp [newRow, newObj, Sem.run]
    · rename_i hc; exact absurd g (hc _)

theorem new_row (S : Sim L σ w) {cs : List AV} {cells : Array Value} (hv : RVs w L σ cs (cells.toList.take cs.length)) (t : TypeId) (sz n cap : Nat) (hsz : 0 < sz) (hl : cs.length = n * sz) (hn : n ≤ cap) (hc : cells.size = cap * sz) (hsc : ∀ c ∈ cs, sc c = true) :
    zcq L σ w (zgr L σ.length { a := ⟨w.heap.size, 0, none⟩, cap := cap }) (σ ++ [.row 0 sz cs]) (w.alloc (.cells cells t)) ∧ Sim (zgr L σ.length { a := ⟨w.heap.size, 0, none⟩, cap := cap }) (σ ++ [.row 0 sz cs]) (w.alloc (.cells cells t)) ∧
      RV (w.alloc (.cells cells t)) (zgr L σ.length { a := ⟨w.heap.size, 0, none⟩, cap := cap }) (σ ++ [.row 0 sz cs]) (.rsl σ.length 0 sz 0 n) (.slice (some ⟨w.heap.size, 0, none⟩) n cap) := by
  have hf : ∀ b c, zdB { a := ⟨w.heap.size, 0, none⟩, cap := cap } (.row 0 sz cs) b c → b = w.heap.size := fun b c h => h.1
  have s := zcO L σ (.cells cells t) { a := ⟨w.heap.size, 0, none⟩, cap := cap } (.row 0 sz cs) hf
  have hcell : ∀ j, (w.alloc (.cells cells t)).cell? ⟨w.heap.size, 0 + j, none⟩ = cells[j]? := fun j => by rw [Nat.zero_add]; exact cell?_alloc_any w cells t (0, 0) j
  refine ⟨s, zdR S (.cells cells t) _ _ hf ⟨hsz, ⟨n, hl, hn⟩, hsc, fun _ => by simp, fun o _ ho => ⟨?_, World.frozen?_alloc_at cells t _ o rfl⟩, fun j c hj => ?_⟩, ?_⟩
  · dsimp only at ho
    have hlt : o < cells.size := by omega
    exact ⟨cells[o], by have := cell?_alloc_any w cells t (0, 0) o; rw [this]; exact Array.getElem?_eq_getElem hlt⟩
  · have h1 := ze hj
    have h2 : (cells.toList.take cs.length).length = cs.length := hv.1
    have h3 : (cells.toList.take cs.length)[j]? = some ((cells.toList.take cs.length)[j]'(by omega)) := List.getElem?_eq_getElem _
    have h4 := hv.2 j c _ hj h3
    rw [List.getElem?_take, if_pos h1, Array.getElem?_toList] at h3
    exact ⟨_, (hcell j).trans h3, s.rv h4⟩
  · have := RV.rsl (w := w.alloc (.cells cells t)) (L := zgr L σ.length { a := ⟨w.heap.size, 0, none⟩, cap := cap }) (σ := σ ++ [.row 0 sz cs]) σ.length 0 sz 0 n (some ⟨w.heap.size, 0, none⟩) cap ⟨_, List.getElem?_concat_length, .inl rfl⟩
      (fun _ _ _ _ => Nat.zero_le _) (Nat.zero_le _) (by omega) (fun e => by cases e) (fun _ => ⟨_, _, rfl⟩) (fun sz' cs' e => by
        rw [List.getElem?_concat_length] at e
        cases e
        rw [zF]
        exact ⟨rfl, by omega, hn, by simp, fun _ => by simp⟩)
    simpa using this

theorem snd_mkslice (S : Sim L σ w) (F : FR w L σ fr a.tmps) {t : TypeId} {n : Nat} {parts : Array (Nat × Operand)} {mu : Bool} {s : Nat} {z : List AV} {ps : List (Nat × Nat × Opd)} (ho : o.op = .buildSlice t n parts) (hc : zbu P o = some (.mkslice false s n z ps))
    (h : zar P (.mkslice mu s n z ps) fr σ K) : zai P o a L σ w K := by
  unfold zbu at hc
  rw [ho] at hc
  simp only at hc
  split at hc
  · rename_i e ht
    simp only [Option.bind_eq_bind, Option.bind_eq_some_iff, Option.pure_def] at hc
    obtain ⟨s', hs, z', hz, ps', hps, hc⟩ := hc
    split at hc
    · rename_i hcond
      simp only [Option.some.injEq, I.mkslice.injEq, true_and] at hc
      obtain ⟨rfl, rfl, rfl⟩ := hc
      simp only [Bool.and_eq_true, decide_eq_true_eq, beq_iff_eq] at hcond
      obtain ⟨⟨k1, k2⟩, k3⟩ := hcond
      obtain ⟨inf, zv, hi, hz1, hz2⟩ := zev hz
      obtain ⟨m1, m2⟩ := mapM_some hps
      have hzr := zkX hz2 (w := w) (L := L) (σ := σ)
      have hzs : zv.cells.size = s' := by have := hzr.1; simp at this; omega
      simp only [zar, zn] at h
      split at h
      · rename_i cs hcs
        have hinit : RVs w L σ (rep z' n) ((Array.range (n * s')).map (zv.cells[· % zv.cells.size]!)).toList := by
          refine ⟨by simp [zgv, k3], fun i c v hc hv => ?_⟩
          have hlt : i < n * s' := by have := ze hc; rw [zgv, k3] at this; exact this
          rw [rep_get z' s' k3 k2 n i hlt] at hc
          simp [hlt, hzs] at hv
          have hm : i % s' < s' := Nat.mod_lt _ k2
          have hv' : zv.cells.toList[i % s']? = some v := by
            rw [← hv]
            have : i % s' < zv.cells.size := by omega
            simp [this]
          exact hzr.2 _ _ _ hc hv'
        have hfill := zkH F (fun i => some (i * s', s')) parts.toList ps' (rep z' n) cs _ m1 (fun k p q hp hq => by
          have := m2 k p q hp hq
          simp only [Option.bind_eq_bind, Option.bind_eq_some_iff, Option.pure_def, Option.some.injEq] at this
          obtain ⟨y, hy, rfl⟩ := this
          exact ⟨rfl, hy⟩) hinit hcs
        obtain ⟨cells', g1, g2⟩ := hfill
        have hlen : cs.length = n * s' := by rw [znc hcs, zgv, k3]
        have g1' : Instr.fill (fun i => some (i * s', s')) ((Array.range (n * s')).map (zv.cells[· % zv.cells.size]!)) (parts.map fun p => (p.1, a.eval p.2)).toList = some cells' := by rw [Array.toList_map]; exact g1
        have hz0 : ∀ w, (zeroValue e).run P w = .ok zv w := fun w => by simp [zeroValue, typeInfo, hi, hz1]
        have hrun : (execOp a.eval o).run P w = .ok (.value (.slice (some ⟨w.heap.size, 0, none⟩) n n)) (w.alloc (.cells cells' e)) := by
          have := run_mkslice (P := P) (w := w) ht hs k1 hz0 g1'
          simp only [execOp, ho, Sem.run_bind, this, Result.andThen_ok, Sem.run_pure]
        cases mu
        · simp only [Bool.false_eq_true, if_false] at h
          split at h
          · rename_i ds hds
            obtain ⟨st, S'⟩ := zkV S (.cells cells' e)
            have hrd := block_elem S g2 hds e s' n hlen
            refine ⟨.exact (zad s' n ds), _, L, σ, _, .inl hrun, st, S', ?_, h⟩
            have hn : (zad s' n ds).length = n := zgw s' n ds
            have := RV.exact (w := w.alloc (.cells cells' e)) (L := L) (σ := σ) (zad s' n ds) (some ⟨w.heap.size, 0, none⟩) (by rw [hn]; exact hrd)
            rw [hn] at this; exact this
          · exact h.elim
        · simp only [if_true] at h
          obtain ⟨hsc, h⟩ := h
          obtain ⟨st, S', hr⟩ := new_row S (cells := cells') (by rw [List.take_of_length_le (by have := g2.1; simp at this ⊢; omega)]; exact g2) e s' n n k2 hlen (Nat.le_refl _) (by have := g2.1; simp at this; omega) (fun c hc => List.all_eq_true.1 hsc c hc)
          exact ⟨.rsl σ.length 0 s' 0 n, _, _, _, _, .inl hrun, st, S', hr, h⟩
      · exact h.elim
    · cases hc
  · cases hc

/-! append -/
def zoS (P : Program) (w : World) (sz : Nat) (v : Value) (m : Nat) (news : List Value) : Prop :=
  news.length = m * sz ∧ ∀ w' : World, w'.heap = w.heap → (Builtin.lenOf v).run P w' = .ok m w' ∧ (Builtin.firstCells sz m v).run P w' = .ok news.toArray w'

theorem cell?_heap {w w' : World} (h : w'.heap = w.heap) (p : Addr) : w'.cell? p = w.cell? p := by simp [World.cell?, h]

def zgs (w : World) (O : Nat → Nat → Prop) (sz : Nat) (es : List (List D)) (vs : List Value) : Prop :=
  ∀ (i : Nat) e (j : Nat) d, es[i]? = some e → e[j]? = some d → ∃ v, vs[i * sz + j]? = some v ∧ RD w O d v ∧ v.oneCell' = true

theorem RD.one {O : Nat → Nat → Prop} {x : D} {v : Value} (h : RD w O x v) : v.oneCell' = true := by cases h <;> rfl

theorem src_rd (P : Program) {O : Nat → Nat → Prop} {es : List (List D)} {v : Value} {sz : Nat} (h : RD w O (.slice es) v) (hsz : ∀ e ∈ es, e.length = sz) : ∃ news, zoS P w sz v es.length news ∧ zgs w O sz es news ∧ (∀ u ∈ news, u.oneCell' = true) := by
  cases h with
  | empty b cap hb =>
    refine ⟨[], ⟨by simp, fun w' _ => ?_⟩, fun i e j d hi _ => by simp at hi, by simp⟩
    cases b <;> simp [Builtin.lenOf, Builtin.firstCells, loadCells, loadCellsFrom]
  | slice es b off cap sz' vs h0 h1 h2 h3 h4 =>
    have : sz' = sz := by
      cases es with
      | nil => exact absurd rfl h0
      | cons e es => rw [← h2 e (by simp), hsz e (by simp)]
    subst this
    have hcell : ∀ k, k < es.length * sz' → w.cell? ⟨b, off + k, none⟩ = some (vs k) ∧ (vs k).oneCell' = true := fun k hk => by
      have hs : 0 < sz' := by
        rcases Nat.eq_zero_or_pos sz' with e | e
        · subst e; simp at hk
        · exact e
      have hi : k / sz' < es.length := Nat.div_lt_of_lt_mul (by rw [Nat.mul_comm]; exact hk)
      have hj : k % sz' < sz' := Nat.mod_lt _ hs
      have e1 : es[k / sz']? = some es[k / sz'] := List.getElem?_eq_getElem _
      have hl := h2 es[k / sz'] (List.getElem_mem _)
      have e2 : es[k / sz'][k % sz']? = some (es[k / sz'][k % sz']'(by omega)) := List.getElem?_eq_getElem _
      have e3 : k / sz' * sz' + k % sz' = k := by rw [Nat.mul_comm]; exact Nat.div_add_mod k sz'
      have c1 := (h3 _ _ _ _ e1 e2).1
      have c2 := h4 _ _ _ _ e1 e2
      rw [e3] at c1 c2
      exact ⟨c1, c2.one⟩
    refine ⟨(List.range (es.length * sz')).map vs, ⟨by simp, fun w' hw => ?_⟩, fun i e j d hi hj => ?_, ?_⟩
    · have := run_loadCells (P := P) w' ⟨b, off, none⟩ (es.length * sz') vs (fun j hj => by rw [zbw, cell?_heap hw]; exact (hcell j hj).1)
      simp [Builtin.lenOf, Builtin.firstCells, this]
    · have hl1 := ze hi
      have hl2 : j < sz' := by have := ze hj; rw [h2 e (List.mem_of_getElem? hi)] at this; exact this
      have hk : i * sz' + j < es.length * sz' := by
        have : (i + 1) * sz' ≤ es.length * sz' := Nat.mul_le_mul_right _ hl1
        rw [Nat.succ_mul] at this; omega
      exact ⟨vs (i * sz' + j), by simp [hk], h4 i e j d hi hj, (hcell _ hk).2⟩
    · intro u hu
      simp at hu
      obtain ⟨k, hk, rfl⟩ := hu
      exact (hcell k hk).2

theorem zpA (S : Sim L σ w) {x : AV} {v : Value} {sz : Nat} {ys : List (List D)} (h : RV w L σ x v) (hy : zeF σ sz x = some ys) (hsz : ∀ e ∈ ys, e.length = sz) :
    ∃ news, zoS P w sz v ys.length news ∧ zgs w (Own L σ) sz ys news ∧ (∀ u ∈ news, u.oneCell' = true) := by
  unfold zeF at hy
  split at hy
  · cases hy; cases h with | d _ _ h => exact src_rd P h hsz
  · cases hy; cases h with | own _ _ _ _ _ _ _ _ h => exact src_rd P h hsz
  · cases hy; cases h with | exact _ _ h => exact src_rd P h hsz
  · rename_i s
    cases hy
    have hX := h.str_inv
    subst hX
    refine ⟨s.map fun b => .int .u8 b.toNat, ⟨?_, fun w' _ => ?_⟩, fun i e j d hi hj => ?_, by simp; intros; rfl⟩
    · cases s with
      | nil => simp
      | cons b s => have : sz = 1 := by rw [← hsz (zcj b) (by simp)]; rfl
                    subst this; simp
    · have hl : (ByteArray.mk s.toArray).size = s.length := by simp [ByteArray.size]
      refine ⟨by simp [Builtin.lenOf, hl], ?_⟩
      have : (ByteArray.mk s.toArray).extract 0 (s.map zcj).length = ⟨s.toArray⟩ := by
        apply ByteArray.ext
        rw [ByteArray.data_extract]
        apply Array.ext'
        simp
      simp only [Builtin.firstCells, this]
      simp
    · simp only [List.getElem?_map, Option.map_eq_some_iff] at hi
      obtain ⟨b, hb, rfl⟩ := hi
      have hsz1 : sz = 1 := by rw [← hsz (zcj b) (List.mem_map_of_mem (List.mem_of_getElem? hb))]; rfl
      subst hsz1
      have hj0 : j = 0 := by have := ze hj; simp [zcj] at this; exact this
      subst hj0
      simp [zcj] at hj; subst hj
      exact ⟨.int .u8 b.toNat, by simp [hb], .int _ _, rfl⟩
  · rename_i id off len cap s
    split at hy
    · rename_i hs; subst hs
      split at hy
      · rename_i cs hcs
        split at hy
        · rename_i hle
          simp only [Option.map_eq_some_iff] at hy
          obtain ⟨ds, hds, rfl⟩ := hy
          obtain ⟨hX, hfix, hlc⟩ := h.bsl_inv
          subst hX
          obtain ⟨_, _, hcells⟩ := S.obj id _ hcs
          obtain ⟨g1, g2⟩ := zlY hds
          have hdl : ds.length = len * s := by rw [g1]; simp; omega
          have hat : ∀ k, k < len * s → ∃ v, w.cell? ⟨(L id).a.block, (L id).a.off + off + k, none⟩ = some v ∧ ∀ d, ds[k]? = some d → RD w (Own L σ) d v := fun k hk => by
            have hc : cs[off + k]? = some (cs[off + k]'(by omega)) := List.getElem?_eq_getElem _
            obtain ⟨_, v, c1, c2⟩ := hcells (off + k) _ hc
            rw [← Nat.add_assoc] at c1
            refine ⟨v, c1, fun d hd => toD_sound c2 (g2 k _ d ?_ hd)⟩
            rw [List.getElem?_take, if_pos hk, List.getElem?_drop]; exact hc
          refine ⟨(List.range (len * s)).map fun k => (w.cell? ⟨(L id).a.block, (L id).a.off + off + k, none⟩).getD undef, ⟨by simp [zgw], fun w' hw => ?_⟩, fun i e j d hi hj => ?_, ?_⟩
          · rw [zgw]
            have := run_loadCells (P := P) w' ⟨(L id).a.block, (L id).a.off + off, none⟩ (len * s) (fun k => (w.cell? ⟨(L id).a.block, (L id).a.off + off + k, none⟩).getD undef) (fun j hj => by
              obtain ⟨v, c1, _⟩ := hat j hj
              rw [zbw, cell?_heap hw, c1]; rfl)
            simp [Builtin.lenOf, Builtin.firstCells, this]
          · obtain ⟨c1, c2, c3⟩ := zjQ s len ds i e j d hi hj
            have hk := ze c3
            rw [hdl] at hk
            obtain ⟨v, e1, e2⟩ := hat _ hk
            exact ⟨v, by simp [hk, e1], e2 d c3, (e2 d c3).one⟩
          · intro u hu
            simp at hu
            obtain ⟨k, hk, rfl⟩ := hu
            obtain ⟨v, e1, e2⟩ := hat k hk
            rw [e1]
            exact (e2 (ds[k]'(by omega)) (List.getElem?_eq_getElem _)).one
        · cases hy
      · cases hy
    · cases hy
  · cases hy

section run

variable {t u e ty : TypeId} {inf : TypeInfo} {z : Value} {sz bytes : Nat} {base : Option Addr} {n cap m : Nat} {x : Value} {olds news : List Value}

theorem run_append_room' (ht : P.underlying t = some (.slice e)) (hu : (∃ e', P.underlying u = some (.slice e')) ∨ P.underlying u = some .string) (hs : sizeOf? P e = some sz) (hx : zoS P w sz x m news) (hroom : n + m ≤ cap) :
    (Builtin.append_ #[t, u] ty #[.slice base n cap, x]).run P w =
      ((match base with | some a => storeCells (a.add (n * sz)) news | none => pure ()).run P w).andThen fun _ w' => .ok (.slice base (n + m) cap) w' := by
  obtain ⟨h1, h2⟩ := hx.2 w rfl
  rcases hu with ⟨e', hu⟩ | hu <;> cases base <;>
    simp [Builtin.append_, run_underlying ht, run_underlying hu, zbj hs, h1, h2, hroom]

theorem run_append_grow' (ht : P.underlying t = some (.slice e)) (hu : (∃ e', P.underlying u = some (.slice e')) ∨ P.underlying u = some .string) (hi : P.info? e = some inf) (hz : inf.zero = some z) (hs : inf.size = sz) (hb : inf.bytes = bytes) (hb0 : 0 < bytes)
    (hx : zoS P w sz x m news) (ho : zoS P w sz (.slice base n cap) n olds) (hroom : ¬ n + m ≤ cap) (hfit : (n + m) * bytes ≤ 140737488355328) :
    (Builtin.append_ #[t, u] ty #[.slice base n cap, x]).run P w =
      .ok (.slice (some ⟨w.heap.size, 0, none⟩) (n + m) (grownCap w (n + m) cap e)) (w.drew.alloc (.cells (olds.toArray ++ news.toArray ++ Builtin.zeroCells z.cells (grownCap w (n + m) cap e - (n + m))) e)) := by
  obtain ⟨h1, h2⟩ := hx.2 w rfl
  obtain ⟨h1', h2'⟩ := hx.2 w.drew rfl
  obtain ⟨h3, h4⟩ := ho.2 w.drew rfl
  have hg := growslice_fits (need := n + m) (old := cap) (bytes := bytes) (by omega) hfit
  have hg' : ¬ (281474976710656 < Builtin.nextslicecap (n + m) cap * bytes) := by omega
  have hb1 : bytes ≠ 0 := by omega
  rcases hu with ⟨e', hu⟩ | hu <;>
    simp [Builtin.append_, run_underlying ht, run_underlying hu, sizeOf, typeInfo, zeroValue, hi, hz, hs, hb, hb1, h1, hroom, hg', Question.forced, h2', h4, newRow, grownCap] <;>
    (congr 2; apply Array.ext'; simp [List.append_assoc])
end run

end

section
variable {P : Program} {o : Oper} {i : I} {fr : zE} {σ : List zc} {K : AV → List zc → Prop} {L : Nat → Loc} {w : World} {a : Act}

theorem zng {O : Nat → Nat → Prop} {sz : Nat} {es ys : List (List D)} {olds news : List Value} (h1 : zgs w O sz es olds) (h2 : zgs w O sz ys news) (hl : olds.length = es.length * sz) :
    zgs w O sz (es ++ ys) (olds ++ news) := by
  intro i e j d hi hj
  rcases Nat.lt_or_ge i es.length with hlt | hge
  · rw [List.getElem?_append_left hlt] at hi
    obtain ⟨v, c1, c2⟩ := h1 i e j d hi hj
    exact ⟨v, by rw [List.getElem?_append_left (ze c1)]; exact c1, c2⟩
  · rw [List.getElem?_append_right hge] at hi
    obtain ⟨v, c1, c2⟩ := h2 _ e j d hi hj
    have e1 : i * sz = (i - es.length) * sz + es.length * sz := by rw [← Nat.add_mul]; congr 1; omega
    refine ⟨v, ?_, c2⟩
    rw [List.getElem?_append_right (by rw [hl]; omega), hl]
    rw [show i * sz + j - es.length * sz = (i - es.length) * sz + j by omega]
    exact c1

theorem zgs.step {L L' : Nat → Loc} {σ σ' : List zc} {w w' : World} (s : zcq L σ w L' σ' w') {sz : Nat} {es : List (List D)} {vs : List Value} (h : zgs w (Own L σ) sz es vs) : zgs w' (Own L' σ') sz es vs := by
  intro i e j d hi hj
  obtain ⟨v, c1, c2, c3⟩ := h i e j d hi hj
  exact ⟨v, c1, s.rd c2, c3⟩

theorem zmH (id sz n : Nat) : ∀ (vs : List Value) (off i : Nat) (w : World), Sim L σ w → σ[id]? = some (.tok sz n) → (L id).nil = false → (L id).a.spot = none → (∀ v ∈ vs, v.oneCell' = true) →
    (L id).a.off + n * sz ≤ (L id).a.off + off + i → off + i + vs.length ≤ (L id).cap * sz →
    ∃ w', (storeCells ⟨(L id).a.block, (L id).a.off + off, none⟩ vs i).run P w = .ok () w' ∧ zcq L σ w L σ w' ∧ Sim L σ w' ∧ w'.heap.size = w.heap.size ∧
      (∀ k v, vs[k]? = some v → w'.cell? ⟨(L id).a.block, (L id).a.off + off + i + k, none⟩ = some v) ∧
      (∀ p, (p.block ≠ (L id).a.block ∨ p.off < (L id).a.off + off + i ∨ p.spot ≠ none) → w'.cell? p = w.cell? p)
  | [], off, i, w, S, _, _, _, _, _, _ => ⟨w, by simp [storeCells], zcq.refl _ _ _, S, rfl, by simp, fun _ _ => rfl⟩
  | v :: vs, off, i, w, S, hx, hn, hsp, hone, hlo, hhi => by
    simp only [List.length_cons] at hhi
    obtain ⟨s1, S1⟩ := tok_store S hx (o := (L id).a.off + off + i) hn (by omega) (by omega) v
    obtain ⟨_, _, _, h3⟩ := S.obj id _ hx
    obtain ⟨⟨u, hu⟩, hf⟩ := h3 hn ((L id).a.off + off + i) (by omega) (by omega)
    obtain ⟨w', r, s2, S2, hs, hc, hk⟩ := zmH id sz n vs off (i + 1) _ S1 hx hn hsp (fun v hv => hone v (by simp [hv])) (by omega) (by omega)
    have ho := hone v (by simp)
    have hst : (store ((Addr.mk (L id).a.block ((L id).a.off + off) none).add i) v).run P w = .ok () (w.setCell ⟨(L id).a.block, (L id).a.off + off + i, none⟩ v) := by
      rw [zbw]
      cases v <;> first | (simp [Value.oneCell'] at ho; done) | simp [store, Sem.run, hu, hf]
    refine ⟨w', by rw [storeCells]; simp [hst, r], s1.trans s2, S2, by rw [hs]; simp, fun k x hk' => ?_, fun p hp => ?_⟩
    · cases k with
      | zero =>
        simp at hk'; subst hk'
        rw [hk _ (.inr (.inl (by dsimp only; omega)))]
        exact World.cell?_setCell_same w _ _ hu
      | succ k =>
        simp at hk'
        have := hc k x hk'
        rw [show (L id).a.off + off + i + (k + 1) = (L id).a.off + off + (i + 1) + k by omega]
        exact this
    · rw [hk p (Or.imp_right (Or.imp_left fun h => by omega) hp)]
      refine World.cell?_setCell_other w _ _ v fun e => ?_
      subst e
      rcases hp with h | h | h
      · exact h rfl
      · dsimp only at h; omega
      · exact h rfl

theorem snd_append (S : Sim L σ w) (F : FR w L σ fr a.tmps) {c : Call} {t u e : TypeId} {x y : Operand} {x' y' : Opd} {sz bytes : Nat} {zz : List AV} {inf : TypeInfo} (ho : o.op = .call c) (hcal : c.callee = .builtin .append) (hat : c.argTypes.toList = [t, u]) (hargs : c.args.toList = [x, y])
    (ht : P.underlying t = some (.slice e)) (hu : (∃ e', P.underlying u = some (.slice e')) ∨ P.underlying u = some .string) (hs : sizeOf? P e = some sz) (hi : P.info? e = some inf) (hz : zlW P e = some zz) (hsz : 0 < sz) (hzl : zz.length = sz) (hb0 : 0 < inf.bytes) (hb : inf.bytes = bytes)
    (hx : opd x = some x') (hy : opd y = some y') (h : zar P (.append false sz bytes zz x' y') fr σ K) : zai P o a L σ w K := by
  have hargs' : c.args = #[x, y] := by apply Array.ext'; simpa using hargs
  have hat' : c.argTypes = #[t, u] := by apply Array.ext'; simpa using hat
  have hvx := zA F hx
  have hvy := zA F hy
  have hisz : inf.size = sz := by simp only [sizeOf?, hi, Option.map_some, Option.some.injEq] at hs; exact hs
  obtain ⟨inf', z, hi', hz1, hz2⟩ := zev hz
  rw [hi] at hi'; cases hi'
  have hzs : z.cells.size = sz := by have := (mapM_some hz2).1; simp at this; omega
  have fin : ∀ {v w'}, (Builtin.append_ #[t, u] o.type #[a.eval x, a.eval y]).run P w = .ok v w' → (execOp a.eval o).run P w = .ok (.value v) w' := fun {v w'} h1 => by
    simp [execOp, ho, resolve, hcal, hargs', hat', invoke, builtin, h1]
  simp only [zar, zD] at h
  split at h
  · rename_i ys hys
    obtain ⟨hysz, h⟩ := h
    obtain ⟨news, hnews, hncells, hnone⟩ := zpA (P := P) S hvy hys hysz
    have size_new : ∀ {olds : List Value} {n cap : Nat}, olds.length = n * sz → ¬ n + ys.length ≤ cap →
        (olds.toArray ++ news.toArray ++ Builtin.zeroCells z.cells (grownCap w (n + ys.length) cap e - (n + ys.length))).size = grownCap w (n + ys.length) cap e * sz := fun {olds n cap} hol _ => by
      have hge := grownCap_ge w (n + ys.length) cap e
      simp only [Array.size_append, List.size_toArray, size_zeroCells, hzs, hol, hnews.1, ← Nat.add_mul]
      congr 1; omega
    split at h
    · -- a slice without spare places
      rename_i es hes
      obtain ⟨hesz, hfit, hK⟩ := h
      rw [hes] at hvx
      generalize hX : a.eval x = X at hvx
      cases hvx with | exact _ b hrd =>
      obtain ⟨olds, holds, hocells, hoone⟩ := src_rd P hrd hesz
      by_cases hm : ys.length = 0
      · have hys0 : ys = [] := List.eq_nil_of_length_eq_zero hm
        have hn0 : news = [] := List.eq_nil_of_length_eq_zero (by rw [hnews.1, hm]; simp)
        have hrun := run_append_room' (P := P) (w := w) (ty := o.type) (base := b) (n := es.length) (cap := es.length) ht hu hs hnews (by omega)
        have hrun' : (Builtin.append_ #[t, u] o.type #[a.eval x, a.eval y]).run P w = .ok (.slice b es.length es.length) w := by
          rw [hX, hrun, hn0, hm]
          cases b <;> simp [storeCells]
        -- an end that owns nothing
        have hspot : b = none → es.length = 0 := fun hb' => by
          cases hrd with
          | empty => rfl
          | slice => cases hb'
        let l : Loc := { a := b.getD ⟨0, 0, none⟩, nil := b.isNone, cap := es.length }
        have hnoFoot : ∀ p q, ¬ zdB l (.tok sz es.length) p q := fun p q hf => by
          obtain ⟨_, _, h1, h2⟩ := hf
          dsimp only [l] at h1 h2; omega
        have hown : ∀ p q, Own (zgr L σ.length l) (σ ++ [.tok sz es.length]) p q → Own L σ p q := fun p q hf => by
          obtain ⟨id, ob, ho', hf⟩ := hf
          rcases Nat.lt_or_ge id σ.length with hl | hl
          · rw [List.getElem?_append_left hl] at ho'
            rw [zaO (by omega)] at hf
            exact ⟨id, ob, ho', hf⟩
          · rw [List.getElem?_append_right hl] at ho'
            have e1 : id = σ.length := by have := ze ho'; simp at this; omega
            subst e1
            simp at ho'; subst ho'
            rw [zF] at hf
            exact absurd hf (hnoFoot _ _)
        have st : zcq L σ w (zgr L σ.length l) (σ ++ [.tok sz es.length]) w :=
          ⟨rfl, rfl, rfl, Nat.le_refl _, fun _ _ _ => rfl, fun _ _ _ _ => rfl, fun _ _ _ _ => rfl, fun p q _ hf => hown p q hf, by simp, fun id ob hob => by
            have hl := ze hob
            exact .stay (by rw [List.getElem?_append_left hl]; exact hob) (zaO (by omega))⟩
        have hget : ∀ {id ob}, (σ ++ [zc.tok sz es.length])[id]? = some ob → (id < σ.length ∧ σ[id]? = some ob) ∨ (id = σ.length ∧ ob = .tok sz es.length) := fun {id ob} hy => by
          rcases Nat.lt_or_ge id σ.length with hl | hl
          · rw [List.getElem?_append_left hl] at hy; exact .inl ⟨hl, hy⟩
          · rw [List.getElem?_append_right hl] at hy
            have e : id = σ.length := by have := ze hy; simp at this; omega
            subst e; simp at hy; exact .inr ⟨rfl, hy.symm⟩
        have S' : Sim (zgr L σ.length l) (σ ++ [.tok sz es.length]) w := by
          refine ⟨fun id ob hob => ?_, fun i j p q b' o' hij hp hq hfp hfq => ?_⟩
          · rcases hget hob with ⟨hl, hob⟩ | ⟨rfl, rfl⟩
            · rw [zaO (by omega)]
              exact (S.obj id ob hob).keep st (fun _ _ _ => ⟨rfl, rfl⟩) (fun _ _ => rfl)
            · rw [zF]
              refine ⟨Nat.le_refl _, fun hn => ?_, fun hn hc => ?_, fun hn o' h1 h2 => ?_⟩
              · exact hspot (by simpa [l] using hn)
              · dsimp only [l] at hc ⊢
                cases hrd with
                | empty => simp at hc
                | slice => rfl
              · dsimp only [l] at h1 h2; omega
          · rcases hget hp with ⟨hl, hp1⟩ | ⟨e1, e2⟩
            · rcases hget hq with ⟨hl', hq1⟩ | ⟨e1, e2⟩
              · rw [zaO (by omega)] at hfp hfq
                exact S.apart i j p q b' o' hij hp1 hq1 hfp hfq
              · rw [e1, zF, e2] at hfq
                exact hnoFoot _ _ hfq
            · rw [e1, zF, e2] at hfp
              exact hnoFoot _ _ hfp
        subst hys0
        simp only [List.append_nil, List.length_nil, Nat.add_zero] at hK
        refine ⟨.own σ.length es, _, _, _, w, .inl (fin hrun'), st, S', .own σ.length es _ sz es.length (by simp) (Nat.le_refl _) hesz (st.rd hrd) (fun _ => ?_), hK⟩
        rw [zF]
        dsimp only [l]
        cases b <;> simp
      · have hroom : ¬ es.length + ys.length ≤ es.length := by omega
        have hrun := run_append_grow' (P := P) (w := w) (ty := o.type) (base := b) (n := es.length) (cap := es.length) ht hu hi hz1 hisz hb (hb ▸ hb0) hnews holds hroom hfit
        have hrun' := hrun
        rw [← hX] at hrun'
        have hsize := size_new holds.1 hroom
        have hge := grownCap_ge w (es.length + ys.length) es.length e
        generalize hgc : grownCap w (es.length + ys.length) es.length e = gc at *
        generalize hcs : olds.toArray ++ news.toArray ++ Builtin.zeroCells z.cells (gc - (es.length + ys.length)) = cells at *
        obtain ⟨S1, s1⟩ := S.drew (w.drawn + 1)
        have hf : ∀ p q, zdB { a := ⟨w.heap.size, 0, none⟩, cap := gc } (.tok sz (es.length + ys.length)) p q → p = w.heap.size := fun p q hf => hf.2.1
        have s2 := zcO L σ (w := w.drew) (.cells cells e) { a := ⟨w.heap.size, 0, none⟩, cap := gc } (.tok sz (es.length + ys.length)) hf
        have S2 := zdR (w := w.drew) S1 (.cells cells e) { a := ⟨w.heap.size, 0, none⟩, cap := gc } (.tok sz (es.length + ys.length)) hf (by
          refine ⟨hge, fun h => Bool.noConfusion h, fun _ _ => rfl, fun _ q h1 h2 => ⟨?_, World.frozen?_alloc_at cells e _ q rfl⟩⟩
          dsimp only at h1 h2
          have hlt : q < cells.size := by omega
          refine ⟨cells[q], ?_⟩
          have := cell?_alloc_any w.drew cells e (0, 0) q
          exact this.trans (Array.getElem?_eq_getElem hlt))
        have s12 := s1.trans s2
        refine ⟨.own σ.length (es ++ ys), _, _, _, _, .inl (fin hrun'), s12, S2, .own σ.length (es ++ ys) _ sz (es.length + ys.length) (by simp) (by simp) ?_ ?_ (fun _ => ?_), hK⟩
        · intro e' he'
          exact (List.mem_append.1 he').elim (hesz _) (hysz _)
        · have hlen : (es ++ ys).length = es.length + ys.length := by simp
          suffices hsuff : RD (w.drew.alloc (.cells cells e)) (Own (zgr L σ.length { a := ⟨w.heap.size, 0, none⟩, cap := gc }) (σ ++ [.tok sz (es.length + ys.length)])) (.slice (es ++ ys)) (.slice (some ⟨w.heap.size, 0, none⟩) (es ++ ys).length gc) by
            rw [hlen] at hsuff; exact hsuff
          refine RD.of_block (sz := sz) (by rw [hlen]; exact hge) (fun e' he' => by exact (List.mem_append.1 he').elim (hesz _) (hysz _)) fun i e' j d hi hj => ?_
          obtain ⟨v, c1, c2, _⟩ := (zng hocells hncells holds.1).step s12 i e' j d hi hj
          refine ⟨v, ?_, fun hown => ?_, c2⟩
          · rw [Nat.zero_add]
            have := cell?_alloc_any w.drew cells e (0, 0) (i * sz + j)
            refine this.trans ?_
            rw [← hcs, Array.getElem?_append_left (by have := ze c1; simpa using this)]
            simpa using c1
          · obtain ⟨id, ob, ho', hf'⟩ := hown
            have hij : i * sz + j < (es.length + ys.length) * sz := by
              have h1 := ze c1
              rw [List.length_append, holds.1, hnews.1, ← Nat.add_mul] at h1
              exact h1
            rcases Nat.lt_or_ge id σ.length with hl | hl
            · rw [List.getElem?_append_left hl] at ho'
              rw [zaO (by omega)] at hf'
              have := hf'.lt (S.obj id ob ho')
              exact Nat.lt_irrefl _ this
            · rw [List.getElem?_append_right hl] at ho'
              have e1 : id = σ.length := by have := ze ho'; simp at this; omega
              subst e1
              simp at ho'; subst ho'
              rw [zF] at hf'
              have := hf'.2.2.1
              dsimp only at this; omega
        · rw [zF]; rfl
    · -- a row of the call's own
      rename_i tk es hes
      obtain ⟨hfit, htk, hK⟩ := h
      rw [hes] at hvx
      generalize hX : a.eval x = X at hvx
      cases hvx with | own _ _ _ sz' n0 k1 k2 k3 k4 k5 =>
      rw [htk] at k1
      obtain ⟨rfl, rfl⟩ : sz = sz' ∧ es.length = n0 := by cases k1; exact ⟨rfl, rfl⟩
      have hXv := k5 rfl
      rw [hXv] at k4
      obtain ⟨t1, t2, t3, t4⟩ := S.obj tk _ htk
      obtain ⟨olds, holds, hocells, hoone⟩ := src_rd P k4 k3
      have hall : ∀ e' ∈ es ++ ys, e'.length = sz := fun e' he' => by exact (List.mem_append.1 he').elim (k3 _) (hysz _)
      have hlen : (es ++ ys).length = es.length + ys.length := by simp
      by_cases hroom : es.length + ys.length ≤ (L tk).cap
      · have hrun := run_append_room' (P := P) (w := w) (ty := o.type) (base := if (L tk).nil then none else some (L tk).a) (n := es.length) (cap := (L tk).cap) ht hu hs hnews hroom
        by_cases hnil : (L tk).nil = true
        · -- nil: nothing is there, nothing comes
          have hc0 := t2 hnil
          have hes0 : es = [] := List.eq_nil_of_length_eq_zero (by omega)
          have hys0 : ys = [] := List.eq_nil_of_length_eq_zero (by omega)
          subst hes0; subst hys0
          have hset : σ.set tk (.tok sz 0) = σ := by
            obtain ⟨hl, hh⟩ := List.getElem?_eq_some_iff.1 htk
            have : σ[tk] = .tok sz 0 := hh
            rw [← this]; exact List.set_getElem_self hl
          simp only [List.append_nil, List.length_nil, Nat.add_zero, hset] at hK
          have hrun' : (Builtin.append_ #[t, u] o.type #[a.eval x, a.eval y]).run P w = .ok (.slice none 0 (L tk).cap) w := by
            rw [hX, hXv, hnil] at *
            simpa using hrun
          refine .same S (r := .own tk []) (fin hrun') (.own tk [] _ sz 0 htk (Nat.le_refl _) (by simp) ?_ (fun _ => by rw [hnil]; rfl)) hK
          rw [hnil] at k4; simpa using k4
        · have hnil' : (L tk).nil = false := by simpa using hnil
          rw [hnil'] at hrun hXv k4
          simp only [Bool.false_eq_true, if_false] at hrun hXv k4
          by_cases hcap0 : (L tk).cap = 0
          · have hes0 : es = [] := List.eq_nil_of_length_eq_zero (by omega)
            have hys0 : ys = [] := List.eq_nil_of_length_eq_zero (by omega)
            subst hes0; subst hys0
            have hset : σ.set tk (.tok sz 0) = σ := by
              obtain ⟨hl, hh⟩ := List.getElem?_eq_some_iff.1 htk
              have : σ[tk] = .tok sz 0 := hh
              rw [← this]; exact List.set_getElem_self hl
            simp only [List.append_nil, List.length_nil, Nat.add_zero, hset] at hK
            have hn0 : news = [] := List.eq_nil_of_length_eq_zero (by rw [hnews.1]; simp)
            have hrun' : (Builtin.append_ #[t, u] o.type #[a.eval x, a.eval y]).run P w = .ok (.slice (some (L tk).a) 0 (L tk).cap) w := by
              rw [hX, hXv]
              have := hrun
              rw [hn0] at this
              simpa [storeCells] using this
            exact .same S (r := .own tk []) (fin hrun') (.own tk [] _ sz 0 htk (Nat.le_refl _) (by simp) (by simpa using k4) (fun _ => by rw [hnil']; rfl)) hK
          · obtain ⟨A, hA⟩ : ∃ A, A = (L tk).a := ⟨_, rfl⟩
            rw [← hA] at k4
            have hspot := t3 hnil' (by omega)
            have haddr : (L tk).a = ⟨(L tk).a.block, (L tk).a.off, none⟩ := by
              cases hA : (L tk).a with | mk b1 o1 s1 => rw [hA] at hspot; simp at hspot; rw [hspot]
            have hmulle : es.length * sz + ys.length * sz ≤ (L tk).cap * sz := by rw [← Nat.add_mul]; exact Nat.mul_le_mul_right _ hroom
            obtain ⟨w', r, s1, S1, hws, hc, hk⟩ := zmH (P := P) tk sz es.length news (es.length * sz) 0 w S htk hnil' hspot hnone (by omega) (by rw [hnews.1]; omega)
            obtain ⟨s2, S2⟩ := tok_fill S1 htk (m := es.length + ys.length) (by omega) hroom
            have s12 := s1.trans s2
            have hrun' : (Builtin.append_ #[t, u] o.type #[a.eval x, a.eval y]).run P w = .ok (.slice (some (L tk).a) (es.length + ys.length) (L tk).cap) w' := by
              rw [hX, hXv, hrun]
              have : (storeCells ((L tk).a.add (es.length * sz)) news).run P w = .ok () w' := by
                have e1 : (L tk).a.add (es.length * sz) = ⟨(L tk).a.block, (L tk).a.off + es.length * sz, none⟩ := by
                  conv => lhs; rw [haddr]
                  exact zbw _ _ _
                rw [e1]; exact r
              simp [this]
            refine ⟨.own tk (es ++ ys), _, L, _, w', .inl (fin hrun'), s12, S2, .own tk (es ++ ys) _ sz (es.length + ys.length) (by simp [ze htk]) (by simp) hall ?_ (fun _ => by rw [hnil']; rfl), hK⟩
            suffices hsuff : RD w' (Own L (σ.set tk (.tok sz (es.length + ys.length)))) (.slice (es ++ ys)) (.slice (some ⟨(L tk).a.block, (L tk).a.off, none⟩) (es ++ ys).length (L tk).cap) by
              rw [hlen, ← haddr] at hsuff; exact hsuff
            refine RD.of_block (sz := sz) (by rw [hlen]; exact hroom) hall fun i e' j d hi hj => ?_
            have hnotown : i * sz + j < (es.length + ys.length) * sz → ¬ Own L (σ.set tk (.tok sz (es.length + ys.length))) (L tk).a.block ((L tk).a.off + (i * sz + j)) := fun hlt hown => by
              by_cases hil : i < es.length
              · -- an old cell: it was not owned
                rw [List.getElem?_append_left hil] at hi
                cases k4 with
                | empty => simp at hil
                | slice _ b1 o1 c1 sz1 vs g0 g1 g2 g3 g4 =>
                  have : sz1 = sz := by rw [← g2 e' (List.mem_of_getElem? hi), k3 e' (List.mem_of_getElem? hi)]
                  subst this
                  have hno := (g3 i e' j d hi hj).2
                  have hb1 := cell?_some_lt (g3 i e' j d hi hj).1
                  have e1 : b1 = (L tk).a.block := by rw [← hA]
                  have e2 : o1 = (L tk).a.off := by rw [← hA]
                  rw [e1, e2] at hno
                  rw [e1] at hb1
                  exact hno (s12.own _ _ hb1 hown)
              · obtain ⟨id, ob, ho', hf'⟩ := hown
                have hlow : es.length * sz ≤ i * sz := Nat.mul_le_mul_right _ (by omega)
                have hin : zdB (L tk) (.tok sz es.length) (L tk).a.block ((L tk).a.off + (i * sz + j)) := ⟨hnil', rfl, by omega, by rw [Nat.add_mul] at hlt; omega⟩
                rcases zab ho' with ⟨rfl, rfl⟩ | ⟨hne, ho'⟩
                · have := hf'.2.2.1; omega
                · exact S.apart id tk ob _ _ _ hne ho' htk hf' hin
            have hbase : (L tk).a.block < w.heap.size := by
              have hq : (L tk).a.off + es.length * sz < (L tk).a.off + (L tk).cap * sz ∨ es.length = (L tk).cap := by
                rcases Nat.lt_or_ge es.length (L tk).cap with h | h
                · left
                  have : (es.length + 1) * sz ≤ (L tk).cap * sz := Nat.mul_le_mul_right _ h
                  rw [Nat.succ_mul] at this; omega
                · right; omega
              rcases hq with hq | hq
              · obtain ⟨⟨u', hu'⟩, _⟩ := t4 hnil' _ (Nat.le_refl _) hq
                exact cell?_some_lt hu'
              · cases k4 with
                | empty => simp at hq; omega
                | slice _ b1 o1 c1 sz1 vs g0 g1 g2 g3 g4 =>
                  have e1 : b1 = (L tk).a.block := by rw [← hA]
                  cases es with
                  | nil => exact absurd rfl g0
                  | cons e0 es =>
                    have l0 := k3 e0 (by simp)
                    have : e0[0]? = some (e0[0]'(by omega)) := List.getElem?_eq_getElem _
                    have := cell?_some_lt (g3 0 e0 0 _ rfl this).1
                    rw [← e1]; exact this
            by_cases hil : i < es.length
            · have hi' := hi
              rw [List.getElem?_append_left hil] at hi'
              cases k4 with
              | empty => simp at hil
              | slice _ b1 o1 c1 sz1 vs g0 g1 g2 g3 g4 =>
                have : sz1 = sz := by rw [← g2 e' (List.mem_of_getElem? hi'), k3 e' (List.mem_of_getElem? hi')]
                subst this
                obtain ⟨hcell, hno⟩ := g3 i e' j d hi' hj
                have hrd := g4 i e' j d hi' hj
                have e1 : b1 = (L tk).a.block := by rw [← hA]
                have e2 : o1 = (L tk).a.off := by rw [← hA]
                have hb1 := cell?_some_lt hcell
                rw [e1, e2] at hcell hno
                rw [e1] at hb1
                exact ⟨_, (s12.cell _ _ hb1 hno).trans hcell, fun hown => hno (s12.own _ _ hb1 hown), s12.rd hrd⟩
            · have hi' := hi
              rw [List.getElem?_append_right (by omega)] at hi'
              obtain ⟨v, c1, c2, _⟩ := hncells _ e' j d hi' hj
              have hlt1 := ze c1
              have e1 : i * sz = (i - es.length) * sz + es.length * sz := by rw [← Nat.add_mul]; congr 1; omega
              refine ⟨v, ?_, hnotown (by rw [hnews.1] at hlt1; rw [Nat.add_mul]; omega), s12.rd c2⟩
              have := hc _ v c1
              rw [show (L tk).a.off + (i * sz + j) = (L tk).a.off + es.length * sz + 0 + ((i - es.length) * sz + j) by omega]
              exact this
      · have hrun := run_append_grow' (P := P) (w := w) (ty := o.type) (base := if (L tk).nil then none else some (L tk).a) (n := es.length) (cap := (L tk).cap) ht hu hi hz1 hisz hb (hb ▸ hb0) hnews holds hroom hfit
        have hrun' := hrun
        rw [← hXv, ← hX] at hrun'
        have hsize := size_new holds.1 hroom
        have hge := grownCap_ge w (es.length + ys.length) (L tk).cap e
        generalize hgc : grownCap w (es.length + ys.length) (L tk).cap e = gc at *
        generalize hcs : olds.toArray ++ news.toArray ++ Builtin.zeroCells z.cells (gc - (es.length + ys.length)) = cells at *
        obtain ⟨S1, s1⟩ := S.drew (w.drawn + 1)
        obtain ⟨s2, S2⟩ := tok_move (w := w.drew) S1 htk (m := es.length + ys.length) (by omega) cells e gc hge hsize
        have s12 := s1.trans s2
        refine ⟨.own tk (es ++ ys), _, _, _, _, .inl (fin hrun'), s12, S2, .own tk (es ++ ys) _ sz (es.length + ys.length) (by simp [ze htk]) (by simp) hall ?_ (fun _ => ?_), hK⟩
        · suffices hsuff : RD (w.drew.alloc (.cells cells e)) (Own (zgr L tk { a := ⟨w.heap.size, 0, none⟩, cap := gc }) (σ.set tk (.tok sz (es.length + ys.length)))) (.slice (es ++ ys)) (.slice (some ⟨w.heap.size, 0, none⟩) (es ++ ys).length gc) by
            rw [hlen] at hsuff; exact hsuff
          refine RD.of_block (sz := sz) (by rw [hlen]; exact hge) hall fun i e' j d hi hj => ?_
          obtain ⟨v, c1, c2, _⟩ := (zng hocells hncells holds.1).step s12 i e' j d hi hj
          have hij : i * sz + j < (es.length + ys.length) * sz := by
            have h1 := ze c1
            rw [List.length_append, holds.1, hnews.1, ← Nat.add_mul] at h1
            exact h1
          refine ⟨v, ?_, fun hown => ?_, c2⟩
          · rw [Nat.zero_add]
            have := cell?_alloc_any w.drew cells e (0, 0) (i * sz + j)
            refine this.trans ?_
            rw [← hcs, Array.getElem?_append_left (by have := ze c1; simpa using this)]
            simpa using c1
          · obtain ⟨id, ob, ho', hf'⟩ := hown
            rcases zab ho' with ⟨rfl, rfl⟩ | ⟨hne, ho'⟩
            · rw [zF] at hf'
              have := hf'.2.2.1
              dsimp only at this; omega
            · rw [zaO hne] at hf'
              have := hf'.lt (S.obj id ob ho')
              exact Nat.lt_irrefl _ this
        · rw [zF]; rfl
    · exact h.elim
  · exact h.elim

end

section
variable {P : Program} {w : World} {L : Nat → Loc} {σ : List zc}

theorem add_tok (S : Sim L σ w) (sz n : Nat) (a : Option Addr) (ha : a = none → n = 0) (hs : 0 < n → ∀ b, a = some b → b.spot = none) :
    let l : Loc := { a := a.getD ⟨0, 0, none⟩, nil := a.isNone, cap := n }
    zcq L σ w (zgr L σ.length l) (σ ++ [.tok sz n]) w ∧ Sim (zgr L σ.length l) (σ ++ [.tok sz n]) w := by
  intro l
  have hno : ∀ b o, ¬ zdB l (.tok sz n) b o := fun b o h => by
    obtain ⟨_, _, h2, h3⟩ := h
    have e : l.cap = n := rfl
    rw [e] at h3
    omega
  have get : ∀ {id x}, (σ ++ [.tok sz n])[id]? = some x → (id < σ.length ∧ σ[id]? = some x) ∨ (id = σ.length ∧ x = .tok sz n) := fun {id x} h => by
    rcases Nat.lt_or_ge id σ.length with hl | hl
    · rw [List.getElem?_append_left hl] at h; exact .inl ⟨hl, h⟩
    · rw [List.getElem?_append_right hl] at h
      have hlt := ze h
      simp at hlt
      have : id = σ.length := by omega
      subst this
      simp at h
      exact .inr ⟨rfl, h.symm⟩
  have hL : ∀ id, id < σ.length → zgr L σ.length l id = L id := fun id h => zaO (by omega)
  have own : ∀ b o, Own (zgr L σ.length l) (σ ++ [.tok sz n]) b o → Own L σ b o := fun b o ⟨id, x, hx, hf⟩ => by
    rcases get hx with ⟨h1, h2⟩ | ⟨rfl, rfl⟩
    · rw [hL id h1] at hf; exact ⟨id, x, h2, hf⟩
    · rw [zF] at hf; exact (hno _ _ hf).elim
  have st : zcq L σ w (zgr L σ.length l) (σ ++ [.tok sz n]) w := by
    refine ⟨rfl, rfl, rfl, Nat.le_refl _, fun _ _ _ => rfl, fun _ _ _ _ => rfl, fun _ _ _ _ => rfl, fun b o _ h => own b o h, by simp, fun id x hx => ?_⟩
    have hid := ze hx
    exact .stay (by rw [List.getElem?_append_left hid]; exact hx) (hL id hid)
  refine ⟨st, ⟨fun id x hx => ?_, fun i j x y b o hij hx hy hfx hfy => ?_⟩⟩
  · rcases get hx with ⟨h1, h2⟩ | ⟨rfl, rfl⟩
    · rw [hL id h1]
      exact (S.obj id x h2).keep st (fun _ _ _ => ⟨rfl, rfl⟩) (fun _ _ => rfl)
    · rw [zF]
      refine ⟨Nat.le_refl _, fun h => ?_, fun h1 h2 => ?_, fun h1 o h2 h3 => ?_⟩
      · exact ha (by simpa [l] using h)
      · cases a with
        | none => simp [l] at h1
        | some b => exact hs h2 b rfl
      · have e : l.cap = n := rfl
        rw [e] at h3; omega
  · rcases get hx with ⟨h1, h2⟩ | ⟨rfl, rfl⟩
    · rw [hL i h1] at hfx
      rcases get hy with ⟨g1, g2⟩ | ⟨rfl, rfl⟩
      · rw [hL j g1] at hfy
        exact S.apart i j x y b o hij h2 g2 hfx hfy
      · rw [zF] at hfy; exact hno _ _ hfy
    · rw [zF] at hfx; exact hno _ _ hfx

theorem zhK {es : List (List D)} {v : Value} (h : RV w L σ (.exact es) v) : ∃ a, v = .slice a es.length es.length ∧ RD w (Own L σ) (.slice es) v ∧ (a = none → es.length = 0) ∧ (0 < es.length → ∀ b, a = some b → b.spot = none) := by
  cases h with
  | exact _ a h =>
    refine ⟨a, rfl, h, ?_, ?_⟩
    · rintro rfl
      cases h with
      | empty => rfl
    · rintro hp b rfl
      cases h with
      | empty => simp at hp
      | slice => rfl


theorem add_obj (S : Sim L σ w) (l : Loc) (x : zc) (hno : ∀ b o, ¬ zdB l x b o) (hok : ∀ {L' σ'}, zcq L σ w L' σ' w → zlQ w L' σ' l x) : zcq L σ w (zgr L σ.length l) (σ ++ [x]) w ∧ Sim (zgr L σ.length l) (σ ++ [x]) w := by
  have get : ∀ {id y}, (σ ++ [x])[id]? = some y → (id < σ.length ∧ σ[id]? = some y) ∨ (id = σ.length ∧ y = x) := fun {id y} hy => by
    rcases Nat.lt_or_ge id σ.length with hl | hl
    · rw [List.getElem?_append_left hl] at hy; exact .inl ⟨hl, hy⟩
    · rw [List.getElem?_append_right hl] at hy
      have e : id = σ.length := by have := ze hy; simp at this; omega
      subst e; simp at hy; exact .inr ⟨rfl, hy.symm⟩
  have st : zcq L σ w (zgr L σ.length l) (σ ++ [x]) w :=
    ⟨rfl, rfl, rfl, Nat.le_refl _, fun _ _ _ => rfl, fun _ _ _ _ => rfl, fun _ _ _ _ => rfl, fun p q _ hf => by
      obtain ⟨id, ob, ho, hf⟩ := hf
      rcases get ho with ⟨hl, ho⟩ | ⟨rfl, rfl⟩
      · rw [zaO (by omega)] at hf; exact ⟨id, ob, ho, hf⟩
      · rw [zF] at hf; exact absurd hf (hno _ _), by simp, fun id ob hob => by
        have hl := ze hob
        exact .stay (by rw [List.getElem?_append_left hl]; exact hob) (zaO (by omega))⟩
  refine ⟨st, ⟨fun id ob hob => ?_, fun i j p q b' o' hij hp hq hfp hfq => ?_⟩⟩
  · rcases get hob with ⟨hl, hob⟩ | ⟨rfl, rfl⟩
    · rw [zaO (by omega)]
      exact (S.obj id ob hob).keep st (fun _ _ _ => ⟨rfl, rfl⟩) (fun _ _ => rfl)
    · rw [zF]
      exact hok st
  · rcases get hp with ⟨hl, hp1⟩ | ⟨e1, e2⟩
    · rcases get hq with ⟨hl', hq1⟩ | ⟨e1, e2⟩
      · rw [zaO (by omega)] at hfp hfq
        exact S.apart i j p q b' o' hij hp1 hq1 hfp hfq
      · rw [e1, zF, e2] at hfq
        exact hno _ _ hfq
    · rw [e1, zF, e2] at hfp
      exact hno _ _ hfp

theorem add_row (S : Sim L σ w) (sz : Nat) (hsz : 0 < sz) (a : Option Addr) :
    zcq L σ w (zgr L σ.length { a := ⟨0, 0, none⟩ }) (σ ++ [.row 0 sz []]) w ∧ Sim (zgr L σ.length { a := ⟨0, 0, none⟩ }) (σ ++ [.row 0 sz []]) w ∧
      RV w (zgr L σ.length { a := ⟨0, 0, none⟩ }) (σ ++ [.row 0 sz []]) (.rsl σ.length 0 sz 0 0) (.slice a 0 0) := by
  obtain ⟨st, S'⟩ := add_obj S { a := ⟨0, 0, none⟩ } (.row 0 sz []) (fun b o hf => by obtain ⟨_, h1, h2⟩ := hf; dsimp only at h1 h2; omega)
    (fun _ => ⟨hsz, ⟨0, by simp, by simp⟩, by simp, fun h => absurd h (by simp), fun o h1 h2 => by dsimp only at h1 h2; omega, by simp⟩)
  refine ⟨st, S', .rsl σ.length 0 sz 0 0 a 0 ⟨_, List.getElem?_concat_length, .inl rfl⟩ (fun _ _ _ _ => Nat.zero_le _) (Nat.le_refl _) (Nat.le_refl _) (fun _ => rfl) (fun h => absurd h (Nat.lt_irrefl _)) (fun sz' cs' e => ?_)⟩
  rw [List.getElem?_concat_length] at e
  cases e
  rw [zF]
  exact ⟨rfl, by simp, Nat.zero_le _, rfl, fun h => absurd h (by simp)⟩

theorem box_retell' (S : Sim L σ w) {id j : Nat} {cs : List AV} {c c' : AV} (hx : σ[id]? = some (.box cs)) (hj : cs[j]? = some c) (hc : ∀ v, w.cell? ⟨(L id).a.block, (L id).a.off + j, none⟩ = some v → RV w L σ c' v) :
    zcq L σ w L (σ.set id (.box (cs.set j c'))) w ∧ Sim L (σ.set id (.box (cs.set j c'))) w := by
  have hf : ∀ b o, zdB (L id) (.box (cs.set j c')) b o ↔ zdB (L id) (.box cs) b o := fun b o => by simp [zdB]
  have s : zcq L σ w L (σ.set id (.box (cs.set j c'))) w := by
    refine ⟨rfl, rfl, rfl, Nat.le_refl _, fun _ _ _ => rfl, fun _ _ _ _ => rfl, fun _ _ _ _ => rfl, fun c p _ h => zob hx (fun b o => (hf b o).1) h, by simp, fun i y hy => ?_⟩
    by_cases e : id = i
    · subst e
      rw [hx] at hy; cases hy
      exact ⟨.box (cs.set j c'), by simp [ze hx], fun _ => rfl, fun _ _ => rfl, fun _ _ e => (by cases e), fun _ _ _ e => (by cases e)⟩
    · exact .stay (by rw [List.getElem?_set_ne e]; exact hy) rfl
  refine ⟨s, ⟨fun i y hy => ?_, fun i k y z c p hij hy hz hfy hfz => ?_⟩⟩
  · rcases zab hy with ⟨rfl, rfl⟩ | ⟨hne, hy⟩
    · obtain ⟨h0, h1, h2⟩ := S.obj _ _ hx
      refine ⟨h0, h1, fun k d hk => ?_⟩
      rw [List.getElem?_set] at hk
      split at hk
      · rename_i e; subst e
        split at hk
        · cases hk
          obtain ⟨h3, v, h4, h5⟩ := h2 _ _ hj
          exact ⟨h3, v, h4, s.rv (hc v h4)⟩
        · cases hk
      · obtain ⟨h3, v, h4, h5⟩ := h2 k d hk
        exact ⟨h3, v, h4, s.rv h5⟩
    · exact (S.obj i y hy).keep s (fun _ _ _ => ⟨rfl, rfl⟩) (fun _ _ => rfl)
  · have key : ∀ {i y}, (σ.set id (.box (cs.set j c')))[i]? = some y → zdB (L i) y c p → ∃ y', σ[i]? = some y' ∧ zdB (L i) y' c p := fun {i y} hy hfy => by
      rcases zab hy with ⟨rfl, rfl⟩ | ⟨_, hy⟩
      · exact ⟨_, hx, (hf _ _).1 hfy⟩
      · exact ⟨y, hy, hfy⟩
    obtain ⟨y', hy', hfy'⟩ := key hy hfy
    obtain ⟨z', hz', hfz'⟩ := key hz hfz
    exact S.apart i k y' z' c p hij hy' hz' hfy' hfz'

theorem box_tok (S : Sim L σ w) {id j : Nat} {cs : List AV} {es : List (List D)} (hx : σ[id]? = some (.box cs)) (hj : cs[j]? = some (.exact es)) (sz : Nat) (hes : ∀ e ∈ es, e.length = sz) :
    ∃ L', zcq L σ w L' (σ.set id (.box (cs.set j (.own σ.length es))) ++ [.tok sz es.length]) w ∧ Sim L' (σ.set id (.box (cs.set j (.own σ.length es))) ++ [.tok sz es.length]) w := by
  obtain ⟨_, _, hcells⟩ := S.obj id _ hx
  obtain ⟨_, u, hu, hr⟩ := hcells j _ hj
  obtain ⟨a, hv', hrd, ha, hs⟩ := zhK hr
  obtain ⟨st, S2⟩ := add_tok S sz es.length a ha hs
  have hid := ze hx
  have hx2 : (σ ++ [zc.tok sz es.length])[id]? = some (.box cs) := by rw [List.getElem?_append_left hid]; exact hx
  -- the cell's value is this one
  have hval : ∀ v, w.cell? ⟨(L id).a.block, (L id).a.off + j, none⟩ = some v → v = u := fun v h => by rw [hu] at h; exact (Option.some.inj h).symm
  obtain ⟨s3, S3⟩ := box_retell' S2 hx2 hj (c' := .own σ.length es) (fun v hv => by
    rw [zaO (by omega)] at hv
    rw [hval v hv]
    refine .own _ _ _ sz es.length (by simp) (Nat.le_refl _) hes (st.rd hrd) fun _ => ?_
    rw [hv', zF]
    cases a <;> rfl)
  rw [List.set_append_left _ _ hid] at s3 S3
  exact ⟨_, st.trans s3, S3⟩
theorem box_row (S : Sim L σ w) {id j : Nat} {cs : List AV} (hx : σ[id]? = some (.box cs)) (hj : cs[j]? = some (.exact [])) (sz : Nat) (hsz : 0 < sz) :
    ∃ L', zcq L σ w L' (σ.set id (.box (cs.set j (.rsl σ.length 0 sz 0 0))) ++ [.row 0 sz []]) w ∧ Sim L' (σ.set id (.box (cs.set j (.rsl σ.length 0 sz 0 0))) ++ [.row 0 sz []]) w := by
  obtain ⟨_, _, hcells⟩ := S.obj id _ hx
  obtain ⟨_, u, hu, hr⟩ := hcells j _ hj
  obtain ⟨a, hv', hrd, ha, hs⟩ := zhK hr
  obtain ⟨st, S2, hrow⟩ := add_row S sz hsz a
  have hid := ze hx
  have hx2 : (σ ++ [zc.row 0 sz []])[id]? = some (.box cs) := by rw [List.getElem?_append_left hid]; exact hx
  have hval : ∀ v, w.cell? ⟨(L id).a.block, (L id).a.off + j, none⟩ = some v → v = u := fun v h => by rw [hu] at h; exact (Option.some.inj h).symm
  obtain ⟨s3, S3⟩ := box_retell' S2 hx2 hj (c' := .rsl σ.length 0 sz 0 0) (fun v hv => by
    rw [zaO (by omega)] at hv
    rw [hval v hv, hv']
    exact hrow)
  rw [List.set_append_left _ _ hid] at s3 S3
  exact ⟨_, st.trans s3, S3⟩
theorem row_cut (S : Sim L σ w) {t g sz lo hi : Nat} {cs : List AV} (hx : σ[t]? = some (.row g sz cs)) {v : Value} (hv : RV w L σ (.rsl t g sz lo hi) v) :
    zcq L σ w (zgr L t { a := ⟨(L t).a.block, (L t).a.off + lo * sz, none⟩, cap := (L t).cap - lo }) (σ.set t (.row (g + 1) sz ((cs.drop (lo * sz)).take ((hi - lo) * sz)))) w ∧
    Sim (zgr L t { a := ⟨(L t).a.block, (L t).a.off + lo * sz, none⟩, cap := (L t).cap - lo }) (σ.set t (.row (g + 1) sz ((cs.drop (lo * sz)).take ((hi - lo) * sz)))) w ∧
    RV w (zgr L t { a := ⟨(L t).a.block, (L t).a.off + lo * sz, none⟩, cap := (L t).cap - lo }) (σ.set t (.row (g + 1) sz ((cs.drop (lo * sz)).take ((hi - lo) * sz)))) (.rsl t (g + 1) sz 0 (hi - lo)) v := by
  cases hv with | rsl _ _ _ _ _ b c h1 h2 h3 h4 h5 h6 h7 =>
  obtain ⟨_, q2, q3, q4, q5⟩ := h7 sz cs hx
  obtain ⟨p0, ⟨n0, p1, p1'⟩, psc, plt, pall, pcells⟩ := S.obj t _ hx
  have hsub : lo * sz + (hi - lo) * sz = hi * sz := by rw [← Nat.add_mul]; congr 1; omega
  have hmulc : lo * sz + ((L t).cap - lo) * sz = (L t).cap * sz := by rw [← Nat.add_mul]; congr 1; omega
  have hl : ((cs.drop (lo * sz)).take ((hi - lo) * sz)).length = (hi - lo) * sz := by rw [List.length_take, List.length_drop]; omega
  obtain ⟨st, S'⟩ := zqG S hx { a := ⟨(L t).a.block, (L t).a.off + lo * sz, none⟩, cap := (L t).cap - lo } ((cs.drop (lo * sz)).take ((hi - lo) * sz)) (.inl rfl)
    (fun b' o' hf => .inl ⟨hf.1, by have := hf.2.1; dsimp only at this; omega, by have := hf.2.2; dsimp only at this; omega⟩) (fun htr => by
      refine ⟨p0, ⟨hi - lo, hl, by dsimp only; omega⟩, fun c hc => psc c (List.mem_of_mem_drop (List.mem_of_mem_take hc)), fun h => by dsimp only at h ⊢; exact plt (by omega), fun o' h1 h2 => ?_, fun j d hj => ?_⟩
      · dsimp only at h1 h2 ⊢
        exact pall o' (by omega) (by omega)
      · dsimp only
        rw [List.getElem?_take] at hj
        split at hj
        · rw [List.getElem?_drop] at hj
          obtain ⟨v, k1, k2⟩ := pcells _ d hj
          exact ⟨v, by rw [Nat.add_assoc]; exact k1, htr _ _ k2⟩
        · cases hj)
  refine ⟨st, S', ?_⟩
  have hget : (σ.set t (.row (g + 1) sz ((cs.drop (lo * sz)).take ((hi - lo) * sz))))[t]? = some (.row (g + 1) sz ((cs.drop (lo * sz)).take ((hi - lo) * sz))) := by simp [ze hx]
  have := RV.rsl (w := w) (L := zgr L t { a := ⟨(L t).a.block, (L t).a.off + lo * sz, none⟩, cap := (L t).cap - lo }) (σ := σ.set t (.row (g + 1) sz ((cs.drop (lo * sz)).take ((hi - lo) * sz)))) t (g + 1) sz 0 (hi - lo) b c ⟨_, hget, .inl rfl⟩ (fun g2 sz2 cs2 e => by rw [hget] at e; cases e; omega) (Nat.zero_le _) (by omega) h5 h6 (fun sz' cs' e => by
    rw [hget] at e
    cases e
    rw [zF]
    refine ⟨rfl, by rw [hl]; omega, by dsimp only; omega, by dsimp only; omega, fun hlt => ?_⟩
    dsimp only at hlt ⊢
    rw [q5 (by omega)]; simp)
  simpa using this
theorem row_retell (S : Sim L σ w) {id j g sz : Nat} {cs : List AV} {c c' : AV} (hx : σ[id]? = some (.row g sz cs)) (hj : cs[j]? = some c) (hsc : sc c' = true) (hc : ∀ v, RV w L σ c v → RV w L σ c' v) :
    zcq L σ w L (σ.set id (.row g sz (cs.set j c'))) w ∧ Sim L (σ.set id (.row g sz (cs.set j c'))) w := by
  have hf : ∀ b o, zdB (L id) (.row g sz (cs.set j c')) b o ↔ zdB (L id) (.row g sz cs) b o := fun b o => Iff.rfl
  have s : zcq L σ w L (σ.set id (.row g sz (cs.set j c'))) w := by
    refine ⟨rfl, rfl, rfl, Nat.le_refl _, fun _ _ _ => rfl, fun _ _ _ _ => rfl, fun _ _ _ _ => rfl, fun c p _ h => zob hx (fun b o => (hf b o).1) h, by simp, fun i y hy => ?_⟩
    by_cases e : id = i
    · subst e
      rw [hx] at hy; cases hy
      exact ⟨.row g sz (cs.set j c'), by simp [ze hx], fun _ => rfl, fun _ _ => rfl, fun _ _ e => (by cases e), fun g0 sz0 c0 e => by cases e; exact .inr ⟨g, _, rfl, Nat.le_refl _, fun _ => ⟨rfl, by simp⟩⟩⟩
    · exact .stay (by rw [List.getElem?_set_ne e]; exact hy) rfl
  refine ⟨s, ⟨fun i y hy => ?_, fun i k y z c p hij hy hz hfy hfz => ?_⟩⟩
  · rcases zab hy with ⟨rfl, rfl⟩ | ⟨hne, hy⟩
    · obtain ⟨h0, h1, hsc0, hs, h2, h3⟩ := S.obj _ _ hx
      refine ⟨h0, by simpa using h1, fun d hd => ?_, by simpa using hs, h2, fun k d hk => ?_⟩
      · rcases List.mem_or_eq_of_mem_set hd with h | rfl
        · exact hsc0 d h
        · exact hsc
      · rw [List.getElem?_set] at hk
        split at hk
        · rename_i e; subst e
          split at hk
          · cases hk
            obtain ⟨v, h4, h5⟩ := h3 _ _ hj
            exact ⟨v, h4, s.rv (hc v h5)⟩
          · cases hk
        · obtain ⟨v, h4, h5⟩ := h3 k d hk
          exact ⟨v, h4, s.rv h5⟩
    · exact (S.obj i y hy).keep s (fun _ _ _ => ⟨rfl, rfl⟩) (fun _ _ => rfl)
  · have key : ∀ {i y}, (σ.set id (.row g sz (cs.set j c')))[i]? = some y → zdB (L i) y c p → ∃ y', σ[i]? = some y' ∧ zdB (L i) y' c p := fun {i y} hy hfy => by
      rcases zab hy with ⟨rfl, rfl⟩ | ⟨_, hy⟩
      · exact ⟨_, hx, (hf _ _).1 hfy⟩
      · exact ⟨y, hy, hfy⟩
    obtain ⟨y', hy', hfy'⟩ := key hy hfy
    obtain ⟨z', hz', hfz'⟩ := key hz hfz
    exact S.apart i k y' z' c p hij hy' hz' hfy' hfz'
end

end Go.AW

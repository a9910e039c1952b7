/- What an operation does, against the model: lengths, greatest and least, literals, iterators of strings. -/
import Derived.Test.YtndpnfbcnmebjaaAwBase
import Derived.Laws.Tables
import Derived.Laws.RangeAny
import Derived.Laws.RangeString
import Derived.Laws.Append
import Derived.Laws.AppendOwn
import Derived.MapKept
import Derived.WideKeyRuns
import Derived.WalkSpells
import Derived.Orders
import Derived.Deep.LoopGhost
set_option linter.all false
set_option linter.unusedSimpArgs false
set_option linter.unusedVariables false
namespace Go.AW
section
variable {P : Program} {o : Oper} {i : I} {fr : Frame} {σ : List AObj} {K : AV → List AObj → Prop} {L : Nat → Loc} {w : World} {a : Act}

/-- what a length is asked of -/
def LKok (P : Program) (t : TypeId) : LK → Prop
  | .str => P.underlying t = some .string
  | .sl => ∃ e, P.underlying t = some (.slice e)
  | .arr n => (∃ e, P.underlying t = some (.array n e)) ∨ ∃ e e', P.underlying t = some (.pointer e) ∧ P.underlying e = some (.array n e')
  | .map => ∃ k e, P.underlying t = some (.map k e)

theorem snd_len (S : Sim L σ w) (F : FR w L σ fr a.tmps) {c : Call} {t : TypeId} {x : Operand} {k : LK} {y : Opd} (ho : o.op = .call c) (hcal : c.callee = .builtin .len) (ht : c.argTypes[0]? = some t) (hargs : c.args.toList = [x]) (hx : opd x = some y)
    (hk : LKok P t k)
    (h : astep P (.len k y) fr σ K) : Yields1 P o a L σ w K := by
  have hargs' : c.args = #[x] := by apply Array.ext'; simpa using hargs
  have hv := ev_sound F hx
  have fin : ∀ {n : Int}, (Builtin.len_ c.argTypes o.type #[a.eval x]).run P w = .ok (.int .i64 n) w → K (.d (.int .i64 n)) σ → Yields1 P o a L σ w K := fun {n} h1 h2 => by
    refine .same S (r := .d (.int .i64 n)) (v := .int .i64 n) ?_ (.d _ _ (.int _ _)) h2
    simp [execOp, ho, resolve, hcal, hargs', invoke, builtin, h1]
  cases k with
  | str =>
    simp only [astep, lenC, maxC, minC, buildC, rangeC, nextC] at h
    split at h
    · rename_i s hid
      rw [hid] at hv
      have hX := hv.str_inv
      exact fin (by have hsz : (ByteArray.mk s.toArray).size = s.length := (by simp [ByteArray.size]); simp [Builtin.len_, ht, hX, run_underlying hk, goInt, hsz]) h
    · exact h.elim
  | sl =>
    obtain ⟨e, hk⟩ := hk
    simp only [astep, lenC, maxC, minC, buildC, rangeC, nextC] at h
    split at h
    · rename_i es hes
      obtain ⟨b, cap, hX, _⟩ := (hv.esOf_inv hes).len
      exact fin (by simp [Builtin.len_, ht, hX, run_underlying hk, goInt]) h
    · split at h
      · rename_i hid
        rw [hid] at hv
        obtain ⟨hX, _⟩ := hv.bsl_inv
        exact fin (by simp [Builtin.len_, ht, hX, run_underlying hk, goInt]) h
      · exact h.elim
  | arr n =>
    simp only [astep, lenC, maxC, minC, buildC, rangeC, nextC] at h
    rcases hk with ⟨e, hk⟩ | ⟨e, e', hk, hk'⟩
    · exact fin (by simp [Builtin.len_, ht, run_underlying hk, goInt]) h
    · exact fin (by simp [Builtin.len_, ht, run_underlying hk, run_underlying hk', goInt]) h
  | map =>
    obtain ⟨kt, et, hk⟩ := hk
    simp only [astep, lenC] at h
    split at h
    · rename_i id hid
      rw [hid] at hv
      obtain ⟨hX, _⟩ := hv.map_inv
      split at h
      · rename_i es hes
        obtain ⟨ms, clock, h1, h2, _⟩ := S.obj id _ hes
        exact fin (by simp [Builtin.len_, ht, hX, run_underlying hk, goInt, getObj, Sem.run, h1, h2]) h
      · exact h.elim
    · rename_i hid
      rw [hid] at hv
      have hX := hv.nilmap_inv
      exact fin (n := 0) (by simp [Builtin.len_, ht, hX, run_underlying hk, goInt]) h
    · exact h.elim

theorem maxL_sound : ∀ (l : List AV) (vs : List Value) (k : IntKind) (m n : Int), RVs w L σ l vs → maxL m l = some n → (vs.foldlM Builtin.max2 (.int k m)).run P w = .ok (.int k n) w
  | [], vs, k, m, n, hv, h => by
    have : vs = [] := by have := hv.1; simpa using this
    subst this
    simp [maxL] at h; subst h; simp
  | x :: l, vs, k, m, n, hv, h => by
    cases vs with
    | nil => have := hv.1; simp at this
    | cons v vs =>
      unfold maxL at h
      split at h
      · rename_i heq; cases heq
      · rename_i _ m' k' q r heq
        cases heq
        have e := (hv.2 0 _ v rfl rfl).int_inv
        have ih := maxL_sound l vs k _ n ⟨by have := hv.1; simpa using this, fun i a b ha hb => hv.2 (i + 1) a b ha hb⟩ h
        simp [e, Builtin.max2]
        exact ih
      · cases h
theorem minL_sound : ∀ (l : List AV) (vs : List Value) (k : IntKind) (m n : Int), RVs w L σ l vs → minL m l = some n → (vs.foldlM Builtin.min2 (.int k m)).run P w = .ok (.int k n) w
  | [], vs, k, m, n, hv, h => by
    have : vs = [] := by have := hv.1; simpa using this
    subst this
    simp [minL] at h; subst h; simp
  | x :: l, vs, k, m, n, hv, h => by
    cases vs with
    | nil => have := hv.1; simp at this
    | cons v vs =>
      unfold minL at h
      split at h
      · rename_i heq; cases heq
      · rename_i _ m' k' q r heq
        cases heq
        have e := (hv.2 0 _ v rfl rfl).int_inv
        have ih := minL_sound l vs k _ n ⟨by have := hv.1; simpa using this, fun i a b ha hb => hv.2 (i + 1) a b ha hb⟩ h
        simp [e, Builtin.min2]
        exact ih
      · cases h

theorem snd_max (S : Sim L σ w) (F : FR w L σ fr a.tmps) {c : Call} {ys : List Opd} (ho : o.op = .call c) (hcal : c.callee = .builtin .max) (hy : c.args.toList.mapM opd = some ys) (h : astep P (.maxi ys) fr σ K) : Yields1 P o a L σ w K := by
  simp only [astep, lenC, maxC, minC, buildC, rangeC, nextC] at h
  have hv := evs_sound F hy
  split at h
  · rename_i k n r heq
    rw [heq] at hv
    split at h
    · rename_i m hm
      generalize hvs : c.args.toList.map a.eval = vs at hv
      cases vs with
      | nil => have := hv.1; simp at this
      | cons v vs =>
        have e := (hv.2 0 _ v rfl rfl).int_inv
        have := maxL_sound (P := P) r vs k n m ⟨by have := hv.1; simpa using this, fun i a b ha hb => hv.2 (i + 1) a b ha hb⟩ hm
        refine .same S (r := .d (.int k m)) (v := .int k m) ?_ (.d _ _ (.int _ _)) h
        simp [execOp, ho, resolve, hcal, invoke, builtin, Builtin.max_, hvs, e, this]
    · exact h.elim
  · exact h.elim
theorem snd_min (S : Sim L σ w) (F : FR w L σ fr a.tmps) {c : Call} {ys : List Opd} (ho : o.op = .call c) (hcal : c.callee = .builtin .min) (hy : c.args.toList.mapM opd = some ys) (h : astep P (.mini ys) fr σ K) : Yields1 P o a L σ w K := by
  simp only [astep, lenC, maxC, minC, buildC, rangeC, nextC] at h
  have hv := evs_sound F hy
  split at h
  · rename_i k n r heq
    rw [heq] at hv
    split at h
    · rename_i m hm
      generalize hvs : c.args.toList.map a.eval = vs at hv
      cases vs with
      | nil => have := hv.1; simp at this
      | cons v vs =>
        have e := (hv.2 0 _ v rfl rfl).int_inv
        have := minL_sound (P := P) r vs k n m ⟨by have := hv.1; simpa using this, fun i a b ha hb => hv.2 (i + 1) a b ha hb⟩ hm
        refine .same S (r := .d (.int k m)) (v := .int k m) ?_ (.d _ _ (.int _ _)) h
        simp [execOp, ho, resolve, hcal, invoke, builtin, Builtin.min_, hvs, e, this]
    · exact h.elim
  · exact h.elim

/-! literals -/
theorem foldl_splice : ∀ (xs : List Value) (cs : Array Value) (off j0 : Nat), off + j0 + xs.length ≤ cs.size →
    ((xs.zipIdx j0).foldl (fun cs (p : Value × Nat) => cs.setIfInBounds (off + p.2) p.1) cs).toList = splice cs.toList (off + j0) xs
  | [], cs, off, j0, _ => by simp [splice]
  | x :: xs, cs, off, j0, h => by
    simp only [List.length_cons] at h
    simp only [List.zipIdx_cons, List.foldl_cons]
    rw [foldl_splice xs _ off (j0 + 1) (by simp; omega)]
    simp only [Array.toList_setIfInBounds]
    apply List.ext_getElem?
    intro q
    have hl : cs.toList.length = cs.size := by simp
    simp only [splice, List.append_assoc, List.getElem?_append, List.length_take, List.length_set, List.length_cons, List.cons_append, hl]
    have h1 : min (off + j0) cs.size = off + j0 := by omega
    have h2 : min (off + (j0 + 1)) cs.size = off + j0 + 1 := by omega
    rw [h1, h2]
    by_cases c1 : q < off + j0
    · rw [if_pos c1, if_pos (by omega)]
      simp [List.getElem?_take, c1, show q < off + (j0 + 1) by omega, List.getElem?_set_ne (show off + j0 ≠ q by omega)]
    · rw [if_neg c1]
      by_cases c2 : q = off + j0
      · subst c2
        simp [List.getElem?_take, show off + j0 < cs.size by omega, show off + j0 < off + (j0 + 1) by omega]
      · rw [if_neg (by omega)]
        rw [show q - (off + j0) = (q - (off + j0 + 1)) + 1 by omega, List.getElem?_cons_succ, List.getElem?_append]
        split
        · rfl
        · simp only [List.getElem?_drop]
          rw [List.getElem?_set_ne (by omega)]
          congr 1; omega

theorem splice_rvs {cs xs : List AV} {vs us : List Value} {off : Nat} (h : RVs w L σ cs vs) (h' : RVs w L σ xs us) (hle : off + xs.length ≤ cs.length) : RVs w L σ (splice cs off xs) (splice vs off us) := by
  refine ⟨by simp [splice, h.1, h'.1], fun i c v hc hv => ?_⟩
  have e1 := h.1
  have e2 := h'.1
  simp only [splice, List.append_assoc, List.getElem?_append, List.length_take, e1, e2] at hc hv
  have h1 : min off cs.length = off := by omega
  rw [h1] at hc hv
  split at hc
  · rename_i c1
    rw [if_pos c1] at hv
    rw [List.getElem?_take] at hc hv
    rw [if_pos c1] at hc hv
    exact h.2 i c v hc hv
  · rename_i c1
    rw [if_neg c1] at hv
    split at hc
    · rename_i c2
      rw [if_pos c2] at hv
      exact h'.2 _ c v hc hv
    · rename_i c2
      rw [if_neg c2] at hv
      rw [List.getElem?_drop] at hc hv
      exact h.2 _ c v hc hv

theorem fillA_sound (F : FR w L σ fr a.tmps) (place : Nat → Option (Nat × Nat)) : ∀ (ps : List (Nat × Operand)) (qs : List (Nat × Nat × Opd)) (cs out : List AV) (cells : Array Value),
    qs.length = ps.length → (∀ (k : Nat) p q, ps[k]? = some p → qs[k]? = some q → place p.1 = some (q.1, q.2.1) ∧ opd p.2 = some q.2.2) → RVs w L σ cs cells.toList → fillA fr cs qs = some out →
    ∃ cells', Instr.fill place cells (ps.map fun p => (p.1, a.eval p.2)) = some cells' ∧ RVs w L σ out cells'.toList
  | [], qs, cs, out, cells, hl, _, hr, h => by
    have : qs = [] := by simpa using hl
    subst this
    simp [fillA] at h; subst h
    exact ⟨cells, rfl, hr⟩
  | p :: ps, [], _, _, _, hl, _, _, _ => by simp at hl
  | p :: ps, (off, s, x) :: qs, cs, out, cells, hl, hp, hr, h => by
    obtain ⟨h1, h2⟩ := hp 0 p (off, s, x) rfl rfl
    simp only [fillA] at h
    split at h
    · rename_i xs hxs
      split at h
      · rename_i hc
        obtain ⟨c1, c2⟩ := hc
        have hrv := (ev_sound F h2).cells hxs
        have hsz : (a.eval p.2).cells.size = s := by have := hrv.1; simp at this; omega
        have hcs : cells.size = cs.length := by have := hr.1; simpa using this
        have hsp := foldl_splice (a.eval p.2).cells.toList cells off 0 (by simp; omega)
        have hrr : RVs w L σ (splice cs off xs) (splice cells.toList off (a.eval p.2).cells.toList) := splice_rvs hr hrv (by omega)
        obtain ⟨cells', g1, g2⟩ := fillA_sound F place ps qs (splice cs off xs) out (((a.eval p.2).cells.toList.zipIdx 0).foldl (fun cs (p : Value × Nat) => cs.setIfInBounds (off + p.2) p.1) cells) (by simpa using hl) (fun k p' q' hk hk' => hp (k + 1) p' q' hk hk') (by rw [hsp, Nat.add_zero]; exact hrr) h
        refine ⟨cells', ?_, g2⟩
        simp only [List.map_cons, Instr.fill, h1]
        have hneg : ¬ ((decide ((a.eval p.2).cells.size ≠ s) || decide (off + (a.eval p.2).cells.size > cells.size)) = true) := by simp; omega
        rw [if_neg hneg, ← g1]
        congr 1
        rw [← Array.foldl_toList, Array.toList_zipIdx]
      · cases h
    · cases h

theorem snd_build (S : Sim L σ w) (F : FR w L σ fr a.tmps) {t : TypeId} {parts : Array (Nat × Operand)} {i : I} (ho : o.op = .build t parts) (hc : compI P o = some i) (h : astep P i fr σ K) : Yields1 P o a L σ w K := by
  unfold compI at hc
  rw [ho] at hc
  simp only at hc
  have fin : ∀ {zs : List AV} {ps : List (Nat × Nat × Opd)} {z : Value} (place : Nat → Option (Nat × Nat)), RVs w L σ zs z.cells.toList → (ps.length = parts.toList.length) →
      (∀ (k : Nat) p q, parts.toList[k]? = some p → ps[k]? = some q → place p.1 = some (q.1, q.2.1) ∧ opd p.2 = some q.2.2) →
      (∀ l, P.built t l = Instr.fill place z.cells l) → astep P (.build zs ps) fr σ K → Yields1 P o a L σ w K := fun {zs ps z} place hz hl hp hb h => by
    simp only [astep, lenC, maxC, minC, buildC, rangeC, nextC] at h
    split at h
    · rename_i cs hcs
      obtain ⟨cells', g1, g2⟩ := fillA_sound F place parts.toList ps zs cs z.cells hl hp hz hcs
      have hrun := run_build (P := P) w t (parts.map fun p => (p.1, a.eval p.2)) cells' (by rw [hb, ← g1]; congr 1; simp)
      refine .same S (r := .agg cs) (v := .agg cells') (by simp only [execOp, ho]; simp [hrun]) ?_ h
      have := RV.agg (w := w) (L := L) (σ := σ) cs cells'.toList g2.1 g2.2
      simpa using this
    · exact h.elim
  split at hc
  · rename_i fs ht
    simp only [Option.bind_eq_bind, Option.bind_eq_some_iff] at hc
    obtain ⟨zs, hz, ps, hps, hc⟩ := hc
    split at hc
    · rename_i hall
      simp only [Option.pure_def, Option.some.injEq] at hc
      subst hc
      obtain ⟨inf, z, hi, hz1, hz2⟩ := zeros_sound hz
      obtain ⟨m1, m2⟩ := mapM_some hps
      have hall' : ∃ places, fs.toList.mapM (fun f => (P.info? f.type).map fun i => (f.offset, i.size)) = some places := by
        clear hps m1 m2
        generalize fs.toList = l at hall
        induction l with
        | nil => exact ⟨[], rfl⟩
        | cons f l ih =>
          simp only [List.all_cons, Bool.and_eq_true] at hall
          obtain ⟨pl, hpl⟩ := ih hall.2
          have h1 := hall.1
          simp only [sizeOf?, Option.isSome_map] at h1
          cases hf : P.info? f.type with
          | none => simp [hf] at h1
          | some i => exact ⟨(f.offset, i.size) :: pl, by simp [List.mapM_cons, hf, hpl]⟩
      obtain ⟨places, hpl⟩ := hall'
      obtain ⟨n1, n2⟩ := mapM_some hpl
      refine fin (z := z) (places.toArray[·]?) (zeros_rv hz2) m1 (fun k p q hp hq => ?_) (fun l => by simp [Program.built, hi, ht, hz1, hpl]) h
      have := m2 k p q hp hq
      simp only [Option.bind_eq_bind, Option.bind_eq_some_iff, Option.pure_def, Option.some.injEq] at this
      obtain ⟨f, hf, s, hs, y, hy, rfl⟩ := this
      refine ⟨?_, hy⟩
      have hfl : fs.toList[p.1]? = some f := by simpa using hf
      have hlt := lt_of_get hfl
      have hpp : places[p.1]? = some (places[p.1]'(by omega)) := List.getElem?_eq_getElem _
      have := n2 p.1 f _ hfl hpp
      simp only [sizeOf?, Option.map_eq_some_iff] at hs this
      obtain ⟨i1, e1, e2⟩ := hs
      obtain ⟨i2, e3, e4⟩ := this
      rw [e1] at e3; cases e3
      simp only [List.getElem?_toArray, hpp, ← e4, e2]
    · cases hc
  · rename_i n e ht
    simp only [Option.bind_eq_bind, Option.bind_eq_some_iff, Option.pure_def, Option.some.injEq] at hc
    obtain ⟨zs, hz, s, hs, ps, hps, rfl⟩ := hc
    obtain ⟨inf, z, hi, hz1, hz2⟩ := zeros_sound hz
    obtain ⟨m1, m2⟩ := mapM_some hps
    simp only [sizeOf?, Option.map_eq_some_iff] at hs
    obtain ⟨ie, e1, e2⟩ := hs
    refine fin (z := z) (fun i => some (i * s, s)) (zeros_rv hz2) m1 (fun k p q hp hq => ?_) (fun l => by simp [Program.built, hi, ht, hz1, e1, e2]) h
    have := m2 k p q hp hq
    simp only [Option.bind_eq_bind, Option.bind_eq_some_iff, Option.pure_def, Option.some.injEq] at this
    obtain ⟨y, hy, rfl⟩ := this
    exact ⟨rfl, hy⟩
  · cases hc

theorem snd_rangeS (S : Sim L σ w) (F : FR w L σ fr a.tmps) {t : TypeId} {x : Operand} {i : I} (ho : o.op = .range t x) (hc : compI P o = some i) (h : astep P i fr σ K) : Yields1 P o a L σ w K := by
  unfold compI at hc
  rw [ho] at hc
  simp only at hc
  split at hc
  · rename_i ht
    simp only [Option.bind_eq_bind, Option.bind_eq_some_iff, Option.pure_def, Option.some.injEq] at hc
    obtain ⟨y, hx, rfl⟩ := hc
    simp only [astep, lenC, maxC, minC, buildC, rangeC, nextC] at h
    have hv := ev_sound F hx
    split at h
    · rename_i s hid
      rw [hid] at hv
      have hX := hv.str_inv
      have hf : ∀ b c, Foot { a := ⟨w.heap.size, 0, none⟩ } (.iter s 0) b c → b = w.heap.size := fun b c h => h
      have st := extend_step L σ (.stringIter ⟨s.toArray⟩ 0) { a := ⟨w.heap.size, 0, none⟩ } (.iter s 0) hf
      have S' := extend_sim S (.stringIter ⟨s.toArray⟩ 0) { a := ⟨w.heap.size, 0, none⟩ } (.iter s 0) hf (by
        show (w.heap.push _)[w.heap.size]? = _
        simp)
      refine ⟨.iter σ.length, .pointer (some ⟨w.heap.size, 0, none⟩), _, _, _, .inl ?_, st, S', ?_, h⟩
      · simp [execOp, ho, hX, Instr.range, run_underlying ht, newObj, Sem.run]
      · have := RV.iter (w := w.alloc (.stringIter ⟨s.toArray⟩ 0)) (L := Lput L σ.length { a := ⟨w.heap.size, 0, none⟩ }) (σ := σ ++ [.iter s 0]) σ.length ⟨.iter s 0, by simp, by simp [AObj.kind]⟩
        rw [Lput_same] at this
        exact this
    · exact h.elim
  · cases hc

theorem snd_nextS (S : Sim L σ w) (F : FR w L σ fr a.tmps) {x : Operand} {y : Opd} (hx : opd x = some y) (ho : o.op = .next x true) (h : astep P (.nextS y) fr σ K) : Yields1 P o a L σ w K := by
  simp only [astep, lenC, maxC, minC, buildC, rangeC, nextC] at h
  have hv := ev_sound F hx
  split at h
  · rename_i id hid
    rw [hid] at hv
    obtain ⟨hX, hfix⟩ := hv.iter_inv
    split at h
    · rename_i s pos hs
      have hob := S.obj id _ hs
      have hsz : (ByteArray.mk s.toArray).size = s.length := by simp [ByteArray.size]
      have hheap : w.heap[(L id).a.block]? = some (.stringIter ⟨s.toArray⟩ pos) := hob
      split at h
      · rename_i hlt
        obtain ⟨st, S'⟩ := obj_set S hs (x' := .iter s (pos + (Utf8.decode ⟨s.toArray⟩ pos).2)) rfl (by simp [AObj.kind]) (by simp [AObj.kind]) (.stringIter ⟨s.toArray⟩ (pos + (Utf8.decode ⟨s.toArray⟩ pos).2)) (fun w' e _ => by
          subst e
          show (w.heap.setIfInBounds _ _)[_]? = _
          simp [(Array.getElem?_eq_some_iff.1 hheap).1])
        refine ⟨.tup [.d (.bool true), .d (.int .i64 pos), .d (.int .i32 (Utf8.decode ⟨s.toArray⟩ pos).1)], .tuple #[.bool true, .int .i64 pos, .int .i32 (Utf8.decode ⟨s.toArray⟩ pos).1], L, _, _, .inl ?_, st, S', ?_, h⟩
        · simp [execOp, ho, hX, Instr.next, getObj, setObj, Sem.run, hheap, hsz, hlt, goInt]
        · have := RV.tup (w := { w with heap := w.heap.setIfInBounds (L id).a.block (.stringIter ⟨s.toArray⟩ (pos + (Utf8.decode ⟨s.toArray⟩ pos).2)) }) (L := L) (σ := σ.set id (.iter s (pos + (Utf8.decode ⟨s.toArray⟩ pos).2)))
            [.d (.bool true), .d (.int .i64 pos), .d (.int .i32 (Utf8.decode ⟨s.toArray⟩ pos).1)] [.bool true, .int .i64 pos, .int .i32 (Utf8.decode ⟨s.toArray⟩ pos).1] rfl (fun i c v hc hv => by
              match i with
              | 0 => simp at hc hv; subst hc hv; exact .d _ _ (.bool _)
              | 1 => simp at hc hv; subst hc hv; exact .d _ _ (.int _ _)
              | 2 => simp at hc hv; subst hc hv; exact .d _ _ (.int _ _)
              | n + 3 => simp at hc)
          exact this
      · rename_i hlt
        refine .same S (r := .tup [.d (.bool false)]) (v := .tuple #[.bool false]) ?_ ?_ h
        · simp [execOp, ho, hX, Instr.next, getObj, Sem.run, hheap, hsz, hlt]
        · exact .tup [.d (.bool false)] [.bool false] rfl (fun i c v hc hv => by
              match i with
              | 0 => simp at hc hv; subst hc hv; exact .d _ _ (.bool _)
              | n + 1 => simp at hc)
    · exact h.elim
  · exact h.elim

end
end Go.AW

/- What an operation does, against the model: slices of literals, append. -/
set_option linter.unusedSimpArgs false
set_option linter.unusedVariables false
namespace Go.AW
section
variable {P : Program} {o : Oper} {i : I} {fr : Frame} {σ : List AObj} {K : AV → List AObj → Prop} {L : Nat → Loc} {w : World} {a : Act}

theorem rep_get {α : Type} (z : List α) (s : Nat) (hz : z.length = s) (hs : 0 < s) : ∀ (n i : Nat), i < n * s → (rep z n)[i]? = z[i % s]?
  | 0, i, h => by simp at h
  | n + 1, i, h => by
    simp only [rep]
    rcases Nat.lt_or_ge i s with hi | hi
    · rw [List.getElem?_append_left (by omega), Nat.mod_eq_of_lt hi]
    · rw [List.getElem?_append_right (by omega), hz, rep_get z s hz hs n (i - s) (by rw [Nat.succ_mul] at h; omega)]
      congr 1
      rw [Nat.mod_eq_sub_mod hi]
theorem rep_length {α : Type} (z : List α) : ∀ n, (rep z n).length = n * z.length
  | 0 => by simp [rep]
  | n + 1 => by simp [rep, rep_length z n, Nat.succ_mul, Nat.add_comm]

theorem chunks_get {α : Type} (s : Nat) : ∀ (n : Nat) (l : List α) (i : Nat) (e : List α) (j : Nat) (d : α), (chunks s n l)[i]? = some e → e[j]? = some d → j < s ∧ i < n ∧ l[i * s + j]? = some d
  | 0, l, i, e, j, d, h, _ => by simp [chunks] at h
  | n + 1, l, i, e, j, d, h, hj => by
    cases i with
    | zero =>
      simp [chunks] at h; subst h
      rw [List.getElem?_take] at hj
      split at hj
      · rename_i c; exact ⟨c, by omega, by simpa using hj⟩
      · cases hj
    | succ i =>
      simp [chunks] at h
      obtain ⟨h1, h2, h3⟩ := chunks_get s n _ i e j d h hj
      rw [List.getElem?_drop] at h3
      exact ⟨h1, by omega, by rw [← h3]; congr 1; rw [Nat.succ_mul]; omega⟩
theorem chunks_len {α : Type} (s : Nat) : ∀ (n : Nat) (l : List α), (chunks s n l).length = n
  | 0, _ => rfl
  | n + 1, l => by simp [chunks, chunks_len s n]
theorem chunks_each {α : Type} (s : Nat) : ∀ (n : Nat) (l : List α), l.length = n * s → ∀ e ∈ chunks s n l, e.length = s
  | 0, l, h, e, he => by simp [chunks] at he
  | n + 1, l, h, e, he => by
    rw [Nat.succ_mul] at h
    simp only [chunks, List.mem_cons] at he
    rcases he with rfl | he
    · simp; omega
    · exact chunks_each s n (l.drop s) (by simp; omega) e he

theorem toD_sound {c : AV} {d : D} {v : Value} (h : RV w L σ c v) (hd : toD c = some d) : RD w (Own L σ) d v := by
  cases h with
  | d _ _ h => simp [toD] at hd; subst hd; exact h
  | own _ _ _ _ _ _ _ _ h => simp [toD] at hd; subst hd; exact h
  | exact _ _ h => simp [toD] at hd; subst hd; exact h
  | _ => simp [toD] at hd

theorem toDs_sound : ∀ {cs : List AV} {ds : List D}, toDs cs = some ds → ds.length = cs.length ∧ ∀ (i : Nat) c d, cs[i]? = some c → ds[i]? = some d → toD c = some d
  | [], ds, h => by simp [toDs] at h; subst h; simp
  | c :: cs, ds, h => by
    simp only [toDs] at h
    split at h
    · rename_i x r h1 h2
      cases h
      obtain ⟨g1, g2⟩ := toDs_sound h2
      refine ⟨by simp [g1], fun i c' d hc hd => ?_⟩
      cases i with
      | zero => simp at hc hd; subst hc hd; exact h1
      | succ i => simp at hc hd; exact g2 i c' d hc hd
    · cases h

theorem fillA_length : ∀ {qs : List (Nat × Nat × Opd)} {cs out : List AV}, fillA fr cs qs = some out → out.length = cs.length
  | [], cs, out, h => by simp [fillA] at h; subst h; rfl
  | (off, s, x) :: qs, cs, out, h => by
    simp only [fillA] at h
    split at h
    · rename_i xs hxs
      split at h
      · rename_i hc
        rw [fillA_length h, splice_length (by omega)]
      · cases h
    · cases h

/-- an element of data that a new block holds -/
theorem block_elem (S : Sim L σ w) {cs : List AV} {ds : List D} {cells : Array Value} (hr : RVs w L σ cs cells.toList) (hd : toDs cs = some ds) (t : TypeId) (s n : Nat) (hl : cs.length = n * s) :
    RD (w.alloc (.cells cells t)) (Own L σ) (.slice (chunks s n ds)) (.slice (some ⟨w.heap.size, 0, none⟩) n n) := by
  obtain ⟨g1, g2⟩ := toDs_sound hd
  obtain ⟨st, _⟩ := alloc_quiet S (.cells cells t)
  have hn : (chunks s n ds).length = n := chunks_len s n ds
  have hds := chunks_each s n ds (by omega)
  generalize hes : chunks s n ds = es at hn hds
  rw [← hn]
  refine RD.of_block (sz := s) (Nat.le_refl _) hds fun i e j d hi hj => ?_
  rw [← hes] at hi
  obtain ⟨c1, c2, c3⟩ := chunks_get s n ds i e j d hi hj
  have hlt := lt_of_get c3
  have hc : cs[i * s + j]? = some (cs[i * s + j]'(by omega)) := List.getElem?_eq_getElem _
  have hsz : cells.size = cs.length := by have := hr.1; simpa using this
  have hv : cells[i * s + j]? = some (cells[i * s + j]'(by omega)) := Array.getElem?_eq_getElem _
  refine ⟨cells[i * s + j]'(by omega), ?_, fun h => ?_, ?_⟩
  · rw [Nat.zero_add, cell?_alloc_any]; exact hv
  · have := S.own_lt h; omega
  · exact st.rd (toD_sound (hr.2 _ _ _ hc (by rw [Array.getElem?_toList]; exact hv)) (g2 _ _ _ hc c3))

theorem run_mkslice {t e : TypeId} {n s : Nat} {zv : Value} {parts : Array (Nat × Value)} {cells : Array Value} (ht : P.underlying t = some (.slice e)) (hs : sizeOf? P e = some s) (k1 : n * s ≤ 16777216) (hz0 : ∀ w, (zeroValue e).run P w = .ok zv w)
    (g : Instr.fill (fun i => some (i * s, s)) ((Array.range (n * s)).map (zv.cells[· % zv.cells.size]!)) parts.toList = some cells) :
    (Instr.buildSlice t n parts).run P w = .ok (.slice (some ⟨w.heap.size, 0, none⟩) n n) (w.alloc (.cells cells e)) := by
  unfold Instr.buildSlice
  have h24 : ¬ (n * s > 2 ^ 24) := by omega
  simp only [Sem.run_bind, run_underlying ht, run_size hs, Result.andThen_ok, if_neg h24, Sem.run_pure]
  by_cases hn0 : n * s = 0
  · rw [if_pos hn0]
    rw [hn0] at g ⊢
    have e0 : (Array.range 0).map (fun i => zv.cells[i % zv.cells.size]!) = (Array.range 0).map (fun i => (#[] : Array Value)[i % (#[] : Array Value).size]!) := by apply Array.ext' ; simp
    rw [e0] at g
    try simp only [Sem.run_bind, Sem.run_pure, Result.andThen_ok]
    split
    · rename_i c hc
      rw [g] at hc; cases hc
      simp [newRow, newObj, Sem.run]
    · rename_i hc; exact absurd g (hc _)
  · rw [if_neg hn0]
    simp only [Sem.run_bind, hz0, Sem.run_pure, Result.andThen_ok]
    split
    · rename_i c hc
      rw [g] at hc; cases hc
      simp [newRow, newObj, Sem.run]
    · rename_i hc; exact absurd g (hc _)

theorem snd_mkslice (S : Sim L σ w) (F : FR w L σ fr a.tmps) {t : TypeId} {n : Nat} {parts : Array (Nat × Operand)} {mu : Bool} {s : Nat} {z : List AV} {ps : List (Nat × Nat × Opd)} (ho : o.op = .buildSlice t n parts) (hc : compI P o = some (.mkslice false s n z ps))
    (h : astep P (.mkslice mu s n z ps) fr σ K) : Yields1 P o a L σ w K := by
  unfold compI at hc
  rw [ho] at hc
  simp only at hc
  split at hc
  · rename_i e ht
    simp only [Option.bind_eq_bind, Option.bind_eq_some_iff, Option.pure_def] at hc
    obtain ⟨s', hs, z', hz, ps', hps, hc⟩ := hc
    split at hc
    · rename_i hcond
      simp only [Option.some.injEq, I.mkslice.injEq, true_and] at hc
      obtain ⟨rfl, rfl, rfl⟩ := hc
      simp only [Bool.and_eq_true, decide_eq_true_eq, beq_iff_eq] at hcond
      obtain ⟨⟨k1, k2⟩, k3⟩ := hcond
      obtain ⟨inf, zv, hi, hz1, hz2⟩ := zeros_sound hz
      obtain ⟨m1, m2⟩ := mapM_some hps
      have hzr := zeros_rv hz2 (w := w) (L := L) (σ := σ)
      have hzs : zv.cells.size = s' := by have := hzr.1; simp at this; omega
      simp only [astep, mksliceC] at h
      split at h
      · rename_i cs hcs
        have hinit : RVs w L σ (rep z' n) ((Array.range (n * s')).map (zv.cells[· % zv.cells.size]!)).toList := by
          refine ⟨by simp [rep_length, k3], fun i c v hc hv => ?_⟩
          have hlt : i < n * s' := by have := lt_of_get hc; rw [rep_length, k3] at this; exact this
          rw [rep_get z' s' k3 k2 n i hlt] at hc
          simp [hlt, hzs] at hv
          have hm : i % s' < s' := Nat.mod_lt _ k2
          have hv' : zv.cells.toList[i % s']? = some v := by
            rw [← hv]
            have : i % s' < zv.cells.size := by omega
            simp [this]
          exact hzr.2 _ _ _ hc hv'
        have hfill := fillA_sound F (fun i => some (i * s', s')) parts.toList ps' (rep z' n) cs _ m1 (fun k p q hp hq => by
          have := m2 k p q hp hq
          simp only [Option.bind_eq_bind, Option.bind_eq_some_iff, Option.pure_def, Option.some.injEq] at this
          obtain ⟨y, hy, rfl⟩ := this
          exact ⟨rfl, hy⟩) hinit hcs
        obtain ⟨cells', g1, g2⟩ := hfill
        have hlen : cs.length = n * s' := by rw [fillA_length hcs, rep_length, k3]
        have g1' : Instr.fill (fun i => some (i * s', s')) ((Array.range (n * s')).map (zv.cells[· % zv.cells.size]!)) (parts.map fun p => (p.1, a.eval p.2)).toList = some cells' := by rw [Array.toList_map]; exact g1
        have hz0 : ∀ w, (zeroValue e).run P w = .ok zv w := fun w => by simp [zeroValue, typeInfo, hi, hz1]
        have hrun : (execOp a.eval o).run P w = .ok (.value (.slice (some ⟨w.heap.size, 0, none⟩) n n)) (w.alloc (.cells cells' e)) := by
          have := run_mkslice (P := P) (w := w) ht hs k1 hz0 g1'
          simp only [execOp, ho, Sem.run_bind, this, Result.andThen_ok, Sem.run_pure]
        cases mu
        · simp only [Bool.false_eq_true, if_false] at h
          split at h
          · rename_i ds hds
            obtain ⟨st, S'⟩ := alloc_quiet S (.cells cells' e)
            have hrd := block_elem S g2 hds e s' n hlen
            refine ⟨.exact (chunks s' n ds), _, L, σ, _, .inl hrun, st, S', ?_, h⟩
            have hn : (chunks s' n ds).length = n := chunks_len s' n ds
            have := RV.exact (w := w.alloc (.cells cells' e)) (L := L) (σ := σ) (chunks s' n ds) (some ⟨w.heap.size, 0, none⟩) (by rw [hn]; exact hrd)
            rw [hn] at this; exact this
          · exact h.elim
        · simp only [if_true] at h
          obtain ⟨L', st, S', eL⟩ := new_box S g2 e
          refine ⟨.bsl σ.length 0 n n s', _, L', _, _, .inl hrun, st, S', ?_, h⟩
          have := RV.bsl (w := w.alloc (.cells cells' e)) (L := L') (σ := σ ++ [.box cs]) σ.length 0 n n s' ⟨.box cs, by simp, by simp [AObj.kind]⟩ (Nat.le_refl _)
          rw [eL] at this
          simpa using this
      · exact h.elim
    · cases hc
  · cases hc

/-! append -/
/-- a source: so many elements, whose cells are these -/
def SrcOk (P : Program) (w : World) (sz : Nat) (v : Value) (m : Nat) (news : List Value) : Prop :=
  news.length = m * sz ∧ ∀ w' : World, w'.heap = w.heap → (Builtin.lenOf v).run P w' = .ok m w' ∧ (Builtin.firstCells sz m v).run P w' = .ok news.toArray w'

theorem cell?_heap {w w' : World} (h : w'.heap = w.heap) (p : Addr) : w'.cell? p = w.cell? p := by simp [World.cell?, h]

/-- what the cells of a list of elements are -/
def CellsAre (w : World) (O : Nat → Nat → Prop) (sz : Nat) (es : List (List D)) (vs : List Value) : Prop :=
  ∀ (i : Nat) e (j : Nat) d, es[i]? = some e → e[j]? = some d → ∃ v, vs[i * sz + j]? = some v ∧ RD w O d v ∧ v.oneCell' = true

theorem RD.one {O : Nat → Nat → Prop} {x : D} {v : Value} (h : RD w O x v) : v.oneCell' = true := by cases h <;> rfl

theorem src_rd (P : Program) {O : Nat → Nat → Prop} {es : List (List D)} {v : Value} {sz : Nat} (h : RD w O (.slice es) v) (hsz : ∀ e ∈ es, e.length = sz) : ∃ news, SrcOk P w sz v es.length news ∧ CellsAre w O sz es news ∧ (∀ u ∈ news, u.oneCell' = true) := by
  cases h with
  | empty b cap hb =>
    refine ⟨[], ⟨by simp, fun w' _ => ?_⟩, fun i e j d hi _ => by simp at hi, by simp⟩
    cases b <;> simp [Builtin.lenOf, Builtin.firstCells, loadCells, loadCellsFrom]
  | slice es b off cap sz' vs h0 h1 h2 h3 h4 =>
    have : sz' = sz := by
      cases es with
      | nil => exact absurd rfl h0
      | cons e es => rw [← h2 e (by simp), hsz e (by simp)]
    subst this
    have hcell : ∀ k, k < es.length * sz' → w.cell? ⟨b, off + k, none⟩ = some (vs k) ∧ (vs k).oneCell' = true := fun k hk => by
      have hs : 0 < sz' := by
        rcases Nat.eq_zero_or_pos sz' with e | e
        · subst e; simp at hk
        · exact e
      have hi : k / sz' < es.length := Nat.div_lt_of_lt_mul (by rw [Nat.mul_comm]; exact hk)
      have hj : k % sz' < sz' := Nat.mod_lt _ hs
      have e1 : es[k / sz']? = some es[k / sz'] := List.getElem?_eq_getElem _
      have hl := h2 es[k / sz'] (List.getElem_mem _)
      have e2 : es[k / sz'][k % sz']? = some (es[k / sz'][k % sz']'(by omega)) := List.getElem?_eq_getElem _
      have e3 : k / sz' * sz' + k % sz' = k := by rw [Nat.mul_comm]; exact Nat.div_add_mod k sz'
      have c1 := (h3 _ _ _ _ e1 e2).1
      have c2 := h4 _ _ _ _ e1 e2
      rw [e3] at c1 c2
      exact ⟨c1, c2.one⟩
    refine ⟨(List.range (es.length * sz')).map vs, ⟨by simp, fun w' hw => ?_⟩, fun i e j d hi hj => ?_, ?_⟩
    · have := run_loadCells (P := P) w' ⟨b, off, none⟩ (es.length * sz') vs (fun j hj => by rw [addr_add, cell?_heap hw]; exact (hcell j hj).1)
      simp [Builtin.lenOf, Builtin.firstCells, this]
    · have hl1 := lt_of_get hi
      have hl2 : j < sz' := by have := lt_of_get hj; rw [h2 e (List.mem_of_getElem? hi)] at this; exact this
      have hk : i * sz' + j < es.length * sz' := by
        have : (i + 1) * sz' ≤ es.length * sz' := Nat.mul_le_mul_right _ hl1
        rw [Nat.succ_mul] at this; omega
      exact ⟨vs (i * sz' + j), by simp [hk], h4 i e j d hi hj, (hcell _ hk).2⟩
    · intro u hu
      simp at hu
      obtain ⟨k, hk, rfl⟩ := hu
      exact (hcell k hk).2

theorem srcE_sound (S : Sim L σ w) {x : AV} {v : Value} {sz : Nat} {ys : List (List D)} (h : RV w L σ x v) (hy : srcE σ sz x = some ys) (hsz : ∀ e ∈ ys, e.length = sz) :
    ∃ news, SrcOk P w sz v ys.length news ∧ CellsAre w (Own L σ) sz ys news ∧ (∀ u ∈ news, u.oneCell' = true) := by
  unfold srcE at hy
  split at hy
  · cases hy; cases h with | d _ _ h => exact src_rd P h hsz
  · cases hy; cases h with | own _ _ _ _ _ _ _ _ h => exact src_rd P h hsz
  · cases hy; cases h with | exact _ _ h => exact src_rd P h hsz
  · rename_i s
    cases hy
    have hX := h.str_inv
    subst hX
    refine ⟨s.map fun b => .int .u8 b.toNat, ⟨?_, fun w' _ => ?_⟩, fun i e j d hi hj => ?_, by simp; intros; rfl⟩
    · cases s with
      | nil => simp
      | cons b s => have : sz = 1 := by rw [← hsz (byteCell b) (by simp)]; rfl
                    subst this; simp
    · have hl : (ByteArray.mk s.toArray).size = s.length := by simp [ByteArray.size]
      refine ⟨by simp [Builtin.lenOf, hl], ?_⟩
      have : (ByteArray.mk s.toArray).extract 0 (s.map byteCell).length = ⟨s.toArray⟩ := by
        apply ByteArray.ext
        rw [ByteArray.data_extract]
        apply Array.ext'
        simp
      simp only [Builtin.firstCells, this]
      simp
    · simp only [List.getElem?_map, Option.map_eq_some_iff] at hi
      obtain ⟨b, hb, rfl⟩ := hi
      have hsz1 : sz = 1 := by rw [← hsz (byteCell b) (List.mem_map_of_mem (List.mem_of_getElem? hb))]; rfl
      subst hsz1
      have hj0 : j = 0 := by have := lt_of_get hj; simp [byteCell] at this; exact this
      subst hj0
      simp [byteCell] at hj; subst hj
      exact ⟨.int .u8 b.toNat, by simp [hb], .int _ _, rfl⟩
  · rename_i id off len cap s
    split at hy
    · rename_i hs; subst hs
      split at hy
      · rename_i cs hcs
        split at hy
        · rename_i hle
          simp only [Option.map_eq_some_iff] at hy
          obtain ⟨ds, hds, rfl⟩ := hy
          obtain ⟨hX, hfix, hlc⟩ := h.bsl_inv
          subst hX
          obtain ⟨_, _, hcells⟩ := S.obj id _ hcs
          obtain ⟨g1, g2⟩ := toDs_sound hds
          have hdl : ds.length = len * s := by rw [g1]; simp; omega
          have hat : ∀ k, k < len * s → ∃ v, w.cell? ⟨(L id).a.block, (L id).a.off + off + k, none⟩ = some v ∧ ∀ d, ds[k]? = some d → RD w (Own L σ) d v := fun k hk => by
            have hc : cs[off + k]? = some (cs[off + k]'(by omega)) := List.getElem?_eq_getElem _
            obtain ⟨_, v, c1, c2⟩ := hcells (off + k) _ hc
            rw [← Nat.add_assoc] at c1
            refine ⟨v, c1, fun d hd => toD_sound c2 (g2 k _ d ?_ hd)⟩
            rw [List.getElem?_take, if_pos hk, List.getElem?_drop]; exact hc
          refine ⟨(List.range (len * s)).map fun k => (w.cell? ⟨(L id).a.block, (L id).a.off + off + k, none⟩).getD undef, ⟨by simp [chunks_len], fun w' hw => ?_⟩, fun i e j d hi hj => ?_, ?_⟩
          · rw [chunks_len]
            have := run_loadCells (P := P) w' ⟨(L id).a.block, (L id).a.off + off, none⟩ (len * s) (fun k => (w.cell? ⟨(L id).a.block, (L id).a.off + off + k, none⟩).getD undef) (fun j hj => by
              obtain ⟨v, c1, _⟩ := hat j hj
              rw [addr_add, cell?_heap hw, c1]; rfl)
            simp [Builtin.lenOf, Builtin.firstCells, this]
          · obtain ⟨c1, c2, c3⟩ := chunks_get s len ds i e j d hi hj
            have hk := lt_of_get c3
            rw [hdl] at hk
            obtain ⟨v, e1, e2⟩ := hat _ hk
            exact ⟨v, by simp [hk, e1], e2 d c3, (e2 d c3).one⟩
          · intro u hu
            simp at hu
            obtain ⟨k, hk, rfl⟩ := hu
            obtain ⟨v, e1, e2⟩ := hat k hk
            rw [e1]
            exact (e2 (ds[k]'(by omega)) (List.getElem?_eq_getElem _)).one
        · cases hy
      · cases hy
    · cases hy
  · cases hy

section run
variable {t u e ty : TypeId} {inf : TypeInfo} {z : Value} {sz bytes : Nat} {base : Option Addr} {n cap m : Nat} {x : Value} {olds news : List Value}

theorem run_append_room' (ht : P.underlying t = some (.slice e)) (hu : (∃ e', P.underlying u = some (.slice e')) ∨ P.underlying u = some .string) (hs : sizeOf? P e = some sz) (hx : SrcOk P w sz x m news) (hroom : n + m ≤ cap) :
    (Builtin.append_ #[t, u] ty #[.slice base n cap, x]).run P w =
      ((match base with | some a => storeCells (a.add (n * sz)) news | none => pure ()).run P w).andThen fun _ w' => .ok (.slice base (n + m) cap) w' := by
  obtain ⟨h1, h2⟩ := hx.2 w rfl
  rcases hu with ⟨e', hu⟩ | hu <;> cases base <;>
    simp [Builtin.append_, run_underlying ht, run_underlying hu, run_size hs, h1, h2, hroom]

theorem run_append_grow' (ht : P.underlying t = some (.slice e)) (hu : (∃ e', P.underlying u = some (.slice e')) ∨ P.underlying u = some .string) (hi : P.info? e = some inf) (hz : inf.zero = some z) (hs : inf.size = sz) (hb : inf.bytes = bytes) (hb0 : 0 < bytes)
    (hx : SrcOk P w sz x m news) (ho : SrcOk P w sz (.slice base n cap) n olds) (hroom : ¬ n + m ≤ cap) (hfit : (n + m) * bytes ≤ 140737488355328) :
    (Builtin.append_ #[t, u] ty #[.slice base n cap, x]).run P w =
      .ok (.slice (some ⟨w.heap.size, 0, none⟩) (n + m) (grownCap w (n + m) cap e)) (w.drew.alloc (.cells (olds.toArray ++ news.toArray ++ Builtin.zeroCells z.cells (grownCap w (n + m) cap e - (n + m))) e)) := by
  obtain ⟨h1, h2⟩ := hx.2 w rfl
  obtain ⟨h1', h2'⟩ := hx.2 w.drew rfl
  obtain ⟨h3, h4⟩ := ho.2 w.drew rfl
  have hg := growslice_fits (need := n + m) (old := cap) (bytes := bytes) (by omega) hfit
  have hg' : ¬ (281474976710656 < Builtin.nextslicecap (n + m) cap * bytes) := by omega
  have hb1 : bytes ≠ 0 := by omega
  rcases hu with ⟨e', hu⟩ | hu <;>
    simp [Builtin.append_, run_underlying ht, run_underlying hu, sizeOf, typeInfo, zeroValue, hi, hz, hs, hb, hb1, h1, hroom, hg', Question.forced, h2', h4, newRow, grownCap] <;>
    (congr 2; apply Array.ext'; simp [List.append_assoc])
end run

end
end Go.AW

/- What an operation does, against the model: append, to a row of the call's own or to one without spare places. -/
set_option linter.unusedSimpArgs false
set_option linter.unusedVariables false
namespace Go.AW
section
variable {P : Program} {o : Oper} {i : I} {fr : Frame} {σ : List AObj} {K : AV → List AObj → Prop} {L : Nat → Loc} {w : World} {a : Act}

/-- the cells of a row of new elements -/
theorem cells_append {O : Nat → Nat → Prop} {sz : Nat} {es ys : List (List D)} {olds news : List Value} (h1 : CellsAre w O sz es olds) (h2 : CellsAre w O sz ys news) (hl : olds.length = es.length * sz) :
    CellsAre w O sz (es ++ ys) (olds ++ news) := by
  intro i e j d hi hj
  rcases Nat.lt_or_ge i es.length with hlt | hge
  · rw [List.getElem?_append_left hlt] at hi
    obtain ⟨v, c1, c2⟩ := h1 i e j d hi hj
    exact ⟨v, by rw [List.getElem?_append_left (lt_of_get c1)]; exact c1, c2⟩
  · rw [List.getElem?_append_right hge] at hi
    obtain ⟨v, c1, c2⟩ := h2 _ e j d hi hj
    have e1 : i * sz = (i - es.length) * sz + es.length * sz := by rw [← Nat.add_mul]; congr 1; omega
    refine ⟨v, ?_, c2⟩
    rw [List.getElem?_append_right (by rw [hl]; omega), hl]
    rw [show i * sz + j - es.length * sz = (i - es.length) * sz + j by omega]
    exact c1

theorem CellsAre.step {L L' : Nat → Loc} {σ σ' : List AObj} {w w' : World} (s : Step L σ w L' σ' w') {sz : Nat} {es : List (List D)} {vs : List Value} (h : CellsAre w (Own L σ) sz es vs) : CellsAre w' (Own L' σ') sz es vs := by
  intro i e j d hi hj
  obtain ⟨v, c1, c2, c3⟩ := h i e j d hi hj
  exact ⟨v, c1, s.rd c2, c3⟩

/-- cell after cell of a row's spare end is written -/
theorem run_storeTok (id sz n : Nat) : ∀ (vs : List Value) (off i : Nat) (w : World), Sim L σ w → σ[id]? = some (.tok sz n) → (L id).nil = false → (L id).a.spot = none → (∀ v ∈ vs, v.oneCell' = true) →
    (L id).a.off + n * sz ≤ (L id).a.off + off + i → off + i + vs.length ≤ (L id).cap * sz →
    ∃ w', (storeCells ⟨(L id).a.block, (L id).a.off + off, none⟩ vs i).run P w = .ok () w' ∧ Step L σ w L σ w' ∧ Sim L σ w' ∧ w'.heap.size = w.heap.size ∧
      (∀ k v, vs[k]? = some v → w'.cell? ⟨(L id).a.block, (L id).a.off + off + i + k, none⟩ = some v) ∧
      (∀ p, (p.block ≠ (L id).a.block ∨ p.off < (L id).a.off + off + i ∨ p.spot ≠ none) → w'.cell? p = w.cell? p)
  | [], off, i, w, S, _, _, _, _, _, _ => ⟨w, by simp [storeCells], Step.refl _ _ _, S, rfl, by simp, fun _ _ => rfl⟩
  | v :: vs, off, i, w, S, hx, hn, hsp, hone, hlo, hhi => by
    simp only [List.length_cons] at hhi
    obtain ⟨s1, S1⟩ := tok_store S hx (o := (L id).a.off + off + i) hn (by omega) (by omega) v
    obtain ⟨_, _, _, h3⟩ := S.obj id _ hx
    obtain ⟨⟨u, hu⟩, hf⟩ := h3 hn ((L id).a.off + off + i) (by omega) (by omega)
    obtain ⟨w', r, s2, S2, hs, hc, hk⟩ := run_storeTok id sz n vs off (i + 1) _ S1 hx hn hsp (fun v hv => hone v (by simp [hv])) (by omega) (by omega)
    have ho := hone v (by simp)
    have hst : (store ((Addr.mk (L id).a.block ((L id).a.off + off) none).add i) v).run P w = .ok () (w.setCell ⟨(L id).a.block, (L id).a.off + off + i, none⟩ v) := by
      rw [addr_add]
      cases v <;> first | (simp [Value.oneCell'] at ho; done) | simp [store, Sem.run, hu, hf]
    refine ⟨w', by rw [storeCells]; simp [hst, r], s1.trans s2, S2, by rw [hs]; simp, fun k x hk' => ?_, fun p hp => ?_⟩
    · cases k with
      | zero =>
        simp at hk'; subst hk'
        rw [hk _ (.inr (.inl (by dsimp only; omega)))]
        exact World.cell?_setCell_same w _ _ hu
      | succ k =>
        simp at hk'
        have := hc k x hk'
        rw [show (L id).a.off + off + i + (k + 1) = (L id).a.off + off + (i + 1) + k by omega]
        exact this
    · rw [hk p (Or.imp_right (Or.imp_left fun h => by omega) hp)]
      refine World.cell?_setCell_other w _ _ v fun e => ?_
      subst e
      rcases hp with h | h | h
      · exact h rfl
      · dsimp only at h; omega
      · exact h rfl

theorem snd_append (S : Sim L σ w) (F : FR w L σ fr a.tmps) {c : Call} {t u e : TypeId} {x y : Operand} {x' y' : Opd} {sz bytes : Nat} {zz : List AV} {inf : TypeInfo} (ho : o.op = .call c) (hcal : c.callee = .builtin .append) (hat : c.argTypes.toList = [t, u]) (hargs : c.args.toList = [x, y])
    (ht : P.underlying t = some (.slice e)) (hu : (∃ e', P.underlying u = some (.slice e')) ∨ P.underlying u = some .string) (hs : sizeOf? P e = some sz) (hi : P.info? e = some inf) (hz : zeros P e = some zz) (hsz : 0 < sz) (hzl : zz.length = sz) (hb0 : 0 < inf.bytes) (hb : inf.bytes = bytes)
    (hx : opd x = some x') (hy : opd y = some y') (h : astep P (.append sz bytes zz x' y') fr σ K) : Yields1 P o a L σ w K := by
  have hargs' : c.args = #[x, y] := by apply Array.ext'; simpa using hargs
  have hat' : c.argTypes = #[t, u] := by apply Array.ext'; simpa using hat
  have hvx := ev_sound F hx
  have hvy := ev_sound F hy
  have hisz : inf.size = sz := by simp only [sizeOf?, hi, Option.map_some, Option.some.injEq] at hs; exact hs
  obtain ⟨inf', z, hi', hz1, hz2⟩ := zeros_sound hz
  rw [hi] at hi'; cases hi'
  have hzs : z.cells.size = sz := by have := (mapM_some hz2).1; simp at this; omega
  have fin : ∀ {v w'}, (Builtin.append_ #[t, u] o.type #[a.eval x, a.eval y]).run P w = .ok v w' → (execOp a.eval o).run P w = .ok (.value v) w' := fun {v w'} h1 => by
    simp [execOp, ho, resolve, hcal, hargs', hat', invoke, builtin, h1]
  simp only [astep, appendC] at h
  split at h
  · rename_i ys hys
    obtain ⟨hysz, h⟩ := h
    obtain ⟨news, hnews, hncells, hnone⟩ := srcE_sound (P := P) S hvy hys hysz
    have size_new : ∀ {olds : List Value} {n cap : Nat}, olds.length = n * sz → ¬ n + ys.length ≤ cap →
        (olds.toArray ++ news.toArray ++ Builtin.zeroCells z.cells (grownCap w (n + ys.length) cap e - (n + ys.length))).size = grownCap w (n + ys.length) cap e * sz := fun {olds n cap} hol _ => by
      have hge := grownCap_ge w (n + ys.length) cap e
      simp only [Array.size_append, List.size_toArray, size_zeroCells, hzs, hol, hnews.1, ← Nat.add_mul]
      congr 1; omega
    split at h
    · -- a slice without spare places
      rename_i es hes
      obtain ⟨hesz, hfit, hK⟩ := h
      rw [hes] at hvx
      generalize hX : a.eval x = X at hvx
      cases hvx with | exact _ b hrd =>
      obtain ⟨olds, holds, hocells, hoone⟩ := src_rd P hrd hesz
      by_cases hm : ys.length = 0
      · have hys0 : ys = [] := List.eq_nil_of_length_eq_zero hm
        have hn0 : news = [] := List.eq_nil_of_length_eq_zero (by rw [hnews.1, hm]; simp)
        have hrun := run_append_room' (P := P) (w := w) (ty := o.type) (base := b) (n := es.length) (cap := es.length) ht hu hs hnews (by omega)
        have hrun' : (Builtin.append_ #[t, u] o.type #[a.eval x, a.eval y]).run P w = .ok (.slice b es.length es.length) w := by
          rw [hX, hrun, hn0, hm]
          cases b <;> simp [storeCells]
        -- an end that owns nothing
        have hspot : b = none → es.length = 0 := fun hb' => by
          cases hrd with
          | empty => rfl
          | slice => cases hb'
        let l : Loc := { a := b.getD ⟨0, 0, none⟩, nil := b.isNone, cap := es.length }
        have hnoFoot : ∀ p q, ¬ Foot l (.tok sz es.length) p q := fun p q hf => by
          obtain ⟨_, _, h1, h2⟩ := hf
          dsimp only [l] at h1 h2; omega
        have hown : ∀ p q, Own (Lput L σ.length l) (σ ++ [.tok sz es.length]) p q → Own L σ p q := fun p q hf => by
          obtain ⟨id, ob, ho', hf⟩ := hf
          rcases Nat.lt_or_ge id σ.length with hl | hl
          · rw [List.getElem?_append_left hl] at ho'
            rw [Lput_ne (by omega)] at hf
            exact ⟨id, ob, ho', hf⟩
          · rw [List.getElem?_append_right hl] at ho'
            have e1 : id = σ.length := by have := lt_of_get ho'; simp at this; omega
            subst e1
            simp at ho'; subst ho'
            rw [Lput_same] at hf
            exact absurd hf (hnoFoot _ _)
        have st : Step L σ w (Lput L σ.length l) (σ ++ [.tok sz es.length]) w :=
          ⟨rfl, rfl, rfl, Nat.le_refl _, fun _ _ _ => rfl, fun _ _ _ _ => rfl, fun p q _ hf => hown p q hf, by simp, fun id ob hob => by
            have hl := lt_of_get hob
            exact ⟨ob, by rw [List.getElem?_append_left hl]; exact hob, rfl, fun _ => Lput_ne (by omega), fun s' n' e' => ⟨n', e', Nat.le_refl _, fun _ => Lput_ne (by omega)⟩⟩⟩
        have hget : ∀ {id ob}, (σ ++ [AObj.tok sz es.length])[id]? = some ob → (id < σ.length ∧ σ[id]? = some ob) ∨ (id = σ.length ∧ ob = .tok sz es.length) := fun {id ob} hy => by
          rcases Nat.lt_or_ge id σ.length with hl | hl
          · rw [List.getElem?_append_left hl] at hy; exact .inl ⟨hl, hy⟩
          · rw [List.getElem?_append_right hl] at hy
            have e : id = σ.length := by have := lt_of_get hy; simp at this; omega
            subst e; simp at hy; exact .inr ⟨rfl, hy.symm⟩
        have S' : Sim (Lput L σ.length l) (σ ++ [.tok sz es.length]) w := by
          refine ⟨fun id ob hob => ?_, fun i j p q b' o' hij hp hq hfp hfq => ?_⟩
          · rcases hget hob with ⟨hl, hob⟩ | ⟨rfl, rfl⟩
            · rw [Lput_ne (by omega)]
              exact (S.obj id ob hob).keep st (fun _ _ _ => ⟨rfl, rfl⟩) (fun _ _ => rfl)
            · rw [Lput_same]
              refine ⟨Nat.le_refl _, fun hn => ?_, fun hn hc => ?_, fun hn o' h1 h2 => ?_⟩
              · exact hspot (by simpa [l] using hn)
              · dsimp only [l] at hc ⊢
                cases hrd with
                | empty => simp at hc
                | slice => rfl
              · dsimp only [l] at h1 h2; omega
          · rcases hget hp with ⟨hl, hp1⟩ | ⟨e1, e2⟩
            · rcases hget hq with ⟨hl', hq1⟩ | ⟨e1, e2⟩
              · rw [Lput_ne (by omega)] at hfp hfq
                exact S.apart i j p q b' o' hij hp1 hq1 hfp hfq
              · rw [e1, Lput_same, e2] at hfq
                exact hnoFoot _ _ hfq
            · rw [e1, Lput_same, e2] at hfp
              exact hnoFoot _ _ hfp
        subst hys0
        simp only [List.append_nil, List.length_nil, Nat.add_zero] at hK
        refine ⟨.own σ.length es, _, _, _, w, .inl (fin hrun'), st, S', .own σ.length es _ sz es.length (by simp) (Nat.le_refl _) hesz (st.rd hrd) (fun _ => ?_), hK⟩
        rw [Lput_same]
        dsimp only [l]
        cases b <;> simp
      · have hroom : ¬ es.length + ys.length ≤ es.length := by omega
        have hrun := run_append_grow' (P := P) (w := w) (ty := o.type) (base := b) (n := es.length) (cap := es.length) ht hu hi hz1 hisz hb (hb ▸ hb0) hnews holds hroom hfit
        have hrun' := hrun
        rw [← hX] at hrun'
        have hsize := size_new holds.1 hroom
        have hge := grownCap_ge w (es.length + ys.length) es.length e
        generalize hgc : grownCap w (es.length + ys.length) es.length e = gc at *
        generalize hcs : olds.toArray ++ news.toArray ++ Builtin.zeroCells z.cells (gc - (es.length + ys.length)) = cells at *
        obtain ⟨S1, s1⟩ := S.drew (w.drawn + 1)
        have hf : ∀ p q, Foot { a := ⟨w.heap.size, 0, none⟩, cap := gc } (.tok sz (es.length + ys.length)) p q → p = w.heap.size := fun p q hf => hf.2.1
        have s2 := extend_step L σ (w := w.drew) (.cells cells e) { a := ⟨w.heap.size, 0, none⟩, cap := gc } (.tok sz (es.length + ys.length)) hf
        have S2 := extend_sim (w := w.drew) S1 (.cells cells e) { a := ⟨w.heap.size, 0, none⟩, cap := gc } (.tok sz (es.length + ys.length)) hf (by
          refine ⟨hge, fun h => Bool.noConfusion h, fun _ _ => rfl, fun _ q h1 h2 => ⟨?_, World.frozen?_alloc_at cells e _ q rfl⟩⟩
          dsimp only at h1 h2
          have hlt : q < cells.size := by omega
          refine ⟨cells[q], ?_⟩
          have := cell?_alloc_any w.drew cells e (0, 0) q
          exact this.trans (Array.getElem?_eq_getElem hlt))
        have s12 := s1.trans s2
        refine ⟨.own σ.length (es ++ ys), _, _, _, _, .inl (fin hrun'), s12, S2, .own σ.length (es ++ ys) _ sz (es.length + ys.length) (by simp) (by simp) ?_ ?_ (fun _ => ?_), hK⟩
        · intro e' he'
          exact (List.mem_append.1 he').elim (hesz _) (hysz _)
        · have hlen : (es ++ ys).length = es.length + ys.length := by simp
          suffices hsuff : RD (w.drew.alloc (.cells cells e)) (Own (Lput L σ.length { a := ⟨w.heap.size, 0, none⟩, cap := gc }) (σ ++ [.tok sz (es.length + ys.length)])) (.slice (es ++ ys)) (.slice (some ⟨w.heap.size, 0, none⟩) (es ++ ys).length gc) by
            rw [hlen] at hsuff; exact hsuff
          refine RD.of_block (sz := sz) (by rw [hlen]; exact hge) (fun e' he' => by exact (List.mem_append.1 he').elim (hesz _) (hysz _)) fun i e' j d hi hj => ?_
          obtain ⟨v, c1, c2, _⟩ := (cells_append hocells hncells holds.1).step s12 i e' j d hi hj
          refine ⟨v, ?_, fun hown => ?_, c2⟩
          · rw [Nat.zero_add]
            have := cell?_alloc_any w.drew cells e (0, 0) (i * sz + j)
            refine this.trans ?_
            rw [← hcs, Array.getElem?_append_left (by have := lt_of_get c1; simpa using this)]
            simpa using c1
          · obtain ⟨id, ob, ho', hf'⟩ := hown
            have hij : i * sz + j < (es.length + ys.length) * sz := by
              have h1 := lt_of_get c1
              rw [List.length_append, holds.1, hnews.1, ← Nat.add_mul] at h1
              exact h1
            rcases Nat.lt_or_ge id σ.length with hl | hl
            · rw [List.getElem?_append_left hl] at ho'
              rw [Lput_ne (by omega)] at hf'
              have := hf'.lt (S.obj id ob ho')
              exact Nat.lt_irrefl _ this
            · rw [List.getElem?_append_right hl] at ho'
              have e1 : id = σ.length := by have := lt_of_get ho'; simp at this; omega
              subst e1
              simp at ho'; subst ho'
              rw [Lput_same] at hf'
              have := hf'.2.2.1
              dsimp only at this; omega
        · rw [Lput_same]; rfl
    · -- a row of the call's own
      rename_i tk es hes
      obtain ⟨hfit, htk, hK⟩ := h
      rw [hes] at hvx
      generalize hX : a.eval x = X at hvx
      cases hvx with | own _ _ _ sz' n0 k1 k2 k3 k4 k5 =>
      rw [htk] at k1
      obtain ⟨rfl, rfl⟩ : sz = sz' ∧ es.length = n0 := by cases k1; exact ⟨rfl, rfl⟩
      have hXv := k5 rfl
      rw [hXv] at k4
      obtain ⟨t1, t2, t3, t4⟩ := S.obj tk _ htk
      obtain ⟨olds, holds, hocells, hoone⟩ := src_rd P k4 k3
      have hall : ∀ e' ∈ es ++ ys, e'.length = sz := fun e' he' => by exact (List.mem_append.1 he').elim (k3 _) (hysz _)
      have hlen : (es ++ ys).length = es.length + ys.length := by simp
      by_cases hroom : es.length + ys.length ≤ (L tk).cap
      · have hrun := run_append_room' (P := P) (w := w) (ty := o.type) (base := if (L tk).nil then none else some (L tk).a) (n := es.length) (cap := (L tk).cap) ht hu hs hnews hroom
        by_cases hnil : (L tk).nil = true
        · -- nil: nothing is there, nothing comes
          have hc0 := t2 hnil
          have hes0 : es = [] := List.eq_nil_of_length_eq_zero (by omega)
          have hys0 : ys = [] := List.eq_nil_of_length_eq_zero (by omega)
          subst hes0; subst hys0
          have hset : σ.set tk (.tok sz 0) = σ := by
            obtain ⟨hl, hh⟩ := List.getElem?_eq_some_iff.1 htk
            have : σ[tk] = .tok sz 0 := hh
            rw [← this]; exact List.set_getElem_self hl
          simp only [List.append_nil, List.length_nil, Nat.add_zero, hset] at hK
          have hrun' : (Builtin.append_ #[t, u] o.type #[a.eval x, a.eval y]).run P w = .ok (.slice none 0 (L tk).cap) w := by
            rw [hX, hXv, hnil] at *
            simpa using hrun
          refine .same S (r := .own tk []) (fin hrun') (.own tk [] _ sz 0 htk (Nat.le_refl _) (by simp) ?_ (fun _ => by rw [hnil]; rfl)) hK
          rw [hnil] at k4; simpa using k4
        · have hnil' : (L tk).nil = false := by simpa using hnil
          rw [hnil'] at hrun hXv k4
          simp only [Bool.false_eq_true, if_false] at hrun hXv k4
          by_cases hcap0 : (L tk).cap = 0
          · have hes0 : es = [] := List.eq_nil_of_length_eq_zero (by omega)
            have hys0 : ys = [] := List.eq_nil_of_length_eq_zero (by omega)
            subst hes0; subst hys0
            have hset : σ.set tk (.tok sz 0) = σ := by
              obtain ⟨hl, hh⟩ := List.getElem?_eq_some_iff.1 htk
              have : σ[tk] = .tok sz 0 := hh
              rw [← this]; exact List.set_getElem_self hl
            simp only [List.append_nil, List.length_nil, Nat.add_zero, hset] at hK
            have hn0 : news = [] := List.eq_nil_of_length_eq_zero (by rw [hnews.1]; simp)
            have hrun' : (Builtin.append_ #[t, u] o.type #[a.eval x, a.eval y]).run P w = .ok (.slice (some (L tk).a) 0 (L tk).cap) w := by
              rw [hX, hXv]
              have := hrun
              rw [hn0] at this
              simpa [storeCells] using this
            exact .same S (r := .own tk []) (fin hrun') (.own tk [] _ sz 0 htk (Nat.le_refl _) (by simp) (by simpa using k4) (fun _ => by rw [hnil']; rfl)) hK
          · obtain ⟨A, hA⟩ : ∃ A, A = (L tk).a := ⟨_, rfl⟩
            rw [← hA] at k4
            have hspot := t3 hnil' (by omega)
            have haddr : (L tk).a = ⟨(L tk).a.block, (L tk).a.off, none⟩ := by
              cases hA : (L tk).a with | mk b1 o1 s1 => rw [hA] at hspot; simp at hspot; rw [hspot]
            have hmulle : es.length * sz + ys.length * sz ≤ (L tk).cap * sz := by rw [← Nat.add_mul]; exact Nat.mul_le_mul_right _ hroom
            obtain ⟨w', r, s1, S1, hws, hc, hk⟩ := run_storeTok (P := P) tk sz es.length news (es.length * sz) 0 w S htk hnil' hspot hnone (by omega) (by rw [hnews.1]; omega)
            obtain ⟨s2, S2⟩ := tok_fill S1 htk (m := es.length + ys.length) (by omega) hroom
            have s12 := s1.trans s2
            have hrun' : (Builtin.append_ #[t, u] o.type #[a.eval x, a.eval y]).run P w = .ok (.slice (some (L tk).a) (es.length + ys.length) (L tk).cap) w' := by
              rw [hX, hXv, hrun]
              have : (storeCells ((L tk).a.add (es.length * sz)) news).run P w = .ok () w' := by
                have e1 : (L tk).a.add (es.length * sz) = ⟨(L tk).a.block, (L tk).a.off + es.length * sz, none⟩ := by
                  conv => lhs; rw [haddr]
                  exact addr_add _ _ _
                rw [e1]; exact r
              simp [this]
            refine ⟨.own tk (es ++ ys), _, L, _, w', .inl (fin hrun'), s12, S2, .own tk (es ++ ys) _ sz (es.length + ys.length) (by simp [lt_of_get htk]) (by simp) hall ?_ (fun _ => by rw [hnil']; rfl), hK⟩
            suffices hsuff : RD w' (Own L (σ.set tk (.tok sz (es.length + ys.length)))) (.slice (es ++ ys)) (.slice (some ⟨(L tk).a.block, (L tk).a.off, none⟩) (es ++ ys).length (L tk).cap) by
              rw [hlen, ← haddr] at hsuff; exact hsuff
            refine RD.of_block (sz := sz) (by rw [hlen]; exact hroom) hall fun i e' j d hi hj => ?_
            have hnotown : i * sz + j < (es.length + ys.length) * sz → ¬ Own L (σ.set tk (.tok sz (es.length + ys.length))) (L tk).a.block ((L tk).a.off + (i * sz + j)) := fun hlt hown => by
              by_cases hil : i < es.length
              · -- an old cell: it was not owned
                rw [List.getElem?_append_left hil] at hi
                cases k4 with
                | empty => simp at hil
                | slice _ b1 o1 c1 sz1 vs g0 g1 g2 g3 g4 =>
                  have : sz1 = sz := by rw [← g2 e' (List.mem_of_getElem? hi), k3 e' (List.mem_of_getElem? hi)]
                  subst this
                  have hno := (g3 i e' j d hi hj).2
                  have hb1 := cell?_some_lt (g3 i e' j d hi hj).1
                  have e1 : b1 = (L tk).a.block := by rw [← hA]
                  have e2 : o1 = (L tk).a.off := by rw [← hA]
                  rw [e1, e2] at hno
                  rw [e1] at hb1
                  exact hno (s12.own _ _ hb1 hown)
              · obtain ⟨id, ob, ho', hf'⟩ := hown
                have hlow : es.length * sz ≤ i * sz := Nat.mul_le_mul_right _ (by omega)
                have hin : Foot (L tk) (.tok sz es.length) (L tk).a.block ((L tk).a.off + (i * sz + j)) := ⟨hnil', rfl, by omega, by rw [Nat.add_mul] at hlt; omega⟩
                rcases get_set_cases ho' with ⟨rfl, rfl⟩ | ⟨hne, ho'⟩
                · have := hf'.2.2.1; omega
                · exact S.apart id tk ob _ _ _ hne ho' htk hf' hin
            have hbase : (L tk).a.block < w.heap.size := by
              have hq : (L tk).a.off + es.length * sz < (L tk).a.off + (L tk).cap * sz ∨ es.length = (L tk).cap := by
                rcases Nat.lt_or_ge es.length (L tk).cap with h | h
                · left
                  have : (es.length + 1) * sz ≤ (L tk).cap * sz := Nat.mul_le_mul_right _ h
                  rw [Nat.succ_mul] at this; omega
                · right; omega
              rcases hq with hq | hq
              · obtain ⟨⟨u', hu'⟩, _⟩ := t4 hnil' _ (Nat.le_refl _) hq
                exact cell?_some_lt hu'
              · cases k4 with
                | empty => simp at hq; omega
                | slice _ b1 o1 c1 sz1 vs g0 g1 g2 g3 g4 =>
                  have e1 : b1 = (L tk).a.block := by rw [← hA]
                  cases es with
                  | nil => exact absurd rfl g0
                  | cons e0 es =>
                    have l0 := k3 e0 (by simp)
                    have : e0[0]? = some (e0[0]'(by omega)) := List.getElem?_eq_getElem _
                    have := cell?_some_lt (g3 0 e0 0 _ rfl this).1
                    rw [← e1]; exact this
            by_cases hil : i < es.length
            · have hi' := hi
              rw [List.getElem?_append_left hil] at hi'
              cases k4 with
              | empty => simp at hil
              | slice _ b1 o1 c1 sz1 vs g0 g1 g2 g3 g4 =>
                have : sz1 = sz := by rw [← g2 e' (List.mem_of_getElem? hi'), k3 e' (List.mem_of_getElem? hi')]
                subst this
                obtain ⟨hcell, hno⟩ := g3 i e' j d hi' hj
                have hrd := g4 i e' j d hi' hj
                have e1 : b1 = (L tk).a.block := by rw [← hA]
                have e2 : o1 = (L tk).a.off := by rw [← hA]
                have hb1 := cell?_some_lt hcell
                rw [e1, e2] at hcell hno
                rw [e1] at hb1
                exact ⟨_, (s12.cell _ _ hb1 hno).trans hcell, fun hown => hno (s12.own _ _ hb1 hown), s12.rd hrd⟩
            · have hi' := hi
              rw [List.getElem?_append_right (by omega)] at hi'
              obtain ⟨v, c1, c2, _⟩ := hncells _ e' j d hi' hj
              have hlt1 := lt_of_get c1
              have e1 : i * sz = (i - es.length) * sz + es.length * sz := by rw [← Nat.add_mul]; congr 1; omega
              refine ⟨v, ?_, hnotown (by rw [hnews.1] at hlt1; rw [Nat.add_mul]; omega), s12.rd c2⟩
              have := hc _ v c1
              rw [show (L tk).a.off + (i * sz + j) = (L tk).a.off + es.length * sz + 0 + ((i - es.length) * sz + j) by omega]
              exact this
      · have hrun := run_append_grow' (P := P) (w := w) (ty := o.type) (base := if (L tk).nil then none else some (L tk).a) (n := es.length) (cap := (L tk).cap) ht hu hi hz1 hisz hb (hb ▸ hb0) hnews holds hroom hfit
        have hrun' := hrun
        rw [← hXv, ← hX] at hrun'
        have hsize := size_new holds.1 hroom
        have hge := grownCap_ge w (es.length + ys.length) (L tk).cap e
        generalize hgc : grownCap w (es.length + ys.length) (L tk).cap e = gc at *
        generalize hcs : olds.toArray ++ news.toArray ++ Builtin.zeroCells z.cells (gc - (es.length + ys.length)) = cells at *
        obtain ⟨S1, s1⟩ := S.drew (w.drawn + 1)
        obtain ⟨s2, S2⟩ := tok_move (w := w.drew) S1 htk (m := es.length + ys.length) (by omega) cells e gc hge hsize
        have s12 := s1.trans s2
        refine ⟨.own tk (es ++ ys), _, _, _, _, .inl (fin hrun'), s12, S2, .own tk (es ++ ys) _ sz (es.length + ys.length) (by simp [lt_of_get htk]) (by simp) hall ?_ (fun _ => ?_), hK⟩
        · suffices hsuff : RD (w.drew.alloc (.cells cells e)) (Own (Lput L tk { a := ⟨w.heap.size, 0, none⟩, cap := gc }) (σ.set tk (.tok sz (es.length + ys.length)))) (.slice (es ++ ys)) (.slice (some ⟨w.heap.size, 0, none⟩) (es ++ ys).length gc) by
            rw [hlen] at hsuff; exact hsuff
          refine RD.of_block (sz := sz) (by rw [hlen]; exact hge) hall fun i e' j d hi hj => ?_
          obtain ⟨v, c1, c2, _⟩ := (cells_append hocells hncells holds.1).step s12 i e' j d hi hj
          have hij : i * sz + j < (es.length + ys.length) * sz := by
            have h1 := lt_of_get c1
            rw [List.length_append, holds.1, hnews.1, ← Nat.add_mul] at h1
            exact h1
          refine ⟨v, ?_, fun hown => ?_, c2⟩
          · rw [Nat.zero_add]
            have := cell?_alloc_any w.drew cells e (0, 0) (i * sz + j)
            refine this.trans ?_
            rw [← hcs, Array.getElem?_append_left (by have := lt_of_get c1; simpa using this)]
            simpa using c1
          · obtain ⟨id, ob, ho', hf'⟩ := hown
            rcases get_set_cases ho' with ⟨rfl, rfl⟩ | ⟨hne, ho'⟩
            · rw [Lput_same] at hf'
              have := hf'.2.2.1
              dsimp only at this; omega
            · rw [Lput_ne hne] at hf'
              have := hf'.lt (S.obj id ob ho')
              exact Nat.lt_irrefl _ this
        · rw [Lput_same]; rfl
    · exact h.elim
  · exact h.elim

end
end Go.AW

/- What an operation does, against the model: maps; is a slice nil. -/
set_option linter.unusedSimpArgs false
set_option linter.unusedVariables false
namespace Go.AW
open Go.MapKept
section
variable {P : Program} {o : Oper} {i : I} {fr : Frame} {σ : List AObj} {K : AV → List AObj → Prop} {L : Nat → Loc} {w : World} {a : Act}


theorem getmap {r : Nat} {es : Array MapEntry} {clock : Nat} (hb : w.heap[r]? = some (.map es clock)) : (getObj r).run P w = .ok (.map es clock) w := by
  simp [getObj, Sem.run, hb]
theorem setmap {r : Nat} {es : Array MapEntry} {clock : Nat} (o : Obj) (hb : w.heap[r]? = some (.map es clock)) : (setObj r o).run P w = .ok () { w with heap := w.heap.setIfInBounds r o } := by
  simp [setObj, Sem.run, hb]

/-- what a key's kind says of its type -/
theorem kkOf_spec {t : TypeId} {kk : KK} (h : kkOf P t = some kk) :
    (kk = .int ∧ ∃ k, P.underlying t = some (.int k)) ∨ (kk = .str ∧ P.underlying t = some .string) ∨ (∃ n, kk = .ints n ∧ intsB P t = some n) := by
  unfold kkOf at h
  split at h
  · rename_i k hk; cases h; exact .inl ⟨rfl, k, hk⟩
  · rename_i hk; cases h; exact .inr (.inl ⟨rfl, hk⟩)
  · rename_i fs hk
    simp only [Option.map_eq_some_iff] at h
    obtain ⟨n, hn, rfl⟩ := h
    exact .inr (.inr ⟨n, rfl, hn⟩)
  · cases h

theorem run_check_ints (em : Bool) (d : Nat) {fields : List Field} {us : List Value} : ∀ (l : List Field) (s : Nat) (xs : List AV), (∀ (k : Nat) f, l[k]? = some f → f.name ≠ "_" ∧ f.offset = s + k ∧ ∃ q, P.underlying f.type = some (.int q)) →
    xs.length = l.length → RVs w L σ xs (us.drop s) → (intsEq xs xs).isSome = true →
    (forIn l PUnit.unit fun f _ => (do
        if f.name ≠ "_" then Instr.checkKey em (d + 1) f.type (← part f.type us.toArray f.offset)
        pure (ForInStep.yield PUnit.unit) : Sem (ForInStep PUnit))).run P w = .ok PUnit.unit w
  | [], s, xs, _, hl, _, _ => by simp
  | f :: l, s, xs, hf, hl, hx, he => by
    cases xs with
    | nil => simp at hl
    | cons x xs =>
    obtain ⟨hn, ho, q, hq⟩ := hf 0 f rfl
    obtain ⟨r, hr⟩ := Option.isSome_iff_exists.1 he
    obtain ⟨k, a, b, r', rfl, e2, hr', _⟩ := intsEq_cons hr
    have hu : us[s]? = some (.int k a) := by
      have h1 := hx.1; simp at h1
      have h2 : us[s]? = some (us[s]'(by omega)) := List.getElem?_eq_getElem _
      have := hx.2 0 _ (us[s]'(by omega)) rfl (by simp [List.getElem?_drop, h2])
      rw [h2, this.int_inv]
    have hag : aggB P f.type = some false := by simp [aggB, hq]
    have p1 : (part f.type us.toArray f.offset).run P w = .ok (.int k a) w := by simp [part, run_agg hag, ho, hu]
    have ih := run_check_ints em d (fields := fields) (us := us) l (s + 1) xs (fun j g hj => by have := hf (j + 1) g hj; exact ⟨this.1, by rw [this.2.1]; omega, this.2.2⟩) (by simpa using hl)
      ⟨by have := hx.1; simp at this ⊢; omega, fun j c u hc hu => hx.2 (j + 1) c u hc (by rw [List.getElem?_drop] at hu ⊢; rw [← hu]; congr 1; omega)⟩ (by rw [hr']; rfl)
    have hc : (Instr.checkKey em (d + 1) f.type (.int k a)).run P w = .ok () w := by simp [Instr.checkKey, run_underlying hq]
    rw [List.forIn_cons]
    simp only [hn, ne_eq, not_false_eq_true, if_true, Sem.run_bind, p1, hc, Result.andThen_ok, Sem.run_pure]
    simpa [hn] using ih

theorem run_check {t : TypeId} {kk : KK} (h : kkOf P t = some kk) {k : AV} {v : Value} (hk : keyFit kk k = true) (hv : RV w L σ k v) (em : Bool) : (Instr.checkKey em 10000 t v).run P w = .ok () w := by
  rcases kkOf_spec h with ⟨rfl, q, hq⟩ | ⟨rfl, hq⟩ | ⟨n, rfl, hn⟩
  · cases k <;> simp only [keyFit, Bool.false_eq_true] at hk
    rename_i x
    cases x <;> simp only [keyFit, Bool.false_eq_true] at hk
    rw [hv.int_inv]
    change (Instr.checkKey em (9999 + 1) t _).run P w = _
    unfold Instr.checkKey
    simp [run_underlying hq]
  · cases k <;> simp only [keyFit, Bool.false_eq_true] at hk
    rename_i x
    cases x <;> simp only [keyFit, Bool.false_eq_true] at hk
    rw [hv.str_inv]
    change (Instr.checkKey em (9999 + 1) t _).run P w = _
    unfold Instr.checkKey
    simp [run_underlying hq]
  · cases k <;> simp only [keyFit, Bool.false_eq_true, Bool.and_eq_true, beq_iff_eq] at hk
    rename_i xs
    obtain ⟨us, rfl, r1⟩ := hv.agg_inv
    obtain ⟨fs, inf, hu1, hu2, hu3, hu4, hu5, hu6, hu7⟩ := intsB_spec hn
    have := run_check_ints em 9998 (fields := fs.toList) fs.toList 0 xs (us := us) (fun k f hk => by have := hu7 k f (by simpa using hk); exact ⟨this.1, by rw [this.2.1]; omega, this.2.2⟩) (by rw [hk.1, ← hu4]; simp) (by simpa using r1) hk.2
    change (Instr.checkKey em (9999 + 1) t _).run P w = _
    unfold Instr.checkKey
    simp only [Sem.run_bind, run_underlying hu1, Result.andThen_ok]
    simp at this ⊢
    rw [this]; rfl

/-- the values of two keys that are the same -/
theorem keyEq_val {kk : KK} {x y : AV} {r : Bool} {u v : Value} (h : keyEq kk x y = some r) (hu : RV w L σ x u) (hv : RV w L σ y v) (hr : r = true) : u = v := by
  subst hr
  cases kk with
  | int =>
    cases x <;> try (simp [keyEq] at h; done)
    cases y <;> try (simp [keyEq] at h; done)
    rename_i x y
    cases x <;> cases y <;> simp [keyEq] at h
    obtain ⟨rfl, rfl⟩ := h
    rw [hu.int_inv, hv.int_inv]
  | str =>
    cases x <;> try (simp [keyEq] at h; done)
    cases y <;> try (simp [keyEq] at h; done)
    rename_i x y
    cases x <;> cases y <;> simp [keyEq] at h
    subst h
    rw [hu.str_inv, hv.str_inv]
  | ints n =>
    cases x <;> try (simp [keyEq] at h; done)
    cases y <;> try (simp [keyEq] at h; done)
    rename_i xs ys
    simp only [keyEq, Option.ite_none_right_eq_some] at h
    obtain ⟨us, rfl, r1⟩ := hu.agg_inv
    obtain ⟨vs, rfl, r2⟩ := hv.agg_inv
    obtain ⟨hln, h⟩ := h
    clear hln
    have : us = vs := by
      clear hu hv
      induction xs generalizing ys us vs with
      | nil =>
        cases ys with
        | nil => have h1 := r1.1; have h2 := r2.1; cases us <;> cases vs <;> simp at h1 h2 ⊢
        | cons y ys => simp [intsEq] at h
      | cons x xs ih =>
        cases ys with
        | nil => simp [intsEq] at h
        | cons y ys =>
        obtain ⟨k, a, b, r', rfl, rfl, hr', e⟩ := intsEq_cons h
        cases us with
        | nil => have := r1.1; simp at this
        | cons u us =>
        cases vs with
        | nil => have := r2.1; simp at this
        | cons v vs =>
        have e1 := (r1.2 0 _ u rfl rfl).int_inv
        have e2 := (r2.2 0 _ v rfl rfl).int_inv
        have e' : a = b ∧ r' = true := by
          have := e.symm
          simpa using this
        rw [e'.2] at hr'
        rw [e1, e2, e'.1, ih ys us ⟨by have := r1.1; simpa using this, fun i c v hc hv => r1.2 (i + 1) c v hc hv⟩ vs ⟨by have := r2.1; simpa using this, fun i c v hc hv => r2.2 (i + 1) c v hc hv⟩ hr']
    rw [this]

theorem sameBits_int (n : Nat) : ∀ (xs : List AV) (us : List Value), RVs w L σ xs us → (intsEq xs xs).isSome = true → ((us.zip us).all fun (x, y) => Instr.sameBits n x y) = true
  | [], us, h, _ => by have := h.1; cases us <;> simp_all
  | x :: xs, us, h, he => by
    obtain ⟨r, hr⟩ := Option.isSome_iff_exists.1 he
    obtain ⟨k, a, b, r', rfl, e2, hr', _⟩ := intsEq_cons hr
    cases us with
    | nil => have := h.1; simp at this
    | cons u us =>
    have e1 := (h.2 0 _ u rfl rfl).int_inv
    subst e1
    have ih := sameBits_int n xs us ⟨by have := h.1; simpa using this, fun i c v hc hv => h.2 (i + 1) c v hc hv⟩ (by rw [hr']; rfl)
    simp only [List.zip_cons_cons, List.all_cons, ih, Bool.and_true]
    cases n <;> simp [Instr.sameBits]

theorem run_stays {kk : KK} {x : AV} {u : Value} (hx : keyFit kk x = true) (hu : RV w L σ x u) : (Instr.keyThatStays u u).run P w = .ok u w := by
  have : Instr.sameBits 10000 u u = true := by
    cases kk with
    | int =>
      cases x <;> simp only [keyFit, Bool.false_eq_true] at hx
      rename_i x
      cases x <;> simp only [keyFit, Bool.false_eq_true] at hx
      rw [hu.int_inv]; simp [Instr.sameBits]
    | str =>
      cases x <;> simp only [keyFit, Bool.false_eq_true] at hx
      rename_i x
      cases x <;> simp only [keyFit, Bool.false_eq_true] at hx
      rw [hu.str_inv]
      show (_ == _) = true
      simp [bytes_beq]
    | ints n =>
      cases x <;> simp only [keyFit, Bool.false_eq_true, Bool.and_eq_true] at hx
      obtain ⟨us, rfl, r1⟩ := hu.agg_inv
      have := sameBits_int 9999 _ us r1 hx.2
      simp only [Instr.sameBits, beq_self_eq_true, Bool.true_and]
      simpa using this
  simp [Instr.keyThatStays, this]

/-- the key's place, against the model -/
theorem run_find {t : TypeId} {kk : KK} (h : kkOf P t = some kk) {k : AV} {v : Value} (hv : RV w L σ k v) : ∀ (es : List (AV × AV)) (ms : List MapEntry) (i : Nat) {r : Option (Nat × AV)}, ms.length = es.length →
    (∀ (j : Nat) e m, es[j]? = some e → ms[j]? = some m → RE w L σ e m) → mfind kk k es i = some r →
    match r with
    | none => (∃ d, P.underlying t = some d ∧ Instr.findNow d v ms i = some none) ∨ (intsB P t).isSome = true ∧ (Instr.findAsking t v ms i).run P w = .ok none w
    | some (p, x) => ∃ j e m, p = i + j ∧ es[j]? = some e ∧ ms[j]? = some m ∧ e.2 = x ∧ m.key = v ∧
        ((∃ d, P.underlying t = some d ∧ Instr.findNow d v ms i = some (some (p, m.val))) ∨ (intsB P t).isSome = true ∧ (Instr.findAsking t v ms i).run P w = .ok (some (p, m.val)) w)
  | [], ms, i, r, hl, _, hr => by
    have : ms = [] := by simpa using hl
    subst this
    simp only [mfind, Option.some.injEq] at hr
    subst hr
    rcases kkOf_spec h with ⟨rfl, q, hq⟩ | ⟨rfl, hq⟩ | ⟨n, rfl, hn⟩
    · exact .inl ⟨_, hq, rfl⟩
    · exact .inl ⟨_, hq, rfl⟩
    · exact .inr ⟨by rw [hn]; rfl, by simp [Instr.findAsking]⟩
  | e :: es, ms, i, r, hl, hre, hr => by
    cases ms with
    | nil => simp at hl
    | cons m ms =>
    have hk := hre 0 e m rfl rfl
    simp only [mfind] at hr
    -- one entry
    have one : ∀ {b}, keyEq kk k e.1 = some b → (∃ d, P.underlying t = some d ∧ Instr.sameNow d v m.key = some b) ∨ (intsB P t).isSome = true ∧ (Op.equal t v m.key).run P w = .ok b w := fun {b} hb => by
      rcases kkOf_spec h with ⟨rfl, q, hq⟩ | ⟨rfl, hq⟩ | ⟨n, rfl, hn⟩
      · left
        refine ⟨_, hq, ?_⟩
        cases k <;> try (simp [keyEq] at hb; done)
        generalize hE : e.1 = y at hb hk
        cases y <;> try (simp [keyEq] at hb; done)
        rename_i x y
        cases x <;> cases y <;> simp [keyEq] at hb
        obtain ⟨e1, rfl⟩ := hb
        have h1 := hk.1
        rw [hE] at h1
        rw [hv.int_inv, h1.int_inv, e1]
        simp [Instr.sameNow]
      · left
        refine ⟨_, hq, ?_⟩
        cases k <;> try (simp [keyEq] at hb; done)
        generalize hE : e.1 = y at hb hk
        cases y <;> try (simp [keyEq] at hb; done)
        rename_i x y
        cases x <;> cases y <;> simp [keyEq] at hb
        have h1 := hk.1
        rw [hE] at h1
        rw [hv.str_inv, h1.str_inv]
        rename_i s t
        simp only [Instr.sameNow, ← hb, Option.some.injEq]
        rw [Bool.eq_iff_iff, bytes_beq]
        simp
      · right
        refine ⟨by rw [hn]; rfl, ?_⟩
        cases k <;> try (simp [keyEq] at hb; done)
        generalize hE : e.1 = y at hb hk
        cases y <;> try (simp [keyEq] at hb; done)
        rename_i xs ys
        simp only [keyEq, Option.ite_none_right_eq_some] at hb
        have h1 := hk.1
        rw [hE] at h1
        obtain ⟨us, e1, r1⟩ := hv.agg_inv
        obtain ⟨vs, e2, r2⟩ := h1.agg_inv
        obtain ⟨fs, inf, hu1, hu2, hu3, hu4, hu5, hu6, hu7⟩ := intsB_spec hn
        have hfo : P.fieldsOf t = fs := by simp [Program.fieldsOf, hu1]
        rw [e1, e2]
        show (Op.equalIn 10000 t (.agg us.toArray) (.agg vs.toArray)).run P w = .ok b w
        rw [run_equalIn_agg w 9999 t _ _ (by rw [hfo]; exact hu1) hu2, hfo]
        exact eqFields_ints 9998 fs.toList 0 xs ys us vs b (fun k f hk => by have := hu7 k f (by simpa using hk); exact ⟨this.1, by rw [this.2.1]; omega, this.2.2⟩) (by rw [hb.1, ← hu4]; simp) (by simpa using r1) (by simpa using r2) hb.2
    split at hr
    · rename_i hb
      cases hr
      refine ⟨0, e, m, rfl, rfl, rfl, rfl, (keyEq_val hb hv hk.1 rfl).symm, ?_⟩
      rcases one hb with ⟨d, hd, h1⟩ | ⟨hs, h1⟩
      · exact .inl ⟨d, hd, by simp [Instr.findNow, h1]⟩
      · exact .inr ⟨hs, by simp [Instr.findAsking, h1]⟩
    · rename_i hb
      have ih := run_find h hv es ms (i + 1) (r := r) (by simpa using hl) (fun j e m he hm => hre (j + 1) e m he hm) hr
      have h0 := one hb
      cases r with
      | none =>
        dsimp only at ih ⊢
        rcases h0 with ⟨d, hd, h1⟩ | ⟨hs, h1⟩
        · rcases ih with ⟨d', hd', h2⟩ | ⟨hs, h2⟩
          · rw [hd] at hd'; cases hd'
            exact .inl ⟨d, hd, by simp [Instr.findNow, h1, h2]⟩
          · exfalso
            rw [Option.isSome_iff_exists] at hs
            obtain ⟨n, hn⟩ := hs
            obtain ⟨fs, _, hu1, _⟩ := intsB_spec hn
            rw [hd] at hu1; cases hu1
            simp [Instr.sameNow] at h1
        · rcases ih with ⟨d', hd', h2⟩ | ⟨hs', h2⟩
          · right
            refine ⟨hs, ?_⟩
            obtain ⟨n, hn⟩ := Option.isSome_iff_exists.1 hs
            obtain ⟨fs, _, hu1, _⟩ := intsB_spec hn
            rw [hd'] at hu1; cases hu1
            cases ms with
            | nil => simp [Instr.findAsking, h1]
            | cons m' ms => simp [Instr.findNow, Instr.sameNow] at h2
          · exact .inr ⟨hs, by simp [Instr.findAsking, h1, h2]⟩
      | some px =>
        obtain ⟨p, x⟩ := px
        dsimp only at ih ⊢
        obtain ⟨j, e', m', g1, g2, g3, g4, g5, g6⟩ := ih
        refine ⟨j + 1, e', m', by omega, g2, g3, g4, g5, ?_⟩
        rcases h0 with ⟨d, hd, h1⟩ | ⟨hs, h1⟩
        · rcases g6 with ⟨d', hd', h2⟩ | ⟨hs, h2⟩
          · rw [hd] at hd'; cases hd'
            exact .inl ⟨d, hd, by simp [Instr.findNow, h1, h2]⟩
          · exfalso
            obtain ⟨n, hn⟩ := Option.isSome_iff_exists.1 hs
            obtain ⟨fs, _, hu1, _⟩ := intsB_spec hn
            rw [hd] at hu1; cases hu1
            simp [Instr.sameNow] at h1
        · rcases g6 with ⟨d', hd', h2⟩ | ⟨hs', h2⟩
          · exfalso
            obtain ⟨n, hn⟩ := Option.isSome_iff_exists.1 hs
            obtain ⟨fs, _, hu1, _⟩ := intsB_spec hn
            rw [hd'] at hu1; cases hu1
            cases ms with
            | nil => simp [Instr.findNow] at h2
            | cons m' ms => simp [Instr.findNow, Instr.sameNow] at h2
          · exact .inr ⟨hs, by simp [Instr.findAsking, h1, h2]⟩
    · cases hr

theorem run_findKey' {t : TypeId} {v : Value} {ms : List MapEntry} {r : Option (Nat × Value)} (h : (∃ d, P.underlying t = some d ∧ Instr.findNow d v ms 0 = some r) ∨ (intsB P t).isSome = true ∧ (Instr.findAsking t v ms 0).run P w = .ok r w) :
    (Instr.findKey t v ms).run P w = .ok r w := by
  rcases h with ⟨d, hd, h⟩ | ⟨hs, h⟩
  · exact run_findKey hd h
  · obtain ⟨n, hn⟩ := Option.isSome_iff_exists.1 hs
    obtain ⟨fs, _, hu1, _⟩ := intsB_spec hn
    rw [run_findKey_eq w (by rw [hu1]), h]

/-- a map's block and its entries -/
theorem map_block (S : Sim L σ w) {id : Nat} {es : List (AV × AV)} (h : σ[id]? = some (.map es)) :
    ∃ ms clock, w.heap[(L id).a.block]? = some (.map ms clock) ∧ ms.toList.length = es.length ∧ ∀ (j : Nat) e m, es[j]? = some e → ms.toList[j]? = some m → RE w L σ e m := by
  obtain ⟨ms, clock, h1, h2, h3⟩ := S.obj id _ h
  exact ⟨ms, clock, h1, by simpa using h2, fun j e m he hm => h3 j e m he (by simpa using hm)⟩

theorem snd_mkmap (S : Sim L σ w) {t : TypeId} {kt et : TypeId} (ht : P.underlying t = some (.map kt et)) (ho : o.op = .makeMap t none) (h : astep P .mkmap fr σ K) : Yields1 P o a L σ w K := by
  have hf : ∀ b c, Foot { a := ⟨w.heap.size, 0, none⟩ } (.map []) b c → b = w.heap.size := fun b c h => h
  have st := extend_step L σ (.map #[] 0) { a := ⟨w.heap.size, 0, none⟩ } (.map []) hf
  have S' := extend_sim S (.map #[] 0) { a := ⟨w.heap.size, 0, none⟩ } (.map []) hf ⟨#[], 0, by
    show (w.heap.push _)[w.heap.size]? = _
    simp, rfl, by simp⟩
  refine ⟨.map σ.length, .map (some w.heap.size), _, _, _, .inl ?_, st, S', ?_, h⟩
  · simp [execOp, ho, Instr.makeMap, newObj, Sem.run]
  · have := RV.map (w := w.alloc (.map #[] 0)) (L := Lput L σ.length { a := ⟨w.heap.size, 0, none⟩ }) (σ := σ ++ [.map []]) σ.length ⟨.map [], by simp, by simp [AObj.kind]⟩
    rw [Lput_same] at this
    exact this

theorem snd_mget (S : Sim L σ w) (F : FR w L σ fr a.tmps) {t kt et : TypeId} {m k : Operand} {ok : Bool} {kk : KK} {inf : TypeInfo} {z : Value} {za : AV} {m' k' : Opd} (ht : P.underlying t = some (.map kt et)) (hkk : kkOf P kt = some kk)
    (hi : P.info? et = some inf) (hz : inf.zero = some z) (hza : litA z = some za) (hm : opd m = some m') (hk : opd k = some k') (ho : o.op = .lookup t m k ok) (h : astep P (.mget kk ok za m' k') fr σ K) : Yields1 P o a L σ w K := by
  simp only [astep, mgetC] at h
  have hv := ev_sound F hm
  have hu := ev_sound F hk
  have hzero : (zeroValue et).run P w = .ok z w := by simp [zeroValue, typeInfo, hi, hz]
  split at h
  · rename_i es hes
    obtain ⟨hfit, h⟩ := h
    have hc := run_check hkk hfit hu
    -- the entries in the model
    obtain ⟨ms, hget, hl, hre⟩ : ∃ ms : Array MapEntry, (a.eval m = .map none ∧ ms = #[] ∨ ∃ r clock, a.eval m = .map (some r) ∧ w.heap[r]? = some (.map ms clock)) ∧ ms.toList.length = es.length ∧ ∀ (j : Nat) e x, es[j]? = some e → ms.toList[j]? = some x → RE w L σ e x := by
      generalize ev fr m' = M at hes hv
      cases M <;> simp only [entriesOf] at hes <;> try (cases hes; done)
      · rename_i x
        cases x <;> simp only [entriesOf] at hes <;> try (cases hes; done)
        cases hes
        exact ⟨#[], .inl ⟨hv.nilmap_inv, rfl⟩, rfl, by simp⟩
      · rename_i id
        split at hes
        · rename_i es' hes'
          cases hes
          obtain ⟨ms, clock, h1, h2, h3⟩ := map_block S hes'
          exact ⟨ms, .inr ⟨_, clock, hv.map_inv.1, h1⟩, h2, h3⟩
        · cases hes
    have fin : ∀ {r v}, (Instr.lookup t (a.eval m) (a.eval k) ok).run P w = .ok v w → RV w L σ r v → K r σ → Yields1 P o a L σ w K := fun {r v} h1 h2 h3 =>
      .same S (r := r) (v := v) (by simp [execOp, ho, h1]) h2 h3
    have fin2 : ∀ {x v} (is : Bool), RV w L σ x v → RV w L σ (mgetR ok x is) (if ok then .tuple #[v, .bool is] else v) := fun {x v} is hx => by
      cases ok
      · exact hx
      · exact .tup [x, .d (.bool is)] [v, .bool is] rfl (fun i c u hc hu => by
          match i with
          | 0 => simp at hc hu; subst hc hu; exact hx
          | 1 => simp at hc hu; subst hc hu; exact .d _ _ (.bool _)
          | n + 2 => simp at hc)
    split at h
    · rename_i p v hf
      have := run_find hkk hu es ms.toList 0 hl hre hf
      obtain ⟨j, e, x, e1, e2, e3, e4, e5, e6⟩ := this
      have hrun := run_findKey' e6
      refine fin (v := if ok then .tuple #[x.val, .bool true] else x.val) ?_ (fin2 true (by rw [← e4]; exact (hre j e x e2 e3).2)) h
      rcases hget with ⟨hmn, rfl⟩ | ⟨rr, clock, hmn, hh⟩
      · simp only [Instr.lookup, Sem.run_bind, run_underlying ht, Result.andThen_ok, hmn, hc, hrun, Sem.run_pure]
      · simp only [Instr.lookup, Sem.run_bind, run_underlying ht, Result.andThen_ok, hmn, getmap hh, hc, hrun, Sem.run_pure]
    · rename_i hf
      have := run_find hkk hu es ms.toList 0 hl hre hf
      have hrun := run_findKey' this
      refine fin (v := if ok then .tuple #[z, .bool false] else z) ?_ (fin2 false (litA_sound hza)) h
      rcases hget with ⟨hmn, rfl⟩ | ⟨rr, clock, hmn, hh⟩
      · simp only [Instr.lookup, Sem.run_bind, run_underlying ht, Result.andThen_ok, hmn, hc, hrun, hzero, Sem.run_pure]
      · simp only [Instr.lookup, Sem.run_bind, run_underlying ht, Result.andThen_ok, hmn, getmap hh, hc, hrun, hzero, Sem.run_pure]
    · exact h.elim
  · exact h.elim

theorem snd_mset (S : Sim L σ w) (F : FR w L σ fr a.tmps) {t kt et : TypeId} {m k x : Operand} {kk : KK} {m' k' x' : Opd} (ht : P.underlying t = some (.map kt et)) (hkk : kkOf P kt = some kk)
    (hm : opd m = some m') (hk : opd k = some k') (hx : opd x = some x') (ho : o.op = .mapUpdate t m k x ∨ o.op = .insert t m k x) (h : astep P (.mset kk m' k' x') fr σ K) : Yields1 P o a L σ w K := by
  simp only [astep, msetC] at h
  have hv := ev_sound F hm
  have hu := ev_sound F hk
  have hz := ev_sound F hx
  split at h
  · rename_i id hid
    rw [hid] at hv
    split at h
    · rename_i es hes
      obtain ⟨hfit, h⟩ := h
      have hc := run_check hkk hfit hu
      obtain ⟨ms, clock, h1, h2, h3⟩ := map_block S hes
      have hlt := (Array.getElem?_eq_some_iff.1 h1).1
      have fin : ∀ {es' : List (AV × AV)} {ms' : Array MapEntry} {clock' : Nat}, (Instr.mapUpdate t (a.eval m) (a.eval k) (a.eval x)).run P w = .ok () { w with heap := w.heap.setIfInBounds (L id).a.block (.map ms' clock') } →
          ms'.size = es'.length → (∀ (j : Nat) e y, es'[j]? = some e → ms'[j]? = some y → RE w L σ e y) → K (.tup []) (σ.set id (.map es')) → Yields1 P o a L σ w K := fun {es' ms' clock'} g1 g2 g3 g4 => by
        obtain ⟨st, S'⟩ := obj_set S hes (x' := .map es') rfl (by simp [AObj.kind]) (by simp [AObj.kind]) (.map ms' clock') (fun w' e st => by
          subst e
          refine ⟨ms', clock', ?_, g2, fun j e y hj hy => (g3 j e y hj hy).mono st⟩
          show (w.heap.setIfInBounds _ _)[_]? = _
          simp [hlt])
        refine ⟨.tup [], .tuple #[], L, _, _, .inr ⟨?_, rfl⟩, st, S', .tup [] [] rfl (by simp), g4⟩
        rcases ho with ho | ho <;> simp [execOp, ho, g1]
      have hme := hv.map_inv.1
      split at h
      · rename_i p v hf
        obtain ⟨j, e, y, e1, e2, e3, e4, e5, e6⟩ := run_find hkk hu es ms.toList 0 h2 h3 hf
        have hrun := run_findKey' e6
        have hpj : p = j := by omega
        subst hpj
        have hky : ms[p]? = some y := by simpa using e3
        refine fin (es' := es.set p (ev fr k', ev fr x')) (ms' := ms.modify p fun e => { e with key := a.eval k, val := a.eval x }) (clock' := clock) ?_ (by simpa using h2) (fun j' e' y' hj hy => ?_) h
        · have hst := run_stays (P := P) hfit hu
          simp only [Instr.mapUpdate, Sem.run_bind, run_underlying ht, Result.andThen_ok, hme, getmap h1, hc, hrun, hky, Option.map_some, Option.getD_some, e5, hst, setmap _ h1]
        · rw [Array.getElem?_modify] at hy
          rw [List.getElem?_set] at hj
          split at hj
          · rename_i hpe
            subst hpe
            split at hj
            · cases hj
              rw [if_pos rfl, hky] at hy
              cases hy
              exact ⟨hu, hz⟩
            · cases hj
          · rename_i hpe
            rw [if_neg hpe] at hy
            exact h3 j' e' y' hj (by simpa using hy)
      · rename_i hf
        have hrun := run_findKey' (run_find hkk hu es ms.toList 0 h2 h3 hf)
        refine fin (es' := es ++ [(ev fr k', ev fr x')]) (ms' := ms.push { key := a.eval k, val := a.eval x, born := clock }) (clock' := clock + 1) ?_ (by simpa using h2) (fun j' e' y' hj hy => ?_) h
        · simp only [Instr.mapUpdate, Sem.run_bind, run_underlying ht, Result.andThen_ok, hme, getmap h1, hc, hrun, setmap _ h1]
        · have hms : ms.size = es.length := by simpa using h2
          rw [Array.getElem?_push] at hy
          split at hy
          · rename_i hpe
            cases hy
            rw [hpe, hms, List.getElem?_concat_length] at hj
            cases hj
            exact ⟨hu, hz⟩
          · rename_i hpe
            have hlt2 : j' < ms.size := (Array.getElem?_eq_some_iff.1 hy).1
            rw [List.getElem?_append_left (by omega)] at hj
            exact h3 j' e' y' hj (by simpa using hy)
      · exact h.elim
    · exact h.elim
  · exact h.elim

theorem snd_mdel (S : Sim L σ w) (F : FR w L σ fr a.tmps) {c : Call} {t kt et : TypeId} {m k : Operand} {kk : KK} {m' k' : Opd} (ho : o.op = .call c) (hcal : c.callee = .builtin .delete) (hat : c.argTypes[0]? = some t) (hargs : c.args.toList = [m, k])
    (ht : P.underlying t = some (.map kt et)) (hkk : kkOf P kt = some kk)
    (hm : opd m = some m') (hk : opd k = some k') (h : astep P (.mdel kk m' k') fr σ K) : Yields1 P o a L σ w K := by
  have hargs' : c.args = #[m, k] := by apply Array.ext'; simpa using hargs
  simp only [astep, mdelC] at h
  have hv := ev_sound F hm
  have hu := ev_sound F hk
  have run : ∀ {w'}, (Builtin.delete_ c.argTypes o.type #[a.eval m, a.eval k]).run P w = .ok (.tuple #[]) w' → (execOp a.eval o).run P w = .ok (.value (.tuple #[])) w' := fun {w'} h1 => by
    simp [execOp, ho, resolve, hcal, hargs', invoke, builtin, h1]
  split at h
  · rename_i id hid
    rw [hid] at hv
    split at h
    · rename_i es hes
      obtain ⟨hfit, h⟩ := h
      have hc := run_check hkk hfit hu
      obtain ⟨ms, clock, h1, h2, h3⟩ := map_block S hes
      have hlt := (Array.getElem?_eq_some_iff.1 h1).1
      have fin : ∀ {es' : List (AV × AV)} {ms' : Array MapEntry} {clock' : Nat}, (Builtin.delete_ c.argTypes o.type #[a.eval m, a.eval k]).run P w = .ok (.tuple #[]) { w with heap := w.heap.setIfInBounds (L id).a.block (.map ms' clock') } →
          ms'.size = es'.length → (∀ (j : Nat) e y, es'[j]? = some e → ms'[j]? = some y → RE w L σ e y) → K (.tup []) (σ.set id (.map es')) → Yields1 P o a L σ w K := fun {es' ms' clock'} g1 g2 g3 g4 => by
        obtain ⟨st, S'⟩ := obj_set S hes (x' := .map es') rfl (by simp [AObj.kind]) (by simp [AObj.kind]) (.map ms' clock') (fun w' e st => by
          subst e
          refine ⟨ms', clock', ?_, g2, fun j e y hj hy => (g3 j e y hj hy).mono st⟩
          show (w.heap.setIfInBounds _ _)[_]? = _
          simp [hlt])
        exact ⟨.tup [], .tuple #[], L, _, _, .inl (run g1), st, S', .tup [] [] rfl (by simp), g4⟩
      have hme := hv.map_inv.1
      split at h
      · rename_i p v hf
        obtain ⟨j, e, y, e1, e2, e3, e4, e5, e6⟩ := run_find hkk hu es ms.toList 0 h2 h3 hf
        have hrun := run_findKey' e6
        have hpj : p = j := by omega
        subst hpj
        have hms : ms.size = es.length := by simpa using h2
        have hplt := lt_of_get e2
        refine fin (es' := es.eraseIdx p) (ms' := ms.eraseIdxIfInBounds p) (clock' := clock) ?_ ?_ (fun j' e' y' hj hy => ?_) h
        · simp only [Builtin.delete_, List.getElem?_toArray, List.getElem?_cons_zero, List.getElem?_cons_succ, hat, Sem.run_bind, run_underlying ht, Result.andThen_ok, hme, getmap h1, hc, hrun, setmap _ h1, Sem.run_pure]
        · rw [Array.eraseIdxIfInBounds, dif_pos (by omega)]
          simp [List.length_eraseIdx, hplt, hms]
        · rw [Array.eraseIdxIfInBounds, dif_pos (by omega), ← Array.getElem?_toList, Array.toList_eraseIdx] at hy
          rw [List.getElem?_eraseIdx] at hj hy
          split at hj
          · rename_i hlt'
            rw [if_pos hlt'] at hy
            exact h3 j' e' y' hj hy
          · rename_i hlt'
            rw [if_neg hlt'] at hy
            exact h3 (j' + 1) e' y' hj hy
      · rename_i hf
        have hrun := run_findKey' (run_find hkk hu es ms.toList 0 h2 h3 hf)
        have hset : σ.set id (.map es) = σ := by
          apply List.ext_getElem?
          intro j
          rw [List.getElem?_set]
          split
          · rename_i e; subst e; rw [hes, if_pos (lt_of_get hes)]
          · rfl
        refine fin (es' := es) (ms' := ms) (clock' := clock) ?_ (by simpa using h2) (fun j' e' y' hj hy => h3 j' e' y' hj (by simpa using hy)) (by rw [hset]; exact h)
        simp only [Builtin.delete_, List.getElem?_toArray, List.getElem?_cons_zero, List.getElem?_cons_succ, hat, Sem.run_bind, run_underlying ht, Result.andThen_ok, hme, getmap h1, hc, hrun, setmap _ h1, Sem.run_pure]
      · exact h.elim
    · exact h.elim
  · rename_i hid
    rw [hid] at hv
    obtain ⟨hfit, h⟩ := h
    have hc := run_check hkk hfit hu
    refine .same S (r := .tup []) (v := .tuple #[]) (run ?_) (.tup [] [] rfl (by simp)) h
    simp only [Builtin.delete_, List.getElem?_toArray, List.getElem?_cons_zero, List.getElem?_cons_succ, hat, Sem.run_bind, run_underlying ht, Result.andThen_ok, hv.nilmap_inv, hc, Sem.run_pure]
  · exact h.elim

theorem snd_isnil (S : Sim L σ w) (F : FR w L σ fr a.tmps) {op : BinOp} {t u : TypeId} {x y : Operand} {x' : Opd} (hn : nilCmp P op t y = true) (hx : opd x = some x') (ho : o.op = .binOp op t x y u)
    (h : astep P (.isnil (isNeq op) x') fr σ K) : Yields1 P o a L σ w K := by
  simp only [astep, isnilC] at h
  have hv := ev_sound F hx
  obtain ⟨e, ht, hy, hop⟩ : ∃ e, P.underlying t = some (.slice e) ∧ y = .const (.slice none 0 0) ∧ (op = .eql ∨ op = .neq) := by
    unfold nilCmp at hn
    split at hn
    · exact ⟨_, by assumption, rfl, .inl rfl⟩
    · exact ⟨_, by assumption, rfl, .inr rfl⟩
    · cases hn
  subst hy
  have fin : ∀ {b n c}, a.eval x = .slice b n c → K (.d (.bool (b.isNone != isNeq op))) σ → Yields1 P o a L σ w K := fun {b n c} h1 h2 => by
    refine .same S (r := .d (.bool (b.isNone != isNeq op))) (v := .bool (b.isNone != isNeq op)) ?_ (.d _ _ (.bool _)) h2
    have he : a.eval (.const (.slice none 0 0)) = .slice none 0 0 := rfl
    rcases hop with rfl | rfl
    · simp [execOp, ho, h1, he, eqGuard_at_slice, Lib.run_eql_slice_nil w t e b n c 0 0 ht, isNeq]
    · have := run_neq_slice_nil_any w t e b n c 0 0 ht
      simp [execOp, ho, h1, he, eqGuard_at_slice, this, isNeq]
  split at h
  · rename_i hes
    obtain ⟨b, cap, hX, _⟩ := (hv.esOf_inv hes).len
    refine fin hX ?_
    cases b with
    | none => cases hq : isNeq op <;> simp <;> first | exact h.1 | exact h.2
    | some _ => cases hq : isNeq op <;> simp <;> first | exact h.1 | exact h.2
  · rename_i e' es' hes
    obtain ⟨b, cap, hX, hle, hb⟩ := (hv.esOf_inv hes).len
    refine fin hX ?_
    cases b with
    | none => have := hb rfl; simp at hle; omega
    | some _ => simpa using h
  · split at h
    · rename_i hid
      rw [hid] at hv
      obtain ⟨hX, _⟩ := hv.bsl_inv
      exact fin hX (by simpa using h)
    · exact h.elim

end
end Go.AW

/- THE ABSTRACT LOGIC IS SOUND: what is shown of a function's resolved code holds of the model's run. -/
set_option linter.unusedSimpArgs false
set_option linter.unusedVariables false
namespace Go.AW
section
variable {P : Program} {o : Oper} {fr : Frame} {σ : List AObj} {K : AV → List AObj → Prop} {L : Nat → Loc} {w : World} {a : Act}

theorem callOk_spec {f : FuncId} (h : callOk P f = true) : ∃ fn c, P.funcs[f]? = some fn ∧ fn.name ≠ "runtime.NumGoroutine" ∧ fn.body = some c := by
  unfold callOk at h
  split at h
  · rename_i fn hf
    simp only [Bool.and_eq_true, bne_iff_ne, ne_eq] at h
    obtain ⟨h1, h2⟩ := h
    cases hb : fn.body with
    | none => simp [hb] at h2
    | some c => exact ⟨fn, c, hf, h1, hb⟩
  · cases h

theorem run_callFunc {f : FuncId} (h : callOk P f = true) (args : Array Value) (w : World) : (callFunc f args).run P w = .ok (.enter f args) w := by
  obtain ⟨fn, c, h1, h2, h3⟩ := callOk_spec h
  simp [callFunc, program, Sem.run, h1, h2, h3]

theorem dm1_sound {x : AV} {v : Value} (h : RV w L σ x v) : RV w L σ (dm1 x) v := by
  cases h with
  | own _ _ _ _ _ _ _ _ h => exact .d _ _ h
  | exact _ _ h => exact .d _ _ h
  | d _ _ h => exact .d _ _ h
  | agg _ _ h1 h2 => exact .agg _ _ h1 h2
  | tup _ _ h1 h2 => exact .tup _ _ h1 h2
  | bsl _ _ _ _ _ h1 h2 => exact .bsl _ _ _ _ _ h1 h2
  | box _ _ h => exact .box _ _ h
  | vp _ _ _ h => exact .vp _ _ _ h
  | map _ h => exact .map _ h
  | iter _ h => exact .iter _ h
  | fn _ _ _ _ _ h1 h2 h3 h4 => exact .fn _ _ _ _ _ h1 h2 h3 h4
  | undef _ => exact .undef _

theorem dm_sound {x : AV} {v : Value} (h : RV w L σ x v) : RV w L σ (dm x) v := by
  cases x with
  | agg cs =>
    obtain ⟨vs, rfl, h1, h2⟩ := h.agg_inv
    refine .agg _ _ (by simpa using h1) fun i c v hc hv => ?_
    simp only [List.getElem?_map, Option.map_eq_some_iff] at hc
    obtain ⟨c', hc', rfl⟩ := hc
    exact dm1_sound (h2 i c' v hc' hv)
  | _ => exact dm1_sound h

theorem RVs.append {as bs : List AV} {us vs : List Value} (h1 : RVs w L σ as us) (h2 : RVs w L σ bs vs) : RVs w L σ (as ++ bs) (us ++ vs) := by
  refine ⟨by simp [h1.1, h2.1], fun i x v hx hv => ?_⟩
  rcases Nat.lt_or_ge i as.length with hl | hl
  · rw [List.getElem?_append_left hl] at hx
    rw [List.getElem?_append_left (by rw [h1.1]; exact hl)] at hv
    exact h1.2 i x v hx hv
  · rw [List.getElem?_append_right hl] at hx
    rw [List.getElem?_append_right (by rw [h1.1]; exact hl), h1.1] at hv
    exact h2.2 _ x v hx hv

theorem dms_sound (F : FR w L σ fr a.tmps) {os : List Operand} {xs : List Opd} (h : os.mapM opd = some xs) : RVs w L σ (xs.map fun x => dm (ev fr x)) (os.map a.eval) := by
  have h0 := evs_sound F h
  refine ⟨by have := h0.1; simpa using this, fun i b v hb hv => ?_⟩
  simp only [List.getElem?_map, Option.map_eq_some_iff] at hb
  obtain ⟨x, hx, rfl⟩ := hb
  exact dm_sound (h0.2 i (ev fr x) v (by simp [hx]) hv)

/-- what follows an operation -/
abbrev After (P : Program) (o : Oper) (a : Act) (L : Nat → Loc) (σ : List AObj) (w : World) (K : AV → List AObj → Prop) (next : Act → World → Prop) : Prop :=
  ∀ r v L' σ' w', Step L σ w L' σ' w' → Sim L' σ' w' → RV w' L' σ' r v → K r σ' → next (a.put o.dst v) w'

theorem Yields1.wp (h : Yields1 P o a L σ w K) {next : Act → World → Prop} {Q : Exit → Act → World → Prop} (hk : After P o a L σ w K next) : o.wp P a w next Q := by
  obtain ⟨r, v, L', σ', w', hrun, s, S', hr, hK⟩ := h
  unfold Oper.wp
  rcases hrun with hrun | ⟨hrun, rfl⟩
  · rw [hrun]; exact hk r v L' σ' w' s S' hr hK
  · rw [hrun]; exact hk r _ L' σ' w' s S' hr hK

theorem call_wp {f : FuncId} {as : List AV} {vs : List Value} (hrun : (execOp a.eval o).run P w = .ok (.enter f vs.toArray) w) (S : Sim L σ w) (hv : RVs w L σ as vs) (h : ACall P f as σ K) {next : Act → World → Prop} {Q : Exit → Act → World → Prop}
    (hk : After P o a L σ w K next) : o.wp P a w next Q := by
  unfold Oper.wp
  rw [hrun, Oper.upon_enter]
  refine (h.2 L w vs S hv).mono fun e w' he => ?_
  cases e with
  | returned v =>
    obtain ⟨L', σ', r, s, S', hr, hK⟩ := he
    exact hk r v L' σ' w' s S' hr hK
  | panicked ch => exact he.elim
  | outgrown => exact he.elim

theorem astep_sound {i : I} (hc : compI P o = some i.norm) (S : Sim L σ w) (F : FR w L σ fr a.tmps) (h : astep P i fr σ K) {next : Act → World → Prop} {Q : Exit → Act → World → Prop}
    (hk : After P o a L σ w K next) : o.wp P a w next Q := by
  cases hop : o.op with
  | move x =>
    simp only [compI, hop, Option.bind_eq_bind, Option.bind_eq_some_iff, Option.pure_def, Option.some.injEq] at hc
    obtain ⟨y, hy, hc⟩ := hc
    cases i <;> simp only [I.norm] at hc <;> cases hc
    exact (snd_mv S F hy (.inl hop) h).wp hk
  | assign x =>
    simp only [compI, hop, Option.bind_eq_bind, Option.bind_eq_some_iff, Option.pure_def, Option.some.injEq] at hc
    obtain ⟨y, hy, hc⟩ := hc
    cases i <;> simp only [I.norm] at hc <;> cases hc
    exact (snd_mv S F hy (.inr hop) h).wp hk
  | pick c x y =>
    simp only [compI, hop, Option.bind_eq_bind, Option.bind_eq_some_iff, Option.pure_def, Option.some.injEq] at hc
    obtain ⟨c', hc', x', hx, y', hy, hc⟩ := hc
    cases i <;> simp only [I.norm] at hc <;> cases hc
    exact (snd_pick S F hc' hx hy hop h).wp hk
  | alloc t =>
    simp only [compI, hop, Option.bind_eq_bind, Option.bind_eq_some_iff, Option.pure_def, Option.some.injEq] at hc
    obtain ⟨z, hz, hc⟩ := hc
    cases i <;> simp only [I.norm] at hc <;> cases hc
    exact (snd_alloc S hz hop h).wp hk
  | box t x =>
    simp only [compI, hop, Option.bind_eq_bind, Option.bind_eq_some_iff, Option.pure_def, Option.some.injEq] at hc
    obtain ⟨y, hy, hc⟩ := hc
    cases i <;> simp only [I.norm] at hc <;> cases hc
    exact (snd_box S F hy hop h).wp hk
  | build t parts =>
    have hc' := hc
    simp only [compI, hop] at hc
    have : i.norm = i := by
      split at hc
      · simp only [Option.bind_eq_bind, Option.bind_eq_some_iff] at hc
        obtain ⟨_, _, _, _, hc⟩ := hc
        split at hc
        · simp only [Option.pure_def, Option.some.injEq] at hc
          cases i <;> simp only [I.norm] at hc <;> cases hc; rfl
        · cases hc
      · simp only [Option.bind_eq_bind, Option.bind_eq_some_iff, Option.pure_def, Option.some.injEq] at hc
        obtain ⟨_, _, _, _, _, _, hc⟩ := hc
        cases i <;> simp only [I.norm] at hc <;> cases hc; rfl
      · cases hc
    rw [this] at hc'
    exact (snd_build S F hop hc' h).wp hk
  | buildSlice t n parts =>
    have hc' := hc
    simp only [compI, hop] at hc
    split at hc
    · simp only [Option.bind_eq_bind, Option.bind_eq_some_iff, Option.pure_def] at hc
      obtain ⟨_, _, _, _, _, _, hc⟩ := hc
      split at hc
      · simp only [Option.some.injEq] at hc
        cases i <;> simp only [I.norm] at hc <;> cases hc
        exact (snd_mkslice S F hop hc' h).wp hk
      · cases hc
    · cases hc
  | load t x =>
    simp only [compI, hop, Option.bind_eq_bind, Option.bind_eq_some_iff, Option.pure_def, Option.some.injEq] at hc
    obtain ⟨g, hg, n, hn, y, hy, hc⟩ := hc
    cases i <;> simp only [I.norm] at hc <;> cases hc
    exact (snd_load S F hg hn hy hop h).wp hk
  | store t x y =>
    simp only [compI, hop, Option.bind_eq_bind, Option.bind_eq_some_iff, Option.pure_def, Option.some.injEq] at hc
    obtain ⟨n, hn, x', hx, y', hy, hc⟩ := hc
    cases i <;> simp only [I.norm] at hc <;> cases hc
    exact (snd_store S F hn hx hy hop h).wp hk
  | nilCheck x =>
    simp only [compI, hop, Option.bind_eq_bind, Option.bind_eq_some_iff, Option.pure_def, Option.some.injEq] at hc
    obtain ⟨y, hy, hc⟩ := hc
    cases i <;> simp only [I.norm] at hc <;> cases hc
    exact (snd_nilchk S F hy hop h).wp hk
  | binOp op t x y u =>
    simp only [compI, hop] at hc
    split at hc
    · rename_i hn
      simp only [Option.bind_eq_bind, Option.bind_eq_some_iff, Option.pure_def, Option.some.injEq] at hc
      obtain ⟨x', hx, hc⟩ := hc
      cases i <;> simp only [I.norm] at hc <;> cases hc
      exact (snd_isnil S F hn hx hop h).wp hk
    · simp only [Option.bind_eq_bind, Option.bind_eq_some_iff, Option.pure_def, Option.some.injEq] at hc
      obtain ⟨e, he, x', hx, y', hy, hc⟩ := hc
      cases i <;> simp only [I.norm] at hc <;> cases hc
      exact (snd_bin S F he hx hy hop h).wp hk
  | makeMap t r =>
    cases r with
    | some r => simp [compI, hop] at hc
    | none =>
      simp only [compI, hop] at hc
      split at hc
      · rename_i kt et ht
        cases i <;> simp only [I.norm] at hc <;> cases hc
        exact (snd_mkmap S ht hop h).wp hk
      · cases hc
  | lookup t m k ok =>
    simp only [compI, hop] at hc
    split at hc
    · rename_i kt et ht
      simp only [Option.bind_eq_bind, Option.bind_eq_some_iff, Option.pure_def, Option.some.injEq] at hc
      obtain ⟨kk, hkk, inf, hi, z, hz, za, hza, m', hm, k', hk', hc⟩ := hc
      cases i <;> simp only [I.norm] at hc <;> cases hc
      exact (snd_mget S F ht hkk hi hz hza hm hk' hop h).wp hk
    · cases hc
  | mapUpdate t m k x =>
    simp only [compI, hop] at hc
    split at hc
    · rename_i kt et ht
      simp only [Option.bind_eq_bind, Option.bind_eq_some_iff, Option.pure_def, Option.some.injEq] at hc
      obtain ⟨kk, hkk, m', hm, k', hk', x', hx, hc⟩ := hc
      cases i <;> simp only [I.norm] at hc <;> cases hc
      exact (snd_mset S F ht hkk hm hk' hx (.inl hop) h).wp hk
    · cases hc
  | insert t m k x =>
    simp only [compI, hop] at hc
    split at hc
    · rename_i kt et ht
      simp only [Option.bind_eq_bind, Option.bind_eq_some_iff, Option.pure_def, Option.some.injEq] at hc
      obtain ⟨kk, hkk, m', hm, k', hk', x', hx, hc⟩ := hc
      cases i <;> simp only [I.norm] at hc <;> cases hc
      exact (snd_mset S F ht hkk hm hk' hx (.inr hop) h).wp hk
    · cases hc
  | unOp op t x =>
    simp only [compI, hop, Option.bind_eq_bind, Option.bind_eq_some_iff, Option.pure_def, Option.some.injEq] at hc
    obtain ⟨y, hy, hc⟩ := hc
    cases i <;> simp only [I.norm] at hc <;> cases hc
    exact (snd_un S F hy hop h).wp hk
  | convert src dst x =>
    have hc' := hc
    simp only [compI, hop] at hc
    have : i.norm = i := by
      cases i <;> first | rfl | skip
      split at hc <;> first
        | (split at hc <;> first | (simp only [Option.bind_eq_bind, Option.bind_eq_some_iff, Option.pure_def, Option.some.injEq] at hc; obtain ⟨_, _, hc⟩ := hc; simp only [I.norm] at hc; cases hc; done) | (cases hc; done))
        | (simp only [Option.bind_eq_bind, Option.bind_eq_some_iff, Option.pure_def, Option.some.injEq] at hc; obtain ⟨_, _, hc⟩ := hc; simp only [I.norm] at hc; cases hc; done)
        | (cases hc; done)
    rw [this] at hc'
    exact (snd_conv S F hop hc' h).wp hk
  | slice t x lo hi mx =>
    have hc' := hc
    simp only [compI, hop] at hc
    have : i.norm = i := by
      cases i <;> first | rfl | skip
      split at hc
      · simp only [Option.bind_eq_bind, Option.bind_eq_some_iff, Option.pure_def, Option.some.injEq] at hc
        obtain ⟨_, _, _, _, _, _, _, _, hc⟩ := hc; simp only [I.norm] at hc; cases hc
      · simp only [Option.bind_eq_bind, Option.bind_eq_some_iff, Option.pure_def, Option.some.injEq] at hc
        obtain ⟨_, _, _, _, _, _, _, _, _, _, hc⟩ := hc; simp only [I.norm] at hc; cases hc
      · simp only [Option.bind_eq_bind, Option.bind_eq_some_iff, Option.pure_def, Option.some.injEq] at hc
        obtain ⟨_, _, _, _, _, _, _, _, _, _, hc⟩ := hc; simp only [I.norm] at hc; cases hc
      · cases hc
    rw [this] at hc'
    exact (snd_slc S F hop hc' h).wp hk
  | fieldAddr t x k =>
    have hc' := hc
    simp only [compI, hop] at hc
    have : i.norm = i := by
      cases i <;> first | rfl | skip
      split at hc
      · simp only [Option.bind_eq_bind, Option.bind_eq_some_iff] at hc
        obtain ⟨_, _, _, _, hc⟩ := hc
        split at hc
        · cases hc
        · simp only [Option.bind_eq_some_iff, Option.pure_def, Option.some.injEq] at hc
          obtain ⟨_, _, hc⟩ := hc; simp only [I.norm] at hc; cases hc
      · cases hc
    rw [this] at hc'
    exact (snd_faddr S F hop hc' h).wp hk
  | field t x k =>
    have hc' := hc
    simp only [compI, hop] at hc
    have : i.norm = i := by
      cases i <;> first | rfl | skip
      split at hc
      · simp only [Option.bind_eq_bind, Option.bind_eq_some_iff, Option.pure_def, Option.some.injEq] at hc
        obtain ⟨_, _, _, _, _, _, _, _, hc⟩ := hc; simp only [I.norm] at hc; cases hc
      · cases hc
    rw [this] at hc'
    exact (snd_field S F hop hc' h).wp hk
  | indexAddr t x y =>
    have hc' := hc
    simp only [compI, hop] at hc
    have : i.norm = i := by
      cases i <;> first | rfl | skip
      split at hc
      · simp only [Option.bind_eq_bind, Option.bind_eq_some_iff, Option.pure_def, Option.some.injEq] at hc
        obtain ⟨_, _, _, _, _, _, hc⟩ := hc; simp only [I.norm] at hc; cases hc
      · simp only [Option.bind_eq_bind, Option.bind_eq_some_iff, Option.pure_def, Option.some.injEq] at hc
        obtain ⟨_, _, _, _, _, _, hc⟩ := hc; simp only [I.norm] at hc; cases hc
      · cases hc
    rw [this] at hc'
    exact (snd_iaddr S F hop hc' h).wp hk
  | index t x y =>
    have hc' := hc
    simp only [compI, hop] at hc
    have : i.norm = i := by
      cases i <;> first | rfl | skip
      split at hc
      · simp only [Option.bind_eq_bind, Option.bind_eq_some_iff, Option.pure_def, Option.some.injEq] at hc
        obtain ⟨_, _, _, _, hc⟩ := hc; simp only [I.norm] at hc; cases hc
      · simp only [Option.bind_eq_bind, Option.bind_eq_some_iff, Option.pure_def, Option.some.injEq] at hc
        obtain ⟨_, _, _, _, _, _, _, _, hc⟩ := hc; simp only [I.norm] at hc; cases hc
      · cases hc
    rw [this] at hc'
    exact (snd_idxA S F hop hc' h).wp hk
  | extract x k =>
    simp only [compI, hop, Option.bind_eq_bind, Option.bind_eq_some_iff, Option.pure_def, Option.some.injEq] at hc
    obtain ⟨y, hy, hc⟩ := hc
    cases i <;> simp only [I.norm] at hc <;> cases hc
    exact (snd_extract S F hy hop h).wp hk
  | range t x =>
    have hc' := hc
    simp only [compI, hop] at hc
    have : i.norm = i := by
      cases i <;> first | rfl | skip
      split at hc
      · simp only [Option.bind_eq_bind, Option.bind_eq_some_iff, Option.pure_def, Option.some.injEq] at hc
        obtain ⟨_, _, hc⟩ := hc; simp only [I.norm] at hc; cases hc
      · cases hc
    rw [this] at hc'
    exact (snd_rangeS S F hop hc' h).wp hk
  | next x s =>
    cases s
    · simp [compI, hop] at hc
    · simp only [compI, hop, Option.bind_eq_bind, Option.bind_eq_some_iff, Option.pure_def, Option.some.injEq] at hc
      obtain ⟨y, hy, hc⟩ := hc
      cases i <;> simp only [I.norm] at hc <;> cases hc
      exact (snd_nextS S F hy hop h).wp hk
  | makeFunc f first cap =>
    simp only [compI, hop, Option.bind_eq_bind, Option.bind_eq_some_iff, Option.pure_def, Option.some.injEq] at hc
    obtain ⟨f', hf, c', hcp, hc⟩ := hc
    cases i <;> simp only [I.norm] at hc <;> cases hc
    exact (snd_mkfn S F hf hcp hop h).wp hk
  | call c =>
    simp only [compI, hop] at hc
    split at hc
    · rename_i f hcal
      split at hc
      · rename_i hok
        simp only [Option.bind_eq_bind, Option.bind_eq_some_iff, Option.pure_def, Option.some.injEq] at hc
        obtain ⟨args, hargs, hc⟩ := hc
        cases i <;> simp only [I.norm] at hc <;> cases hc
        simp only [astep] at h
        refine call_wp (vs := c.args.toList.map a.eval) ?_ S (dms_sound F hargs) h hk
        have e1 : c.args.map a.eval = (c.args.toList.map a.eval).toArray := by apply Array.ext'; simp
        simp [execOp, hop, resolve, hcal, Act.eval, Deferred.ofValue, invoke, run_callFunc hok, e1]
      · cases hc
    · rename_i x _ hcal
      simp only [Option.bind_eq_bind, Option.bind_eq_some_iff, Option.pure_def, Option.some.injEq] at hc
      obtain ⟨g, hg, args, hargs, hc⟩ := hc
      cases i <;> simp only [I.norm] at hc <;> cases hc
      simp only [astep, callvC] at h
      have hv := ev_sound F hg
      split at h
      · rename_i f first cap hid
        rw [hid] at hv
        obtain ⟨fs, cs, hX, r1, r2⟩ := hv.fn_inv
        refine call_wp (vs := fs ++ c.args.toList.map a.eval ++ cs) ?_ S ((r1.append (dms_sound F hargs)).append r2) h hk
        have e1 : c.args.map a.eval = (c.args.toList.map a.eval).toArray := by apply Array.ext'; simp
        simp [execOp, hop, resolve, hcal, hX, Deferred.ofValue, invoke, run_callFunc h.1, e1]
      · exact h.elim
    · rename_i hcal
      split at hc
      · rename_i t x ht hargs
        have key : ∀ (k : LK) (y : Opd), opd x = some y → i = .len k y → LKok P t k → o.wp P a w next Q := fun k y hy hi hp => by
          subst hi; exact (snd_len S F hop hcal ht hargs hy hp h).wp hk
        split at hc
        · rename_i hu
          simp only [Option.bind_eq_bind, Option.bind_eq_some_iff, Option.pure_def, Option.some.injEq] at hc
          obtain ⟨y, hy, hc⟩ := hc
          exact key .str y hy (by cases i <;> simp only [I.norm] at hc <;> cases hc; rfl) hu
        · rename_i e hu
          simp only [Option.bind_eq_bind, Option.bind_eq_some_iff, Option.pure_def, Option.some.injEq] at hc
          obtain ⟨y, hy, hc⟩ := hc
          exact key .sl y hy (by cases i <;> simp only [I.norm] at hc <;> cases hc; rfl) ⟨e, hu⟩
        · rename_i n e hu
          simp only [Option.bind_eq_bind, Option.bind_eq_some_iff, Option.pure_def, Option.some.injEq] at hc
          obtain ⟨y, hy, hc⟩ := hc
          exact key (.arr n) y hy (by cases i <;> simp only [I.norm] at hc <;> cases hc; rfl) (.inl ⟨e, hu⟩)
        · simp only [Option.bind_eq_bind, Option.bind_eq_some_iff, Option.pure_def, Option.some.injEq] at hc
          obtain ⟨y, hy, hc⟩ := hc
          exact key .map y hy (by cases i <;> simp only [I.norm] at hc <;> cases hc; rfl) ⟨_, _, by assumption⟩
        · rename_i e hu
          split at hc
          · rename_i n e' hu'
            simp only [Option.bind_eq_bind, Option.bind_eq_some_iff, Option.pure_def, Option.some.injEq] at hc
            obtain ⟨y, hy, hc⟩ := hc
            exact key (.arr n) y hy (by cases i <;> simp only [I.norm] at hc <;> cases hc; rfl) (.inr ⟨e, e', hu, hu'⟩)
          · cases hc
        · cases hc
      · cases hc
    · rename_i hcal
      split at hc
      · rename_i t u x y hat hargs
        have key : ∀ e, P.underlying t = some (.slice e) → ((∃ e', P.underlying u = some (.slice e')) ∨ P.underlying u = some .string) →
            (do let s ← sizeOf? P e; let i ← P.info? e; let z ← zeros P e; if 0 < s && z.length == s && 0 < i.bytes then pure (I.append s i.bytes z (← opd x) (← opd y)) else none) = some i.norm → o.wp P a w next Q := fun e ht hu hc => by
          simp only [Option.bind_eq_bind, Option.bind_eq_some_iff] at hc
          obtain ⟨s, hs, inf, hi, z, hz, hc⟩ := hc
          split at hc
          · rename_i hcond
            simp only [Bool.and_eq_true, decide_eq_true_eq, beq_iff_eq] at hcond
            simp only [Option.bind_eq_some_iff, Option.pure_def, Option.some.injEq] at hc
            obtain ⟨x', hx, y', hy, hc⟩ := hc
            cases i <;> simp only [I.norm] at hc <;> cases hc
            exact (snd_append S F hop hcal hat hargs ht hu hs hi hz hcond.1.1 hcond.1.2 hcond.2 rfl hx hy h).wp hk
          · cases hc
        split at hc
        · rename_i e e' ht hu; exact key e ht (.inl ⟨e', hu⟩) hc
        · rename_i e ht hu; exact key e ht (.inr hu) hc
        · cases hc
      · cases hc
    · rename_i hcal
      split at hc
      · rename_i t m k hat hargs
        split at hc
        · rename_i kt et ht
          simp only [Option.bind_eq_bind, Option.bind_eq_some_iff, Option.pure_def, Option.some.injEq] at hc
          obtain ⟨kk, hkk, m', hm, k', hk', hc⟩ := hc
          cases i <;> simp only [I.norm] at hc <;> cases hc
          exact (snd_mdel S F hop hcal hat hargs ht hkk hm hk' h).wp hk
        · cases hc
      · cases hc
    · rename_i hcal
      simp only [Option.bind_eq_bind, Option.bind_eq_some_iff, Option.pure_def, Option.some.injEq] at hc
      obtain ⟨ys, hys, hc⟩ := hc
      cases i <;> simp only [I.norm] at hc <;> cases hc
      exact (snd_max S F hop hcal hys h).wp hk
    · rename_i hcal
      simp only [Option.bind_eq_bind, Option.bind_eq_some_iff, Option.pure_def, Option.some.injEq] at hc
      obtain ⟨ys, hys, hc⟩ := hc
      cases i <;> simp only [I.norm] at hc <;> cases hc
      exact (snd_min S F hop hcal hys h).wp hk
    · cases hc
  | _ => simp [compI, hop] at hc
end
end Go.AW

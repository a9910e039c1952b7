/- What an operation does, against the model: lengths, greatest and least, literals, iterators of strings. -/
import Derived.Test.YtahbjkanmagndaaAwSnd5
import Derived.Laws.Tables
import Derived.Laws.RangeAny
import Derived.Laws.RangeString
set_option linter.all false
set_option linter.unusedSimpArgs false
set_option linter.unusedVariables false
namespace Go.AW
section
variable {P : Program} {o : Oper} {i : I} {fr : Frame} {σ : List AObj} {K : AV → List AObj → Prop} {L : Nat → Loc} {w : World} {a : Act}

/-- what a length is asked of -/
def LKok (P : Program) (t : TypeId) : LK → Prop
  | .str => P.underlying t = some .string
  | .sl => ∃ e, P.underlying t = some (.slice e)
  | .arr n => (∃ e, P.underlying t = some (.array n e)) ∨ ∃ e e', P.underlying t = some (.pointer e) ∧ P.underlying e = some (.array n e')
  | .map => ∃ k e, P.underlying t = some (.map k e)

theorem snd_len (S : Sim L σ w) (F : FR w L σ fr a.tmps) {c : Call} {t : TypeId} {x : Operand} {k : LK} {y : Opd} (ho : o.op = .call c) (hcal : c.callee = .builtin .len) (ht : c.argTypes[0]? = some t) (hargs : c.args.toList = [x]) (hx : opd x = some y)
    (hk : LKok P t k)
    (h : astep P (.len k y) fr σ K) : Yields1 P o a L σ w K := by
  have hargs' : c.args = #[x] := by apply Array.ext'; simpa using hargs
  have hv := ev_sound F hx
  have fin : ∀ {n : Int}, (Builtin.len_ c.argTypes o.type #[a.eval x]).run P w = .ok (.int .i64 n) w → K (.d (.int .i64 n)) σ → Yields1 P o a L σ w K := fun {n} h1 h2 => by
    refine .same S (r := .d (.int .i64 n)) (v := .int .i64 n) ?_ (.d _ _ (.int _ _)) h2
    simp [execOp, ho, resolve, hcal, hargs', invoke, builtin, h1]
  cases k with
  | str =>
    simp only [astep, lenC, maxC, minC, buildC, rangeC, nextC] at h
    split at h
    · rename_i s hid
      rw [hid] at hv
      have hX := hv.str_inv
      exact fin (by have hsz : (ByteArray.mk s.toArray).size = s.length := (by simp [ByteArray.size]); simp [Builtin.len_, ht, hX, run_underlying hk, goInt, hsz]) h
    · exact h.elim
  | sl =>
    obtain ⟨e, hk⟩ := hk
    simp only [astep, lenC, maxC, minC, buildC, rangeC, nextC] at h
    split at h
    · rename_i es hes
      obtain ⟨b, cap, hX, _⟩ := (hv.esOf_inv hes).len
      exact fin (by simp [Builtin.len_, ht, hX, run_underlying hk, goInt]) h
    · split at h
      · rename_i hid
        rw [hid] at hv
        obtain ⟨hX, _⟩ := hv.bsl_inv
        exact fin (by simp [Builtin.len_, ht, hX, run_underlying hk, goInt]) h
      · exact h.elim
  | arr n =>
    simp only [astep, lenC, maxC, minC, buildC, rangeC, nextC] at h
    rcases hk with ⟨e, hk⟩ | ⟨e, e', hk, hk'⟩
    · exact fin (by simp [Builtin.len_, ht, run_underlying hk, goInt]) h
    · exact fin (by simp [Builtin.len_, ht, run_underlying hk, run_underlying hk', goInt]) h
  | map =>
    obtain ⟨kt, et, hk⟩ := hk
    simp only [astep, lenC] at h
    split at h
    · rename_i id hid
      rw [hid] at hv
      obtain ⟨hX, _⟩ := hv.map_inv
      split at h
      · rename_i es hes
        obtain ⟨ms, clock, h1, h2, _⟩ := S.obj id _ hes
        exact fin (by simp [Builtin.len_, ht, hX, run_underlying hk, goInt, getObj, Sem.run, h1, h2]) h
      · exact h.elim
    · rename_i hid
      rw [hid] at hv
      have hX := hv.nilmap_inv
      exact fin (n := 0) (by simp [Builtin.len_, ht, hX, run_underlying hk, goInt]) h
    · exact h.elim

theorem maxL_sound : ∀ (l : List AV) (vs : List Value) (k : IntKind) (m n : Int), RVs w L σ l vs → maxL m l = some n → (vs.foldlM Builtin.max2 (.int k m)).run P w = .ok (.int k n) w
  | [], vs, k, m, n, hv, h => by
    have : vs = [] := by have := hv.1; simpa using this
    subst this
    simp [maxL] at h; subst h; simp
  | x :: l, vs, k, m, n, hv, h => by
    cases vs with
    | nil => have := hv.1; simp at this
    | cons v vs =>
      unfold maxL at h
      split at h
      · rename_i heq; cases heq
      · rename_i _ m' k' q r heq
        cases heq
        have e := (hv.2 0 _ v rfl rfl).int_inv
        have ih := maxL_sound l vs k _ n ⟨by have := hv.1; simpa using this, fun i a b ha hb => hv.2 (i + 1) a b ha hb⟩ h
        simp [e, Builtin.max2]
        exact ih
      · cases h
theorem minL_sound : ∀ (l : List AV) (vs : List Value) (k : IntKind) (m n : Int), RVs w L σ l vs → minL m l = some n → (vs.foldlM Builtin.min2 (.int k m)).run P w = .ok (.int k n) w
  | [], vs, k, m, n, hv, h => by
    have : vs = [] := by have := hv.1; simpa using this
    subst this
    simp [minL] at h; subst h; simp
  | x :: l, vs, k, m, n, hv, h => by
    cases vs with
    | nil => have := hv.1; simp at this
    | cons v vs =>
      unfold minL at h
      split at h
      · rename_i heq; cases heq
      · rename_i _ m' k' q r heq
        cases heq
        have e := (hv.2 0 _ v rfl rfl).int_inv
        have ih := minL_sound l vs k _ n ⟨by have := hv.1; simpa using this, fun i a b ha hb => hv.2 (i + 1) a b ha hb⟩ h
        simp [e, Builtin.min2]
        exact ih
      · cases h

theorem snd_max (S : Sim L σ w) (F : FR w L σ fr a.tmps) {c : Call} {ys : List Opd} (ho : o.op = .call c) (hcal : c.callee = .builtin .max) (hy : c.args.toList.mapM opd = some ys) (h : astep P (.maxi ys) fr σ K) : Yields1 P o a L σ w K := by
  simp only [astep, lenC, maxC, minC, buildC, rangeC, nextC] at h
  have hv := evs_sound F hy
  split at h
  · rename_i k n r heq
    rw [heq] at hv
    split at h
    · rename_i m hm
      generalize hvs : c.args.toList.map a.eval = vs at hv
      cases vs with
      | nil => have := hv.1; simp at this
      | cons v vs =>
        have e := (hv.2 0 _ v rfl rfl).int_inv
        have := maxL_sound (P := P) r vs k n m ⟨by have := hv.1; simpa using this, fun i a b ha hb => hv.2 (i + 1) a b ha hb⟩ hm
        refine .same S (r := .d (.int k m)) (v := .int k m) ?_ (.d _ _ (.int _ _)) h
        simp [execOp, ho, resolve, hcal, invoke, builtin, Builtin.max_, hvs, e, this]
    · exact h.elim
  · exact h.elim
theorem snd_min (S : Sim L σ w) (F : FR w L σ fr a.tmps) {c : Call} {ys : List Opd} (ho : o.op = .call c) (hcal : c.callee = .builtin .min) (hy : c.args.toList.mapM opd = some ys) (h : astep P (.mini ys) fr σ K) : Yields1 P o a L σ w K := by
  simp only [astep, lenC, maxC, minC, buildC, rangeC, nextC] at h
  have hv := evs_sound F hy
  split at h
  · rename_i k n r heq
    rw [heq] at hv
    split at h
    · rename_i m hm
      generalize hvs : c.args.toList.map a.eval = vs at hv
      cases vs with
      | nil => have := hv.1; simp at this
      | cons v vs =>
        have e := (hv.2 0 _ v rfl rfl).int_inv
        have := minL_sound (P := P) r vs k n m ⟨by have := hv.1; simpa using this, fun i a b ha hb => hv.2 (i + 1) a b ha hb⟩ hm
        refine .same S (r := .d (.int k m)) (v := .int k m) ?_ (.d _ _ (.int _ _)) h
        simp [execOp, ho, resolve, hcal, invoke, builtin, Builtin.min_, hvs, e, this]
    · exact h.elim
  · exact h.elim

/-! literals -/
theorem foldl_splice : ∀ (xs : List Value) (cs : Array Value) (off j0 : Nat), off + j0 + xs.length ≤ cs.size →
    ((xs.zipIdx j0).foldl (fun cs (p : Value × Nat) => cs.setIfInBounds (off + p.2) p.1) cs).toList = splice cs.toList (off + j0) xs
  | [], cs, off, j0, _ => by simp [splice]
  | x :: xs, cs, off, j0, h => by
    simp only [List.length_cons] at h
    simp only [List.zipIdx_cons, List.foldl_cons]
    rw [foldl_splice xs _ off (j0 + 1) (by simp; omega)]
    simp only [Array.toList_setIfInBounds]
    apply List.ext_getElem?
    intro q
    have hl : cs.toList.length = cs.size := by simp
    simp only [splice, List.append_assoc, List.getElem?_append, List.length_take, List.length_set, List.length_cons, List.cons_append, hl]
    have h1 : min (off + j0) cs.size = off + j0 := by omega
    have h2 : min (off + (j0 + 1)) cs.size = off + j0 + 1 := by omega
    rw [h1, h2]
    by_cases c1 : q < off + j0
    · rw [if_pos c1, if_pos (by omega)]
      simp [List.getElem?_take, c1, show q < off + (j0 + 1) by omega, List.getElem?_set_ne (show off + j0 ≠ q by omega)]
    · rw [if_neg c1]
      by_cases c2 : q = off + j0
      · subst c2
        simp [List.getElem?_take, show off + j0 < cs.size by omega, show off + j0 < off + (j0 + 1) by omega]
      · rw [if_neg (by omega)]
        rw [show q - (off + j0) = (q - (off + j0 + 1)) + 1 by omega, List.getElem?_cons_succ, List.getElem?_append]
        split
        · rfl
        · simp only [List.getElem?_drop]
          rw [List.getElem?_set_ne (by omega)]
          congr 1; omega

theorem splice_rvs {cs xs : List AV} {vs us : List Value} {off : Nat} (h : RVs w L σ cs vs) (h' : RVs w L σ xs us) (hle : off + xs.length ≤ cs.length) : RVs w L σ (splice cs off xs) (splice vs off us) := by
  refine ⟨by simp [splice, h.1, h'.1], fun i c v hc hv => ?_⟩
  have e1 := h.1
  have e2 := h'.1
  simp only [splice, List.append_assoc, List.getElem?_append, List.length_take, e1, e2] at hc hv
  have h1 : min off cs.length = off := by omega
  rw [h1] at hc hv
  split at hc
  · rename_i c1
    rw [if_pos c1] at hv
    rw [List.getElem?_take] at hc hv
    rw [if_pos c1] at hc hv
    exact h.2 i c v hc hv
  · rename_i c1
    rw [if_neg c1] at hv
    split at hc
    · rename_i c2
      rw [if_pos c2] at hv
      exact h'.2 _ c v hc hv
    · rename_i c2
      rw [if_neg c2] at hv
      rw [List.getElem?_drop] at hc hv
      exact h.2 _ c v hc hv

theorem fillA_sound (F : FR w L σ fr a.tmps) (place : Nat → Option (Nat × Nat)) : ∀ (ps : List (Nat × Operand)) (qs : List (Nat × Nat × Opd)) (cs out : List AV) (cells : Array Value),
    qs.length = ps.length → (∀ (k : Nat) p q, ps[k]? = some p → qs[k]? = some q → place p.1 = some (q.1, q.2.1) ∧ opd p.2 = some q.2.2) → RVs w L σ cs cells.toList → fillA fr cs qs = some out →
    ∃ cells', Instr.fill place cells (ps.map fun p => (p.1, a.eval p.2)) = some cells' ∧ RVs w L σ out cells'.toList
  | [], qs, cs, out, cells, hl, _, hr, h => by
    have : qs = [] := by simpa using hl
    subst this
    simp [fillA] at h; subst h
    exact ⟨cells, rfl, hr⟩
  | p :: ps, [], _, _, _, hl, _, _, _ => by simp at hl
  | p :: ps, (off, s, x) :: qs, cs, out, cells, hl, hp, hr, h => by
    obtain ⟨h1, h2⟩ := hp 0 p (off, s, x) rfl rfl
    simp only [fillA] at h
    split at h
    · rename_i xs hxs
      split at h
      · rename_i hc
        obtain ⟨c1, c2⟩ := hc
        have hrv := (ev_sound F h2).cells hxs
        have hsz : (a.eval p.2).cells.size = s := by have := hrv.1; simp at this; omega
        have hcs : cells.size = cs.length := by have := hr.1; simpa using this
        have hsp := foldl_splice (a.eval p.2).cells.toList cells off 0 (by simp; omega)
        have hrr : RVs w L σ (splice cs off xs) (splice cells.toList off (a.eval p.2).cells.toList) := splice_rvs hr hrv (by omega)
        obtain ⟨cells', g1, g2⟩ := fillA_sound F place ps qs (splice cs off xs) out (((a.eval p.2).cells.toList.zipIdx 0).foldl (fun cs (p : Value × Nat) => cs.setIfInBounds (off + p.2) p.1) cells) (by simpa using hl) (fun k p' q' hk hk' => hp (k + 1) p' q' hk hk') (by rw [hsp, Nat.add_zero]; exact hrr) h
        refine ⟨cells', ?_, g2⟩
        simp only [List.map_cons, Instr.fill, h1]
        have hneg : ¬ ((decide ((a.eval p.2).cells.size ≠ s) || decide (off + (a.eval p.2).cells.size > cells.size)) = true) := by simp; omega
        rw [if_neg hneg, ← g1]
        congr 1
        rw [← Array.foldl_toList, Array.toList_zipIdx]
      · cases h
    · cases h

theorem snd_build (S : Sim L σ w) (F : FR w L σ fr a.tmps) {t : TypeId} {parts : Array (Nat × Operand)} {i : I} (ho : o.op = .build t parts) (hc : compI P o = some i) (h : astep P i fr σ K) : Yields1 P o a L σ w K := by
  unfold compI at hc
  rw [ho] at hc
  simp only at hc
  have fin : ∀ {zs : List AV} {ps : List (Nat × Nat × Opd)} {z : Value} (place : Nat → Option (Nat × Nat)), RVs w L σ zs z.cells.toList → (ps.length = parts.toList.length) →
      (∀ (k : Nat) p q, parts.toList[k]? = some p → ps[k]? = some q → place p.1 = some (q.1, q.2.1) ∧ opd p.2 = some q.2.2) →
      (∀ l, P.built t l = Instr.fill place z.cells l) → astep P (.build zs ps) fr σ K → Yields1 P o a L σ w K := fun {zs ps z} place hz hl hp hb h => by
    simp only [astep, lenC, maxC, minC, buildC, rangeC, nextC] at h
    split at h
    · rename_i cs hcs
      obtain ⟨cells', g1, g2⟩ := fillA_sound F place parts.toList ps zs cs z.cells hl hp hz hcs
      have hrun := run_build (P := P) w t (parts.map fun p => (p.1, a.eval p.2)) cells' (by rw [hb, ← g1]; congr 1; simp)
      refine .same S (r := .agg cs) (v := .agg cells') (by simp only [execOp, ho]; simp [hrun]) ?_ h
      have := RV.agg (w := w) (L := L) (σ := σ) cs cells'.toList g2.1 g2.2
      simpa using this
    · exact h.elim
  split at hc
  · rename_i fs ht
    simp only [Option.bind_eq_bind, Option.bind_eq_some_iff] at hc
    obtain ⟨zs, hz, ps, hps, hc⟩ := hc
    split at hc
    · rename_i hall
      simp only [Option.pure_def, Option.some.injEq] at hc
      subst hc
      obtain ⟨inf, z, hi, hz1, hz2⟩ := zeros_sound hz
      obtain ⟨m1, m2⟩ := mapM_some hps
      have hall' : ∃ places, fs.toList.mapM (fun f => (P.info? f.type).map fun i => (f.offset, i.size)) = some places := by
        clear hps m1 m2
        generalize fs.toList = l at hall
        induction l with
        | nil => exact ⟨[], rfl⟩
        | cons f l ih =>
          simp only [List.all_cons, Bool.and_eq_true] at hall
          obtain ⟨pl, hpl⟩ := ih hall.2
          have h1 := hall.1
          simp only [sizeOf?, Option.isSome_map] at h1
          cases hf : P.info? f.type with
          | none => simp [hf] at h1
          | some i => exact ⟨(f.offset, i.size) :: pl, by simp [List.mapM_cons, hf, hpl]⟩
      obtain ⟨places, hpl⟩ := hall'
      obtain ⟨n1, n2⟩ := mapM_some hpl
      refine fin (z := z) (places.toArray[·]?) (zeros_rv hz2) m1 (fun k p q hp hq => ?_) (fun l => by simp [Program.built, hi, ht, hz1, hpl]) h
      have := m2 k p q hp hq
      simp only [Option.bind_eq_bind, Option.bind_eq_some_iff, Option.pure_def, Option.some.injEq] at this
      obtain ⟨f, hf, s, hs, y, hy, rfl⟩ := this
      refine ⟨?_, hy⟩
      have hfl : fs.toList[p.1]? = some f := by simpa using hf
      have hlt := lt_of_get hfl
      have hpp : places[p.1]? = some (places[p.1]'(by omega)) := List.getElem?_eq_getElem _
      have := n2 p.1 f _ hfl hpp
      simp only [sizeOf?, Option.map_eq_some_iff] at hs this
      obtain ⟨i1, e1, e2⟩ := hs
      obtain ⟨i2, e3, e4⟩ := this
      rw [e1] at e3; cases e3
      simp only [List.getElem?_toArray, hpp, ← e4, e2]
    · cases hc
  · rename_i n e ht
    simp only [Option.bind_eq_bind, Option.bind_eq_some_iff, Option.pure_def, Option.some.injEq] at hc
    obtain ⟨zs, hz, s, hs, ps, hps, rfl⟩ := hc
    obtain ⟨inf, z, hi, hz1, hz2⟩ := zeros_sound hz
    obtain ⟨m1, m2⟩ := mapM_some hps
    simp only [sizeOf?, Option.map_eq_some_iff] at hs
    obtain ⟨ie, e1, e2⟩ := hs
    refine fin (z := z) (fun i => some (i * s, s)) (zeros_rv hz2) m1 (fun k p q hp hq => ?_) (fun l => by simp [Program.built, hi, ht, hz1, e1, e2]) h
    have := m2 k p q hp hq
    simp only [Option.bind_eq_bind, Option.bind_eq_some_iff, Option.pure_def, Option.some.injEq] at this
    obtain ⟨y, hy, rfl⟩ := this
    exact ⟨rfl, hy⟩
  · cases hc

theorem snd_rangeS (S : Sim L σ w) (F : FR w L σ fr a.tmps) {t : TypeId} {x : Operand} {i : I} (ho : o.op = .range t x) (hc : compI P o = some i) (h : astep P i fr σ K) : Yields1 P o a L σ w K := by
  unfold compI at hc
  rw [ho] at hc
  simp only at hc
  split at hc
  · rename_i ht
    simp only [Option.bind_eq_bind, Option.bind_eq_some_iff, Option.pure_def, Option.some.injEq] at hc
    obtain ⟨y, hx, rfl⟩ := hc
    simp only [astep, lenC, maxC, minC, buildC, rangeC, nextC] at h
    have hv := ev_sound F hx
    split at h
    · rename_i s hid
      rw [hid] at hv
      have hX := hv.str_inv
      have hf : ∀ b c, Foot { a := ⟨w.heap.size, 0, none⟩ } (.iter s 0) b c → b = w.heap.size := fun b c h => h
      have st := extend_step L σ (.stringIter ⟨s.toArray⟩ 0) { a := ⟨w.heap.size, 0, none⟩ } (.iter s 0) hf
      have S' := extend_sim S (.stringIter ⟨s.toArray⟩ 0) { a := ⟨w.heap.size, 0, none⟩ } (.iter s 0) hf (by
        show (w.heap.push _)[w.heap.size]? = _
        simp)
      refine ⟨.iter σ.length, .pointer (some ⟨w.heap.size, 0, none⟩), _, _, _, .inl ?_, st, S', ?_, h⟩
      · simp [execOp, ho, hX, Instr.range, run_underlying ht, newObj, Sem.run]
      · have := RV.iter (w := w.alloc (.stringIter ⟨s.toArray⟩ 0)) (L := Lput L σ.length { a := ⟨w.heap.size, 0, none⟩ }) (σ := σ ++ [.iter s 0]) σ.length ⟨.iter s 0, by simp, by simp [AObj.kind]⟩
        rw [Lput_same] at this
        exact this
    · exact h.elim
  · cases hc

theorem snd_nextS (S : Sim L σ w) (F : FR w L σ fr a.tmps) {x : Operand} {y : Opd} (hx : opd x = some y) (ho : o.op = .next x true) (h : astep P (.nextS y) fr σ K) : Yields1 P o a L σ w K := by
  simp only [astep, lenC, maxC, minC, buildC, rangeC, nextC] at h
  have hv := ev_sound F hx
  split at h
  · rename_i id hid
    rw [hid] at hv
    obtain ⟨hX, hfix⟩ := hv.iter_inv
    split at h
    · rename_i s pos hs
      have hob := S.obj id _ hs
      have hsz : (ByteArray.mk s.toArray).size = s.length := by simp [ByteArray.size]
      have hheap : w.heap[(L id).a.block]? = some (.stringIter ⟨s.toArray⟩ pos) := hob
      split at h
      · rename_i hlt
        obtain ⟨st, S'⟩ := obj_set S hs (x' := .iter s (pos + (Utf8.decode ⟨s.toArray⟩ pos).2)) rfl (by simp [AObj.kind]) (by simp [AObj.kind]) (.stringIter ⟨s.toArray⟩ (pos + (Utf8.decode ⟨s.toArray⟩ pos).2)) (fun w' e _ => by
          subst e
          show (w.heap.setIfInBounds _ _)[_]? = _
          simp [(Array.getElem?_eq_some_iff.1 hheap).1])
        refine ⟨.tup [.d (.bool true), .d (.int .i64 pos), .d (.int .i32 (Utf8.decode ⟨s.toArray⟩ pos).1)], .tuple #[.bool true, .int .i64 pos, .int .i32 (Utf8.decode ⟨s.toArray⟩ pos).1], L, _, _, .inl ?_, st, S', ?_, h⟩
        · simp [execOp, ho, hX, Instr.next, getObj, setObj, Sem.run, hheap, hsz, hlt, goInt]
        · have := RV.tup (w := { w with heap := w.heap.setIfInBounds (L id).a.block (.stringIter ⟨s.toArray⟩ (pos + (Utf8.decode ⟨s.toArray⟩ pos).2)) }) (L := L) (σ := σ.set id (.iter s (pos + (Utf8.decode ⟨s.toArray⟩ pos).2)))
            [.d (.bool true), .d (.int .i64 pos), .d (.int .i32 (Utf8.decode ⟨s.toArray⟩ pos).1)] [.bool true, .int .i64 pos, .int .i32 (Utf8.decode ⟨s.toArray⟩ pos).1] rfl (fun i c v hc hv => by
              match i with
              | 0 => simp at hc hv; subst hc hv; exact .d _ _ (.bool _)
              | 1 => simp at hc hv; subst hc hv; exact .d _ _ (.int _ _)
              | 2 => simp at hc hv; subst hc hv; exact .d _ _ (.int _ _)
              | n + 3 => simp at hc)
          exact this
      · rename_i hlt
        refine .same S (r := .tup [.d (.bool false)]) (v := .tuple #[.bool false]) ?_ ?_ h
        · simp [execOp, ho, hX, Instr.next, getObj, Sem.run, hheap, hsz, hlt]
        · exact .tup [.d (.bool false)] [.bool false] rfl (fun i c v hc hv => by
              match i with
              | 0 => simp at hc hv; subst hc hv; exact .d _ _ (.bool _)
              | n + 1 => simp at hc)
    · exact h.elim
  · exact h.elim

end
end Go.AW

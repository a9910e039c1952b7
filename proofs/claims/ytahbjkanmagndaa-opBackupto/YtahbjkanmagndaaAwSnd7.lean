/- What an operation does, against the model: slices of literals, append. -/
import Derived.Test.YtahbjkanmagndaaAwSnd6
import Derived.Laws.Append
import Derived.Laws.AppendOwn
set_option linter.all false
set_option linter.unusedSimpArgs false
set_option linter.unusedVariables false
namespace Go.AW
section
variable {P : Program} {o : Oper} {i : I} {fr : Frame} {σ : List AObj} {K : AV → List AObj → Prop} {L : Nat → Loc} {w : World} {a : Act}

theorem rep_get {α : Type} (z : List α) (s : Nat) (hz : z.length = s) (hs : 0 < s) : ∀ (n i : Nat), i < n * s → (rep z n)[i]? = z[i % s]?
  | 0, i, h => by simp at h
  | n + 1, i, h => by
    simp only [rep]
    rcases Nat.lt_or_ge i s with hi | hi
    · rw [List.getElem?_append_left (by omega), Nat.mod_eq_of_lt hi]
    · rw [List.getElem?_append_right (by omega), hz, rep_get z s hz hs n (i - s) (by rw [Nat.succ_mul] at h; omega)]
      congr 1
      rw [Nat.mod_eq_sub_mod hi]
theorem rep_length {α : Type} (z : List α) : ∀ n, (rep z n).length = n * z.length
  | 0 => by simp [rep]
  | n + 1 => by simp [rep, rep_length z n, Nat.succ_mul, Nat.add_comm]

theorem chunks_get {α : Type} (s : Nat) : ∀ (n : Nat) (l : List α) (i : Nat) (e : List α) (j : Nat) (d : α), (chunks s n l)[i]? = some e → e[j]? = some d → j < s ∧ i < n ∧ l[i * s + j]? = some d
  | 0, l, i, e, j, d, h, _ => by simp [chunks] at h
  | n + 1, l, i, e, j, d, h, hj => by
    cases i with
    | zero =>
      simp [chunks] at h; subst h
      rw [List.getElem?_take] at hj
      split at hj
      · rename_i c; exact ⟨c, by omega, by simpa using hj⟩
      · cases hj
    | succ i =>
      simp [chunks] at h
      obtain ⟨h1, h2, h3⟩ := chunks_get s n _ i e j d h hj
      rw [List.getElem?_drop] at h3
      exact ⟨h1, by omega, by rw [← h3]; congr 1; rw [Nat.succ_mul]; omega⟩
theorem chunks_len {α : Type} (s : Nat) : ∀ (n : Nat) (l : List α), (chunks s n l).length = n
  | 0, _ => rfl
  | n + 1, l => by simp [chunks, chunks_len s n]
theorem chunks_each {α : Type} (s : Nat) : ∀ (n : Nat) (l : List α), l.length = n * s → ∀ e ∈ chunks s n l, e.length = s
  | 0, l, h, e, he => by simp [chunks] at he
  | n + 1, l, h, e, he => by
    rw [Nat.succ_mul] at h
    simp only [chunks, List.mem_cons] at he
    rcases he with rfl | he
    · simp; omega
    · exact chunks_each s n (l.drop s) (by simp; omega) e he

theorem toD_sound {c : AV} {d : D} {v : Value} (h : RV w L σ c v) (hd : toD c = some d) : RD w (Own L σ) d v := by
  cases h with
  | d _ _ h => simp [toD] at hd; subst hd; exact h
  | own _ _ _ _ _ _ _ _ h => simp [toD] at hd; subst hd; exact h
  | exact _ _ h => simp [toD] at hd; subst hd; exact h
  | _ => simp [toD] at hd

theorem toDs_sound : ∀ {cs : List AV} {ds : List D}, toDs cs = some ds → ds.length = cs.length ∧ ∀ (i : Nat) c d, cs[i]? = some c → ds[i]? = some d → toD c = some d
  | [], ds, h => by simp [toDs] at h; subst h; simp
  | c :: cs, ds, h => by
    simp only [toDs] at h
    split at h
    · rename_i x r h1 h2
      cases h
      obtain ⟨g1, g2⟩ := toDs_sound h2
      refine ⟨by simp [g1], fun i c' d hc hd => ?_⟩
      cases i with
      | zero => simp at hc hd; subst hc hd; exact h1
      | succ i => simp at hc hd; exact g2 i c' d hc hd
    · cases h

theorem fillA_length : ∀ {qs : List (Nat × Nat × Opd)} {cs out : List AV}, fillA fr cs qs = some out → out.length = cs.length
  | [], cs, out, h => by simp [fillA] at h; subst h; rfl
  | (off, s, x) :: qs, cs, out, h => by
    simp only [fillA] at h
    split at h
    · rename_i xs hxs
      split at h
      · rename_i hc
        rw [fillA_length h, splice_length (by omega)]
      · cases h
    · cases h

/-- an element of data that a new block holds -/
theorem block_elem (S : Sim L σ w) {cs : List AV} {ds : List D} {cells : Array Value} (hr : RVs w L σ cs cells.toList) (hd : toDs cs = some ds) (t : TypeId) (s n : Nat) (hl : cs.length = n * s) :
    RD (w.alloc (.cells cells t)) (Own L σ) (.slice (chunks s n ds)) (.slice (some ⟨w.heap.size, 0, none⟩) n n) := by
  obtain ⟨g1, g2⟩ := toDs_sound hd
  obtain ⟨st, _⟩ := alloc_quiet S (.cells cells t)
  have hn : (chunks s n ds).length = n := chunks_len s n ds
  have hds := chunks_each s n ds (by omega)
  generalize hes : chunks s n ds = es at hn hds
  rw [← hn]
  refine RD.of_block (sz := s) (Nat.le_refl _) hds fun i e j d hi hj => ?_
  rw [← hes] at hi
  obtain ⟨c1, c2, c3⟩ := chunks_get s n ds i e j d hi hj
  have hlt := lt_of_get c3
  have hc : cs[i * s + j]? = some (cs[i * s + j]'(by omega)) := List.getElem?_eq_getElem _
  have hsz : cells.size = cs.length := by have := hr.1; simpa using this
  have hv : cells[i * s + j]? = some (cells[i * s + j]'(by omega)) := Array.getElem?_eq_getElem _
  refine ⟨cells[i * s + j]'(by omega), ?_, fun h => ?_, ?_⟩
  · rw [Nat.zero_add, cell?_alloc_any]; exact hv
  · have := S.own_lt h; omega
  · exact st.rd (toD_sound (hr.2 _ _ _ hc (by rw [Array.getElem?_toList]; exact hv)) (g2 _ _ _ hc c3))

theorem run_mkslice {t e : TypeId} {n s : Nat} {zv : Value} {parts : Array (Nat × Value)} {cells : Array Value} (ht : P.underlying t = some (.slice e)) (hs : sizeOf? P e = some s) (k1 : n * s ≤ 16777216) (hz0 : ∀ w, (zeroValue e).run P w = .ok zv w)
    (g : Instr.fill (fun i => some (i * s, s)) ((Array.range (n * s)).map (zv.cells[· % zv.cells.size]!)) parts.toList = some cells) :
    (Instr.buildSlice t n parts).run P w = .ok (.slice (some ⟨w.heap.size, 0, none⟩) n n) (w.alloc (.cells cells e)) := by
  unfold Instr.buildSlice
  have h24 : ¬ (n * s > 2 ^ 24) := by omega
  simp only [Sem.run_bind, run_underlying ht, run_size hs, Result.andThen_ok, if_neg h24, Sem.run_pure]
  by_cases hn0 : n * s = 0
  · rw [if_pos hn0]
    rw [hn0] at g ⊢
    have e0 : (Array.range 0).map (fun i => zv.cells[i % zv.cells.size]!) = (Array.range 0).map (fun i => (#[] : Array Value)[i % (#[] : Array Value).size]!) := by apply Array.ext' ; simp
    rw [e0] at g
    try simp only [Sem.run_bind, Sem.run_pure, Result.andThen_ok]
    split
    · rename_i c hc
      rw [g] at hc; cases hc
      simp [newRow, newObj, Sem.run]
    · rename_i hc; exact absurd g (hc _)
  · rw [if_neg hn0]
    simp only [Sem.run_bind, hz0, Sem.run_pure, Result.andThen_ok]
    split
    · rename_i c hc
      rw [g] at hc; cases hc
      simp [newRow, newObj, Sem.run]
    · rename_i hc; exact absurd g (hc _)

theorem snd_mkslice (S : Sim L σ w) (F : FR w L σ fr a.tmps) {t : TypeId} {n : Nat} {parts : Array (Nat × Operand)} {mu : Bool} {s : Nat} {z : List AV} {ps : List (Nat × Nat × Opd)} (ho : o.op = .buildSlice t n parts) (hc : compI P o = some (.mkslice false s n z ps))
    (h : astep P (.mkslice mu s n z ps) fr σ K) : Yields1 P o a L σ w K := by
  unfold compI at hc
  rw [ho] at hc
  simp only at hc
  split at hc
  · rename_i e ht
    simp only [Option.bind_eq_bind, Option.bind_eq_some_iff, Option.pure_def] at hc
    obtain ⟨s', hs, z', hz, ps', hps, hc⟩ := hc
    split at hc
    · rename_i hcond
      simp only [Option.some.injEq, I.mkslice.injEq, true_and] at hc
      obtain ⟨rfl, rfl, rfl⟩ := hc
      simp only [Bool.and_eq_true, decide_eq_true_eq, beq_iff_eq] at hcond
      obtain ⟨⟨k1, k2⟩, k3⟩ := hcond
      obtain ⟨inf, zv, hi, hz1, hz2⟩ := zeros_sound hz
      obtain ⟨m1, m2⟩ := mapM_some hps
      have hzr := zeros_rv hz2 (w := w) (L := L) (σ := σ)
      have hzs : zv.cells.size = s' := by have := hzr.1; simp at this; omega
      simp only [astep, mksliceC] at h
      split at h
      · rename_i cs hcs
        have hinit : RVs w L σ (rep z' n) ((Array.range (n * s')).map (zv.cells[· % zv.cells.size]!)).toList := by
          refine ⟨by simp [rep_length, k3], fun i c v hc hv => ?_⟩
          have hlt : i < n * s' := by have := lt_of_get hc; rw [rep_length, k3] at this; exact this
          rw [rep_get z' s' k3 k2 n i hlt] at hc
          simp [hlt, hzs] at hv
          have hm : i % s' < s' := Nat.mod_lt _ k2
          have hv' : zv.cells.toList[i % s']? = some v := by
            rw [← hv]
            have : i % s' < zv.cells.size := by omega
            simp [this]
          exact hzr.2 _ _ _ hc hv'
        have hfill := fillA_sound F (fun i => some (i * s', s')) parts.toList ps' (rep z' n) cs _ m1 (fun k p q hp hq => by
          have := m2 k p q hp hq
          simp only [Option.bind_eq_bind, Option.bind_eq_some_iff, Option.pure_def, Option.some.injEq] at this
          obtain ⟨y, hy, rfl⟩ := this
          exact ⟨rfl, hy⟩) hinit hcs
        obtain ⟨cells', g1, g2⟩ := hfill
        have hlen : cs.length = n * s' := by rw [fillA_length hcs, rep_length, k3]
        have g1' : Instr.fill (fun i => some (i * s', s')) ((Array.range (n * s')).map (zv.cells[· % zv.cells.size]!)) (parts.map fun p => (p.1, a.eval p.2)).toList = some cells' := by rw [Array.toList_map]; exact g1
        have hz0 : ∀ w, (zeroValue e).run P w = .ok zv w := fun w => by simp [zeroValue, typeInfo, hi, hz1]
        have hrun : (execOp a.eval o).run P w = .ok (.value (.slice (some ⟨w.heap.size, 0, none⟩) n n)) (w.alloc (.cells cells' e)) := by
          have := run_mkslice (P := P) (w := w) ht hs k1 hz0 g1'
          simp only [execOp, ho, Sem.run_bind, this, Result.andThen_ok, Sem.run_pure]
        cases mu
        · simp only [Bool.false_eq_true, if_false] at h
          split at h
          · rename_i ds hds
            obtain ⟨st, S'⟩ := alloc_quiet S (.cells cells' e)
            have hrd := block_elem S g2 hds e s' n hlen
            refine ⟨.exact (chunks s' n ds), _, L, σ, _, .inl hrun, st, S', ?_, h⟩
            have hn : (chunks s' n ds).length = n := chunks_len s' n ds
            have := RV.exact (w := w.alloc (.cells cells' e)) (L := L) (σ := σ) (chunks s' n ds) (some ⟨w.heap.size, 0, none⟩) (by rw [hn]; exact hrd)
            rw [hn] at this; exact this
          · exact h.elim
        · simp only [if_true] at h
          obtain ⟨L', st, S', eL⟩ := new_box S g2 e
          refine ⟨.bsl σ.length 0 n n s', _, L', _, _, .inl hrun, st, S', ?_, h⟩
          have := RV.bsl (w := w.alloc (.cells cells' e)) (L := L') (σ := σ ++ [.box cs]) σ.length 0 n n s' ⟨.box cs, by simp, by simp [AObj.kind]⟩ (Nat.le_refl _)
          rw [eL] at this
          simpa using this
      · exact h.elim
    · cases hc
  · cases hc

/-! append -/
/-- a source: so many elements, whose cells are these -/
def SrcOk (P : Program) (w : World) (sz : Nat) (v : Value) (m : Nat) (news : List Value) : Prop :=
  news.length = m * sz ∧ ∀ w' : World, w'.heap = w.heap → (Builtin.lenOf v).run P w' = .ok m w' ∧ (Builtin.firstCells sz m v).run P w' = .ok news.toArray w'

theorem cell?_heap {w w' : World} (h : w'.heap = w.heap) (p : Addr) : w'.cell? p = w.cell? p := by simp [World.cell?, h]

/-- what the cells of a list of elements are -/
def CellsAre (w : World) (O : Nat → Nat → Prop) (sz : Nat) (es : List (List D)) (vs : List Value) : Prop :=
  ∀ (i : Nat) e (j : Nat) d, es[i]? = some e → e[j]? = some d → ∃ v, vs[i * sz + j]? = some v ∧ RD w O d v ∧ v.oneCell' = true

theorem RD.one {O : Nat → Nat → Prop} {x : D} {v : Value} (h : RD w O x v) : v.oneCell' = true := by cases h <;> rfl

theorem src_rd (P : Program) {O : Nat → Nat → Prop} {es : List (List D)} {v : Value} {sz : Nat} (h : RD w O (.slice es) v) (hsz : ∀ e ∈ es, e.length = sz) : ∃ news, SrcOk P w sz v es.length news ∧ CellsAre w O sz es news ∧ (∀ u ∈ news, u.oneCell' = true) := by
  cases h with
  | empty b cap hb =>
    refine ⟨[], ⟨by simp, fun w' _ => ?_⟩, fun i e j d hi _ => by simp at hi, by simp⟩
    cases b <;> simp [Builtin.lenOf, Builtin.firstCells, loadCells, loadCellsFrom]
  | slice es b off cap sz' vs h0 h1 h2 h3 h4 =>
    have : sz' = sz := by
      cases es with
      | nil => exact absurd rfl h0
      | cons e es => rw [← h2 e (by simp), hsz e (by simp)]
    subst this
    have hcell : ∀ k, k < es.length * sz' → w.cell? ⟨b, off + k, none⟩ = some (vs k) ∧ (vs k).oneCell' = true := fun k hk => by
      have hs : 0 < sz' := by
        rcases Nat.eq_zero_or_pos sz' with e | e
        · subst e; simp at hk
        · exact e
      have hi : k / sz' < es.length := Nat.div_lt_of_lt_mul (by rw [Nat.mul_comm]; exact hk)
      have hj : k % sz' < sz' := Nat.mod_lt _ hs
      have e1 : es[k / sz']? = some es[k / sz'] := List.getElem?_eq_getElem _
      have hl := h2 es[k / sz'] (List.getElem_mem _)
      have e2 : es[k / sz'][k % sz']? = some (es[k / sz'][k % sz']'(by omega)) := List.getElem?_eq_getElem _
      have e3 : k / sz' * sz' + k % sz' = k := by rw [Nat.mul_comm]; exact Nat.div_add_mod k sz'
      have c1 := (h3 _ _ _ _ e1 e2).1
      have c2 := h4 _ _ _ _ e1 e2
      rw [e3] at c1 c2
      exact ⟨c1, c2.one⟩
    refine ⟨(List.range (es.length * sz')).map vs, ⟨by simp, fun w' hw => ?_⟩, fun i e j d hi hj => ?_, ?_⟩
    · have := run_loadCells (P := P) w' ⟨b, off, none⟩ (es.length * sz') vs (fun j hj => by rw [addr_add, cell?_heap hw]; exact (hcell j hj).1)
      simp [Builtin.lenOf, Builtin.firstCells, this]
    · have hl1 := lt_of_get hi
      have hl2 : j < sz' := by have := lt_of_get hj; rw [h2 e (List.mem_of_getElem? hi)] at this; exact this
      have hk : i * sz' + j < es.length * sz' := by
        have : (i + 1) * sz' ≤ es.length * sz' := Nat.mul_le_mul_right _ hl1
        rw [Nat.succ_mul] at this; omega
      exact ⟨vs (i * sz' + j), by simp [hk], h4 i e j d hi hj, (hcell _ hk).2⟩
    · intro u hu
      simp at hu
      obtain ⟨k, hk, rfl⟩ := hu
      exact (hcell k hk).2

theorem srcE_sound (S : Sim L σ w) {x : AV} {v : Value} {sz : Nat} {ys : List (List D)} (h : RV w L σ x v) (hy : srcE σ sz x = some ys) (hsz : ∀ e ∈ ys, e.length = sz) :
    ∃ news, SrcOk P w sz v ys.length news ∧ CellsAre w (Own L σ) sz ys news ∧ (∀ u ∈ news, u.oneCell' = true) := by
  unfold srcE at hy
  split at hy
  · cases hy; cases h with | d _ _ h => exact src_rd P h hsz
  · cases hy; cases h with | own _ _ _ _ _ _ _ _ h => exact src_rd P h hsz
  · cases hy; cases h with | exact _ _ h => exact src_rd P h hsz
  · rename_i s
    cases hy
    have hX := h.str_inv
    subst hX
    refine ⟨s.map fun b => .int .u8 b.toNat, ⟨?_, fun w' _ => ?_⟩, fun i e j d hi hj => ?_, by simp; intros; rfl⟩
    · cases s with
      | nil => simp
      | cons b s => have : sz = 1 := by rw [← hsz (byteCell b) (by simp)]; rfl
                    subst this; simp
    · have hl : (ByteArray.mk s.toArray).size = s.length := by simp [ByteArray.size]
      refine ⟨by simp [Builtin.lenOf, hl], ?_⟩
      have : (ByteArray.mk s.toArray).extract 0 (s.map byteCell).length = ⟨s.toArray⟩ := by
        apply ByteArray.ext
        rw [ByteArray.data_extract]
        apply Array.ext'
        simp
      simp only [Builtin.firstCells, this]
      simp
    · simp only [List.getElem?_map, Option.map_eq_some_iff] at hi
      obtain ⟨b, hb, rfl⟩ := hi
      have hsz1 : sz = 1 := by rw [← hsz (byteCell b) (List.mem_map_of_mem (List.mem_of_getElem? hb))]; rfl
      subst hsz1
      have hj0 : j = 0 := by have := lt_of_get hj; simp [byteCell] at this; exact this
      subst hj0
      simp [byteCell] at hj; subst hj
      exact ⟨.int .u8 b.toNat, by simp [hb], .int _ _, rfl⟩
  · rename_i id off len cap s
    split at hy
    · rename_i hs; subst hs
      split at hy
      · rename_i cs hcs
        split at hy
        · rename_i hle
          simp only [Option.map_eq_some_iff] at hy
          obtain ⟨ds, hds, rfl⟩ := hy
          obtain ⟨hX, hfix, hlc⟩ := h.bsl_inv
          subst hX
          obtain ⟨_, _, hcells⟩ := S.obj id _ hcs
          obtain ⟨g1, g2⟩ := toDs_sound hds
          have hdl : ds.length = len * s := by rw [g1]; simp; omega
          have hat : ∀ k, k < len * s → ∃ v, w.cell? ⟨(L id).a.block, (L id).a.off + off + k, none⟩ = some v ∧ ∀ d, ds[k]? = some d → RD w (Own L σ) d v := fun k hk => by
            have hc : cs[off + k]? = some (cs[off + k]'(by omega)) := List.getElem?_eq_getElem _
            obtain ⟨_, v, c1, c2⟩ := hcells (off + k) _ hc
            rw [← Nat.add_assoc] at c1
            refine ⟨v, c1, fun d hd => toD_sound c2 (g2 k _ d ?_ hd)⟩
            rw [List.getElem?_take, if_pos hk, List.getElem?_drop]; exact hc
          refine ⟨(List.range (len * s)).map fun k => (w.cell? ⟨(L id).a.block, (L id).a.off + off + k, none⟩).getD undef, ⟨by simp [chunks_len], fun w' hw => ?_⟩, fun i e j d hi hj => ?_, ?_⟩
          · rw [chunks_len]
            have := run_loadCells (P := P) w' ⟨(L id).a.block, (L id).a.off + off, none⟩ (len * s) (fun k => (w.cell? ⟨(L id).a.block, (L id).a.off + off + k, none⟩).getD undef) (fun j hj => by
              obtain ⟨v, c1, _⟩ := hat j hj
              rw [addr_add, cell?_heap hw, c1]; rfl)
            simp [Builtin.lenOf, Builtin.firstCells, this]
          · obtain ⟨c1, c2, c3⟩ := chunks_get s len ds i e j d hi hj
            have hk := lt_of_get c3
            rw [hdl] at hk
            obtain ⟨v, e1, e2⟩ := hat _ hk
            exact ⟨v, by simp [hk, e1], e2 d c3, (e2 d c3).one⟩
          · intro u hu
            simp at hu
            obtain ⟨k, hk, rfl⟩ := hu
            obtain ⟨v, e1, e2⟩ := hat k hk
            rw [e1]
            exact (e2 (ds[k]'(by omega)) (List.getElem?_eq_getElem _)).one
        · cases hy
      · cases hy
    · cases hy
  · cases hy

section run
variable {t u e ty : TypeId} {inf : TypeInfo} {z : Value} {sz bytes : Nat} {base : Option Addr} {n cap m : Nat} {x : Value} {olds news : List Value}

theorem run_append_room' (ht : P.underlying t = some (.slice e)) (hu : (∃ e', P.underlying u = some (.slice e')) ∨ P.underlying u = some .string) (hs : sizeOf? P e = some sz) (hx : SrcOk P w sz x m news) (hroom : n + m ≤ cap) :
    (Builtin.append_ #[t, u] ty #[.slice base n cap, x]).run P w =
      ((match base with | some a => storeCells (a.add (n * sz)) news | none => pure ()).run P w).andThen fun _ w' => .ok (.slice base (n + m) cap) w' := by
  obtain ⟨h1, h2⟩ := hx.2 w rfl
  rcases hu with ⟨e', hu⟩ | hu <;> cases base <;>
    simp [Builtin.append_, run_underlying ht, run_underlying hu, run_size hs, h1, h2, hroom]

theorem run_append_grow' (ht : P.underlying t = some (.slice e)) (hu : (∃ e', P.underlying u = some (.slice e')) ∨ P.underlying u = some .string) (hi : P.info? e = some inf) (hz : inf.zero = some z) (hs : inf.size = sz) (hb : inf.bytes = bytes) (hb0 : 0 < bytes)
    (hx : SrcOk P w sz x m news) (ho : SrcOk P w sz (.slice base n cap) n olds) (hroom : ¬ n + m ≤ cap) (hfit : (n + m) * bytes ≤ 140737488355328) :
    (Builtin.append_ #[t, u] ty #[.slice base n cap, x]).run P w =
      .ok (.slice (some ⟨w.heap.size, 0, none⟩) (n + m) (grownCap w (n + m) cap e)) (w.drew.alloc (.cells (olds.toArray ++ news.toArray ++ Builtin.zeroCells z.cells (grownCap w (n + m) cap e - (n + m))) e)) := by
  obtain ⟨h1, h2⟩ := hx.2 w rfl
  obtain ⟨h1', h2'⟩ := hx.2 w.drew rfl
  obtain ⟨h3, h4⟩ := ho.2 w.drew rfl
  have hg := growslice_fits (need := n + m) (old := cap) (bytes := bytes) (by omega) hfit
  have hg' : ¬ (281474976710656 < Builtin.nextslicecap (n + m) cap * bytes) := by omega
  have hb1 : bytes ≠ 0 := by omega
  rcases hu with ⟨e', hu⟩ | hu <;>
    simp [Builtin.append_, run_underlying ht, run_underlying hu, sizeOf, typeInfo, zeroValue, hi, hz, hs, hb, hb1, h1, hroom, hg', Question.forced, h2', h4, newRow, grownCap] <;>
    (congr 2; apply Array.ext'; simp [List.append_assoc])
end run

end
end Go.AW

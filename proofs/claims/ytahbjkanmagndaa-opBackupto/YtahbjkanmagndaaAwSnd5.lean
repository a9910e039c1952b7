/- What an operation does, against the model: slices of slices, addresses of fields and elements, parts, lengths. -/
import Derived.Test.YtahbjkanmagndaaAwSnd4
set_option linter.all false
set_option linter.unusedSimpArgs false
set_option linter.unusedVariables false
namespace Go.AW
section
variable {P : Program} {o : Oper} {i : I} {fr : Frame} {σ : List AObj} {K : AV → List AObj → Prop} {L : Nat → Loc} {w : World} {a : Act}

/-- a bound as the operation has it -/
def BV (v : Option Value) (dflt : Nat) (n : Int) : Prop := (v = none ∧ n = dflt) ∨ ∃ k, v = some (.int k n)

theorem bnd_sound (F : FR w L σ fr a.tmps) {x : Option Operand} {y : Option Opd} (hx : optM opd x = some y) {dflt : Nat} {n : Int} (h : bnd (y.map (ev fr)) dflt = some n) : BV (x.map a.eval) dflt n := by
  cases x with
  | none => simp [optM] at hx; subst hx; simp [bnd] at h; exact .inl ⟨rfl, h.symm⟩
  | some x =>
    simp only [optM, Option.map_eq_some_iff] at hx
    obtain ⟨y, hy, rfl⟩ := hx
    obtain ⟨k, hk⟩ := (ev_sound F hy).intV_inv h
    exact .inr ⟨k, by simp [hk]⟩

theorem run_bounds (isS : Bool) (len cap : Nat) {lo hi : Option Value} {l h : Int} (hl : BV lo 0 l) (hh : BV hi len h) (h0 : 0 ≤ l) (h1 : l ≤ h) (h2 : h ≤ cap) (w : World) :
    (Instr.sliceBounds isS len cap lo hi none).run P w = .ok (l.toNat, h.toNat, cap) w := by
  have eh : (h.toNat : Int) = h := Int.toNat_of_nonneg (by omega)
  have h5 : 0 ≤ h := by omega
  rcases hl with ⟨rfl, e⟩ | ⟨k, rfl⟩ <;> rcases hh with ⟨rfl, e'⟩ | ⟨k', rfl⟩
  · simp [Instr.sliceBounds]; omega
  · simp [Instr.sliceBounds, run_sliceBound, h2, h5]; omega
  · have := run_sliceBound (P := P) w k l len (if (none : Option Value).isSome then .slice3C else .sliceB) h0 (by omega)
    simp at this
    simp [Instr.sliceBounds, this]; omega
  · have := run_sliceBound (P := P) w k l h.toNat (if (none : Option Value).isSome then .slice3C else .sliceB) h0 (by omega)
    simp at this
    simp [Instr.sliceBounds, run_sliceBound, h2, h5, this]

theorem run_bounds3 (len cap : Nat) {lo : Option Value} {l h : Int} {k k' : IntKind} (hl : BV lo 0 l) (h0 : 0 ≤ l) (h1 : l ≤ h) (h2 : h ≤ cap) (w : World) :
    (Instr.sliceBounds true len cap lo (some (.int k h)) (some (.int k' h))).run P w = .ok (l.toNat, h.toNat, h.toNat) w := by
  have eh : (h.toNat : Int) = h := Int.toNat_of_nonneg (by omega)
  have h5 : 0 ≤ h := by omega
  rcases hl with ⟨rfl, e⟩ | ⟨k, rfl⟩ <;>
    simp [Instr.sliceBounds, run_sliceBound, h0, h1, h2, h5, eh] <;> omega

theorem RD.sub {O : Nat → Nat → Prop} {es : List (List D)} {b : Option Addr} {n cap : Nat} (h : RD w O (.slice es) (.slice b n cap)) {sz l k m : Nat} (hsz : ∀ e ∈ es, e.length = sz) (h1 : l ≤ k) (h2 : k ≤ es.length) (h3 : k ≤ m) (h4 : m ≤ cap) :
    RD w O (.slice ((es.take k).drop l)) (.slice (if m = l then b else b.map (·.add (l * sz))) (k - l) (m - l)) := by
  have hlen : ((es.take k).drop l).length = k - l := by simp; omega
  by_cases hkl : k = l
  · have : (es.take k).drop l = [] := List.eq_nil_of_length_eq_zero (by omega)
    rw [this, show k - l = 0 by omega]
    refine .empty _ _ fun e => ?_
    cases h with
    | empty b cap hb =>
      have : b = none := by split at e <;> simpa using e
      have := hb this; omega
    | slice es b off cap sz vs h0 h1 h2 h3 h4 => split at e <;> simp at e
  · cases h with
    | empty b cap hb => simp at h2; omega
    | slice es b off cap sz' vs g0 g1 g2 g3 g4 =>
      have : sz' = sz := by
        cases es with
        | nil => exact absurd rfl g0
        | cons e es => rw [← g2 e (by simp), hsz e (by simp)]
      subst this
      rw [if_neg (by omega)]
      simp only [Option.map_some, addr_add]
      rw [← hlen]
      refine RD.of_block (sz := sz') (by rw [hlen]; omega) (fun e he => hsz e (List.mem_of_mem_take (List.mem_of_mem_drop he))) fun i e j d hi hj => ?_
      rw [List.getElem?_drop, List.getElem?_take] at hi
      split at hi
      · obtain ⟨c1, c2⟩ := g3 (l + i) e j d hi hj
        have c3 := g4 (l + i) e j d hi hj
        have e1 : off + l * sz' + (i * sz' + j) = off + ((l + i) * sz' + j) := by rw [Nat.add_mul]; omega
        rw [e1]
        exact ⟨_, c1, c2, c3⟩
      · cases hi

theorem snd_slc (S : Sim L σ w) (F : FR w L σ fr a.tmps) {t : TypeId} {x : Operand} {lo hi mx : Option Operand} {i : I} (ho : o.op = .slice t x lo hi mx) (hc : compI P o = some i) (h : astep P i fr σ K) : Yields1 P o a L σ w K := by
  unfold compI at hc
  rw [ho] at hc
  simp only at hc
  split at hc
  · rename_i ht
    simp only [Option.bind_eq_bind, Option.bind_eq_some_iff, Option.pure_def, Option.some.injEq] at hc
    obtain ⟨y, hx, lo', hlo, hi', hhi, mx', hmx, rfl⟩ := hc
    simp only [astep, slcC, faddrC, fieldC, iaddrC, idxSC, idxAC] at h
    have hv := ev_sound F hx
    split at h
    · rename_i s hs
      rw [hs] at hv
      have hv := hv.str_inv
      split at h
      · rename_i l k hl hk hmx0
        obtain ⟨h0, h1, h2, hK⟩ := h
        have hmx1 : mx' = none := by simpa using hmx0
        subst hmx1
        have hm : mx = none := by cases mx with | none => rfl | some m => simp [optM, Option.map_eq_some_iff] at hmx
        subst hm
        have hsz : (ByteArray.mk s.toArray).size = s.length := by simp [ByteArray.size]
        have hb := run_bounds (P := P) false s.length s.length (bnd_sound F hlo hl) (bnd_sound F hhi hk) h0 h1 h2 w
        refine .same S (r := .d (.str ((s.take k.toNat).drop l.toNat))) (v := .string ⟨((s.take k.toNat).drop l.toNat).toArray⟩) ?_ (.d _ _ (.str _)) hK
        have hex : (ByteArray.mk s.toArray).extract l.toNat k.toNat = ⟨((s.take k.toNat).drop l.toNat).toArray⟩ := by
          apply ByteArray.ext
          rw [ByteArray.data_extract]
          apply Array.ext'
          simp [List.drop_take]
        simp [execOp, ho, hv, Instr.sliceAt, run_underlying ht, Instr.slice, hsz, hb, hex]
      · exact h.elim
    · exact h.elim
  · rename_i e ht
    simp only [Option.bind_eq_bind, Option.bind_eq_some_iff, Option.pure_def, Option.some.injEq] at hc
    obtain ⟨sz, hsz, y, hx, lo', hlo, hi', hhi, mx', hmx, rfl⟩ := hc
    simp only [astep, slcC, faddrC, fieldC, iaddrC, idxSC, idxAC] at h
    have hv := ev_sound F hx
    split at h
    · rename_i es hes
      have hrd := hv.esOf_inv hes
      obtain ⟨b, cap, hX, hcap, hnil⟩ := hrd.len
      rw [hX] at hrd
      split at h
      · rename_i l k hl hk
        split at h
        · rename_i hmx0
          obtain ⟨h0, h1, h2, h3, hK⟩ := h
          have hmx1 : mx' = none := by simpa using hmx0
          subst hmx1
          have hm : mx = none := by cases mx with | none => rfl | some m => simp [optM, Option.map_eq_some_iff] at hmx
          subst hm
          have hb := run_bounds (P := P) true es.length cap (bnd_sound F hlo hl) (bnd_sound F hhi hk) h0 h1 (by omega) w
          refine .same S (r := .d (.slice ((es.take k.toNat).drop l.toNat))) (v := .slice (if cap = l.toNat then b else b.map (·.add (l.toNat * sz))) (k.toNat - l.toNat) (cap - l.toNat)) ?_ (.d _ _ (hrd.sub h3 (by omega) (by omega) (by omega) (Nat.le_refl _))) hK
          simp [execOp, ho, hX, Instr.sliceAt, run_underlying ht, Instr.slice, hb, run_size hsz]
        · rename_i m hmx0
          obtain ⟨hs, hm, h0, h1, h2, h3, hK⟩ := h
          obtain ⟨m1, hm1, rfl⟩ := Option.map_eq_some_iff.1 hmx0
          subst hm1
          cases mx with
          | none => simp [optM] at hmx
          | some mx =>
          cases hi with
          | none => simp [optM] at hhi; subst hhi; simp at hs
          | some hi =>
          simp only [optM, Option.map_eq_some_iff, Option.some.injEq, exists_eq_right] at hmx hhi
          have hm' := hmx
          obtain ⟨q, hq, rfl⟩ := hhi
          obtain ⟨k1, e1⟩ := (ev_sound F hm').intV_inv hm
          obtain ⟨k2, e2⟩ := (ev_sound F hq).intV_inv (by simpa [bnd] using hk)
          have hb := run_bounds3 (P := P) es.length cap (k := k2) (k' := k1) (bnd_sound F hlo hl) h0 h1 (by omega : k ≤ cap) w
          have hr := hrd.sub (m := k.toNat) h3 (l := l.toNat) (k := k.toNat) (by omega) (by omega) (Nat.le_refl _) (by omega)
          have hlen : ((es.take k.toNat).drop l.toNat).length = k.toNat - l.toNat := by simp; omega
          refine .same S (r := .exact ((es.take k.toNat).drop l.toNat)) (v := .slice (if k.toNat = l.toNat then b else b.map (·.add (l.toNat * sz))) (k.toNat - l.toNat) (k.toNat - l.toNat)) ?_ ?_ hK
          · simp [execOp, ho, hX, Instr.sliceAt, run_underlying ht, Instr.slice, hb, run_size hsz, e1, e2]
          · rw [← hlen] at hr ⊢; exact .exact _ _ hr
      · exact h.elim
    · split at h
      · rename_i id off len cap s hid
        rw [hid] at hv
        obtain ⟨hX, hfix, hlc⟩ := hv.bsl_inv
        split at h
        · rename_i l k hl hk hmx0
          obtain ⟨rfl, h0, h1, h2, h3, hK⟩ := h
          have hmx1 : mx' = none := by simpa using hmx0
          subst hmx1
          have hm : mx = none := by cases mx with | none => rfl | some m => simp [optM, Option.map_eq_some_iff] at hmx
          subst hm
          have hb := run_bounds (P := P) true len cap (bnd_sound F hlo hl) (bnd_sound F hhi hk) h0 h1 (by omega) w
          refine .same S (r := .bsl id (off + l.toNat * s) (k.toNat - l.toNat) (cap - l.toNat) s) (v := .slice (some ⟨(L id).a.block, (L id).a.off + (off + l.toNat * s), none⟩) (k.toNat - l.toNat) (cap - l.toNat)) ?_ (.bsl _ _ _ _ _ hfix (by omega)) hK
          simp [execOp, ho, hX, Instr.sliceAt, run_underlying ht, Instr.slice, hb, run_size hsz, show cap ≠ l.toNat by omega, addr_add, Nat.add_assoc]
        · exact h.elim
      · exact h.elim
  · rename_i n e ht
    simp only [Option.bind_eq_bind, Option.bind_eq_some_iff, Option.pure_def, Option.some.injEq] at hc
    obtain ⟨sz, hsz, y, hx, lo', hlo, hi', hhi, mx', hmx, rfl⟩ := hc
    simp only [astep, slcC, faddrC, fieldC, iaddrC, idxSC, idxAC] at h
    have hv := ev_sound F hx
    split at h
    · rename_i id off hid
      rw [hid] at hv
      obtain ⟨hX, hfix⟩ := hv.box_inv
      split at h
      · rename_i l k hl hk hmx0
        obtain ⟨h0, h1, h2, h3, hK⟩ := h
        have hmx1 : mx' = none := by simpa using hmx0
        subst hmx1
        have hm : mx = none := by cases mx with | none => rfl | some m => simp [optM, Option.map_eq_some_iff] at hmx
        subst hm
        have hb := run_bounds (P := P) false n n (bnd_sound F hlo hl) (bnd_sound F hhi hk) h0 h1 h2 w
        refine .same S (r := .bsl id (off + l.toNat * sz) (k.toNat - l.toNat) (n - l.toNat) sz) (v := .slice (some ⟨(L id).a.block, (L id).a.off + (off + l.toNat * sz), none⟩) (k.toNat - l.toNat) (n - l.toNat)) ?_ (.bsl _ _ _ _ _ hfix (by omega)) hK
        simp [execOp, ho, hX, Instr.sliceAt, Instr.sureAddr, run_underlying ht, hb, run_size hsz, show n ≠ l.toNat by omega, addr_add, Nat.add_assoc]
      · exact h.elim
    · exact h.elim
  · cases hc

theorem snd_faddr (S : Sim L σ w) (F : FR w L σ fr a.tmps) {t : TypeId} {x : Operand} {k : Nat} {i : I} (ho : o.op = .fieldAddr t x k) (hc : compI P o = some i) (h : astep P i fr σ K) : Yields1 P o a L σ w K := by
  unfold compI at hc
  rw [ho] at hc
  simp only at hc
  split at hc
  · rename_i fs ht
    simp only [Option.bind_eq_bind, Option.bind_eq_some_iff] at hc
    obtain ⟨f, hf, s, hs, hc⟩ := hc
    split at hc
    · cases hc
    · rename_i hs0
      simp only [Option.bind_eq_some_iff, Option.pure_def, Option.some.injEq] at hc
      obtain ⟨y, hx, rfl⟩ := hc
      simp only [astep, slcC, faddrC, fieldC, iaddrC, idxSC, idxAC] at h
      have hv := ev_sound F hx
      have hrun : ∀ b off, a.eval x = .pointer (some ⟨b, off, none⟩) → (execOp a.eval o).run P w = .ok (.value (.pointer (some ⟨b, off + f.offset, none⟩))) w := fun b off e => by
        simp [execOp, ho, e, Instr.fieldAt, run_underlying ht, hf, Instr.sureAddr, fieldPlace, run_size hs, hs0, addr_add]
      split at h
      · rename_i id off hid
        rw [hid] at hv
        obtain ⟨hX, hfix⟩ := hv.box_inv
        exact .same S (r := .box id (off + f.offset)) (v := .pointer (some ⟨(L id).a.block, (L id).a.off + (off + f.offset), none⟩)) (by rw [hrun _ _ hX, Nat.add_assoc]) (.box _ _ hfix) h
      · rename_i cs hid
        rw [hid] at hv
        obtain ⟨b, off, hX, hcs⟩ := hv.vp_inv
        refine .same S (r := .vp (cs.drop f.offset)) (v := .pointer (some ⟨b, off + f.offset, none⟩)) (hrun _ _ hX) (.vp _ _ _ fun j d hj => ?_) h
        rw [List.getElem?_drop] at hj
        rw [Nat.add_assoc]
        exact hcs _ d hj
      · exact h.elim
  · cases hc

theorem snd_field (S : Sim L σ w) (F : FR w L σ fr a.tmps) {t : TypeId} {x : Operand} {k : Nat} {i : I} (ho : o.op = .field t x k) (hc : compI P o = some i) (h : astep P i fr σ K) : Yields1 P o a L σ w K := by
  unfold compI at hc
  rw [ho] at hc
  simp only at hc
  split at hc
  · rename_i fs ht
    simp only [Option.bind_eq_bind, Option.bind_eq_some_iff, Option.pure_def, Option.some.injEq] at hc
    obtain ⟨f, hf, g, hg, n, hn, y, hx, rfl⟩ := hc
    simp only [astep, slcC, faddrC, fieldC, iaddrC, idxSC, idxAC] at h
    have hv := ev_sound F hx
    split at h
    · rename_i cs hid
      rw [hid] at hv
      obtain ⟨vs, hX, h1, h2⟩ := hv.agg_inv
      cases g
      · simp only [Bool.false_eq_true, if_false] at h
        split at h
        · rename_i c hcs
          have hl := lt_of_get hcs
          have hu : vs[f.offset]? = some (vs[f.offset]'(by omega)) := List.getElem?_eq_getElem _
          exact .same S (r := c) (v := vs[f.offset]'(by omega)) (by simp [execOp, ho, hX, Instr.field, run_underlying ht, hf, asAgg, part, run_agg hg, hu]) (h2 _ c _ hcs hu) h
        · exact h.elim
      · simp only [if_true] at h
        obtain ⟨hle, hK⟩ := h
        have e1 : vs.toArray.extract f.offset (f.offset + n) = ((vs.drop f.offset).take n).toArray := by apply Array.ext'; simp [List.drop_take]
        refine .same S (r := .agg ((cs.drop f.offset).take n)) (v := .agg ((vs.drop f.offset).take n).toArray) (by simp [execOp, ho, hX, Instr.field, run_underlying ht, hf, asAgg, part, run_agg hg, run_size hn]; try (simpa using e1)) (.agg _ _ (by simp [h1]) fun j c v hc hv => ?_) hK
        rw [List.getElem?_take] at hc hv
        split at hc
        · rename_i hj
          rw [if_pos hj] at hv
          rw [List.getElem?_drop] at hc hv
          exact h2 _ c v hc hv
        · cases hc
    · exact h.elim
  · cases hc

theorem snd_idxA (S : Sim L σ w) (F : FR w L σ fr a.tmps) {t : TypeId} {x y : Operand} {i : I} (ho : o.op = .index t x y) (hc : compI P o = some i) (h : astep P i fr σ K) : Yields1 P o a L σ w K := by
  unfold compI at hc
  rw [ho] at hc
  simp only at hc
  split at hc
  · rename_i ht
    simp only [Option.bind_eq_bind, Option.bind_eq_some_iff, Option.pure_def, Option.some.injEq] at hc
    obtain ⟨x', hx, y', hy, rfl⟩ := hc
    simp only [astep, slcC, faddrC, fieldC, iaddrC, idxSC, idxAC] at h
    have hv := ev_sound F hx
    split at h
    · rename_i s k hid hk
      rw [hid] at hv
      have hX := hv.str_inv
      obtain ⟨q, hY⟩ := (ev_sound F hy).intV_inv hk
      split at h
      · rename_i b hb
        have hl := lt_of_get hb
        have hget : (ByteArray.mk s.toArray)[k.toNat]? = some b := by
          rw [ByteArray.getElem?_lt' _ _ (by simpa [ByteArray.size] using hl)]
          rw [List.getElem?_eq_getElem hl] at hb
          have := Option.some.inj hb
          rw [← this]; rfl
        exact .same S (r := .d (.int .u8 b.toNat)) (v := .int .u8 b.toNat) (by simp [execOp, ho, hX, hY, Instr.index, asIntOf, run_underlying ht, h.1, hget]) (.d _ _ (.int _ _)) h.2
      · exact h.elim
    · exact h.elim
  · rename_i n e ht
    simp only [Option.bind_eq_bind, Option.bind_eq_some_iff, Option.pure_def, Option.some.injEq] at hc
    obtain ⟨g, hg, sz, hsz, x', hx, y', hy, rfl⟩ := hc
    simp only [astep, slcC, faddrC, fieldC, iaddrC, idxSC, idxAC] at h
    have hv := ev_sound F hx
    split at h
    · rename_i cs k hid hk
      rw [hid] at hv
      obtain ⟨vs, hX, h1, h2⟩ := hv.agg_inv
      obtain ⟨q, hY⟩ := (ev_sound F hy).intV_inv hk
      obtain ⟨g0, g1, h⟩ := h
      cases g
      · simp only [Bool.false_eq_true, if_false] at h
        split at h
        · rename_i c hcs
          have hl := lt_of_get hcs
          have hu : vs[k.toNat * sz]? = some (vs[k.toNat * sz]'(by omega)) := List.getElem?_eq_getElem _
          exact .same S (r := c) (v := vs[k.toNat * sz]'(by omega)) (by simp [execOp, ho, hX, hY, Instr.index, asIntOf, run_underlying ht, g0, g1, part, run_agg hg, run_size hsz, hu]) (h2 _ c _ hcs hu) h
        · exact h.elim
      · simp only [if_true] at h
        obtain ⟨hle, hK⟩ := h
        have e1 : vs.toArray.extract (k.toNat * sz) (k.toNat * sz + sz) = ((vs.drop (k.toNat * sz)).take sz).toArray := by apply Array.ext'; simp [List.drop_take]
        refine .same S (r := .agg ((cs.drop (k.toNat * sz)).take sz)) (v := .agg ((vs.drop (k.toNat * sz)).take sz).toArray) (by simp [execOp, ho, hX, hY, Instr.index, asIntOf, run_underlying ht, g0, g1, part, run_agg hg, run_size hsz]; try (simpa using e1)) (.agg _ _ (by simp [h1]) fun j c v hc hv => ?_) hK
        rw [List.getElem?_take] at hc hv
        split at hc
        · rename_i hj
          rw [if_pos hj] at hv
          rw [List.getElem?_drop] at hc hv
          exact h2 _ c v hc hv
        · cases hc
    · exact h.elim
  · cases hc

theorem snd_iaddr (S : Sim L σ w) (F : FR w L σ fr a.tmps) {t : TypeId} {x y : Operand} {i : I} (ho : o.op = .indexAddr t x y) (hc : compI P o = some i) (h : astep P i fr σ K) : Yields1 P o a L σ w K := by
  unfold compI at hc
  rw [ho] at hc
  simp only at hc
  split at hc
  · rename_i n e ht
    simp only [Option.bind_eq_bind, Option.bind_eq_some_iff, Option.pure_def, Option.some.injEq] at hc
    obtain ⟨sz, hsz, x', hx, y', hy, rfl⟩ := hc
    simp only [astep, slcC, faddrC, fieldC, iaddrC, idxSC, idxAC] at h
    have hv := ev_sound F hx
    split at h
    · rename_i k id off hk hid
      rw [hid] at hv
      obtain ⟨hX, hfix⟩ := hv.box_inv
      obtain ⟨q, hY⟩ := (ev_sound F hy).intV_inv hk
      obtain ⟨g0, g1, hK⟩ := h
      exact .same S (r := .box id (off + k.toNat * sz)) (v := .pointer (some ⟨(L id).a.block, (L id).a.off + (off + k.toNat * sz), none⟩)) (by simp [execOp, ho, hX, hY, Instr.indexAt, asIntOf, run_underlying ht, Instr.sureAddr, g0, g1, run_size hsz, addr_add, Nat.add_assoc]) (.box _ _ hfix) hK
    · exact h.elim
  · rename_i e ht
    simp only [Option.bind_eq_bind, Option.bind_eq_some_iff, Option.pure_def, Option.some.injEq] at hc
    obtain ⟨sz, hsz, x', hx, y', hy, rfl⟩ := hc
    simp only [astep, slcC, faddrC, fieldC, iaddrC, idxSC, idxAC] at h
    have hv := ev_sound F hx
    split at h
    · rename_i k hk
      obtain ⟨q, hY⟩ := (ev_sound F hy).intV_inv hk
      split at h
      · rename_i es hes
        have hrd := hv.esOf_inv hes
        split at h
        · rename_i e0 he0
          obtain ⟨g0, hlen, hK⟩ := h
          generalize hX : a.eval x = X at hrd
          cases hrd with
          | empty => simp at he0
          | slice es b off cap sz' vs h0 h1 h2 h3 h4 =>
            have : sz' = sz := by rw [← hlen, h2 e0 (List.mem_of_getElem? he0)]
            subst this
            have hlt := lt_of_get he0
            refine .same S (r := .vp e0) (v := .pointer (some ⟨b, off + k.toNat * sz', none⟩)) ?_ (.vp _ _ _ fun j d hj => ?_) hK
            · have : k < es.length := by omega
              simp [execOp, ho, hX, hY, Instr.indexAt, asIntOf, run_underlying ht, g0, this, run_size hsz, addr_add]
            · obtain ⟨c1, c2⟩ := h3 k.toNat e0 j d he0 hj
              rw [Nat.add_assoc]
              exact ⟨_, c1, c2, h4 k.toNat e0 j d he0 hj⟩
        · exact h.elim
      · split at h
        · rename_i id off len cap s hid
          rw [hid] at hv
          obtain ⟨hX, hfix, hlc⟩ := hv.bsl_inv
          obtain ⟨rfl, g0, g1, hK⟩ := h
          exact .same S (r := .box id (off + k.toNat * s)) (v := .pointer (some ⟨(L id).a.block, (L id).a.off + (off + k.toNat * s), none⟩)) (by simp [execOp, ho, hX, hY, Instr.indexAt, asIntOf, run_underlying ht, g0, g1, run_size hsz, addr_add, Nat.add_assoc]) (.box _ _ hfix) hK
        · exact h.elim
    · exact h.elim
  · cases hc

end
end Go.AW

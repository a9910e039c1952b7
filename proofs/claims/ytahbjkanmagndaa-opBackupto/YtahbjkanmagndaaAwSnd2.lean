/- What an operation does, against the model: reads and stores, structs, slices of literals. -/
import Derived.Test.YtahbjkanmagndaaAwSnd1
import Derived.Laws.IdiomCopy
set_option linter.all false
set_option linter.unusedSimpArgs false
set_option linter.unusedVariables false
namespace Go.AW
section
variable {P : Program} {o : Oper} {i : I} {fr : Frame} {σ : List AObj} {K : AV → List AObj → Prop} {L : Nat → Loc} {w : World} {a : Act}

theorem run_agg {t : TypeId} {b : Bool} (h : aggB P t = some b) (w : World) : (isAgg t).run P w = .ok b w := by
  unfold aggB at h
  cases hu : P.underlying t with
  | none => simp [hu] at h
  | some d =>
    simp only [isAgg, Sem.run_bind, run_underlying hu, Result.andThen_ok]
    cases d <;> simp_all

theorem run_size {t : TypeId} {n : Nat} (h : sizeOf? P t = some n) (w : World) : (sizeOf t).run P w = .ok n w := by
  simp only [sizeOf?, Option.map_eq_some_iff] at h
  obtain ⟨i, hi, rfl⟩ := h
  simp [sizeOf, typeInfo, program, Sem.run, hi]

theorem addr_add (b off n : Nat) : (Addr.mk b off none).add n = ⟨b, off + n, none⟩ := by
  unfold Addr.add; split
  · rename_i h; subst h; rfl
  · rfl

/-- reading a variable whose cells are known -/
theorem run_var {t : TypeId} {g : Bool} {n : Nat} (hg : aggB P t = some g) (hn : sizeOf? P t = some n) {b off : Nat} {vs : List Value} (h : ∀ (j : Nat) v, vs[j]? = some v → w.cell? ⟨b, off + j, none⟩ = some v)
    (hlen : g = true → vs.length = n) (h1 : g = false → 0 < vs.length) : (loadVar t ⟨b, off, none⟩).run P w = .ok (if g then .agg vs.toArray else vs.getD 0 undef) w := by
  cases g
  · have h0 : 0 < vs.length := h1 rfl
    have hc := h 0 vs[0] (by simp [h0])
    simp only [Nat.add_zero] at hc
    simp [loadVar, run_agg hg, hc, List.getD, h0]
  · have hl := run_loadCells_list (P := P) w ⟨b, off, none⟩ vs (fun j v hj => by rw [addr_add]; exact h j v hj)
    rw [hlen rfl] at hl
    simp [loadVar, run_agg hg, run_size hn, hl]

theorem run_loadAt {t : TypeId} (ad : Addr) : (Instr.loadAt t (.pointer (some ad))).run P w = (loadVar t ad).run P w := by simp [Instr.loadAt, Instr.sureAddr]

theorem snd_load (S : Sim L σ w) (F : FR w L σ fr a.tmps) {t : TypeId} {g : Bool} {n : Nat} {x : Operand} {y : Opd} (hg : aggB P t = some g) (hn : sizeOf? P t = some n) (hx : opd x = some y) (ho : o.op = .load t x)
    (h : astep P (.load g n y) fr σ K) : Yields1 P o a L σ w K := by
  simp only [astep, loadC, storeC, nilC, extractC] at h
  have hv := ev_sound F hx
  have key : ∀ {ad v}, a.eval x = .pointer (some ad) → (loadVar t ad).run P w = .ok v w → (execOp a.eval o).run P w = .ok (.value v) w := fun {ad v} e h => by
    simp [execOp, ho, e, run_loadAt, h]
  split at h
  · rename_i id off hid
    rw [hid] at hv
    obtain ⟨hv, _⟩ := hv.box_inv
    split at h
    · rename_i cs hcs
      obtain ⟨_, _, hcells⟩ := S.obj id _ hcs
      cases g
      · simp only [Bool.false_eq_true, if_false] at h
        split at h
        · rename_i c hc
          obtain ⟨_, v, h1, h2⟩ := hcells off c hc
          refine .same S (r := c) (v := v) (key hv ?_) h2 h
          have := run_var (w := w) hg hn (b := (L id).a.block) (off := (L id).a.off + off) (vs := [v]) (fun j u hj => by cases j <;> simp at hj; subst hj; exact h1) (by simp) (by simp)
          simpa using this
        · exact h.elim
      · simp only [if_true] at h
        obtain ⟨hle, hk⟩ := h
        obtain ⟨vs, hl, hat⟩ : ∃ vs : List Value, vs.length = n ∧ ∀ (j : Nat) v, vs[j]? = some v → w.cell? ⟨(L id).a.block, (L id).a.off + off + j, none⟩ = some v ∧ ∀ c, cs[off + j]? = some c → RV w L σ c v := by
          refine ⟨(List.range n).map fun j => (w.cell? ⟨(L id).a.block, (L id).a.off + off + j, none⟩).getD undef, by simp, fun j v hj => ?_⟩
          have hjn : j < n := by have := lt_of_get hj; simpa using this
          simp [hjn] at hj
          have hc : cs[off + j]? = some (cs[off + j]'(by omega)) := List.getElem?_eq_getElem _
          obtain ⟨_, u, h1, h2⟩ := hcells (off + j) _ hc
          rw [← Nat.add_assoc] at h1
          rw [h1] at hj; simp at hj; subst hj
          exact ⟨h1, fun c hc' => by rw [hc] at hc'; cases hc'; exact h2⟩
        refine .same S (r := .agg ((cs.drop off).take n)) (v := .agg vs.toArray) (key hv ?_) (.agg _ _ (by simp; omega) fun j c v hc hv => ?_) hk
        · have := run_var (w := w) hg hn (b := (L id).a.block) (off := (L id).a.off + off) (vs := vs) (fun j u hj => (hat j u hj).1) (fun _ => hl) (by simp)
          simpa using this
        · rw [List.getElem?_take] at hc
          split at hc
          · rw [List.getElem?_drop] at hc; exact (hat j v hv).2 c hc
          · cases hc
    · exact h.elim
  · rename_i cs hid
    rw [hid] at hv
    obtain ⟨b, off, heq, hcells⟩ := hv.vp_inv
    cases g
    · simp only [Bool.false_eq_true, if_false] at h
      split at h
      · rename_i c hc
        obtain ⟨v, h1, _, h2⟩ := hcells 0 c hc
        refine .same S (r := .d c) (v := v) (key heq ?_) (.d _ _ h2) h
        have := run_var (w := w) hg hn (b := b) (off := off) (vs := [v]) (fun j u hj => by cases j <;> simp at hj; subst hj; exact h1) (by simp) (by simp)
        simpa using this
      · exact h.elim
    · simp only [if_true] at h
      obtain ⟨hle, hk⟩ := h
      obtain ⟨vs, hl, hat⟩ : ∃ vs : List Value, vs.length = n ∧ ∀ (j : Nat) v, vs[j]? = some v → w.cell? ⟨b, off + j, none⟩ = some v ∧ ∀ c, cs[j]? = some c → RD w (Own L σ) c v := by
        refine ⟨(List.range n).map fun j => (w.cell? ⟨b, off + j, none⟩).getD undef, by simp, fun j v hj => ?_⟩
        have hjn : j < n := by have := lt_of_get hj; simpa using this
        simp [hjn] at hj
        have hc : cs[j]? = some (cs[j]'(by omega)) := List.getElem?_eq_getElem _
        obtain ⟨u, h1, _, h2⟩ := hcells j _ hc
        rw [h1] at hj; simp at hj; subst hj
        exact ⟨h1, fun c hc' => by rw [hc] at hc'; cases hc'; exact h2⟩
      refine .same S (r := .agg ((cs.take n).map .d)) (v := .agg vs.toArray) (key heq ?_) (.agg _ _ (by simp; omega) fun j c v hc hv => ?_) hk
      · have := run_var (w := w) hg hn (b := b) (off := off) (vs := vs) (fun j u hj => (hat j u hj).1) (fun _ => hl) (by simp)
        simpa using this
      · simp only [List.getElem?_map, Option.map_eq_some_iff] at hc
        obtain ⟨x, hx, rfl⟩ := hc
        rw [List.getElem?_take] at hx
        split at hx
        · exact .d _ _ ((hat j v hv).2 x hx)
        · cases hx
  · exact h.elim

theorem RV.one {x : AV} {v : Value} (h : RV w L σ x v) (hs : sc x = true) : v.oneCell' = true := by
  cases h with
  | d _ _ h => cases h <;> rfl
  | own _ _ _ _ _ _ _ _ h => cases h <;> rfl
  | agg => simp [sc] at hs
  | tup => simp [sc] at hs
  | undef => simp [sc] at hs
  | _ => rfl

theorem splice_length {cs xs : List AV} {off : Nat} (h : off + xs.length ≤ cs.length) : (splice cs off xs).length = cs.length := by simp [splice]; omega
theorem splice_nil (cs : List AV) (off : Nat) : splice cs off [] = cs := by simp [splice]
theorem splice_cons {cs xs : List AV} {off : Nat} {x : AV} (h : off + xs.length < cs.length) : splice cs off (x :: xs) = splice (cs.set off x) (off + 1) xs := by
  apply List.ext_getElem?
  intro j
  simp only [splice, List.append_assoc, List.getElem?_append, List.length_take, List.length_set, List.length_cons, List.cons_append]
  have h1 : min off cs.length = off := by omega
  have h2 : min (off + 1) cs.length = off + 1 := by omega
  rw [h1, h2]
  by_cases c1 : j < off
  · rw [if_pos c1, if_pos (by omega)]
    simp [c1, show j < off + 1 by omega, List.getElem?_set_ne (show off ≠ j by omega)]
  · rw [if_neg c1]
    by_cases c2 : j = off
    · subst c2
      simp [show j < cs.length by omega]
    · rw [if_neg (by omega)]
      rw [show j - off = (j - (off + 1)) + 1 by omega, List.getElem?_cons_succ, List.getElem?_append]
      split
      · rfl
      · simp only [List.getElem?_drop]
        rw [List.getElem?_set_ne (by omega)]
        congr 1; omega

/-- cell after cell of a box is written -/
theorem run_storeBox (id : Nat) : ∀ (xs : List AV) (vs : List Value) (cs : List AV) (off i : Nat) (σ : List AObj) (w : World), Sim L σ w → σ[id]? = some (.box cs) → RVs w L σ xs vs → xs.all sc = true → off + i + xs.length ≤ cs.length →
    ∃ w', (storeCells ⟨(L id).a.block, (L id).a.off + off, none⟩ vs i).run P w = .ok () w' ∧ Step L σ w L (σ.set id (.box (splice cs (off + i) xs))) w' ∧ Sim L (σ.set id (.box (splice cs (off + i) xs))) w'
  | [], [], cs, off, i, σ, w, S, hcs, _, _, _ => by
    refine ⟨w, by simp [storeCells], ?_⟩
    have e : σ.set id (.box (splice cs (off + i) [])) = σ := by
      rw [splice_nil]
      obtain ⟨hl, hh⟩ := List.getElem?_eq_some_iff.1 hcs
      rw [← hh]; exact List.set_getElem_self hl
    rw [e]; exact ⟨Step.refl _ _ _, S⟩
  | [], v :: vs, _, _, _, _, _, _, _, hv, _, _ => by have := hv.1; simp at this
  | x :: xs, [], _, _, _, _, _, _, _, hv, _, _ => by have := hv.1; simp at this
  | x :: xs, v :: vs, cs, off, i, σ, w, S, hcs, hv, hs, hle => by
    simp only [List.length_cons] at hle
    simp only [List.all_cons, Bool.and_eq_true] at hs
    have hx := hv.2 0 x v rfl rfl
    obtain ⟨s1, S1⟩ := box_store S hcs (j := off + i) (by omega) hx
    obtain ⟨_, _, hcells⟩ := S.obj id _ hcs
    have hc : cs[off + i]? = some (cs[off + i]'(by omega)) := List.getElem?_eq_getElem _
    obtain ⟨hf, u, hu, _⟩ := hcells (off + i) _ hc
    have hrest : RVs (w.setCell ⟨(L id).a.block, (L id).a.off + (off + i), none⟩ v) L (σ.set id (.box (cs.set (off + i) x))) xs vs :=
      ⟨by have := hv.1; simpa using this, fun j b z hb hz => s1.rv (hv.2 (j + 1) b z hb hz)⟩
    obtain ⟨w', r, s2, S2⟩ := run_storeBox id xs vs (cs.set (off + i) x) off (i + 1) (σ.set id (.box (cs.set (off + i) x))) _ S1 (by rw [List.getElem?_set]; simp [lt_of_get hcs]) hrest hs.2 (by simp; omega)
    have e : splice (cs.set (off + i) x) (off + (i + 1)) xs = splice cs (off + i) (x :: xs) := (splice_cons (by omega)).symm
    rw [e] at s2 S2
    simp only [List.set_set] at s2 S2
    refine ⟨w', ?_, s1.trans s2, S2⟩
    have hone := hx.one hs.1
    rw [storeCells]
    rw [← Nat.add_assoc] at hu hf
    have hst : (store ((Addr.mk (L id).a.block ((L id).a.off + off) none).add i) v).run P w = .ok () (w.setCell ⟨(L id).a.block, (L id).a.off + (off + i), none⟩ v) := by
      rw [addr_add, Nat.add_assoc]
      rw [Nat.add_assoc] at hu hf
      cases v <;> first | (simp [Value.oneCell'] at hone; done) | simp [store, Sem.run, hu, hf]
    simp [hst, r]

theorem snd_store (S : Sim L σ w) (F : FR w L σ fr a.tmps) {t : TypeId} {n : Nat} {x y : Operand} {x' y' : Opd} (hn : sizeOf? P t = some n) (hx : opd x = some x') (hy : opd y = some y') (ho : o.op = .store t x y)
    (h : astep P (.store n x' y') fr σ K) : Yields1 P o a L σ w K := by
  simp only [astep, loadC, storeC, nilC, extractC] at h
  have hv := ev_sound F hx
  have hu := ev_sound F hy
  split at h
  · rename_i id off xs hid hxs
    rw [hid] at hv
    obtain ⟨hv, _⟩ := hv.box_inv
    split at h
    · rename_i cs hcs
      obtain ⟨hl, hle, hsc, hk⟩ := h
      have hrv := hu.cells hxs
      obtain ⟨w', r, s, S'⟩ := run_storeBox (P := P) id xs _ cs off 0 σ w S hcs hrv hsc (by omega)
      refine ⟨.tup [], .tuple #[], L, _, w', .inr ⟨?_, rfl⟩, s, S', .tup [] [] rfl (by simp), hk⟩
      have hsz : (a.eval y).cells.size = n := by have := hrv.1; simp at this; omega
      simp [execOp, ho, hv, Instr.storeAt, Instr.sureAddr, storeVar, hsz, run_size hn, r]
    · exact h.elim
  · exact h.elim

theorem snd_nilchk (S : Sim L σ w) (F : FR w L σ fr a.tmps) {x : Operand} {x' : Opd} (hx : opd x = some x') (ho : o.op = .nilCheck x) (h : astep P (.nilchk x') fr σ K) : Yields1 P o a L σ w K := by
  simp only [astep, loadC, storeC, nilC, extractC] at h
  have hv := ev_sound F hx
  split at h
  · rename_i id off hid
    rw [hid] at hv
    refine .same S (r := .box id off) (v := a.eval x) ?_ hv h
    obtain ⟨hv, _⟩ := hv.box_inv
    simp [execOp, ho, hv]
  · rename_i cs hid
    rw [hid] at hv
    refine .same S (r := .vp cs) (v := a.eval x) ?_ hv h
    obtain ⟨b, off, heq, _⟩ := hv.vp_inv; simp [execOp, ho, heq]
  · rename_i f b c hid
    rw [hid] at hv
    refine .same S (r := .fn (.func f) b c) (v := a.eval x) ?_ hv h
    obtain ⟨fs, cs, heq, _, _⟩ := hv.fn_inv; simp [execOp, ho, heq]
  · exact h.elim

theorem snd_un (S : Sim L σ w) (F : FR w L σ fr a.tmps) {op : UnOp} {t : TypeId} {x : Operand} {x' : Opd} (hx : opd x = some x') (ho : o.op = .unOp op t x) (h : astep P (.un op x') fr σ K) : Yields1 P o a L σ w K := by
  simp only [astep, unA] at h
  have hv := ev_sound F hx
  split at h
  · rename_i b hid
    rw [hid] at hv
    have hv := hv.bool_inv
    exact .same S (r := .d (.bool (!b))) (v := .bool (!b)) (by simp [execOp, ho, hv, Op.unary]) (.d _ _ (.bool _)) h
  · rename_i k n hid
    rw [hid] at hv
    have hv := hv.int_inv
    exact .same S (r := .d (.int k (k.wrap (0 - n)))) (v := .int k (k.wrap (0 - n))) (by simp [execOp, ho, hv, Op.unary, Op.intArith]) (.d _ _ (.int _ _)) h
  · exact h.elim

theorem snd_extract (S : Sim L σ w) (F : FR w L σ fr a.tmps) {k : Nat} {x : Operand} {x' : Opd} (hx : opd x = some x') (ho : o.op = .extract x k) (h : astep P (.extract x' k) fr σ K) : Yields1 P o a L σ w K := by
  simp only [astep, loadC, storeC, nilC, extractC] at h
  have hv := ev_sound F hx
  split at h
  · rename_i vs hid
    rw [hid] at hv
    obtain ⟨us, hv, h1, h2⟩ := hv.tup_inv
    split at h
    · rename_i c hc
      have hl := lt_of_get hc
      have hu : us[k]? = some us[k] := by simp [h1, hl]
      exact .same S (r := c) (v := us[k]) (by simp [execOp, ho, hv, Instr.extract, hu]) (h2 k c _ hc hu) h
    · exact h.elim
  · exact h.elim

theorem snd_mkfn (S : Sim L σ w) (F : FR w L σ fr a.tmps) {f : Fn} {first cap : Array Operand} {f' c' : List Opd} (h1 : first.toList.mapM opd = some f') (h2 : cap.toList.mapM opd = some c') (ho : o.op = .makeFunc f first cap)
    (h : astep P (.mkfn f f' c') fr σ K) : Yields1 P o a L σ w K := by
  have e1 := evs_sound F h1
  have e2 := evs_sound F h2
  refine .same S (r := .fn f (f'.map (ev fr)) (c'.map (ev fr))) (v := .func f (first.map a.eval) (cap.map a.eval)) (by simp [execOp, ho, Instr.makeFunc]) ?_ h
  have := RV.fn (w := w) (L := L) (σ := σ) f _ _ _ _ e1.1 e2.1 e1.2 e2.2
  have k1 : (first.toList.map a.eval).toArray = first.map a.eval := by apply Array.ext'; simp
  have k2 : (cap.toList.map a.eval).toArray = cap.map a.eval := by apply Array.ext'; simp
  rw [k1, k2] at this; exact this

end
end Go.AW

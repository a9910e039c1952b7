/- THE ABSTRACT LOGIC IS SOUND: what is shown of a function's resolved code holds of the model's run. -/
import Derived.Test.YtahbjkanmagndaaAwSnd9
import Derived.Orders
import Derived.Deep.LoopGhost
set_option linter.all false
set_option linter.unusedSimpArgs false
set_option linter.unusedVariables false
namespace Go.AW
section
variable {P : Program} {o : Oper} {fr : Frame} {σ : List AObj} {K : AV → List AObj → Prop} {L : Nat → Loc} {w : World} {a : Act}

theorem callOk_spec {f : FuncId} (h : callOk P f = true) : ∃ fn c, P.funcs[f]? = some fn ∧ fn.name ≠ "runtime.NumGoroutine" ∧ fn.body = some c := by
  unfold callOk at h
  split at h
  · rename_i fn hf
    simp only [Bool.and_eq_true, bne_iff_ne, ne_eq] at h
    obtain ⟨h1, h2⟩ := h
    cases hb : fn.body with
    | none => simp [hb] at h2
    | some c => exact ⟨fn, c, hf, h1, hb⟩
  · cases h

theorem run_callFunc {f : FuncId} (h : callOk P f = true) (args : Array Value) (w : World) : (callFunc f args).run P w = .ok (.enter f args) w := by
  obtain ⟨fn, c, h1, h2, h3⟩ := callOk_spec h
  simp [callFunc, program, Sem.run, h1, h2, h3]

theorem dm1_sound {x : AV} {v : Value} (h : RV w L σ x v) : RV w L σ (dm1 x) v := by
  cases h with
  | own _ _ _ _ _ _ _ _ h => exact .d _ _ h
  | exact _ _ h => exact .d _ _ h
  | d _ _ h => exact .d _ _ h
  | agg _ _ h1 h2 => exact .agg _ _ h1 h2
  | tup _ _ h1 h2 => exact .tup _ _ h1 h2
  | bsl _ _ _ _ _ h1 h2 => exact .bsl _ _ _ _ _ h1 h2
  | box _ _ h => exact .box _ _ h
  | vp _ _ _ h => exact .vp _ _ _ h
  | map _ h => exact .map _ h
  | iter _ h => exact .iter _ h
  | fn _ _ _ _ _ h1 h2 h3 h4 => exact .fn _ _ _ _ _ h1 h2 h3 h4
  | undef _ => exact .undef _

theorem dm_sound {x : AV} {v : Value} (h : RV w L σ x v) : RV w L σ (dm x) v := by
  cases x with
  | agg cs =>
    obtain ⟨vs, rfl, h1, h2⟩ := h.agg_inv
    refine .agg _ _ (by simpa using h1) fun i c v hc hv => ?_
    simp only [List.getElem?_map, Option.map_eq_some_iff] at hc
    obtain ⟨c', hc', rfl⟩ := hc
    exact dm1_sound (h2 i c' v hc' hv)
  | _ => exact dm1_sound h

theorem RVs.append {as bs : List AV} {us vs : List Value} (h1 : RVs w L σ as us) (h2 : RVs w L σ bs vs) : RVs w L σ (as ++ bs) (us ++ vs) := by
  refine ⟨by simp [h1.1, h2.1], fun i x v hx hv => ?_⟩
  rcases Nat.lt_or_ge i as.length with hl | hl
  · rw [List.getElem?_append_left hl] at hx
    rw [List.getElem?_append_left (by rw [h1.1]; exact hl)] at hv
    exact h1.2 i x v hx hv
  · rw [List.getElem?_append_right hl] at hx
    rw [List.getElem?_append_right (by rw [h1.1]; exact hl), h1.1] at hv
    exact h2.2 _ x v hx hv

theorem dms_sound (F : FR w L σ fr a.tmps) {os : List Operand} {xs : List Opd} (h : os.mapM opd = some xs) : RVs w L σ (xs.map fun x => dm (ev fr x)) (os.map a.eval) := by
  have h0 := evs_sound F h
  refine ⟨by have := h0.1; simpa using this, fun i b v hb hv => ?_⟩
  simp only [List.getElem?_map, Option.map_eq_some_iff] at hb
  obtain ⟨x, hx, rfl⟩ := hb
  exact dm_sound (h0.2 i (ev fr x) v (by simp [hx]) hv)

/-- what follows an operation -/
abbrev After (P : Program) (o : Oper) (a : Act) (L : Nat → Loc) (σ : List AObj) (w : World) (K : AV → List AObj → Prop) (next : Act → World → Prop) : Prop :=
  ∀ r v L' σ' w', Step L σ w L' σ' w' → Sim L' σ' w' → RV w' L' σ' r v → K r σ' → next (a.put o.dst v) w'

theorem Yields1.wp (h : Yields1 P o a L σ w K) {next : Act → World → Prop} {Q : Exit → Act → World → Prop} (hk : After P o a L σ w K next) : o.wp P a w next Q := by
  obtain ⟨r, v, L', σ', w', hrun, s, S', hr, hK⟩ := h
  unfold Oper.wp
  rcases hrun with hrun | ⟨hrun, rfl⟩
  · rw [hrun]; exact hk r v L' σ' w' s S' hr hK
  · rw [hrun]; exact hk r _ L' σ' w' s S' hr hK

theorem call_wp {f : FuncId} {as : List AV} {vs : List Value} (hrun : (execOp a.eval o).run P w = .ok (.enter f vs.toArray) w) (S : Sim L σ w) (hv : RVs w L σ as vs) (h : ACall P f as σ K) {next : Act → World → Prop} {Q : Exit → Act → World → Prop}
    (hk : After P o a L σ w K next) : o.wp P a w next Q := by
  unfold Oper.wp
  rw [hrun, Oper.upon_enter]
  refine (h.2 L w vs S hv).mono fun e w' he => ?_
  cases e with
  | returned v =>
    obtain ⟨L', σ', r, s, S', hr, hK⟩ := he
    exact hk r v L' σ' w' s S' hr hK
  | panicked ch => exact he.elim
  | outgrown => exact he.elim

theorem astep_sound {i : I} (hc : compI P o = some i.norm) (S : Sim L σ w) (F : FR w L σ fr a.tmps) (h : astep P i fr σ K) {next : Act → World → Prop} {Q : Exit → Act → World → Prop}
    (hk : After P o a L σ w K next) : o.wp P a w next Q := by
  cases hop : o.op with
  | move x =>
    simp only [compI, hop, Option.bind_eq_bind, Option.bind_eq_some_iff, Option.pure_def, Option.some.injEq] at hc
    obtain ⟨y, hy, hc⟩ := hc
    cases i <;> simp only [I.norm] at hc <;> cases hc
    exact (snd_mv S F hy (.inl hop) h).wp hk
  | assign x =>
    simp only [compI, hop, Option.bind_eq_bind, Option.bind_eq_some_iff, Option.pure_def, Option.some.injEq] at hc
    obtain ⟨y, hy, hc⟩ := hc
    cases i <;> simp only [I.norm] at hc <;> cases hc
    exact (snd_mv S F hy (.inr hop) h).wp hk
  | pick c x y =>
    simp only [compI, hop, Option.bind_eq_bind, Option.bind_eq_some_iff, Option.pure_def, Option.some.injEq] at hc
    obtain ⟨c', hc', x', hx, y', hy, hc⟩ := hc
    cases i <;> simp only [I.norm] at hc <;> cases hc
    exact (snd_pick S F hc' hx hy hop h).wp hk
  | alloc t =>
    simp only [compI, hop, Option.bind_eq_bind, Option.bind_eq_some_iff, Option.pure_def, Option.some.injEq] at hc
    obtain ⟨z, hz, hc⟩ := hc
    cases i <;> simp only [I.norm] at hc <;> cases hc
    exact (snd_alloc S hz hop h).wp hk
  | box t x =>
    simp only [compI, hop, Option.bind_eq_bind, Option.bind_eq_some_iff, Option.pure_def, Option.some.injEq] at hc
    obtain ⟨y, hy, hc⟩ := hc
    cases i <;> simp only [I.norm] at hc <;> cases hc
    exact (snd_box S F hy hop h).wp hk
  | build t parts =>
    have hc' := hc
    simp only [compI, hop] at hc
    have : i.norm = i := by
      split at hc
      · simp only [Option.bind_eq_bind, Option.bind_eq_some_iff] at hc
        obtain ⟨_, _, _, _, hc⟩ := hc
        split at hc
        · simp only [Option.pure_def, Option.some.injEq] at hc
          cases i <;> simp only [I.norm] at hc <;> cases hc; rfl
        · cases hc
      · simp only [Option.bind_eq_bind, Option.bind_eq_some_iff, Option.pure_def, Option.some.injEq] at hc
        obtain ⟨_, _, _, _, _, _, hc⟩ := hc
        cases i <;> simp only [I.norm] at hc <;> cases hc; rfl
      · cases hc
    rw [this] at hc'
    exact (snd_build S F hop hc' h).wp hk
  | buildSlice t n parts =>
    have hc' := hc
    simp only [compI, hop] at hc
    split at hc
    · simp only [Option.bind_eq_bind, Option.bind_eq_some_iff, Option.pure_def] at hc
      obtain ⟨_, _, _, _, _, _, hc⟩ := hc
      split at hc
      · simp only [Option.some.injEq] at hc
        cases i <;> simp only [I.norm] at hc <;> cases hc
        exact (snd_mkslice S F hop hc' h).wp hk
      · cases hc
    · cases hc
  | load t x =>
    simp only [compI, hop, Option.bind_eq_bind, Option.bind_eq_some_iff, Option.pure_def, Option.some.injEq] at hc
    obtain ⟨g, hg, n, hn, y, hy, hc⟩ := hc
    cases i <;> simp only [I.norm] at hc <;> cases hc
    exact (snd_load S F hg hn hy hop h).wp hk
  | store t x y =>
    simp only [compI, hop, Option.bind_eq_bind, Option.bind_eq_some_iff, Option.pure_def, Option.some.injEq] at hc
    obtain ⟨n, hn, x', hx, y', hy, hc⟩ := hc
    cases i <;> simp only [I.norm] at hc <;> cases hc
    exact (snd_store S F hn hx hy hop h).wp hk
  | nilCheck x =>
    simp only [compI, hop, Option.bind_eq_bind, Option.bind_eq_some_iff, Option.pure_def, Option.some.injEq] at hc
    obtain ⟨y, hy, hc⟩ := hc
    cases i <;> simp only [I.norm] at hc <;> cases hc
    exact (snd_nilchk S F hy hop h).wp hk
  | binOp op t x y u =>
    simp only [compI, hop] at hc
    split at hc
    · rename_i hn
      simp only [Option.bind_eq_bind, Option.bind_eq_some_iff, Option.pure_def, Option.some.injEq] at hc
      obtain ⟨x', hx, hc⟩ := hc
      cases i <;> simp only [I.norm] at hc <;> cases hc
      exact (snd_isnil S F hn hx hop h).wp hk
    · simp only [Option.bind_eq_bind, Option.bind_eq_some_iff, Option.pure_def, Option.some.injEq] at hc
      obtain ⟨e, he, x', hx, y', hy, hc⟩ := hc
      cases i <;> simp only [I.norm] at hc <;> cases hc
      exact (snd_bin S F he hx hy hop h).wp hk
  | makeMap t r =>
    cases r with
    | some r => simp [compI, hop] at hc
    | none =>
      simp only [compI, hop] at hc
      split at hc
      · rename_i kt et ht
        cases i <;> simp only [I.norm] at hc <;> cases hc
        exact (snd_mkmap S ht hop h).wp hk
      · cases hc
  | lookup t m k ok =>
    simp only [compI, hop] at hc
    split at hc
    · rename_i kt et ht
      simp only [Option.bind_eq_bind, Option.bind_eq_some_iff, Option.pure_def, Option.some.injEq] at hc
      obtain ⟨kk, hkk, inf, hi, z, hz, za, hza, m', hm, k', hk', hc⟩ := hc
      cases i <;> simp only [I.norm] at hc <;> cases hc
      exact (snd_mget S F ht hkk hi hz hza hm hk' hop h).wp hk
    · cases hc
  | mapUpdate t m k x =>
    simp only [compI, hop] at hc
    split at hc
    · rename_i kt et ht
      simp only [Option.bind_eq_bind, Option.bind_eq_some_iff, Option.pure_def, Option.some.injEq] at hc
      obtain ⟨kk, hkk, m', hm, k', hk', x', hx, hc⟩ := hc
      cases i <;> simp only [I.norm] at hc <;> cases hc
      exact (snd_mset S F ht hkk hm hk' hx (.inl hop) h).wp hk
    · cases hc
  | insert t m k x =>
    simp only [compI, hop] at hc
    split at hc
    · rename_i kt et ht
      simp only [Option.bind_eq_bind, Option.bind_eq_some_iff, Option.pure_def, Option.some.injEq] at hc
      obtain ⟨kk, hkk, m', hm, k', hk', x', hx, hc⟩ := hc
      cases i <;> simp only [I.norm] at hc <;> cases hc
      exact (snd_mset S F ht hkk hm hk' hx (.inr hop) h).wp hk
    · cases hc
  | unOp op t x =>
    simp only [compI, hop, Option.bind_eq_bind, Option.bind_eq_some_iff, Option.pure_def, Option.some.injEq] at hc
    obtain ⟨y, hy, hc⟩ := hc
    cases i <;> simp only [I.norm] at hc <;> cases hc
    exact (snd_un S F hy hop h).wp hk
  | convert src dst x =>
    have hc' := hc
    simp only [compI, hop] at hc
    have : i.norm = i := by
      cases i <;> first | rfl | skip
      split at hc <;> first
        | (split at hc <;> first | (simp only [Option.bind_eq_bind, Option.bind_eq_some_iff, Option.pure_def, Option.some.injEq] at hc; obtain ⟨_, _, hc⟩ := hc; simp only [I.norm] at hc; cases hc; done) | (cases hc; done))
        | (simp only [Option.bind_eq_bind, Option.bind_eq_some_iff, Option.pure_def, Option.some.injEq] at hc; obtain ⟨_, _, hc⟩ := hc; simp only [I.norm] at hc; cases hc; done)
        | (cases hc; done)
    rw [this] at hc'
    exact (snd_conv S F hop hc' h).wp hk
  | slice t x lo hi mx =>
    have hc' := hc
    simp only [compI, hop] at hc
    have : i.norm = i := by
      cases i <;> first | rfl | skip
      split at hc
      · simp only [Option.bind_eq_bind, Option.bind_eq_some_iff, Option.pure_def, Option.some.injEq] at hc
        obtain ⟨_, _, _, _, _, _, _, _, hc⟩ := hc; simp only [I.norm] at hc; cases hc
      · simp only [Option.bind_eq_bind, Option.bind_eq_some_iff, Option.pure_def, Option.some.injEq] at hc
        obtain ⟨_, _, _, _, _, _, _, _, _, _, hc⟩ := hc; simp only [I.norm] at hc; cases hc
      · simp only [Option.bind_eq_bind, Option.bind_eq_some_iff, Option.pure_def, Option.some.injEq] at hc
        obtain ⟨_, _, _, _, _, _, _, _, _, _, hc⟩ := hc; simp only [I.norm] at hc; cases hc
      · cases hc
    rw [this] at hc'
    exact (snd_slc S F hop hc' h).wp hk
  | fieldAddr t x k =>
    have hc' := hc
    simp only [compI, hop] at hc
    have : i.norm = i := by
      cases i <;> first | rfl | skip
      split at hc
      · simp only [Option.bind_eq_bind, Option.bind_eq_some_iff] at hc
        obtain ⟨_, _, _, _, hc⟩ := hc
        split at hc
        · cases hc
        · simp only [Option.bind_eq_some_iff, Option.pure_def, Option.some.injEq] at hc
          obtain ⟨_, _, hc⟩ := hc; simp only [I.norm] at hc; cases hc
      · cases hc
    rw [this] at hc'
    exact (snd_faddr S F hop hc' h).wp hk
  | field t x k =>
    have hc' := hc
    simp only [compI, hop] at hc
    have : i.norm = i := by
      cases i <;> first | rfl | skip
      split at hc
      · simp only [Option.bind_eq_bind, Option.bind_eq_some_iff, Option.pure_def, Option.some.injEq] at hc
        obtain ⟨_, _, _, _, _, _, _, _, hc⟩ := hc; simp only [I.norm] at hc; cases hc
      · cases hc
    rw [this] at hc'
    exact (snd_field S F hop hc' h).wp hk
  | indexAddr t x y =>
    have hc' := hc
    simp only [compI, hop] at hc
    have : i.norm = i := by
      cases i <;> first | rfl | skip
      split at hc
      · simp only [Option.bind_eq_bind, Option.bind_eq_some_iff, Option.pure_def, Option.some.injEq] at hc
        obtain ⟨_, _, _, _, _, _, hc⟩ := hc; simp only [I.norm] at hc; cases hc
      · simp only [Option.bind_eq_bind, Option.bind_eq_some_iff, Option.pure_def, Option.some.injEq] at hc
        obtain ⟨_, _, _, _, _, _, hc⟩ := hc; simp only [I.norm] at hc; cases hc
      · cases hc
    rw [this] at hc'
    exact (snd_iaddr S F hop hc' h).wp hk
  | index t x y =>
    have hc' := hc
    simp only [compI, hop] at hc
    have : i.norm = i := by
      cases i <;> first | rfl | skip
      split at hc
      · simp only [Option.bind_eq_bind, Option.bind_eq_some_iff, Option.pure_def, Option.some.injEq] at hc
        obtain ⟨_, _, _, _, hc⟩ := hc; simp only [I.norm] at hc; cases hc
      · simp only [Option.bind_eq_bind, Option.bind_eq_some_iff, Option.pure_def, Option.some.injEq] at hc
        obtain ⟨_, _, _, _, _, _, _, _, hc⟩ := hc; simp only [I.norm] at hc; cases hc
      · cases hc
    rw [this] at hc'
    exact (snd_idxA S F hop hc' h).wp hk
  | extract x k =>
    simp only [compI, hop, Option.bind_eq_bind, Option.bind_eq_some_iff, Option.pure_def, Option.some.injEq] at hc
    obtain ⟨y, hy, hc⟩ := hc
    cases i <;> simp only [I.norm] at hc <;> cases hc
    exact (snd_extract S F hy hop h).wp hk
  | range t x =>
    have hc' := hc
    simp only [compI, hop] at hc
    have : i.norm = i := by
      cases i <;> first | rfl | skip
      split at hc
      · simp only [Option.bind_eq_bind, Option.bind_eq_some_iff, Option.pure_def, Option.some.injEq] at hc
        obtain ⟨_, _, hc⟩ := hc; simp only [I.norm] at hc; cases hc
      · cases hc
    rw [this] at hc'
    exact (snd_rangeS S F hop hc' h).wp hk
  | next x s =>
    cases s
    · simp [compI, hop] at hc
    · simp only [compI, hop, Option.bind_eq_bind, Option.bind_eq_some_iff, Option.pure_def, Option.some.injEq] at hc
      obtain ⟨y, hy, hc⟩ := hc
      cases i <;> simp only [I.norm] at hc <;> cases hc
      exact (snd_nextS S F hy hop h).wp hk
  | makeFunc f first cap =>
    simp only [compI, hop, Option.bind_eq_bind, Option.bind_eq_some_iff, Option.pure_def, Option.some.injEq] at hc
    obtain ⟨f', hf, c', hcp, hc⟩ := hc
    cases i <;> simp only [I.norm] at hc <;> cases hc
    exact (snd_mkfn S F hf hcp hop h).wp hk
  | call c =>
    simp only [compI, hop] at hc
    split at hc
    · rename_i f hcal
      split at hc
      · rename_i hok
        simp only [Option.bind_eq_bind, Option.bind_eq_some_iff, Option.pure_def, Option.some.injEq] at hc
        obtain ⟨args, hargs, hc⟩ := hc
        cases i <;> simp only [I.norm] at hc <;> cases hc
        simp only [astep] at h
        refine call_wp (vs := c.args.toList.map a.eval) ?_ S (dms_sound F hargs) h hk
        have e1 : c.args.map a.eval = (c.args.toList.map a.eval).toArray := by apply Array.ext'; simp
        simp [execOp, hop, resolve, hcal, Act.eval, Deferred.ofValue, invoke, run_callFunc hok, e1]
      · cases hc
    · rename_i x _ hcal
      simp only [Option.bind_eq_bind, Option.bind_eq_some_iff, Option.pure_def, Option.some.injEq] at hc
      obtain ⟨g, hg, args, hargs, hc⟩ := hc
      cases i <;> simp only [I.norm] at hc <;> cases hc
      simp only [astep, callvC] at h
      have hv := ev_sound F hg
      split at h
      · rename_i f first cap hid
        rw [hid] at hv
        obtain ⟨fs, cs, hX, r1, r2⟩ := hv.fn_inv
        refine call_wp (vs := fs ++ c.args.toList.map a.eval ++ cs) ?_ S ((r1.append (dms_sound F hargs)).append r2) h hk
        have e1 : c.args.map a.eval = (c.args.toList.map a.eval).toArray := by apply Array.ext'; simp
        simp [execOp, hop, resolve, hcal, hX, Deferred.ofValue, invoke, run_callFunc h.1, e1]
      · exact h.elim
    · rename_i hcal
      split at hc
      · rename_i t x ht hargs
        have key : ∀ (k : LK) (y : Opd), opd x = some y → i = .len k y → LKok P t k → o.wp P a w next Q := fun k y hy hi hp => by
          subst hi; exact (snd_len S F hop hcal ht hargs hy hp h).wp hk
        split at hc
        · rename_i hu
          simp only [Option.bind_eq_bind, Option.bind_eq_some_iff, Option.pure_def, Option.some.injEq] at hc
          obtain ⟨y, hy, hc⟩ := hc
          exact key .str y hy (by cases i <;> simp only [I.norm] at hc <;> cases hc; rfl) hu
        · rename_i e hu
          simp only [Option.bind_eq_bind, Option.bind_eq_some_iff, Option.pure_def, Option.some.injEq] at hc
          obtain ⟨y, hy, hc⟩ := hc
          exact key .sl y hy (by cases i <;> simp only [I.norm] at hc <;> cases hc; rfl) ⟨e, hu⟩
        · rename_i n e hu
          simp only [Option.bind_eq_bind, Option.bind_eq_some_iff, Option.pure_def, Option.some.injEq] at hc
          obtain ⟨y, hy, hc⟩ := hc
          exact key (.arr n) y hy (by cases i <;> simp only [I.norm] at hc <;> cases hc; rfl) (.inl ⟨e, hu⟩)
        · simp only [Option.bind_eq_bind, Option.bind_eq_some_iff, Option.pure_def, Option.some.injEq] at hc
          obtain ⟨y, hy, hc⟩ := hc
          exact key .map y hy (by cases i <;> simp only [I.norm] at hc <;> cases hc; rfl) ⟨_, _, by assumption⟩
        · rename_i e hu
          split at hc
          · rename_i n e' hu'
            simp only [Option.bind_eq_bind, Option.bind_eq_some_iff, Option.pure_def, Option.some.injEq] at hc
            obtain ⟨y, hy, hc⟩ := hc
            exact key (.arr n) y hy (by cases i <;> simp only [I.norm] at hc <;> cases hc; rfl) (.inr ⟨e, e', hu, hu'⟩)
          · cases hc
        · cases hc
      · cases hc
    · rename_i hcal
      split at hc
      · rename_i t u x y hat hargs
        have key : ∀ e, P.underlying t = some (.slice e) → ((∃ e', P.underlying u = some (.slice e')) ∨ P.underlying u = some .string) →
            (do let s ← sizeOf? P e; let i ← P.info? e; let z ← zeros P e; if 0 < s && z.length == s && 0 < i.bytes then pure (I.append s i.bytes z (← opd x) (← opd y)) else none) = some i.norm → o.wp P a w next Q := fun e ht hu hc => by
          simp only [Option.bind_eq_bind, Option.bind_eq_some_iff] at hc
          obtain ⟨s, hs, inf, hi, z, hz, hc⟩ := hc
          split at hc
          · rename_i hcond
            simp only [Bool.and_eq_true, decide_eq_true_eq, beq_iff_eq] at hcond
            simp only [Option.bind_eq_some_iff, Option.pure_def, Option.some.injEq] at hc
            obtain ⟨x', hx, y', hy, hc⟩ := hc
            cases i <;> simp only [I.norm] at hc <;> cases hc
            exact (snd_append S F hop hcal hat hargs ht hu hs hi hz hcond.1.1 hcond.1.2 hcond.2 rfl hx hy h).wp hk
          · cases hc
        split at hc
        · rename_i e e' ht hu; exact key e ht (.inl ⟨e', hu⟩) hc
        · rename_i e ht hu; exact key e ht (.inr hu) hc
        · cases hc
      · cases hc
    · rename_i hcal
      split at hc
      · rename_i t m k hat hargs
        split at hc
        · rename_i kt et ht
          simp only [Option.bind_eq_bind, Option.bind_eq_some_iff, Option.pure_def, Option.some.injEq] at hc
          obtain ⟨kk, hkk, m', hm, k', hk', hc⟩ := hc
          cases i <;> simp only [I.norm] at hc <;> cases hc
          exact (snd_mdel S F hop hcal hat hargs ht hkk hm hk' h).wp hk
        · cases hc
      · cases hc
    · rename_i hcal
      simp only [Option.bind_eq_bind, Option.bind_eq_some_iff, Option.pure_def, Option.some.injEq] at hc
      obtain ⟨ys, hys, hc⟩ := hc
      cases i <;> simp only [I.norm] at hc <;> cases hc
      exact (snd_max S F hop hcal hys h).wp hk
    · rename_i hcal
      simp only [Option.bind_eq_bind, Option.bind_eq_some_iff, Option.pure_def, Option.some.injEq] at hc
      obtain ⟨ys, hys, hc⟩ := hc
      cases i <;> simp only [I.norm] at hc <;> cases hc
      exact (snd_min S F hop hcal hys h).wp hk
    · cases hc
  | _ => simp [compI, hop] at hc
end
end Go.AW

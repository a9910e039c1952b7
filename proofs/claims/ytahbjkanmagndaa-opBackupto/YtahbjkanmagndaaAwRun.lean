/- The regions, the control, and a function's contract from its resolved code. -/
import Derived.Test.YtahbjkanmagndaaAwWp
import Derived.Test.YtahbjkanmagndaaAwDraw2
set_option linter.all false
set_option linter.unusedSimpArgs false
set_option linter.unusedVariables false
namespace Go.AW
section
variable {P : Program}

/-- the slots beside A are as they were -/
def Agree (A : List Nat) (a a' : Act) : Prop := a'.tmps.size = a.tmps.size ∧ ∀ i, i ∉ A → a'.tmps[i]? = a.tmps[i]?
theorem Agree.refl (A : List Nat) (a : Act) : Agree A a a := ⟨rfl, fun _ _ => rfl⟩
theorem Agree.trans {A B : List Nat} {a b c : Act} (h : Agree A a b) (k : Agree B b c) : Agree (A ++ B) a c := ⟨k.1.trans h.1, fun i hi => by
  simp only [List.mem_append, not_or] at hi
  exact (k.2 i hi.2).trans (h.2 i hi.1)⟩
theorem Agree.mono {A B : List Nat} {a b : Act} (h : Agree A a b) (hs : ∀ i ∈ A, i ∈ B) : Agree B a b := ⟨h.1, fun i hi => h.2 i (fun hA => hi (hs i hA))⟩
theorem Agree.put (a : Act) (dst : Option Nat) (v : Value) : Agree dst.toList a (a.put dst v) := ⟨by cases dst <;> simp [Act.put], fun i hi => by
  cases dst with
  | none => rfl
  | some d =>
    simp at hi
    simp only [Act.put, Array.getElem?_setIfInBounds]
    rw [if_neg (fun e => hi e.symm)]⟩

/-- which slots a piece of code may write -/
def asg : AC → List Nat
  | .ops l => l.filterMap (·.dst)
  | .draw l _ _ _ => l.filterMap (·.dst)
  | .seq a b => asg a ++ asg b
  | .cond _ a b => asg a ++ asg b
  | .block _ a => asg a
  | .loop _ _ a => asg a
  | _ => []
def dstOk (n : Nat) (x : Ai) : Bool := match x.dst with | none => true | some d => Nat.blt d n
/-- each loop tells all that it writes; no slot is written beyond the frame -/
def AC.ok (n : Nat) : AC → Bool
  | .ops l => l.all (dstOk n)
  | .draw l _ _ _ => l.all (dstOk n)
  | .seq a b => a.ok n && b.ok n
  | .cond _ a b => a.ok n && b.ok n
  | .block _ a => a.ok n
  | .loop lv dd a => a.ok n && lv.all (fun i => Nat.blt i n) && dd.all (fun i => Nat.blt i n) && (asg a).all fun i => lv.contains i || dd.contains i
  | _ => true
theorem dstOk_lt {n : Nat} {x : Ai} (h : dstOk n x = true) (d : Nat) (hd : x.dst = some d) : d < n := by
  simp only [dstOk, hd] at h
  rwa [Nat.blt_eq] at h

/-- what holds behind a piece of a run that began at L, σ, w -/
abbrev Then (A : List Nat) (a : Act) (L : Nat → Loc) (σ : List AObj) (w : World) (K : Frame → List AObj → Prop) (next : Act → World → Prop) : Prop :=
  ∀ fr' L' σ' a' w', Step L σ w L' σ' w' → Sim L' σ' w' → FR w' L' σ' fr' a'.tmps → a'.defers = a.defers → Agree A a a' → K fr' σ' → next a' w'

theorem FR.aput {w : World} {L : Nat → Loc} {σ : List AObj} {fr : Frame} {a : Act} (h : FR w L σ fr a.tmps) {x : AV} {v : Value} (hv : RV w L σ x v) {dst : Option Nat} (hd : ∀ d, dst = some d → d < a.tmps.size) : FR w L σ (aput fr dst x) (a.put dst v).tmps := by
  cases dst with
  | none => exact h
  | some d => exact h.put (hd d rfl) hv
theorem put_defers (a : Act) (dst : Option Nat) (v : Value) : (a.put dst v).defers = a.defers := by cases dst <;> rfl

theorem aop_sound {ops : Array Oper} {i : Nat} {x : Ai} {o : Oper} {fr : Frame} {σ : List AObj} {L : Nat → Loc} {w : World} {a : Act} {K : Frame → List AObj → Prop} {next : Act → World → Prop} {Q : Exit → Act → World → Prop}
    (ho : ops[i]? = some o) (hc : compO P ops o = some x.norm) (S : Sim L σ w) (F : FR w L σ fr a.tmps) (h : aop P x fr σ K) (hdst : ∀ d, x.dst = some d → d < a.tmps.size) (hk : Then x.dst.toList a L σ w K next) : wpOp P ops Q i next a w := by
  unfold wpOp
  simp only [ho]
  simp only [compO, Option.bind_eq_bind, Option.bind_eq_some_iff] at hc
  obtain ⟨i', hi, hc⟩ := hc
  have step1 : ∀ {K' : AV → List AObj → Prop}, astep P x.i fr σ (fun r σ' => K (aput fr x.dst r) σ') → i' = x.i.norm → o.dst = x.dst → o.wp P a w next Q := fun {K'} h1 e1 e2 => by
    subst e1
    refine astep_sound hi S F h1 fun r v L' σ' w' s S' hr hK => ?_
    rw [e2]
    exact hk _ L' σ' _ w' s S' ((s.fr F).aput hr hdst) (put_defers _ _ _) (Agree.put _ _ _) hK
  have skip1 : o.dst = x.dst → K (aput fr x.dst (.tup [])) σ → next (a.put o.dst undef) w := fun e2 hK => by
    rw [e2]
    exact hk _ L σ _ w (Step.refl _ _ _) S (F.aput (.tup [] [] rfl (by simp)) hdst) (put_defers _ _ _) (Agree.put _ _ _) hK
  split at hc
  · rename_i hg
    simp only [Option.pure_def, Option.some.injEq] at hc
    have hx1 : x.norm.g = none := by rw [← hc]
    have hx2 : i' = x.i.norm := by have := congrArg Ai.i hc; exact this
    have hx3 : o.dst = x.dst := by have := congrArg Ai.dst hc; exact this
    have hxg : x.g = none := hx1
    simp only [aop, hxg] at h
    rw [if_pos (by simp [Region.wanted, hg])]
    exact .inl (step1 (K' := fun _ _ => True) h hx2 hx3)
  · rename_i j want hg
    simp only [Option.bind_eq_some_iff, Option.pure_def, Option.some.injEq] at hc
    obtain ⟨oj, hoj, d, hd, hc⟩ := hc
    have hx2 : i' = x.i.norm := by have := congrArg Ai.i hc; exact this
    have hx3 : o.dst = x.dst := by have := congrArg Ai.dst hc; exact this
    have hxg : x.g = some (d, want) := by have := congrArg Ai.g hc; exact this.symm
    simp only [aop, hxg] at h
    have hyl : yielded ops a.tmps j = match a.tmps[d]? with | some (.bool b) => some b | _ => none := by
      simp only [yielded, hoj, hd, Option.bind_some]; rfl
    have hw : Region.wanted o (yielded ops a.tmps) = (yielded ops a.tmps j == some want) := by simp [Region.wanted, hg]
    have hat : ∀ {c}, getS fr d = c → c ≠ .undef → ∃ v, a.tmps[d]? = some v ∧ RV w L σ c v := fun {c} hc hne => by
      have hl : d < a.tmps.size := by
        rcases Nat.lt_or_ge d a.tmps.size with h | h
        · exact h
        · exact absurd (hc.symm.trans (getS_none (fun p hp e => by have := F.keys p hp; omega))) hne
      have hv : a.tmps[d]? = some a.tmps[d] := Array.getElem?_eq_getElem _
      exact ⟨_, hv, hc ▸ F.at_ d _ hv⟩
    unfold guardC at h
    split at h
    · rename_i b hfr
      obtain ⟨v, hv, hr⟩ := hat hfr (fun e => by cases e)
      have hb := hr.bool_inv
      subst hb
      rw [hw, hyl, hv]
      by_cases hbw : b = want
      · subst hbw
        rw [if_pos (by simp)]
        exact .inl (step1 (K' := fun _ _ => True) (h.1 (by simp)) hx2 hx3)
      · rw [if_neg (by simpa using hbw)]
        exact skip1 hx3 (h.2 (by simpa using hbw))
    · rename_i hfr
      obtain ⟨v, hv, hr⟩ := hat hfr (fun e => by cases e)
      have hb := hr.nil_tup
      subst hb
      rw [hw, hyl, hv, if_neg (by simp)]
      exact skip1 hx3 h
    · exact h.elim

theorem aops_sound {ops : Array Oper} {Q : Exit → Act → World → Prop} : ∀ (l : List Ai) (s : Nat) (fr : Frame) (σ : List AObj) (L : Nat → Loc) (w : World) (a : Act) (K : Frame → List AObj → Prop),
    l.length + s = ops.size → (∀ (k : Nat) x, l[k]? = some x → ∃ o, ops[s + k]? = some o ∧ compO P ops o = some x.norm) → Sim L σ w → FR w L σ fr a.tmps → l.all (dstOk a.tmps.size) = true → aops P l fr σ K → Then (l.filterMap (·.dst)) a L σ w K (Q .normal) → wpOps P ops Q (List.range' s l.length) a w
  | [], s, fr, σ, L, w, a, K, _, _, S, F, _, h, hk => by
    simp only [List.length_nil, List.range'_zero, wpOps]
    exact hk fr L σ a w (Step.refl _ _ _) S F rfl (Agree.refl _ _) h
  | x :: l, s, fr, σ, L, w, a, K, hl, hx, S, F, hok, h, hk => by
    simp only [List.all_cons, Bool.and_eq_true] at hok
    simp only [List.length_cons] at hl ⊢
    rw [List.range'_succ, wpOps_cons]
    obtain ⟨o, ho, hc⟩ := hx 0 x rfl
    refine aop_sound ho hc S F h (dstOk_lt hok.1) fun fr' L' σ' a' w' st S' F' hd hag hK => ?_
    refine aops_sound l (s + 1) fr' σ' L' w' a' K (by omega) (fun k y hy => ?_) S' F' (by rw [hag.1]; exact hok.2) hK fun fr2 L2 σ2 a2 w2 st2 S2 F2 hd2 hag2 hK2 => hk fr2 L2 σ2 a2 w2 (st.trans st2) S2 F2 (hd2.trans hd) ((hag.trans hag2).mono fun i hi => by
      cases hx' : x.dst <;> simp_all) hK2
    obtain ⟨o', ho', hc'⟩ := hx (k + 1) y hy
    exact ⟨o', by rw [← ho']; congr 1; omega, hc'⟩

theorem ready_eq {ops : Array Oper} {after : List (List Nat)} (ha : after = ops.toList.map deps) (listed : Array Bool) (l' : List Bool) (hl : l' = listed.toList) :
    aready after l' = Region.ready .any ops listed := by
  subst ha hl
  unfold aready Region.ready
  simp only [List.length_map, Array.length_toList]
  apply List.filter_congr
  intro i hi
  have hi' : i < ops.size := List.mem_range.1 hi
  have e1 : listed.toList.getD i true = listed.getD i true := by simp [List.getD, Array.getD, Array.getElem?_toList]; split <;> simp_all
  rw [e1]
  congr 1
  have e2 : (ops.toList.map deps).getD i [] = deps ops[i] := by simp [List.getD, hi']
  rw [e2]
  simp only [Array.getElem?_eq_getElem hi', Option.map_some, Option.getD_some, deps]
  have key : ∀ k, listed.toList.getD k false = listed.getD k false := fun k => by simp [List.getD, Array.getD, Array.getElem?_toList]; split <;> simp_all
  rw [Bool.eq_iff_iff]
  simp only [List.all_eq_true, List.mem_map, List.mem_filter, Array.all_eq_true', Bool.or_eq_true, Bool.not_eq_true', key]
  constructor
  · intro h e he
    by_cases hb : Region.binds .any e = true
    · exact .inr (h e.on ⟨e, ⟨by simpa using he, hb⟩, rfl⟩)
    · left; simpa using hb
  · rintro h x ⟨e, ⟨he, hb⟩, rfl⟩
    rcases h e (by simpa using he) with h1 | h1
    · rw [hb] at h1; cases h1
    · exact h1

theorem aany_sound {ops : Array Oper} {Q : Exit → Act → World → Prop} {l : List Ai} {after : List (List Nat)} (ha : after = ops.toList.map deps) (hl : l.length = ops.size)
    (hx : ∀ (k : Nat) x, l[k]? = some x → ∃ o, ops[k]? = some o ∧ compO P ops o = some x.norm) : ∀ (n : Nat) (listed : Array Bool) (l' : List Bool) (fr : Frame) (σ : List AObj) (L : Nat → Loc) (w : World) (a : Act) (K : Frame → List AObj → Prop),
    l' = listed.toList → Sim L σ w → FR w L σ fr a.tmps → l.all (dstOk a.tmps.size) = true → aany P l after K n l' fr σ → Then (l.filterMap (·.dst)) a L σ w K (Q .normal) → wpAny P .any ops Q n listed a w
  | 0, listed, l', fr, σ, L, w, a, K, e, S, F, _, h, hk => by
    have hr := ready_eq ha listed l' e
    exact ⟨by rw [← hr]; exact h.1, hk fr L σ a w (Step.refl _ _ _) S F rfl (Agree.refl _ _) h.2⟩
  | n + 1, listed, l', fr, σ, L, w, a, K, e, S, F, hok, h, hk => by
    have hr := ready_eq ha listed l' e
    refine ⟨fun h0 => hk fr L σ a w (Step.refl _ _ _) S F rfl (Agree.refl _ _) (h.1 (by rw [hr]; exact h0)), fun i hi => ?_⟩
    have h2 := h.2 i (by rw [hr]; exact hi)
    split at h2
    · rename_i x hxi
      obtain ⟨o, ho, hc⟩ := hx i x hxi
      refine aop_sound ho hc S F h2 (dstOk_lt (List.all_eq_true.1 hok x (List.mem_of_getElem? hxi))) fun fr' L' σ' a' w' st S' F' hd hag hK => ?_
      exact aany_sound ha hl hx n (listed.setIfInBounds i true) (l'.set i true) fr' σ' L' w' a' K (by rw [e]; simp) S' F' (by rw [hag.1]; exact hok) hK fun fr2 L2 σ2 a2 w2 st2 S2 F2 hd2 hag2 hK2 => hk fr2 L2 σ2 a2 w2 (st.trans st2) S2 F2 (hd2.trans hd) ((hag.trans hag2).mono fun j hj => by
        rcases List.mem_append.1 hj with h | h
        · exact List.mem_filterMap.2 ⟨x, List.mem_of_getElem? hxi, by simpa using h⟩
        · exact h) hK2
    · exact h2.elim

/-- what is known behind -/
structure Holds (A : List Nat) (a0 : Act) (L : Nat → Loc) (σ : List AObj) (w : World) (Q : Frame → List AObj → Prop) (a : Act) (w' : World) : Prop where
  ex : ∃ L' σ' fr', Step L σ w L' σ' w' ∧ Sim L' σ' w' ∧ FR w' L' σ' fr' a.tmps ∧ a.defers = [] ∧ Agree A a0 a ∧ Q fr' σ'
/-- a postcondition, as the model's code has it -/
def lift (A : List Nat) (a0 : Act) (L : Nat → Loc) (σ : List AObj) (w : World) (Q : Ex → Frame → List AObj → Prop) : Exit → Act → World → Prop
  | .normal, a, w' => Holds A a0 L σ w (Q .normal) a w'
  | .exit id, a, w' => Holds A a0 L σ w (Q (.exit id)) a w'
  | .ret, a, w' => Holds A a0 L σ w (Q .ret) a w'
  | _, _, _ => False


theorem Holds.widen {A B : List Nat} {a0 a1 : Act} {L L1 : Nat → Loc} {σ σ1 : List AObj} {w w1 : World} {Q : Frame → List AObj → Prop} {a : Act} {w' : World} (st : Step L σ w L1 σ1 w1) (hag : Agree A a0 a1) (h : Holds B a1 L1 σ1 w1 Q a w') : Holds (A ++ B) a0 L σ w Q a w' := by
  obtain ⟨L', σ', fr', s, S, F, hd, hg, hq⟩ := h
  exact ⟨L', σ', fr', st.trans s, S, F, hd, hag.trans hg, hq⟩
theorem Holds.more {A B : List Nat} {a0 : Act} {L : Nat → Loc} {σ : List AObj} {w : World} {Q : Frame → List AObj → Prop} {a : Act} {w' : World} (h : Holds A a0 L σ w Q a w') (hs : ∀ i ∈ A, i ∈ B) : Holds B a0 L σ w Q a w' := by
  obtain ⟨L', σ', fr', s, S, F, hd, hg, hq⟩ := h
  exact ⟨L', σ', fr', s, S, F, hd, hg.mono hs, hq⟩

theorem mapO {ops : Array Oper} {l : List Ai} (h : ops.toList.mapM (compO P ops) = some (l.map Ai.norm)) : l.length = ops.size ∧ ∀ (k : Nat) x, l[k]? = some x → ∃ o, ops[k]? = some o ∧ compO P ops o = some x.norm := by
  obtain ⟨h1, h2⟩ := mapM_some h
  have hl : l.length = ops.size := by simpa using h1
  refine ⟨hl, fun k x hk => ?_⟩
  have hlt := lt_of_get hk
  have ho : ops[k]? = some (ops[k]'(by omega)) := Array.getElem?_eq_getElem _
  exact ⟨_, ho, h2 k _ x.norm (by simpa using ho) (by simp [hk])⟩

theorem getS_kill : ∀ (dd : List Nat) (fr : Frame) (i : Nat), getS (kill fr dd) i = if i ∈ dd then .undef else getS fr i
  | [], fr, i => by simp [kill]
  | j :: dd, fr, i => by
    simp only [kill]
    rw [getS_kill dd _ i, getS_cons]
    by_cases h1 : i ∈ dd
    · simp [h1]
    · by_cases h2 : i = j <;> simp [h1, h2]
theorem keys_kill : ∀ (dd : List Nat) (fr : Frame) {n : Nat}, (∀ p ∈ fr, p.1 < n) → (∀ i ∈ dd, i < n) → ∀ p ∈ kill fr dd, p.1 < n
  | [], fr, n, h, _ => h
  | j :: dd, fr, n, h, hd => keys_kill dd _ (fun p hp => by
      rcases List.mem_cons.1 hp with rfl | hp
      · exact hd j (by simp)
      · exact h p hp) (fun i hi => hd i (by simp [hi]))
theorem keys_setS : ∀ (lv : List Nat) (fr : Frame) (vs : List AV) {n : Nat}, (∀ p ∈ fr, p.1 < n) → (∀ i ∈ lv, i < n) → ∀ p ∈ setS fr lv vs, p.1 < n
  | [], fr, _, n, h, _ => h
  | j :: lv, fr, vs, n, h, hd => keys_setS lv _ _ (fun p hp => by
      rcases List.mem_cons.1 hp with rfl | hp
      · exact hd j (by simp)
      · exact h p hp) (fun i hi => hd i (by simp [hi]))
theorem getS_setS (g : Nat → AV) : ∀ (lv : List Nat) (fr : Frame) (i : Nat), getS (setS fr lv (lv.map g)) i = if i ∈ lv then g i else getS fr i
  | [], fr, i => by simp [setS]
  | j :: lv, fr, i => by
    simp only [List.map_cons, setS, List.drop_succ_cons, List.drop_zero]
    rw [getS_setS g lv _ i, getS_cons]
    by_cases h1 : i ∈ lv
    · simp [h1]
    · by_cases h2 : i = j
      · subst h2; simp [h1, List.getD]
      · simp [h1, h2]

/-- a frame at a loop's head: what lives there is known, what is dead is not asked, all else is as it was -/
theorem FR.head {w : World} {L : Nat → Loc} {σ : List AObj} {fr fr' : Frame} {a a' : Act} {A lv dd : List Nat} (F : FR w L σ fr a.tmps) (F' : FR w L σ fr' a'.tmps) (hag : Agree A a a') (hA : ∀ i ∈ A, i ∈ lv ∨ i ∈ dd)
    (h1 : ∀ i ∈ lv, i < a.tmps.size) (h2 : ∀ i ∈ dd, i < a.tmps.size) : FR w L σ (setS (kill fr dd) lv (lv.map (getS fr'))) a'.tmps := by
  refine ⟨fun i v hv => ?_, by rw [hag.1]; exact keys_setS lv _ _ (keys_kill dd _ F.keys h2) h1⟩
  rw [getS_setS, getS_kill]
  split
  · exact F'.at_ i v hv
  · rename_i hi
    split
    · exact .undef v
    · rename_i hd
      have hA' : i ∉ A := fun h => (hA i h).elim hi hd
      rw [hag.2 i hA'] at hv
      exact F.at_ i v hv

theorem awp_sound (hP : P.follows .mixedOrders = true) : ∀ (c : Code) (ac : AC) (Q : Ex → Frame → List AObj → Prop) (fr : Frame) (σ : List AObj) (L : Nat → Loc) (w : World) (a : Act),
    comp P c = some ac.norm → ac.ok a.tmps.size = true → awp P ac Q fr σ → Sim L σ w → FR w L σ fr a.tmps → a.defers = [] → c.wp P (lift (asg ac) a L σ w Q) a w := by
  intro c
  induction c with
  | skip =>
    intro ac Q fr σ L w a hc hok h S F hd
    simp only [comp, Option.some.injEq] at hc
    cases ac <;> simp only [AC.norm] at hc <;> cases hc
    exact wp_skip ⟨L, σ, fr, Step.refl _ _ _, S, F, hd, Agree.refl _ _, h⟩
  | region id ops draw =>
    intro ac Q fr σ L w a hc hok h S F hd
    cases draw
    · simp only [comp, Option.bind_eq_bind, Option.bind_eq_some_iff, Option.pure_def, Option.some.injEq] at hc
      obtain ⟨l', hl', hc⟩ := hc
      cases ac <;> simp only [AC.norm] at hc <;> cases hc
      rename_i l
      obtain ⟨hl, hx⟩ := mapO hl'
      refine wp_region ?_
      rw [List.range_eq_range', ← hl]
      exact aops_sound l 0 fr σ L w a (Q .normal) (by omega) (fun k x hk => by rw [Nat.zero_add]; exact hx k x hk) S F hok h fun fr' L' σ' a' w' st S' F' hd' hag hK => ⟨L', σ', fr', st, S', F', hd'.trans hd, hag, hK⟩
    · simp only [comp, Option.bind_eq_bind, Option.bind_eq_some_iff, Option.pure_def, Option.some.injEq] at hc
      obtain ⟨l', hl', hc⟩ := hc
      cases ac <;> simp only [AC.norm] at hc <;> cases hc
      rename_i l lin cl
      obtain ⟨hl, hx⟩ := mapO hl'
      obtain ⟨S1, s1⟩ := S.drew (w.drawn + 1)
      refine wp_region_any hP ?_
      simp only [awp] at h
      split at h
      · rename_i hlin
        have h1 := adraw_keys (n := a.tmps.size) (fun x hxl d hd => dstOk_lt (List.all_eq_true.1 hok x hxl) d hd) lin fr σ F.keys h
        have h2 := linOk_any hlin (K := fun f s => ∃ f0, FEq f0 f ∧ keysLt a.tmps.size f0 ∧ Q .normal f0 s) (fun f f' s he hh => by
          obtain ⟨f0, e, hh⟩ := hh
          exact ⟨f0, fun i => (e i).trans (he i), hh⟩) (adraw_mono (fun f s hh => ⟨f, fun _ => rfl, hh⟩) lin fr σ h1)
        simp only [List.length_map, Array.length_toList] at h2
        exact aany_sound rfl hl hx ops.size _ _ fr σ L _ a _ (by simp) S1 (s1.fr F) hok h2 fun fr' L' σ' a' w' st S' F' hd' hag hK => by
          obtain ⟨f0, e, hk0, hq⟩ := hK
          exact ⟨L', σ', f0, s1.trans st, S', ⟨fun i v hv => (by rw [e i]; exact F'.at_ i v hv), (by rw [hag.1]; exact hk0)⟩, hd'.trans hd, hag, hq⟩
      · exact h.elim
  | seq x y ihx ihy =>
    intro ac Q fr σ L w a hc hok h S F hd
    simp only [comp, Option.bind_eq_bind, Option.bind_eq_some_iff, Option.pure_def, Option.some.injEq] at hc
    obtain ⟨x', hx, y', hy, hc⟩ := hc
    cases ac <;> simp only [AC.norm] at hc <;> cases hc
    rename_i ax ay
    simp only [AC.ok, Bool.and_eq_true] at hok
    refine wp_seq (wp_mono (ihx ax _ fr σ L w a hx hok.1 h S F hd) fun e a' w' he => ?_)
    cases e with
    | normal =>
      obtain ⟨L', σ', fr', st, S', F', hd', hag, hq⟩ := he
      refine wp_mono (ihy ay Q fr' σ' L' w' a' hy (by rw [hag.1]; exact hok.2) hq S' F' hd') fun e2 a2 w2 he2 => ?_
      cases e2 with
      | normal => exact Holds.widen st hag he2
      | exit id => exact Holds.widen st hag he2
      | ret => exact Holds.widen st hag he2
      | goto l => exact he2
      | panic ch => exact he2
      | outgrown => exact he2.elim
    | exit id => exact Holds.more he (fun i hi => List.mem_append_left _ hi)
    | ret => exact Holds.more he (fun i hi => List.mem_append_left _ hi)
    | goto l => exact he
    | panic ch => exact he
    | outgrown => exact he.elim
  | cond c x y ihx ihy =>
    intro ac Q fr σ L w a hc hok h S F hd
    simp only [comp, Option.bind_eq_bind, Option.bind_eq_some_iff, Option.pure_def, Option.some.injEq] at hc
    obtain ⟨c', hcc, x', hx, y', hy, hc⟩ := hc
    cases ac <;> simp only [AC.norm] at hc <;> cases hc
    rename_i ax ay
    simp only [AC.ok, Bool.and_eq_true] at hok
    simp only [awp, condC] at h
    have hv := ev_sound F hcc
    have wide : ∀ {B : List Nat}, (∀ i ∈ B, i ∈ asg ax ++ asg ay) → ∀ e a' w', lift B a L σ w Q e a' w' → lift (asg (.cond c' ax ay)) a L σ w Q e a' w' := fun {B} hs e a' w' he => by
      cases e with
      | normal => exact Holds.more he hs
      | exit id => exact Holds.more he hs
      | ret => exact Holds.more he hs
      | goto l => exact he
      | panic ch => exact he
      | outgrown => exact he.elim
    split at h
    · rename_i t ht
      rw [ht] at hv
      exact wp_cond_split hv.bool_inv (fun e => wp_mono (ihx ax Q fr σ L w a hx hok.1 (h.1 e) S F hd) (wide fun i hi => List.mem_append_left _ hi)) (fun e => wp_mono (ihy ay Q fr σ L w a hy hok.2 (h.2 e) S F hd) (wide fun i hi => List.mem_append_right _ hi))
    · exact h.elim
  | block id x ihx =>
    intro ac Q fr σ L w a hc hok h S F hd
    simp only [comp, Option.bind_eq_bind, Option.bind_eq_some_iff, Option.pure_def, Option.some.injEq] at hc
    obtain ⟨x', hx, hc⟩ := hc
    cases ac <;> simp only [AC.norm] at hc <;> cases hc
    rename_i ax
    refine wp_block (wp_mono (ihx ax _ fr σ L w a hx hok h S F hd) fun e a' w' he => ?_)
    cases e with
    | normal => exact he
    | exit id' =>
      obtain ⟨L', σ', fr', st, S', F', hd', hag, hq⟩ := he
      simp only [Exit.inBlock]
      dsimp only at hq
      split
      · rename_i hid; rw [if_pos hid] at hq; exact ⟨L', σ', fr', st, S', F', hd', hag, hq⟩
      · rename_i hid; rw [if_neg hid] at hq; exact ⟨L', σ', fr', st, S', F', hd', hag, hq⟩
    | ret => exact he
    | goto l => exact he
    | panic ch => exact he
    | outgrown => exact he.elim
  | loop x ihx =>
    intro ac Q fr σ L w a hc hok h S F hd
    simp only [comp, Option.bind_eq_bind, Option.bind_eq_some_iff, Option.pure_def, Option.some.injEq] at hc
    obtain ⟨x', hx, hc⟩ := hc
    cases ac <;> simp only [AC.norm] at hc <;> cases hc
    rename_i lv dd ax
    simp only [AC.ok, Bool.and_eq_true, List.all_eq_true, Bool.or_eq_true, List.contains_iff_mem, Nat.blt_eq] at hok
    obtain ⟨⟨⟨hok, hlv⟩, hdd⟩, hmem⟩ := hok
    obtain ⟨I, n₀, h0, hround⟩ := h
    refine wp_loop_ghost (fun n a' w' => ∃ L' σ' fr', Step L σ w L' σ' w' ∧ Sim L' σ' w' ∧ FR w' L' σ' fr' a'.tmps ∧ a'.defers = [] ∧ Agree (asg ax) a a' ∧ I n (lv.map (getS fr')) σ') n₀ ⟨L, σ, fr, Step.refl _ _ _, S, F, hd, Agree.refl _ _, h0⟩ ?_
    rintro n a' w' ⟨L', σ', fr', st, S', F', hd', hag, hI⟩
    have Fh := FR.head (st.fr F) F' hag hmem hlv hdd
    refine wp_mono (ihx ax _ _ σ' L' w' a' hx (by rw [hag.1]; exact hok) (hround n _ σ' hI) S' Fh hd') fun e a2 w2 he => ?_
    have wide : ∀ {Q' : Frame → List AObj → Prop}, Holds (asg ax) a' L' σ' w' Q' a2 w2 → Holds (asg ax) a L σ w Q' a2 w2 := fun hh => (Holds.widen st hag hh).more fun i hi => by
      rcases List.mem_append.1 hi with h | h <;> exact h
    cases e with
    | normal =>
      obtain ⟨L2, σ2, fr2, st2, S2, F2, hd2, hag2, n', hlt, hI2⟩ := he
      have hagA : Agree (asg ax) a a2 := (hag.trans hag2).mono fun i hi => by rcases List.mem_append.1 hi with h | h <;> exact h
      exact ⟨n', hlt, L2, σ2, fr2, st.trans st2, S2, F2, hd2, hagA, hI2⟩
    | exit id => exact wide he
    | ret => exact wide he
    | goto l => exact he
    | panic ch => exact he
    | outgrown => exact he.elim
  | exit id =>
    intro ac Q fr σ L w a hc hok h S F hd
    simp only [comp, Option.some.injEq] at hc
    cases ac <;> simp only [AC.norm] at hc <;> cases hc
    exact wp_exit ⟨L, σ, fr, Step.refl _ _ _, S, F, hd, Agree.refl _ _, h⟩
  | ret =>
    intro ac Q fr σ L w a hc hok h S F hd
    simp only [comp, Option.some.injEq] at hc
    cases ac <;> simp only [AC.norm] at hc <;> cases hc
    exact wp_ret ⟨L, σ, fr, Step.refl _ _ _, S, F, hd, Agree.refl _ _, h⟩
  | rangeFunc f ps as b => intro ac Q fr σ L w a hc; simp [comp] at hc
  | scope b => intro ac Q fr σ L w a hc; simp [comp] at hc
  | label l => intro ac Q fr σ L w a hc; simp [comp] at hc
  | goto l => intro ac Q fr σ L w a hc; simp [comp] at hc
  | refuse why => intro ac Q fr σ L w a hc; simp [comp] at hc

end
end Go.AW

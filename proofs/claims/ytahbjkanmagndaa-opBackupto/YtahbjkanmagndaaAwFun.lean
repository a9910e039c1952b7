/- A FUNCTION's CONTRACT from its resolved code: what it hands back, and what of its own objects stays. -/
import Derived.Test.YtahbjkanmagndaaAwRun
set_option linter.all false
set_option linter.unusedSimpArgs false
set_option linter.unusedVariables false
namespace Go.AW
section
variable {P : Program} {w : World} {L : Nat → Loc} {σ : List AObj}

/-- where a result lies -/
inductive RI where
  | tmp (t : Nat)
  | cell (t : Nat) (agg : Bool) (n : Nat)

def riOk (P : Program) (r : ResultVar) : Option RI :=
  match r with
  | .tmp t => some (.tmp t)
  | .cell t ty => do pure (.cell t (← aggB P ty) (← sizeOf? P ty))

/-- what a result's cells hold -/
def cellA (v : AV) (σ : List AObj) (g : Bool) (n : Nat) : Option AV :=
  match v with
  | .box id off =>
    match σ[id]? with
    | some (.box cs) => if g then (if off + n ≤ cs.length then some (.agg ((cs.drop off).take n)) else none) else cs[off]?
    | _ => none
  | _ => none
def consO (a : Option AV) (l : Option (List AV)) : Option (List AV) := match a, l with | some a, some l => some (a :: l) | _, _ => none
def resA (fr : Frame) (σ : List AObj) : RI → Option AV
  | .tmp t => some (getS fr t)
  | .cell t g n => cellA (getS fr t) σ g n
def resAs (fr : Frame) (σ : List AObj) : List RI → Option (List AV)
  | [] => some []
  | r :: rs => consO (resA fr σ r) (resAs fr σ rs)
def pack : List AV → AV
  | [a] => a
  | l => .tup l

theorem load_box (S : Sim L σ w) {id off : Nat} {cs : List AV} (hcs : σ[id]? = some (.box cs)) {t : TypeId} {g : Bool} {n : Nat} (hg : aggB P t = some g) (hn : sizeOf? P t = some n) {r : AV}
    (hr : (if g then (if off + n ≤ cs.length then some (.agg ((cs.drop off).take n)) else none) else cs[off]?) = some r) :
    ∃ v, (loadVar t ⟨(L id).a.block, (L id).a.off + off, none⟩).run P w = .ok v w ∧ RV w L σ r v := by
  obtain ⟨_, _, hcells⟩ := S.obj id _ hcs
  cases g
  · simp only [Bool.false_eq_true, if_false] at hr
    obtain ⟨_, v, h1, h2⟩ := hcells off r hr
    refine ⟨v, ?_, h2⟩
    have := run_var (w := w) hg hn (b := (L id).a.block) (off := (L id).a.off + off) (vs := [v]) (fun j u hj => by cases j <;> simp at hj; subst hj; exact h1) (by simp) (by simp)
    simpa using this
  · simp only [if_true] at hr
    split at hr
    · rename_i hle
      cases hr
      obtain ⟨vs, hl, hat⟩ : ∃ vs : List Value, vs.length = n ∧ ∀ (j : Nat) v, vs[j]? = some v → w.cell? ⟨(L id).a.block, (L id).a.off + off + j, none⟩ = some v ∧ ∀ c, cs[off + j]? = some c → RV w L σ c v := by
        refine ⟨(List.range n).map fun j => (w.cell? ⟨(L id).a.block, (L id).a.off + off + j, none⟩).getD undef, by simp, fun j v hj => ?_⟩
        have hjn : j < n := by have := lt_of_get hj; simpa using this
        simp [hjn] at hj
        have hc : cs[off + j]? = some (cs[off + j]'(by omega)) := List.getElem?_eq_getElem _
        obtain ⟨_, u, h1, h2⟩ := hcells (off + j) _ hc
        rw [← Nat.add_assoc] at h1
        rw [h1] at hj; simp at hj; subst hj
        exact ⟨h1, fun c hc' => by rw [hc] at hc'; cases hc'; exact h2⟩
      refine ⟨.agg vs.toArray, ?_, .agg _ _ (by simp; omega) fun j c v hc hv => ?_⟩
      · have := run_var (w := w) hg hn (b := (L id).a.block) (off := (L id).a.off + off) (vs := vs) (fun j u hj => (hat j u hj).1) (fun _ => hl) (by simp)
        simpa using this
      · rw [List.getElem?_take] at hc
        split at hc
        · rw [List.getElem?_drop] at hc; exact (hat j v hv).2 c hc
        · cases hc
    · cases hr

theorem resAs_sound (S : Sim L σ w) {fr : Frame} {ts : Array Value} (F : FR w L σ fr ts) : ∀ (rs : List ResultVar) (ris : List RI) (out : List AV), rs.mapM (riOk P) = some ris → resAs fr σ ris = some out →
    ∃ vs : List Value, (rs.mapM fun r => (match r with | .tmp t => pure (ts.getD t undef) | .cell a t => do loadVar t (← asAddr (ts.getD a undef)) : Sem Value)).run P w = .ok vs w ∧ RVs w L σ out vs
  | [], ris, out, h1, h2 => by
    simp at h1; subst h1
    simp [resAs] at h2; subst h2
    exact ⟨[], by simp, rfl, by simp⟩
  | r :: rs, ris, out, h1, h2 => by
    simp only [List.mapM_cons, Option.bind_eq_bind, Option.bind_eq_some_iff, Option.pure_def, Option.some.injEq] at h1
    obtain ⟨ri, hri, ris', hris, rfl⟩ := h1
    simp only [resAs, consO] at h2
    split at h2
    · rename_i x l hx hl
      cases h2
      obtain ⟨vs, hv, hr⟩ := resAs_sound S F rs ris' l hris hl
      have hat : ∀ (t : Nat), RV w L σ (getS fr t) (ts.getD t undef) := fun t => F.at' t
      have one : ∃ v, ((match r with | .tmp t => pure (ts.getD t undef) | .cell a t => do loadVar t (← asAddr (ts.getD a undef)) : Sem Value)).run P w = .ok v w ∧ RV w L σ x v := by
        cases r with
        | tmp t =>
          simp [riOk] at hri; subst hri
          simp only [resA, Option.some.injEq] at hx
          exact ⟨ts.getD t undef, rfl, hx ▸ hat t⟩
        | cell t ty =>
          simp only [riOk, Option.bind_eq_bind, Option.bind_eq_some_iff, Option.pure_def, Option.some.injEq] at hri
          obtain ⟨g, hg, n, hn, rfl⟩ := hri
          simp only [resA, cellA] at hx
          split at hx
          · rename_i id off hid
            split at hx
            · rename_i cs hcs
              have hat' := hat t
              rw [hid] at hat'
              obtain ⟨e1, _⟩ := hat'.box_inv
              obtain ⟨v, h3, h4⟩ := load_box S hcs hg hn hx
              exact ⟨v, by simp [e1, asAddr, h3], h4⟩
            · cases hx
          · cases hx
      obtain ⟨v, h3, h4⟩ := one
      refine ⟨v :: vs, by simp only [List.mapM_cons, Sem.run_bind, h3, Result.andThen_ok, hv, Sem.run_pure], by simp [hr.1], fun i c u hc hu => ?_⟩
      cases i with
      | zero => simp at hc hu; subst hc hu; exact h4
      | succ i => simp at hc hu; exact hr.2 i c u hc hu
    · cases h2

theorem results_sound (S : Sim L σ w) {fn : Func} {fr : Frame} {ts : Array Value} (F : FR w L σ fr ts) {ris : List RI} {out : List AV} (h1 : fn.results.toList.mapM (riOk P) = some ris) (h2 : resAs fr σ ris = some out) :
    ∃ v, (results fn ts).run P w = .ok v w ∧ RV w L σ (pack out) v := by
  obtain ⟨vs, hv, hr⟩ := resAs_sound S F _ _ _ h1 h2
  have hm : (fn.results.mapM fun r => (match r with | .tmp t => pure (ts.getD t undef) | .cell a t => do loadVar t (← asAddr (ts.getD a undef)) : Sem Value)).run P w = .ok vs.toArray w := by
    rw [Array.mapM_eq_mapM_toList, Sem.run_map, hv]; rfl
  have hlen := hr.1
  have hres : (results fn ts).run P w = .ok (if h : vs.toArray.size = 1 then vs.toArray[0] else .tuple vs.toArray) w := by
    unfold results
    rw [Sem.run_bind]
    have e : (fn.results.mapM fun r => (match r with | .tmp t => pure (ts.getD t undef) | .cell a t => do loadVar t (← asAddr (ts.getD a undef)) : Sem Value)) = (fn.results.mapM fun
      | .tmp t => pure (ts.getD t undef)
      | .cell a t => do loadVar t (← asAddr (ts.getD a undef))) := rfl
    refine (congrArg (fun x => Result.andThen x _) hm).trans ?_
    rfl
  cases out with
  | nil =>
    have : vs = [] := by simpa using hlen
    subst this
    exact ⟨.tuple #[], hres, .tup [] [] rfl (by simp)⟩
  | cons a out =>
    cases out with
    | nil =>
      cases vs with
      | nil => simp at hlen
      | cons v vs =>
        have : vs = [] := by simpa using hlen
        subst this
        exact ⟨v, hres, hr.2 0 a v rfl rfl⟩
    | cons b out =>
      refine ⟨.tuple vs.toArray, ?_, .tup _ _ hr.1 hr.2⟩
      rw [hres, dif_neg (by simp at hlen ⊢; omega)]

/-! what of the call's own stays -/
/-- names objects below n alone -/
inductive Low (n : Nat) : AV → Prop
  | d (x) : Low n (.d x)
  | agg (cs) : (∀ c ∈ cs, Low n c) → Low n (.agg cs)
  | tup (cs) : (∀ c ∈ cs, Low n c) → Low n (.tup cs)
  | own (t es) : t < n → Low n (.own t es)
  | exact (es) : Low n (.exact es)
  | bsl (id off len cap sz) : id < n → Low n (.bsl id off len cap sz)
  | box (id off) : id < n → Low n (.box id off)
  | vp (cs) : Low n (.vp cs)
  | map (id) : id < n → Low n (.map id)
  | iter (id) : id < n → Low n (.iter id)
  | fn (f first cap) : (∀ c ∈ first, Low n c) → (∀ c ∈ cap, Low n c) → Low n (.fn f first cap)
  | undef : Low n .undef

def LowO (n : Nat) : AObj → Prop
  | .box cs => ∀ c ∈ cs, Low n c
  | .map es => ∀ e ∈ es, Low n e.1 ∧ Low n e.2
  | _ => True
def Lows (n : Nat) (σ : List AObj) : Prop := ∀ (id : Nat) x, σ[id]? = some x → LowO n x

theorem RV.low {x : AV} {v : Value} (h : RV w L σ x v) : Low σ.length x := by
  have lt : ∀ {id}, Fixed σ id → id < σ.length := fun ⟨_, h, _⟩ => lt_of_get h
  have all : ∀ {cs : List AV} {vs : List Value}, vs.length = cs.length → (∀ (i : Nat) c v, cs[i]? = some c → vs[i]? = some v → Low σ.length c) → ∀ c ∈ cs, Low σ.length c := fun {cs vs} hl h c hc => by
    obtain ⟨i, hi⟩ := List.mem_iff_getElem?.1 hc
    have hlt := lt_of_get hi
    exact h i c (vs[i]'(by omega)) hi (List.getElem?_eq_getElem _)
  induction h with
  | d => exact .d _
  | agg cs vs hl _ ih => exact .agg _ (all hl ih)
  | tup cs vs hl _ ih => exact .tup _ (all hl ih)
  | own t es v sz n h => exact .own _ _ (lt_of_get h)
  | exact => exact .exact _
  | bsl _ _ _ _ _ h => exact .bsl _ _ _ _ _ (lt h)
  | box _ _ h => exact .box _ _ (lt h)
  | vp => exact .vp _
  | map _ h => exact .map _ (lt h)
  | iter _ h => exact .iter _ (lt h)
  | fn f first cap fs cs h1 h2 _ _ ih1 ih2 => exact .fn _ _ _ (all h1 ih1) (all h2 ih2)
  | undef => exact .undef

theorem Sim.lows (S : Sim L σ w) : Lows σ.length σ := by
  intro id x hx
  cases x with
  | box cs =>
    intro c hc
    obtain ⟨j, hj⟩ := List.mem_iff_getElem?.1 hc
    obtain ⟨_, v, _, h⟩ := (S.obj id _ hx).2.2 j c hj
    exact h.low
  | map es =>
    intro e he
    obtain ⟨j, hj⟩ := List.mem_iff_getElem?.1 he
    obtain ⟨ms, clock, _, h2, h3⟩ := S.obj id _ hx
    have hlt := lt_of_get hj
    have := h3 j e (ms[j]'(by omega)) hj (by simp [h2, hlt])
    exact ⟨this.1.low, this.2.low⟩
  | _ => trivial

theorem Lows.set {n : Nat} (h : Lows n σ) {id : Nat} {x : AObj} (hx : LowO n x) : Lows n (σ.set id x) := by
  intro i y hy
  rcases get_set_cases hy with ⟨rfl, rfl⟩ | ⟨_, hy⟩
  · exact hx
  · exact h i y hy

theorem rd_shrink {O O' : Nat → Nat → Prop} (ho : ∀ b o, O' b o → O b o) {x : D} {v : Value} (h : RD w O x v) : RD w O' x v := h.mono (fun _ _ _ _ => rfl) (fun b o _ => ho b o)

theorem own_take {n : Nat} {b o : Nat} (h : Own L (σ.take n) b o) : Own L σ b o := by
  obtain ⟨id, x, hx, hf⟩ := h
  rw [List.getElem?_take] at hx
  split at hx
  · exact ⟨id, x, hx, hf⟩
  · cases hx

theorem RV.take {n : Nat} {x : AV} {v : Value} (h : RV w L σ x v) (hl : Low n x) : RV w L (σ.take n) x v := by
  have fx : ∀ {id}, Fixed σ id → id < n → Fixed (σ.take n) id := fun {id} ⟨y, h, k⟩ hlt => ⟨y, by rw [List.getElem?_take, if_pos hlt]; exact h, k⟩
  have rd : ∀ {x : D} {v : Value}, RD w (Own L σ) x v → RD w (Own L (σ.take n)) x v := fun h => rd_shrink (fun _ _ => own_take) h
  induction h with
  | d _ _ h => exact .d _ _ (rd h)
  | agg cs vs h1 h2 ih => cases hl with | agg _ hl => exact .agg _ _ h1 fun i c v hc hv => ih i c v hc hv (hl c (List.mem_of_getElem? hc))
  | tup cs vs h1 h2 ih => cases hl with | tup _ hl => exact .tup _ _ h1 fun i c v hc hv => ih i c v hc hv (hl c (List.mem_of_getElem? hc))
  | own t es v sz k h1 h2 h3 h4 h5 => cases hl with | own _ _ hl => exact .own t es v sz k (by rw [List.getElem?_take, if_pos hl]; exact h1) h2 h3 (rd h4) h5
  | exact es a h => exact .exact _ _ (rd h)
  | bsl id off len cap sz h1 h2 => cases hl with | bsl _ _ _ _ _ hl => exact .bsl _ _ _ _ _ (fx h1 hl) h2
  | box id off h1 => cases hl with | box _ _ hl => exact .box _ _ (fx h1 hl)
  | vp cs b off h =>
    refine .vp _ _ _ fun j d hj => ?_
    obtain ⟨v, h1, h2, h3⟩ := h j d hj
    exact ⟨v, h1, fun h => h2 (own_take h), rd h3⟩
  | map id h1 => cases hl with | map _ hl => exact .map _ (fx h1 hl)
  | iter id h1 => cases hl with | iter _ hl => exact .iter _ (fx h1 hl)
  | fn f first cap fs cs h1 h2 _ _ ih1 ih2 =>
    cases hl with | fn _ _ _ hl1 hl2 => exact .fn _ _ _ _ _ h1 h2 (fun i c v hc hv => ih1 i c v hc hv (hl1 c (List.mem_of_getElem? hc))) (fun i c v hc hv => ih2 i c v hc hv (hl2 c (List.mem_of_getElem? hc)))
  | undef v => exact .undef v

theorem Sim.take (S : Sim L σ w) {n : Nat} (hl : Lows n (σ.take n)) : Sim L (σ.take n) w := by
  have get : ∀ {id x}, (σ.take n)[id]? = some x → σ[id]? = some x := fun {id x} h => by
    rw [List.getElem?_take] at h
    split at h
    · exact h
    · cases h
  refine ⟨fun id x hx => ?_, fun i j x y b o hij hx hy => S.apart i j x y b o hij (get hx) (get hy)⟩
  have ho := S.obj id x (get hx)
  cases x with
  | box cs =>
    obtain ⟨h1, h2, h3⟩ := ho
    refine ⟨h1, h2, fun j c hj => ?_⟩
    obtain ⟨h4, v, h5, h6⟩ := h3 j c hj
    exact ⟨h4, v, h5, h6.take (hl id _ hx c (List.mem_of_getElem? hj))⟩
  | tok sz k => exact ho
  | iter s pos => exact ho
  | map es =>
    obtain ⟨ms, clock, h1, h2, h3⟩ := ho
    refine ⟨ms, clock, h1, h2, fun i e m he hm => ?_⟩
    have g := h3 i e m he hm
    have l := hl id _ hx e (List.mem_of_getElem? he)
    exact ⟨g.1.take l.1, g.2.take l.2⟩
  | dead => trivial

theorem Step.take {L' : Nat → Loc} {σ' : List AObj} {w' : World} (s : Step L σ w L' σ' w') : Step L σ w L' (σ'.take σ.length) w' := by
  refine ⟨s.os, s.tape, s.output, s.size, s.blk, s.cell, fun b o hb h => s.own b o hb (own_take h), by have := s.len; simp; omega, fun id x hx => ?_⟩
  obtain ⟨x', h1, h2, h3, h4⟩ := s.turns id x hx
  exact ⟨x', by rw [List.getElem?_take, if_pos (lt_of_get hx)]; exact h1, h2, h3, h4⟩

/-- what is handed back, with no row's end -/
def dmT : AV → AV
  | .tup vs => .tup (vs.map dm)
  | a => dm a
theorem dmT_sound {x : AV} {v : Value} (h : RV w L σ x v) : RV w L σ (dmT x) v := by
  cases x with
  | tup cs =>
    obtain ⟨vs, rfl, h1, h2⟩ := h.tup_inv
    refine .tup _ _ (by simpa using h1) fun i c v hc hv => ?_
    simp only [List.getElem?_map, Option.map_eq_some_iff] at hc
    obtain ⟨c', hc', rfl⟩ := hc
    exact dm_sound (h2 i c' v hc' hv)
  | _ => exact dm_sound h

/-- THE END OF A CALL: all that it made is let go; what it hands back names none of it. -/
def Ends (n : Nat) (K : AV → List AObj → Prop) (out : Option (List AV)) (σ' : List AObj) : Prop :=
  match out with
  | some l => Low n (dmT (pack l)) ∧ Lows n (σ'.take n) ∧ K (dmT (pack l)) (σ'.take n)
  | none => False

/-- a function's resolved form -/
structure AF where
  nargs : Nat
  ntmps : Nat
  res : List RI
  body : AC

/-- the resolved form is the function's -/
def isF (P : Program) (f : FuncId) (F : AF) : Prop :=
  ∃ fn c, P.funcs[f]? = some fn ∧ fn.name ≠ "runtime.NumGoroutine" ∧ fn.body = some c ∧ comp P c = some F.body.norm ∧ F.body.ok F.ntmps = true ∧ F.nargs ≤ F.ntmps ∧ fn.results.toList.mapM (riOk P) = some F.res ∧ fn.ntmps = F.ntmps ∧ P.follows .mixedOrders = true

def slots0 : Nat → List AV → Frame
  | _, [] => []
  | i, a :: l => (i, a) :: slots0 (i + 1) l

/-- the body's end, whichever way it comes -/
def AtEnd (Z : Frame → List AObj → Prop) : Ex → Frame → List AObj → Prop
  | .normal, fr, σ => Z fr σ
  | .ret, fr, σ => Z fr σ
  | .exit _, _, _ => False

/-- whatever is shown at the end of the body of what the call leaves -/
theorem acall_gen {f : FuncId} {F : AF} (hF : isF P f F) {as : List AV} (has : as.length = F.nargs) {K : AV → List AObj → Prop} (Z : Frame → List AObj → Prop)
    (hZ : ∀ {L : Nat → Loc} {w : World} {L' : Nat → Loc} {σ' : List AObj} {w' : World} {fr' : Frame} {ts : Array Value}, Sim L σ w → Step L σ w L' σ' w' → Sim L' σ' w' → FR w' L' σ' fr' ts → Z fr' σ' →
      ∃ L2 σ2 out r, resAs fr' σ' F.res = some out ∧ Step L σ w L2 σ2 w' ∧ Sim L2 σ2 w' ∧ (∀ v, RV w' L' σ' (pack out) v → RV w' L2 σ2 r v) ∧ K r σ2)
    (h : Lows σ.length σ → (∀ a ∈ as, Low σ.length a) → awp P F.body (AtEnd Z) (slots0 0 as) σ) : ACall P f as σ K := by
  obtain ⟨fn, c, h1, h2, h3, h4, hok, hna, h5, h6, hP⟩ := hF
  refine ⟨by simp [callOk, h1, h2, h3], fun L w vs S hv => ?_⟩
  refine calls_of_wp h1 h3 ?_
  have hlow : ∀ a ∈ as, Low σ.length a := fun a ha => by
    obtain ⟨i, hi⟩ := List.mem_iff_getElem?.1 ha
    have hlt := lt_of_get hi
    exact (hv.2 i a (vs[i]'(by rw [hv.1]; exact hlt)) hi (List.getElem?_eq_getElem _)).low
  have hsz : (vs.toArray ++ Array.replicate (fn.ntmps - vs.toArray.size) undef).size = F.ntmps := by simp [hv.1, h6, has]; omega
  have key : ∀ (as : List AV) (i j : Nat), getS (slots0 i as) j = if i ≤ j then (as[j - i]?).getD .undef else .undef := by
    intro as
    induction as with
    | nil => intro i j; simp [slots0, getS]
    | cons a as ih =>
      intro i j
      simp only [slots0]
      rw [getS_cons, ih]
      by_cases h1 : j = i
      · subst h1; simp
      · by_cases h2 : i ≤ j
        · rw [if_neg h1, if_pos (by omega), if_pos h2, show j - i = (j - (i + 1)) + 1 by omega]; simp
        · rw [if_neg h1, if_neg (by omega), if_neg h2]
  have keys : ∀ (as : List AV) (i : Nat), ∀ p ∈ slots0 i as, p.1 < i + as.length := by
    intro as
    induction as with
    | nil => intro i p hp; cases hp
    | cons a as ih =>
      intro i p hp
      simp only [slots0] at hp
      rcases List.mem_cons.1 hp with rfl | hp
      · simp
      · have := ih (i + 1) p hp; simp; omega
  have F0 : FR w L σ (slots0 0 as) (vs.toArray ++ Array.replicate (fn.ntmps - vs.toArray.size) undef) := by
    refine ⟨fun i v hv' => ?_, fun p hp => by rw [hsz]; have := keys as 0 p hp; omega⟩
    rw [key, if_pos (Nat.zero_le _), Nat.sub_zero]
    rcases Nat.lt_or_ge i as.length with hl | hl
    · rw [Array.getElem?_append_left (by simp [hv.1, hl])] at hv'
      have ha : as[i]? = some as[i] := List.getElem?_eq_getElem _
      rw [ha]
      exact hv.2 i _ v ha (by simpa using hv')
    · rw [List.getElem?_eq_none hl]; exact .undef v
  refine wp_mono (awp_sound hP c F.body _ _ σ L w { tmps := vs.toArray ++ Array.replicate (fn.ntmps - vs.toArray.size) undef, defers := [] } h4 (by show F.body.ok (vs.toArray ++ Array.replicate (fn.ntmps - vs.toArray.size) undef).size = true; rw [hsz]; exact hok) (h S.lows hlow) S F0 rfl) fun e a' w' he => ?_
  have fin : ∀ L' σ' fr', Step L σ w L' σ' w' → Sim L' σ' w' → FR w' L' σ' fr' a'.tmps → a'.defers = [] → Z fr' σ' → a'.defers = [] ∧ ∃ v, (results fn a'.tmps).run P w' = .ok v w' ∧ CR L σ w K (.returned v) w' := fun L' σ' fr' st S' F' hd hz => by
    obtain ⟨L2, σ2, out, r, g1, g2, g3, g4, g5⟩ := hZ S st S' F' hz
    obtain ⟨v, hrun, hr⟩ := results_sound S' F' h5 g1
    exact ⟨hd, v, hrun, L2, σ2, r, g2, g3, g4 v hr, g5⟩
  cases e with
  | normal => obtain ⟨L', σ', fr', st, S', F', hd, _, hz⟩ := he; exact fin L' σ' fr' st S' F' hd hz
  | ret => obtain ⟨L', σ', fr', st, S', F', hd, _, hz⟩ := he; exact fin L' σ' fr' st S' F' hd hz
  | exit id => obtain ⟨L', σ', fr', st, S', F', hd, _, hz⟩ := he; exact hz.elim
  | goto l => exact he.elim
  | panic ch => exact he.elim
  | outgrown => exact he.elim

/-- the plain end -/
theorem acall_of {f : FuncId} {F : AF} (hF : isF P f F) {as : List AV} (has : as.length = F.nargs) {K : AV → List AObj → Prop}
    (h : Lows σ.length σ → (∀ a ∈ as, Low σ.length a) → awp P F.body (AtEnd fun fr' σ' => Ends σ.length K (resAs fr' σ' F.res) σ') (slots0 0 as) σ) : ACall P f as σ K :=
  acall_gen hF has _ (fun {L w L' σ' w' fr' ts} S st S' F' hz => by
    unfold Ends at hz
    split at hz
    · rename_i l hl
      obtain ⟨z1, z2, z3⟩ := hz
      exact ⟨L', _, l, dmT (pack l), hl, st.take, S'.take z2, fun v hr => (dmT_sound hr).take z1, z3⟩
    · exact hz.elim) h

theorem ACall.mono {f : FuncId} {as : List AV} {K K' : AV → List AObj → Prop} (h : ACall P f as σ K) (hk : ∀ r σ', K r σ' → K' r σ') : ACall P f as σ K' :=
  ⟨h.1, fun L w vs S hv => (h.2 L w vs S hv).mono fun e w' he => by
    cases e with
    | returned v => obtain ⟨L', σ', r, s, S', hr, hK⟩ := he; exact ⟨L', σ', r, s, S', hr, hk r σ' hK⟩
    | panicked ch => exact he
    | outgrown => exact he⟩

end
end Go.AW

/- A FUNCTION's CONTRACT from its resolved code: what it hands back, and what of its own objects stays. -/
import Derived.Test.YtnfienilahfdjaaAwDraw
import Derived.ReadAgain
import Derived.Below
import Derived.JoinedCond
import Derived.ProofKit
import Derived.OpenShut
set_option linter.all false
set_option linter.unusedSimpArgs false
set_option linter.unusedVariables false
namespace Go.AW
section
variable {P : Program} {w : World} {L : Nat → Loc} {σ : List AObj}

inductive RI where
  | tmp (t : Nat)
  | cell (t : Nat) (agg : Bool) (n : Nat)

def riOk (P : Program) (r : ResultVar) : Option RI :=
  match r with
  | .tmp t => some (.tmp t)
  | .cell t ty => do pure (.cell t (← aggB P ty) (← sizeOf? P ty))

def cellA (v : AV) (σ : List AObj) (g : Bool) (n : Nat) : Option AV :=
  match v with
  | .box id off =>
    match σ[id]? with
    | some (.box cs) => if g then (if off + n ≤ cs.length then some (.agg ((cs.drop off).take n)) else none) else cs[off]?
    | _ => none
  | _ => none
def consO (a : Option AV) (l : Option (List AV)) : Option (List AV) := match a, l with | some a, some l => some (a :: l) | _, _ => none
def resA (fr : Frame) (σ : List AObj) : RI → Option AV
  | .tmp t => some (getS fr t)
  | .cell t g n => cellA (getS fr t) σ g n
def resAs (fr : Frame) (σ : List AObj) : List RI → Option (List AV)
  | [] => some []
  | r :: rs => consO (resA fr σ r) (resAs fr σ rs)
def pack : List AV → AV
  | [a] => a
  | l => .tup l

theorem load_box (S : Sim L σ w) {id off : Nat} {cs : List AV} (hcs : σ[id]? = some (.box cs)) {t : TypeId} {g : Bool} {n : Nat} (hg : aggB P t = some g) (hn : sizeOf? P t = some n) {r : AV}
    (hr : (if g then (if off + n ≤ cs.length then some (.agg ((cs.drop off).take n)) else none) else cs[off]?) = some r) :
    ∃ v, (loadVar t ⟨(L id).a.block, (L id).a.off + off, none⟩).run P w = .ok v w ∧ RV w L σ r v := by
  obtain ⟨_, _, hcells⟩ := S.obj id _ hcs
  cases g
  · simp only [Bool.false_eq_true, if_false] at hr
    obtain ⟨_, v, h1, h2⟩ := hcells off r hr
    refine ⟨v, ?_, h2⟩
    have := run_var (w := w) hg hn (b := (L id).a.block) (off := (L id).a.off + off) (vs := [v]) (fun j u hj => by cases j <;> simp at hj; subst hj; exact h1) (by simp) (by simp)
    simpa using this
  · simp only [if_true] at hr
    split at hr
    · rename_i hle
      cases hr
      obtain ⟨vs, hl, hat⟩ : ∃ vs : List Value, vs.length = n ∧ ∀ (j : Nat) v, vs[j]? = some v → w.cell? ⟨(L id).a.block, (L id).a.off + off + j, none⟩ = some v ∧ ∀ c, cs[off + j]? = some c → RV w L σ c v := by
        refine ⟨(List.range n).map fun j => (w.cell? ⟨(L id).a.block, (L id).a.off + off + j, none⟩).getD undef, by simp, fun j v hj => ?_⟩
        have hjn : j < n := by have := lt_of_get hj; simpa using this
        simp [hjn] at hj
        have hc : cs[off + j]? = some (cs[off + j]'(by omega)) := List.getElem?_eq_getElem _
        obtain ⟨_, u, h1, h2⟩ := hcells (off + j) _ hc
        rw [← Nat.add_assoc] at h1
        rw [h1] at hj; simp at hj; subst hj
        exact ⟨h1, fun c hc' => by rw [hc] at hc'; cases hc'; exact h2⟩
      refine ⟨.agg vs.toArray, ?_, .agg _ _ (by simp; omega) fun j c v hc hv => ?_⟩
      · have := run_var (w := w) hg hn (b := (L id).a.block) (off := (L id).a.off + off) (vs := vs) (fun j u hj => (hat j u hj).1) (fun _ => hl) (by simp)
        simpa using this
      · rw [List.getElem?_take] at hc
        split at hc
        · rw [List.getElem?_drop] at hc; exact (hat j v hv).2 c hc
        · cases hc
    · cases hr

theorem resAs_sound (S : Sim L σ w) {fr : Frame} {ts : Array Value} (F : FR w L σ fr ts) : ∀ (rs : List ResultVar) (ris : List RI) (out : List AV), rs.mapM (riOk P) = some ris → resAs fr σ ris = some out →
    ∃ vs : List Value, (rs.mapM fun r => (match r with | .tmp t => pure (ts.getD t undef) | .cell a t => do loadVar t (← asAddr (ts.getD a undef)) : Sem Value)).run P w = .ok vs w ∧ RVs w L σ out vs
  | [], ris, out, h1, h2 => by
    simp at h1; subst h1
    simp [resAs] at h2; subst h2
    exact ⟨[], by simp, rfl, by simp⟩
  | r :: rs, ris, out, h1, h2 => by
    simp only [List.mapM_cons, Option.bind_eq_bind, Option.bind_eq_some_iff, Option.pure_def, Option.some.injEq] at h1
    obtain ⟨ri, hri, ris', hris, rfl⟩ := h1
    simp only [resAs, consO] at h2
    split at h2
    · rename_i x l hx hl
      cases h2
      obtain ⟨vs, hv, hr⟩ := resAs_sound S F rs ris' l hris hl
      have hat : ∀ (t : Nat), RV w L σ (getS fr t) (ts.getD t undef) := fun t => F.at' t
      have one : ∃ v, ((match r with | .tmp t => pure (ts.getD t undef) | .cell a t => do loadVar t (← asAddr (ts.getD a undef)) : Sem Value)).run P w = .ok v w ∧ RV w L σ x v := by
        cases r with
        | tmp t =>
          simp [riOk] at hri; subst hri
          simp only [resA, Option.some.injEq] at hx
          exact ⟨ts.getD t undef, rfl, hx ▸ hat t⟩
        | cell t ty =>
          simp only [riOk, Option.bind_eq_bind, Option.bind_eq_some_iff, Option.pure_def, Option.some.injEq] at hri
          obtain ⟨g, hg, n, hn, rfl⟩ := hri
          simp only [resA, cellA] at hx
          split at hx
          · rename_i id off hid
            split at hx
            · rename_i cs hcs
              have hat' := hat t
              rw [hid] at hat'
              obtain ⟨e1, _⟩ := hat'.box_inv
              obtain ⟨v, h3, h4⟩ := load_box S hcs hg hn hx
              exact ⟨v, by simp [e1, asAddr, h3], h4⟩
            · cases hx
          · cases hx
      obtain ⟨v, h3, h4⟩ := one
      refine ⟨v :: vs, by simp only [List.mapM_cons, Sem.run_bind, h3, Result.andThen_ok, hv, Sem.run_pure], by simp [hr.1], fun i c u hc hu => ?_⟩
      cases i with
      | zero => simp at hc hu; subst hc hu; exact h4
      | succ i => simp at hc hu; exact hr.2 i c u hc hu
    · cases h2

theorem results_sound (S : Sim L σ w) {fn : Func} {fr : Frame} {ts : Array Value} (F : FR w L σ fr ts) {ris : List RI} {out : List AV} (h1 : fn.results.toList.mapM (riOk P) = some ris) (h2 : resAs fr σ ris = some out) :
    ∃ v, (results fn ts).run P w = .ok v w ∧ RV w L σ (pack out) v := by
  obtain ⟨vs, hv, hr⟩ := resAs_sound S F _ _ _ h1 h2
  have hm : (fn.results.mapM fun r => (match r with | .tmp t => pure (ts.getD t undef) | .cell a t => do loadVar t (← asAddr (ts.getD a undef)) : Sem Value)).run P w = .ok vs.toArray w := by
    rw [Array.mapM_eq_mapM_toList, Sem.run_map, hv]; rfl
  have hlen := hr.1
  have hres : (results fn ts).run P w = .ok (if h : vs.toArray.size = 1 then vs.toArray[0] else .tuple vs.toArray) w := by
    unfold results
    rw [Sem.run_bind]
    have e : (fn.results.mapM fun r => (match r with | .tmp t => pure (ts.getD t undef) | .cell a t => do loadVar t (← asAddr (ts.getD a undef)) : Sem Value)) = (fn.results.mapM fun
      | .tmp t => pure (ts.getD t undef)
      | .cell a t => do loadVar t (← asAddr (ts.getD a undef))) := rfl
    refine (congrArg (fun x => Result.andThen x _) hm).trans ?_
    rfl
  cases out with
  | nil =>
    have : vs = [] := by simpa using hlen
    subst this
    exact ⟨.tuple #[], hres, .tup [] [] rfl (by simp)⟩
  | cons a out =>
    cases out with
    | nil =>
      cases vs with
      | nil => simp at hlen
      | cons v vs =>
        have : vs = [] := by simpa using hlen
        subst this
        exact ⟨v, hres, hr.2 0 a v rfl rfl⟩
    | cons b out =>
      refine ⟨.tuple vs.toArray, ?_, .tup _ _ hr.1 hr.2⟩
      rw [hres, dif_neg (by simp at hlen ⊢; omega)]

/-! what of the call's own stays -/
inductive Low (n : Nat) : AV → Prop
  | d (x) : Low n (.d x)
  | agg (cs) : (∀ c ∈ cs, Low n c) → Low n (.agg cs)
  | tup (cs) : (∀ c ∈ cs, Low n c) → Low n (.tup cs)
  | own (t es) : t < n → Low n (.own t es)
  | exact (es) : Low n (.exact es)
  | bsl (id off len cap sz) : id < n → Low n (.bsl id off len cap sz)
  | box (id off) : id < n → Low n (.box id off)
  | vp (cs) : Low n (.vp cs)
  | map (id) : id < n → Low n (.map id)
  | iter (id) : id < n → Low n (.iter id)
  | fn (f first cap) : (∀ c ∈ first, Low n c) → (∀ c ∈ cap, Low n c) → Low n (.fn f first cap)
  | rsl (t g sz lo hi) : t < n → Low n (.rsl t g sz lo hi)
  | rpt (t g off) : t < n → Low n (.rpt t g off)
  | undef : Low n .undef

def LowO (n : Nat) : AObj → Prop
  | .box cs => ∀ c ∈ cs, Low n c
  | .map es => ∀ e ∈ es, Low n e.1 ∧ Low n e.2
  | .mapr _ _ es => ∀ e ∈ es, Low n e.1 ∧ Low n e.2
  | .mit (some m) _ _ => m < n
  | .lrec _ _ vs => ∀ c ∈ vs, Low n c
  | .row _ _ cs => ∀ c ∈ cs, Low n c
  | _ => True
def Lows (n : Nat) (σ : List AObj) : Prop := ∀ (id : Nat) x, σ[id]? = some x → LowO n x

theorem RV.low {x : AV} {v : Value} (h : RV w L σ x v) : Low σ.length x := by
  have lt : ∀ {id}, Fixed σ id → id < σ.length := fun ⟨_, h, _⟩ => lt_of_get h
  have all : ∀ {cs : List AV} {vs : List Value}, vs.length = cs.length → (∀ (i : Nat) c v, cs[i]? = some c → vs[i]? = some v → Low σ.length c) → ∀ c ∈ cs, Low σ.length c := fun {cs vs} hl h c hc => by
    obtain ⟨i, hi⟩ := List.mem_iff_getElem?.1 hc
    have hlt := lt_of_get hi
    exact h i c (vs[i]'(by omega)) hi (List.getElem?_eq_getElem _)
  induction h with
  | d => exact .d _
  | agg cs vs hl _ ih => exact .agg _ (all hl ih)
  | tup cs vs hl _ ih => exact .tup _ (all hl ih)
  | own t es v sz n h => exact .own _ _ (lt_of_get h)
  | exact => exact .exact _
  | bsl _ _ _ _ _ h => exact .bsl _ _ _ _ _ (lt h)
  | box _ _ h => exact .box _ _ (lt h)
  | vp => exact .vp _
  | map _ h => exact .map _ (lt h)
  | iter _ h => exact .iter _ (lt h)
  | fn f first cap fs cs h1 h2 _ _ ih1 ih2 => exact .fn _ _ _ (all h1 ih1) (all h2 ih2)
  | rsl t g sz lo hi a c h => obtain ⟨_, h, _⟩ := h; exact .rsl _ _ _ _ _ (lt_of_get h)
  | rpt t g off b o h => obtain ⟨_, h, _⟩ := h; exact .rpt _ _ _ (lt_of_get h)
  | undef => exact .undef

theorem Sim.lows (S : Sim L σ w) : Lows σ.length σ := by
  intro id x hx
  cases x with
  | box cs =>
    intro c hc
    obtain ⟨j, hj⟩ := List.mem_iff_getElem?.1 hc
    obtain ⟨_, v, _, h⟩ := (S.obj id _ hx).2.2 j c hj
    exact h.low
  | map es =>
    intro e he
    obtain ⟨j, hj⟩ := List.mem_iff_getElem?.1 he
    obtain ⟨ms, clock, _, h2, h3, _⟩ := S.obj id _ hx
    have hlt := lt_of_get hj
    have := h3 j e (ms[j]'(by omega)) hj (by simp [h2, hlt])
    exact ⟨this.1.low, this.2.low⟩
  | mapr c bs es =>
    intro e he
    obtain ⟨j, hj⟩ := List.mem_iff_getElem?.1 he
    obtain ⟨ms, _, h2, h3, _⟩ := S.obj id _ hx
    have hlt := lt_of_get hj
    have := h3 j e (ms[j]'(by omega)) hj (by simp [h2, hlt])
    exact ⟨this.1.low, this.2.low⟩
  | mit m c seen =>
    cases m with
    | none => trivial
    | some m =>
      obtain ⟨y, hy, _⟩ := (S.obj id _ hx).1
      exact lt_of_get hy
  | lrec b r vs =>
    intro c hc
    obtain ⟨j, hj⟩ := List.mem_iff_getElem?.1 hc
    obtain ⟨_, _, h3, h4⟩ := S.obj id _ hx
    have hlt := lt_of_get hj
    exact (h4 j c (r.tmps[j]'(by omega)) hj (Array.getElem?_eq_getElem _)).low
  | row g sz cs =>
    intro c hc
    obtain ⟨j, hj⟩ := List.mem_iff_getElem?.1 hc
    obtain ⟨v, _, h⟩ := (S.obj id _ hx).2.2.2.2.2 j c hj
    exact h.low
  | _ => trivial

theorem Lows.set {n : Nat} (h : Lows n σ) {id : Nat} {x : AObj} (hx : LowO n x) : Lows n (σ.set id x) := by
  intro i y hy
  rcases get_set_cases hy with ⟨rfl, rfl⟩ | ⟨_, hy⟩
  · exact hx
  · exact h i y hy

theorem rd_shrink {O O' : Nat → Nat → Prop} (ho : ∀ b o, O' b o → O b o) {x : D} {v : Value} (h : RD w O x v) : RD w O' x v := h.mono (fun _ _ _ _ => rfl) (fun b o _ => ho b o)

theorem own_take {n : Nat} {b o : Nat} (h : Own L (σ.take n) b o) : Own L σ b o := by
  obtain ⟨id, x, hx, hf⟩ := h
  rw [List.getElem?_take] at hx
  split at hx
  · exact ⟨id, x, hx, hf⟩
  · cases hx

theorem RV.take {n : Nat} {x : AV} {v : Value} (h : RV w L σ x v) (hl : Low n x) : RV w L (σ.take n) x v := by
  have fx : ∀ {id}, Fixed σ id → id < n → Fixed (σ.take n) id := fun {id} ⟨y, h, k⟩ hlt => ⟨y, by rw [List.getElem?_take, if_pos hlt]; exact h, k⟩
  have rd : ∀ {x : D} {v : Value}, RD w (Own L σ) x v → RD w (Own L (σ.take n)) x v := fun h => rd_shrink (fun _ _ => own_take) h
  induction h with
  | d _ _ h => exact .d _ _ (rd h)
  | agg cs vs h1 h2 ih => cases hl with | agg _ hl => exact .agg _ _ h1 fun i c v hc hv => ih i c v hc hv (hl c (List.mem_of_getElem? hc))
  | tup cs vs h1 h2 ih => cases hl with | tup _ hl => exact .tup _ _ h1 fun i c v hc hv => ih i c v hc hv (hl c (List.mem_of_getElem? hc))
  | own t es v sz k h1 h2 h3 h4 h5 => cases hl with | own _ _ hl => exact .own t es v sz k (by rw [List.getElem?_take, if_pos hl]; exact h1) h2 h3 (rd h4) h5
  | exact es a h => exact .exact _ _ (rd h)
  | bsl id off len cap sz h1 h2 => cases hl with | bsl _ _ _ _ _ hl => exact .bsl _ _ _ _ _ (fx h1 hl) h2
  | box id off h1 => cases hl with | box _ _ hl => exact .box _ _ (fx h1 hl)
  | vp cs b off h =>
    refine .vp _ _ _ fun j d hj => ?_
    obtain ⟨v, h1, h2, h3⟩ := h j d hj
    exact ⟨v, h1, fun h => h2 (own_take h), rd h3⟩
  | map id h1 => cases hl with | map _ hl => exact .map _ (fx h1 hl)
  | iter id h1 => cases hl with | iter _ hl => exact .iter _ (fx h1 hl)
  | fn f first cap fs cs h1 h2 _ _ ih1 ih2 =>
    cases hl with | fn _ _ _ hl1 hl2 => exact .fn _ _ _ _ _ h1 h2 (fun i c v hc hv => ih1 i c v hc hv (hl1 c (List.mem_of_getElem? hc))) (fun i c v hc hv => ih2 i c v hc hv (hl2 c (List.mem_of_getElem? hc)))
  | rsl t g sz lo hi a c h1 h2 h3 h4 h5 h6 h7 =>
    cases hl with | rsl _ _ _ _ _ hl =>
    have e : (σ.take n)[t]? = σ[t]? := by rw [List.getElem?_take, if_pos hl]
    exact .rsl _ _ _ _ _ _ _ (by obtain ⟨y, k1, k2⟩ := h1; exact ⟨y, by rw [e]; exact k1, k2⟩) (by rw [e]; exact h2) h3 h4 h5 h6 (by rw [e]; exact h7)
  | rpt t g off b o h1 h2 h3 =>
    cases hl with | rpt _ _ _ hl =>
    have e : (σ.take n)[t]? = σ[t]? := by rw [List.getElem?_take, if_pos hl]
    exact .rpt _ _ _ _ _ (by obtain ⟨y, k1, k2⟩ := h1; exact ⟨y, by rw [e]; exact k1, k2⟩) (by rw [e]; exact h2) (by rw [e]; exact h3)
  | undef v => exact .undef v

theorem Sim.take (S : Sim L σ w) {n : Nat} (hl : Lows n (σ.take n)) : Sim L (σ.take n) w := by
  have get : ∀ {id x}, (σ.take n)[id]? = some x → σ[id]? = some x := fun {id x} h => by
    rw [List.getElem?_take] at h
    split at h
    · exact h
    · cases h
  refine ⟨fun id x hx => ?_, fun i j x y b o hij hx hy => S.apart i j x y b o hij (get hx) (get hy)⟩
  have ho := S.obj id x (get hx)
  cases x with
  | box cs =>
    obtain ⟨h1, h2, h3⟩ := ho
    refine ⟨h1, h2, fun j c hj => ?_⟩
    obtain ⟨h4, v, h5, h6⟩ := h3 j c hj
    exact ⟨h4, v, h5, h6.take (hl id _ hx c (List.mem_of_getElem? hj))⟩
  | tok sz k => exact ho
  | iter s pos => exact ho
  | map es =>
    obtain ⟨ms, clock, h1, h2, h3, h4⟩ := ho
    refine ⟨ms, clock, h1, h2, fun i e m he hm => ?_, h4⟩
    have g := h3 i e m he hm
    have l := hl id _ hx e (List.mem_of_getElem? he)
    exact ⟨g.1.take l.1, g.2.take l.2⟩
  | mapr c bs es =>
    obtain ⟨ms, h1, h2, h3, h4⟩ := ho
    refine ⟨ms, h1, h2, fun i e m he hm => ?_, h4⟩
    have g := h3 i e m he hm
    have l := hl id _ hx e (List.mem_of_getElem? he)
    exact ⟨g.1.take l.1, g.2.take l.2⟩
  | mit m c seen =>
    cases m with
    | none => exact ho
    | some m =>
      have l : m < n := hl id _ hx
      obtain ⟨⟨y, k1, k2⟩, h2⟩ := ho
      exact ⟨⟨y, by rw [List.getElem?_take, if_pos l]; exact k1, k2⟩, h2⟩
  | lrec b r vs =>
    obtain ⟨h1, h2, h3, h4⟩ := ho
    exact ⟨h1, h2, h3, fun i c v hc hv => (h4 i c v hc hv).take (hl id _ hx c (List.mem_of_getElem? hc))⟩
  | row g sz cs =>
    obtain ⟨h0, h1, hsc, hs, h2, h3⟩ := ho
    refine ⟨h0, h1, hsc, hs, h2, fun j c hj => ?_⟩
    obtain ⟨v, h5, h6⟩ := h3 j c hj
    exact ⟨v, h5, h6.take (hl id _ hx c (List.mem_of_getElem? hj))⟩
  | dead => trivial

theorem Step.take {L' : Nat → Loc} {σ' : List AObj} {w' : World} (s : Step L σ w L' σ' w') : Step L σ w L' (σ'.take σ.length) w' := by
  refine ⟨s.os, s.tape, s.output, s.size, s.blk, s.cell, s.fz, fun b o hb h => s.own b o hb (own_take h), by have := s.len; simp; omega, fun id x hx => ?_⟩
  obtain ⟨x', h1, h2, h3, h4⟩ := s.turns id x hx
  exact ⟨x', by rw [List.getElem?_take, if_pos (lt_of_get hx)]; exact h1, h2, h3, h4⟩

def dmT : AV → AV
  | .tup vs => .tup (vs.map dm)
  | a => dm a
theorem dmT_sound {x : AV} {v : Value} (h : RV w L σ x v) : RV w L σ (dmT x) v := by
  cases x with
  | tup cs =>
    obtain ⟨vs, rfl, h1, h2⟩ := h.tup_inv
    refine .tup _ _ (by simpa using h1) fun i c v hc hv => ?_
    simp only [List.getElem?_map, Option.map_eq_some_iff] at hc
    obtain ⟨c', hc', rfl⟩ := hc
    exact dm_sound (h2 i c' v hc' hv)
  | _ => exact dm_sound h

def Ends (n : Nat) (K : AV → List AObj → Prop) (out : Option (List AV)) (σ' : List AObj) : Prop :=
  match out with
  | some l => Low n (dmT (pack l)) ∧ Lows n (σ'.take n) ∧ K (dmT (pack l)) (σ'.take n)
  | none => False

structure AF where
  nargs : Nat
  ntmps : Nat
  res : List RI
  body : AC

def isF (P : Program) (f : FuncId) (F : AF) : Prop :=
  ∃ fn c, P.funcs[f]? = some fn ∧ fn.name ≠ "runtime.NumGoroutine" ∧ fn.body = some c ∧ comp P c = some F.body.norm ∧ F.body.ok F.ntmps = true ∧ F.nargs ≤ F.ntmps ∧ fn.results.toList.mapM (riOk P) = some F.res ∧ fn.ntmps = F.ntmps ∧ P.follows .mixedOrders = true

def isFn (P : Program) (f : FuncId) (F : AF) (n : Nat) : Prop := isF P f F ∧ F.nargs = n

def slots0 : Nat → List AV → Frame
  | _, [] => []
  | i, a :: l => (i, a) :: slots0 (i + 1) l

def AtEnd (Z : Frame → List AObj → Prop) : Ex → Frame → List AObj → Prop
  | .normal, fr, σ => Z fr σ
  | .ret, fr, σ => Z fr σ
  | .exit _, _, _ => False

/-! ### the marks of loops over functions are taken in -/
section

variable {fr : Frame}

theorem putD_cell {w : World} {D : Nat} {x y : Option (List Deferred)} (h : w.heap[D]? = some (.deferred x)) (a : Addr) : (w.putObj D (.deferred y)).cell? a = w.cell? a ∧ (w.putObj D (.deferred y)).frozen? a = w.frozen? a := by
  have hlt := (Array.getElem?_eq_some_iff.1 h).1
  by_cases e : a.block = D
  · have h1 : (w.putObj D (.deferred y)).heap[a.block]? = some (.deferred y) := by rw [e]; exact World.putObj_heap_same hlt
    have h2 : w.heap[a.block]? = some (.deferred x) := by rw [e]; exact h
    constructor
    · simp only [World.cell?, h1, h2]
    · simp only [World.frozen?, h1, h2]
  · have h1 : (w.putObj D (.deferred y)).heap[a.block]? = w.heap[a.block]? := World.putObj_heap_other e
    constructor
    · simp only [World.cell?, h1]
    · simp only [World.frozen?, h1]
theorem RV.samecells {w w' : World} {L : Nat → Loc} {σ : List AObj} (hc : ∀ b o, w'.cell? ⟨b, o, none⟩ = w.cell? ⟨b, o, none⟩) {x : AV} {v : Value} (h : RV w L σ x v) : RV w' L σ x v := by
  have rd : ∀ {x : D} {v : Value}, RD w (Own L σ) x v → RD w' (Own L σ) x v := fun h => h.mono (fun b o _ _ => hc b o) (fun _ _ _ h => h)
  induction h with
  | d x v h => exact .d x v (rd h)
  | agg cs vs hl _ ih => exact .agg cs vs hl ih
  | tup cs vs hl _ ih => exact .tup cs vs hl ih
  | own t es v sz n h1 h2 h3 h4 h5 => exact .own t es v sz n h1 h2 h3 (rd h4) h5
  | exact es a h => exact .exact es a (rd h)
  | bsl id off len cap sz h1 h2 => exact .bsl id off len cap sz h1 h2
  | box id off h1 => exact .box id off h1
  | vp cs b off h =>
    refine .vp cs b off fun j d hj => ?_
    obtain ⟨v, h1, h2, h3⟩ := h j d hj
    exact ⟨v, (hc _ _).trans h1, h2, rd h3⟩
  | map id h1 => exact .map id h1
  | iter id h1 => exact .iter id h1
  | fn f first cap fs cs h1 h2 _ _ ih1 ih2 => exact .fn f first cap fs cs h1 h2 ih1 ih2
  | rsl t g sz lo hi a c h1 h2 h3 h4 h5 h6 h7 => exact .rsl t g sz lo hi a c h1 h2 h3 h4 h5 h6 h7
  | rpt t g off b o h1 h2 h3 => exact .rpt t g off b o h1 h2 h3
  | undef v => exact .undef v
theorem putD_sim {w : World} {L : Nat → Loc} {σ : List AObj} {D : Nat} {x y : Option (List Deferred)} (S : Sim L σ w) (h : w.heap[D]? = some (.deferred x)) (hu : ∀ o, ¬ Own L σ D o) : Sim L σ (w.putObj D (.deferred y)) := by
  have hc : ∀ b o, (w.putObj D (.deferred y)).cell? ⟨b, o, none⟩ = w.cell? ⟨b, o, none⟩ := fun b o => (putD_cell h _).1
  have hz : ∀ b o, (w.putObj D (.deferred y)).frozen? ⟨b, o, none⟩ = w.frozen? ⟨b, o, none⟩ := fun b o => (putD_cell h _).2
  have hsz : (w.putObj D (.deferred y)).heap.size = w.heap.size := by simp
  refine ⟨fun id z hz' => ?_, S.apart⟩
  have ho := S.obj id z hz'
  have hb : ∀ b, (∀ o, Foot (L id) z b o) → (w.putObj D (.deferred y)).heap[b]? = w.heap[b]? := fun b hf => World.putObj_heap_other (fun e => by subst e; exact hu 0 ⟨id, z, hz', hf 0⟩)
  cases z with
  | box cs =>
    obtain ⟨h0, h00, h1⟩ := ho
    refine ⟨h0, by rw [hsz]; exact h00, fun j c hj => ?_⟩
    obtain ⟨h2, v, h3, h4⟩ := h1 j c hj
    exact ⟨(hz _ _).trans h2, v, (hc _ _).trans h3, h4.samecells hc⟩
  | tok sz n =>
    obtain ⟨h0, h1, h2, h3⟩ := ho
    refine ⟨h0, h1, h2, fun hn o ho ho' => ?_⟩
    obtain ⟨⟨v, h4⟩, h5⟩ := h3 hn o ho ho'
    exact ⟨⟨v, (hc _ _).trans h4⟩, (hz _ _).trans h5⟩
  | iter t pos => exact (hb (L id).a.block (fun _ => rfl)).trans ho
  | map es =>
    obtain ⟨ms, clock, h1, h2, h3, h4⟩ := ho
    exact ⟨ms, clock, (hb (L id).a.block (fun _ => rfl)).trans h1, h2, fun i e m he hm => ⟨(h3 i e m he hm).1.samecells hc, (h3 i e m he hm).2.samecells hc⟩, h4⟩
  | mapr c bs es =>
    obtain ⟨ms, h1, h2, h3, h4⟩ := ho
    exact ⟨ms, (hb (L id).a.block (fun _ => rfl)).trans h1, h2, fun i e m he hm => ⟨(h3 i e m he hm).1.samecells hc, (h3 i e m he hm).2.samecells hc⟩, h4⟩
  | mit m c seen =>
    cases m with
    | none => exact (hb (L id).a.block (fun _ => rfl)).trans ho
    | some m => exact ⟨ho.1, (hb (L id).a.block (fun _ => rfl)).trans ho.2⟩
  | lrec b r vs =>
    obtain ⟨h1, h2, h3, h4⟩ := ho
    exact ⟨h1, by have := hb (L id).a.block (fun _ => rfl); rw [h1] at this; exact this.trans h2, h3, fun i c v hc' hv => (h4 i c v hc' hv).samecells hc⟩
  | dead => trivial
  | row g sz cs =>
    obtain ⟨h0, h1, hsc, hs, h2, h3⟩ := ho
    refine ⟨h0, h1, hsc, fun h => by rw [hsz]; exact hs h, fun o ho ho' => ?_, fun j c hj => ?_⟩
    · obtain ⟨⟨v, h4⟩, h5⟩ := h2 o ho ho'
      exact ⟨⟨v, (hc _ _).trans h4⟩, (hz _ _).trans h5⟩
    · obtain ⟨v, h4, h5⟩ := h3 j c hj
      exact ⟨v, (hc _ _).trans h4, h5.samecells hc⟩
theorem putD_step {w0 w : World} {L0 L : Nat → Loc} {σ0 σ : List AObj} {D : Nat} {x y : Option (List Deferred)} (s : Step L0 σ0 w0 L σ w) (h : w.heap[D]? = some (.deferred x)) (hD : w0.heap.size ≤ D) : Step L0 σ0 w0 L σ (w.putObj D (.deferred y)) :=
  ⟨s.os, s.tape, s.output, by rw [World.putObj_size]; exact s.size, fun b hb hn => (World.putObj_heap_other (by omega)).trans (s.blk b hb hn), fun b o hb hn => ((putD_cell h _).1).trans (s.cell b o hb hn), fun b o hb hn => ((putD_cell h _).2).trans (s.fz b o hb hn), s.own, s.len, s.turns⟩
theorem leaves_marks {w0 : World} {L0 L : Nat → Loc} {σ0 σ : List AObj} {fn : Func} {ts : Array Value} {R : Ending → World → Prop} : ∀ (Ds : List Nat) (w : World), Ds.Nodup → (∀ D ∈ Ds, w0.heap.size ≤ D ∧ w.heap[D]? = some (.deferred (some [])) ∧ ∀ o, ¬ Own L σ D o) →
    Sim L σ w → FR w L σ fr ts → Step L0 σ0 w0 L σ w → (∀ w', Sim L σ w' → FR w' L σ fr ts → Step L0 σ0 w0 L σ w' → ∃ v, (results fn ts).run P w' = .ok v w' ∧ R (.returned v) w') → LeavesInM Fence.wide 0 P fn ts R (Ds.map markOf) .returning w
  | [], w, _, _, S, F, s, h => h w S F s
  | D :: Ds, w, hn, hD, S, F, s, h => by
    obtain ⟨k1, k2, k3⟩ := hD D (.head _)
    obtain ⟨n1, n2⟩ := List.nodup_cons.1 hn
    refine ⟨by simp, .inl ⟨D, _, rfl, run_takeDeferred k2, ?_⟩⟩
    refine leaves_marks Ds _ n2 (fun E hE => ?_) (putD_sim S k2 k3) ⟨fun i v hv => (F.at_ i v hv).samecells (fun b o => (putD_cell k2 _).1), F.keys⟩ (putD_step s k2 k1) h
    obtain ⟨e1, e2, e3⟩ := hD E (.tail _ hE)
    exact ⟨e1, (World.putObj_heap_other (fun e : E = D => n1 (by rw [← e]; exact hE))).trans e2, e3⟩
end

theorem acall_gen {f : FuncId} {F : AF} {na : Nat} (hF : isFn P f F na) {as0 : List AV} (has : as0.length = na) {K : AV → List AObj → Prop} (Z : Frame → List AObj → Prop)
    (hZ : ∀ {L : Nat → Loc} {w : World} {L' : Nat → Loc} {σ' : List AObj} {w' : World} {fr' : Frame} {ts : Array Value}, Sim L σ w → Step L σ w L' σ' w' → Sim L' σ' w' → FR w' L' σ' fr' ts → Z fr' σ' →
      ∃ L2 σ2 out r, resAs fr' σ' F.res = some out ∧ Step L σ w L2 σ2 w' ∧ Sim L2 σ2 w' ∧ (∀ v, RV w' L' σ' (pack out) v → RV w' L2 σ2 r v) ∧ K r σ2)
    (h : Lows σ.length σ → (∀ a ∈ as0, Low σ.length a) → awp P F.body (AtEnd Z) (slots0 0 as0) σ) : ACall P f as0 σ K := by
  obtain ⟨⟨fn, c, h1, h2, h3, h4, hok, hna, h5, h6, hP⟩, rfl⟩ := hF
  refine ⟨by simp [callOk, h1, h2, h3], fun L w vs S hv => ?_⟩
  refine callsIn_wide.1 (callsIn_of_wp_marks (F := Fence.wide) (n := 0) h1 h3 trivial ?_)
  have hlow : ∀ a ∈ as0, Low σ.length a := fun a ha => by
    obtain ⟨i, hi⟩ := List.mem_iff_getElem?.1 ha
    have hlt := lt_of_get hi
    exact (hv.2 i a (vs[i]'(by rw [hv.1]; exact hlt)) hi (List.getElem?_eq_getElem _)).low
  have hsz : (vs.toArray ++ Array.replicate (fn.ntmps - vs.toArray.size) undef).size = F.ntmps := by simp [hv.1, h6, has]; omega
  have key : ∀ (as0 : List AV) (i j : Nat), getS (slots0 i as0) j = if i ≤ j then (as0[j - i]?).getD .undef else .undef := by
    intro as0
    induction as0 with
    | nil => intro i j; simp [slots0, getS]
    | cons a as0 ih =>
      intro i j
      simp only [slots0]
      rw [getS_cons, ih]
      by_cases h1 : j = i
      · subst h1; simp
      · by_cases h2 : i ≤ j
        · rw [if_neg h1, if_pos (by omega), if_pos h2, show j - i = (j - (i + 1)) + 1 by omega]; simp
        · rw [if_neg h1, if_neg (by omega), if_neg h2]
  have keys : ∀ (as0 : List AV) (i : Nat), ∀ p ∈ slots0 i as0, p.1 < i + as0.length := by
    intro as0
    induction as0 with
    | nil => intro i p hp; cases hp
    | cons a as0 ih =>
      intro i p hp
      simp only [slots0] at hp
      rcases List.mem_cons.1 hp with rfl | hp
      · simp
      · have := ih (i + 1) p hp; simp; omega
  have F0 : FR w L σ (slots0 0 as0) (vs.toArray ++ Array.replicate (fn.ntmps - vs.toArray.size) undef) := by
    refine ⟨fun i v hv' => ?_, fun p hp => by rw [hsz]; have := keys as0 0 p hp; omega⟩
    rw [key, if_pos (Nat.zero_le _), Nat.sub_zero]
    rcases Nat.lt_or_ge i as0.length with hl | hl
    · rw [Array.getElem?_append_left (by simp [hv.1, hl])] at hv'
      have ha : as0[i]? = some as0[i] := List.getElem?_eq_getElem _
      rw [ha]
      exact hv.2 i _ v ha (by simpa using hv')
    · rw [List.getElem?_eq_none hl]; exact .undef v
  refine wpIn_mono (awp_sound hP c none w.heap.size F.body _ _ σ L w { tmps := vs.toArray ++ Array.replicate (fn.ntmps - vs.toArray.size) undef, defers := [] } h4 (by show F.body.ok (vs.toArray ++ Array.replicate (fn.ntmps - vs.toArray.size) undef).size = true; rw [hsz]; exact hok) (.inr rfl) (h S.lows hlow) S F0 ⟨Nat.le_refl _, [], rfl, .nil, by simp⟩) fun e a' w' he => ?_
  have fin : ∀ L' σ' fr', Step L σ w L' σ' w' → Sim L' σ' w' → FR w' L' σ' fr' a'.tmps → Marks w.heap.size a'.defers L' σ' w' → Z fr' σ' → LeavesInM Fence.wide 0 P fn a'.tmps (CR L σ w K) a'.defers .returning w' := fun L' σ' fr' st S' F' hd hz => by
    obtain ⟨_, Ds, hds, hnd, hD⟩ := hd
    rw [hds]
    refine leaves_marks (P := P) Ds w' hnd hD S' F' st fun w2 S2 F2 st2 => ?_
    obtain ⟨L2, σ2, out, r, g1, g2, g3, g4, g5⟩ := hZ S st2 S2 F2 hz
    obtain ⟨v, hrun, hr⟩ := results_sound S2 F2 h5 g1
    exact ⟨v, hrun, L2, σ2, r, g2, g3, g4 v hr, g5⟩
  cases e with
  | normal => obtain ⟨L', σ', fr', st, S', F', hd, _, hz⟩ := he; exact fin L' σ' fr' st S' F' hd hz
  | ret => obtain ⟨L', σ', fr', st, S', F', hd, _, hz⟩ := he; exact fin L' σ' fr' st S' F' hd hz
  | exit id => obtain ⟨L', σ', fr', st, S', F', hd, _, hz⟩ := he; exact hz.elim
  | goto l => exact he.elim
  | panic ch => exact he.elim
  | outgrown => exact he.elim

theorem acall_of {f : FuncId} {F : AF} {na : Nat} (hF : isFn P f F na) {as0 : List AV} (has : as0.length = na) {K : AV → List AObj → Prop}
    (h : Lows σ.length σ → (∀ a ∈ as0, Low σ.length a) → awp P F.body (AtEnd fun fr' σ' => Ends σ.length K (resAs fr' σ' F.res) σ') (slots0 0 as0) σ) : ACall P f as0 σ K :=
  acall_gen hF has _ (fun {L w L' σ' w' fr' ts} S st S' F' hz => by
    unfold Ends at hz
    split at hz
    · rename_i l hl
      obtain ⟨z1, z2, z3⟩ := hz
      exact ⟨L', _, l, dmT (pack l), hl, st.take, S'.take z2, fun v hr => (dmT_sound hr).take z1, z3⟩
    · exact hz.elim) h

theorem ACall.mono {f : FuncId} {as0 : List AV} {K K' : AV → List AObj → Prop} (h : ACall P f as0 σ K) (hk : ∀ r σ', K r σ' → K' r σ') : ACall P f as0 σ K' :=
  ⟨h.1, fun L w vs S hv => (h.2 L w vs S hv).mono fun e w' he => by
    cases e with
    | returned v => obtain ⟨L', σ', r, s, S', hr, hK⟩ := he; exact ⟨L', σ', r, s, S', hr, hk r σ' hK⟩
    | panicked ch => exact he
    | outgrown => exact he⟩

end

def allocC (z : List AV) (σ : List AObj) (K : KT) : Prop := K (.box σ.length 0) (σ ++ [.box z])
def binC (op : BinOp) (e : EK) (x y : AV) (σ : List AObj) (K : KT) : Prop := binA op e x y (fun a => K a σ)
def unC (op : UnOp) (x : AV) (σ : List AObj) (K : KT) : Prop := unA op x (fun a => K a σ)
def mkmapC (σ : List AObj) (K : KT) : Prop := K (.map σ.length) (σ ++ [.map []])
def headC (vs : List AV) (k : AV → List AV → Prop) : Prop := k (vs.getD 0 .undef) (vs.drop 1)
def fillV : List AV → List (Nat × Nat × AV) → Option (List AV)
  | cs, [] => some cs
  | cs, (off, s, x) :: r =>
    match cellsA x with
    | some xs => if xs.length = s ∧ off + s ≤ cs.length then fillV (splice cs off xs) r else none
    | none => none

/-! short forms, by which the printed conditions are told -/
abbrev LO := List AObj
def iN (n : Int) : AV := .d (.int .i64 n)
def bT : AV := .d (.bool true)
def bF : AV := .d (.bool false)
def eN : AV := .exact []
def gF (g : AV) (body : KT → Prop) (σ : LO) (K : KT) : Prop := guardC g false body σ K
def gT (g : AV) (body : KT → Prop) (σ : LO) (K : KT) : Prop := guardC g true body σ K
def gFm (g x : AV) (σ : LO) (K : KT) : Prop := guardC g false (fun k => k x σ) σ K
def gTm (g x : AV) (σ : LO) (K : KT) : Prop := guardC g true (fun k => k x σ) σ K
def fl (off : Nat) (x : AV) (σ : LO) (K : KT) : Prop := faddrC off x σ fun a s => loadC false 1 a s K
def nfl (off : Nat) (x : AV) (σ : LO) (K : KT) : Prop := nilC x σ fun b s => faddrC off b s fun a s => loadC false 1 a s K
def gFl (g : AV) (off : Nat) (x : AV) (σ : LO) (K : KT) : Prop := guardC g false (faddrC off x σ) σ fun a s => guardC g false (loadC false 1 a s) s K
def gTl (g : AV) (off : Nat) (x : AV) (σ : LO) (K : KT) : Prop := guardC g true (faddrC off x σ) σ fun a s => guardC g true (loadC false 1 a s) s K
def il (m : Bool) (sz n : Nat) (x i : AV) (σ : LO) (K : KT) : Prop := iaddrC none sz x i σ fun a s => loadC m n a s K
def cp (z : List AV) (n : Nat) (x : AV) (σ : LO) (K : KT) : Prop := allocC z σ fun b s => storeC n b x s fun _ s => K b s
def orC (g x : AV) (σ : LO) (K : KT) : Prop := pickC g bT x σ K
def anC (g x : AV) (σ : LO) (K : KT) : Prop := pickC g x bF σ K
def cA (P : Program) (f : FuncId) (as0 : List AV) (σ : LO) (K : KT) : Prop := ACall P f (as0.map dm) σ K
def bP (op : BinOp) (x y : AV) (σ : LO) (K : KT) : Prop := binC op .plain x y σ K
def z1 (Z : Option (List AV) → LO → Prop) (a : AV) (σ : LO) : Prop := Z (consO (some a) (some [])) σ
def z2 (Z : Option (List AV) → LO → Prop) (a b : AV) (σ : LO) : Prop := Z (consO (some a) (consO (some b) (some []))) σ
def m1 (n : Nat) (z : List AV) (x : AV) (σ : LO) (K : KT) : Prop := mksliceC false n 1 (fillV (rep z 1) [(0, n, x)]) σ K

theorem BB_true (p q : Prop) : BB true p q = p := propext ⟨fun h => h.1 rfl, fun h => ⟨fun _ => h, fun e => Bool.noConfusion e⟩⟩
theorem BB_false (p q : Prop) : BB false p q = q := propext ⟨fun h => h.2 rfl, fun h => ⟨fun e => Bool.noConfusion e, fun _ => h⟩⟩
theorem BB_not (b : Bool) (p q : Prop) : BB (!b) p q = BB b q p := by cases b <;> simp [BB_true, BB_false]
theorem BB_beqT (b : Bool) (p q : Prop) : BB (b == true) p q = BB b p q := by cases b <;> rfl
theorem BB_beqF (b : Bool) (p q : Prop) : BB (b == false) p q = BB b q p := by cases b <;> simp [BB_true, BB_false]
@[congr] theorem BB_congr {b b' : Bool} {p q p' q' : Prop} (hb : b = b') (hp : b' = true → p = p') (hq : b' = false → q = q') : BB b p q = BB b' p' q' := by
  subst hb
  cases b
  · simp only [BB_false]; exact hq rfl
  · simp only [BB_true]; exact hp rfl
theorem Low_d (n : Nat) (x : D) : Low n (.d x) = True := eq_true (.d x)
theorem Low_exact (n : Nat) (es : List (List D)) : Low n (.exact es) = True := eq_true (.exact es)
theorem Low_agg (n : Nat) (cs : List AV) : Low n (.agg cs) = ∀ c ∈ cs, Low n c := propext ⟨fun h => by cases h with | agg _ h => exact h, .agg cs⟩
theorem Low_tup (n : Nat) (cs : List AV) : Low n (.tup cs) = ∀ c ∈ cs, Low n c := propext ⟨fun h => by cases h with | tup _ h => exact h, .tup cs⟩

inductive Ty where
  | int (k : IntKind)
  | bool
  | str
  | slice (e : List Ty)

def flatFs (P : Program) (g : TypeId → Option (List Ty)) : List Field → Nat → Option (List Ty)
  | [], _ => some []
  | f :: r, off => match g f.type with
    | some a => if f.offset = off ∧ P.cellsOf f.type = a.length then (flatFs P g r (off + a.length)).map (a ++ ·) else none
    | none => none
def flat (P : Program) : Nat → TypeId → Option (List Ty)
  | 0, _ => none
  | n + 1, t => match P.underlying t with
    | some (.int k) => some [.int k]
    | some .bool => some [.bool]
    | some .string => some [.str]
    | some (.slice e) => match flat P n e with
      | some ts => if P.cellsOf e = ts.length ∧ 0 < ts.length then some [.slice ts] else none
      | none => none
    | some (.struct fs) => match flatFs P (flat P n) fs.toList 0 with
      | some ts => if P.cellsOf t = ts.length then some ts else none
      | none => none
    | _ => none

inductive TFits : Ty → D → Prop
  | int (k n) : (Lit.int k n).wf = true → TFits (.int k) (.int k n)
  | bool (b) : TFits .bool (.bool b)
  | str (s : List UInt8) : s.length ≤ maxLen → TFits .str (.str s)
  | slice (ts : List Ty) (es : List (List D)) : es.length ≤ maxLen → (∀ e ∈ es, e.length = ts.length) → (∀ e ∈ es, ∀ (i : Nat) t d, ts[i]? = some t → e[i]? = some d → TFits t d) → TFits (.slice ts) (.slice es)
def TFitsL (ts : List Ty) (ds : List D) : Prop := ds.length = ts.length ∧ ∀ (i : Nat) t d, ts[i]? = some t → ds[i]? = some d → TFits t d

mutual
def bulkD : D → Nat
  | .str s => s.length + 1
  | .slice es => bulkLL es + 1
  | .int _ _ => 1
  | .bool _ => 1
  | .nilp => 1
  | .nilmap => 1
  | .nilfn => 1
def bulkL : List D → Nat
  | [] => 0
  | d :: r => bulkD d + bulkL r
def bulkLL : List (List D) → Nat
  | [] => 0
  | e :: r => bulkL e + bulkLL r
end

theorem bulkL_append (a b : List D) : bulkL (a ++ b) = bulkL a + bulkL b := by
  induction a with
  | nil => simp [bulkL]
  | cons x a ih => simp [bulkL, ih]; omega

structure IsBulk {H : Type} (bw : DataW H → Nat) : Prop where
  str : ∀ b, bw (.lit (.string b)) = b.length + 1
  slice : ∀ e s, (e.map bw).sum + 1 ≤ bw (.slice e s)
  agg : ∀ p, (p.map bw).sum ≤ bw (.agg p)
  one : ∀ d, 1 ≤ bw d

section

variable {H : Type} {enc : TypeId × Value → H} {P : Program} {w : World} {base : Nat} {spare : Nat → Bool} {held : Bool} {bw : DataW H → Nat}

def CellsRD (w : World) (ds : List D) (cs : List Value) : Prop := ds.length = cs.length ∧ ∀ (i : Nat) d v, ds[i]? = some d → cs[i]? = some v → RD w (fun _ _ => False) d v

theorem CellsRD.append {a b : List D} {c d : List Value} (h1 : CellsRD w a c) (h2 : CellsRD w b d) : CellsRD w (a ++ b) (c ++ d) := by
  refine ⟨by simp [h1.1, h2.1], fun i x v hx hv => ?_⟩
  rcases Nat.lt_or_ge i a.length with hl | hl
  · rw [List.getElem?_append_left hl] at hx
    rw [List.getElem?_append_left (by have := h1.1; omega)] at hv
    exact h1.2 i x v hx hv
  · rw [List.getElem?_append_right hl] at hx
    rw [List.getElem?_append_right (by have := h1.1; omega), ← h1.1] at hv
    exact h2.2 _ x v hx hv
theorem TFitsL.append {a b : List Ty} {c d : List D} (h1 : TFitsL a c) (h2 : TFitsL b d) : TFitsL (a ++ b) (c ++ d) := by
  refine ⟨by simp [h1.1, h2.1], fun i x v hx hv => ?_⟩
  rcases Nat.lt_or_ge i a.length with hl | hl
  · rw [List.getElem?_append_left hl] at hx
    rw [List.getElem?_append_left (by have := h1.1; omega)] at hv
    exact h1.2 i x v hx hv
  · rw [List.getElem?_append_right hl] at hx
    rw [List.getElem?_append_right (by have := h1.1; omega), h1.1] at hv
    exact h2.2 _ x v hx hv

theorem str_len {s : ByteArray} (h : s.size ≤ maxLen) : s.data.toList.length ≤ maxLen := by
  have e2 : s.data.toList.length = s.size := by rw [Array.length_toList]; rfl
  rw [e2]; exact h

theorem cells_get {a : Addr} {n : Nat} {l : List Value} (h : w.cells? base a n = some l) (hn : 0 < n) : a.spot = none ∧ l.length = n ∧ ∀ (j : Nat) v, l[j]? = some v → w.cell? ⟨a.block, a.off + j, none⟩ = some v := by
  unfold World.cells? at h
  split at h
  · obtain ⟨h1, h2⟩ := mapM_some h
    simp only [List.length_range] at h1
    have h0 := h2 0 0 (l[0]'(by omega)) (List.getElem?_range (by omega)) (List.getElem?_eq_getElem _)
    have hs : a.spot = none := by
      simp only [Addr.add, if_pos] at h0
      unfold World.cell? at h0
      split at h0
      · split at h0
        · cases h0
        · rename_i hx; simpa using hx
      · cases h0
    refine ⟨hs, h1, fun j v hj => ?_⟩
    have hjn := lt_of_get hj
    have := h2 j j v (List.getElem?_range (by omega)) hj
    have e : a.add j = ⟨a.block, a.off + j, none⟩ := by
      obtain ⟨b, o, s⟩ := a
      simp only at hs
      subst hs
      exact addr_add b o j
    rwa [e] at this
  · cases h

theorem trod_fits (hB : IsBulk bw) : ∀ (n : Nat) (t : TypeId) (ts : List Ty) (fuel : Nat) (cs : List Value) (dw : DataW H) (ps : List MemPlace), flat P n t = some ts → DataW.trod enc P w base spare held fuel t cs = some (dw, ps) →
    ∃ ds, TFitsL ts ds ∧ CellsRD w ds cs ∧ bulkL ds ≤ bw dw
  | 0, _, _, _, _, _, _, h, _ => by simp [flat] at h
  | n + 1, t, ts, 0, cs, dw, ps, _, h => by simp [DataW.trod] at h
  | n + 1, t, ts, fuel + 1, cs, dw, ps, hf, h => by
    rw [DataW.trod_step] at h
    simp only [flat] at hf
    have one : ∀ {ty : Ty} {d : D} {v : Value}, ts = [ty] → cs = [v] → TFits ty d → RD w (fun _ _ => False) d v → bulkD d ≤ bw dw → ∃ ds, TFitsL ts ds ∧ CellsRD w ds cs ∧ bulkL ds ≤ bw dw := fun {ty d v} h1 h2 h3 h4 h5 => by
      subst h1 h2
      refine ⟨[d], ⟨rfl, fun i t x ht hx => ?_⟩, ⟨rfl, fun i x u hx hu => ?_⟩, by simpa [bulkL] using h5⟩
      · cases i with
        | zero => simp at ht hx; subst ht hx; exact h3
        | succ i => simp at ht
      · cases i with
        | zero => simp at hx hu; subst hx hu; exact h4
        | succ i => simp at hx
    split at hf
    · -- int
      rename_i k hu
      cases hf
      rcases cs with _ | ⟨v, _ | ⟨v2, cs⟩⟩
      · simp [DataW.trodStep, hu] at h
      · cases v <;> simp only [DataW.trodStep, hu] at h <;> try (cases h; done)
        rename_i k2 m
        split at h
        · rename_i hk
          cases h
          obtain ⟨rfl, hwf⟩ := hk
          exact one rfl rfl (.int _ _ hwf) (.int _ _) (by have := hB.one (.lit (.int k2 m)); simpa [bulkD] using this)
        · cases h
      · simp [DataW.trodStep, hu] at h
    · -- bool
      rename_i hu
      cases hf
      rcases cs with _ | ⟨v, _ | ⟨v2, cs⟩⟩
      · simp [DataW.trodStep, hu] at h
      · cases v <;> simp only [DataW.trodStep, hu] at h <;> try (cases h; done)
        rename_i b
        cases h
        exact one rfl rfl (.bool _) (.bool _) (by have := hB.one (.lit (.bool b)); simpa [bulkD] using this)
      · simp [DataW.trodStep, hu] at h
    · -- string
      rename_i hu
      cases hf
      rcases cs with _ | ⟨v, _ | ⟨v2, cs⟩⟩
      · simp [DataW.trodStep, hu] at h
      · cases v <;> simp only [DataW.trodStep, hu] at h <;> try (cases h; done)
        rename_i s
        split at h
        · rename_i hs
          cases h
          have e : s = ⟨s.data.toList.toArray⟩ := by cases s; rfl
          exact one (d := .str s.data.toList) rfl rfl (.str _ (str_len hs)) (by rw [show Value.string s = .string ⟨s.data.toList.toArray⟩ from by rw [← e]]; exact .str _) (by rw [hB.str]; simp [bulkD])
        · cases h
      · simp [DataW.trodStep, hu] at h
    · -- slice
      rename_i e hu
      split at hf
      · rename_i te hte
        simp only [Option.ite_none_right_eq_some, Option.some.injEq] at hf
        obtain ⟨⟨hce, hpos⟩, rfl⟩ := hf
        rcases cs with _ | ⟨v, _ | ⟨v2, cs⟩⟩
        · simp [DataW.trodStep, hu] at h
        · cases v <;> try (simp only [DataW.trodStep, hu] at h; cases h; done)
          rename_i a len cap
          cases a with
          | none =>
            have : len = 0 ∧ cap = 0 ∧ dw = .nil := by
              cases len <;> cases cap <;> simp [DataW.trodStep, hu] at h
              exact ⟨rfl, rfl, h.1.symm⟩
            obtain ⟨rfl, rfl, rfl⟩ := this
            exact one (d := .slice []) rfl rfl (.slice _ [] (by simp) (by simp) (by simp)) (.empty none 0 (fun _ => rfl)) (by have := hB.one (.nil : DataW H); simpa [bulkD, bulkLL] using this)
          | some a =>
            simp only [DataW.trodStep, hu] at h
            split at h
            · rename_i hb
              simp only [Option.bind_eq_some_iff] at h
              obtain ⟨elems, he, h⟩ := h
              simp only [Option.map_eq_some_iff] at h
              obtain ⟨rest, hr, h⟩ := h
              cases h
              obtain ⟨m1, m2⟩ := AW.mapM_some he
              rw [List.length_range] at m1
              by_cases hlen : len = 0
              · subst hlen
                have : elems = [] := by simpa using m1
                subst this
                exact one (d := .slice []) rfl rfl (.slice _ [] (by simp) (by simp) (by simp)) (.empty (some a) cap (fun e => by cases e)) (by have := hB.slice [] (rest.map (·.1)); simpa [bulkD, bulkLL] using this)
              -- each element
              have each : ∀ i, ∃ e' : List D, i < len → TFitsL te e' ∧ (a.add (i * P.cellsOf e)).spot = none ∧ (∀ (j : Nat) d, e'[j]? = some d → ∃ v, w.cell? ⟨a.block, (a.add (i * P.cellsOf e)).off + j, none⟩ = some v ∧ RD w (fun _ _ => False) d v) ∧ ∃ x, elems[i]? = some x ∧ bulkL e' ≤ bw x.1 := fun i => by
                by_cases hi : i < len
                · have hx : elems[i]? = some (elems[i]'(by omega)) := List.getElem?_eq_getElem _
                  have := m2 i i _ (List.getElem?_range (by omega)) hx
                  simp only [Option.bind_eq_some_iff] at this
                  obtain ⟨cl, hc, ht⟩ := this
                  obtain ⟨ds, g1, g2, g3⟩ := trod_fits hB n e te fuel cl _ _ hte ht
                  obtain ⟨c1, c2, c3⟩ := cells_get hc (by omega)
                  have hblk : (a.add (i * P.cellsOf e)).block = a.block := by unfold Addr.add; split <;> rfl
                  refine ⟨ds, fun _ => ⟨g1, c1, fun j d hj => ?_, _, hx, g3⟩⟩
                  have hjl := lt_of_get hj
                  have hv : cl[j]? = some (cl[j]'(by have := g2.1; omega)) := List.getElem?_eq_getElem _
                  exact ⟨_, by rw [← hblk]; exact c3 j _ hv, g2.2 j d _ hj hv⟩
                · exact ⟨[], fun h => absurd h hi⟩
              obtain ⟨f, hf⟩ := Classical.axiomOfChoice each
              obtain ⟨_, hs0, _, _⟩ := hf 0 (by omega)
              have ha : a = ⟨a.block, a.off, none⟩ := by
                obtain ⟨b, o, s⟩ := a
                simp [Addr.add] at hs0
                rw [hs0]
              have hoff : ∀ i, (a.add (i * P.cellsOf e)).off = a.off + i * te.length := fun i => by
                rw [ha, addr_add, hce]
              let es := (List.range len).map f
              have hes : ∀ (i : Nat) e', es[i]? = some e' → i < len ∧ e' = f i := fun i e' h => by
                simp only [es, List.getElem?_map, Option.map_eq_some_iff] at h
                obtain ⟨k, hk, rfl⟩ := h
                have hl := lt_of_get hk
                simp at hl
                simp [hl] at hk
                subst hk
                exact ⟨hl, rfl⟩
              have hmem : ∀ e' ∈ es, ∃ i, i < len ∧ e' = f i := fun e' h => by
                obtain ⟨i, hi⟩ := List.mem_iff_getElem?.1 h
                exact ⟨i, hes i e' hi⟩
              have hel : es.length = len := by simp [es]
              have vals : ∀ i j, ∃ v, ∀ d, i < len → (f i)[j]? = some d → w.cell? ⟨a.block, a.off + (i * te.length + j), none⟩ = some v ∧ RD w (fun _ _ => False) d v := fun i j => by
                by_cases hi : i < len
                · cases hd : (f i)[j]? with
                  | none => exact ⟨undef, fun d _ h => by cases h⟩
                  | some d =>
                    obtain ⟨v, h1, h2⟩ := (hf i hi).2.2.1 j d hd
                    rw [hoff, Nat.add_assoc] at h1
                    exact ⟨v, fun d' _ h => by cases h; exact ⟨h1, h2⟩⟩
                · exact ⟨undef, fun d h => absurd h hi⟩
              have vals2 : ∃ vs : Nat → Value, ∀ i j d, i < len → (f i)[j]? = some d → w.cell? ⟨a.block, a.off + (i * te.length + j), none⟩ = some (vs (i * te.length + j)) ∧ RD w (fun _ _ => False) d (vs (i * te.length + j)) := by
                refine ⟨fun k => (w.cell? ⟨a.block, a.off + k, none⟩).getD undef, fun i j d hi hd => ?_⟩
                obtain ⟨v, hv⟩ := vals i j
                obtain ⟨h1, h2⟩ := hv d hi hd
                dsimp only; rw [h1]; exact ⟨rfl, h2⟩
              obtain ⟨vs, hvs⟩ := vals2
              have hbulk : ∀ (l : List Nat) (xs : List (DataW H × List MemPlace)), l.length = xs.length → (∀ (i : Nat) k x, l[i]? = some k → xs[i]? = some x → bulkL (f k) ≤ bw x.1) → bulkLL (l.map f) ≤ ((xs.map (·.1)).map bw).sum := by
                intro l
                induction l with
                | nil => intro xs _ _; simp [bulkLL]
                | cons k l ih =>
                  intro xs hl h
                  cases xs with
                  | nil => simp at hl
                  | cons x xs =>
                    have h0 := h 0 k x rfl rfl
                    have := ih xs (by simpa using hl) (fun i k' x' hk hx => h (i + 1) k' x' hk hx)
                    simp only [List.map_cons, bulkLL, List.sum_cons]
                    omega
              refine one (d := .slice es) rfl rfl (.slice _ _ (by rw [hel]; omega) (fun e' h => by
                  obtain ⟨i, hi, rfl⟩ := hmem e' h
                  exact (hf i hi).1.1) (fun e' h => by
                  obtain ⟨i, hi, rfl⟩ := hmem e' h
                  exact (hf i hi).1.2)) ?_ ?_
              · rw [ha]
                have := RD.slice (w := w) (O := fun _ _ => False) es a.block a.off cap te.length vs (by intro e; rw [e] at hel; simp at hel; omega) (by rw [hel]; exact hb.2.1) (fun e' h => by
                  obtain ⟨i, hi, rfl⟩ := hmem e' h
                  exact (hf i hi).1.1) (fun i e' j d hi hj => by
                  obtain ⟨h1, rfl⟩ := hes i e' hi
                  exact ⟨(hvs i j d h1 hj).1, fun h => h⟩) (fun i e' j d hi hj => by
                  obtain ⟨h1, rfl⟩ := hes i e' hi
                  exact (hvs i j d h1 hj).2)
                rwa [hel] at this
              · have h1 := hB.slice (elems.map (·.1)) (rest.map (·.1))
                have h2 := hbulk (List.range len) elems (by simp [m1]) (fun i k x hk hx => by
                  have hl := lt_of_get hk
                  simp at hl
                  simp [hl] at hk
                  subst hk
                  obtain ⟨y, hy, hle⟩ := (hf i hl).2.2.2
                  rw [hx] at hy; cases hy; exact hle)
                simp only [bulkD, es]
                omega
            · cases h
        · simp [DataW.trodStep, hu] at h
      · cases hf
    · -- struct
      rename_i fs hu
      split at hf
      rotate_left
      · cases hf
      rename_i ts' hf'
      simp only [Option.ite_none_right_eq_some, Option.some.injEq] at hf
      obtain ⟨hcel, rfl⟩ := hf
      have hX : ∃ xs, fs.toList.mapM (fun f => DataW.trod enc P w base spare held fuel f.type ((cs.drop f.offset).take (P.cellsOf f.type))) = some xs ∧ dw = .agg (xs.map (·.1)) ∧ cs.length = P.cellsOf t := by
        have : DataW.trodStep enc P w base spare held (DataW.trod enc P w base spare held fuel) t cs = if cs.length = P.cellsOf t then (fs.toList.mapM fun f => DataW.trod enc P w base spare held fuel f.type ((cs.drop f.offset).take (P.cellsOf f.type))).map fun xs => (.agg (xs.map (·.1)), xs.flatMap (·.2)) else none := by
          unfold DataW.trodStep
          rw [hu]
        rw [this] at h
        split at h
        · rename_i hl
          simp only [Option.map_eq_some_iff] at h
          obtain ⟨xs, hxs, h⟩ := h
          cases h
          exact ⟨xs, hxs, rfl, hl⟩
        · cases h
      obtain ⟨xs, hxs, rfl, hl⟩ := hX
      have key : ∀ (l : List Field) (off : Nat) (ts : List Ty) (xs : List (DataW H × List MemPlace)), flatFs P (flat P n) l off = some ts → l.mapM (fun f => DataW.trod enc P w base spare held fuel f.type ((cs.drop f.offset).take (P.cellsOf f.type))) = some xs →
          ∃ ds, TFitsL ts ds ∧ CellsRD w ds ((cs.drop off).take ts.length) ∧ bulkL ds ≤ ((xs.map (·.1)).map bw).sum := by
        intro l
        induction l with
        | nil =>
          intro off ts xs h1 h2
          simp [flatFs] at h1; subst h1
          simp at h2; subst h2
          exact ⟨[], ⟨rfl, by simp⟩, ⟨by simp, by simp⟩, by simp [bulkL]⟩
        | cons f l ih =>
          intro off ts xs h1 h2
          simp only [flatFs] at h1
          split at h1
          · rename_i ta hta
            simp only [Option.ite_none_right_eq_some, Option.map_eq_some_iff] at h1
            obtain ⟨⟨ho, hcl⟩, tr, htr, rfl⟩ := h1
            simp only [List.mapM_cons, Option.bind_eq_bind, Option.bind_eq_some_iff, Option.pure_def, Option.some.injEq] at h2
            obtain ⟨x, hx, xs', hxs', rfl⟩ := h2
            obtain ⟨d1, a1, a2, a3⟩ := trod_fits hB n f.type ta fuel _ x.1 x.2 hta hx
            obtain ⟨d2, b1, b2, b3⟩ := ih (off + ta.length) tr xs' htr hxs'
            refine ⟨d1 ++ d2, a1.append b1, ?_, by rw [bulkL_append]; simp only [List.map_cons, List.sum_cons]; omega⟩
            have e : (cs.drop off).take (ta ++ tr).length = ((cs.drop f.offset).take (P.cellsOf f.type)) ++ ((cs.drop (off + ta.length)).take tr.length) := by
              rw [ho, hcl, List.length_append, ← List.drop_drop, List.take_add]
            rw [e]
            exact a2.append b2
          · cases h1
      obtain ⟨ds, k1, k2, k3⟩ := key fs.toList 0 _ xs hf' hxs
      refine ⟨ds, k1, ?_, by have := hB.agg (xs.map (·.1)); omega⟩
      have hlen := k2.1
      have : (cs.drop 0).take ts'.length = cs := by
        rw [List.drop_zero, List.take_of_length_le (by omega)]
      rwa [this] at k2
    · cases hf
end

open Go.ChangeShapes Go.WideShapes Go.ChangeAt Go.RowKit

def loc0 : Loc := { a := ⟨0, 0, none⟩ }
def argA (g : Bool) (ds : List D) : AV :=
  match g with
  | true => .agg (ds.map .d)
  | false => .d (ds.headD .nilp)
def ArgsOk : List (Bool × List Ty) → List AV → Nat → Prop
  | [], as0, _ => as0 = []
  | (g, ty) :: r, as0, n => ∃ ds as' m, TFitsL ty ds ∧ bulkL ds + m ≤ n ∧ as0 = argA g ds :: as' ∧ ArgsOk r as' m
def parOf (P : Program) (t : TypeId) : Option (Bool × List Ty) :=
  match aggB P t, flat P 24 t with
  | some g, some ts => if g || ts.length == 1 then some (g, ts) else none
  | _, _ => none

section

variable {H : Type} {enc : TypeId × Value → H} {P : Program} {W : World} {sp : Nat → Bool} {held : Bool} {bw : DataW H → Nat}

theorem cells_one_of {t : TypeId} {v : Value} {w : World} {r : Reach} {b : Nat} (hok : Value.okWide P w r b t v) (hg : aggB P t = some false) (ts : List Ty) (hts : flat P 24 t = some ts) : v.cells.toList = [v] := by
  unfold aggB at hg
  unfold Value.okWide at hok
  cases hu : P.underlying t with
  | none => simp [hu] at hg
  | some d =>
    rw [hu] at hg hok
    cases d <;> simp at hg <;> simp only at hok <;> cases v <;> first | rfl | (simp [Cell.okWide, Cell.ok, hu] at hok; done)

theorem args_ok (hB : IsBulk bw) : ∀ (ts : List TypeId) (pars : List (Bool × List Ty)) (vs : List Value) (dws : List (DataW H)) (ps : List MemPlace), ts.mapM (parOf P) = some pars →
    DataW.TrodAll enc P W 0 sp held ts vs dws ps → (∀ (j : Nat) t v, ts[j]? = some t → vs[j]? = some v → ∃ b, Value.okWide P W .any b t v) →
    ∃ as0, ArgsOk pars as0 (dws.map bw).sum ∧ RVs W (fun _ => loc0) [] as0 vs
  | [], pars, vs, dws, ps, h1, h2, h3 => by
    simp at h1; subst h1
    cases vs <;> cases dws <;> simp [DataW.TrodAll] at h2
    exact ⟨[], rfl, rfl, by simp⟩
  | t :: ts, pars, vs, dws, ps, h1, h2, h3 => by
    simp only [List.mapM_cons, Option.bind_eq_bind, Option.bind_eq_some_iff, Option.pure_def, Option.some.injEq] at h1
    obtain ⟨⟨g, ty⟩, hp, pars', hps, rfl⟩ := h1
    obtain ⟨v, vs', d, ds', p, q, rfl, rfl, rfl, h4, h5⟩ := trodAll_cons h2
    obtain ⟨as0, ih1, ih2⟩ := args_ok hB ts pars' vs' ds' q hps h5 (fun j t v hj hv => h3 (j + 1) t v hj hv)
    unfold parOf at hp
    split at hp
    · rename_i g' ts' hag hfl
      simp only [Option.ite_none_right_eq_some, Option.some.injEq, Prod.mk.injEq] at hp
      obtain ⟨hc, rfl, rfl⟩ := hp
      obtain ⟨fuel, h4⟩ := h4
      obtain ⟨ds, k1, k2, k3⟩ := trod_fits hB 24 t _ fuel v.cells.toList d p hfl h4
      have hown : Own (fun _ => loc0) ([] : List AObj) = fun _ _ => False := by
        funext b o
        simp [Own]
      refine ⟨argA g' ds :: as0, ⟨ds, as0, _, k1, by simp only [List.map_cons, List.sum_cons]; exact Nat.add_le_add_right k3 _, rfl, ih1⟩, by have := ih2.1; simp [this], fun i a u ha hu => ?_⟩
      cases i with
      | succ i => exact ih2.2 i a u ha hu
      | zero =>
        simp at ha hu
        subst ha hu
        obtain ⟨b, hok⟩ := h3 0 t v rfl rfl
        cases g' with
        | false =>
          have hcv := cells_one_of hok hag _ hfl
          rw [hcv] at k2
          obtain ⟨x, rfl⟩ : ∃ x, ds = [x] := by
            have := k2.1
            match ds with
            | [x] => exact ⟨x, rfl⟩
            | [] => simp at this
            | _ :: _ :: _ => simp at this
          refine .d _ _ ?_
          rw [hown]
          exact k2.2 0 x v rfl rfl
        | true =>
          have hv : ∃ cs, v = .agg cs := by
            unfold aggB at hag
            unfold Value.okWide at hok
            split at hag
            · rename_i hu; rw [hu] at hok; obtain ⟨cs, h, _⟩ := hok; exact ⟨cs, h⟩
            · rename_i hu; rw [hu] at hok; obtain ⟨cs, h, _⟩ := hok; exact ⟨cs, h⟩
            · cases hag
            · cases hag
          obtain ⟨cs, rfl⟩ := hv
          have e : cs = cs.toList.toArray := by simp
          have k2' : CellsRD W ds cs.toList := k2
          show RV W _ [] (.agg (ds.map .d)) (.agg cs)
          rw [e]
          refine .agg _ _ (by have := k2'.1; simp at this ⊢; omega) fun i c u hc hu => ?_
          simp only [List.getElem?_map, Option.map_eq_some_iff] at hc
          obtain ⟨x, hx, rfl⟩ := hc
          refine .d _ _ ?_
          rw [hown]
          exact k2'.2 i x u hx hu
    · cases hp

theorem law_end {f : Func} {s : ChangeSpec} {w' : World} {args : Array Value} {v : Value} {ds gs : List (DataW H)} {before : List MemPlace}
    (hW : DataW.Whole enc P f.params.toList s.vars false W args.toList ds gs before) (hvars : s.vars = []) (hfn : s.fn H (ds ++ gs) = { results := [.lit (.bool true)], args := ds })
    (hlaid : laidOutB P = true) (hmaps : mapsRowed P = true) (hfull : ∀ t e, t < P.types.size → P.underlying t = some (.slice e) → 0 < P.cellsOf e) (hpar : ∀ t ∈ f.params.toList, t < P.types.size)
    {tb : TypeId} (hres : f.resultTypes = #[tb]) (htb : P.underlying tb = some .bool)
    (hb : Below W.heap.size W w') (hv : v = .bool true) : s.post enc P f false true false false W args v w' := by
  subst hv
  have hW0 := hW
  have hlt : ∀ p ∈ before, p.block < W.heap.size := fun p hp => hW0.lt p hp
  obtain ⟨p, q, hA, hV, hpq, hz, hn⟩ := hW
  rw [hvars] at hV
  have hgq : gs = [] ∧ q = [] := by
    cases gs with
    | nil => exact ⟨rfl, by simpa [DataW.TrodVars] using hV⟩
    | cons => simp [DataW.TrodVars] at hV
  obtain ⟨rfl, rfl⟩ := hgq
  rw [List.append_nil] at hpq
  have carry : ∀ {ts : List TypeId} {vs : List Value} {ds : List (DataW H)} {ps : List MemPlace} {sp : Nat → Bool}, DataW.TrodAll enc P W 0 sp true ts vs ds ps → (∀ x ∈ ps, W.sameAt w' x) → DataW.TrodAll enc P w' 0 sp true ts vs ds ps := by
    intro ts
    induction ts with
    | nil => intro vs ds ps sp h _; cases vs <;> cases ds <;> simp [DataW.TrodAll] at h ⊢; exact h
    | cons t ts ih =>
      intro vs ds ps sp h hs
      obtain ⟨v, vs', d, ds', p, q, rfl, rfl, rfl, ⟨n, h1⟩, h2⟩ := trodAll_cons h
      exact ⟨p, q, ⟨n, DataW.trod_carry n _ _ _ h1 (fun x hx => hs x (List.mem_append_left _ hx))⟩, ih h2 (fun x hx => hs x (List.mem_append_right _ hx)), rfl⟩
  have hargs : ∀ sp : Nat → Bool, (∀ x ∈ p, sp x.block = true) → DataW.TrodAll enc P w' 0 sp true f.params.toList args.toList ds p := fun sp hsp =>
    carry (DataW.TrodAll.respare (kids_rows hlaid hmaps) hfull hpar hA hsp) (fun x hx => hb.same (hlt x (by rw [hpq]; exact hx)))
  have hbool : ∀ (b : Nat) (sp : Nat → Bool) (hd : Bool), DataW.Trod enc P w' b sp hd tb (.bool true) (.lit (.bool true)) [] := fun b sp hd => ⟨1, by simp [DataW.trod, htb, Value.cells]⟩
  have hrl : (Value.bool true).resultList f.resultTypes.size = [.bool true] := by rw [hres]; rfl
  have hresT : ∀ (b : Nat) (sp : Nat → Bool) (hd : Bool), DataW.TrodAll enc P w' b sp hd f.resultTypes.toList ((Value.bool true).resultList f.resultTypes.size) [.lit (.bool true)] [] := fun b sp hd => by
    rw [hrl, hres]
    exact ⟨[], [], hbool b sp hd, rfl, rfl⟩
  refine ⟨ds, [], before, [], p, [], hW0, ?_, ?_, ?_, hb.frame _, fun h => by cases h⟩
  · rw [hfn]; exact hresT _ _ _
  · rw [hfn]; exact hargs _ (fun x hx => by have := hlt x (by rw [hpq]; exact hx); simpa using this)
  · rw [hvars, hfn]; simp [DataW.TrodVars]

theorem law_calls (hB : IsBulk bw) {f : FuncId} {fn : Func} {s : ChangeSpec} {args : Array Value} {ds gs : List (DataW H)} {before : List MemPlace} {base : Nat} {pars : List (Bool × List Ty)}
    (hval : ∀ (j : Nat) t v, fn.params[j]? = some t → args[j]? = some v → Value.okWide P W .any base t v)
    (hW : DataW.Whole enc P fn.params.toList s.vars false W args.toList ds gs before) (hpars : fn.params.toList.mapM (parOf P) = some pars) (hvars : s.vars = []) (hfn : s.fn H (ds ++ gs) = { results := [.lit (.bool true)], args := ds })
    (hlaid : laidOutB P = true) (hmaps : mapsRowed P = true) (hfull : ((List.range P.types.size).all fun t => match P.underlying t with | some (.slice e) => decide (0 < P.cellsOf e) | _ => true) = true) (hpar : (fn.params.toList.all fun t => decide (t < P.types.size)) = true)
    {tb : TypeId} (hres : fn.resultTypes = #[tb]) (htb : P.underlying tb = some .bool)
    (h : ∀ as0, ArgsOk pars as0 (ds.map bw).sum → ACall P f as0 [] fun r _ => r = .d (.bool true)) :
    Calls P f args W fun e W' => ∃ v, e = .returned v ∧ s.post enc P fn false true false false W args v W' := by
  have hW0 := hW
  obtain ⟨p, q, hA, hV, hpq, hz, hn⟩ := hW
  obtain ⟨as0, h1, h2⟩ := args_ok hB fn.params.toList pars args.toList ds p hpars hA (fun j t v hj hv => ⟨base, hval j t v (by simpa using hj) (by simpa using hv)⟩)
  have hS : Sim (fun _ => loc0) [] W := ⟨by simp, by simp⟩
  have := (h as0 h1).2 (fun _ => loc0) W args.toList hS h2
  rw [Array.toArray_toList] at this
  refine this.mono fun e W' he => ?_
  cases e with
  | panicked c => exact he.elim
  | outgrown => exact he.elim
  | returned v =>
    obtain ⟨L', σ', r, st, S', hr, rfl⟩ := he
    have hvb := hr.bool_inv
    have hb : Below W.heap.size W W' := ⟨st.os, st.tape, st.output, st.size, fun k hk => st.blk k hk (fun o => by simp [Own])⟩
    exact ⟨v, rfl, law_end hW0 hvars hfn hlaid hmaps (slices_full_of P hfull) (fun t ht => by simpa using List.all_eq_true.1 hpar t ht) hres htb hb hvb⟩
end

end Go.AW

/- Rows of the call's own that are let go: what they hold is data from then on. A function that only reads may be told of rows as of data. -/
import Derived.Test.YtdgcepphjnoalaaGreatAwEnd
set_option linter.all false
set_option linter.unusedSimpArgs false
set_option linter.unusedVariables false
namespace Go.AW

def allO {α : Type} : List (Option α) → Option (List α)
  | [] => some []
  | some a :: l => match allO l with | some r => some (a :: r) | none => none
  | none :: _ => none
theorem znK {α : Type} : ∀ {l : List (Option α)} {r : List α}, allO l = some r → r.length = l.length ∧ ∀ (i : Nat) a b, l[i]? = some a → r[i]? = some b → a = some b
  | [], r, h => by simp [allO] at h; subst h; simp
  | none :: l, r, h => by simp [allO] at h
  | some a :: l, r, h => by
    simp only [allO] at h
    split at h
    · rename_i r' hr
      cases h
      obtain ⟨h1, h2⟩ := znK hr
      refine ⟨by simp [h1], fun i x y hx hy => ?_⟩
      cases i with
      | zero => simp at hx hy; subst hx hy; rfl
      | succ i => simp at hx hy; exact h2 i x y hx hy
    · cases h
def frz (σ : List zc) (n₀ : Nat) : Nat → AV → Option D
  | _, .d x => some x
  | _, .own _ es => some (.slice es)
  | _, .exact es => some (.slice es)
  | n + 1, .rsl t g sz lo hi => match σ[t]? with
    | some (.row g' sz' cs) => if n₀ ≤ t ∧ g' = g ∧ sz' = sz then
        match allO (((cs.drop (lo * sz)).take ((hi - lo) * sz)).map (frz σ n₀ n)) with
        | some ds => some (.slice (zad sz (hi - lo) ds))
        | none => none
      else none
    | _ => none
  | _, _ => none
def frz1 (σ : List zc) (n₀ n : Nat) : AV → Option AV
  | .agg cs => match allO (cs.map (frz σ n₀ n)) with | some ds => some (.agg (ds.map .d)) | none => none
  | a => match frz σ n₀ n a with | some x => some (.d x) | none => none
def frzT (σ : List zc) (n₀ n : Nat) : AV → Option AV
  | .tup vs => match allO (vs.map (frz1 σ n₀ n)) with | some l => some (.tup l) | none => none
  | a => frz1 σ n₀ n a

section

variable {P : Program} {w : World} {L : Nat → Loc} {σ : List zc}

theorem frz_sound (S : Sim L σ w) {O : Nat → Nat → Prop} {n₀ : Nat} (hO : ∀ b o, O b o → Own L σ b o) (hno : ∀ t x, n₀ ≤ t → σ[t]? = some x → x.kind = 5 → ∀ b o, zdB (L t) x b o → ¬ O b o) :
    ∀ (n : Nat) (a : AV) (x : D) (v : Value), RV w L σ a v → frz σ n₀ n a = some x → RD w O x v := by
  intro n
  induction n with
  | zero =>
    intro a x v h hx
    cases h with
    | d _ _ h => simp [frz] at hx; subst hx; exact zfA hO h
    | own _ _ _ _ _ _ _ _ h => simp [frz] at hx; subst hx; exact zfA hO h
    | exact _ _ h => simp [frz] at hx; subst hx; exact zfA hO h
    | _ => simp [frz] at hx
  | succ n ih =>
    intro a x v h hx
    cases h with
    | d _ _ h => simp [frz] at hx; subst hx; exact zfA hO h
    | own _ _ _ _ _ _ _ _ h => simp [frz] at hx; subst hx; exact zfA hO h
    | exact _ _ h => simp [frz] at hx; subst hx; exact zfA hO h
    | rsl t g sz lo hi b c h1 h2 h3 h4 h5 h6 h7 =>
      simp only [frz] at hx
      split at hx
      · rename_i g' sz' cs hcs
        split at hx
        · rename_i hc
          obtain ⟨hn, rfl, rfl⟩ := hc
          split at hx
          · rename_i ds hds
            cases hx
            obtain ⟨a1, a2⟩ := znK hds
            obtain ⟨_, q2, q3, q4, q5⟩ := h7 sz' cs hcs
            obtain ⟨p0, ⟨m, p1, p1'⟩, p2, p3, p4, p5⟩ := S.obj t _ hcs
            have hmul : hi * sz' ≤ (L t).cap * sz' := Nat.mul_le_mul_right _ q3
            have hsub : lo * sz' + (hi - lo) * sz' = hi * sz' := by rw [← Nat.add_mul]; congr 1; omega
            have hdl : ds.length = (hi - lo) * sz' := by rw [a1]; simp; omega
            have hcl : (zad sz' (hi - lo) ds).length = hi - lo := zgw _ _ _
            rcases Nat.eq_zero_or_pos (hi - lo) with h0 | h0
            · rw [h0] at hcl ⊢
              rw [List.eq_nil_of_length_eq_zero hcl]
              exact .empty _ _ h5
            · rw [q5 (by omega)]
              have hch := zkQ sz' (hi - lo) ds hdl
              generalize hes : zad sz' (hi - lo) ds = es at hcl hch
              rw [← hcl]
              refine RD.of_block (sz := sz') (by rw [hcl]; exact h4) hch fun i e j d hi' hj => ?_
              rw [← hes] at hi'
              obtain ⟨c1, c2, c3⟩ := zjQ sz' (hi - lo) ds i e j d hi' hj
              have hlt := ze c3
              rw [hdl] at hlt
              have hc : cs[lo * sz' + (i * sz' + j)]? = some (cs[lo * sz' + (i * sz' + j)]'(by omega)) := List.getElem?_eq_getElem _
              obtain ⟨u, u1, u2⟩ := p5 _ _ hc
              refine ⟨u, by rw [Nat.add_assoc]; exact u1, hno t _ hn hcs rfl _ _ ⟨rfl, by omega, by omega⟩, ih _ d u u2 ?_⟩
              refine a2 (i * sz' + j) _ d ?_ c3
              rw [List.getElem?_map, List.getElem?_take, if_pos hlt, List.getElem?_drop, hc]
              rfl
          · cases hx
        · cases hx
      · cases hx
    | _ => simp [frz] at hx

theorem zqa (S : Sim L σ w) {L2 : Nat → Loc} {σ2 : List zc} {n₀ n : Nat} (hO : ∀ b o, Own L2 σ2 b o → Own L σ b o) (hno : ∀ t x, n₀ ≤ t → σ[t]? = some x → x.kind = 5 → ∀ b o, zdB (L t) x b o → ¬ Own L2 σ2 b o)
    {a r : AV} {v : Value} (h : RV w L σ a v) (hr : frz1 σ n₀ n a = some r) : RV w L2 σ2 r v := by
  have one : (match frz σ n₀ n a with | some x => some (AV.d x) | none => none) = some r → RV w L2 σ2 r v := fun hr => by
    split at hr
    · rename_i x hx
      cases hr
      exact .d _ _ (frz_sound S hO hno n a x v h hx)
    · cases hr
  cases a with
  | agg cs =>
    simp only [frz1] at hr
    split at hr
    · rename_i ds hds
      cases hr
      obtain ⟨vs, rfl, h1, h2⟩ := h.agg_inv
      obtain ⟨a1, a2⟩ := znK hds
      refine .agg _ _ (by simp at a1 ⊢; omega) fun i c u hc hu => ?_
      simp only [List.getElem?_map, Option.map_eq_some_iff] at hc
      obtain ⟨d, hd, rfl⟩ := hc
      have hlt := ze hd
      have hcs : cs[i]? = some (cs[i]'(by simp at a1; omega)) := List.getElem?_eq_getElem _
      exact .d _ _ (frz_sound S hO hno n _ d u (h2 i _ u hcs hu) (a2 i _ d (by rw [List.getElem?_map, hcs]; rfl) hd))
    · cases hr
  | _ => exact one hr
theorem zpZ (S : Sim L σ w) {L2 : Nat → Loc} {σ2 : List zc} {n₀ n : Nat} (hO : ∀ b o, Own L2 σ2 b o → Own L σ b o) (hno : ∀ t x, n₀ ≤ t → σ[t]? = some x → x.kind = 5 → ∀ b o, zdB (L t) x b o → ¬ Own L2 σ2 b o)
    {a r : AV} {v : Value} (h : RV w L σ a v) (hr : frzT σ n₀ n a = some r) : RV w L2 σ2 r v := by
  cases a with
  | tup cs =>
    simp only [frzT] at hr
    split at hr
    · rename_i l hl
      cases hr
      obtain ⟨vs, rfl, h1, h2⟩ := h.tup_inv
      obtain ⟨a1, a2⟩ := znK hl
      refine .tup _ _ (by simp at a1 ⊢; omega) fun i c u hc hu => ?_
      have hlt := ze hc
      have hcs : cs[i]? = some (cs[i]'(by simp at a1; omega)) := List.getElem?_eq_getElem _
      exact zqa S hO hno (h2 i _ u hcs hu) (a2 i _ c (by rw [List.getElem?_map, hcs]; rfl) hc)
    · cases hr
  | _ => exact zqa S hO hno h hr

def EndsF (m n : Nat) (K : AV → List zc → Prop) (out : Option (List AV)) (σ' : List zc) : Prop :=
  match out with
  | some l => match frzT σ' n m (zdg l) with
    | some r => zfz n (σ'.take n) ∧ K r (σ'.take n)
    | none => False
  | none => False
theorem acall_frz {f : FuncId} {F : AF} {na : Nat} (hF : isFn P f F na) {as0 : List AV} (has : as0.length = na) {K : AV → List zc → Prop} (m : Nat)
    (h : zfz σ.length σ → (∀ a ∈ as0, Low σ.length a) → awp P F.body (AtEnd fun fr' σ' => EndsF m σ.length K (zno fr' σ' F.res) σ') (zgU 0 as0) σ) : zl P f as0 σ K :=
  zjx hF has _ (fun {L w L' σ' w' fr' ts} S st S' F' hz => by
    unfold EndsF at hz
    split at hz
    · rename_i l hl
      split at hz
      · rename_i r hr
        obtain ⟨z2, z3⟩ := hz
        refine ⟨L', _, l, r, hl, st.take, S'.take z2, fun v hv => zpZ S' (fun b o => zll) (fun t x ht hx hk b o hf hown => ?_) hv hr, z3⟩
        obtain ⟨id, y, hy, hfy⟩ := hown
        rw [List.getElem?_take] at hy
        split at hy
        · rename_i hid
          exact S'.apart id t y x b o (by omega) hy hx hfy hf
        · cases hy
      · exact hz.elim
    · exact hz.elim) h

theorem endsF_app {τ : List zc} {K : AV → List zc → Prop} {l : List AV} {m : Nat} {r : AV} (hr : frzT (σ ++ τ) σ.length m (zdg l) = some r) (hl : zfz σ.length σ) (h : K r σ) : EndsF m σ.length K (some l) (σ ++ τ) := by
  simp only [EndsF, hr, zid]
  exact ⟨hl, h⟩
end

section
variable {P : Program} {σ : List zc}

theorem renId_range {n m id : Nat} (h : id < n + m) : zkz n (List.range' n m) id = some id := by
  unfold zkz
  split
  · rfl
  · rename_i hn
    have : ∀ (m a : Nat), a ≤ id → id < a + m → idxK (List.range' a m) id a = some id := by
      intro m
      induction m with
      | zero => intro a h1 h2; omega
      | succ m ih =>
        intro a h1 h2
        simp only [List.range'_succ, idxK]
        by_cases e : a = id
        · subst e; simp
        · have e' : ¬ id = a := fun h => e h.symm
          first
            | (rw [if_neg e]; exact ih (a + 1) (by omega) (by omega))
            | (rw [if_neg e']; exact ih (a + 1) (by omega) (by omega))
    exact this m n (by omega) h
theorem zpY : ∀ (os : List zc) (σ τ : List zc), getL (σ ++ (os ++ τ)) (List.range' σ.length os.length) = some os
  | [], σ, τ => rfl
  | x :: os, σ, τ => by
    simp only [List.length_cons, List.range'_succ, getL]
    have h1 : (σ ++ (x :: os ++ τ))[σ.length]? = some x := by rw [List.getElem?_append_right (Nat.le_refl _), Nat.sub_self]; rfl
    rw [h1]
    have h2 := zpY os (σ ++ [x]) τ
    simp only [List.length_append, List.length_cons, List.length_nil, Nat.zero_add, List.append_assoc, List.cons_append, List.nil_append] at h2
    simp only [List.cons_append]
    rw [h2]
theorem renOs_low {n : Nat} {f : Nat → Option Nat} (hf : ∀ id, id < n → f id = some id) : ∀ {l : List zc}, (∀ x ∈ l, zqv n x) → znZ f l = some l
  | [], _ => rfl
  | x :: l, h => by simp only [znZ, renO_low hf (h x List.mem_cons_self), renOs_low hf fun y hy => h y (List.mem_cons_of_mem _ hy)]

theorem zne {n : Nat} {σ' os τ : List zc} {ks : List zc → List Nat} {K : AV → List zc → Prop} {l : List AV} (hn : σ'.length = n) (hks : ks (σ' ++ (os ++ τ)) = List.range' n os.length) (hl : zfz n σ') (hos : ∀ x ∈ os, zqv (n + os.length) x)
    (hr : Low (n + os.length) (zdg l)) (h : K (zdg l) (σ' ++ os)) : zlR n ks K (some l) (σ' ++ (os ++ τ)) := by
  subst hn
  unfold zlR zro
  rw [hks]
  have ht : (σ' ++ (os ++ τ)).take σ'.length = σ' := zid _ _
  simp only [zpY, ht]
  have hf : ∀ id, id < σ'.length + os.length → zkz σ'.length (List.range' σ'.length os.length) id = some id := fun id h => renId_range h
  refine ⟨by simp, hl, fun k hk => by simp [List.mem_range'_1] at hk; exact hk.1, List.nodup_range', ?_⟩
  rw [renOs_low hf hos, zli hf hr]
  exact h
theorem zcL {n : Nat} {σ' os : List zc} {ks : List zc → List Nat} {K : AV → List zc → Prop} {l : List AV} (hn : σ'.length = n) (hks : ks (σ' ++ os) = List.range' n os.length) (hl : zfz n σ') (hos : ∀ x ∈ os, zqv (n + os.length) x)
    (hr : Low (n + os.length) (zdg l)) (h : K (zdg l) (σ' ++ os)) : zlR n ks K (some l) (σ' ++ os) := by
  have := zne (os := os) (τ := []) (ks := ks) (K := K) hn (by simpa using hks) hl hos hr h
  simpa using this

theorem zl.weaken {f : FuncId} {xs : List AV} {K : AV → List zc → Prop} (h : zl P f xs σ fun r s => ∃ r' s', zlV [r] s [r'] s' ∧ K r' s') : zl P f xs σ K :=
  ⟨h.1, fun L w vs S hv => (h.2 L w vs S hv).mono fun e w' he => by
    cases e with
    | panicked _ => exact he
    | outgrown => exact he
    | returned v =>
      obtain ⟨L', σ', r, st, S', hr, r', s', hw, hK⟩ := he
      obtain ⟨L2, st2, S2, hv2⟩ := zhB hw S' (us := [v]) ⟨rfl, fun i c u hc hu => by cases i <;> simp at hc hu; subst hc hu; exact hr⟩
      exact ⟨L2, s', r', st.trans st2, S2, hv2.2 0 r' v rfl rfl, hK⟩⟩

theorem zl.dm {f : FuncId} {xs : List AV} {K : AV → List zc → Prop} (h : zl P f (xs.map AW.dm) σ K) : zl P f xs σ K :=
  ⟨h.1, fun L w vs S hv => h.2 L w vs S ⟨by rw [List.length_map]; exact hv.1, fun i a v ha hu => by
    simp only [List.getElem?_map, Option.map_eq_some_iff] at ha
    obtain ⟨a', ha', rfl⟩ := ha
    exact znF (hv.2 i a' v ha' hu)⟩⟩

theorem zl.pre {f : FuncId} {xs xs' : List AV} {σ' : List zc} {K : AV → List zc → Prop} (hw : zlV xs σ xs' σ') (h : zl P f xs' σ' K) : zl P f xs σ K :=
  ⟨h.1, fun L w vs S hv => by
    obtain ⟨L1, st, S1, hv1⟩ := zhB hw S hv
    refine (h.2 L1 w vs S1 hv1).mono fun e w' he => ?_
    cases e with
    | panicked _ => exact he
    | outgrown => exact he
    | returned v =>
      obtain ⟨L', s', r, st', S', hr, hK⟩ := he
      exact ⟨L', s', r, st.trans st', S', hr, hK⟩⟩
def EndsW (n : Nat) (K : AV → List zc → Prop) (out : Option (List AV)) (σ' : List zc) : Prop := ∃ s, zlV [] σ' [] s ∧ Ends n K out s
theorem zoQ {f : FuncId} {F : AF} {na : Nat} (hF : isFn P f F na) {as0 : List AV} (has : as0.length = na) {K : AV → List zc → Prop}
    (h : zfz σ.length σ → (∀ a ∈ as0, Low σ.length a) → awp P F.body (AtEnd fun fr' σ' => EndsW σ.length K (zno fr' σ' F.res) σ') (zgU 0 as0) σ) : zl P f as0 σ K :=
  zjx hF has _ (fun {L w L' σ' w' fr' ts} S st S' F' hz => by
    obtain ⟨s, hw, hz⟩ := hz
    obtain ⟨L2, st2, S2, _⟩ := zhB hw S' (us := []) ⟨rfl, by simp⟩
    unfold Ends at hz
    split at hz
    · rename_i l hl
      obtain ⟨z1, z2, z3⟩ := hz
      exact ⟨L2, _, l, dmT (zdg l), hl, (st.trans st2).take, S2.take z2, fun v hr => (zoE (st2.rv hr)).take z1, z3⟩
    · exact hz.elim) h
theorem zqW {n : Nat} {K : AV → List zc → Prop} {out : Option (List AV)} (h : Ends n K out σ) : EndsW n K out σ := ⟨σ, .refl _ _, h⟩

theorem zfz.setO {n : Nat} (h : zfz n σ) {id : Nat} {x : zc} (hx : zqv n x) : zfz n (σ.set id x) := zfz.set h hx
theorem zfp {τ : List zc} {id : Nat} {x : zc} {K : AV → List zc → Prop} {l : List AV} (h1 : Low σ.length (dmT (zdg l))) (hl : zfz σ.length σ) (hx : zqv σ.length x) (h : K (dmT (zdg l)) (σ.set id x)) : Ends σ.length K (some l) (σ.set id x ++ τ) := by
  unfold Ends
  have : (σ.set id x ++ τ).take σ.length = σ.set id x := by
    have e : (σ.set id x).length = σ.length := List.length_set
    rw [← e]; exact zid _ _
  rw [this]
  exact ⟨h1, hl.setO hx, h⟩
theorem zis {id : Nat} {x : zc} {K : AV → List zc → Prop} {l : List AV} (h1 : Low σ.length (dmT (zdg l))) (hl : zfz σ.length σ) (hx : zqv σ.length x) (h : K (dmT (zdg l)) (σ.set id x)) : Ends σ.length K (some l) (σ.set id x) := by
  have := zfp (τ := []) h1 hl hx h
  simpa using this
theorem zdP {α : Type} {σ : List α} {id : Nat} {x : α} (h : σ[id]? = some x) : σ.set id x = σ := by
  obtain ⟨hl, hh⟩ := List.getElem?_eq_some_iff.1 h
  rw [← hh]; exact List.set_getElem_self hl
theorem zhb {α : Type} {σ : List α} {id : Nat} {x y : α} (h : σ[id]? = some x) : (σ.set id y)[id]? = some y := by
  simp [(List.getElem?_eq_some_iff.1 h).1]
theorem zbR {α : Type} {σ : List α} {id : Nat} {x : α} (h : σ[id]? = some x) : id < σ.length := (List.getElem?_eq_some_iff.1 h).1
end

end Go.AW

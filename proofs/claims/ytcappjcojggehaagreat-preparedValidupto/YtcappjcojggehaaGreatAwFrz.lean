/- Rows of the call's own that are let go: what they hold is data from then on. A function that only reads may be told of rows as of data. -/
import Derived.Test.YtcappjcojggehaaGreatAwEnd
set_option linter.all false
set_option linter.unusedSimpArgs false
set_option linter.unusedVariables false
namespace Go.AW

section

variable {P : Program} {w : World} {L : Nat → Loc} {σ : List AObj}

end

end Go.AW

/- Ends of calls: what was made first stays; what a contract leaves may be told otherwise. -/
set_option linter.unusedSimpArgs false
set_option linter.unusedVariables false
namespace Go.AW
section
variable {P : Program} {σ : List AObj}

theorem renId_range {n m id : Nat} (h : id < n + m) : renId n (List.range' n m) id = some id := by
  unfold renId
  split
  · rfl
  · rename_i hn
    have : ∀ (m a : Nat), a ≤ id → id < a + m → idxK (List.range' a m) id a = some id := by
      intro m
      induction m with
      | zero => intro a h1 h2; omega
      | succ m ih =>
        intro a h1 h2
        simp only [List.range'_succ, idxK]
        by_cases e : a = id
        · subst e; simp
        · have e' : ¬ id = a := fun h => e h.symm
          first
            | (rw [if_neg e]; exact ih (a + 1) (by omega) (by omega))
            | (rw [if_neg e']; exact ih (a + 1) (by omega) (by omega))
    exact this m n (by omega) h
theorem znc : ∀ (os : List AObj) (σ τ : List AObj), getL (σ ++ (os ++ τ)) (List.range' σ.length os.length) = some os
  | [], σ, τ => rfl
  | x :: os, σ, τ => by
    simp only [List.length_cons, List.range'_succ, getL]
    have h1 : (σ ++ (x :: os ++ τ))[σ.length]? = some x := by rw [List.getElem?_append_right (Nat.le_refl _), Nat.sub_self]; rfl
    rw [h1]
    have h2 := znc os (σ ++ [x]) τ
    simp only [List.length_append, List.length_cons, List.length_nil, Nat.zero_add, List.append_assoc, List.cons_append, List.nil_append] at h2
    simp only [List.cons_append]
    rw [h2]
theorem renOs_low {n : Nat} {f : Nat → Option Nat} (hf : ∀ id, id < n → f id = some id) : ∀ {l : List AObj}, (∀ x ∈ l, LowO n x) → renOs f l = some l
  | [], _ => rfl
  | x :: l, h => by simp only [renOs, renO_low hf (h x List.mem_cons_self), renOs_low hf fun y hy => h y (List.mem_cons_of_mem _ hy)]

/-- AN END THAT KEEPS what was made first; the caller's objects as they are now -/
theorem zgq {n : Nat} {σ' os τ : List AObj} {ks : List AObj → List Nat} {K : AV → List AObj → Prop} {l : List AV} (hn : σ'.length = n) (hks : ks (σ' ++ (os ++ τ)) = List.range' n os.length) (hl : Lows n σ') (hos : ∀ x ∈ os, LowO (n + os.length) x)
    (hr : Low (n + os.length) (pack l)) (h : K (pack l) (σ' ++ os)) : EndsK n ks K (some l) (σ' ++ (os ++ τ)) := by
  subst hn
  unfold EndsK EndsL
  rw [hks]
  have ht : (σ' ++ (os ++ τ)).take σ'.length = σ' := zeZ _ _
  simp only [znc, ht]
  have hf : ∀ id, id < σ'.length + os.length → renId σ'.length (List.range' σ'.length os.length) id = some id := fun id h => renId_range h
  refine ⟨by simp, hl, fun k hk => by simp [List.mem_range'_1] at hk; exact hk.1, List.nodup_range', ?_⟩
  rw [renOs_low hf hos, zin hf hr]
  exact h
theorem zcx {n : Nat} {σ' os : List AObj} {ks : List AObj → List Nat} {K : AV → List AObj → Prop} {l : List AV} (hn : σ'.length = n) (hks : ks (σ' ++ os) = List.range' n os.length) (hl : Lows n σ') (hos : ∀ x ∈ os, LowO (n + os.length) x)
    (hr : Low (n + os.length) (pack l)) (h : K (pack l) (σ' ++ os)) : EndsK n ks K (some l) (σ' ++ os) := by
  have := zgq (os := os) (τ := []) (ks := ks) (K := K) hn (by simpa using hks) hl hos hr h
  simpa using this

/-- WHAT A CONTRACT LEAVES may be told otherwise -/
theorem ACall.weaken {f : FuncId} {xs : List AV} {K : AV → List AObj → Prop} (h : ACall P f xs σ fun r s => ∃ r' s', Weak [r] s [r'] s' ∧ K r' s') : ACall P f xs σ K :=
  ⟨h.1, fun L w vs S hv => (h.2 L w vs S hv).mono fun e w' he => by
    cases e with
    | panicked _ => exact he
    | outgrown => exact he
    | returned v =>
      obtain ⟨L', σ', r, st, S', hr, r', s', hw, hK⟩ := he
      obtain ⟨L2, st2, S2, hv2⟩ := zgM hw S' (us := [v]) ⟨rfl, fun i c u hc hu => by cases i <;> simp at hc hu; subst hc hu; exact hr⟩
      exact ⟨L2, s', r', st.trans st2, S2, hv2.2 0 r' v rfl rfl, hK⟩⟩

/-- a contract told less of its arguments -/
theorem ACall.dm {f : FuncId} {xs : List AV} {K : AV → List AObj → Prop} (h : ACall P f (xs.map AW.dm) σ K) : ACall P f xs σ K :=
  ⟨h.1, fun L w vs S hv => h.2 L w vs S ⟨by rw [List.length_map]; exact hv.1, fun i a v ha hu => by
    simp only [List.getElem?_map, Option.map_eq_some_iff] at ha
    obtain ⟨a', ha', rfl⟩ := ha
    exact zla (hv.2 i a' v ha' hu)⟩⟩

/-- what is known may be told otherwise ahead of a call -/
theorem ACall.pre {f : FuncId} {xs xs' : List AV} {σ' : List AObj} {K : AV → List AObj → Prop} (hw : Weak xs σ xs' σ') (h : ACall P f xs' σ' K) : ACall P f xs σ K :=
  ⟨h.1, fun L w vs S hv => by
    obtain ⟨L1, st, S1, hv1⟩ := zgM hw S hv
    refine (h.2 L1 w vs S1 hv1).mono fun e w' he => ?_
    cases e with
    | panicked _ => exact he
    | outgrown => exact he
    | returned v =>
      obtain ⟨L', s', r, st', S', hr, hK⟩ := he
      exact ⟨L', s', r, st.trans st', S', hr, hK⟩⟩
/-- AN END at which objects are told otherwise -/
def EndsW (n : Nat) (K : AV → List AObj → Prop) (out : Option (List AV)) (σ' : List AObj) : Prop := ∃ s, Weak [] σ' [] s ∧ Ends n K out s
theorem acall_ofW {f : FuncId} {F : AF} (hF : isF P f F) {as : List AV} (has : as.length = F.nargs) {K : AV → List AObj → Prop}
    (h : Lows σ.length σ → (∀ a ∈ as, Low σ.length a) → awp P F.body (AtEnd fun fr' σ' => EndsW σ.length K (resAs fr' σ' F.res) σ') (zB 0 as) σ) : ACall P f as σ K :=
  zma hF has _ (fun {L w L' σ' w' fr' ts} S st S' F' hz => by
    obtain ⟨s, hw, hz⟩ := hz
    obtain ⟨L2, st2, S2, _⟩ := zgM hw S' (us := []) ⟨rfl, by simp⟩
    unfold Ends at hz
    split at hz
    · rename_i l hl
      obtain ⟨z1, z2, z3⟩ := hz
      exact ⟨L2, _, l, dmT (pack l), hl, (st.trans st2).take, S2.take z2, fun v hr => (dmT_sound (st2.rv hr)).take z1, z3⟩
    · exact hz.elim) h
theorem zgV {n : Nat} {K : AV → List AObj → Prop} {out : Option (List AV)} (h : Ends n K out σ) : EndsW n K out σ := ⟨σ, .refl _ _, h⟩

theorem Lows.setO {n : Nat} (h : Lows n σ) {id : Nat} {x : AObj} (hx : LowO n x) : Lows n (σ.set id x) := Lows.set h hx
/-- the end of a call that hands back data and has written into one of its caller's objects -/
theorem ends_wrote {τ : List AObj} {id : Nat} {x : AObj} {K : AV → List AObj → Prop} {l : List AV} (h1 : Low σ.length (dmT (pack l))) (hl : Lows σ.length σ) (hx : LowO σ.length x) (h : K (dmT (pack l)) (σ.set id x)) : Ends σ.length K (some l) (σ.set id x ++ τ) := by
  unfold Ends
  have : (σ.set id x ++ τ).take σ.length = σ.set id x := by
    have e : (σ.set id x).length = σ.length := List.length_set
    rw [← e]; exact zeZ _ _
  rw [this]
  exact ⟨h1, hl.setO hx, h⟩
theorem zaX {α : Type} {σ : List α} {id : Nat} {x : α} (h : σ[id]? = some x) : σ.set id x = σ := by
  obtain ⟨hl, hh⟩ := List.getElem?_eq_some_iff.1 h
  rw [← hh]; exact List.set_getElem_self hl
theorem zen {α : Type} {σ : List α} {id : Nat} {x y : α} (h : σ[id]? = some x) : (σ.set id y)[id]? = some y := by
  simp [(List.getElem?_eq_some_iff.1 h).1]
theorem zgf {α : Type} {σ : List α} {id : Nat} {x : α} (h : σ[id]? = some x) : id < σ.length := (List.getElem?_eq_some_iff.1 h).1
end

end Go.AW

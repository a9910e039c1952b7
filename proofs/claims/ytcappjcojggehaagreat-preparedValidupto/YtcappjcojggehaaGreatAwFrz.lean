/- Rows of the call's own that are let go: what they hold is data from then on. A function that only reads may be told of rows as of data. -/
import Derived.Test.YtcappjcojggehaaGreatAwEnd
set_option linter.all false
set_option linter.unusedSimpArgs false
set_option linter.unusedVariables false
namespace Go.AW

section

variable {P : Program} {w : World} {L : Nat → Loc} {σ : List zb}

end

end Go.AW

/- zoW of calls: what was made first zjX; what a contract leaves may be told otherwise. -/
set_option linter.unusedSimpArgs false
set_option linter.unusedVariables false
namespace Go.AW
section
variable {P : Program} {σ : List zb}

theorem renId_range {n m id : Nat} (h : id < n + m) : ziL n (List.range' n m) id = some id := by
  unfold ziL
  split
  · rfl
  · rename_i hn
    have : ∀ (m a : Nat), a ≤ id → id < a + m → idxK (List.range' a m) id a = some id := by
      intro m
      induction m with
      | zero => intro a h1 h2; omega
      | succ m ih =>
        intro a h1 h2
        simp only [List.range'_succ, idxK]
        by_cases e : a = id
        · subst e; simp
        · have e' : ¬ id = a := fun h => e h.symm
          first
            | (rw [if_neg e]; exact ih (a + 1) (by omega) (by omega))
            | (rw [if_neg e']; exact ih (a + 1) (by omega) (by omega))
    exact this m n (by omega) h
theorem znw : ∀ (os : List zb) (σ τ : List zb), getL (σ ++ (os ++ τ)) (List.range' σ.length os.length) = some os
  | [], σ, τ => rfl
  | x :: os, σ, τ => by
    simp only [List.length_cons, List.range'_succ, getL]
    have h1 : (σ ++ (x :: os ++ τ))[σ.length]? = some x := by rw [List.getElem?_append_right (Nat.le_refl _), Nat.sub_self]; rfl
    rw [h1]
    have h2 := znw os (σ ++ [x]) τ
    simp only [List.length_append, List.length_cons, List.length_nil, Nat.zero_add, List.append_assoc, List.cons_append, List.nil_append] at h2
    simp only [List.cons_append]
    rw [h2]
theorem renOs_low {n : Nat} {f : Nat → Option Nat} (hf : ∀ id, id < n → f id = some id) : ∀ {l : List zb}, (∀ x ∈ l, zoU n x) → zlG f l = some l
  | [], _ => rfl
  | x :: l, h => by simp only [zlG, renO_low hf (h x List.mem_cons_self), renOs_low hf fun y hy => h y (List.mem_cons_of_mem _ hy)]

theorem zhF {n : Nat} {σ' os τ : List zb} {ks : List zb → List Nat} {K : AV → List zb → Prop} {l : List AV} (hn : σ'.length = n) (hks : ks (σ' ++ (os ++ τ)) = List.range' n os.length) (hl : zfz n σ') (hos : ∀ x ∈ os, zoU (n + os.length) x)
    (hr : Low (n + os.length) (zcV l)) (h : K (zcV l) (σ' ++ os)) : zmM n ks K (some l) (σ' ++ (os ++ τ)) := by
  subst hn
  unfold zmM zoV
  rw [hks]
  have ht : (σ' ++ (os ++ τ)).take σ'.length = σ' := zgn _ _
  simp only [znw, ht]
  have hf : ∀ id, id < σ'.length + os.length → ziL σ'.length (List.range' σ'.length os.length) id = some id := fun id h => renId_range h
  refine ⟨by simp, hl, fun k hk => by simp [List.mem_range'_1] at hk; exact hk.1, List.nodup_range', ?_⟩
  rw [renOs_low hf hos, zjf hf hr]
  exact h
theorem zdu {n : Nat} {σ' os : List zb} {ks : List zb → List Nat} {K : AV → List zb → Prop} {l : List AV} (hn : σ'.length = n) (hks : ks (σ' ++ os) = List.range' n os.length) (hl : zfz n σ') (hos : ∀ x ∈ os, zoU (n + os.length) x)
    (hr : Low (n + os.length) (zcV l)) (h : K (zcV l) (σ' ++ os)) : zmM n ks K (some l) (σ' ++ os) := by
  have := zhF (os := os) (τ := []) (ks := ks) (K := K) hn (by simpa using hks) hl hos hr h
  simpa using this

theorem zK.weaken {f : FuncId} {xs : List AV} {K : AV → List zb → Prop} (h : zK P f xs σ fun r s => ∃ r' s', zld [r] s [r'] s' ∧ K r' s') : zK P f xs σ K :=
  ⟨h.1, fun L w vs S hv => (h.2 L w vs S hv).mono fun e w' he => by
    cases e with
    | panicked _ => exact he
    | outgrown => exact he
    | returned v =>
      obtain ⟨L', σ', r, st, S', hr, r', s', hw, hK⟩ := he
      obtain ⟨L2, st2, S2, hv2⟩ := zid hw S' (us := [v]) ⟨rfl, fun i c u hc hu => by cases i <;> simp at hc hu; subst hc hu; exact hr⟩
      exact ⟨L2, s', r', st.trans st2, S2, hv2.2 0 r' v rfl rfl, hK⟩⟩

theorem zK.dm {f : FuncId} {xs : List AV} {K : AV → List zb → Prop} (h : zK P f (xs.map AW.dm) σ K) : zK P f xs σ K :=
  ⟨h.1, fun L w vs S hv => h.2 L w vs S ⟨by rw [List.length_map]; exact hv.1, fun i a v ha hu => by
    simp only [List.getElem?_map, Option.map_eq_some_iff] at ha
    obtain ⟨a', ha', rfl⟩ := ha
    exact zlt (hv.2 i a' v ha' hu)⟩⟩

theorem zK.pre {f : FuncId} {xs xs' : List AV} {σ' : List zb} {K : AV → List zb → Prop} (hw : zld xs σ xs' σ') (h : zK P f xs' σ' K) : zK P f xs σ K :=
  ⟨h.1, fun L w vs S hv => by
    obtain ⟨L1, st, S1, hv1⟩ := zid hw S hv
    refine (h.2 L1 w vs S1 hv1).mono fun e w' he => ?_
    cases e with
    | panicked _ => exact he
    | outgrown => exact he
    | returned v =>
      obtain ⟨L', s', r, st', S', hr, hK⟩ := he
      exact ⟨L', s', r, st.trans st', S', hr, hK⟩⟩
def EndsW (n : Nat) (K : AV → List zb → Prop) (out : Option (List AV)) (σ' : List zb) : Prop := ∃ s, zld [] σ' [] s ∧ zoW n K out s
theorem acall_ofW {f : FuncId} {F : AF} {na : Nat} (hF : isFn P f F na) {as : List AV} (has : as.length = na) {K : AV → List zb → Prop}
    (h : zfz σ.length σ → (∀ a ∈ as, Low σ.length a) → awp P F.body (AtEnd fun fr' σ' => EndsW σ.length K (zmR fr' σ' F.res) σ') (zgJ 0 as) σ) : zK P f as σ K :=
  zmx hF has _ (fun {L w L' σ' w' fr' ts} S st S' F' hz => by
    obtain ⟨s, hw, hz⟩ := hz
    obtain ⟨L2, st2, S2, _⟩ := zid hw S' (us := []) ⟨rfl, by simp⟩
    unfold zoW at hz
    split at hz
    · rename_i l hl
      obtain ⟨z1, z2, z3⟩ := hz
      exact ⟨L2, _, l, dmT (zcV l), hl, (st.trans st2).take, S2.take z2, fun v hr => (dmT_sound (st2.rv hr)).take z1, z3⟩
    · exact hz.elim) h
theorem zim {n : Nat} {K : AV → List zb → Prop} {out : Option (List AV)} (h : zoW n K out σ) : EndsW n K out σ := ⟨σ, .refl _ _, h⟩

theorem zfz.setO {n : Nat} (h : zfz n σ) {id : Nat} {x : zb} (hx : zoU n x) : zfz n (σ.set id x) := zfz.set h hx
theorem ends_wrote {τ : List zb} {id : Nat} {x : zb} {K : AV → List zb → Prop} {l : List AV} (h1 : Low σ.length (dmT (zcV l))) (hl : zfz σ.length σ) (hx : zoU σ.length x) (h : K (dmT (zcV l)) (σ.set id x)) : zoW σ.length K (some l) (σ.set id x ++ τ) := by
  unfold zoW
  have : (σ.set id x ++ τ).take σ.length = σ.set id x := by
    have e : (σ.set id x).length = σ.length := List.length_set
    rw [← e]; exact zgn _ _
  rw [this]
  exact ⟨h1, hl.setO hx, h⟩
theorem zbE {α : Type} {σ : List α} {id : Nat} {x : α} (h : σ[id]? = some x) : σ.set id x = σ := by
  obtain ⟨hl, hh⟩ := List.getElem?_eq_some_iff.1 h
  rw [← hh]; exact List.set_getElem_self hl
theorem zfl {α : Type} {σ : List α} {id : Nat} {x y : α} (h : σ[id]? = some x) : (σ.set id y)[id]? = some y := by
  simp [(List.getElem?_eq_some_iff.1 h).1]
theorem zhD {α : Type} {σ : List α} {id : Nat} {x : α} (h : σ[id]? = some x) : id < σ.length := (List.getElem?_eq_some_iff.1 h).1
end

end Go.AW

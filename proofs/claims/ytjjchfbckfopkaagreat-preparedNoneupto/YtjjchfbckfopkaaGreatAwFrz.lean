/- Rows of the call's own that are let go: what they hold is data from then on. A function that only reads may be told of rows as of data. -/
import Derived.Test.YtjjchfbckfopkaaGreatAwEnd
set_option linter.all false
set_option linter.unusedSimpArgs false
set_option linter.unusedVariables false
namespace Go.AW

section

variable {P : Program} {w : World} {L : Nat → Loc} {σ : List zb}

end

section
variable {P : Program} {σ : List zb}

theorem renId_range {n m id : Nat} (h : id < n + m) : zii n (List.range' n m) id = some id := by
  unfold zii
  split
  · rfl
  · rename_i hn
    have : ∀ (m a : Nat), a ≤ id → id < a + m → idxK (List.range' a m) id a = some id := by
      intro m
      induction m with
      | zero => intro a h1 h2; omega
      | succ m ih =>
        intro a h1 h2
        simp only [List.range'_succ, idxK]
        by_cases e : a = id
        · subst e; simp
        · have e' : ¬ id = a := fun h => e h.symm
          first
            | (rw [if_neg e]; exact ih (a + 1) (by omega) (by omega))
            | (rw [if_neg e']; exact ih (a + 1) (by omega) (by omega))
    exact this m n (by omega) h
theorem zns : ∀ (os : List zb) (σ τ : List zb), getL (σ ++ (os ++ τ)) (List.range' σ.length os.length) = some os
  | [], σ, τ => rfl
  | x :: os, σ, τ => by
    simp only [List.length_cons, List.range'_succ, getL]
    have h1 : (σ ++ (x :: os ++ τ))[σ.length]? = some x := by rw [List.getElem?_append_right (Nat.le_refl _), Nat.sub_self]; rfl
    rw [h1]
    have h2 := zns os (σ ++ [x]) τ
    simp only [List.length_append, List.length_cons, List.length_nil, Nat.zero_add, List.append_assoc, List.cons_append, List.nil_append] at h2
    simp only [List.cons_append]
    rw [h2]
theorem renOs_low {n : Nat} {f : Nat → Option Nat} (hf : ∀ id, id < n → f id = some id) : ∀ {l : List zb}, (∀ x ∈ l, zoO n x) → zlE f l = some l
  | [], _ => rfl
  | x :: l, h => by simp only [zlE, renO_low hf (h x List.mem_cons_self), renOs_low hf fun y hy => h y (List.mem_cons_of_mem _ hy)]

theorem zhc {n : Nat} {σ' os τ : List zb} {ks : List zb → List Nat} {K : AV → List zb → Prop} {l : List AV} (hn : σ'.length = n) (hks : ks (σ' ++ (os ++ τ)) = List.range' n os.length) (hl : zdW n σ') (hos : ∀ x ∈ os, zoO (n + os.length) x)
    (hr : Low (n + os.length) (zcm l)) (h : K (zcm l) (σ' ++ os)) : zmG n ks K (some l) (σ' ++ (os ++ τ)) := by
  subst hn
  unfold zmG zoP
  rw [hks]
  have ht : (σ' ++ (os ++ τ)).take σ'.length = σ' := zga _ _
  simp only [zns, ht]
  have hf : ∀ id, id < σ'.length + os.length → zii σ'.length (List.range' σ'.length os.length) id = some id := fun id h => renId_range h
  refine ⟨by simp, hl, fun k hk => by simp [List.mem_range'_1] at hk; exact hk.1, List.nodup_range', ?_⟩
  rw [renOs_low hf hos, ziJ hf hr]
  exact h
theorem zdv {n : Nat} {σ' os : List zb} {ks : List zb → List Nat} {K : AV → List zb → Prop} {l : List AV} (hn : σ'.length = n) (hks : ks (σ' ++ os) = List.range' n os.length) (hl : zdW n σ') (hos : ∀ x ∈ os, zoO (n + os.length) x)
    (hr : Low (n + os.length) (zcm l)) (h : K (zcm l) (σ' ++ os)) : zmG n ks K (some l) (σ' ++ os) := by
  have := zhc (os := os) (τ := []) (ks := ks) (K := K) hn (by simpa using hks) hl hos hr h
  simpa using this

theorem zn.weaken {f : FuncId} {xs : List AV} {K : AV → List zb → Prop} (h : zn P f xs σ fun r s => ∃ r' s', zjk [r] s [r'] s' ∧ K r' s') : zn P f xs σ K :=
  ⟨h.1, fun L w vs S hv => (h.2 L w vs S hv).mono fun e w' he => by
    cases e with
    | panicked _ => exact he
    | outgrown => exact he
    | returned v =>
      obtain ⟨L', σ', r, st, S', hr, r', s', hw, hK⟩ := he
      obtain ⟨L2, st2, S2, hv2⟩ := zfC hw S' (us := [v]) ⟨rfl, fun i c u hc hu => by cases i <;> simp at hc hu; subst hc hu; exact hr⟩
      exact ⟨L2, s', r', st.trans st2, S2, hv2.2 0 r' v rfl rfl, hK⟩⟩

theorem zn.dm {f : FuncId} {xs : List AV} {K : AV → List zb → Prop} (h : zn P f (xs.map AW.dm) σ K) : zn P f xs σ K :=
  ⟨h.1, fun L w vs S hv => h.2 L w vs S ⟨by rw [List.length_map]; exact hv.1, fun i a v ha hu => by
    simp only [List.getElem?_map, Option.map_eq_some_iff] at ha
    obtain ⟨a', ha', rfl⟩ := ha
    exact zlo (hv.2 i a' v ha' hu)⟩⟩

theorem zn.pre {f : FuncId} {xs xs' : List AV} {σ' : List zb} {K : AV → List zb → Prop} (hw : zjk xs σ xs' σ') (h : zn P f xs' σ' K) : zn P f xs σ K :=
  ⟨h.1, fun L w vs S hv => by
    obtain ⟨L1, st, S1, hv1⟩ := zfC hw S hv
    refine (h.2 L1 w vs S1 hv1).mono fun e w' he => ?_
    cases e with
    | panicked _ => exact he
    | outgrown => exact he
    | returned v =>
      obtain ⟨L', s', r, st', S', hr, hK⟩ := he
      exact ⟨L', s', r, st.trans st', S', hr, hK⟩⟩
def EndsW (n : Nat) (K : AV → List zb → Prop) (out : Option (List AV)) (σ' : List zb) : Prop := ∃ s, zjk [] σ' [] s ∧ Ends n K out s
theorem acall_ofW {f : FuncId} {F : AF} {na : Nat} (hF : isFn P f F na) {as0 : List AV} (has : as0.length = na) {K : AV → List zb → Prop}
    (h : zdW σ.length σ → (∀ a ∈ as0, Low σ.length a) → awp P F.body (AtEnd fun fr' σ' => EndsW σ.length K (zlB fr' σ' F.res) σ') (zfD 0 as0) σ) : zn P f as0 σ K :=
  zjj hF has _ (fun {L w L' σ' w' fr' ts} S st S' F' hz => by
    obtain ⟨s, hw, hz⟩ := hz
    obtain ⟨L2, st2, S2, _⟩ := zfC hw S' (us := []) ⟨rfl, by simp⟩
    unfold Ends at hz
    split at hz
    · rename_i l hl
      obtain ⟨z1, z2, z3⟩ := hz
      exact ⟨L2, _, l, dmT (zcm l), hl, (st.trans st2).take, S2.take z2, fun v hr => (zmm (st2.rv hr)).take z1, z3⟩
    · exact hz.elim) h
theorem zhH {n : Nat} {K : AV → List zb → Prop} {out : Option (List AV)} (h : Ends n K out σ) : EndsW n K out σ := ⟨σ, .refl _ _, h⟩

theorem zdW.setO {n : Nat} (h : zdW n σ) {id : Nat} {x : zb} (hx : zoO n x) : zdW n (σ.set id x) := zdW.set h hx
theorem ends_wrote {τ : List zb} {id : Nat} {x : zb} {K : AV → List zb → Prop} {l : List AV} (h1 : Low σ.length (dmT (zcm l))) (hl : zdW σ.length σ) (hx : zoO σ.length x) (h : K (dmT (zcm l)) (σ.set id x)) : Ends σ.length K (some l) (σ.set id x ++ τ) := by
  unfold Ends
  have : (σ.set id x ++ τ).take σ.length = σ.set id x := by
    have e : (σ.set id x).length = σ.length := List.length_set
    rw [← e]; exact zga _ _
  rw [this]
  exact ⟨h1, hl.setO hx, h⟩
theorem zbH {α : Type} {σ : List α} {id : Nat} {x : α} (h : σ[id]? = some x) : σ.set id x = σ := by
  obtain ⟨hl, hh⟩ := List.getElem?_eq_some_iff.1 h
  rw [← hh]; exact List.set_getElem_self hl
theorem zfo {α : Type} {σ : List α} {id : Nat} {x y : α} (h : σ[id]? = some x) : (σ.set id y)[id]? = some y := by
  simp [(List.getElem?_eq_some_iff.1 h).1]
theorem zdt {α : Type} {σ : List α} {id : Nat} {x : α} (h : σ[id]? = some x) : id < σ.length := (List.getElem?_eq_some_iff.1 h).1
end

end Go.AW

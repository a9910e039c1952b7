/- A slice without spare places gets a row's end of its own: nothing turns in the world. -/
import Derived.Test.YtahbjkanmagndaaAwEnd
set_option linter.all false
set_option linter.unusedSimpArgs false
set_option linter.unusedVariables false
namespace Go.AW
section
variable {P : Program} {w : World} {L : Nat → Loc} {σ : List AObj}

/-- what a row without spare places has behind it: nothing -/
theorem add_tok (S : Sim L σ w) (sz n : Nat) (a : Option Addr) (ha : a = none → n = 0) (hs : 0 < n → ∀ b, a = some b → b.spot = none) :
    let l : Loc := { a := a.getD ⟨0, 0, none⟩, nil := a.isNone, cap := n }
    Step L σ w (Lput L σ.length l) (σ ++ [.tok sz n]) w ∧ Sim (Lput L σ.length l) (σ ++ [.tok sz n]) w := by
  intro l
  have hno : ∀ b o, ¬ Foot l (.tok sz n) b o := fun b o h => by
    obtain ⟨_, _, h2, h3⟩ := h
    have e : l.cap = n := rfl
    rw [e] at h3
    omega
  have get : ∀ {id x}, (σ ++ [.tok sz n])[id]? = some x → (id < σ.length ∧ σ[id]? = some x) ∨ (id = σ.length ∧ x = .tok sz n) := fun {id x} h => by
    rcases Nat.lt_or_ge id σ.length with hl | hl
    · rw [List.getElem?_append_left hl] at h; exact .inl ⟨hl, h⟩
    · rw [List.getElem?_append_right hl] at h
      have hlt := lt_of_get h
      simp at hlt
      have : id = σ.length := by omega
      subst this
      simp at h
      exact .inr ⟨rfl, h.symm⟩
  have hL : ∀ id, id < σ.length → Lput L σ.length l id = L id := fun id h => Lput_ne (by omega)
  have own : ∀ b o, Own (Lput L σ.length l) (σ ++ [.tok sz n]) b o → Own L σ b o := fun b o ⟨id, x, hx, hf⟩ => by
    rcases get hx with ⟨h1, h2⟩ | ⟨rfl, rfl⟩
    · rw [hL id h1] at hf; exact ⟨id, x, h2, hf⟩
    · rw [Lput_same] at hf; exact (hno _ _ hf).elim
  have st : Step L σ w (Lput L σ.length l) (σ ++ [.tok sz n]) w := by
    refine ⟨rfl, rfl, rfl, Nat.le_refl _, fun _ _ _ => rfl, fun _ _ _ _ => rfl, fun b o _ h => own b o h, by simp, fun id x hx => ?_⟩
    have hid := lt_of_get hx
    exact ⟨x, by rw [List.getElem?_append_left hid]; exact hx, rfl, fun _ => hL id hid, fun _ m e => ⟨m, e, Nat.le_refl _, fun _ => hL id hid⟩⟩
  refine ⟨st, ⟨fun id x hx => ?_, fun i j x y b o hij hx hy hfx hfy => ?_⟩⟩
  · rcases get hx with ⟨h1, h2⟩ | ⟨rfl, rfl⟩
    · rw [hL id h1]
      exact (S.obj id x h2).keep st (fun _ _ _ => ⟨rfl, rfl⟩) (fun _ _ => rfl)
    · rw [Lput_same]
      refine ⟨Nat.le_refl _, fun h => ?_, fun h1 h2 => ?_, fun h1 o h2 h3 => ?_⟩
      · exact ha (by simpa [l] using h)
      · cases a with
        | none => simp [l] at h1
        | some b => exact hs h2 b rfl
      · have e : l.cap = n := rfl
        rw [e] at h3; omega
  · rcases get hx with ⟨h1, h2⟩ | ⟨rfl, rfl⟩
    · rw [hL i h1] at hfx
      rcases get hy with ⟨g1, g2⟩ | ⟨rfl, rfl⟩
      · rw [hL j g1] at hfy
        exact S.apart i j x y b o hij h2 g2 hfx hfy
      · rw [Lput_same] at hfy; exact hno _ _ hfy
    · rw [Lput_same] at hfx; exact hno _ _ hfx

theorem exact_inv {es : List (List D)} {v : Value} (h : RV w L σ (.exact es) v) : ∃ a, v = .slice a es.length es.length ∧ RD w (Own L σ) (.slice es) v ∧ (a = none → es.length = 0) ∧ (0 < es.length → ∀ b, a = some b → b.spot = none) := by
  cases h with
  | exact _ a h =>
    refine ⟨a, rfl, h, ?_, ?_⟩
    · rintro rfl
      cases h with
      | empty => rfl
    · rintro hp b rfl
      cases h with
      | empty => simp at hp
      | slice => rfl

/-- a contract whose result is a row of the call's own, or a slice without spare places: either way it is a row with an end -/
theorem ACall.tok {f : FuncId} {xs : List AV} {es : List (List D)} {sz : Nat} (hsz : ∀ e ∈ es, e.length = sz) {K : AV → List AObj → Prop}
    (h : ACall P f xs σ fun r σ' => (r = .own σ.length es ∧ σ' = σ ++ [.tok sz es.length]) ∨ (r = .exact es ∧ σ' = σ)) (hK : K (.own σ.length es) (σ ++ [.tok sz es.length])) : ACall P f xs σ K :=
  ⟨h.1, fun L w vs S hv => (h.2 L w vs S hv).mono fun e w' he => by
    cases e with
    | panicked ch => exact he
    | outgrown => exact he
    | returned v =>
      obtain ⟨L', σ', r, s, S', hr, hcase⟩ := he
      rcases hcase with ⟨rfl, rfl⟩ | ⟨rfl, rfl⟩
      · exact ⟨L', _, _, s, S', hr, hK⟩
      · obtain ⟨a, hv', hrd, ha, hs⟩ := exact_inv hr
        obtain ⟨st, S2⟩ := add_tok S' sz es.length a ha hs
        refine ⟨_, _, _, s.trans st, S2, ?_, hK⟩
        refine .own _ _ _ sz es.length (by simp) (Nat.le_refl _) hsz (st.rd hrd) fun _ => ?_
        rw [hv', Lput_same]
        cases a <;> rfl⟩
end
end Go.AW

/- An end of a call that keeps all that it made: what the caller's objects name now lies there. -/
import Derived.Test.YtnfienilahfdjaaAwFrz
set_option linter.all false
set_option linter.unusedSimpArgs false
set_option linter.unusedVariables false
namespace Go.AW
section
variable {P : Program} {σ : List AObj}

def EndsA (K : AV → List AObj → Prop) (out : Option (List AV)) (σ' : List AObj) : Prop := match out with
  | some l => ∃ s, Weak [] σ' [] s ∧ K (dmT (pack l)) s
  | none => False
theorem acall_all {f : FuncId} {F : AF} {na : Nat} (hF : isFn P f F na) {as0 : List AV} (has : as0.length = na) {K : AV → List AObj → Prop}
    (h : Lows σ.length σ → (∀ a ∈ as0, Low σ.length a) → awp P F.body (AtEnd fun fr' σ' => EndsA K (resAs fr' σ' F.res) σ') (slots0 0 as0) σ) : ACall P f as0 σ K :=
  acall_gen hF has _ (fun {L w L' σ' w' fr' ts} S st S' F' hz => by
    unfold EndsA at hz
    split at hz
    · rename_i l hl
      obtain ⟨s, hw, hK⟩ := hz
      obtain ⟨L2, st2, S2, _⟩ := weak_sound hw S' (us := []) ⟨rfl, by simp⟩
      exact ⟨L2, s, l, dmT (pack l), hl, st.trans st2, S2, fun v hr => dmT_sound (st2.rv hr), hK⟩
    · exact hz.elim) h
theorem endsA {K : AV → List AObj → Prop} {l : List AV} {s : List AObj} (h : K (dmT (pack l)) s) : EndsA K (some l) s := ⟨_, .refl _ _, h⟩
end

end Go.AW

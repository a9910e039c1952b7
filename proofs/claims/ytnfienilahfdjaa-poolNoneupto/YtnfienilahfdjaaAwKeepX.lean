/- Ends of calls that keep objects told at the end; a result whose rows are let go. -/
import Derived.Test.YtnfienilahfdjaaAwFrz
set_option linter.all false
set_option linter.unusedSimpArgs false
set_option linter.unusedVariables false
namespace Go.AW
section
variable {P : Program} {σ : List AObj}
theorem ACall.frz {f : FuncId} {xs : List AV} {K : AV → List AObj → Prop} (m : Nat) (h : ACall P f xs σ fun r s => ∃ r', frzT s σ.length m r = some r' ∧ s.take σ.length = σ ∧ K r' σ) : ACall P f xs σ K :=
  ⟨h.1, fun L w vs S hv => (h.2 L w vs S hv).mono fun e w' he => by
    cases e with
    | panicked _ => exact he
    | outgrown => exact he
    | returned v =>
      obtain ⟨L', σ', r, st, S', hr, r', hf, ht, hK⟩ := he
      have z2 : Lows σ.length (σ'.take σ.length) := by rw [ht]; exact S.lows
      have hS := S'.take z2
      have hst := st.take
      have hv := frzT_sound S' (L2 := L') (σ2 := σ'.take σ.length) (fun b o => own_take) (fun t x ht hx hk b o hf hown => by
        obtain ⟨id, y, hy, hfy⟩ := hown
        rw [List.getElem?_take] at hy
        split at hy
        · rename_i hid
          exact S'.apart id t y x b o (by omega) hy hx hfy hf
        · cases hy) hr hf
      rw [ht] at hS hst hv
      exact ⟨L', σ, r', hst, hS, hv, hK⟩⟩
end

end Go.AW

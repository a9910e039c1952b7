/- The law PoolDoes, from the contracts. -/
import Derived.Test.YtfnnejokhikefaaLaw18a
set_option linter.all false
set_option maxRecDepth 100000
set_option linter.unusedSimpArgs false
set_option linter.unusedVariables false
namespace Go.Proofs.Ytfnnejokhikefaa
open Go.AW

theorem args_steps {l : AV} {n : Nat} (hn : n ≤ 1048576) {ds : List D} {m : Nat} (hf : TFitsL [.slice tyStep] ds) (hb : bulkL ds + m ≤ n) : ∃ l, ds = [.slice (stepsE l)] ∧ l.length ≤ 1048576 ∧ ∀ x ∈ l, okS x := by
  obtain ⟨d, rfl, h1⟩ := one_of hf
  obtain ⟨l, rfl⟩ := dec_slice h1 fun e he => dec_step he
  have h2 : bulkLL (stepsE l) ≤ 1048576 := by simp only [bulkL, bulkD] at hb; unfold stepsE; omega
  obtain ⟨h3, h4⟩ := okS_bulk h2 (by omega)
  exact ⟨l, rfl, h3, h4⟩
end Go.Proofs.Ytfnnejokhikefaa

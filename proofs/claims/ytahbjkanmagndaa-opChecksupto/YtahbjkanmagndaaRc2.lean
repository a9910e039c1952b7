/- Contracts: what is wrong with batches, on both sides. -/
import Derived.Test.YtahbjkanmagndaaRc1
set_option linter.all false
set_option maxRecDepth 100000
set_option linter.unusedSimpArgs false
set_option linter.unusedVariables false
namespace Go.Proofs.Ytahbjkanmagndaa
open Go.AW

theorem wk1 (k : Nat) (h : k ≤ 1073741824) : IntKind.i64.wrap ((k : Int) + 1) = ((k + 1 : Nat) : Int) := by rw [wrap64i (by omega) (by omega)]; rfl
end Go.Proofs.Ytahbjkanmagndaa

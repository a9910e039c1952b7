/- Contracts of the small functions over bytes. -/
import Derived.Test.YtfnnejokhikefaaSh
import Derived.Test.YtfnnejokhikefaaAwEnd
import Derived.Test.YtfnnejokhikefaaCl1
set_option linter.all false
set_option maxRecDepth 100000
set_option linter.unusedSimpArgs false
namespace Go.Proofs.Ytfnnejokhikefaa
open Go.AW

theorem c_bytes_Equal {σ : List AObj} {a b : List UInt8} {K : AV → List AObj → Prop} (hK : K (.d (.bool (a == b))) σ) : ACall Try.prog n_bytes_Equal [.d (.slice (bcs a)), .d (.slice (bcs b))] σ K := by
  refine acall_of isA_bytes_Equal rfl fun hl _ => s_bytes_Equal ?_
  simp only [S_bytes_Equal, convC, esOf, bytesOf_bcs, binC, binA, strOp, consO]
  exact ends_plain0 (by simp [Low_d, dmT, dm, dm1, pack]) hl hK
end Go.Proofs.Ytfnnejokhikefaa

/- Contracts of the small functions over bytes. -/
import Derived.Test.YtnfienilahfdjaaSh
import Derived.Test.YtnfienilahfdjaaAwEnd
import Derived.Test.YtnfienilahfdjaaCl1
set_option linter.all false
set_option maxRecDepth 100000
set_option linter.unusedSimpArgs false
namespace Go.Proofs.Ytnfienilahfdjaa
open Go.AW

theorem c_bytes_Equal {σ : List AObj} {a b : List UInt8} {K : AV → List AObj → Prop} (hK : K (.d (.bool (a == b))) σ) : ACall Try.prog n_bytes_Equal [.d (.slice (bcs a)), .d (.slice (bcs b))] σ K := by
  refine acE2 e_bytes_Equal fun hl => ?_
  simp only [S_bytes_Equal, iN, bT, bF, eN, gF, gT, gFm, gTm, fl, nfl, gFl, gTl, il, cp, orC, anC, cA, bP, z1, z2, m1, List.map_cons, List.map_nil, convC, esOf, bytesOf_bcs, binC, binA, strOp, consO]
  exact ends_plain0 (by simp [Low_d, dmT, dm, dm1, pack]) hl hK
end Go.Proofs.Ytnfienilahfdjaa

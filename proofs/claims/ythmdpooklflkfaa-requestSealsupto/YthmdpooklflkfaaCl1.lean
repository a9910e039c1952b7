/- Contracts: bytes.Clone. -/
import Derived.Test.YthmdpooklflkfaaSh
import Derived.Test.YthmdpooklflkfaaAwEnd
set_option linter.all false
set_option maxRecDepth 100000
set_option linter.unusedSimpArgs false
namespace Go.Proofs.Ythmdpooklflkfaa
open Go.AW

/-- bytes.Clone -/
theorem zby {σ : List AObj} {es : List (List D)} {K : AV → List AObj → Prop} (he : ∀ e ∈ es, e.length = 1) (hn : es.length ≤ 1073741824) (hK : K (.own σ.length es) (σ ++ [.tok 1 es.length])) : ACall Try.prog zbd [.d (.slice es)] σ K := by
  refine ACall.tok he ?_ hK
  refine zaV zjo rfl (fun s => if s.length = σ.length then [] else [σ.length]) fun hl _ => zkW ?_
  simp only [zhi, zJ, esOf]
  cases es with
  | nil =>
    refine ⟨?_, ?_⟩
    · simp only [zr, zi, consO]
      exact endsK_none0 (by simp) hl rfl (by simp)
    · simp only [zr, zc, consO, fillV, rep, zf, toDs, zO, zo, srcE]
      refine ⟨by simp, by simp, by simp, ?_⟩
      exact zdT hl (by simp) (by simp)
  | cons e es =>
    simp only [zr, zc, consO, fillV, rep, zf, toDs, zO, zo, srcE]
    refine ⟨he, by simp, by simp at hn ⊢; omega, ?_⟩
    exact zdT hl (by simp) (by simp)
end Go.Proofs.Ythmdpooklflkfaa

/- Contracts: bytes.Clone. -/
import Derived.Test.YtcappjcojggehaaGreatSh
import Derived.Test.YtcappjcojggehaaGreatAwEnd
set_option linter.all false
set_option maxRecDepth 100000
set_option linter.unusedSimpArgs false
namespace Go.Proofs.YtcappjcojggehaaGreat
open Go.AW

/-- bytes.Clone -/
theorem zbM {σ : List AObj} {es : List (List D)} {K : AV → List AObj → Prop} (he : ∀ e ∈ es, e.length = 1) (hn : es.length ≤ 1073741824) (hK : K (.own σ.length es) (σ ++ [.tok 1 es.length])) : ACall Tryz.prog zbr [.d (.slice es)] σ K := by
  refine ACall.tok he ?_ hK
  refine zaQ zlI rfl (fun s => if s.length = σ.length then [] else [σ.length]) fun hl _ => znK ?_
  simp only [zjb, zZ, esOf]
  cases es with
  | nil =>
    refine ⟨?_, ?_⟩
    · simp only [zL, zC, consO]
      exact endsK_none0 (by simp) hl rfl (by simp)
    · simp only [zL, zq, consO, fillV, rep, zl, toDs, zaa, zt, srcE]
      refine ⟨by simp, by simp, by simp, ?_⟩
      exact zeP hl (by simp) (by simp)
  | cons e es =>
    simp only [zL, zq, consO, fillV, rep, zl, toDs, zaa, zt, srcE]
    refine ⟨he, by simp, by simp at hn ⊢; omega, ?_⟩
    exact zeP hl (by simp) (by simp)
end Go.Proofs.YtcappjcojggehaaGreat

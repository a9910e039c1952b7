/- Contracts: bytes.Clone. -/
import Derived.Test.YtnfienilahfdjaaSh
import Derived.Test.YtnfienilahfdjaaAwEnd
set_option linter.all false
set_option maxRecDepth 100000
set_option linter.unusedSimpArgs false
namespace Go.Proofs.Ytnfienilahfdjaa
open Go.AW

theorem c_bytes_Clone {σ : List AObj} {es : List (List D)} {K : AV → List AObj → Prop} (he : ∀ e ∈ es, e.length = 1) (hn : es.length ≤ 1073741824) (hK : K (.own σ.length es) (σ ++ [.tok 1 es.length])) : ACall Try.prog n_bytes_Clone [.d (.slice es)] σ K := by
  refine ACall.tok he ?_ hK
  refine acall_keep e_bytes_Clone.is rfl (fun s => if s.length = σ.length then [] else [σ.length]) fun hl _ => e_bytes_Clone.goes ?_
  simp only [S_bytes_Clone, iN, bT, bF, eN, isnilC, esOf]
  cases es with
  | nil =>
    refine ⟨?_, ?_⟩
    · simp only [condC_b, BBL_true, consO]
      exact endsK_none0 (by simp) hl rfl (by simp)
    · simp only [condC_b, BBL_false, consO, fillV, rep, mksliceC, toDs, chunks, appendC, srcE]
      refine ⟨by simp, by simp, by simp, ?_⟩
      exact endsK_own1 hl (by simp) (by simp)
  | cons e es =>
    simp only [condC_b, BBL_false, consO, fillV, rep, mksliceC, toDs, chunks, appendC, srcE]
    refine ⟨he, by simp, by simp at hn ⊢; omega, ?_⟩
    exact endsK_own1 hl (by simp) (by simp)
end Go.Proofs.Ytnfienilahfdjaa

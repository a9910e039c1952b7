/- Contracts: bytes.Clone. -/
import Derived.Test.YtcappjcojggehaaSh
import Derived.Test.YtcappjcojggehaaAwEnd
set_option linter.all false
set_option maxRecDepth 100000
set_option linter.unusedSimpArgs false
namespace Go.Proofs.Ytcappjcojggehaa
open Go.AW

/-- bytes.Clone -/
theorem zbH {σ : List AObj} {es : List (List D)} {K : AV → List AObj → Prop} (he : ∀ e ∈ es, e.length = 1) (hn : es.length ≤ 1073741824) (hK : K (.own σ.length es) (σ ++ [.tok 1 es.length])) : ACall Try.prog zbr [.d (.slice es)] σ K := by
  refine ACall.tok he ?_ hK
  refine zaN zkO rfl (fun s => if s.length = σ.length then [] else [σ.length]) fun hl _ => zmC ?_
  simp only [ziq, zW, esOf]
  cases es with
  | nil =>
    refine ⟨?_, ?_⟩
    · simp only [zK, zA, consO]
      exact endsK_none0 (by simp) hl rfl (by simp)
    · simp only [zK, zp, consO, fillV, rep, zl, toDs, zX, zt, srcE]
      refine ⟨by simp, by simp, by simp, ?_⟩
      exact zew hl (by simp) (by simp)
  | cons e es =>
    simp only [zK, zp, consO, fillV, rep, zl, toDs, zX, zt, srcE]
    refine ⟨he, by simp, by simp at hn ⊢; omega, ?_⟩
    exact zew hl (by simp) (by simp)
end Go.Proofs.Ytcappjcojggehaa

/- Contracts: bytes.Clone. -/
import Derived.Test.YtjjchfbckfopkaaGreatSh
import Derived.Test.YtjjchfbckfopkaaGreatAwEnd
set_option linter.all false
set_option maxRecDepth 100000
set_option linter.unusedSimpArgs false
namespace Go.Proofs.YtjjchfbckfopkaaGreat
open Go.AW

theorem zcT {σ : List zb} {es : List (List D)} {K : AV → List zb → Prop} (he : ∀ e ∈ es, e.length = 1) (hn : es.length ≤ 1073741824) (hK : K (.own σ.length es) (σ ++ [.tok 1 es.length])) : zt Tryz.prog zcq [.d (.slice es)] σ K := by
  refine zt.tok he ?_ hK
  refine zbH zko.is rfl (fun s => if s.length = σ.length then [] else [σ.length]) fun hl _ => zko.goes ?_
  simp only [zkD, iN, bT, bF, eN, zaj, zcK]
  cases es with
  | nil =>
    refine ⟨?_, ?_⟩
    · simp only [zS, zG, zM]
      exact endsK_none0 (by simp) hl rfl (by simp)
    · simp only [zS, zp, zM, zag, rep, zn, zdX, zaf, zq, zdh]
      refine ⟨by simp, by simp, by simp, ?_⟩
      exact zgu hl (by simp) (by simp)
  | cons e es =>
    simp only [zS, zp, zM, zag, rep, zn, zdX, zaf, zq, zdh]
    refine ⟨he, by simp, by simp at hn ⊢; omega, ?_⟩
    exact zgu hl (by simp) (by simp)
end Go.Proofs.YtjjchfbckfopkaaGreat

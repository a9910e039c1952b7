/- Contracts: bytes.Clone. -/
import Derived.Test.YtjjchfbckfopkaaGreatSh
import Derived.Test.YtjjchfbckfopkaaGreatAwEnd
set_option linter.all false
set_option maxRecDepth 100000
set_option linter.unusedSimpArgs false
namespace Go.Proofs.YtjjchfbckfopkaaGreat
open Go.AW

theorem zcJ {σ : List zb} {es : List (List D)} {K : AV → List zb → Prop} (he : ∀ e ∈ es, e.length = 1) (hn : es.length ≤ 1073741824) (hK : K (.own σ.length es) (σ ++ [.tok 1 es.length])) : zp Tryz.prog zck [.d (.slice es)] σ K := by
  refine zp.tok he ?_ hK
  refine zbD zjM.is rfl (fun s => if s.length = σ.length then [] else [σ.length]) fun hl _ => zjM.goes ?_
  simp only [zkc, iN, bT, bF, eN, zal, zcS]
  cases es with
  | nil =>
    refine ⟨?_, ?_⟩
    · simp only [zU, zG, zP]
      exact endsK_none0 (by simp) hl rfl (by simp)
    · simp only [zU, zo, zP, zai, rep, zn, zei, zaf, zr, zdr]
      refine ⟨by simp, by simp, by simp, ?_⟩
      exact zgh hl (by simp) (by simp)
  | cons e es =>
    simp only [zU, zo, zP, zai, rep, zn, zei, zaf, zr, zdr]
    refine ⟨he, by simp, by simp at hn ⊢; omega, ?_⟩
    exact zgh hl (by simp) (by simp)
end Go.Proofs.YtjjchfbckfopkaaGreat

/- Contracts: bytes.Clone. -/
import Derived.Test.YtjjchfbckfopkaaGreatSh
import Derived.Test.YtjjchfbckfopkaaGreatAwEnd
set_option linter.all false
set_option maxRecDepth 100000
set_option linter.unusedSimpArgs false
namespace Go.Proofs.YtjjchfbckfopkaaGreat
open Go.AW

theorem zcD {σ : List zb} {es : List (List D)} {K : AV → List zb → Prop} (he : ∀ e ∈ es, e.length = 1) (hn : es.length ≤ 1073741824) (hK : K (.own σ.length es) (σ ++ [.tok 1 es.length])) : zn Tryz.prog zcd [.d (.slice es)] σ K := by
  refine zn.tok he ?_ hK
  refine zby ziZ.is rfl (fun s => if s.length = σ.length then [] else [σ.length]) fun hl _ => ziZ.goes ?_
  simp only [zjp, iN, bT, bF, eN, zai, zcH]
  cases es with
  | nil =>
    refine ⟨?_, ?_⟩
    · simp only [zU, zG, zJ]
      exact endsK_none0 (by simp) hl rfl (by simp)
    · simp only [zU, zq, zJ, zac, rep, zi, zdZ, zaj, zr, zdk]
      refine ⟨by simp, by simp, by simp, ?_⟩
      exact zfM hl (by simp) (by simp)
  | cons e es =>
    simp only [zU, zq, zJ, zac, rep, zi, zdZ, zaj, zr, zdk]
    refine ⟨he, by simp, by simp at hn ⊢; omega, ?_⟩
    exact zfM hl (by simp) (by simp)
end Go.Proofs.YtjjchfbckfopkaaGreat

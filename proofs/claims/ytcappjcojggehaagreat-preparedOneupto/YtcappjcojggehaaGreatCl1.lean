/- Contracts: bytes.Clone. -/
import Derived.Test.YtcappjcojggehaaGreatSh
import Derived.Test.YtcappjcojggehaaGreatAwEnd
set_option linter.all false
set_option maxRecDepth 100000
set_option linter.unusedSimpArgs false
namespace Go.Proofs.YtcappjcojggehaaGreat
open Go.AW

theorem zcP {σ : List zb} {es : List (List D)} {K : AV → List zb → Prop} (he : ∀ e ∈ es, e.length = 1) (hn : es.length ≤ 1073741824) (hK : K (.own σ.length es) (σ ++ [.tok 1 es.length])) : zN Tryz.prog zcj [.d (.slice es)] σ K := by
  refine zN.tok he ?_ hK
  refine zbu zji.is rfl (fun s => if s.length = σ.length then [] else [σ.length]) fun hl _ => zji.goes ?_
  simp only [zjy, iN, bT, bF, eN, zab, zbQ]
  cases es with
  | nil =>
    refine ⟨?_, ?_⟩
    · simp only [zH, zy, zM]
      exact endsK_none0 (by simp) hl rfl (by simp)
    · simp only [zH, zi, zM, zag, rep, zj, zcz, zac, zl, zcd]
      refine ⟨by simp, by simp, by simp, ?_⟩
      exact zfN hl (by simp) (by simp)
  | cons e es =>
    simp only [zH, zi, zM, zag, rep, zj, zcz, zac, zl, zcd]
    refine ⟨he, by simp, by simp at hn ⊢; omega, ?_⟩
    exact zfN hl (by simp) (by simp)
end Go.Proofs.YtcappjcojggehaaGreat

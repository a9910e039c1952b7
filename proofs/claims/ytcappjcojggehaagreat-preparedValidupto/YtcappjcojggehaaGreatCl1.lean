/- Contracts: bytes.Clone. -/
import Derived.Test.YtcappjcojggehaaGreatSh
import Derived.Test.YtcappjcojggehaaGreatAwEnd
set_option linter.all false
set_option maxRecDepth 100000
set_option linter.unusedSimpArgs false
namespace Go.Proofs.YtcappjcojggehaaGreat
open Go.AW

theorem zcE {σ : List zb} {es : List (List D)} {K : AV → List zb → Prop} (he : ∀ e ∈ es, e.length = 1) (hn : es.length ≤ 1073741824) (hK : K (.own σ.length es) (σ ++ [.tok 1 es.length])) : zK Tryz.prog zcj [.d (.slice es)] σ K := by
  refine zK.tok he ?_ hK
  refine zbw zjx.is rfl (fun s => if s.length = σ.length then [] else [σ.length]) fun hl _ => zjx.goes ?_
  simp only [zjQ, iN, bT, bF, eN, zad, zcd]
  cases es with
  | nil =>
    refine ⟨?_, ?_⟩
    · simp only [zJ, zB, zN]
      exact endsK_none0 (by simp) hl rfl (by simp)
    · simp only [zJ, zk, zN, zag, rep, zj, zcI, zae, zo, zcs]
      refine ⟨by simp, by simp, by simp, ?_⟩
      exact zfW hl (by simp) (by simp)
  | cons e es =>
    simp only [zJ, zk, zN, zag, rep, zj, zcI, zae, zo, zcs]
    refine ⟨he, by simp, by simp at hn ⊢; omega, ?_⟩
    exact zfW hl (by simp) (by simp)
end Go.Proofs.YtcappjcojggehaaGreat

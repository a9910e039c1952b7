/- Contracts: what comes next out of a pool. -/
import Derived.Test.YtcappjcojggehaaGreatSpPool
set_option linter.all false
set_option maxRecDepth 100000
set_option linter.unusedSimpArgs false
set_option linter.unusedVariables false
namespace Go.Proofs.YtcappjcojggehaaGreat
open Go.AW

theorem any_take {α : Type} {l : List α} {p : α → Bool} {k : Nat} {x : α} (h : l[k]? = some x) (h0 : (l.take k).any p = false) (hx : p x = false) : (l.take (k + 1)).any p = false := by
  rw [List.take_add_one, h]; simp [List.any_append, h0, hx]
theorem any_mem {α : Type} {l : List α} {p : α → Bool} {k : Nat} {x : α} (h : l[k]? = some x) (hx : p x = true) : l.any p = true := List.any_eq_true.2 ⟨x, List.mem_of_getElem? h, hx⟩
theorem zjE {σ : List zb} {b : List zf} {f : FuncId} {cap : List AV} {p : zf → Bool} (hb : b.length ≤ 1073741824) (hf : ∀ x ∈ b, ∀ K : AV → List zb → Prop, K (.d (.bool (p x))) σ → zK Tryz.prog f (zdL x :: cap) σ K)
    {K : AV → List zb → Prop} (hK : ∀ r : Int, decide (r ≥ 0) = b.any p → K (.d (.int .i64 r)) σ) : zK Tryz.prog zaE [.d (.slice (zbu b)), .fn (.func f) [] cap] σ K := by
  refine zi zbp.is rfl fun hl _ => zbp.goes ?_
  simp only [zbq, iN, bT, bF, eN]
  (repeat' first | refine zmY ?_ | with_reducible first | exact ⟨⟩ | refine zn ?_ | fail)
  refine zX b.length (fun k vs s => vs = [.d (.int .i64 k)] ∧ s = σ ∧ (b.take k).any p = false) ⟨rfl, rfl, by simp⟩ ?_
  rintro k vs s hk ⟨rfl, rfl, hno⟩
  by_cases hlt : k < b.length
  · have hd : decide ((k : Int) < (b.length : Int)) = true := by simp; omega
    have hx : b[k]? = some b[k] := by simp [hlt]
    have hfx := hf _ (List.getElem_mem hlt)
    have hgx := zaS (f := zbo) hx
    obtain ⟨x, hxe⟩ : ∃ x, b[k] = x := ⟨_, rfl⟩
    rw [hxe] at hx hgx hfx
    rw [zdL] at hfx
    (repeat' first | refine zoE (zck hd hgx) ?_ | with_reducible first | exact ⟨⟩ | refine zn ?_ | fail)
    refine hfx _ ?_
    cases h1 : p x
    · (repeat' first | refine zfd (wk1 k (by omega)) ?_ | with_reducible first | exact ⟨⟩ | refine zn ?_ | fail)
      exact zbh.next hlt ⟨rfl, rfl, any_take hx hno h1⟩
    · (repeat' first | refine zmY ?_ | with_reducible first | exact ⟨⟩ | refine zn ?_ | fail)
      (first | refine zai hl ?_ | refine zah hl ?_)
      exact hK _ (by rw [any_mem hx h1]; simp)
  · have hd : decide ((k : Int) < (b.length : Int)) = false := by simp; omega
    (repeat' first | refine zfd hd ?_ | with_reducible first | exact ⟨⟩ | refine zn ?_ | fail)
    (first | refine zai hl ?_ | refine zah hl ?_)
    rw [List.take_of_length_le (by omega)] at hno
    exact hK _ (by rw [hno]; rfl)
theorem zhP {σ : List zb} {b : List zf} {f : FuncId} {cap : List AV} {p : zf → Bool} (hb : b.length ≤ 1073741824) (hf : ∀ x ∈ b, ∀ K : AV → List zb → Prop, K (.d (.bool (p x))) σ → zK Tryz.prog f (zdL x :: cap) σ K)
    {K : AV → List zb → Prop} (hK : K (.d (.bool (b.any p))) σ) : zK Tryz.prog zaz [.d (.slice (zbu b)), .fn (.func f) [] cap] σ K := by
  refine zi zbc.is rfl fun hl _ => zbc.goes ?_
  simp only [zbd, iN, bT, bF, eN]
  (repeat' first | refine zmY ?_ | with_reducible first | exact ⟨⟩ | refine zn ?_ | fail)
  refine zjE hb hf fun r hr => ?_
  (repeat' first | refine zfd hr ?_ | with_reducible first | exact ⟨⟩ | refine zn ?_ | fail)
  (first | refine zai hl ?_ | refine zah hl ?_)
  exact hK
end Go.Proofs.YtcappjcojggehaaGreat

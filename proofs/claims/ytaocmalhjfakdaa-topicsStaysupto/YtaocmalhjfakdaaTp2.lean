/- Contracts: the document's topics: records are published, groups commit, the front is let go. -/
import Derived.Test.YtaocmalhjfakdaaTp1
import Derived.Test.YtaocmalhjfakdaaOp1
set_option linter.all false
set_option maxRecDepth 100000
set_option linter.unusedSimpArgs false
set_option linter.unusedVariables false
namespace Go.Proofs.Ytaocmalhjfakdaa
open Go.AW


theorem TopsAt.setB {σ : List AObj} {id t g j : Nat} {T : TTops} {c : List AV} {y : AObj} (h : TopsAt σ id t g T) (hj : σ[j]? = some (.box c)) (hne : j ≠ id) : TopsAt (σ.set j y) id t g T :=
  ⟨by rw [List.getElem?_set_ne hne]; exact h.box, by rw [List.getElem?_set_ne (fun e => by subst e; have := h.row; rw [hj] at this; cases this)]; exact h.row, h.last⟩
theorem Stays.setB {σ τ S : List AObj} {id j : Nat} {y : AObj} (h : Stays (σ ++ τ) S id) (hj : σ.length ≤ j) : Stays σ (S.set j y) id :=
  ⟨by have := h.len; simp at this ⊢; omega, fun i x hx hi hr => by
    have := lt_len hx
    rw [List.getElem?_set_ne (by omega)]
    exact h.get i x (get_left hx) hi hr⟩
end Go.Proofs.Ytaocmalhjfakdaa

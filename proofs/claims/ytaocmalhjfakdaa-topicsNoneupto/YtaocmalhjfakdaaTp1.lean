/- Contracts: the document's topics: where one stands; one is made. -/
import Derived.Test.YtaocmalhjfakdaaPf1
import Derived.Test.YtaocmalhjfakdaaAwEnd
import Derived.Test.YtaocmalhjfakdaaSpNum
import Derived.Test.YtaocmalhjfakdaaOp1
set_option linter.all false
set_option maxRecDepth 100000
set_option linter.unusedSimpArgs false
set_option linter.unusedVariables false
namespace Go.Proofs.Ytaocmalhjfakdaa
open Go.AW

def zbD : List (Int × Int × Int) → List AV
  | [] => []
  | a :: r => .d (.int .i64 a.1) :: .d (.int .i64 a.2.1) :: .d (.int .i64 a.2.2) :: zbD r
structure zjZ (σ : List zb) (id t g : Nat) (T : zav) : Prop where
  box : σ[id]? = some (.box (.rsl t g 4 0 T.l.length :: zbD T.last))
  row : σ[t]? = some (.row g 4 (flatA (topsE T.l)))
  last : T.last.length = 8
structure zkJ (σ S : List zb) (id : Nat) : Prop where
  len : σ.length ≤ S.length
  get : ∀ (j : Nat) (x : zb), σ[j]? = some x → j ≠ id → (∀ g sz cs, x ≠ .row g sz cs) → S[j]? = some x
theorem zkJ.app (σ τ : List zb) (id : Nat) : zkJ σ (σ ++ τ) id := ⟨by simp, fun _ _ h _ _ => zf h⟩
theorem zkJ.trans {σ S R : List zb} {id : Nat} (h : zkJ σ S id) (h' : zkJ S R id) : zkJ σ R id := ⟨Nat.le_trans h.len h'.len, fun j x hx hj hr => h'.get j x (h.get j x hx hj hr) hj hr⟩
theorem zjZ.app {σ : List zb} {id t g : Nat} {T : zav} (h : zjZ σ id t g T) (τ : List zb) : zjZ (σ ++ τ) id t g T := ⟨zf h.box, zf h.row, h.last⟩


theorem zjZ.setB {σ : List zb} {id t g j : Nat} {T : zav} {c : List AV} {y : zb} (h : zjZ σ id t g T) (hj : σ[j]? = some (.box c)) (hne : j ≠ id) : zjZ (σ.set j y) id t g T :=
  ⟨by rw [List.getElem?_set_ne hne]; exact h.box, by rw [List.getElem?_set_ne (fun e => by subst e; have := h.row; rw [hj] at this; cases this)]; exact h.row, h.last⟩
theorem zkJ.setB {σ τ S : List zb} {id j : Nat} {y : zb} (h : zkJ (σ ++ τ) S id) (hj : σ.length ≤ j) : zkJ σ (S.set j y) id :=
  ⟨by have := h.len; simp at this ⊢; omega, fun i x hx hi hr => by
    have := zF hx
    rw [List.getElem?_set_ne (by omega)]
    exact h.get i x (zf hx) hi hr⟩
end Go.Proofs.Ytaocmalhjfakdaa

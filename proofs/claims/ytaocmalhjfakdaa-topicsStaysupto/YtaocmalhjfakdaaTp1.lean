/- Contracts: the document's topics: where one stands; one is made. -/
import Derived.Test.YtaocmalhjfakdaaMk8
import Derived.Test.YtaocmalhjfakdaaSpTop
set_option linter.all false
set_option maxRecDepth 100000
set_option linter.unusedSimpArgs false
set_option linter.unusedVariables false
namespace Go.Proofs.Ytaocmalhjfakdaa
open Go.AW

def lastC : List (Int × Int × Int) → List AV
  | [] => []
  | a :: r => .d (.int .i64 a.1) :: .d (.int .i64 a.2.1) :: .d (.int .i64 a.2.2) :: lastC r
structure TopsAt (σ : List AObj) (id t g : Nat) (T : TTops) : Prop where
  box : σ[id]? = some (.box (.rsl t g 4 0 T.l.length :: lastC T.last))
  row : σ[t]? = some (.row g 4 (flatA (topsE T.l)))
  last : T.last.length = 8
structure Stays (σ S : List AObj) (id : Nat) : Prop where
  len : σ.length ≤ S.length
  get : ∀ (j : Nat) (x : AObj), σ[j]? = some x → j ≠ id → (∀ g sz cs, x ≠ .row g sz cs) → S[j]? = some x
theorem Stays.app (σ τ : List AObj) (id : Nat) : Stays σ (σ ++ τ) id := ⟨by simp, fun _ _ h _ _ => get_left h⟩
theorem Stays.trans {σ S R : List AObj} {id : Nat} (h : Stays σ S id) (h' : Stays S R id) : Stays σ R id := ⟨Nat.le_trans h.len h'.len, fun j x hx hj hr => h'.get j x (h.get j x hx hj hr) hj hr⟩
theorem TopsAt.app {σ : List AObj} {id t g : Nat} {T : TTops} (h : TopsAt σ id t g T) (τ : List AObj) : TopsAt (σ ++ τ) id t g T := ⟨get_left h.box, get_left h.row, h.last⟩
end Go.Proofs.Ytaocmalhjfakdaa

/- Contracts: the document's topics: where one stands; one is made. -/
import Derived.Test.YtaocmalhjfakdaaPr3
import Derived.Test.YtaocmalhjfakdaaSpTop
import Derived.Test.YtaocmalhjfakdaaOp1
set_option linter.all false
set_option maxRecDepth 100000
set_option linter.unusedSimpArgs false
set_option linter.unusedVariables false
namespace Go.Proofs.Ytaocmalhjfakdaa
open Go.AW

def zbT : List (Int × Int × Int) → List AV
  | [] => []
  | a :: r => .d (.int .i64 a.1) :: .d (.int .i64 a.2.1) :: .d (.int .i64 a.2.2) :: zbT r
structure zjG (σ : List zb) (id t g : Nat) (T : zS) : Prop where
  box : σ[id]? = some (.box (.rsl t g 4 0 T.l.length :: zbT T.last))
  row : σ[t]? = some (.row g 4 (flatA (topsE T.l)))
  last : T.last.length = 8
structure zku (σ S : List zb) (id : Nat) : Prop where
  len : σ.length ≤ S.length
  get : ∀ (j : Nat) (x : zb), σ[j]? = some x → j ≠ id → (∀ g sz cs, x ≠ .row g sz cs) → S[j]? = some x
theorem zku.app (σ τ : List zb) (id : Nat) : zku σ (σ ++ τ) id := ⟨by simp, fun _ _ h _ _ => ze h⟩
theorem zku.trans {σ S R : List zb} {id : Nat} (h : zku σ S id) (h' : zku S R id) : zku σ R id := ⟨Nat.le_trans h.len h'.len, fun j x hx hj hr => h'.get j x (h.get j x hx hj hr) hj hr⟩
theorem zjG.app {σ : List zb} {id t g : Nat} {T : zS} (h : zjG σ id t g T) (τ : List zb) : zjG (σ ++ τ) id t g T := ⟨ze h.box, ze h.row, h.last⟩


theorem zjG.setB {σ : List zb} {id t g j : Nat} {T : zS} {c : List AV} {y : zb} (h : zjG σ id t g T) (hj : σ[j]? = some (.box c)) (hne : j ≠ id) : zjG (σ.set j y) id t g T :=
  ⟨by rw [List.getElem?_set_ne hne]; exact h.box, by rw [List.getElem?_set_ne (fun e => by subst e; have := h.row; rw [hj] at this; cases this)]; exact h.row, h.last⟩
theorem zku.setB {σ τ S : List zb} {id j : Nat} {y : zb} (h : zku (σ ++ τ) S id) (hj : σ.length ≤ j) : zku σ (S.set j y) id :=
  ⟨by have := h.len; simp at this ⊢; omega, fun i x hx hi hr => by
    have := zo hx
    rw [List.getElem?_set_ne (by omega)]
    exact h.get i x (ze hx) hi hr⟩

theorem zgg : ∀ l : List (Int × Int × Int), (zbT l).length = l.length * 3
  | [] => rfl
  | a :: l => by simp [zbT, zgg l]; omega
theorem ziu : ∀ {l : List (Int × Int × Int)} {k : Nat} {a : Int × Int × Int}, l[k]? = some a → ((zbT l).drop (k * 3)).take 3 = [.d (.int .i64 a.1), .d (.int .i64 a.2.1), .d (.int .i64 a.2.2)]
  | [], k, a, h => by simp at h
  | b :: l, 0, a, h => by simp at h; subst h; simp [zbT]
  | b :: l, k + 1, a, h => by
    have := ziu (l := l) (k := k) (a := a) (by simpa using h)
    rw [show (k + 1) * 3 = k * 3 + 1 + 1 + 1 by omega]
    simpa [zbT] using this
theorem lastC_set : ∀ {l : List (Int × Int × Int)} {k : Nat} (a : Int × Int × Int), k < l.length → (zbT l).take (k * 3) ++ (.d (.int .i64 a.1) :: .d (.int .i64 a.2.1) :: .d (.int .i64 a.2.2) :: (zbT l).drop (k * 3 + 3)) = zbT (l.set k a)
  | [], k, a, h => by simp at h
  | b :: l, 0, a, h => by simp [zbT]
  | b :: l, k + 1, a, h => by
    have := lastC_set (l := l) (k := k) a (by simpa using h)
    rw [show (k + 1) * 3 = k * 3 + 1 + 1 + 1 by omega, show k * 3 + 1 + 1 + 1 + 3 = (k * 3 + 3) + 1 + 1 + 1 by omega]
    simpa [zbT] using this
abbrev reqAg (c tm : Int) (o : TOp) : AV := .agg [.d (.int .i64 c), .d (.int .i64 tm), .d (.int .i64 o.kind), .d (.str o.topic), .d (.str o.group), .d (.int .i64 o.offset), .d (.slice (zbu o.recs))]
end Go.Proofs.Ytaocmalhjfakdaa

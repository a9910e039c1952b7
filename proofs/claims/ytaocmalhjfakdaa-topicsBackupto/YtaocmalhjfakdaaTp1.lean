/- Contracts: the document's topics: where one stands; one is made. -/
import Derived.Test.YtaocmalhjfakdaaPr3
import Derived.Test.YtaocmalhjfakdaaSpTop
import Derived.Test.YtaocmalhjfakdaaOp1
set_option linter.all false
set_option maxRecDepth 100000
set_option linter.unusedSimpArgs false
set_option linter.unusedVariables false
namespace Go.Proofs.Ytaocmalhjfakdaa
open Go.AW

def zbX : List (Int × Int × Int) → List AV
  | [] => []
  | a :: r => .d (.int .i64 a.1) :: .d (.int .i64 a.2.1) :: .d (.int .i64 a.2.2) :: zbX r
structure zgo (σ : List zc) (id t g : Nat) (T : zO) : Prop where
  box : σ[id]? = some (.box (.rsl t g 4 0 T.l.length :: zbX T.last))
  row : σ[t]? = some (.row g 4 (flatA (topsE T.l)))
  last : T.last.length = 8
structure zly (σ S : List zc) (id : Nat) : Prop where
  len : σ.length ≤ S.length
  get : ∀ (j : Nat) (x : zc), σ[j]? = some x → j ≠ id → (∀ g sz cs, x ≠ .row g sz cs) → S[j]? = some x
theorem zly.app (σ τ : List zc) (id : Nat) : zly σ (σ ++ τ) id := ⟨by simp, fun _ _ h _ _ => zf h⟩
theorem zly.trans {σ S R : List zc} {id : Nat} (h : zly σ S id) (h' : zly S R id) : zly σ R id := ⟨Nat.le_trans h.len h'.len, fun j x hx hj hr => h'.get j x (h.get j x hx hj hr) hj hr⟩
theorem zgo.app {σ : List zc} {id t g : Nat} {T : zO} (h : zgo σ id t g T) (τ : List zc) : zgo (σ ++ τ) id t g T := ⟨zf h.box, zf h.row, h.last⟩


theorem zgo.setB {σ : List zc} {id t g j : Nat} {T : zO} {c : List AV} {y : zc} (h : zgo σ id t g T) (hj : σ[j]? = some (.box c)) (hne : j ≠ id) : zgo (σ.set j y) id t g T :=
  ⟨by rw [List.getElem?_set_ne hne]; exact h.box, by rw [List.getElem?_set_ne (fun e => by subst e; have := h.row; rw [hj] at this; cases this)]; exact h.row, h.last⟩
theorem zly.setB {σ τ S : List zc} {id j : Nat} {y : zc} (h : zly (σ ++ τ) S id) (hj : σ.length ≤ j) : zly σ (S.set j y) id :=
  ⟨by have := h.len; simp at this ⊢; omega, fun i x hx hi hr => by
    have := zg hx
    rw [List.getElem?_set_ne (by omega)]
    exact h.get i x (zf hx) hi hr⟩

theorem zgL : ∀ l : List (Int × Int × Int), (zbX l).length = l.length * 3
  | [] => rfl
  | a :: l => by simp [zbX, zgL l]; omega
theorem zkN : ∀ {l : List (Int × Int × Int)} {k : Nat} {a : Int × Int × Int}, l[k]? = some a → ((zbX l).drop (k * 3)).take 3 = [.d (.int .i64 a.1), .d (.int .i64 a.2.1), .d (.int .i64 a.2.2)]
  | [], k, a, h => by simp at h
  | b :: l, 0, a, h => by simp at h; subst h; simp [zbX]
  | b :: l, k + 1, a, h => by
    have := zkN (l := l) (k := k) (a := a) (by simpa using h)
    rw [show (k + 1) * 3 = k * 3 + 1 + 1 + 1 by omega]
    simpa [zbX] using this
theorem zkM : ∀ {l : List (Int × Int × Int)} {k : Nat} (a : Int × Int × Int), k < l.length → (zbX l).take (k * 3) ++ (.d (.int .i64 a.1) :: .d (.int .i64 a.2.1) :: .d (.int .i64 a.2.2) :: (zbX l).drop (k * 3 + 3)) = zbX (l.set k a)
  | [], k, a, h => by simp at h
  | b :: l, 0, a, h => by simp [zbX]
  | b :: l, k + 1, a, h => by
    have := zkM (l := l) (k := k) a (by simpa using h)
    rw [show (k + 1) * 3 = k * 3 + 1 + 1 + 1 by omega, show k * 3 + 1 + 1 + 1 + 3 = (k * 3 + 3) + 1 + 1 + 1 by omega]
    simpa [zbX] using this
abbrev reqAg (c tm : Int) (o : TOp) : AV := .agg [.d (.int .i64 c), .d (.int .i64 tm), .d (.int .i64 o.kind), .d (.str o.topic), .d (.str o.group), .d (.int .i64 o.offset), .d (.slice (zbz o.recs))]
end Go.Proofs.Ytaocmalhjfakdaa

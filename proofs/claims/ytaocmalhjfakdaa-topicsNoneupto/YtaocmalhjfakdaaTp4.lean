/- Contracts: a request comes to the document's topics. -/
import Derived.Test.YtaocmalhjfakdaaTp1
set_option linter.all false
set_option maxRecDepth 100000
set_option linter.unusedSimpArgs false
set_option linter.unusedVariables false
namespace Go.Proofs.Ytaocmalhjfakdaa
open Go.AW

theorem zgq : ∀ l : List (Int × Int × Int), (zbD l).length = l.length * 3
  | [] => rfl
  | a :: l => by simp [zbD, zgq l]; omega
theorem ziH : ∀ {l : List (Int × Int × Int)} {k : Nat} {a : Int × Int × Int}, l[k]? = some a → ((zbD l).drop (k * 3)).take 3 = [.d (.int .i64 a.1), .d (.int .i64 a.2.1), .d (.int .i64 a.2.2)]
  | [], k, a, h => by simp at h
  | b :: l, 0, a, h => by simp at h; subst h; simp [zbD]
  | b :: l, k + 1, a, h => by
    have := ziH (l := l) (k := k) (a := a) (by simpa using h)
    rw [show (k + 1) * 3 = k * 3 + 1 + 1 + 1 by omega]
    simpa [zbD] using this
theorem ziG : ∀ {l : List (Int × Int × Int)} {k : Nat} (a : Int × Int × Int), k < l.length → (zbD l).take (k * 3) ++ (.d (.int .i64 a.1) :: .d (.int .i64 a.2.1) :: .d (.int .i64 a.2.2) :: (zbD l).drop (k * 3 + 3)) = zbD (l.set k a)
  | [], k, a, h => by simp at h
  | b :: l, 0, a, h => by simp [zbD]
  | b :: l, k + 1, a, h => by
    have := ziG (l := l) (k := k) a (by simpa using h)
    rw [show (k + 1) * 3 = k * 3 + 1 + 1 + 1 by omega, show k * 3 + 1 + 1 + 1 + 3 = (k * 3 + 3) + 1 + 1 + 1 by omega]
    simpa [zbD] using this
abbrev reqAg (c tm : Int) (o : TOp) : AV := .agg [.d (.int .i64 c), .d (.int .i64 tm), .d (.int .i64 o.kind), .d (.str o.topic), .d (.str o.group), .d (.int .i64 o.offset), .d (.slice (zbx o.recs))]
end Go.Proofs.Ytaocmalhjfakdaa

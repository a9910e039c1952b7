/- Contracts: a request comes to the document's topics. -/
import Derived.Test.YtaocmalhjfakdaaTp2
set_option linter.all false
set_option maxRecDepth 100000
set_option linter.unusedSimpArgs false
set_option linter.unusedVariables false
namespace Go.Proofs.Ytaocmalhjfakdaa
open Go.AW

theorem lastC_len : ∀ l : List (Int × Int × Int), (lastC l).length = l.length * 3
  | [] => rfl
  | a :: l => by simp [lastC, lastC_len l]; omega
theorem lastC_get : ∀ {l : List (Int × Int × Int)} {k : Nat} {a : Int × Int × Int}, l[k]? = some a → ((lastC l).drop (k * 3)).take 3 = [.d (.int .i64 a.1), .d (.int .i64 a.2.1), .d (.int .i64 a.2.2)]
  | [], k, a, h => by simp at h
  | b :: l, 0, a, h => by simp at h; subst h; simp [lastC]
  | b :: l, k + 1, a, h => by
    have := lastC_get (l := l) (k := k) (a := a) (by simpa using h)
    rw [show (k + 1) * 3 = k * 3 + 1 + 1 + 1 by omega]
    simpa [lastC] using this
theorem lastC_set : ∀ {l : List (Int × Int × Int)} {k : Nat} (a : Int × Int × Int), k < l.length → (lastC l).take (k * 3) ++ (.d (.int .i64 a.1) :: .d (.int .i64 a.2.1) :: .d (.int .i64 a.2.2) :: (lastC l).drop (k * 3 + 3)) = lastC (l.set k a)
  | [], k, a, h => by simp at h
  | b :: l, 0, a, h => by simp [lastC]
  | b :: l, k + 1, a, h => by
    have := lastC_set (l := l) (k := k) a (by simpa using h)
    rw [show (k + 1) * 3 = k * 3 + 1 + 1 + 1 by omega, show k * 3 + 1 + 1 + 1 + 3 = (k * 3 + 3) + 1 + 1 + 1 by omega]
    simpa [lastC] using this
abbrev reqAg (c tm : Int) (o : TOp) : AV := .agg [.d (.int .i64 c), .d (.int .i64 tm), .d (.int .i64 o.kind), .d (.str o.topic), .d (.str o.group), .d (.int .i64 o.offset), .d (.slice (recsE o.recs))]
end Go.Proofs.Ytaocmalhjfakdaa

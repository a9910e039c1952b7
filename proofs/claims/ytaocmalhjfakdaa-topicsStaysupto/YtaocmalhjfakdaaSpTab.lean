/- Byte strings and their numbers; what was signed. No program in sight. -/
import Derived.Test.YtaocmalhjfakdaaSpNum
import Derived.Test.YtaocmalhjfakdaaAwFrz
set_option linter.all false
set_option linter.unusedSimpArgs false
set_option linter.unusedVariables false
namespace Go.AW

def lookAt : List (List UInt8) → List UInt8 → Nat → Option Nat
  | [], _, _ => none
  | x :: r, b, i => if b = x then some i else lookAt r b (i + 1)
def lookF (l : List (List UInt8)) (b : List UInt8) : Option Nat := lookAt l b 0
def sumL (l : List (List UInt8)) (b : List UInt8) : List (List UInt8) := match lookF l b with
  | some _ => l
  | none => if l.length ≥ 1048576 then l else l ++ [b]
abbrev tabE (l : List (List UInt8)) : List (List D) := l.map fun b => [D.slice (bcs b)]
def tabMA : List (List UInt8) → Nat → List (AV × AV)
  | [], _ => []
  | x :: r, i => (.d (.str x), .d (.int .i64 ((i + 1 : Nat) : Int))) :: tabMA r (i + 1)
def tabM (l : List (List UInt8)) : List (AV × AV) := tabMA l 0

theorem look_none_not {l : List (List UInt8)} {b : List UInt8} (h : lookF l b = none) : b ∉ l := by
  have key : ∀ (l : List (List UInt8)) (i : Nat), lookAt l b i = none → b ∉ l := by
    intro l
    induction l with
    | nil => intro i _; simp
    | cons x r ih =>
      intro i h
      simp only [lookAt] at h
      split at h
      · cases h
      · rename_i hne
        simp only [List.mem_cons, not_or]
        exact ⟨hne, ih _ h⟩
  exact key l 0 h
abbrev ledE (l : List TSign) : List (List D) := signsE l
def ledM (l : List TSign) : List (AV × AV) := l.map fun s => (.agg [.d (.int .i64 s.key), .d (.int .i64 s.dig)], .d (.bool true))
end Go.AW

/- Contracts: which batches are the same; a batch's clone whose cells may be written. -/
import Derived.Test.YtahbjkanmagndaaMu1
import Derived.Test.YtahbjkanmagndaaRc2
set_option linter.all false
set_option maxRecDepth 100000
set_option linter.unusedSimpArgs false
set_option linter.unusedVariables false
namespace Go.Proofs.Ytahbjkanmagndaa
open Go.AW

def cells9 (x : TSigned) (c : AV) : List AV := [.d (.int .i64 x.client), .d (.int .i64 x.time), .d (.int .i64 x.op.kind), .d (.str x.op.topic), .d (.str x.op.group), .d (.int .i64 x.op.offset), c, .d (.int .i64 x.key), .d (.int .i64 x.dig)]
/-- a batch in a row of its own -/
def BatchX (n : Nat) (s : List AObj) (c : AV) (b : List TSigned) : Prop :=
  ∃ t g Ls, n ≤ t ∧ c = .rsl t g 9 0 b.length ∧ s[t]? = some (.row g 9 (List.flatten Ls)) ∧ Ls.length = b.length ∧ ∀ (i : Nat) (x : TSigned), b[i]? = some x → ∃ rc, Ls[i]? = some (cells9 x rc) ∧ RecsX n s rc x.op.recs
theorem flat_len {Ls : List (List AV)} (h : ∀ l ∈ Ls, l.length = 9) : (List.flatten Ls).length = Ls.length * 9 := by
  induction Ls with
  | nil => rfl
  | cons l r ih =>
    have h1 := h l (by simp)
    have h2 := ih fun x hx => h x (by simp [hx])
    simp only [List.flatten_cons, List.length_append, List.length_cons]; omega
theorem flat_nine {n : Nat} {s : List AObj} {Ls : List (List AV)} {b : List TSigned} (h1 : Ls.length = b.length) (h2 : ∀ (i : Nat) (x : TSigned), b[i]? = some x → ∃ rc, Ls[i]? = some (cells9 x rc) ∧ RecsX n s rc x.op.recs) : ∀ l ∈ Ls, l.length = 9 := by
  intro l hl
  obtain ⟨i, hi⟩ := List.mem_iff_getElem?.1 hl
  have := lt_len hi
  obtain ⟨rc, h3, _⟩ := h2 i (b[i]'(by omega)) (List.getElem?_eq_getElem _)
  rw [hi] at h3; cases h3; rfl
end Go.Proofs.Ytahbjkanmagndaa

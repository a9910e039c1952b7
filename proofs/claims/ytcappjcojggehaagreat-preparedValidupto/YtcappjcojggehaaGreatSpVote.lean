/- Votes: their bytes, and whether they are signed. No program in sight. -/
import Derived.Test.YtcappjcojggehaaGreatSpTab
import Derived.Test.YtcappjcojggehaaGreatSpRd
set_option linter.all false
set_option linter.unusedSimpArgs false
set_option linter.unusedVariables false
namespace Go.AW

abbrev intsE (l : List Int) : List (List D) := l.map fun t => [D.int .i64 t]
def numOk (x : Int) : Bool := decide (0 ≤ x ∧ x ≤ 9007199254740992)
def mayV (a b c d : Int) : Bool := numOk a && (numOk b && (numOk c && numOk d))
def numsB (l : List Int) : List UInt8 := (l.map fun x => numB x.toNat).flatten
def voteB (a b c d : Int) : List UInt8 := 4 :: numsB [a, b, c, d]
theorem zlv {x : Int} : numOk x = true ↔ 0 ≤ x ∧ x ≤ 9007199254740992 := by simp [numOk]
theorem zmT {l : List Int} {k : Nat} {x : Int} (h : l[k]? = some x) : numsB (l.take (k + 1)) = numsB (l.take k) ++ numB x.toNat := by
  rw [List.take_add_one, h]; simp [numsB]
theorem numsB_len {l : List Int} (h : ∀ x ∈ l, x < 9223372036854775808) : (numsB l).length ≤ l.length * 10 := by
  induction l with
  | nil => simp [numsB]
  | cons x l ih =>
    have h1 := h x (by simp)
    have h2 := zS (n := x.toNat) (by omega)
    have h3 := ih fun y hy => h y (by simp [hy])
    simp only [numsB, List.map_cons, List.flatten_cons, List.length_append, List.length_cons] at h3 ⊢
    omega
theorem voteB_len {a b c d : Int} (h : mayV a b c d = true) : (voteB a b c d).length ≤ 50 := by
  simp only [mayV, Bool.and_eq_true, zlv] at h
  have := numsB_len (l := [a, b, c, d]) (by intro x hx; simp at hx; omega)
  simp only [voteB, List.length_cons, List.length_nil] at this ⊢
  omega
theorem mayV_all (a b c d : Int) : mayV a b c d = [a, b, c, d].all numOk := by simp [mayV]
/-- is it signed with a key, what these bytes are? -/
def zcM (L : List (List UInt8)) (G : List TSign) (s : TSign) (key : Int) (b : List UInt8) : Bool := match lookF L b with
  | some i => decide (s.key = key ∧ s.dig = ((i + 1 : Nat) : Int)) && decide (s ∈ G)
  | none => false
def zeE (L : List (List UInt8)) (G : List TSign) (s : TSign) (key a b c d : Int) : Bool := mayV a b c d && zcM L G s key (voteB a b c d)
end Go.AW

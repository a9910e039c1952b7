/- Votes: their bytes, and whether they are signed. No program in sight. -/
import Derived.Test.YtcappjcojggehaaGreatSpTab
import Derived.Test.YtcappjcojggehaaGreatSpRd
set_option linter.all false
set_option linter.unusedSimpArgs false
set_option linter.unusedVariables false
namespace Go.AW

abbrev intsE (l : List Int) : List (List D) := l.map fun t => [D.int .i64 t]
def zfc (x : Int) : Bool := decide (0 ≤ x ∧ x ≤ 9007199254740992)
def zlN (a b c d : Int) : Bool := zfc a && (zfc b && (zfc c && zfc d))
def zji (l : List Int) : List UInt8 := (l.map fun x => zcw x.toNat).flatten
def zht (a b c d : Int) : List UInt8 := 4 :: zji [a, b, c, d]
theorem zlJ {x : Int} : zfc x = true ↔ 0 ≤ x ∧ x ≤ 9007199254740992 := by simp [zfc]
theorem znm {l : List Int} {k : Nat} {x : Int} (h : l[k]? = some x) : zji (l.take (k + 1)) = zji (l.take k) ++ zcw x.toNat := by
  rw [List.take_add_one, h]; simp [zji]
theorem numsB_len {l : List Int} (h : ∀ x ∈ l, x < 9223372036854775808) : (zji l).length ≤ l.length * 10 := by
  induction l with
  | nil => simp [zji]
  | cons x l ih =>
    have h1 := h x (by simp)
    have h2 := zV (n := x.toNat) (by omega)
    have h3 := ih fun y hy => h y (by simp [hy])
    simp only [zji, List.map_cons, List.flatten_cons, List.length_append, List.length_cons] at h3 ⊢
    omega
theorem voteB_len {a b c d : Int} (h : zlN a b c d = true) : (zht a b c d).length ≤ 50 := by
  simp only [zlN, Bool.and_eq_true, zlJ] at h
  have := numsB_len (l := [a, b, c, d]) (by intro x hx; simp at hx; omega)
  simp only [zht, List.length_cons, List.length_nil] at this ⊢
  omega
theorem mayV_all (a b c d : Int) : zlN a b c d = [a, b, c, d].all zfc := by simp [zlN]
def zdK (L : List (List UInt8)) (G : List zR) (s : zR) (key : Int) (b : List UInt8) : Bool := match zcX L b with
  | some i => decide (s.key = key ∧ s.dig = ((i + 1 : Nat) : Int)) && decide (s ∈ G)
  | none => false
def zfB (L : List (List UInt8)) (G : List zR) (s : zR) (key a b c d : Int) : Bool := zlN a b c d && zdK L G s key (zht a b c d)
end Go.AW

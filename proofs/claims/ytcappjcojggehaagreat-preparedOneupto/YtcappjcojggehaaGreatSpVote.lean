/- Votes: their bytes, and whether they are signed. No program in sight. -/
import Derived.Test.YtcappjcojggehaaGreatSpTab
import Derived.Test.YtcappjcojggehaaGreatSpRd
set_option linter.all false
set_option linter.unusedSimpArgs false
set_option linter.unusedVariables false
namespace Go.AW

abbrev zlJ (l : List Int) : List (List D) := l.map fun t => [D.int .i64 t]
def zev (x : Int) : Bool := decide (0 ≤ x ∧ x ≤ 9007199254740992)
def zjW (a b c d : Int) : Bool := zev a && (zev b && (zev c && zev d))
def zix (l : List Int) : List UInt8 := (l.map fun x => zct x.toNat).flatten
def zeT (a b c d : Int) : List UInt8 := 4 :: zix [a, b, c, d]
theorem ziT {x : Int} : zev x = true ↔ 0 ≤ x ∧ x ≤ 9007199254740992 := by simp [zev]
theorem zmW {l : List Int} {k : Nat} {x : Int} (h : l[k]? = some x) : zix (l.take (k + 1)) = zix (l.take k) ++ zct x.toNat := by
  rw [List.take_add_one, h]; simp [zix]
theorem numsB_len {l : List Int} (h : ∀ x ∈ l, x < 9223372036854775808) : (zix l).length ≤ l.length * 10 := by
  induction l with
  | nil => simp [zix]
  | cons x l ih =>
    have h1 := h x (by simp)
    have h2 := zX (n := x.toNat) (by omega)
    have h3 := ih fun y hy => h y (by simp [hy])
    simp only [zix, List.map_cons, List.flatten_cons, List.length_append, List.length_cons] at h3 ⊢
    omega
theorem voteB_len {a b c d : Int} (h : zjW a b c d = true) : (zeT a b c d).length ≤ 50 := by
  simp only [zjW, Bool.and_eq_true, ziT] at h
  have := numsB_len (l := [a, b, c, d]) (by intro x hx; simp at hx; omega)
  simp only [zeT, List.length_cons, List.length_nil] at this ⊢
  omega
theorem mayV_all (a b c d : Int) : zjW a b c d = [a, b, c, d].all zev := by simp [zjW]
def zgh (L : List (List UInt8)) (G : List zR) (s : zR) (key : Int) (b : List UInt8) : Bool := match zck L b with
  | some i => decide (s.key = key ∧ s.dig = ((i + 1 : Nat) : Int)) && decide (s ∈ G)
  | none => false
def zfC (L : List (List UInt8)) (G : List zR) (s : zR) (key a b c d : Int) : Bool := zjW a b c d && zgh L G s key (zeT a b c d)
end Go.AW

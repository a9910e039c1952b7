/- The same conditions with the slots as variables; and the rules by which they are reckoned out. -/
import Derived.Test.YtahbjkanmagndaaAwFun
set_option linter.all false
namespace Go.AW
def allocC (z : List AV) (σ : List AObj) (K : KT) : Prop := K (.box σ.length 0) (σ ++ [.box z])
def binC (op : BinOp) (e : EK) (x y : AV) (σ : List AObj) (K : KT) : Prop := binA op e x y (fun a => K a σ)
def unC (op : UnOp) (x : AV) (σ : List AObj) (K : KT) : Prop := unA op x (fun a => K a σ)
def mkmapC (σ : List AObj) (K : KT) : Prop := K (.map σ.length) (σ ++ [.map []])
def headC (vs : List AV) (k : AV → List AV → Prop) : Prop := k (vs.getD 0 .undef) (vs.drop 1)
def fillV : List AV → List (Nat × Nat × AV) → Option (List AV)
  | cs, [] => some cs
  | cs, (off, s, x) :: r =>
    match cellsA x with
    | some xs => if xs.length = s ∧ off + s ≤ cs.length then fillV (splice cs off xs) r else none
    | none => none

theorem BB_true (p q : Prop) : BB true p q = p := propext ⟨fun h => h.1 rfl, fun h => ⟨fun _ => h, fun e => Bool.noConfusion e⟩⟩
theorem BB_false (p q : Prop) : BB false p q = q := propext ⟨fun h => h.2 rfl, fun h => ⟨fun e => Bool.noConfusion e, fun _ => h⟩⟩
theorem BB_not (b : Bool) (p q : Prop) : BB (!b) p q = BB b q p := by cases b <;> simp [BB_true, BB_false]
theorem BB_beqT (b : Bool) (p q : Prop) : BB (b == true) p q = BB b p q := by cases b <;> rfl
theorem BB_beqF (b : Bool) (p q : Prop) : BB (b == false) p q = BB b q p := by cases b <;> simp [BB_true, BB_false]
@[congr] theorem BB_congr {b b' : Bool} {p q p' q' : Prop} (hb : b = b') (hp : b' = true → p = p') (hq : b' = false → q = q') : BB b p q = BB b' p' q' := by
  subst hb
  cases b
  · simp only [BB_false]; exact hq rfl
  · simp only [BB_true]; exact hp rfl
theorem BB_intro {b : Bool} {p q : Prop} (h1 : b = true → p) (h2 : b = false → q) : BB b p q := ⟨h1, h2⟩
theorem BB_same (b : Bool) (p : Prop) : BB b p p = p := by cases b <;> simp [BB_true, BB_false]

theorem Low_d (n : Nat) (x : D) : Low n (.d x) = True := eq_true (.d x)
theorem Low_exact (n : Nat) (es : List (List D)) : Low n (.exact es) = True := eq_true (.exact es)
theorem Low_vp (n : Nat) (cs : List D) : Low n (.vp cs) = True := eq_true (.vp cs)
theorem Low_undef (n : Nat) : Low n .undef = True := eq_true .undef
theorem Low_agg (n : Nat) (cs : List AV) : Low n (.agg cs) = ∀ c ∈ cs, Low n c := propext ⟨fun h => by cases h with | agg _ h => exact h, .agg cs⟩
theorem Low_tup (n : Nat) (cs : List AV) : Low n (.tup cs) = ∀ c ∈ cs, Low n c := propext ⟨fun h => by cases h with | tup _ h => exact h, .tup cs⟩
theorem Low_box (n id off : Nat) : Low n (.box id off) = (id < n) := propext ⟨fun h => by cases h with | box _ _ h => exact h, .box id off⟩
theorem Low_own (n t : Nat) (es : List (List D)) : Low n (.own t es) = (t < n) := propext ⟨fun h => by cases h with | own _ _ h => exact h, .own t es⟩
theorem Low_map (n id : Nat) : Low n (.map id) = (id < n) := propext ⟨fun h => by cases h with | map _ h => exact h, .map id⟩
end Go.AW

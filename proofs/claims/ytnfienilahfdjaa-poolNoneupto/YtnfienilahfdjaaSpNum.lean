/- How a number is put: seven bits a byte. No program in sight. -/
import Derived.IntWalk
set_option linter.all false
namespace Go.AW

theorem wrap64i {n : Int} (h1 : -9223372036854775808 ≤ n) (h2 : n ≤ 9223372036854775807) : IntKind.i64.wrap n = n := IntWalk.i64_in n ⟨h1, h2⟩
theorem byte_ofNat {n : Nat} (h : n < 256) : ((UInt8.ofNat n).toNat : Int) = (n : Int) := by
  simp; omega
end Go.AW

/- All conditions. -/
import Derived.Test.YtpgahkdjkanblaaGreatSh1
import Derived.Test.YtpgahkdjkanblaaGreatSh2
import Derived.Test.YtpgahkdjkanblaaGreatSh3
import Derived.Test.YtpgahkdjkanblaaGreatSh4
import Derived.Test.YtpgahkdjkanblaaGreatSh5
import Derived.Test.YtpgahkdjkanblaaGreatSh6
import Derived.IntWalk
set_option linter.all false

/- How a number is put: seven bits a byte. No program in sight. -/
namespace Go.AW
def zcA (n:Nat):List UInt8:=if n<128 then [UInt8.ofNat n] else UInt8.ofNat (n % 128+128)::zcA (n / 128)
termination_by n
decreasing_by omega
theorem zpC {n:Nat} (h:n<128):zcA n = [UInt8.ofNat n]:=by rw [zcA,if_pos h]
theorem zAe {n:Nat} (h:¬ n<128):zcA n=UInt8.ofNat (n % 128+128)::zcA (n / 128):=by rw [zcA,if_neg h]
theorem numB_len:∀ (k n:Nat),n<128 ^ (k+1) → 1<=(zcA n).length/\(zcA n).length<=k+1
 | 0,n,h=>by rw [zpC (by simpa using h)];simp
 | k+1,n,h=>by
  by_cases hs:n<128
  ·rw [zpC hs];simp
  ·rw [zAe hs]
   have:=numB_len k (n / 128) (by rw [Nat.div_lt_iff_lt_mul (by omega)];rw [Nat.pow_succ] at h;exact h)
   simp;omega
theorem zm {n:Nat} (h:n<18446744073709551616):1<=(zcA n).length/\(zcA n).length<=10:=numB_len 9 n (by omega)
theorem or128:∀ x:Fin 256,(BitVec.ofInt 8 (x.val:Int) ||| BitVec.ofInt 8 128).toNat=x.val % 128+128:=by decide +kernel
theorem wrap8 (n:Nat):IntKind.u8.wrap (n:Int)=((n % 256:Nat):Int):=by
 simp [IntKind.wrap,IntKind.signed,IntKind.bits]
theorem zvo {n:Nat} (h:n<256):IntKind.u8.wrap (n:Int)=(n:Int):=by rw [wrap8,Nat.mod_eq_of_lt h]
theorem zdq {n:Nat} (h:n<18446744073709551616):IntKind.u64.wrap (n:Int)=(n:Int):=by
 simp [IntKind.wrap,IntKind.signed,IntKind.bits]
 omega
theorem zab {n:Int} (h1 : -9223372036854775808<=n) (h2:n<=9223372036854775807):IntKind.i64.wrap n=n:=IntWalk.i64_in n ⟨h1,h2⟩
theorem zpT {n:Nat} (h:n<256):((UInt8.ofNat n).toNat:Int)=(n:Int):=by
 simp;omega
end Go.AW

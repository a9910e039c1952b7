/- Resolved forms, each with the theorem that it is its function's. Printed by program. -/
import Derived.Test.YtcappjcojggehaaNm
import Derived.KernelRfl
set_option linter.all false
set_option maxRecDepth 100000
set_option linter.unusedVariables false
namespace Go.Proofs.Ytcappjcojggehaa
open Go.AW
/-- bulla/bullaref08.Digest -/
def zgh : AF := ⟨2, 20, [(.tmp 4), (.tmp 5)],
 (.seq (.ops [⟨some 4, none, .mv (.lit (.d (.int .i64 0)))⟩,
  ⟨some 5, none, .mv (.lit (.d (.int .i64 0)))⟩])
 (.seq (.seq (.ops [⟨some 8, none, .mv (.tmp 1)⟩,
  ⟨some 9, none, .call false 36 [(.tmp 8)]⟩,
  ⟨some 6, none, .mv (.tmp 9)⟩])
 (.seq (.ops [⟨some 10, none, .mv (.tmp 6)⟩,
  ⟨some 11, none, .bin .neq .plain (.tmp 10) (.lit (.d (.int .i64 0)))⟩])
 (.cond (.tmp 11) (.seq (.ops [⟨some 12, none, .mv (.tmp 6)⟩,
  ⟨some 4, none, .mv (.lit (.d (.int .i64 0)))⟩,
  ⟨some 5, none, .mv (.tmp 12)⟩])
 .ret) .skip)))
 (.seq (.ops [⟨some 13, none, .mv (.tmp 0)⟩,
  ⟨some 14, none, .mv (.tmp 1)⟩,
  ⟨some 15, none, .call false 37 [(.lit (.exact [])), (.tmp 14)]⟩,
  ⟨some 16, none, .call false 35 [(.tmp 13), (.tmp 15)]⟩,
  ⟨some 7, none, .mv (.tmp 16)⟩])
 (.seq (.seq (.ops [⟨some 17, none, .mv (.tmp 7)⟩,
  ⟨some 18, none, .bin .eql .plain (.tmp 17) (.lit (.d (.int .i64 0)))⟩])
 (.cond (.tmp 18) (.seq (.ops [⟨some 4, none, .mv (.lit (.d (.int .i64 0)))⟩,
  ⟨some 5, none, .mv (.lit (.d (.int .i64 6)))⟩])
 .ret) .skip))
 (.seq (.ops [⟨some 19, none, .mv (.tmp 7)⟩,
  ⟨some 4, none, .mv (.tmp 19)⟩,
  ⟨some 5, none, .mv (.lit (.d (.int .i64 0)))⟩])
 .ret)))))⟩
theorem zlA : isF Try.prog zfE zgh := ⟨Try.f17, _, Try.func17, by decide +kernel, rfl, by kernel_rfl, by kernel_rfl, by decide, by kernel_rfl, rfl, by kernel_rfl⟩
/-- bulla/bullaref11.Vote -/
def zjd : AF := ⟨7, 34, [(.cell 14 true 2), (.tmp 15)],
 (.seq (.ops [⟨some 14, none, .alloc [(.d (.int .i64 0)), (.d (.int .i64 0))]⟩,
  ⟨some 15, none, .mv (.lit (.d (.int .i64 0)))⟩])
 (.seq (.seq (.ops [⟨some 16, none, .mv (.tmp 3)⟩,
  ⟨some 17, none, .mv (.tmp 4)⟩,
  ⟨some 18, none, .mv (.tmp 5)⟩,
  ⟨some 19, none, .mv (.tmp 6)⟩,
  ⟨some 20, none, .call false 38 [(.tmp 16), (.tmp 17), (.tmp 18), (.tmp 19)]⟩,
  ⟨some 21, none, .un .not (.tmp 20)⟩])
 (.cond (.tmp 21) (.seq (.ops [⟨some 22, none, .build [(.d (.int .i64 0)), (.d (.int .i64 0))] []⟩,
  ⟨none, none, .store 2 (.tmp 14) (.tmp 22)⟩,
  ⟨some 15, none, .mv (.lit (.d (.int .i64 1)))⟩])
 .ret) .skip))
 (.seq (.ops [⟨some 23, none, .mv (.tmp 0)⟩,
  ⟨some 24, none, .mv (.tmp 1)⟩,
  ⟨some 25, none, .mv (.tmp 2)⟩,
  ⟨some 26, none, .mv (.tmp 3)⟩,
  ⟨some 27, none, .mv (.tmp 4)⟩,
  ⟨some 28, none, .mv (.tmp 5)⟩,
  ⟨some 29, none, .mv (.tmp 6)⟩,
  ⟨some 30, none, .call false 40 [(.tmp 26), (.tmp 27), (.tmp 28), (.tmp 29)]⟩,
  ⟨some 31, none, .call false 39 [(.tmp 23), (.tmp 24), (.tmp 25), (.tmp 30)]⟩,
  ⟨some 32, none, .extract (.tmp 31) 0⟩,
  ⟨some 33, none, .extract (.tmp 31) 1⟩,
  ⟨none, none, .store 2 (.tmp 14) (.tmp 32)⟩,
  ⟨some 15, none, .mv (.tmp 33)⟩])
 .ret)))⟩
theorem isA_r11_Vote : isF Try.prog zgr zjd := ⟨Try.f18, _, Try.func18, by decide +kernel, rfl, by kernel_rfl, by kernel_rfl, by decide, by kernel_rfl, rfl, by kernel_rfl⟩
/-- (*bulla/ideal.Table).Sum -/
def zcL : AF := ⟨2, 52, [(.tmp 4)],
 (.seq (.ops [⟨some 4, none, .mv (.lit (.d (.int .i64 0)))⟩])
 (.seq (.seq (.ops [⟨some 8, none, .mv (.tmp 0)⟩,
  ⟨some 9, none, .call false 41 [(.tmp 8)]⟩])
 (.cond (.tmp 9) (.seq (.ops [⟨some 4, none, .mv (.lit (.d (.int .i64 0)))⟩])
 .ret) .skip))
 (.seq (.seq (.draw [⟨some 11, none, .mv (.tmp 0)⟩,
  ⟨some 12, none, .nilchk (.tmp 11)⟩,
  ⟨some 13, none, .faddr 1 (.tmp 12)⟩,
  ⟨some 14, none, .load false 1 (.tmp 13)⟩,
  ⟨some 15, none, .mv (.tmp 1)⟩,
  ⟨some 16, none, .conv .toStr (.tmp 15)⟩,
  ⟨some 17, none, .mget .str true (.d (.int .i64 0)) (.tmp 14) (.tmp 16)⟩,
  ⟨some 10, none, .mv (.tmp 17)⟩,
  ⟨some 18, none, .extract (.tmp 10) 0⟩,
  ⟨some 19, none, .extract (.tmp 10) 1⟩,
  ⟨some 5, none, .mv (.tmp 18)⟩,
  ⟨some 6, none, .mv (.tmp 19)⟩] [[], [0], [1], [2], [], [4], [3, 5], [6], [7], [7], [8, 0, 1, 2, 3, 4, 5, 6, 7, 8], [9, 10, 0, 1, 2, 3, 4, 5, 6, 7, 8, 9, 10]] [(0, []), (1, []), (2, []), (3, []), (4, []), (5, []), (6, []), (7, []), (8, []), (9, []), (10, []), (11, [])] [0, 1, 3, 7, 0, 16, 63, 127, 255, 255, 511, 2047])
 (.seq (.ops [⟨some 20, none, .mv (.tmp 6)⟩])
 (.cond (.tmp 20) (.seq (.ops [⟨some 21, none, .mv (.tmp 5)⟩,
  ⟨some 4, none, .mv (.tmp 21)⟩])
 .ret) .skip)))
 (.seq (.seq (.ops [⟨some 22, none, .mv (.tmp 0)⟩,
  ⟨some 23, none, .nilchk (.tmp 22)⟩,
  ⟨some 24, none, .faddr 0 (.tmp 23)⟩,
  ⟨some 25, none, .load false 1 (.tmp 24)⟩,
  ⟨some 26, none, .len .sl (.tmp 25)⟩,
  ⟨some 27, none, .bin .geq .plain (.tmp 26) (.lit (.d (.int .i64 1048576)))⟩])
 (.cond (.tmp 27) (.seq (.ops [⟨some 4, none, .mv (.lit (.d (.int .i64 0)))⟩])
 .ret) .skip))
 (.seq (.draw [⟨some 28, none, .mv (.tmp 0)⟩,
  ⟨some 29, none, .mv (.tmp 0)⟩,
  ⟨some 30, none, .nilchk (.tmp 29)⟩,
  ⟨some 31, none, .faddr 0 (.tmp 30)⟩,
  ⟨some 32, none, .load false 1 (.tmp 31)⟩,
  ⟨some 33, none, .mv (.tmp 1)⟩,
  ⟨some 34, none, .call false 42 [(.tmp 33)]⟩,
  ⟨some 35, none, .mkslice false 1 1 [(.exact [])] [(0, 1, (.tmp 34))]⟩,
  ⟨some 36, none, .append false 1 24 [(.exact [])] (.tmp 32) (.tmp 35)⟩,
  ⟨some 37, none, .nilchk (.tmp 28)⟩,
  ⟨some 38, none, .faddr 0 (.tmp 37)⟩,
  ⟨none, none, .store 1 (.tmp 38) (.tmp 36)⟩] [[], [], [1], [2], [3], [], [5], [6], [4, 7, 6], [0, 0, 1, 2, 3, 4, 5, 6, 7, 8], [9, 0, 1, 2, 3, 4, 5, 6, 7, 8], [10, 8, 8, 0, 1, 2, 3, 4, 5, 6, 7, 8]] [(0, []), (1, []), (2, []), (3, []), (4, []), (5, []), (6, [31]), (7, []), (8, []), (9, []), (10, []), (11, [])] [0, 0, 2, 6, 14, 0, 32, 96, 254, 511, 1023, 2047])
 (.seq (.ops [⟨some 39, none, .mv (.tmp 0)⟩,
  ⟨some 40, none, .nilchk (.tmp 39)⟩,
  ⟨some 41, none, .faddr 0 (.tmp 40)⟩,
  ⟨some 42, none, .load false 1 (.tmp 41)⟩,
  ⟨some 43, none, .len .sl (.tmp 42)⟩,
  ⟨some 7, none, .mv (.tmp 43)⟩])
 (.seq (.draw [⟨some 44, none, .mv (.tmp 0)⟩,
  ⟨some 45, none, .nilchk (.tmp 44)⟩,
  ⟨some 46, none, .faddr 1 (.tmp 45)⟩,
  ⟨some 47, none, .load false 1 (.tmp 46)⟩,
  ⟨some 48, none, .mv (.tmp 1)⟩,
  ⟨some 49, none, .conv .toStr (.tmp 48)⟩,
  ⟨some 50, none, .mv (.tmp 7)⟩,
  ⟨none, none, .mset .str (.tmp 47) (.tmp 49) (.tmp 50)⟩] [[], [0], [1], [2], [], [4], [], [3, 5, 6, 0, 1, 2, 3, 4, 5, 6]] [(0, []), (1, []), (2, []), (3, []), (4, []), (5, []), (6, []), (7, [])] [0, 1, 3, 7, 0, 16, 0, 127])
 (.seq (.ops [⟨some 51, none, .mv (.tmp 7)⟩,
  ⟨some 4, none, .mv (.tmp 51)⟩])
 .ret))))))))⟩
theorem zhl : isF Try.prog zbF zcL := ⟨Try.f19, _, Try.func19, by decide +kernel, rfl, by kernel_rfl, by kernel_rfl, by decide, by kernel_rfl, rfl, by kernel_rfl⟩
/-- (*bulla/ideal.Ledger).Sign -/
def zcm : AF := ⟨3, 51, [(.cell 6 true 2), (.tmp 7)],
 (.seq (.ops [⟨some 6, none, .alloc [(.d (.int .i64 0)), (.d (.int .i64 0))]⟩,
  ⟨some 7, none, .mv (.lit (.d (.int .i64 0)))⟩])
 (.seq (.block 0 (.seq (.ops [⟨some 10, none, .mv (.tmp 0)⟩,
  ⟨some 11, none, .call false 43 [(.tmp 10)]⟩,
  ⟨some 9, none, .mv (.tmp 11)⟩])
 (.cond (.tmp 9) (.seq (.ops [⟨some 12, none, .build [(.d (.int .i64 0)), (.d (.int .i64 0))] []⟩,
  ⟨none, none, .store 2 (.tmp 6) (.tmp 12)⟩,
  ⟨some 7, none, .mv (.lit (.d (.int .i64 2)))⟩])
 .ret) (.seq (.ops [⟨some 14, none, .mv (.tmp 1)⟩,
  ⟨some 15, none, .bin .lss .plain (.tmp 14) (.lit (.d (.int .i64 0)))⟩,
  ⟨some 16, none, .mv (.tmp 15)⟩,
  ⟨some 17, some (16, false), .mv (.tmp 1)⟩,
  ⟨some 18, some (16, false), .bin .geq .plain (.tmp 17) (.lit (.d (.int .i64 21)))⟩,
  ⟨some 19, none, .pick (.tmp 16) (.lit (.d (.bool true))) (.tmp 18)⟩,
  ⟨some 13, none, .mv (.tmp 19)⟩])
 (.cond (.tmp 13) (.seq (.ops [⟨some 20, none, .build [(.d (.int .i64 0)), (.d (.int .i64 0))] []⟩,
  ⟨none, none, .store 2 (.tmp 6) (.tmp 20)⟩,
  ⟨some 7, none, .mv (.lit (.d (.int .i64 20)))⟩])
 .ret) (.seq (.ops [⟨some 22, none, .mv (.tmp 2)⟩,
  ⟨some 23, none, .bin .lss .plain (.tmp 22) (.lit (.d (.int .i64 1)))⟩,
  ⟨some 21, none, .mv (.tmp 23)⟩])
 (.cond (.tmp 21) (.seq (.ops [⟨some 24, none, .build [(.d (.int .i64 0)), (.d (.int .i64 0))] []⟩,
  ⟨none, none, .store 2 (.tmp 6) (.tmp 24)⟩,
  ⟨some 7, none, .mv (.lit (.d (.int .i64 1)))⟩])
 .ret) .skip)))))))
 (.seq (.ops [⟨some 25, none, .mv (.tmp 1)⟩,
  ⟨some 26, none, .mv (.tmp 2)⟩,
  ⟨some 27, none, .build [(.d (.int .i64 0)), (.d (.int .i64 0))] [(0, 1, (.tmp 25)), (1, 1, (.tmp 26))]⟩,
  ⟨some 8, none, .alloc [(.d (.int .i64 0)), (.d (.int .i64 0))]⟩,
  ⟨none, none, .store 2 (.tmp 8) (.tmp 27)⟩])
 (.seq (.seq (.draw [⟨some 28, none, .mv (.tmp 0)⟩,
  ⟨some 29, none, .nilchk (.tmp 28)⟩,
  ⟨some 30, none, .faddr 1 (.tmp 29)⟩,
  ⟨some 31, none, .load false 1 (.tmp 30)⟩,
  ⟨some 32, none, .load true 2 (.tmp 8)⟩,
  ⟨some 33, none, .mget (.ints 2) false (.d (.bool false)) (.tmp 31) (.tmp 32)⟩,
  ⟨some 34, none, .un .not (.tmp 33)⟩] [[], [0], [1], [2], [], [3, 4], [5]] [(0, []), (1, []), (2, []), (3, []), (4, []), (5, []), (6, [])] [0, 1, 3, 7, 0, 31, 63])
 (.cond (.tmp 34) (.seq (.draw [⟨some 35, none, .mv (.tmp 0)⟩,
  ⟨some 36, none, .nilchk (.tmp 35)⟩,
  ⟨some 37, none, .faddr 1 (.tmp 36)⟩,
  ⟨some 38, none, .load false 1 (.tmp 37)⟩,
  ⟨some 39, none, .load true 2 (.tmp 8)⟩,
  ⟨none, none, .mset (.ints 2) (.tmp 38) (.tmp 39) (.lit (.d (.bool true)))⟩] [[], [0], [1], [2], [], [3, 4, 0, 1, 2, 3, 4]] [(0, []), (1, []), (2, []), (3, []), (4, []), (5, [])] [0, 1, 3, 7, 0, 31])
 (.draw [⟨some 40, none, .mv (.tmp 0)⟩,
  ⟨some 41, none, .mv (.tmp 0)⟩,
  ⟨some 42, none, .nilchk (.tmp 41)⟩,
  ⟨some 43, none, .faddr 0 (.tmp 42)⟩,
  ⟨some 44, none, .load false 1 (.tmp 43)⟩,
  ⟨some 45, none, .load true 2 (.tmp 8)⟩,
  ⟨some 46, none, .mkslice false 2 1 [(.d (.int .i64 0)), (.d (.int .i64 0))] [(0, 2, (.tmp 45))]⟩,
  ⟨some 47, none, .append false 2 16 [(.d (.int .i64 0)), (.d (.int .i64 0))] (.tmp 44) (.tmp 46)⟩,
  ⟨some 48, none, .nilchk (.tmp 40)⟩,
  ⟨some 49, none, .faddr 0 (.tmp 48)⟩,
  ⟨none, none, .store 1 (.tmp 49) (.tmp 47)⟩] [[], [], [1], [2], [3], [], [5], [4, 6], [0, 0, 1, 2, 3, 4, 5, 6, 7], [8, 0, 1, 2, 3, 4, 5, 6, 7], [9, 7, 7, 0, 1, 2, 3, 4, 5, 6, 7]] [(0, []), (1, []), (2, []), (3, []), (4, []), (5, []), (6, []), (7, []), (8, []), (9, []), (10, [])] [0, 0, 2, 6, 14, 0, 32, 126, 255, 511, 1023])) .skip))
 (.seq (.ops [⟨some 50, none, .load true 2 (.tmp 8)⟩,
  ⟨none, none, .store 2 (.tmp 6) (.tmp 50)⟩,
  ⟨some 7, none, .mv (.lit (.d (.int .i64 0)))⟩])
 .ret)))))⟩
theorem zfR : isF Try.prog zbq zcm := ⟨Try.f20, _, Try.func20, by decide +kernel, rfl, by kernel_rfl, by kernel_rfl, by decide, by kernel_rfl, rfl, by kernel_rfl⟩
/-- (*bulla/ideal.Table).Clone -/
def zck : AF := ⟨1, 16, [(.tmp 2)],
 (.seq (.ops [⟨some 2, none, .mv (.lit (.d .nilp))⟩])
 (.seq (.seq (.ops [⟨some 5, none, .mv (.tmp 0)⟩,
  ⟨some 6, none, .call false 41 [(.tmp 5)]⟩])
 (.cond (.tmp 6) (.seq (.ops [⟨some 2, none, .mv (.lit (.d .nilp))⟩])
 .ret) .skip))
 (.seq (.ops [⟨some 8, none, .mv (.tmp 0)⟩,
  ⟨some 9, none, .nilchk (.tmp 8)⟩,
  ⟨some 10, none, .faddr 0 (.tmp 9)⟩,
  ⟨some 11, none, .load false 1 (.tmp 10)⟩,
  ⟨some 12, none, .call false 44 [(.tmp 11)]⟩,
  ⟨some 7, none, .mv (.tmp 12)⟩,
  ⟨some 13, none, .extract (.tmp 7) 0⟩,
  ⟨some 14, none, .extract (.tmp 7) 1⟩,
  ⟨some 3, none, .mv (.tmp 13)⟩,
  ⟨some 4, none, .mv (.tmp 14)⟩])
 (.seq (.ops [⟨some 15, none, .mv (.tmp 3)⟩,
  ⟨some 2, none, .mv (.tmp 15)⟩])
 .ret))))⟩
theorem zfP : isF Try.prog zbp zck := ⟨Try.f21, _, Try.func21, by decide +kernel, rfl, by kernel_rfl, by kernel_rfl, by decide, by kernel_rfl, rfl, by kernel_rfl⟩
/-- (*bulla/ideal.Ledger).Clone -/
def zbP : AF := ⟨1, 26, [(.tmp 2)],
 (.seq (.ops [⟨some 2, none, .mv (.lit (.d .nilp))⟩])
 (.seq (.seq (.ops [⟨some 6, none, .mv (.tmp 0)⟩,
  ⟨some 7, none, .call false 43 [(.tmp 6)]⟩])
 (.cond (.tmp 7) (.seq (.ops [⟨some 2, none, .mv (.lit (.d .nilp))⟩])
 .ret) .skip))
 (.seq (.ops [⟨some 8, none, .call false 15 []⟩,
  ⟨some 3, none, .mv (.tmp 8)⟩])
 (.seq (.seq (.ops [⟨some 9, none, .mv (.tmp 0)⟩,
  ⟨some 10, none, .nilchk (.tmp 9)⟩,
  ⟨some 11, none, .faddr 0 (.tmp 10)⟩,
  ⟨some 12, none, .load false 1 (.tmp 11)⟩,
  ⟨some 13, none, .len .sl (.tmp 12)⟩,
  ⟨some 14, none, .mv (.lit (.d (.int .i64 0)))⟩])
 (.block 0 (.loop [14] [5, 15, 16, 17, 18, 19, 20, 21, 22, 23, 24] (.seq (.ops [⟨some 15, none, .bin .lss .plain (.tmp 14) (.tmp 13)⟩])
 (.seq (.cond (.tmp 15) .skip (.exit 0))
 (.seq (.block 1 (.seq (.ops [⟨some 16, none, .iaddr none 2 (.tmp 12) (.tmp 14)⟩,
  ⟨some 17, none, .load true 2 (.tmp 16)⟩,
  ⟨some 5, none, .alloc [(.d (.int .i64 0)), (.d (.int .i64 0))]⟩,
  ⟨none, none, .store 2 (.tmp 5) (.tmp 17)⟩])
 (.ops [⟨some 18, none, .mv (.tmp 3)⟩,
  ⟨some 19, none, .faddr 0 (.tmp 5)⟩,
  ⟨some 20, none, .load false 1 (.tmp 19)⟩,
  ⟨some 21, none, .faddr 1 (.tmp 5)⟩,
  ⟨some 22, none, .load false 1 (.tmp 21)⟩,
  ⟨some 23, none, .call false 20 [(.tmp 18), (.tmp 20), (.tmp 22)]⟩])))
 (.ops [⟨some 24, none, .bin .add .plain (.tmp 14) (.lit (.d (.int .i64 1)))⟩,
  ⟨some 14, none, .mv (.tmp 24)⟩])))))))
 (.seq (.ops [⟨some 25, none, .mv (.tmp 3)⟩,
  ⟨some 2, none, .mv (.tmp 25)⟩])
 .ret)))))⟩
theorem zfx : isF Try.prog zbd zbP := ⟨Try.f22, _, Try.func22, by decide +kernel, rfl, by kernel_rfl, by kernel_rfl, by decide, by kernel_rfl, rfl, by kernel_rfl⟩
/-- bulla/quorum.Check -/
def zel : AF := ⟨1, 9, [(.tmp 2)],
 (.seq (.ops [⟨some 2, none, .mv (.lit (.d (.int .i64 0)))⟩])
 (.seq (.seq (.ops [⟨some 3, none, .mv (.tmp 0)⟩,
  ⟨some 4, none, .bin .lss .plain (.tmp 3) (.lit (.d (.int .i64 1)))⟩,
  ⟨some 5, none, .mv (.tmp 4)⟩,
  ⟨some 6, some (5, false), .mv (.tmp 0)⟩,
  ⟨some 7, some (5, false), .bin .gtr .plain (.tmp 6) (.lit (.d (.int .i64 4)))⟩,
  ⟨some 8, none, .pick (.tmp 5) (.lit (.d (.bool true))) (.tmp 7)⟩])
 (.cond (.tmp 8) (.seq (.ops [⟨some 2, none, .mv (.lit (.d (.int .i64 120)))⟩])
 .ret) .skip))
 (.seq (.ops [⟨some 2, none, .mv (.lit (.d (.int .i64 0)))⟩])
 .ret)))⟩
theorem zkb : isF Try.prog zbQ zel := ⟨Try.f23, _, Try.func23, by decide +kernel, rfl, by kernel_rfl, by kernel_rfl, by decide, by kernel_rfl, rfl, by kernel_rfl⟩
/-- bulla/request.ValidBatch -/
def zbL : AF := ⟨3, 16, [(.tmp 6)],
 (.seq (.ops [⟨some 3, none, .boxi (.tmp 0)⟩,
  ⟨some 4, none, .boxi (.tmp 1)⟩,
  ⟨some 6, none, .mv (.lit (.d (.bool false)))⟩])
 (.seq (.ops [⟨some 7, none, .mv (.tmp 2)⟩,
  ⟨some 8, none, .call false 45 [(.tmp 7)]⟩,
  ⟨some 9, none, .bin .eql .plain (.tmp 8) (.lit (.d (.int .i64 0)))⟩,
  ⟨some 10, none, .mv (.tmp 9)⟩,
  ⟨some 11, some (10, true), .mv (.tmp 2)⟩,
  ⟨some 12, some (10, true), .mkfn (.func 47) [] [(.tmp 3), (.tmp 4)]⟩,
  ⟨some 13, some (10, true), .call false 46 [(.tmp 11), (.tmp 12)]⟩,
  ⟨some 14, some (10, true), .un .not (.tmp 13)⟩,
  ⟨some 15, none, .pick (.tmp 10) (.tmp 14) (.lit (.d (.bool false)))⟩,
  ⟨some 6, none, .mv (.tmp 15)⟩])
 .ret))⟩
theorem zft : isF Try.prog zbJ zbL := ⟨Try.f24, _, Try.func24, by decide +kernel, rfl, by kernel_rfl, by kernel_rfl, by decide, by kernel_rfl, rfl, by kernel_rfl⟩
/-- (*bulla/ideal.Table).Look -/
def zcA : AF := ⟨2, 22, [(.tmp 4), (.tmp 5)],
 (.seq (.ops [⟨some 4, none, .mv (.lit (.d (.int .i64 0)))⟩,
  ⟨some 5, none, .mv (.lit (.d (.bool false)))⟩])
 (.seq (.seq (.ops [⟨some 8, none, .mv (.tmp 0)⟩,
  ⟨some 9, none, .call false 41 [(.tmp 8)]⟩])
 (.cond (.tmp 9) (.seq (.ops [⟨some 4, none, .mv (.lit (.d (.int .i64 0)))⟩,
  ⟨some 5, none, .mv (.lit (.d (.bool false)))⟩])
 .ret) .skip))
 (.seq (.draw [⟨some 11, none, .mv (.tmp 0)⟩,
  ⟨some 12, none, .nilchk (.tmp 11)⟩,
  ⟨some 13, none, .faddr 1 (.tmp 12)⟩,
  ⟨some 14, none, .load false 1 (.tmp 13)⟩,
  ⟨some 15, none, .mv (.tmp 1)⟩,
  ⟨some 16, none, .conv .toStr (.tmp 15)⟩,
  ⟨some 17, none, .mget .str true (.d (.int .i64 0)) (.tmp 14) (.tmp 16)⟩,
  ⟨some 10, none, .mv (.tmp 17)⟩,
  ⟨some 18, none, .extract (.tmp 10) 0⟩,
  ⟨some 19, none, .extract (.tmp 10) 1⟩,
  ⟨some 6, none, .mv (.tmp 18)⟩,
  ⟨some 7, none, .mv (.tmp 19)⟩] [[], [0], [1], [2], [], [4], [3, 5], [6], [7], [7], [8, 0, 1, 2, 3, 4, 5, 6, 7, 8], [9, 10, 0, 1, 2, 3, 4, 5, 6, 7, 8, 9, 10]] [(0, []), (1, []), (2, []), (3, []), (4, []), (5, []), (6, []), (7, []), (8, []), (9, []), (10, []), (11, [])] [0, 1, 3, 7, 0, 16, 63, 127, 255, 255, 511, 2047])
 (.seq (.ops [⟨some 20, none, .mv (.tmp 6)⟩,
  ⟨some 21, none, .mv (.tmp 7)⟩,
  ⟨some 4, none, .mv (.tmp 20)⟩,
  ⟨some 5, none, .mv (.tmp 21)⟩])
 .ret))))⟩
theorem zgH : isF Try.prog zaL zcA := ⟨Try.f25, _, Try.func25, by decide +kernel, rfl, by kernel_rfl, by kernel_rfl, by decide, by kernel_rfl, rfl, by kernel_rfl⟩
/-- bulla/request.PutBatch -/
def zcy : AF := ⟨2, 16, [(.tmp 4)],
 (.seq (.ops [⟨some 4, none, .mv (.lit (.exact []))⟩])
 (.seq (.seq (.ops [⟨some 6, none, .mv (.tmp 1)⟩,
  ⟨some 7, none, .call false 45 [(.tmp 6)]⟩,
  ⟨some 8, none, .bin .neq .plain (.tmp 7) (.lit (.d (.int .i64 0)))⟩])
 (.cond (.tmp 8) (.seq (.ops [⟨some 9, none, .mv (.tmp 0)⟩,
  ⟨some 10, none, .call false 42 [(.tmp 9)]⟩,
  ⟨some 4, none, .mv (.tmp 10)⟩])
 .ret) .skip))
 (.seq (.ops [⟨some 11, none, .mv (.tmp 1)⟩,
  ⟨some 12, none, .mkfn (.func 49) [(.tmp 11)] []⟩,
  ⟨some 5, none, .mv (.tmp 12)⟩])
 (.seq (.ops [⟨some 13, none, .mv (.tmp 5)⟩,
  ⟨some 14, none, .mv (.tmp 0)⟩,
  ⟨some 15, none, .callv (.tmp 13) [(.tmp 14)]⟩,
  ⟨some 4, none, .mv (.tmp 15)⟩])
 .ret))))⟩
theorem zgF : isF Try.prog zcr zcy := ⟨Try.f26, _, Try.func26, by decide +kernel, rfl, by kernel_rfl, by kernel_rfl, by decide, by kernel_rfl, rfl, by kernel_rfl⟩
/-- bulla/quorum.Primary -/
def zda : AF := ⟨2, 13, [(.tmp 4)],
 (.seq (.ops [⟨some 4, none, .mv (.lit (.d (.int .i64 0)))⟩])
 (.seq (.seq (.ops [⟨some 5, none, .mv (.tmp 0)⟩,
  ⟨some 6, none, .mv (.tmp 1)⟩,
  ⟨some 7, none, .call false 50 [(.tmp 5), (.tmp 6)]⟩,
  ⟨some 8, none, .un .not (.tmp 7)⟩])
 (.cond (.tmp 8) (.seq (.ops [⟨some 4, none, .mv (.lit (.d (.int .i64 (-1))))⟩])
 .ret) .skip))
 (.seq (.ops [⟨some 9, none, .mv (.tmp 1)⟩,
  ⟨some 10, none, .mv (.tmp 0)⟩,
  ⟨some 11, none, .call false 29 [(.tmp 10)]⟩,
  ⟨some 12, none, .bin .rem .plain (.tmp 9) (.tmp 11)⟩,
  ⟨some 4, none, .mv (.tmp 12)⟩])
 .ret)))⟩
theorem zhO : isF Try.prog zcU zda := ⟨Try.f27, _, Try.func27, by decide +kernel, rfl, by kernel_rfl, by kernel_rfl, by decide, by kernel_rfl, rfl, by kernel_rfl⟩
/-- bulla/auth.ValidVote -/
def zdj : AF := ⟨8, 39, [(.tmp 16)],
 (.seq (.ops [⟨some 10, none, .boxi (.tmp 2)⟩,
  ⟨some 16, none, .mv (.lit (.d (.bool false)))⟩])
 (.seq (.draw [⟨some 17, none, .mv (.tmp 0)⟩,
  ⟨some 18, none, .mv (.tmp 1)⟩,
  ⟨some 19, none, .call false 51 [(.tmp 17), (.tmp 18)]⟩,
  ⟨some 20, none, .mv (.tmp 19)⟩,
  ⟨some 21, some (20, true), .mv (.tmp 4)⟩,
  ⟨some 22, some (20, true), .mv (.tmp 5)⟩,
  ⟨some 23, some (20, true), .mv (.tmp 6)⟩,
  ⟨some 24, some (20, true), .mv (.tmp 7)⟩,
  ⟨some 25, some (20, true), .call false 52 [(.tmp 21), (.tmp 22), (.tmp 23), (.tmp 24)]⟩,
  ⟨some 26, none, .pick (.tmp 20) (.tmp 25) (.lit (.d (.bool false)))⟩,
  ⟨some 27, none, .mv (.tmp 26)⟩,
  ⟨some 28, some (27, true), .mv (.tmp 0)⟩,
  ⟨some 29, some (27, true), .mv (.tmp 1)⟩,
  ⟨some 30, some (27, true), .load true 2 (.tmp 10)⟩,
  ⟨some 31, some (27, true), .mv (.tmp 3)⟩,
  ⟨some 32, some (27, true), .mv (.tmp 4)⟩,
  ⟨some 33, some (27, true), .mv (.tmp 5)⟩,
  ⟨some 34, some (27, true), .mv (.tmp 6)⟩,
  ⟨some 35, some (27, true), .mv (.tmp 7)⟩,
  ⟨some 36, some (27, true), .call false 54 [(.tmp 32), (.tmp 33), (.tmp 34), (.tmp 35)]⟩,
  ⟨some 37, some (27, true), .call false 53 [(.tmp 28), (.tmp 29), (.tmp 30), (.tmp 31), (.tmp 36)]⟩,
  ⟨some 38, none, .pick (.tmp 27) (.tmp 37) (.lit (.d (.bool false)))⟩,
  ⟨some 16, none, .mv (.tmp 38)⟩] [[], [], [0, 1], [2, 2], [3], [3], [3], [3], [4, 5, 6, 7, 3, 3], [3, 8], [9, 8], [10], [10], [10], [10], [10], [10], [10], [10], [15, 16, 17, 18, 10, 10], [11, 12, 13, 14, 19, 19, 10], [10, 20], [21, 20, 0, 1, 2, 3, 4, 5, 6, 7, 8, 9, 10, 11, 12, 13, 14, 15, 16, 17, 18, 19, 20, 21]] [(0, []), (1, []), (2, []), (3, []), (4, []), (5, []), (6, []), (7, []), (8, []), (9, []), (10, []), (11, []), (12, []), (13, []), (14, []), (15, []), (16, []), (17, []), (18, []), (19, [10]), (20, []), (21, []), (22, [])] [0, 0, 3, 7, 15, 15, 15, 15, 255, 511, 1023, 2047, 2047, 2047, 2047, 2047, 2047, 2047, 2047, 493567, 1048575, 2097151, 4194303])
 .ret))⟩
theorem zhX : isF Try.prog zbZ zdj := ⟨Try.f28, _, Try.func28, by decide +kernel, rfl, by kernel_rfl, by kernel_rfl, by decide, by kernel_rfl, rfl, by kernel_rfl⟩
/-- bulla/quorum.Brokers -/
def zdb : AF := ⟨1, 5, [(.tmp 2)],
 (.seq (.ops [⟨some 2, none, .mv (.lit (.d (.int .i64 0)))⟩])
 (.seq (.ops [⟨some 3, none, .mv (.tmp 0)⟩,
  ⟨some 4, none, .call false 55 [(.lit (.d (.int .i64 3))), (.tmp 3)]⟩,
  ⟨some 2, none, .mv (.tmp 4)⟩])
 .ret))⟩
theorem zhP : isF Try.prog zbU zdb := ⟨Try.f29, _, Try.func29, by decide +kernel, rfl, by kernel_rfl, by kernel_rfl, by decide, by kernel_rfl, rfl, by kernel_rfl⟩
/-- slices.Clone[[]bulla/api.Sign,bulla/api.Sign] -/
def zaE : AF := ⟨1, 8, [(.tmp 2)],
 (.seq (.ops [⟨some 2, none, .mv (.lit (.exact []))⟩])
 (.seq (.seq (.ops [⟨some 3, none, .mv (.tmp 0)⟩,
  ⟨some 4, none, .isnil false (.tmp 3)⟩])
 (.cond (.tmp 4) (.seq (.ops [⟨some 2, none, .mv (.lit (.exact []))⟩])
 .ret) .skip))
 (.seq (.ops [⟨some 5, none, .mkslice false 2 0 [(.d (.int .i64 0)), (.d (.int .i64 0))] []⟩,
  ⟨some 6, none, .mv (.tmp 0)⟩,
  ⟨some 7, none, .append false 2 16 [(.d (.int .i64 0)), (.d (.int .i64 0))] (.tmp 5) (.tmp 6)⟩,
  ⟨some 2, none, .mv (.tmp 7)⟩])
 .ret)))⟩
theorem zcq : isF Try.prog zaD zaE := ⟨Try.f30, _, Try.func30, by decide +kernel, rfl, by kernel_rfl, by kernel_rfl, by decide, by kernel_rfl, rfl, by kernel_rfl⟩
/-- bulla/request.Clone -/
def zdP : AF := ⟨1, 24, [(.tmp 2)],
 (.seq (.ops [⟨some 2, none, .mv (.lit (.exact []))⟩])
 (.seq (.ops [⟨some 3, none, .mv (.lit (.exact []))⟩])
 (.seq (.seq (.ops [⟨some 6, none, .mv (.tmp 0)⟩,
  ⟨some 7, none, .len .sl (.tmp 6)⟩,
  ⟨some 8, none, .mv (.lit (.d (.int .i64 0)))⟩])
 (.block 0 (.loop [3, 8] [5, 9, 10, 11, 12, 13, 14, 15, 16, 17, 18, 19, 20, 21, 22] (.seq (.ops [⟨some 9, none, .bin .lss .plain (.tmp 8) (.tmp 7)⟩])
 (.seq (.cond (.tmp 9) .skip (.exit 0))
 (.seq (.block 1 (.seq (.ops [⟨some 10, none, .iaddr none 9 (.tmp 6) (.tmp 8)⟩,
  ⟨some 11, none, .load true 9 (.tmp 10)⟩,
  ⟨some 5, none, .alloc [(.d (.int .i64 0)), (.d (.int .i64 0)), (.d (.int .i64 0)), (.d (.str [])), (.d (.str [])), (.d (.int .i64 0)), (.exact []), (.d (.int .i64 0)), (.d (.int .i64 0))]⟩,
  ⟨none, none, .store 9 (.tmp 5) (.tmp 11)⟩])
 (.seq (.ops [⟨some 12, none, .faddr 0 (.tmp 5)⟩,
  ⟨some 13, none, .faddr 2 (.tmp 12)⟩,
  ⟨some 14, none, .load true 5 (.tmp 13)⟩,
  ⟨some 15, none, .call false 56 [(.tmp 14)]⟩,
  ⟨some 16, none, .faddr 0 (.tmp 5)⟩,
  ⟨some 17, none, .faddr 2 (.tmp 16)⟩,
  ⟨none, none, .store 5 (.tmp 17) (.tmp 15)⟩])
 (.ops [⟨some 18, none, .mv (.tmp 3)⟩,
  ⟨some 19, none, .load true 9 (.tmp 5)⟩,
  ⟨some 20, none, .mkslice false 9 1 [(.d (.int .i64 0)), (.d (.int .i64 0)), (.d (.int .i64 0)), (.d (.str [])), (.d (.str [])), (.d (.int .i64 0)), (.exact []), (.d (.int .i64 0)), (.d (.int .i64 0))] [(0, 9, (.tmp 19))]⟩,
  ⟨some 21, none, .append false 9 104 [(.d (.int .i64 0)), (.d (.int .i64 0)), (.d (.int .i64 0)), (.d (.str [])), (.d (.str [])), (.d (.int .i64 0)), (.exact []), (.d (.int .i64 0)), (.d (.int .i64 0))] (.tmp 18) (.tmp 20)⟩,
  ⟨some 3, none, .mv (.tmp 21)⟩]))))
 (.ops [⟨some 22, none, .bin .add .plain (.tmp 8) (.lit (.d (.int .i64 1)))⟩,
  ⟨some 8, none, .mv (.tmp 22)⟩])))))))
 (.seq (.ops [⟨some 23, none, .mv (.tmp 3)⟩,
  ⟨some 2, none, .mv (.tmp 23)⟩])
 .ret))))⟩
theorem ziN : isF Try.prog zdz zdP := ⟨Try.f31, _, Try.func31, by decide +kernel, rfl, by kernel_rfl, by kernel_rfl, by decide, by kernel_rfl, rfl, by kernel_rfl⟩
/-- bulla/bullaref08.Bytes -/
def zhu : AF := ⟨1, 24, [(.tmp 2), (.tmp 3)],
 (.seq (.ops [⟨some 1, none, .boxi (.tmp 0)⟩,
  ⟨some 2, none, .mv (.lit (.exact []))⟩,
  ⟨some 3, none, .mv (.lit (.d (.int .i64 0)))⟩])
 (.seq (.seq (.ops [⟨some 6, none, .load true 7 (.tmp 1)⟩,
  ⟨some 7, none, .call false 57 [(.tmp 6)]⟩,
  ⟨some 4, none, .mv (.tmp 7)⟩])
 (.seq (.ops [⟨some 8, none, .mv (.tmp 4)⟩,
  ⟨some 9, none, .bin .neq .plain (.tmp 8) (.lit (.d (.int .i64 0)))⟩])
 (.cond (.tmp 9) (.seq (.ops [⟨some 10, none, .mv (.tmp 4)⟩,
  ⟨some 2, none, .mv (.lit (.exact []))⟩,
  ⟨some 3, none, .mv (.tmp 10)⟩])
 .ret) .skip)))
 (.seq (.ops [⟨some 11, none, .faddr 0 (.tmp 1)⟩,
  ⟨some 12, none, .load false 1 (.tmp 11)⟩,
  ⟨some 13, none, .conv (.int .u64) (.tmp 12)⟩,
  ⟨some 14, none, .call false 58 [(.lit (.exact [])), (.tmp 13)]⟩,
  ⟨some 5, none, .mv (.tmp 14)⟩])
 (.seq (.ops [⟨some 15, none, .mv (.tmp 5)⟩,
  ⟨some 16, none, .faddr 1 (.tmp 1)⟩,
  ⟨some 17, none, .load false 1 (.tmp 16)⟩,
  ⟨some 18, none, .conv (.int .u64) (.tmp 17)⟩,
  ⟨some 19, none, .call false 58 [(.tmp 15), (.tmp 18)]⟩,
  ⟨some 5, none, .mv (.tmp 19)⟩])
 (.seq (.ops [⟨some 20, none, .mv (.tmp 5)⟩,
  ⟨some 21, none, .faddr 2 (.tmp 1)⟩,
  ⟨some 22, none, .load true 5 (.tmp 21)⟩,
  ⟨some 23, none, .call false 59 [(.tmp 20), (.tmp 22)]⟩,
  ⟨some 2, none, .mv (.tmp 23)⟩,
  ⟨some 3, none, .mv (.lit (.d (.int .i64 0)))⟩])
 .ret)))))⟩
theorem zmT : isF Try.prog zeN zhu := ⟨Try.f32, _, Try.func32, by decide +kernel, rfl, by kernel_rfl, by kernel_rfl, by decide, by kernel_rfl, rfl, by kernel_rfl⟩
/-- (*bulla/bullaref02.Ledger).Sign -/
def zcK : AF := ⟨3, 38, [(.cell 6 true 2), (.tmp 7)],
 (.seq (.ops [⟨some 6, none, .alloc [(.d (.int .i64 0)), (.d (.int .i64 0))]⟩,
  ⟨some 7, none, .mv (.lit (.d (.int .i64 0)))⟩])
 (.seq (.seq (.ops [⟨some 9, none, .mv (.tmp 1)⟩,
  ⟨some 10, none, .bin .lss .plain (.tmp 9) (.lit (.d (.int .i64 0)))⟩,
  ⟨some 11, none, .mv (.tmp 10)⟩,
  ⟨some 12, some (11, false), .mv (.tmp 1)⟩,
  ⟨some 13, some (11, false), .bin .geq .plain (.tmp 12) (.lit (.d (.int .i64 21)))⟩,
  ⟨some 14, none, .pick (.tmp 11) (.lit (.d (.bool true))) (.tmp 13)⟩])
 (.cond (.tmp 14) (.seq (.ops [⟨some 15, none, .build [(.d (.int .i64 0)), (.d (.int .i64 0))] []⟩,
  ⟨none, none, .store 2 (.tmp 6) (.tmp 15)⟩,
  ⟨some 7, none, .mv (.lit (.d (.int .i64 20)))⟩])
 .ret) .skip))
 (.seq (.seq (.ops [⟨some 16, none, .mv (.tmp 2)⟩,
  ⟨some 17, none, .bin .lss .plain (.tmp 16) (.lit (.d (.int .i64 1)))⟩])
 (.cond (.tmp 17) (.seq (.ops [⟨some 18, none, .build [(.d (.int .i64 0)), (.d (.int .i64 0))] []⟩,
  ⟨none, none, .store 2 (.tmp 6) (.tmp 18)⟩,
  ⟨some 7, none, .mv (.lit (.d (.int .i64 1)))⟩])
 .ret) .skip))
 (.seq (.ops [⟨some 19, none, .mv (.tmp 1)⟩,
  ⟨some 20, none, .mv (.tmp 2)⟩,
  ⟨some 21, none, .build [(.d (.int .i64 0)), (.d (.int .i64 0))] [(0, 1, (.tmp 19)), (1, 1, (.tmp 20))]⟩,
  ⟨some 8, none, .alloc [(.d (.int .i64 0)), (.d (.int .i64 0))]⟩,
  ⟨none, none, .store 2 (.tmp 8) (.tmp 21)⟩])
 (.seq (.seq (.ops [⟨some 22, none, .mv (.tmp 0)⟩,
  ⟨some 23, none, .load true 2 (.tmp 8)⟩,
  ⟨some 24, none, .call false 60 [(.tmp 22), (.tmp 23)]⟩,
  ⟨some 25, none, .un .not (.tmp 24)⟩])
 (.cond (.tmp 25) (.draw [⟨some 26, none, .mv (.tmp 0)⟩,
  ⟨some 27, none, .mv (.tmp 0)⟩,
  ⟨some 28, none, .nilchk (.tmp 27)⟩,
  ⟨some 29, none, .faddr 0 (.tmp 28)⟩,
  ⟨some 30, none, .load false 1 (.tmp 29)⟩,
  ⟨some 31, none, .append false 2 16 [(.d (.int .i64 0)), (.d (.int .i64 0))] (.lit (.exact [])) (.tmp 30)⟩,
  ⟨some 32, none, .load true 2 (.tmp 8)⟩,
  ⟨some 33, none, .mkslice false 2 1 [(.d (.int .i64 0)), (.d (.int .i64 0))] [(0, 2, (.tmp 32))]⟩,
  ⟨some 34, none, .append false 2 16 [(.d (.int .i64 0)), (.d (.int .i64 0))] (.tmp 31) (.tmp 33)⟩,
  ⟨some 35, none, .nilchk (.tmp 26)⟩,
  ⟨some 36, none, .faddr 0 (.tmp 35)⟩,
  ⟨none, none, .store 1 (.tmp 36) (.tmp 34)⟩] [[], [], [1], [2], [3], [4], [], [6], [5, 7, 5], [0, 0, 1, 2, 3, 4, 5, 6, 7, 8], [9, 0, 1, 2, 3, 4, 5, 6, 7, 8], [10, 8, 8, 0, 1, 2, 3, 4, 5, 6, 7, 8]] [(0, []), (1, []), (2, []), (3, []), (4, []), (6, []), (7, []), (5, [8]), (8, []), (9, []), (10, []), (11, [])] [0, 0, 2, 6, 14, 30, 0, 64, 254, 511, 1023, 2047]) .skip))
 (.seq (.ops [⟨some 37, none, .load true 2 (.tmp 8)⟩,
  ⟨none, none, .store 2 (.tmp 6) (.tmp 37)⟩,
  ⟨some 7, none, .mv (.lit (.d (.int .i64 0)))⟩])
 .ret))))))⟩
theorem zhk : isF Try.prog zbE zcK := ⟨Try.f33, _, Try.func33, by decide +kernel, rfl, by kernel_rfl, by kernel_rfl, by decide, by kernel_rfl, rfl, by kernel_rfl⟩
/-- bulla/bullaref08.Key -/
def zlo : AF := ⟨1, 11, [(.tmp 2)],
 (.seq (.ops [⟨some 2, none, .mv (.lit (.d (.int .i64 0)))⟩])
 (.seq (.seq (.ops [⟨some 3, none, .mv (.tmp 0)⟩,
  ⟨some 4, none, .bin .lss .plain (.tmp 3) (.lit (.d (.int .i64 0)))⟩,
  ⟨some 5, none, .mv (.tmp 4)⟩,
  ⟨some 6, some (5, false), .mv (.tmp 0)⟩,
  ⟨some 7, some (5, false), .bin .geq .plain (.tmp 6) (.lit (.d (.int .i64 8)))⟩,
  ⟨some 8, none, .pick (.tmp 5) (.lit (.d (.bool true))) (.tmp 7)⟩])
 (.cond (.tmp 8) (.seq (.ops [⟨some 2, none, .mv (.lit (.d (.int .i64 (-1))))⟩])
 .ret) .skip))
 (.seq (.ops [⟨some 9, none, .mv (.tmp 0)⟩,
  ⟨some 10, none, .bin .add .plain (.lit (.d (.int .i64 13))) (.tmp 9)⟩,
  ⟨some 2, none, .mv (.tmp 10)⟩])
 .ret)))⟩
theorem isA_r08_Key : isF Try.prog zfD zlo := ⟨Try.f34, _, Try.func34, by decide +kernel, rfl, by kernel_rfl, by kernel_rfl, by decide, by kernel_rfl, rfl, by kernel_rfl⟩
/-- (*bulla/bullaref02.Table).Sum -/
def zdU : AF := ⟨2, 38, [(.tmp 4)],
 (.seq (.ops [⟨some 4, none, .mv (.lit (.d (.int .i64 0)))⟩])
 (.seq (.seq (.ops [⟨some 8, none, .mv (.tmp 0)⟩,
  ⟨some 9, none, .mv (.tmp 1)⟩,
  ⟨some 10, none, .call false 61 [(.tmp 8), (.tmp 9)]⟩,
  ⟨some 7, none, .mv (.tmp 10)⟩,
  ⟨some 11, none, .extract (.tmp 7) 0⟩,
  ⟨some 12, none, .extract (.tmp 7) 1⟩,
  ⟨some 5, none, .mv (.tmp 11)⟩,
  ⟨some 6, none, .mv (.tmp 12)⟩])
 (.seq (.ops [⟨some 13, none, .mv (.tmp 6)⟩])
 (.cond (.tmp 13) (.seq (.ops [⟨some 14, none, .mv (.tmp 5)⟩,
  ⟨some 4, none, .mv (.tmp 14)⟩])
 .ret) .skip)))
 (.seq (.seq (.ops [⟨some 15, none, .mv (.tmp 0)⟩,
  ⟨some 16, none, .nilchk (.tmp 15)⟩,
  ⟨some 17, none, .faddr 0 (.tmp 16)⟩,
  ⟨some 18, none, .load false 1 (.tmp 17)⟩,
  ⟨some 19, none, .len .sl (.tmp 18)⟩,
  ⟨some 20, none, .bin .geq .plain (.tmp 19) (.lit (.d (.int .i64 1048576)))⟩])
 (.cond (.tmp 20) (.seq (.ops [⟨some 4, none, .mv (.lit (.d (.int .i64 0)))⟩])
 .ret) .skip))
 (.seq (.ops [⟨some 21, none, .mv (.tmp 0)⟩,
  ⟨some 22, none, .mv (.tmp 0)⟩,
  ⟨some 23, none, .nilchk (.tmp 22)⟩,
  ⟨some 24, none, .faddr 0 (.tmp 23)⟩,
  ⟨some 25, none, .load false 1 (.tmp 24)⟩,
  ⟨some 26, none, .append false 1 24 [(.exact [])] (.lit (.exact [])) (.tmp 25)⟩,
  ⟨some 27, none, .mv (.tmp 1)⟩,
  ⟨some 28, none, .append false 1 1 [(.d (.int .u8 0))] (.lit (.exact [])) (.tmp 27)⟩,
  ⟨some 29, none, .mkslice false 1 1 [(.exact [])] [(0, 1, (.tmp 28))]⟩,
  ⟨some 30, none, .append false 1 24 [(.exact [])] (.tmp 26) (.tmp 29)⟩,
  ⟨some 31, none, .nilchk (.tmp 21)⟩,
  ⟨some 32, none, .faddr 0 (.tmp 31)⟩,
  ⟨none, none, .store 1 (.tmp 32) (.tmp 30)⟩])
 (.seq (.ops [⟨some 33, none, .mv (.tmp 0)⟩,
  ⟨some 34, none, .nilchk (.tmp 33)⟩,
  ⟨some 35, none, .faddr 0 (.tmp 34)⟩,
  ⟨some 36, none, .load false 1 (.tmp 35)⟩,
  ⟨some 37, none, .len .sl (.tmp 36)⟩,
  ⟨some 4, none, .mv (.tmp 37)⟩])
 .ret)))))⟩
theorem ziS : isF Try.prog zbB zdU := ⟨Try.f35, _, Try.func35, by decide +kernel, rfl, by kernel_rfl, by kernel_rfl, by decide, by kernel_rfl, rfl, by kernel_rfl⟩
/-- bulla/bullaref08.CheckBatch -/
def zcY : AF := ⟨1, 74, [(.tmp 2)],
 (.seq (.ops [⟨some 2, none, .mv (.lit (.d (.int .i64 0)))⟩])
 (.seq (.seq (.ops [⟨some 8, none, .mv (.tmp 0)⟩,
  ⟨some 9, none, .len .sl (.tmp 8)⟩,
  ⟨some 10, none, .bin .gtr .plain (.tmp 9) (.lit (.d (.int .i64 4)))⟩])
 (.cond (.tmp 10) (.seq (.ops [⟨some 2, none, .mv (.lit (.d (.int .i64 3)))⟩])
 .ret) .skip))
 (.seq (.seq (.ops [⟨some 3, none, .mv (.lit (.d (.int .i64 0)))⟩])
 (.block 0 (.loop [3] [2, 4, 5, 11, 12, 13, 14, 15, 16, 17, 18, 19, 20, 21, 22, 23, 24, 25, 26, 27, 28, 29, 30, 31, 32, 33, 34] (.seq (.seq (.ops [⟨some 11, none, .mv (.tmp 3)⟩,
  ⟨some 12, none, .mv (.tmp 0)⟩,
  ⟨some 13, none, .len .sl (.tmp 12)⟩,
  ⟨some 14, none, .bin .lss .plain (.tmp 11) (.tmp 13)⟩])
 (.cond (.tmp 14) .skip (.exit 0)))
 (.seq (.block 1 (.seq (.seq (.ops [⟨some 17, none, .mv (.tmp 0)⟩,
  ⟨some 18, none, .mv (.tmp 3)⟩,
  ⟨some 19, none, .iaddr none 9 (.tmp 17) (.tmp 18)⟩,
  ⟨some 20, none, .faddr 0 (.tmp 19)⟩,
  ⟨some 21, none, .load true 7 (.tmp 20)⟩,
  ⟨some 22, none, .call false 57 [(.tmp 21)]⟩,
  ⟨some 4, none, .mv (.tmp 22)⟩])
 (.seq (.ops [⟨some 23, none, .mv (.tmp 4)⟩,
  ⟨some 24, none, .bin .neq .plain (.tmp 23) (.lit (.d (.int .i64 0)))⟩])
 (.cond (.tmp 24) (.seq (.ops [⟨some 25, none, .mv (.tmp 4)⟩,
  ⟨some 2, none, .mv (.tmp 25)⟩])
 .ret) .skip)))
 (.seq (.ops [⟨some 26, none, .mv (.tmp 0)⟩,
  ⟨some 27, none, .mv (.tmp 3)⟩,
  ⟨some 28, none, .iaddr none 9 (.tmp 26) (.tmp 27)⟩,
  ⟨some 29, none, .faddr 7 (.tmp 28)⟩,
  ⟨some 30, none, .load true 2 (.tmp 29)⟩,
  ⟨some 31, none, .call false 62 [(.tmp 30)]⟩,
  ⟨some 5, none, .mv (.tmp 31)⟩])
 (.seq (.ops [⟨some 32, none, .mv (.tmp 5)⟩,
  ⟨some 33, none, .bin .neq .plain (.tmp 32) (.lit (.d (.int .i64 0)))⟩])
 (.cond (.tmp 33) (.seq (.ops [⟨some 34, none, .mv (.tmp 5)⟩,
  ⟨some 2, none, .mv (.tmp 34)⟩])
 .ret) .skip)))))
 (.ops [⟨some 15, none, .mv (.tmp 3)⟩,
  ⟨some 16, none, .bin .add .plain (.tmp 15) (.lit (.d (.int .i64 1)))⟩,
  ⟨some 3, none, .mv (.tmp 16)⟩]))))))
 (.seq (.seq (.ops [⟨some 6, none, .mv (.lit (.d (.int .i64 0)))⟩])
 (.block 2 (.loop [6] [2, 7, 35, 36, 37, 38, 39, 40, 41, 42, 43, 44, 45, 46, 47, 48, 49, 50, 51, 52, 53, 54, 55, 56, 57, 58, 59, 60, 61, 62, 63, 64, 65, 66, 67, 68, 69, 70, 71, 72, 73] (.seq (.seq (.ops [⟨some 35, none, .mv (.tmp 6)⟩,
  ⟨some 36, none, .mv (.tmp 0)⟩,
  ⟨some 37, none, .len .sl (.tmp 36)⟩,
  ⟨some 38, none, .bin .lss .plain (.tmp 35) (.tmp 37)⟩])
 (.cond (.tmp 38) .skip (.exit 2)))
 (.seq (.block 3 (.seq (.ops [⟨some 7, none, .mv (.lit (.d (.int .i64 0)))⟩])
 (.block 4 (.loop [7] [2, 41, 42, 43, 44, 45, 46, 47, 48, 49, 50, 51, 52, 53, 54, 55, 56, 57, 58, 59, 60, 61, 62, 63, 64, 65, 66, 67, 68, 69, 70, 71, 72, 73] (.seq (.seq (.ops [⟨some 41, none, .mv (.tmp 7)⟩,
  ⟨some 42, none, .mv (.tmp 6)⟩,
  ⟨some 43, none, .bin .lss .plain (.tmp 41) (.tmp 42)⟩])
 (.cond (.tmp 43) .skip (.exit 4)))
 (.seq (.block 5 (.seq (.draw [⟨some 46, none, .mv (.tmp 0)⟩,
  ⟨some 47, none, .mv (.tmp 6)⟩,
  ⟨some 48, none, .iaddr none 9 (.tmp 46) (.tmp 47)⟩,
  ⟨some 49, none, .faddr 0 (.tmp 48)⟩,
  ⟨some 50, none, .faddr 0 (.tmp 49)⟩,
  ⟨some 51, none, .load false 1 (.tmp 50)⟩,
  ⟨some 52, none, .mv (.tmp 0)⟩,
  ⟨some 53, none, .mv (.tmp 7)⟩,
  ⟨some 54, none, .iaddr none 9 (.tmp 52) (.tmp 53)⟩,
  ⟨some 55, none, .faddr 0 (.tmp 54)⟩,
  ⟨some 56, none, .faddr 0 (.tmp 55)⟩,
  ⟨some 57, none, .load false 1 (.tmp 56)⟩,
  ⟨some 58, none, .bin .eql .plain (.tmp 51) (.tmp 57)⟩,
  ⟨some 59, none, .mv (.tmp 58)⟩,
  ⟨some 60, some (59, true), .mv (.tmp 0)⟩,
  ⟨some 61, some (59, true), .mv (.tmp 6)⟩,
  ⟨some 62, some (59, true), .iaddr none 9 (.tmp 60) (.tmp 61)⟩,
  ⟨some 63, some (59, true), .faddr 0 (.tmp 62)⟩,
  ⟨some 64, some (59, true), .faddr 1 (.tmp 63)⟩,
  ⟨some 65, some (59, true), .load false 1 (.tmp 64)⟩,
  ⟨some 66, some (59, true), .mv (.tmp 0)⟩,
  ⟨some 67, some (59, true), .mv (.tmp 7)⟩,
  ⟨some 68, some (59, true), .iaddr none 9 (.tmp 66) (.tmp 67)⟩,
  ⟨some 69, some (59, true), .faddr 0 (.tmp 68)⟩,
  ⟨some 70, some (59, true), .faddr 1 (.tmp 69)⟩,
  ⟨some 71, some (59, true), .load false 1 (.tmp 70)⟩,
  ⟨some 72, some (59, true), .bin .eql .plain (.tmp 65) (.tmp 71)⟩,
  ⟨some 73, none, .pick (.tmp 59) (.tmp 72) (.lit (.d (.bool false)))⟩] [[], [], [0, 1], [2], [3], [4], [], [], [6, 7], [8], [9], [10], [5, 11], [12], [13], [13], [14, 15, 13], [16, 13], [17, 13], [18, 13], [13], [13], [20, 21, 13], [22, 13], [23, 13], [24, 13], [19, 25, 13], [13, 26]] [(0, []), (1, []), (2, []), (3, []), (4, []), (5, []), (6, []), (7, []), (8, []), (9, []), (10, []), (11, []), (12, []), (13, []), (14, []), (15, []), (16, []), (17, []), (18, []), (19, []), (20, []), (21, []), (22, []), (23, []), (24, []), (25, []), (26, []), (27, [])] [0, 0, 3, 7, 15, 31, 0, 0, 192, 448, 960, 1984, 4095, 8191, 16383, 16383, 65535, 131071, 262143, 524287, 16383, 16383, 3162111, 7356415, 15745023, 32522239, 67108863, 134217727])
 (.cond (.tmp 73) (.seq (.ops [⟨some 2, none, .mv (.lit (.d (.int .i64 5)))⟩])
 .ret) .skip)))
 (.ops [⟨some 44, none, .mv (.tmp 7)⟩,
  ⟨some 45, none, .bin .add .plain (.tmp 44) (.lit (.d (.int .i64 1)))⟩,
  ⟨some 7, none, .mv (.tmp 45)⟩])))))))
 (.ops [⟨some 39, none, .mv (.tmp 6)⟩,
  ⟨some 40, none, .bin .add .plain (.tmp 39) (.lit (.d (.int .i64 1)))⟩,
  ⟨some 6, none, .mv (.tmp 40)⟩]))))))
 (.seq (.ops [⟨some 2, none, .mv (.lit (.d (.int .i64 0)))⟩])
 .ret)))))⟩
theorem zhM : isF Try.prog zbT zcY := ⟨Try.f36, _, Try.func36, by decide +kernel, rfl, by kernel_rfl, by kernel_rfl, by decide, by kernel_rfl, rfl, by kernel_rfl⟩
/-- bulla/bullaref08.PutBatch -/
def zei : AF := ⟨2, 42, [(.tmp 4)],
 (.seq (.ops [⟨some 4, none, .mv (.lit (.exact []))⟩])
 (.seq (.seq (.ops [⟨some 8, none, .mv (.tmp 1)⟩,
  ⟨some 9, none, .call false 36 [(.tmp 8)]⟩,
  ⟨some 10, none, .bin .neq .plain (.tmp 9) (.lit (.d (.int .i64 0)))⟩])
 (.cond (.tmp 10) (.seq (.ops [⟨some 11, none, .mv (.tmp 0)⟩,
  ⟨some 4, none, .mv (.tmp 11)⟩])
 .ret) .skip))
 (.seq (.ops [⟨some 12, none, .mv (.tmp 0)⟩,
  ⟨some 13, none, .mv (.tmp 1)⟩,
  ⟨some 14, none, .len .sl (.tmp 13)⟩,
  ⟨some 15, none, .conv (.int .u64) (.tmp 14)⟩,
  ⟨some 16, none, .call false 58 [(.tmp 12), (.tmp 15)]⟩,
  ⟨some 0, none, .mv (.tmp 16)⟩])
 (.seq (.seq (.ops [⟨some 5, none, .mv (.lit (.d (.int .i64 0)))⟩])
 (.block 0 (.loop [0, 5] [6, 7, 17, 18, 19, 20, 21, 22, 23, 24, 25, 26, 27, 28, 29, 30, 31, 32, 33, 34, 35, 36, 37, 38, 39, 40] (.seq (.seq (.ops [⟨some 17, none, .mv (.tmp 5)⟩,
  ⟨some 18, none, .mv (.tmp 1)⟩,
  ⟨some 19, none, .len .sl (.tmp 18)⟩,
  ⟨some 20, none, .bin .lss .plain (.tmp 17) (.tmp 19)⟩])
 (.cond (.tmp 20) .skip (.exit 0)))
 (.seq (.block 1 (.seq (.ops [⟨some 24, none, .mv (.tmp 1)⟩,
  ⟨some 25, none, .mv (.tmp 5)⟩,
  ⟨some 26, none, .iaddr none 9 (.tmp 24) (.tmp 25)⟩,
  ⟨some 27, none, .faddr 0 (.tmp 26)⟩,
  ⟨some 28, none, .load true 7 (.tmp 27)⟩,
  ⟨some 29, none, .call false 32 [(.tmp 28)]⟩,
  ⟨some 23, none, .mv (.tmp 29)⟩,
  ⟨some 30, none, .extract (.tmp 23) 0⟩,
  ⟨some 31, none, .extract (.tmp 23) 1⟩,
  ⟨some 6, none, .mv (.tmp 30)⟩,
  ⟨some 7, none, .mv (.tmp 31)⟩])
 (.draw [⟨some 32, none, .mv (.tmp 0)⟩,
  ⟨some 33, none, .mv (.tmp 6)⟩,
  ⟨some 34, none, .call false 64 [(.tmp 32), (.tmp 33)]⟩,
  ⟨some 35, none, .mv (.tmp 1)⟩,
  ⟨some 36, none, .mv (.tmp 5)⟩,
  ⟨some 37, none, .iaddr none 9 (.tmp 35) (.tmp 36)⟩,
  ⟨some 38, none, .faddr 7 (.tmp 37)⟩,
  ⟨some 39, none, .load true 2 (.tmp 38)⟩,
  ⟨some 40, none, .call false 63 [(.tmp 34), (.tmp 39)]⟩,
  ⟨some 0, none, .mv (.tmp 40)⟩] [[], [], [0, 1], [], [], [3, 4], [5], [6], [2, 7, 2], [8, 8, 0, 1, 2, 3, 4, 5, 6, 7, 8]] [(0, []), (1, []), (3, []), (4, []), (5, []), (6, []), (7, []), (2, [38]), (8, []), (9, [])] [0, 0, 3, 0, 0, 24, 56, 120, 255, 511])))
 (.ops [⟨some 21, none, .mv (.tmp 5)⟩,
  ⟨some 22, none, .bin .add .plain (.tmp 21) (.lit (.d (.int .i64 1)))⟩,
  ⟨some 5, none, .mv (.tmp 22)⟩]))))))
 (.seq (.ops [⟨some 41, none, .mv (.tmp 0)⟩,
  ⟨some 4, none, .mv (.tmp 41)⟩])
 .ret)))))⟩
theorem zjY : isF Try.prog zef zei := ⟨Try.f37, _, Try.func37, by decide +kernel, rfl, by kernel_rfl, by kernel_rfl, by decide, by kernel_rfl, rfl, by kernel_rfl⟩
/-- bulla/bullaref11.may -/
def zln : AF := ⟨4, 23, [(.tmp 8)],
 (.seq (.ops [⟨some 8, none, .mv (.lit (.d (.bool false)))⟩])
 (.seq (.ops [⟨some 9, none, .mv (.tmp 0)⟩,
  ⟨some 10, none, .call false 65 [(.tmp 9)]⟩,
  ⟨some 11, none, .mv (.tmp 10)⟩,
  ⟨some 12, some (11, true), .mv (.tmp 1)⟩,
  ⟨some 13, some (11, true), .call false 65 [(.tmp 12)]⟩,
  ⟨some 14, none, .pick (.tmp 11) (.tmp 13) (.lit (.d (.bool false)))⟩,
  ⟨some 15, none, .mv (.tmp 14)⟩,
  ⟨some 16, some (15, true), .mv (.tmp 2)⟩,
  ⟨some 17, some (15, true), .call false 65 [(.tmp 16)]⟩,
  ⟨some 18, none, .pick (.tmp 15) (.tmp 17) (.lit (.d (.bool false)))⟩,
  ⟨some 19, none, .mv (.tmp 18)⟩,
  ⟨some 20, some (19, true), .mv (.tmp 3)⟩,
  ⟨some 21, some (19, true), .call false 65 [(.tmp 20)]⟩,
  ⟨some 22, none, .pick (.tmp 19) (.tmp 21) (.lit (.d (.bool false)))⟩,
  ⟨some 8, none, .mv (.tmp 22)⟩])
 .ret))⟩
theorem isA_r11_may : isF Try.prog zkD zln := ⟨Try.f38, _, Try.func38, by decide +kernel, rfl, by kernel_rfl, by kernel_rfl, by decide, by kernel_rfl, rfl, by kernel_rfl⟩
/-- bulla/bullaref11.sign -/
def zjc : AF := ⟨4, 23, [(.cell 8 true 2), (.tmp 9)],
 (.seq (.ops [⟨some 8, none, .alloc [(.d (.int .i64 0)), (.d (.int .i64 0))]⟩,
  ⟨some 9, none, .mv (.lit (.d (.int .i64 0)))⟩])
 (.seq (.ops [⟨some 11, none, .mv (.tmp 0)⟩,
  ⟨some 12, none, .mv (.tmp 3)⟩,
  ⟨some 13, none, .call false 35 [(.tmp 11), (.tmp 12)]⟩,
  ⟨some 10, none, .mv (.tmp 13)⟩])
 (.seq (.seq (.ops [⟨some 14, none, .mv (.tmp 10)⟩,
  ⟨some 15, none, .bin .eql .plain (.tmp 14) (.lit (.d (.int .i64 0)))⟩])
 (.cond (.tmp 15) (.seq (.ops [⟨some 16, none, .build [(.d (.int .i64 0)), (.d (.int .i64 0))] []⟩,
  ⟨none, none, .store 2 (.tmp 8) (.tmp 16)⟩,
  ⟨some 9, none, .mv (.lit (.d (.int .i64 6)))⟩])
 .ret) .skip))
 (.seq (.ops [⟨some 17, none, .mv (.tmp 1)⟩,
  ⟨some 18, none, .mv (.tmp 2)⟩,
  ⟨some 19, none, .mv (.tmp 10)⟩,
  ⟨some 20, none, .call false 33 [(.tmp 17), (.tmp 18), (.tmp 19)]⟩,
  ⟨some 21, none, .extract (.tmp 20) 0⟩,
  ⟨some 22, none, .extract (.tmp 20) 1⟩,
  ⟨none, none, .store 2 (.tmp 8) (.tmp 21)⟩,
  ⟨some 9, none, .mv (.tmp 22)⟩])
 .ret))))⟩
theorem isA_r11_sign : isF Try.prog zix zjc := ⟨Try.f39, _, Try.func39, by decide +kernel, rfl, by kernel_rfl, by kernel_rfl, by decide, by kernel_rfl, rfl, by kernel_rfl⟩
/-- bulla/bullaref11.VoteBytes -/
def zdS : AF := ⟨4, 18, [(.tmp 8)],
 (.seq (.ops [⟨some 8, none, .mv (.lit (.exact []))⟩])
 (.seq (.ops [⟨some 9, none, .mkslice false 1 1 [(.d (.int .u8 0))] [(0, 1, (.lit (.d (.int .u8 4))))]⟩,
  ⟨some 10, none, .mv (.tmp 0)⟩,
  ⟨some 11, none, .call false 66 [(.tmp 9), (.tmp 10)]⟩,
  ⟨some 12, none, .mv (.tmp 1)⟩,
  ⟨some 13, none, .call false 66 [(.tmp 11), (.tmp 12)]⟩,
  ⟨some 14, none, .mv (.tmp 2)⟩,
  ⟨some 15, none, .call false 66 [(.tmp 13), (.tmp 14)]⟩,
  ⟨some 16, none, .mv (.tmp 3)⟩,
  ⟨some 17, none, .call false 66 [(.tmp 15), (.tmp 16)]⟩,
  ⟨some 8, none, .mv (.tmp 17)⟩])
 .ret))⟩
theorem ziQ : isF Try.prog zdA zdS := ⟨Try.f40, _, Try.func40, by decide +kernel, rfl, by kernel_rfl, by kernel_rfl, by decide, by kernel_rfl, rfl, by kernel_rfl⟩
/-- (*bulla/ideal.Table).none -/
def zcz : AF := ⟨1, 12, [(.tmp 2)],
 (.seq (.ops [⟨some 2, none, .mv (.lit (.d (.bool false)))⟩])
 (.seq (.ops [⟨some 3, none, .mv (.tmp 0)⟩,
  ⟨some 4, none, .bin .eql .ptr (.tmp 3) (.lit (.d .nilp))⟩,
  ⟨some 5, none, .mv (.tmp 4)⟩,
  ⟨some 6, some (5, false), .mv (.tmp 0)⟩,
  ⟨some 7, some (5, false), .nilchk (.tmp 6)⟩,
  ⟨some 8, some (5, false), .faddr 1 (.tmp 7)⟩,
  ⟨some 9, some (5, false), .load false 1 (.tmp 8)⟩,
  ⟨some 10, some (5, false), .bin .eql .map (.tmp 9) (.lit (.d .nilmap))⟩,
  ⟨some 11, none, .pick (.tmp 5) (.lit (.d (.bool true))) (.tmp 10)⟩,
  ⟨some 2, none, .mv (.tmp 11)⟩])
 .ret))⟩
theorem zgG : isF Try.prog zaW zcz := ⟨Try.f41, _, Try.func41, by decide +kernel, rfl, by kernel_rfl, by kernel_rfl, by decide, by kernel_rfl, rfl, by kernel_rfl⟩
/-- bytes.Clone -/
def zfd : AF := ⟨1, 8, [(.tmp 2)],
 (.seq (.ops [⟨some 2, none, .mv (.lit (.exact []))⟩])
 (.seq (.seq (.ops [⟨some 3, none, .mv (.tmp 0)⟩,
  ⟨some 4, none, .isnil false (.tmp 3)⟩])
 (.cond (.tmp 4) (.seq (.ops [⟨some 2, none, .mv (.lit (.exact []))⟩])
 .ret) .skip))
 (.seq (.ops [⟨some 5, none, .mkslice false 1 0 [(.d (.int .u8 0))] []⟩,
  ⟨some 6, none, .mv (.tmp 0)⟩,
  ⟨some 7, none, .append false 1 1 [(.d (.int .u8 0))] (.tmp 5) (.tmp 6)⟩,
  ⟨some 2, none, .mv (.tmp 7)⟩])
 .ret)))⟩
theorem zkO : isF Try.prog zbr zfd := ⟨Try.f42, _, Try.func42, by decide +kernel, rfl, by kernel_rfl, by kernel_rfl, by decide, by kernel_rfl, rfl, by kernel_rfl⟩
/-- (*bulla/ideal.Ledger).none -/
def zcl : AF := ⟨1, 12, [(.tmp 2)],
 (.seq (.ops [⟨some 2, none, .mv (.lit (.d (.bool false)))⟩])
 (.seq (.ops [⟨some 3, none, .mv (.tmp 0)⟩,
  ⟨some 4, none, .bin .eql .ptr (.tmp 3) (.lit (.d .nilp))⟩,
  ⟨some 5, none, .mv (.tmp 4)⟩,
  ⟨some 6, some (5, false), .mv (.tmp 0)⟩,
  ⟨some 7, some (5, false), .nilchk (.tmp 6)⟩,
  ⟨some 8, some (5, false), .faddr 1 (.tmp 7)⟩,
  ⟨some 9, some (5, false), .load false 1 (.tmp 8)⟩,
  ⟨some 10, some (5, false), .bin .eql .map (.tmp 9) (.lit (.d .nilmap))⟩,
  ⟨some 11, none, .pick (.tmp 5) (.lit (.d (.bool true))) (.tmp 10)⟩,
  ⟨some 2, none, .mv (.tmp 11)⟩])
 .ret))⟩
theorem zfQ : isF Try.prog zaP zcl := ⟨Try.f43, _, Try.func43, by decide +kernel, rfl, by kernel_rfl, by kernel_rfl, by decide, by kernel_rfl, rfl, by kernel_rfl⟩
/-- bulla/ideal.From -/
def zgl : AF := ⟨1, 31, [(.tmp 2), (.tmp 3)],
 (.seq (.ops [⟨some 2, none, .mv (.lit (.d .nilp))⟩,
  ⟨some 3, none, .mv (.lit (.d (.int .i64 0)))⟩])
 (.seq (.seq (.ops [⟨some 9, none, .mv (.tmp 0)⟩,
  ⟨some 10, none, .len .sl (.tmp 9)⟩,
  ⟨some 11, none, .bin .gtr .plain (.tmp 10) (.lit (.d (.int .i64 1048576)))⟩])
 (.cond (.tmp 11) (.seq (.ops [⟨some 2, none, .mv (.lit (.d .nilp))⟩,
  ⟨some 3, none, .mv (.lit (.d (.int .i64 3)))⟩])
 .ret) .skip))
 (.seq (.ops [⟨some 12, none, .call false 14 []⟩,
  ⟨some 4, none, .mv (.tmp 12)⟩])
 (.seq (.seq (.ops [⟨some 13, none, .mv (.tmp 0)⟩,
  ⟨some 14, none, .len .sl (.tmp 13)⟩,
  ⟨some 15, none, .mv (.lit (.d (.int .i64 0)))⟩])
 (.block 0 (.loop [15] [2, 3, 6, 7, 8, 16, 17, 18, 19, 20, 21, 22, 23, 24, 25, 26, 27, 28, 29] (.seq (.ops [⟨some 16, none, .bin .lss .plain (.tmp 15) (.tmp 14)⟩])
 (.seq (.cond (.tmp 16) .skip (.exit 0))
 (.seq (.block 1 (.seq (.ops [⟨some 17, none, .iaddr none 1 (.tmp 13) (.tmp 15)⟩,
  ⟨some 18, none, .load false 1 (.tmp 17)⟩,
  ⟨some 6, none, .mv (.tmp 18)⟩])
 (.seq (.seq (.ops [⟨some 20, none, .mv (.tmp 4)⟩,
  ⟨some 21, none, .mv (.tmp 6)⟩,
  ⟨some 22, none, .call false 25 [(.tmp 20), (.tmp 21)]⟩,
  ⟨some 19, none, .mv (.tmp 22)⟩,
  ⟨some 23, none, .extract (.tmp 19) 0⟩,
  ⟨some 24, none, .extract (.tmp 19) 1⟩,
  ⟨some 7, none, .mv (.tmp 23)⟩,
  ⟨some 8, none, .mv (.tmp 24)⟩])
 (.seq (.ops [⟨some 25, none, .mv (.tmp 8)⟩])
 (.cond (.tmp 25) (.seq (.ops [⟨some 2, none, .mv (.lit (.d .nilp))⟩,
  ⟨some 3, none, .mv (.lit (.d (.int .i64 5)))⟩])
 .ret) .skip)))
 (.ops [⟨some 26, none, .mv (.tmp 4)⟩,
  ⟨some 27, none, .mv (.tmp 6)⟩,
  ⟨some 28, none, .call false 19 [(.tmp 26), (.tmp 27)]⟩]))))
 (.ops [⟨some 29, none, .bin .add .plain (.tmp 15) (.lit (.d (.int .i64 1)))⟩,
  ⟨some 15, none, .mv (.tmp 29)⟩])))))))
 (.seq (.ops [⟨some 30, none, .mv (.tmp 4)⟩,
  ⟨some 2, none, .mv (.tmp 30)⟩,
  ⟨some 3, none, .mv (.lit (.d (.int .i64 0)))⟩])
 .ret)))))⟩
theorem zlE : isF Try.prog zfF zgl := ⟨Try.f44, _, Try.func44, by decide +kernel, rfl, by kernel_rfl, by kernel_rfl, by decide, by kernel_rfl, rfl, by kernel_rfl⟩
/-- bulla/request.CheckBatch -/
def zbM : AF := ⟨1, 66, [(.tmp 2)],
 (.seq (.ops [⟨some 2, none, .mv (.lit (.d (.int .i64 0)))⟩])
 (.seq (.seq (.ops [⟨some 11, none, .mv (.tmp 0)⟩,
  ⟨some 12, none, .len .sl (.tmp 11)⟩,
  ⟨some 13, none, .bin .gtr .plain (.tmp 12) (.lit (.d (.int .i64 4)))⟩])
 (.cond (.tmp 13) (.seq (.ops [⟨some 2, none, .mv (.lit (.d (.int .i64 3)))⟩])
 .ret) .skip))
 (.seq (.seq (.ops [⟨some 14, none, .mv (.tmp 0)⟩,
  ⟨some 15, none, .len .sl (.tmp 14)⟩,
  ⟨some 16, none, .mv (.lit (.d (.int .i64 0)))⟩])
 (.block 0 (.loop [16] [2, 4, 5, 6, 17, 18, 19, 20, 21, 22, 23, 24, 25, 26, 27, 28, 29, 30, 31, 32] (.seq (.ops [⟨some 17, none, .bin .lss .plain (.tmp 16) (.tmp 15)⟩])
 (.seq (.cond (.tmp 17) .skip (.exit 0))
 (.seq (.block 1 (.seq (.ops [⟨some 18, none, .iaddr none 9 (.tmp 14) (.tmp 16)⟩,
  ⟨some 19, none, .load true 9 (.tmp 18)⟩,
  ⟨some 4, none, .alloc [(.d (.int .i64 0)), (.d (.int .i64 0)), (.d (.int .i64 0)), (.d (.str [])), (.d (.str [])), (.d (.int .i64 0)), (.exact []), (.d (.int .i64 0)), (.d (.int .i64 0))]⟩,
  ⟨none, none, .store 9 (.tmp 4) (.tmp 19)⟩])
 (.seq (.seq (.ops [⟨some 20, none, .faddr 0 (.tmp 4)⟩,
  ⟨some 21, none, .load true 7 (.tmp 20)⟩,
  ⟨some 22, none, .call false 67 [(.tmp 21)]⟩,
  ⟨some 5, none, .mv (.tmp 22)⟩])
 (.seq (.ops [⟨some 23, none, .mv (.tmp 5)⟩,
  ⟨some 24, none, .bin .neq .plain (.tmp 23) (.lit (.d (.int .i64 0)))⟩])
 (.cond (.tmp 24) (.seq (.ops [⟨some 25, none, .mv (.tmp 5)⟩,
  ⟨some 2, none, .mv (.tmp 25)⟩])
 .ret) .skip)))
 (.seq (.ops [⟨some 26, none, .faddr 7 (.tmp 4)⟩,
  ⟨some 27, none, .load true 2 (.tmp 26)⟩,
  ⟨some 28, none, .call false 68 [(.tmp 27)]⟩,
  ⟨some 6, none, .mv (.tmp 28)⟩])
 (.seq (.ops [⟨some 29, none, .mv (.tmp 6)⟩,
  ⟨some 30, none, .bin .neq .plain (.tmp 29) (.lit (.d (.int .i64 0)))⟩])
 (.cond (.tmp 30) (.seq (.ops [⟨some 31, none, .mv (.tmp 6)⟩,
  ⟨some 2, none, .mv (.tmp 31)⟩])
 .ret) .skip))))))
 (.ops [⟨some 32, none, .bin .add .plain (.tmp 16) (.lit (.d (.int .i64 1)))⟩,
  ⟨some 16, none, .mv (.tmp 32)⟩])))))))
 (.seq (.seq (.ops [⟨some 33, none, .mv (.tmp 0)⟩,
  ⟨some 34, none, .len .sl (.tmp 33)⟩,
  ⟨some 35, none, .mv (.lit (.d (.int .i64 0)))⟩])
 (.block 2 (.loop [35] [2, 7, 8, 10, 36, 37, 38, 39, 40, 41, 42, 43, 44, 45, 46, 47, 48, 49, 50, 51, 52, 53, 54, 55, 56, 57, 58, 59, 60, 61, 62, 63, 64, 65] (.seq (.ops [⟨some 36, none, .bin .lss .plain (.tmp 35) (.tmp 34)⟩])
 (.seq (.cond (.tmp 36) .skip (.exit 2))
 (.seq (.block 3 (.seq (.ops [⟨some 37, none, .mv (.tmp 35)⟩,
  ⟨some 38, none, .iaddr none 9 (.tmp 33) (.tmp 35)⟩,
  ⟨some 39, none, .load true 9 (.tmp 38)⟩,
  ⟨some 8, none, .alloc [(.d (.int .i64 0)), (.d (.int .i64 0)), (.d (.int .i64 0)), (.d (.str [])), (.d (.str [])), (.d (.int .i64 0)), (.exact []), (.d (.int .i64 0)), (.d (.int .i64 0))]⟩,
  ⟨some 7, none, .mv (.tmp 37)⟩,
  ⟨none, none, .store 9 (.tmp 8) (.tmp 39)⟩])
 (.seq (.ops [⟨some 40, none, .mv (.tmp 0)⟩,
  ⟨some 41, none, .mv (.tmp 7)⟩,
  ⟨some 42, none, .slc (.sl 9) (.tmp 40) none (some (.tmp 41)) none⟩,
  ⟨some 43, none, .len .sl (.tmp 42)⟩,
  ⟨some 44, none, .mv (.lit (.d (.int .i64 0)))⟩])
 (.block 4 (.loop [44] [2, 10, 45, 46, 47, 48, 49, 50, 51, 52, 53, 54, 55, 56, 57, 58, 59, 60, 61, 62, 63, 64] (.seq (.ops [⟨some 45, none, .bin .lss .plain (.tmp 44) (.tmp 43)⟩])
 (.seq (.cond (.tmp 45) .skip (.exit 4))
 (.seq (.block 5 (.seq (.ops [⟨some 46, none, .iaddr none 9 (.tmp 42) (.tmp 44)⟩,
  ⟨some 47, none, .load true 9 (.tmp 46)⟩,
  ⟨some 10, none, .alloc [(.d (.int .i64 0)), (.d (.int .i64 0)), (.d (.int .i64 0)), (.d (.str [])), (.d (.str [])), (.d (.int .i64 0)), (.exact []), (.d (.int .i64 0)), (.d (.int .i64 0))]⟩,
  ⟨none, none, .store 9 (.tmp 10) (.tmp 47)⟩])
 (.seq (.ops [⟨some 48, none, .faddr 0 (.tmp 8)⟩,
  ⟨some 49, none, .faddr 0 (.tmp 48)⟩,
  ⟨some 50, none, .load false 1 (.tmp 49)⟩,
  ⟨some 51, none, .faddr 0 (.tmp 10)⟩,
  ⟨some 52, none, .faddr 0 (.tmp 51)⟩,
  ⟨some 53, none, .load false 1 (.tmp 52)⟩,
  ⟨some 54, none, .bin .eql .plain (.tmp 50) (.tmp 53)⟩,
  ⟨some 55, none, .mv (.tmp 54)⟩,
  ⟨some 56, some (55, true), .faddr 0 (.tmp 8)⟩,
  ⟨some 57, some (55, true), .faddr 1 (.tmp 56)⟩,
  ⟨some 58, some (55, true), .load false 1 (.tmp 57)⟩,
  ⟨some 59, some (55, true), .faddr 0 (.tmp 10)⟩,
  ⟨some 60, some (55, true), .faddr 1 (.tmp 59)⟩,
  ⟨some 61, some (55, true), .load false 1 (.tmp 60)⟩,
  ⟨some 62, some (55, true), .bin .eql .plain (.tmp 58) (.tmp 61)⟩,
  ⟨some 63, none, .pick (.tmp 55) (.tmp 62) (.lit (.d (.bool false)))⟩])
 (.cond (.tmp 63) (.seq (.ops [⟨some 2, none, .mv (.lit (.d (.int .i64 5)))⟩])
 .ret) .skip))))
 (.ops [⟨some 64, none, .bin .add .plain (.tmp 44) (.lit (.d (.int .i64 1)))⟩,
  ⟨some 44, none, .mv (.tmp 64)⟩])))))))))
 (.ops [⟨some 65, none, .bin .add .plain (.tmp 35) (.lit (.d (.int .i64 1)))⟩,
  ⟨some 35, none, .mv (.tmp 65)⟩])))))))
 (.seq (.ops [⟨some 2, none, .mv (.lit (.d (.int .i64 0)))⟩])
 .ret)))))⟩
theorem zfu : isF Try.prog zbc zbM := ⟨Try.f45, _, Try.func45, by decide +kernel, rfl, by kernel_rfl, by kernel_rfl, by decide, by kernel_rfl, rfl, by kernel_rfl⟩
/-- slices.ContainsFunc[bulla/api.Batch,bulla/api.Signed] -/
def zam : AF := ⟨2, 9, [(.tmp 4)],
 (.seq (.ops [⟨some 4, none, .mv (.lit (.d (.bool false)))⟩])
 (.seq (.ops [⟨some 5, none, .mv (.tmp 0)⟩,
  ⟨some 6, none, .mv (.tmp 1)⟩,
  ⟨some 7, none, .call false 69 [(.tmp 5), (.tmp 6)]⟩,
  ⟨some 8, none, .bin .geq .plain (.tmp 7) (.lit (.d (.int .i64 0)))⟩,
  ⟨some 4, none, .mv (.tmp 8)⟩])
 .ret))⟩
theorem zbk : isF Try.prog zal zam := ⟨Try.f46, _, Try.func46, by decide +kernel, rfl, by kernel_rfl, by kernel_rfl, by decide, by kernel_rfl, rfl, by kernel_rfl⟩
/-- bulla/request.ValidBatch$1 -/
def zby : AF := ⟨3, 10, [(.tmp 4)],
 (.seq (.ops [⟨some 3, none, .boxi (.tmp 0)⟩,
  ⟨some 4, none, .mv (.lit (.d (.bool false)))⟩])
 (.seq (.ops [⟨some 5, none, .load false 1 (.tmp 1)⟩,
  ⟨some 6, none, .load false 1 (.tmp 2)⟩,
  ⟨some 7, none, .load true 9 (.tmp 3)⟩,
  ⟨some 8, none, .call false 48 [(.tmp 5), (.tmp 6), (.tmp 7)]⟩,
  ⟨some 9, none, .un .not (.tmp 8)⟩,
  ⟨some 4, none, .mv (.tmp 9)⟩])
 .ret))⟩
theorem zer : isF Try.prog zcC zby := ⟨Try.f47, _, Try.func47, by decide +kernel, rfl, by kernel_rfl, by kernel_rfl, by decide, by kernel_rfl, rfl, by kernel_rfl⟩
end Go.Proofs.Ytcappjcojggehaa

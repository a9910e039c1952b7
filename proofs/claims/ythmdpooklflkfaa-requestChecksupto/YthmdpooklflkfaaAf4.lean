/- Resolved forms, each with the theorem that it is its function's. Printed by program. -/
import Derived.Test.YthmdpooklflkfaaNm
import Derived.KernelRfl
set_option linter.all false
set_option maxRecDepth 100000
set_option linter.unusedVariables false
namespace Go.Proofs.Ythmdpooklflkfaa
open Go.AW
/-- (*bulla/ideal.Ledger).Sign -/
def A_ideal_Ledger_Sign : AF := ⟨3, 51, [(.cell 6 true 2), (.tmp 7)],
 (.seq (.ops [⟨some 6, none, .alloc [(.d (.int .i64 0)), (.d (.int .i64 0))]⟩,
  ⟨some 7, none, .mv (.lit (.d (.int .i64 0)))⟩])
 (.seq (.block 0 (.seq (.ops [⟨some 10, none, .mv (.tmp 0)⟩,
  ⟨some 11, none, .call false 101 [(.tmp 10)]⟩,
  ⟨some 9, none, .mv (.tmp 11)⟩])
 (.cond (.tmp 9) (.seq (.ops [⟨some 12, none, .build [(.d (.int .i64 0)), (.d (.int .i64 0))] []⟩,
  ⟨none, none, .store 2 (.tmp 6) (.tmp 12)⟩,
  ⟨some 7, none, .mv (.lit (.d (.int .i64 2)))⟩])
 .ret) (.seq (.ops [⟨some 14, none, .mv (.tmp 1)⟩,
  ⟨some 15, none, .bin .lss .plain (.tmp 14) (.lit (.d (.int .i64 0)))⟩,
  ⟨some 16, none, .mv (.tmp 15)⟩,
  ⟨some 17, some (16, false), .mv (.tmp 1)⟩,
  ⟨some 18, some (16, false), .bin .geq .plain (.tmp 17) (.lit (.d (.int .i64 21)))⟩,
  ⟨some 19, none, .pick (.tmp 16) (.lit (.d (.bool true))) (.tmp 18)⟩,
  ⟨some 13, none, .mv (.tmp 19)⟩])
 (.cond (.tmp 13) (.seq (.ops [⟨some 20, none, .build [(.d (.int .i64 0)), (.d (.int .i64 0))] []⟩,
  ⟨none, none, .store 2 (.tmp 6) (.tmp 20)⟩,
  ⟨some 7, none, .mv (.lit (.d (.int .i64 20)))⟩])
 .ret) (.seq (.ops [⟨some 22, none, .mv (.tmp 2)⟩,
  ⟨some 23, none, .bin .lss .plain (.tmp 22) (.lit (.d (.int .i64 1)))⟩,
  ⟨some 21, none, .mv (.tmp 23)⟩])
 (.cond (.tmp 21) (.seq (.ops [⟨some 24, none, .build [(.d (.int .i64 0)), (.d (.int .i64 0))] []⟩,
  ⟨none, none, .store 2 (.tmp 6) (.tmp 24)⟩,
  ⟨some 7, none, .mv (.lit (.d (.int .i64 1)))⟩])
 .ret) .skip)))))))
 (.seq (.ops [⟨some 25, none, .mv (.tmp 1)⟩,
  ⟨some 26, none, .mv (.tmp 2)⟩,
  ⟨some 27, none, .build [(.d (.int .i64 0)), (.d (.int .i64 0))] [(0, 1, (.tmp 25)), (1, 1, (.tmp 26))]⟩,
  ⟨some 8, none, .alloc [(.d (.int .i64 0)), (.d (.int .i64 0))]⟩,
  ⟨none, none, .store 2 (.tmp 8) (.tmp 27)⟩])
 (.seq (.seq (.draw [⟨some 28, none, .mv (.tmp 0)⟩,
  ⟨some 29, none, .nilchk (.tmp 28)⟩,
  ⟨some 30, none, .faddr 1 (.tmp 29)⟩,
  ⟨some 31, none, .load false 1 (.tmp 30)⟩,
  ⟨some 32, none, .load true 2 (.tmp 8)⟩,
  ⟨some 33, none, .mget (.ints 2) false (.d (.bool false)) (.tmp 31) (.tmp 32)⟩,
  ⟨some 34, none, .un .not (.tmp 33)⟩] [[], [0], [1], [2], [], [3, 4], [5]] [(0, []), (1, []), (2, []), (3, []), (4, []), (5, []), (6, [])] [0, 1, 3, 7, 0, 31, 63])
 (.cond (.tmp 34) (.seq (.draw [⟨some 35, none, .mv (.tmp 0)⟩,
  ⟨some 36, none, .nilchk (.tmp 35)⟩,
  ⟨some 37, none, .faddr 1 (.tmp 36)⟩,
  ⟨some 38, none, .load false 1 (.tmp 37)⟩,
  ⟨some 39, none, .load true 2 (.tmp 8)⟩,
  ⟨none, none, .mset (.ints 2) (.tmp 38) (.tmp 39) (.lit (.d (.bool true)))⟩] [[], [0], [1], [2], [], [3, 4, 0, 1, 2, 3, 4]] [(0, []), (1, []), (2, []), (3, []), (4, []), (5, [])] [0, 1, 3, 7, 0, 31])
 (.draw [⟨some 40, none, .mv (.tmp 0)⟩,
  ⟨some 41, none, .mv (.tmp 0)⟩,
  ⟨some 42, none, .nilchk (.tmp 41)⟩,
  ⟨some 43, none, .faddr 0 (.tmp 42)⟩,
  ⟨some 44, none, .load false 1 (.tmp 43)⟩,
  ⟨some 45, none, .load true 2 (.tmp 8)⟩,
  ⟨some 46, none, .mkslice false 2 1 [(.d (.int .i64 0)), (.d (.int .i64 0))] [(0, 2, (.tmp 45))]⟩,
  ⟨some 47, none, .append false 2 16 [(.d (.int .i64 0)), (.d (.int .i64 0))] (.tmp 44) (.tmp 46)⟩,
  ⟨some 48, none, .nilchk (.tmp 40)⟩,
  ⟨some 49, none, .faddr 0 (.tmp 48)⟩,
  ⟨none, none, .store 1 (.tmp 49) (.tmp 47)⟩] [[], [], [1], [2], [3], [], [5], [4, 6], [0, 0, 1, 2, 3, 4, 5, 6, 7], [8, 0, 1, 2, 3, 4, 5, 6, 7], [9, 7, 7, 0, 1, 2, 3, 4, 5, 6, 7]] [(0, []), (1, []), (2, []), (3, []), (4, []), (5, []), (6, []), (7, []), (8, []), (9, []), (10, [])] [0, 0, 2, 6, 14, 0, 32, 126, 255, 511, 1023])) .skip))
 (.seq (.ops [⟨some 50, none, .load true 2 (.tmp 8)⟩,
  ⟨none, none, .store 2 (.tmp 6) (.tmp 50)⟩,
  ⟨some 7, none, .mv (.lit (.d (.int .i64 0)))⟩])
 .ret)))))⟩
theorem isA_ideal_Ledger_Sign : isF Try.prog n_ideal_Ledger_Sign A_ideal_Ledger_Sign := ⟨Try.f66, _, Try.func66, by decide +kernel, rfl, by kernel_rfl, by kernel_rfl, by decide, by kernel_rfl, rfl, by kernel_rfl⟩
/-- (*bulla/ideal.Table).Sum -/
def A_ideal_Table_Sum : AF := ⟨2, 52, [(.tmp 4)],
 (.seq (.ops [⟨some 4, none, .mv (.lit (.d (.int .i64 0)))⟩])
 (.seq (.seq (.ops [⟨some 8, none, .mv (.tmp 0)⟩,
  ⟨some 9, none, .call false 102 [(.tmp 8)]⟩])
 (.cond (.tmp 9) (.seq (.ops [⟨some 4, none, .mv (.lit (.d (.int .i64 0)))⟩])
 .ret) .skip))
 (.seq (.seq (.draw [⟨some 11, none, .mv (.tmp 0)⟩,
  ⟨some 12, none, .nilchk (.tmp 11)⟩,
  ⟨some 13, none, .faddr 1 (.tmp 12)⟩,
  ⟨some 14, none, .load false 1 (.tmp 13)⟩,
  ⟨some 15, none, .mv (.tmp 1)⟩,
  ⟨some 16, none, .conv .toStr (.tmp 15)⟩,
  ⟨some 17, none, .mget .str true (.d (.int .i64 0)) (.tmp 14) (.tmp 16)⟩,
  ⟨some 10, none, .mv (.tmp 17)⟩,
  ⟨some 18, none, .extract (.tmp 10) 0⟩,
  ⟨some 19, none, .extract (.tmp 10) 1⟩,
  ⟨some 5, none, .mv (.tmp 18)⟩,
  ⟨some 6, none, .mv (.tmp 19)⟩] [[], [0], [1], [2], [], [4], [3, 5], [6], [7], [7], [8, 0, 1, 2, 3, 4, 5, 6, 7, 8], [9, 10, 0, 1, 2, 3, 4, 5, 6, 7, 8, 9, 10]] [(0, []), (1, []), (2, []), (3, []), (4, []), (5, []), (6, []), (7, []), (8, []), (9, []), (10, []), (11, [])] [0, 1, 3, 7, 0, 16, 63, 127, 255, 255, 511, 2047])
 (.seq (.ops [⟨some 20, none, .mv (.tmp 6)⟩])
 (.cond (.tmp 20) (.seq (.ops [⟨some 21, none, .mv (.tmp 5)⟩,
  ⟨some 4, none, .mv (.tmp 21)⟩])
 .ret) .skip)))
 (.seq (.seq (.ops [⟨some 22, none, .mv (.tmp 0)⟩,
  ⟨some 23, none, .nilchk (.tmp 22)⟩,
  ⟨some 24, none, .faddr 0 (.tmp 23)⟩,
  ⟨some 25, none, .load false 1 (.tmp 24)⟩,
  ⟨some 26, none, .len .sl (.tmp 25)⟩,
  ⟨some 27, none, .bin .geq .plain (.tmp 26) (.lit (.d (.int .i64 1048576)))⟩])
 (.cond (.tmp 27) (.seq (.ops [⟨some 4, none, .mv (.lit (.d (.int .i64 0)))⟩])
 .ret) .skip))
 (.seq (.draw [⟨some 28, none, .mv (.tmp 0)⟩,
  ⟨some 29, none, .mv (.tmp 0)⟩,
  ⟨some 30, none, .nilchk (.tmp 29)⟩,
  ⟨some 31, none, .faddr 0 (.tmp 30)⟩,
  ⟨some 32, none, .load false 1 (.tmp 31)⟩,
  ⟨some 33, none, .mv (.tmp 1)⟩,
  ⟨some 34, none, .call false 62 [(.tmp 33)]⟩,
  ⟨some 35, none, .mkslice false 1 1 [(.exact [])] [(0, 1, (.tmp 34))]⟩,
  ⟨some 36, none, .append false 1 24 [(.exact [])] (.tmp 32) (.tmp 35)⟩,
  ⟨some 37, none, .nilchk (.tmp 28)⟩,
  ⟨some 38, none, .faddr 0 (.tmp 37)⟩,
  ⟨none, none, .store 1 (.tmp 38) (.tmp 36)⟩] [[], [], [1], [2], [3], [], [5], [6], [4, 7, 6], [0, 0, 1, 2, 3, 4, 5, 6, 7, 8], [9, 0, 1, 2, 3, 4, 5, 6, 7, 8], [10, 8, 8, 0, 1, 2, 3, 4, 5, 6, 7, 8]] [(0, []), (1, []), (2, []), (3, []), (4, []), (5, []), (6, [31]), (7, []), (8, []), (9, []), (10, []), (11, [])] [0, 0, 2, 6, 14, 0, 32, 96, 254, 511, 1023, 2047])
 (.seq (.ops [⟨some 39, none, .mv (.tmp 0)⟩,
  ⟨some 40, none, .nilchk (.tmp 39)⟩,
  ⟨some 41, none, .faddr 0 (.tmp 40)⟩,
  ⟨some 42, none, .load false 1 (.tmp 41)⟩,
  ⟨some 43, none, .len .sl (.tmp 42)⟩,
  ⟨some 7, none, .mv (.tmp 43)⟩])
 (.seq (.draw [⟨some 44, none, .mv (.tmp 0)⟩,
  ⟨some 45, none, .nilchk (.tmp 44)⟩,
  ⟨some 46, none, .faddr 1 (.tmp 45)⟩,
  ⟨some 47, none, .load false 1 (.tmp 46)⟩,
  ⟨some 48, none, .mv (.tmp 1)⟩,
  ⟨some 49, none, .conv .toStr (.tmp 48)⟩,
  ⟨some 50, none, .mv (.tmp 7)⟩,
  ⟨none, none, .mset .str (.tmp 47) (.tmp 49) (.tmp 50)⟩] [[], [0], [1], [2], [], [4], [], [3, 5, 6, 0, 1, 2, 3, 4, 5, 6]] [(0, []), (1, []), (2, []), (3, []), (4, []), (5, []), (6, []), (7, [])] [0, 1, 3, 7, 0, 16, 0, 127])
 (.seq (.ops [⟨some 51, none, .mv (.tmp 7)⟩,
  ⟨some 4, none, .mv (.tmp 51)⟩])
 .ret))))))))⟩
theorem isA_ideal_Table_Sum : isF Try.prog n_ideal_Table_Sum A_ideal_Table_Sum := ⟨Try.f67, _, Try.func67, by decide +kernel, rfl, by kernel_rfl, by kernel_rfl, by decide, by kernel_rfl, rfl, by kernel_rfl⟩
/-- (*bulla/ideal.Table).Look -/
def A_ideal_Table_Look : AF := ⟨2, 22, [(.tmp 4), (.tmp 5)],
 (.seq (.ops [⟨some 4, none, .mv (.lit (.d (.int .i64 0)))⟩,
  ⟨some 5, none, .mv (.lit (.d (.bool false)))⟩])
 (.seq (.seq (.ops [⟨some 8, none, .mv (.tmp 0)⟩,
  ⟨some 9, none, .call false 102 [(.tmp 8)]⟩])
 (.cond (.tmp 9) (.seq (.ops [⟨some 4, none, .mv (.lit (.d (.int .i64 0)))⟩,
  ⟨some 5, none, .mv (.lit (.d (.bool false)))⟩])
 .ret) .skip))
 (.seq (.draw [⟨some 11, none, .mv (.tmp 0)⟩,
  ⟨some 12, none, .nilchk (.tmp 11)⟩,
  ⟨some 13, none, .faddr 1 (.tmp 12)⟩,
  ⟨some 14, none, .load false 1 (.tmp 13)⟩,
  ⟨some 15, none, .mv (.tmp 1)⟩,
  ⟨some 16, none, .conv .toStr (.tmp 15)⟩,
  ⟨some 17, none, .mget .str true (.d (.int .i64 0)) (.tmp 14) (.tmp 16)⟩,
  ⟨some 10, none, .mv (.tmp 17)⟩,
  ⟨some 18, none, .extract (.tmp 10) 0⟩,
  ⟨some 19, none, .extract (.tmp 10) 1⟩,
  ⟨some 6, none, .mv (.tmp 18)⟩,
  ⟨some 7, none, .mv (.tmp 19)⟩] [[], [0], [1], [2], [], [4], [3, 5], [6], [7], [7], [8, 0, 1, 2, 3, 4, 5, 6, 7, 8], [9, 10, 0, 1, 2, 3, 4, 5, 6, 7, 8, 9, 10]] [(0, []), (1, []), (2, []), (3, []), (4, []), (5, []), (6, []), (7, []), (8, []), (9, []), (10, []), (11, [])] [0, 1, 3, 7, 0, 16, 63, 127, 255, 255, 511, 2047])
 (.seq (.ops [⟨some 20, none, .mv (.tmp 6)⟩,
  ⟨some 21, none, .mv (.tmp 7)⟩,
  ⟨some 4, none, .mv (.tmp 20)⟩,
  ⟨some 5, none, .mv (.tmp 21)⟩])
 .ret))))⟩
theorem isA_ideal_Table_Look : isF Try.prog n_ideal_Table_Look A_ideal_Table_Look := ⟨Try.f68, _, Try.func68, by decide +kernel, rfl, by kernel_rfl, by kernel_rfl, by decide, by kernel_rfl, rfl, by kernel_rfl⟩
/-- (*bulla/ideal.Ledger).Signed -/
def A_ideal_Ledger_Signed : AF := ⟨2, 16, [(.tmp 4)],
 (.seq (.ops [⟨some 3, none, .boxi (.tmp 1)⟩,
  ⟨some 4, none, .mv (.lit (.d (.bool false)))⟩])
 (.seq (.draw [⟨some 5, none, .mv (.tmp 0)⟩,
  ⟨some 6, none, .call false 101 [(.tmp 5)]⟩,
  ⟨some 7, none, .un .not (.tmp 6)⟩,
  ⟨some 8, none, .mv (.tmp 7)⟩,
  ⟨some 9, some (8, true), .mv (.tmp 0)⟩,
  ⟨some 10, some (8, true), .nilchk (.tmp 9)⟩,
  ⟨some 11, some (8, true), .faddr 1 (.tmp 10)⟩,
  ⟨some 12, some (8, true), .load false 1 (.tmp 11)⟩,
  ⟨some 13, some (8, true), .load true 2 (.tmp 3)⟩,
  ⟨some 14, some (8, true), .mget (.ints 2) false (.d (.bool false)) (.tmp 12) (.tmp 13)⟩,
  ⟨some 15, none, .pick (.tmp 8) (.tmp 14) (.lit (.d (.bool false)))⟩,
  ⟨some 4, none, .mv (.tmp 15)⟩] [[], [0], [1], [2, 1], [3], [4, 3], [5, 3], [6, 3], [3], [7, 8, 3], [3, 9], [10, 3, 0, 1, 2, 3, 4, 5, 6, 7, 8, 9, 10]] [(0, []), (1, []), (2, []), (3, []), (4, []), (5, []), (6, []), (7, []), (8, []), (9, []), (10, []), (11, [])] [0, 1, 3, 7, 15, 31, 63, 127, 15, 511, 1023, 2047])
 .ret))⟩
theorem isA_ideal_Ledger_Signed : isF Try.prog n_ideal_Ledger_Signed A_ideal_Ledger_Signed := ⟨Try.f69, _, Try.func69, by decide +kernel, rfl, by kernel_rfl, by kernel_rfl, by decide, by kernel_rfl, rfl, by kernel_rfl⟩
/-- bulla/request.known -/
def A_request_known : AF := ⟨1, 11, [(.tmp 2)],
 (.seq (.ops [⟨some 2, none, .mv (.lit (.d (.bool false)))⟩])
 (.seq (.ops [⟨some 3, none, .mv (.tmp 0)⟩,
  ⟨some 4, none, .call false 103 [(.tmp 3)]⟩,
  ⟨some 5, none, .bin .gtr .plain (.tmp 4) (.lit (.d (.int .i64 0)))⟩,
  ⟨some 6, none, .mv (.tmp 5)⟩,
  ⟨some 7, some (6, false), .mv (.tmp 0)⟩,
  ⟨some 8, some (6, false), .call false 104 [(.tmp 7)]⟩,
  ⟨some 9, some (6, false), .bin .neq .ptr (.tmp 8) (.lit (.d .nilp))⟩,
  ⟨some 10, none, .pick (.tmp 6) (.lit (.d (.bool true))) (.tmp 9)⟩,
  ⟨some 2, none, .mv (.tmp 10)⟩])
 .ret))⟩
theorem isA_request_known : isF Try.prog n_request_known A_request_known := ⟨Try.f70, _, Try.func70, by decide +kernel, rfl, by kernel_rfl, by kernel_rfl, by decide, by kernel_rfl, rfl, by kernel_rfl⟩
/-- bulla/bullaref06.Same -/
def A_r06_Same : AF := ⟨2, 61, [(.tmp 4)],
 (.seq (.ops [⟨some 2, none, .boxi (.tmp 0)⟩,
  ⟨some 3, none, .boxi (.tmp 1)⟩,
  ⟨some 4, none, .mv (.lit (.d (.bool false)))⟩])
 (.seq (.seq (.ops [⟨some 6, none, .faddr 0 (.tmp 2)⟩,
  ⟨some 7, none, .load false 1 (.tmp 6)⟩,
  ⟨some 8, none, .faddr 0 (.tmp 3)⟩,
  ⟨some 9, none, .load false 1 (.tmp 8)⟩,
  ⟨some 10, none, .bin .neq .plain (.tmp 7) (.tmp 9)⟩,
  ⟨some 11, none, .mv (.tmp 10)⟩,
  ⟨some 12, some (11, false), .faddr 1 (.tmp 2)⟩,
  ⟨some 13, some (11, false), .load false 1 (.tmp 12)⟩,
  ⟨some 14, some (11, false), .faddr 1 (.tmp 3)⟩,
  ⟨some 15, some (11, false), .load false 1 (.tmp 14)⟩,
  ⟨some 16, some (11, false), .bin .neq .plain (.tmp 13) (.tmp 15)⟩,
  ⟨some 17, none, .pick (.tmp 11) (.lit (.d (.bool true))) (.tmp 16)⟩,
  ⟨some 18, none, .mv (.tmp 17)⟩,
  ⟨some 19, some (18, false), .faddr 2 (.tmp 2)⟩,
  ⟨some 20, some (18, false), .load false 1 (.tmp 19)⟩,
  ⟨some 21, some (18, false), .faddr 2 (.tmp 3)⟩,
  ⟨some 22, some (18, false), .load false 1 (.tmp 21)⟩,
  ⟨some 23, some (18, false), .bin .neq .plain (.tmp 20) (.tmp 22)⟩,
  ⟨some 24, none, .pick (.tmp 18) (.lit (.d (.bool true))) (.tmp 23)⟩,
  ⟨some 25, none, .mv (.tmp 24)⟩,
  ⟨some 26, some (25, false), .faddr 3 (.tmp 2)⟩,
  ⟨some 27, some (25, false), .load false 1 (.tmp 26)⟩,
  ⟨some 28, some (25, false), .faddr 3 (.tmp 3)⟩,
  ⟨some 29, some (25, false), .load false 1 (.tmp 28)⟩,
  ⟨some 30, some (25, false), .bin .neq .plain (.tmp 27) (.tmp 29)⟩,
  ⟨some 31, none, .pick (.tmp 25) (.lit (.d (.bool true))) (.tmp 30)⟩,
  ⟨some 32, none, .mv (.tmp 31)⟩,
  ⟨some 33, some (32, false), .faddr 4 (.tmp 2)⟩,
  ⟨some 34, some (32, false), .load false 1 (.tmp 33)⟩,
  ⟨some 35, some (32, false), .len .sl (.tmp 34)⟩,
  ⟨some 36, some (32, false), .faddr 4 (.tmp 3)⟩,
  ⟨some 37, some (32, false), .load false 1 (.tmp 36)⟩,
  ⟨some 38, some (32, false), .len .sl (.tmp 37)⟩,
  ⟨some 39, some (32, false), .bin .neq .plain (.tmp 35) (.tmp 38)⟩,
  ⟨some 40, none, .pick (.tmp 32) (.lit (.d (.bool true))) (.tmp 39)⟩])
 (.cond (.tmp 40) (.seq (.ops [⟨some 4, none, .mv (.lit (.d (.bool false)))⟩])
 .ret) .skip))
 (.seq (.seq (.ops [⟨some 5, none, .mv (.lit (.d (.int .i64 0)))⟩])
 (.block 0 (.loop [5] [4, 41, 42, 43, 44, 45, 46, 47, 48, 49, 50, 51, 52, 53, 54, 55, 56, 57, 58, 59, 60] (.seq (.seq (.ops [⟨some 41, none, .mv (.tmp 5)⟩,
  ⟨some 42, none, .faddr 4 (.tmp 2)⟩,
  ⟨some 43, none, .load false 1 (.tmp 42)⟩,
  ⟨some 44, none, .len .sl (.tmp 43)⟩,
  ⟨some 45, none, .bin .lss .plain (.tmp 41) (.tmp 44)⟩])
 (.cond (.tmp 45) .skip (.exit 0)))
 (.seq (.block 1 (.seq (.draw [⟨some 48, none, .faddr 4 (.tmp 2)⟩,
  ⟨some 49, none, .load false 1 (.tmp 48)⟩,
  ⟨some 50, none, .mv (.tmp 5)⟩,
  ⟨some 51, none, .iaddr none 1 (.tmp 49) (.tmp 50)⟩,
  ⟨some 52, none, .load false 1 (.tmp 51)⟩,
  ⟨some 53, none, .conv .toStr (.tmp 52)⟩,
  ⟨some 54, none, .faddr 4 (.tmp 3)⟩,
  ⟨some 55, none, .load false 1 (.tmp 54)⟩,
  ⟨some 56, none, .mv (.tmp 5)⟩,
  ⟨some 57, none, .iaddr none 1 (.tmp 55) (.tmp 56)⟩,
  ⟨some 58, none, .load false 1 (.tmp 57)⟩,
  ⟨some 59, none, .conv .toStr (.tmp 58)⟩,
  ⟨some 60, none, .bin .neq .plain (.tmp 53) (.tmp 59)⟩] [[], [0], [], [1, 2], [3], [4], [], [6], [], [7, 8], [9], [10], [5, 11]] [(0, []), (1, []), (2, []), (3, []), (4, []), (5, []), (6, []), (7, []), (8, []), (9, []), (10, []), (11, []), (12, [])] [0, 1, 0, 7, 15, 31, 0, 64, 0, 448, 960, 1984, 4095])
 (.cond (.tmp 60) (.seq (.ops [⟨some 4, none, .mv (.lit (.d (.bool false)))⟩])
 .ret) .skip)))
 (.ops [⟨some 46, none, .mv (.tmp 5)⟩,
  ⟨some 47, none, .bin .add .plain (.tmp 46) (.lit (.d (.int .i64 1)))⟩,
  ⟨some 5, none, .mv (.tmp 47)⟩]))))))
 (.seq (.ops [⟨some 4, none, .mv (.lit (.d (.bool true)))⟩])
 .ret))))⟩
theorem isA_r06_Same : isF Try.prog n_r06_Same A_r06_Same := ⟨Try.f82, _, Try.func82, by decide +kernel, rfl, by kernel_rfl, by kernel_rfl, by decide, by kernel_rfl, rfl, by kernel_rfl⟩
/-- bulla/op.only -/
def A_op_only : AF := ⟨1, 46, [(.cell 2 true 5), (.tmp 3)],
 (.seq (.ops [⟨some 1, none, .boxi (.tmp 0)⟩,
  ⟨some 2, none, .alloc [(.d (.int .i64 0)), (.d (.str [])), (.d (.str [])), (.d (.int .i64 0)), (.exact [])]⟩,
  ⟨some 3, none, .mv (.lit (.d (.bool false)))⟩])
 (.seq (.ops [⟨some 5, none, .faddr 0 (.tmp 1)⟩,
  ⟨some 6, none, .load false 1 (.tmp 5)⟩,
  ⟨some 7, none, .build [(.d (.int .i64 0)), (.d (.str [])), (.d (.str [])), (.d (.int .i64 0)), (.exact [])] [(0, 1, (.tmp 6))]⟩,
  ⟨some 4, none, .alloc [(.d (.int .i64 0)), (.d (.str [])), (.d (.str [])), (.d (.int .i64 0)), (.exact [])]⟩,
  ⟨none, none, .store 5 (.tmp 4) (.tmp 7)⟩])
 (.seq (.seq (.ops [⟨some 8, none, .faddr 0 (.tmp 1)⟩,
  ⟨some 9, none, .load false 1 (.tmp 8)⟩])
 (.block 0 (.seq (.ops [⟨some 12, none, .bin .eql .plain (.tmp 9) (.lit (.d (.int .i64 0)))⟩,
  ⟨some 11, none, .mv (.tmp 12)⟩])
 (.cond (.tmp 11) .skip (.seq (.ops [⟨some 14, none, .bin .eql .plain (.tmp 9) (.lit (.d (.int .i64 1)))⟩,
  ⟨some 13, none, .mv (.tmp 14)⟩])
 (.cond (.tmp 13) (.ops [⟨some 15, none, .faddr 1 (.tmp 1)⟩,
  ⟨some 16, none, .load false 1 (.tmp 15)⟩,
  ⟨some 17, none, .faddr 1 (.tmp 4)⟩,
  ⟨none, none, .store 1 (.tmp 17) (.tmp 16)⟩]) (.seq (.ops [⟨some 19, none, .bin .eql .plain (.tmp 9) (.lit (.d (.int .i64 2)))⟩,
  ⟨some 18, none, .mv (.tmp 19)⟩])
 (.cond (.tmp 18) (.draw [⟨some 20, none, .faddr 1 (.tmp 1)⟩,
  ⟨some 21, none, .load false 1 (.tmp 20)⟩,
  ⟨some 22, none, .faddr 4 (.tmp 1)⟩,
  ⟨some 23, none, .load false 1 (.tmp 22)⟩,
  ⟨some 24, none, .faddr 1 (.tmp 4)⟩,
  ⟨none, none, .store 1 (.tmp 24) (.tmp 21)⟩,
  ⟨some 25, none, .faddr 4 (.tmp 4)⟩,
  ⟨none, none, .store 1 (.tmp 25) (.tmp 23)⟩] [[], [0], [], [2], [0, 1], [4, 1, 0, 1], [0, 1, 2, 3, 4, 5], [6, 3, 5, 0, 1, 2, 3, 4, 5]] [(0, []), (1, []), (2, []), (3, []), (4, []), (5, [22]), (6, []), (7, [])] [0, 1, 0, 4, 3, 19, 63, 127]) (.seq (.ops [⟨some 27, none, .bin .eql .plain (.tmp 9) (.lit (.d (.int .i64 3)))⟩,
  ⟨some 26, none, .mv (.tmp 27)⟩])
 (.cond (.tmp 26) (.draw [⟨some 28, none, .faddr 1 (.tmp 1)⟩,
  ⟨some 29, none, .load false 1 (.tmp 28)⟩,
  ⟨some 30, none, .faddr 2 (.tmp 1)⟩,
  ⟨some 31, none, .load false 1 (.tmp 30)⟩,
  ⟨some 32, none, .faddr 3 (.tmp 1)⟩,
  ⟨some 33, none, .load false 1 (.tmp 32)⟩,
  ⟨some 34, none, .faddr 1 (.tmp 4)⟩,
  ⟨none, none, .store 1 (.tmp 34) (.tmp 29)⟩,
  ⟨some 35, none, .faddr 2 (.tmp 4)⟩,
  ⟨none, none, .store 1 (.tmp 35) (.tmp 31)⟩,
  ⟨some 36, none, .faddr 3 (.tmp 4)⟩,
  ⟨none, none, .store 1 (.tmp 36) (.tmp 33)⟩] [[], [0], [], [2], [], [4], [0, 1], [6, 1, 0, 1], [0, 1, 2, 3, 6, 7], [8, 3, 7, 0, 1, 2, 3, 6, 7], [0, 1, 2, 3, 4, 5, 6, 7, 8, 9], [10, 5, 9, 0, 1, 2, 3, 4, 5, 6, 7, 8, 9]] [(0, []), (1, []), (2, []), (3, []), (4, []), (5, []), (6, []), (7, [30, 32]), (8, []), (9, [32]), (10, []), (11, [])] [0, 1, 0, 4, 0, 16, 3, 67, 207, 463, 1023, 2047]) (.seq (.ops [⟨some 38, none, .bin .eql .plain (.tmp 9) (.lit (.d (.int .i64 4)))⟩,
  ⟨some 37, none, .mv (.tmp 38)⟩])
 (.cond (.tmp 37) (.draw [⟨some 39, none, .faddr 1 (.tmp 1)⟩,
  ⟨some 40, none, .load false 1 (.tmp 39)⟩,
  ⟨some 41, none, .faddr 3 (.tmp 1)⟩,
  ⟨some 42, none, .load false 1 (.tmp 41)⟩,
  ⟨some 43, none, .faddr 1 (.tmp 4)⟩,
  ⟨none, none, .store 1 (.tmp 43) (.tmp 40)⟩,
  ⟨some 44, none, .faddr 3 (.tmp 4)⟩,
  ⟨none, none, .store 1 (.tmp 44) (.tmp 42)⟩] [[], [0], [], [2], [0, 1], [4, 1, 0, 1], [0, 1, 2, 3, 4, 5], [6, 3, 5, 0, 1, 2, 3, 4, 5]] [(0, []), (1, []), (2, []), (3, []), (4, []), (5, [41]), (6, []), (7, [])] [0, 1, 0, 4, 3, 19, 63, 127]) (.seq (.ops [⟨some 10, none, .load true 5 (.tmp 4)⟩,
  ⟨none, none, .store 5 (.tmp 2) (.tmp 10)⟩,
  ⟨some 3, none, .mv (.lit (.d (.bool false)))⟩])
 .ret)))))))))))))
 (.seq (.ops [⟨some 45, none, .load true 5 (.tmp 4)⟩,
  ⟨none, none, .store 5 (.tmp 2) (.tmp 45)⟩,
  ⟨some 3, none, .mv (.lit (.d (.bool true)))⟩])
 .ret))))⟩
theorem isA_op_only : isF Try.prog n_op_only A_op_only := ⟨Try.f88, _, Try.func88, by decide +kernel, rfl, by kernel_rfl, by kernel_rfl, by decide, by kernel_rfl, rfl, by kernel_rfl⟩
/-- bulla/op.Check$1 -/
def A_op_Check_1 : AF := ⟨1, 6, [(.tmp 2)],
 (.seq (.ops [⟨some 2, none, .mv (.lit (.d (.bool false)))⟩])
 (.seq (.ops [⟨some 3, none, .mv (.tmp 0)⟩,
  ⟨some 4, none, .len .sl (.tmp 3)⟩,
  ⟨some 5, none, .bin .gtr .plain (.tmp 4) (.lit (.d (.int .i64 64)))⟩,
  ⟨some 2, none, .mv (.tmp 5)⟩])
 .ret))⟩
theorem isA_op_Check_1 : isF Try.prog n_op_Check_1 A_op_Check_1 := ⟨Try.f89, _, Try.func89, by decide +kernel, rfl, by kernel_rfl, by kernel_rfl, by decide, by kernel_rfl, rfl, by kernel_rfl⟩
/-- bulla/op.Name -/
def A_op_Name : AF := ⟨1, 6, [(.tmp 2)],
 (.seq (.ops [⟨some 2, none, .mv (.lit (.d (.bool false)))⟩])
 (.seq (.ops [⟨some 3, none, .mv (.tmp 0)⟩,
  ⟨some 4, none, .call false 109 [(.tmp 3)]⟩,
  ⟨some 5, none, .bin .gtr .plain (.tmp 4) (.lit (.d (.int .i64 0)))⟩,
  ⟨some 2, none, .mv (.tmp 5)⟩])
 .ret))⟩
theorem isA_op_Name : isF Try.prog n_op_Name A_op_Name := ⟨Try.f90, _, Try.func90, by decide +kernel, rfl, by kernel_rfl, by kernel_rfl, by decide, by kernel_rfl, rfl, by kernel_rfl⟩
end Go.Proofs.Ythmdpooklflkfaa

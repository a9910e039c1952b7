/- Resolved forms, each with the theorem that it is its function's. Printed by program. -/
import Derived.Test.YtndpnfbcnmebjaaNm
import Derived.KernelRfl
set_option linter.all false
set_option maxRecDepth 100000
set_option linter.unusedVariables false
namespace Go.Proofs.Ytndpnfbcnmebjaa
open Go.AW
/-- bulla/bullaref08.Same -/
def A_r08_Same : AF := ⟨2, 42, [(.tmp 4)],
 (.seq (.ops [⟨some 4, none, .mv (.lit (.d (.bool false)))⟩])
 (.seq (.seq (.ops [⟨some 6, none, .mv (.tmp 0)⟩,
  ⟨some 7, none, .len .sl (.tmp 6)⟩,
  ⟨some 8, none, .mv (.tmp 1)⟩,
  ⟨some 9, none, .len .sl (.tmp 8)⟩,
  ⟨some 10, none, .bin .neq .plain (.tmp 7) (.tmp 9)⟩])
 (.cond (.tmp 10) (.seq (.ops [⟨some 4, none, .mv (.lit (.d (.bool false)))⟩])
 .ret) .skip))
 (.seq (.seq (.ops [⟨some 5, none, .mv (.lit (.d (.int .i64 0)))⟩])
 (.block 0 (.loop [5] [4, 11, 12, 13, 14, 15, 16, 17, 18, 19, 20, 21, 22, 23, 24, 25, 26, 27, 28, 29, 30, 31, 32, 33, 34, 35, 36, 37, 38, 39, 40, 41] (.seq (.seq (.ops [⟨some 11, none, .mv (.tmp 5)⟩,
  ⟨some 12, none, .mv (.tmp 0)⟩,
  ⟨some 13, none, .len .sl (.tmp 12)⟩,
  ⟨some 14, none, .bin .lss .plain (.tmp 11) (.tmp 13)⟩])
 (.cond (.tmp 14) .skip (.exit 0)))
 (.seq (.block 1 (.seq (.draw [⟨some 17, none, .mv (.tmp 0)⟩,
  ⟨some 18, none, .mv (.tmp 5)⟩,
  ⟨some 19, none, .iaddr none 9 (.tmp 17) (.tmp 18)⟩,
  ⟨some 20, none, .faddr 7 (.tmp 19)⟩,
  ⟨some 21, none, .load true 2 (.tmp 20)⟩,
  ⟨some 22, none, .mv (.tmp 1)⟩,
  ⟨some 23, none, .mv (.tmp 5)⟩,
  ⟨some 24, none, .iaddr none 9 (.tmp 22) (.tmp 23)⟩,
  ⟨some 25, none, .faddr 7 (.tmp 24)⟩,
  ⟨some 26, none, .load true 2 (.tmp 25)⟩,
  ⟨some 27, none, .bin .neq (.ints 2) (.tmp 21) (.tmp 26)⟩,
  ⟨some 28, none, .mv (.tmp 27)⟩,
  ⟨some 29, some (28, false), .mv (.tmp 0)⟩,
  ⟨some 30, some (28, false), .mv (.tmp 5)⟩,
  ⟨some 31, some (28, false), .iaddr none 9 (.tmp 29) (.tmp 30)⟩,
  ⟨some 32, some (28, false), .faddr 0 (.tmp 31)⟩,
  ⟨some 33, some (28, false), .load true 7 (.tmp 32)⟩,
  ⟨some 34, some (28, false), .mv (.tmp 1)⟩,
  ⟨some 35, some (28, false), .mv (.tmp 5)⟩,
  ⟨some 36, some (28, false), .iaddr none 9 (.tmp 34) (.tmp 35)⟩,
  ⟨some 37, some (28, false), .faddr 0 (.tmp 36)⟩,
  ⟨some 38, some (28, false), .load true 7 (.tmp 37)⟩,
  ⟨some 39, some (28, false), .call 26 [(.tmp 33), (.tmp 38)]⟩,
  ⟨some 40, some (28, false), .un .not (.tmp 39)⟩,
  ⟨some 41, none, .pick (.tmp 28) (.lit (.d (.bool true))) (.tmp 40)⟩] [[], [], [0, 1], [2], [3], [], [], [5, 6], [7], [8], [4, 9], [10], [11], [11], [12, 13, 11], [14, 11], [15, 11], [11], [11], [17, 18, 11], [19, 11], [20, 11], [16, 21, 11, 11], [22, 11], [11, 23]] [(0, []), (1, []), (2, []), (3, []), (4, []), (5, []), (6, []), (7, []), (8, []), (9, []), (10, []), (11, []), (12, []), (13, []), (14, []), (15, []), (16, []), (17, []), (18, []), (19, []), (20, []), (21, []), (22, []), (23, []), (24, [])] [0, 0, 3, 7, 15, 0, 0, 96, 224, 480, 1023, 2047, 4095, 4095, 16383, 32767, 65535, 4095, 4095, 397311, 921599, 1970175, 4194303, 8388607, 16777215])
 (.cond (.tmp 41) (.seq (.ops [⟨some 4, none, .mv (.lit (.d (.bool false)))⟩])
 .ret) .skip)))
 (.ops [⟨some 15, none, .mv (.tmp 5)⟩,
  ⟨some 16, none, .bin .add .plain (.tmp 15) (.lit (.d (.int .i64 1)))⟩,
  ⟨some 5, none, .mv (.tmp 16)⟩]))))))
 (.seq (.ops [⟨some 4, none, .mv (.lit (.d (.bool true)))⟩])
 .ret))))⟩
theorem isA_r08_Same : isF Try.prog n_r08_Same A_r08_Same := ⟨Try.f14, _, Try.func14, by decide +kernel, rfl, by kernel_rfl, by kernel_rfl, by decide, by kernel_rfl, rfl, by kernel_rfl⟩
/-- bulla/bullaref12.Has -/
def A_r12_Has : AF := ⟨2, 20, [(.tmp 4)],
 (.seq (.ops [⟨some 4, none, .mv (.lit (.d (.bool false)))⟩])
 (.seq (.seq (.ops [⟨some 5, none, .mv (.lit (.d (.int .i64 0)))⟩])
 (.block 0 (.loop [0, 5] [4, 6, 7, 8, 9, 10, 11, 12, 13, 14, 15, 16, 17, 18, 19] (.seq (.seq (.ops [⟨some 6, none, .mv (.tmp 5)⟩,
  ⟨some 7, none, .bin .lss .plain (.tmp 6) (.lit (.d (.int .i64 13)))⟩])
 (.cond (.tmp 7) .skip (.exit 0)))
 (.seq (.block 1 (.seq (.seq (.ops [⟨some 10, none, .mv (.tmp 5)⟩,
  ⟨some 11, none, .mv (.tmp 1)⟩,
  ⟨some 12, none, .bin .eql .plain (.tmp 10) (.tmp 11)⟩,
  ⟨some 13, none, .mv (.tmp 12)⟩,
  ⟨some 14, some (13, true), .mv (.tmp 0)⟩,
  ⟨some 15, some (13, true), .bin .rem .plain (.tmp 14) (.lit (.d (.int .u16 2)))⟩,
  ⟨some 16, some (13, true), .bin .eql .plain (.tmp 15) (.lit (.d (.int .u16 1)))⟩,
  ⟨some 17, none, .pick (.tmp 13) (.tmp 16) (.lit (.d (.bool false)))⟩])
 (.cond (.tmp 17) (.seq (.ops [⟨some 4, none, .mv (.lit (.d (.bool true)))⟩])
 .ret) .skip))
 (.ops [⟨some 18, none, .mv (.tmp 0)⟩,
  ⟨some 19, none, .bin .quo .plain (.tmp 18) (.lit (.d (.int .u16 2)))⟩,
  ⟨some 0, none, .mv (.tmp 19)⟩])))
 (.ops [⟨some 8, none, .mv (.tmp 5)⟩,
  ⟨some 9, none, .bin .add .plain (.tmp 8) (.lit (.d (.int .i64 1)))⟩,
  ⟨some 5, none, .mv (.tmp 9)⟩]))))))
 (.seq (.ops [⟨some 4, none, .mv (.lit (.d (.bool false)))⟩])
 .ret)))⟩
theorem isA_r12_Has : isF Try.prog n_r12_Has A_r12_Has := ⟨Try.f15, _, Try.func15, by decide +kernel, rfl, by kernel_rfl, by kernel_rfl, by decide, by kernel_rfl, rfl, by kernel_rfl⟩
/-- bulla/bullalaw16.tells -/
def A_l16_tells : AF := ⟨2, 36, [(.cell 4 true 7), (.tmp 5)],
 (.seq (.ops [⟨some 2, none, .boxi (.tmp 0)⟩,
  ⟨some 4, none, .alloc [(.d (.int .i64 0)), (.d (.int .i64 0)), (.d (.int .i64 0)), (.d (.int .i64 0)), (.d (.int .i64 0)), (.exact []), (.exact [])]⟩,
  ⟨some 5, none, .mv (.lit (.d (.bool false)))⟩])
 (.seq (.ops [⟨some 6, none, .alloc [(.d (.int .i64 0)), (.d (.int .i64 0)), (.d (.int .i64 0)), (.d (.int .i64 0)), (.d (.int .i64 0)), (.exact []), (.exact [])]⟩])
 (.seq (.ops [⟨some 7, none, .mv (.lit (.d (.bool false)))⟩])
 (.seq (.seq (.ops [⟨some 10, none, .faddr 5 (.tmp 2)⟩,
  ⟨some 11, none, .load false 1 (.tmp 10)⟩,
  ⟨some 12, none, .len .sl (.tmp 11)⟩,
  ⟨some 13, none, .mv (.lit (.d (.int .i64 0)))⟩])
 (.block 0 (.loop [7, 13] [9, 14, 15, 16, 17, 18, 19, 20, 21, 22, 23, 24, 25, 26, 27, 28, 29, 30, 31, 32, 33] (.seq (.ops [⟨some 14, none, .bin .lss .plain (.tmp 13) (.tmp 12)⟩])
 (.seq (.cond (.tmp 14) .skip (.exit 0))
 (.seq (.block 1 (.seq (.ops [⟨some 15, none, .iaddr none 7 (.tmp 11) (.tmp 13)⟩,
  ⟨some 16, none, .load true 7 (.tmp 15)⟩,
  ⟨some 9, none, .alloc [(.d (.int .i64 0)), (.d (.int .i64 0)), (.d (.int .i64 0)), (.d (.int .i64 0)), (.d (.int .i64 0)), (.exact []), (.exact [])]⟩,
  ⟨none, none, .store 7 (.tmp 9) (.tmp 16)⟩])
 (.seq (.ops [⟨some 17, none, .faddr 1 (.tmp 9)⟩,
  ⟨some 18, none, .load false 1 (.tmp 17)⟩,
  ⟨some 19, none, .mv (.tmp 1)⟩,
  ⟨some 20, none, .bin .eql .plain (.tmp 18) (.tmp 19)⟩,
  ⟨some 21, none, .mv (.tmp 20)⟩,
  ⟨some 22, some (21, true), .mv (.tmp 7)⟩,
  ⟨some 23, some (21, true), .un .not (.tmp 22)⟩,
  ⟨some 24, some (21, true), .mv (.tmp 23)⟩,
  ⟨some 25, some (24, false), .faddr 0 (.tmp 9)⟩,
  ⟨some 26, some (24, false), .load false 1 (.tmp 25)⟩,
  ⟨some 27, some (24, false), .faddr 0 (.tmp 6)⟩,
  ⟨some 28, some (24, false), .load false 1 (.tmp 27)⟩,
  ⟨some 29, some (24, false), .bin .gtr .plain (.tmp 26) (.tmp 28)⟩,
  ⟨some 30, some (21, true), .pick (.tmp 24) (.lit (.d (.bool true))) (.tmp 29)⟩,
  ⟨some 31, none, .pick (.tmp 21) (.tmp 30) (.lit (.d (.bool false)))⟩])
 (.cond (.tmp 31) (.ops [⟨some 32, none, .load true 7 (.tmp 9)⟩,
  ⟨none, none, .store 7 (.tmp 6) (.tmp 32)⟩,
  ⟨some 7, none, .mv (.lit (.d (.bool true)))⟩]) .skip))))
 (.ops [⟨some 33, none, .bin .add .plain (.tmp 13) (.lit (.d (.int .i64 1)))⟩,
  ⟨some 13, none, .mv (.tmp 33)⟩])))))))
 (.seq (.ops [⟨some 34, none, .load true 7 (.tmp 6)⟩,
  ⟨some 35, none, .mv (.tmp 7)⟩,
  ⟨none, none, .store 7 (.tmp 4) (.tmp 34)⟩,
  ⟨some 5, none, .mv (.tmp 35)⟩])
 .ret)))))⟩
theorem isA_l16_tells : isF Try.prog n_l16_tells A_l16_tells := ⟨Try.f16, _, Try.func16, by decide +kernel, rfl, by kernel_rfl, by kernel_rfl, by decide, by kernel_rfl, rfl, by kernel_rfl⟩
/-- bulla/bullaref12.Small -/
def A_r12_Small : AF := ⟨1, 8, [(.tmp 2)],
 (.seq (.ops [⟨some 2, none, .mv (.lit (.d (.int .i64 0)))⟩])
 (.seq (.seq (.ops [⟨some 3, none, .mv (.tmp 0)⟩,
  ⟨some 4, none, .call 11 [(.tmp 3)]⟩,
  ⟨some 5, none, .bin .neq .plain (.tmp 4) (.lit (.d (.int .i64 0)))⟩])
 (.cond (.tmp 5) (.seq (.ops [⟨some 2, none, .mv (.lit (.d (.int .i64 0)))⟩])
 .ret) .skip))
 (.seq (.ops [⟨some 6, none, .mv (.tmp 0)⟩,
  ⟨some 7, none, .bin .add .plain (.tmp 6) (.lit (.d (.int .i64 1)))⟩,
  ⟨some 2, none, .mv (.tmp 7)⟩])
 .ret)))⟩
theorem isA_r12_Small : isF Try.prog n_r12_Small A_r12_Small := ⟨Try.f17, _, Try.func17, by decide +kernel, rfl, by kernel_rfl, by kernel_rfl, by decide, by kernel_rfl, rfl, by kernel_rfl⟩
/-- bulla/bullaref12.Big -/
def A_r12_Big : AF := ⟨1, 9, [(.tmp 2)],
 (.seq (.ops [⟨some 2, none, .mv (.lit (.d (.int .i64 0)))⟩])
 (.seq (.seq (.ops [⟨some 3, none, .mv (.tmp 0)⟩,
  ⟨some 4, none, .call 11 [(.tmp 3)]⟩,
  ⟨some 5, none, .bin .neq .plain (.tmp 4) (.lit (.d (.int .i64 0)))⟩])
 (.cond (.tmp 5) (.seq (.ops [⟨some 2, none, .mv (.lit (.d (.int .i64 0)))⟩])
 .ret) .skip))
 (.seq (.ops [⟨some 6, none, .mv (.tmp 0)⟩,
  ⟨some 7, none, .bin .mul .plain (.lit (.d (.int .i64 2))) (.tmp 6)⟩,
  ⟨some 8, none, .bin .add .plain (.tmp 7) (.lit (.d (.int .i64 1)))⟩,
  ⟨some 2, none, .mv (.tmp 8)⟩])
 .ret)))⟩
theorem isA_r12_Big : isF Try.prog n_r12_Big A_r12_Big := ⟨Try.f18, _, Try.func18, by decide +kernel, rfl, by kernel_rfl, by kernel_rfl, by decide, by kernel_rfl, rfl, by kernel_rfl⟩
/-- slices.IndexFunc[[]bulla/api.Entry,bulla/api.Entry] -/
def A_slices_IndexFunc_api_Entry_api_Entry : AF := ⟨2, 19, [(.tmp 4)],
 (.seq (.ops [⟨some 4, none, .mv (.lit (.d (.int .i64 0)))⟩])
 (.seq (.seq (.ops [⟨some 6, none, .mv (.tmp 0)⟩,
  ⟨some 7, none, .len .sl (.tmp 6)⟩,
  ⟨some 8, none, .mv (.lit (.d (.int .i64 0)))⟩])
 (.block 0 (.loop [8] [4, 5, 9, 10, 11, 12, 13, 14, 15, 16, 17, 18] (.seq (.ops [⟨some 9, none, .bin .lss .plain (.tmp 8) (.tmp 7)⟩])
 (.seq (.cond (.tmp 9) .skip (.exit 0))
 (.seq (.block 1 (.seq (.ops [⟨some 10, none, .mv (.tmp 8)⟩,
  ⟨some 5, none, .mv (.tmp 10)⟩])
 (.seq (.ops [⟨some 11, none, .mv (.tmp 1)⟩,
  ⟨some 12, none, .mv (.tmp 0)⟩,
  ⟨some 13, none, .mv (.tmp 5)⟩,
  ⟨some 14, none, .iaddr none 5 (.tmp 12) (.tmp 13)⟩,
  ⟨some 15, none, .load true 5 (.tmp 14)⟩,
  ⟨some 16, none, .callv (.tmp 11) [(.tmp 15)]⟩])
 (.cond (.tmp 16) (.seq (.ops [⟨some 17, none, .mv (.tmp 5)⟩,
  ⟨some 4, none, .mv (.tmp 17)⟩])
 .ret) .skip))))
 (.ops [⟨some 18, none, .bin .add .plain (.tmp 8) (.lit (.d (.int .i64 1)))⟩,
  ⟨some 8, none, .mv (.tmp 18)⟩])))))))
 (.seq (.ops [⟨some 4, none, .mv (.lit (.d (.int .i64 (-1))))⟩])
 .ret)))⟩
theorem isA_slices_IndexFunc_api_Entry_api_Entry : isF Try.prog n_slices_IndexFunc_api_Entry_api_Entry A_slices_IndexFunc_api_Entry_api_Entry := ⟨Try.f19, _, Try.func19, by decide +kernel, rfl, by kernel_rfl, by kernel_rfl, by decide, by kernel_rfl, rfl, by kernel_rfl⟩
/-- bulla/bullalaw16.NewviewKeeps$1 -/
def A_l16_NewviewKeeps_1 : AF := ⟨2, 9, [(.tmp 3)],
 (.seq (.ops [⟨some 2, none, .boxi (.tmp 0)⟩,
  ⟨some 3, none, .mv (.lit (.d (.bool false)))⟩])
 (.seq (.ops [⟨some 4, none, .faddr 1 (.tmp 2)⟩,
  ⟨some 5, none, .load false 1 (.tmp 4)⟩,
  ⟨some 6, none, .faddr 1 (.tmp 1)⟩,
  ⟨some 7, none, .load false 1 (.tmp 6)⟩,
  ⟨some 8, none, .bin .eql .plain (.tmp 5) (.tmp 7)⟩,
  ⟨some 3, none, .mv (.tmp 8)⟩])
 .ret))⟩
theorem isA_l16_NewviewKeeps_1 : isF Try.prog n_l16_NewviewKeeps_1 A_l16_NewviewKeeps_1 := ⟨Try.f20, _, Try.func20, by decide +kernel, rfl, by kernel_rfl, by kernel_rfl, by decide, by kernel_rfl, rfl, by kernel_rfl⟩
/-- bulla/newview.may -/
def A_newview_may : AF := ⟨3, 47, [(.tmp 6)],
 (.seq (.ops [⟨some 6, none, .mv (.lit (.d (.int .i64 0)))⟩])
 (.seq (.seq (.ops [⟨some 11, none, .mv (.tmp 0)⟩,
  ⟨some 12, none, .call 27 [(.tmp 11)]⟩,
  ⟨some 7, none, .mv (.tmp 12)⟩])
 (.seq (.ops [⟨some 13, none, .mv (.tmp 7)⟩,
  ⟨some 14, none, .bin .neq .plain (.tmp 13) (.lit (.d (.int .i64 0)))⟩])
 (.cond (.tmp 14) (.seq (.ops [⟨some 15, none, .mv (.tmp 7)⟩,
  ⟨some 6, none, .mv (.tmp 15)⟩])
 .ret) .skip)))
 (.seq (.seq (.ops [⟨some 16, none, .mv (.tmp 1)⟩,
  ⟨some 17, none, .bin .lss .plain (.tmp 16) (.lit (.d (.int .i64 1)))⟩,
  ⟨some 18, none, .mv (.tmp 17)⟩,
  ⟨some 19, some (18, false), .mv (.tmp 1)⟩,
  ⟨some 20, some (18, false), .bin .gtr .plain (.tmp 19) (.lit (.d (.int .i64 9007199254740992)))⟩,
  ⟨some 21, none, .pick (.tmp 18) (.lit (.d (.bool true))) (.tmp 20)⟩])
 (.cond (.tmp 21) (.seq (.ops [⟨some 6, none, .mv (.lit (.d (.int .i64 1)))⟩])
 .ret) .skip))
 (.seq (.ops [⟨some 8, none, .mv (.lit (.d (.int .i64 (-1))))⟩])
 (.seq (.seq (.ops [⟨some 22, none, .mv (.tmp 2)⟩,
  ⟨some 23, none, .len .sl (.tmp 22)⟩,
  ⟨some 24, none, .mv (.lit (.d (.int .i64 0)))⟩])
 (.block 0 (.loop [8, 24] [6, 10, 25, 26, 27, 28, 29, 30, 31, 32, 33, 34, 35, 36, 37, 38, 39, 40, 41] (.seq (.ops [⟨some 25, none, .bin .lss .plain (.tmp 24) (.tmp 23)⟩])
 (.seq (.cond (.tmp 25) .skip (.exit 0))
 (.seq (.block 1 (.seq (.ops [⟨some 26, none, .iaddr none 8 (.tmp 22) (.tmp 24)⟩,
  ⟨some 27, none, .load true 8 (.tmp 26)⟩,
  ⟨some 10, none, .alloc [(.d (.int .i64 0)), (.d (.int .i64 0)), (.d (.int .i64 0)), (.d (.int .i64 0)), (.exact []), (.exact []), (.d (.int .i64 0)), (.d (.int .i64 0))]⟩,
  ⟨none, none, .store 8 (.tmp 10) (.tmp 27)⟩])
 (.seq (.seq (.draw [⟨some 28, none, .faddr 1 (.tmp 10)⟩,
  ⟨some 29, none, .load false 1 (.tmp 28)⟩,
  ⟨some 30, none, .mv (.tmp 8)⟩,
  ⟨some 31, none, .bin .leq .plain (.tmp 29) (.tmp 30)⟩,
  ⟨some 32, none, .mv (.tmp 31)⟩,
  ⟨some 33, some (32, false), .faddr 1 (.tmp 10)⟩,
  ⟨some 34, some (32, false), .load false 1 (.tmp 33)⟩,
  ⟨some 35, some (32, false), .mv (.tmp 0)⟩,
  ⟨some 36, some (32, false), .call 28 [(.tmp 35)]⟩,
  ⟨some 37, some (32, false), .bin .geq .plain (.tmp 34) (.tmp 36)⟩,
  ⟨some 38, none, .pick (.tmp 32) (.lit (.d (.bool true))) (.tmp 37)⟩] [[], [0], [], [1, 2], [3], [4], [5, 4], [4], [7, 4, 4], [6, 8, 4], [4, 9]] [(0, []), (1, []), (2, []), (3, []), (4, []), (5, []), (6, []), (7, []), (8, [33]), (9, []), (10, [])] [0, 1, 0, 7, 15, 31, 63, 31, 159, 511, 1023])
 (.cond (.tmp 38) (.seq (.ops [⟨some 6, none, .mv (.lit (.d (.int .i64 1)))⟩])
 .ret) .skip))
 (.ops [⟨some 39, none, .faddr 1 (.tmp 10)⟩,
  ⟨some 40, none, .load false 1 (.tmp 39)⟩,
  ⟨some 8, none, .mv (.tmp 40)⟩]))))
 (.ops [⟨some 41, none, .bin .add .plain (.tmp 24) (.lit (.d (.int .i64 1)))⟩,
  ⟨some 24, none, .mv (.tmp 41)⟩])))))))
 (.seq (.seq (.ops [⟨some 42, none, .mv (.tmp 2)⟩,
  ⟨some 43, none, .len .sl (.tmp 42)⟩,
  ⟨some 44, none, .mv (.tmp 0)⟩,
  ⟨some 45, none, .call 29 [(.tmp 44)]⟩,
  ⟨some 46, none, .bin .lss .plain (.tmp 43) (.tmp 45)⟩])
 (.cond (.tmp 46) (.seq (.ops [⟨some 6, none, .mv (.lit (.d (.int .i64 160)))⟩])
 .ret) .skip))
 (.seq (.ops [⟨some 6, none, .mv (.lit (.d (.int .i64 0)))⟩])
 .ret)))))))⟩
theorem isA_newview_may : isF Try.prog n_newview_may A_newview_may := ⟨Try.f21, _, Try.func21, by decide +kernel, rfl, by kernel_rfl, by kernel_rfl, by decide, by kernel_rfl, rfl, by kernel_rfl⟩
/-- bulla/request.Clone -/
def A_request_Clone : AF := ⟨1, 24, [(.tmp 2)],
 (.seq (.ops [⟨some 2, none, .mv (.lit (.exact []))⟩])
 (.seq (.ops [⟨some 3, none, .mv (.lit (.exact []))⟩])
 (.seq (.seq (.ops [⟨some 6, none, .mv (.tmp 0)⟩,
  ⟨some 7, none, .len .sl (.tmp 6)⟩,
  ⟨some 8, none, .mv (.lit (.d (.int .i64 0)))⟩])
 (.block 0 (.loop [3, 8] [5, 9, 10, 11, 12, 13, 14, 15, 16, 17, 18, 19, 20, 21, 22] (.seq (.ops [⟨some 9, none, .bin .lss .plain (.tmp 8) (.tmp 7)⟩])
 (.seq (.cond (.tmp 9) .skip (.exit 0))
 (.seq (.block 1 (.seq (.ops [⟨some 10, none, .iaddr none 9 (.tmp 6) (.tmp 8)⟩,
  ⟨some 11, none, .load true 9 (.tmp 10)⟩,
  ⟨some 5, none, .alloc [(.d (.int .i64 0)), (.d (.int .i64 0)), (.d (.int .i64 0)), (.d (.str [])), (.d (.str [])), (.d (.int .i64 0)), (.exact []), (.d (.int .i64 0)), (.d (.int .i64 0))]⟩,
  ⟨none, none, .store 9 (.tmp 5) (.tmp 11)⟩])
 (.seq (.ops [⟨some 12, none, .faddr 0 (.tmp 5)⟩,
  ⟨some 13, none, .faddr 2 (.tmp 12)⟩,
  ⟨some 14, none, .load true 5 (.tmp 13)⟩,
  ⟨some 15, none, .call 30 [(.tmp 14)]⟩,
  ⟨some 16, none, .faddr 0 (.tmp 5)⟩,
  ⟨some 17, none, .faddr 2 (.tmp 16)⟩,
  ⟨none, none, .store 5 (.tmp 17) (.tmp 15)⟩])
 (.ops [⟨some 18, none, .mv (.tmp 3)⟩,
  ⟨some 19, none, .load true 9 (.tmp 5)⟩,
  ⟨some 20, none, .mkslice false 9 1 [(.d (.int .i64 0)), (.d (.int .i64 0)), (.d (.int .i64 0)), (.d (.str [])), (.d (.str [])), (.d (.int .i64 0)), (.exact []), (.d (.int .i64 0)), (.d (.int .i64 0))] [(0, 9, (.tmp 19))]⟩,
  ⟨some 21, none, .append 9 104 [(.d (.int .i64 0)), (.d (.int .i64 0)), (.d (.int .i64 0)), (.d (.str [])), (.d (.str [])), (.d (.int .i64 0)), (.exact []), (.d (.int .i64 0)), (.d (.int .i64 0))] (.tmp 18) (.tmp 20)⟩,
  ⟨some 3, none, .mv (.tmp 21)⟩]))))
 (.ops [⟨some 22, none, .bin .add .plain (.tmp 8) (.lit (.d (.int .i64 1)))⟩,
  ⟨some 8, none, .mv (.tmp 22)⟩])))))))
 (.seq (.ops [⟨some 23, none, .mv (.tmp 3)⟩,
  ⟨some 2, none, .mv (.tmp 23)⟩])
 .ret))))⟩
theorem isA_request_Clone : isF Try.prog n_request_Clone A_request_Clone := ⟨Try.f22, _, Try.func22, by decide +kernel, rfl, by kernel_rfl, by kernel_rfl, by decide, by kernel_rfl, rfl, by kernel_rfl⟩
/-- bulla/bullaref16.latest -/
def A_r16_latest : AF := ⟨2, 52, [(.tmp 4)],
 (.seq (.ops [⟨some 4, none, .mv (.lit (.exact []))⟩])
 (.seq (.ops [⟨some 5, none, .alloc [(.d (.int .i64 0)), (.d (.int .i64 0)), (.d (.int .i64 0)), (.d (.int .i64 0)), (.d (.int .i64 0)), (.exact []), (.exact [])]⟩])
 (.seq (.ops [⟨some 6, none, .mv (.lit (.d (.bool false)))⟩])
 (.seq (.seq (.ops [⟨some 7, none, .mv (.lit (.d (.int .i64 0)))⟩])
 (.block 0 (.loop [6, 7] [8, 9, 10, 11, 12, 13, 14, 15, 16, 17, 18, 19, 20, 21, 22, 23, 24, 25, 26, 27, 28, 29, 30, 31, 32, 33, 34, 35, 36, 37, 38, 39, 40, 41, 42, 43, 44, 45, 46, 47, 48, 49] (.seq (.seq (.ops [⟨some 10, none, .mv (.tmp 7)⟩,
  ⟨some 11, none, .mv (.tmp 0)⟩,
  ⟨some 12, none, .len .sl (.tmp 11)⟩,
  ⟨some 13, none, .bin .lss .plain (.tmp 10) (.tmp 12)⟩])
 (.cond (.tmp 13) .skip (.exit 0)))
 (.seq (.block 1 (.seq (.ops [⟨some 8, none, .mv (.lit (.d (.int .i64 0)))⟩])
 (.block 2 (.loop [6, 8] [9, 16, 17, 18, 19, 20, 21, 22, 23, 24, 25, 26, 27, 28, 29, 30, 31, 32, 33, 34, 35, 36, 37, 38, 39, 40, 41, 42, 43, 44, 45, 46, 47, 48, 49] (.seq (.seq (.ops [⟨some 16, none, .mv (.tmp 8)⟩,
  ⟨some 17, none, .mv (.tmp 0)⟩,
  ⟨some 18, none, .mv (.tmp 7)⟩,
  ⟨some 19, none, .iaddr none 8 (.tmp 17) (.tmp 18)⟩,
  ⟨some 20, none, .faddr 5 (.tmp 19)⟩,
  ⟨some 21, none, .load false 1 (.tmp 20)⟩,
  ⟨some 22, none, .len .sl (.tmp 21)⟩,
  ⟨some 23, none, .bin .lss .plain (.tmp 16) (.tmp 22)⟩])
 (.cond (.tmp 23) .skip (.exit 2)))
 (.seq (.block 3 (.seq (.ops [⟨some 26, none, .mv (.tmp 0)⟩,
  ⟨some 27, none, .mv (.tmp 7)⟩,
  ⟨some 28, none, .iaddr none 8 (.tmp 26) (.tmp 27)⟩,
  ⟨some 29, none, .faddr 5 (.tmp 28)⟩,
  ⟨some 30, none, .load false 1 (.tmp 29)⟩,
  ⟨some 31, none, .mv (.tmp 8)⟩,
  ⟨some 32, none, .iaddr none 7 (.tmp 30) (.tmp 31)⟩,
  ⟨some 33, none, .load true 7 (.tmp 32)⟩,
  ⟨some 9, none, .alloc [(.d (.int .i64 0)), (.d (.int .i64 0)), (.d (.int .i64 0)), (.d (.int .i64 0)), (.d (.int .i64 0)), (.exact []), (.exact [])]⟩,
  ⟨none, none, .store 7 (.tmp 9) (.tmp 33)⟩])
 (.seq (.ops [⟨some 34, none, .faddr 1 (.tmp 9)⟩,
  ⟨some 35, none, .load false 1 (.tmp 34)⟩,
  ⟨some 36, none, .mv (.tmp 1)⟩,
  ⟨some 37, none, .bin .eql .plain (.tmp 35) (.tmp 36)⟩,
  ⟨some 38, none, .mv (.tmp 37)⟩,
  ⟨some 39, some (38, true), .mv (.tmp 6)⟩,
  ⟨some 40, some (38, true), .un .not (.tmp 39)⟩,
  ⟨some 41, some (38, true), .mv (.tmp 40)⟩,
  ⟨some 42, some (41, false), .faddr 0 (.tmp 9)⟩,
  ⟨some 43, some (41, false), .load false 1 (.tmp 42)⟩,
  ⟨some 44, some (41, false), .faddr 0 (.tmp 5)⟩,
  ⟨some 45, some (41, false), .load false 1 (.tmp 44)⟩,
  ⟨some 46, some (41, false), .bin .gtr .plain (.tmp 43) (.tmp 45)⟩,
  ⟨some 47, some (38, true), .pick (.tmp 41) (.lit (.d (.bool true))) (.tmp 46)⟩,
  ⟨some 48, none, .pick (.tmp 38) (.tmp 47) (.lit (.d (.bool false)))⟩])
 (.cond (.tmp 48) (.seq (.ops [⟨some 49, none, .load true 7 (.tmp 9)⟩,
  ⟨none, none, .store 7 (.tmp 5) (.tmp 49)⟩])
 (.ops [⟨some 6, none, .mv (.lit (.d (.bool true)))⟩])) .skip))))
 (.ops [⟨some 24, none, .mv (.tmp 8)⟩,
  ⟨some 25, none, .bin .add .plain (.tmp 24) (.lit (.d (.int .i64 1)))⟩,
  ⟨some 8, none, .mv (.tmp 25)⟩])))))))
 (.ops [⟨some 14, none, .mv (.tmp 7)⟩,
  ⟨some 15, none, .bin .add .plain (.tmp 14) (.lit (.d (.int .i64 1)))⟩,
  ⟨some 7, none, .mv (.tmp 15)⟩]))))))
 (.seq (.ops [⟨some 50, none, .faddr 6 (.tmp 5)⟩,
  ⟨some 51, none, .load false 1 (.tmp 50)⟩,
  ⟨some 4, none, .mv (.tmp 51)⟩])
 .ret)))))⟩
theorem isA_r16_latest : isF Try.prog n_r16_latest A_r16_latest := ⟨Try.f23, _, Try.func23, by decide +kernel, rfl, by kernel_rfl, by kernel_rfl, by decide, by kernel_rfl, rfl, by kernel_rfl⟩
/-- bulla/bullaref10.sameSigns -/
def A_r10_sameSigns : AF := ⟨2, 26, [(.tmp 4)],
 (.seq (.ops [⟨some 4, none, .mv (.lit (.d (.bool false)))⟩])
 (.seq (.seq (.ops [⟨some 6, none, .mv (.tmp 0)⟩,
  ⟨some 7, none, .len .sl (.tmp 6)⟩,
  ⟨some 8, none, .mv (.tmp 1)⟩,
  ⟨some 9, none, .len .sl (.tmp 8)⟩,
  ⟨some 10, none, .bin .neq .plain (.tmp 7) (.tmp 9)⟩])
 (.cond (.tmp 10) (.seq (.ops [⟨some 4, none, .mv (.lit (.d (.bool false)))⟩])
 .ret) .skip))
 (.seq (.seq (.ops [⟨some 5, none, .mv (.lit (.d (.int .i64 0)))⟩])
 (.block 0 (.loop [5] [4, 11, 12, 13, 14, 15, 16, 17, 18, 19, 20, 21, 22, 23, 24, 25] (.seq (.seq (.ops [⟨some 11, none, .mv (.tmp 5)⟩,
  ⟨some 12, none, .mv (.tmp 0)⟩,
  ⟨some 13, none, .len .sl (.tmp 12)⟩,
  ⟨some 14, none, .bin .lss .plain (.tmp 11) (.tmp 13)⟩])
 (.cond (.tmp 14) .skip (.exit 0)))
 (.seq (.block 1 (.seq (.draw [⟨some 17, none, .mv (.tmp 0)⟩,
  ⟨some 18, none, .mv (.tmp 5)⟩,
  ⟨some 19, none, .iaddr none 2 (.tmp 17) (.tmp 18)⟩,
  ⟨some 20, none, .load true 2 (.tmp 19)⟩,
  ⟨some 21, none, .mv (.tmp 1)⟩,
  ⟨some 22, none, .mv (.tmp 5)⟩,
  ⟨some 23, none, .iaddr none 2 (.tmp 21) (.tmp 22)⟩,
  ⟨some 24, none, .load true 2 (.tmp 23)⟩,
  ⟨some 25, none, .bin .neq (.ints 2) (.tmp 20) (.tmp 24)⟩] [[], [], [0, 1], [2], [], [], [4, 5], [6], [3, 7]] [(0, []), (1, []), (2, []), (3, []), (4, []), (5, []), (6, []), (7, []), (8, [])] [0, 0, 3, 7, 0, 0, 48, 112, 255])
 (.cond (.tmp 25) (.seq (.ops [⟨some 4, none, .mv (.lit (.d (.bool false)))⟩])
 .ret) .skip)))
 (.ops [⟨some 15, none, .mv (.tmp 5)⟩,
  ⟨some 16, none, .bin .add .plain (.tmp 15) (.lit (.d (.int .i64 1)))⟩,
  ⟨some 5, none, .mv (.tmp 16)⟩]))))))
 (.seq (.ops [⟨some 4, none, .mv (.lit (.d (.bool true)))⟩])
 .ret))))⟩
theorem isA_r10_sameSigns : isF Try.prog n_r10_sameSigns A_r10_sameSigns := ⟨Try.f24, _, Try.func24, by decide +kernel, rfl, by kernel_rfl, by kernel_rfl, by decide, by kernel_rfl, rfl, by kernel_rfl⟩
/-- bulla/bullaref12.List -/
def A_r12_List : AF := ⟨1, 17, [(.tmp 2)],
 (.seq (.ops [⟨some 2, none, .mv (.lit (.exact []))⟩])
 (.seq (.ops [⟨some 3, none, .mv (.lit (.exact []))⟩])
 (.seq (.seq (.ops [⟨some 4, none, .mv (.lit (.d (.int .i64 0)))⟩])
 (.block 0 (.loop [3, 4] [5, 6, 7, 8, 9, 10, 11, 12, 13, 14, 15] (.seq (.seq (.ops [⟨some 5, none, .mv (.tmp 4)⟩,
  ⟨some 6, none, .bin .lss .plain (.tmp 5) (.lit (.d (.int .i64 13)))⟩])
 (.cond (.tmp 6) .skip (.exit 0)))
 (.seq (.block 1 (.seq (.ops [⟨some 9, none, .mv (.tmp 0)⟩,
  ⟨some 10, none, .mv (.tmp 4)⟩,
  ⟨some 11, none, .call 15 [(.tmp 9), (.tmp 10)]⟩])
 (.cond (.tmp 11) (.ops [⟨some 12, none, .mv (.tmp 3)⟩,
  ⟨some 13, none, .mv (.tmp 4)⟩,
  ⟨some 14, none, .mkslice false 1 1 [(.d (.int .i64 0))] [(0, 1, (.tmp 13))]⟩,
  ⟨some 15, none, .append 1 8 [(.d (.int .i64 0))] (.tmp 12) (.tmp 14)⟩,
  ⟨some 3, none, .mv (.tmp 15)⟩]) .skip)))
 (.ops [⟨some 7, none, .mv (.tmp 4)⟩,
  ⟨some 8, none, .bin .add .plain (.tmp 7) (.lit (.d (.int .i64 1)))⟩,
  ⟨some 4, none, .mv (.tmp 8)⟩]))))))
 (.seq (.ops [⟨some 16, none, .mv (.tmp 3)⟩,
  ⟨some 2, none, .mv (.tmp 16)⟩])
 .ret))))⟩
theorem isA_r12_List : isF Try.prog n_r12_List A_r12_List := ⟨Try.f25, _, Try.func25, by decide +kernel, rfl, by kernel_rfl, by kernel_rfl, by decide, by kernel_rfl, rfl, by kernel_rfl⟩
/-- bulla/bullaref08.SameRequest -/
def A_r08_SameRequest : AF := ⟨2, 24, [(.tmp 4)],
 (.seq (.ops [⟨some 2, none, .boxi (.tmp 0)⟩,
  ⟨some 3, none, .boxi (.tmp 1)⟩,
  ⟨some 4, none, .mv (.lit (.d (.bool false)))⟩])
 (.seq (.ops [⟨some 5, none, .faddr 0 (.tmp 2)⟩,
  ⟨some 6, none, .load false 1 (.tmp 5)⟩,
  ⟨some 7, none, .faddr 0 (.tmp 3)⟩,
  ⟨some 8, none, .load false 1 (.tmp 7)⟩,
  ⟨some 9, none, .bin .eql .plain (.tmp 6) (.tmp 8)⟩,
  ⟨some 10, none, .mv (.tmp 9)⟩,
  ⟨some 11, some (10, true), .faddr 1 (.tmp 2)⟩,
  ⟨some 12, some (10, true), .load false 1 (.tmp 11)⟩,
  ⟨some 13, some (10, true), .faddr 1 (.tmp 3)⟩,
  ⟨some 14, some (10, true), .load false 1 (.tmp 13)⟩,
  ⟨some 15, some (10, true), .bin .eql .plain (.tmp 12) (.tmp 14)⟩,
  ⟨some 16, none, .pick (.tmp 10) (.tmp 15) (.lit (.d (.bool false)))⟩,
  ⟨some 17, none, .mv (.tmp 16)⟩,
  ⟨some 18, some (17, true), .faddr 2 (.tmp 2)⟩,
  ⟨some 19, some (17, true), .load true 5 (.tmp 18)⟩,
  ⟨some 20, some (17, true), .faddr 2 (.tmp 3)⟩,
  ⟨some 21, some (17, true), .load true 5 (.tmp 20)⟩,
  ⟨some 22, some (17, true), .call 31 [(.tmp 19), (.tmp 21)]⟩,
  ⟨some 23, none, .pick (.tmp 17) (.tmp 22) (.lit (.d (.bool false)))⟩,
  ⟨some 4, none, .mv (.tmp 23)⟩])
 .ret))⟩
theorem isA_r08_SameRequest : isF Try.prog n_r08_SameRequest A_r08_SameRequest := ⟨Try.f26, _, Try.func26, by decide +kernel, rfl, by kernel_rfl, by kernel_rfl, by decide, by kernel_rfl, rfl, by kernel_rfl⟩
/-- bulla/quorum.Check -/
def A_quorum_Check : AF := ⟨1, 9, [(.tmp 2)],
 (.seq (.ops [⟨some 2, none, .mv (.lit (.d (.int .i64 0)))⟩])
 (.seq (.seq (.ops [⟨some 3, none, .mv (.tmp 0)⟩,
  ⟨some 4, none, .bin .lss .plain (.tmp 3) (.lit (.d (.int .i64 1)))⟩,
  ⟨some 5, none, .mv (.tmp 4)⟩,
  ⟨some 6, some (5, false), .mv (.tmp 0)⟩,
  ⟨some 7, some (5, false), .bin .gtr .plain (.tmp 6) (.lit (.d (.int .i64 4)))⟩,
  ⟨some 8, none, .pick (.tmp 5) (.lit (.d (.bool true))) (.tmp 7)⟩])
 (.cond (.tmp 8) (.seq (.ops [⟨some 2, none, .mv (.lit (.d (.int .i64 120)))⟩])
 .ret) .skip))
 (.seq (.ops [⟨some 2, none, .mv (.lit (.d (.int .i64 0)))⟩])
 .ret)))⟩
theorem isA_quorum_Check : isF Try.prog n_quorum_Check A_quorum_Check := ⟨Try.f27, _, Try.func27, by decide +kernel, rfl, by kernel_rfl, by kernel_rfl, by decide, by kernel_rfl, rfl, by kernel_rfl⟩
/-- bulla/quorum.Brokers -/
def A_quorum_Brokers : AF := ⟨1, 5, [(.tmp 2)],
 (.seq (.ops [⟨some 2, none, .mv (.lit (.d (.int .i64 0)))⟩])
 (.seq (.ops [⟨some 3, none, .mv (.tmp 0)⟩,
  ⟨some 4, none, .call 32 [(.lit (.d (.int .i64 3))), (.tmp 3)]⟩,
  ⟨some 2, none, .mv (.tmp 4)⟩])
 .ret))⟩
theorem isA_quorum_Brokers : isF Try.prog n_quorum_Brokers A_quorum_Brokers := ⟨Try.f28, _, Try.func28, by decide +kernel, rfl, by kernel_rfl, by kernel_rfl, by decide, by kernel_rfl, rfl, by kernel_rfl⟩
/-- bulla/quorum.Big -/
def A_quorum_Big : AF := ⟨1, 5, [(.tmp 2)],
 (.seq (.ops [⟨some 2, none, .mv (.lit (.d (.int .i64 0)))⟩])
 (.seq (.ops [⟨some 3, none, .mv (.tmp 0)⟩,
  ⟨some 4, none, .call 32 [(.lit (.d (.int .i64 2))), (.tmp 3)]⟩,
  ⟨some 2, none, .mv (.tmp 4)⟩])
 .ret))⟩
theorem isA_quorum_Big : isF Try.prog n_quorum_Big A_quorum_Big := ⟨Try.f29, _, Try.func29, by decide +kernel, rfl, by kernel_rfl, by kernel_rfl, by decide, by kernel_rfl, rfl, by kernel_rfl⟩
/-- bulla/op.Clone -/
def A_op_Clone : AF := ⟨1, 22, [(.cell 2 true 5)],
 (.seq (.ops [⟨some 1, none, .boxi (.tmp 0)⟩,
  ⟨some 2, none, .alloc [(.d (.int .i64 0)), (.d (.str [])), (.d (.str [])), (.d (.int .i64 0)), (.exact [])]⟩])
 (.seq (.ops [⟨some 3, none, .mv (.lit (.exact []))⟩])
 (.seq (.seq (.ops [⟨some 6, none, .faddr 4 (.tmp 1)⟩,
  ⟨some 7, none, .load false 1 (.tmp 6)⟩,
  ⟨some 8, none, .len .sl (.tmp 7)⟩,
  ⟨some 9, none, .mv (.lit (.d (.int .i64 0)))⟩])
 (.block 0 (.loop [3, 9] [5, 10, 11, 12, 13, 14, 15, 16, 17, 18] (.seq (.ops [⟨some 10, none, .bin .lss .plain (.tmp 9) (.tmp 8)⟩])
 (.seq (.cond (.tmp 10) .skip (.exit 0))
 (.seq (.block 1 (.seq (.ops [⟨some 11, none, .iaddr none 1 (.tmp 7) (.tmp 9)⟩,
  ⟨some 12, none, .load false 1 (.tmp 11)⟩,
  ⟨some 5, none, .mv (.tmp 12)⟩])
 (.ops [⟨some 13, none, .mv (.tmp 3)⟩,
  ⟨some 14, none, .mv (.tmp 5)⟩,
  ⟨some 15, none, .call 33 [(.tmp 14)]⟩,
  ⟨some 16, none, .mkslice false 1 1 [(.exact [])] [(0, 1, (.tmp 15))]⟩,
  ⟨some 17, none, .append 1 24 [(.exact [])] (.tmp 13) (.tmp 16)⟩,
  ⟨some 3, none, .mv (.tmp 17)⟩])))
 (.ops [⟨some 18, none, .bin .add .plain (.tmp 9) (.lit (.d (.int .i64 1)))⟩,
  ⟨some 9, none, .mv (.tmp 18)⟩])))))))
 (.seq (.ops [⟨some 19, none, .mv (.tmp 3)⟩,
  ⟨some 20, none, .faddr 4 (.tmp 1)⟩,
  ⟨none, none, .store 1 (.tmp 20) (.tmp 19)⟩])
 (.seq (.ops [⟨some 21, none, .load true 5 (.tmp 1)⟩,
  ⟨none, none, .store 5 (.tmp 2) (.tmp 21)⟩])
 .ret)))))⟩
theorem isA_op_Clone : isF Try.prog n_op_Clone A_op_Clone := ⟨Try.f30, _, Try.func30, by decide +kernel, rfl, by kernel_rfl, by kernel_rfl, by decide, by kernel_rfl, rfl, by kernel_rfl⟩
/-- bulla/bullaref06.Same -/
def A_r06_Same : AF := ⟨2, 61, [(.tmp 4)],
 (.seq (.ops [⟨some 2, none, .boxi (.tmp 0)⟩,
  ⟨some 3, none, .boxi (.tmp 1)⟩,
  ⟨some 4, none, .mv (.lit (.d (.bool false)))⟩])
 (.seq (.seq (.ops [⟨some 6, none, .faddr 0 (.tmp 2)⟩,
  ⟨some 7, none, .load false 1 (.tmp 6)⟩,
  ⟨some 8, none, .faddr 0 (.tmp 3)⟩,
  ⟨some 9, none, .load false 1 (.tmp 8)⟩,
  ⟨some 10, none, .bin .neq .plain (.tmp 7) (.tmp 9)⟩,
  ⟨some 11, none, .mv (.tmp 10)⟩,
  ⟨some 12, some (11, false), .faddr 1 (.tmp 2)⟩,
  ⟨some 13, some (11, false), .load false 1 (.tmp 12)⟩,
  ⟨some 14, some (11, false), .faddr 1 (.tmp 3)⟩,
  ⟨some 15, some (11, false), .load false 1 (.tmp 14)⟩,
  ⟨some 16, some (11, false), .bin .neq .plain (.tmp 13) (.tmp 15)⟩,
  ⟨some 17, none, .pick (.tmp 11) (.lit (.d (.bool true))) (.tmp 16)⟩,
  ⟨some 18, none, .mv (.tmp 17)⟩,
  ⟨some 19, some (18, false), .faddr 2 (.tmp 2)⟩,
  ⟨some 20, some (18, false), .load false 1 (.tmp 19)⟩,
  ⟨some 21, some (18, false), .faddr 2 (.tmp 3)⟩,
  ⟨some 22, some (18, false), .load false 1 (.tmp 21)⟩,
  ⟨some 23, some (18, false), .bin .neq .plain (.tmp 20) (.tmp 22)⟩,
  ⟨some 24, none, .pick (.tmp 18) (.lit (.d (.bool true))) (.tmp 23)⟩,
  ⟨some 25, none, .mv (.tmp 24)⟩,
  ⟨some 26, some (25, false), .faddr 3 (.tmp 2)⟩,
  ⟨some 27, some (25, false), .load false 1 (.tmp 26)⟩,
  ⟨some 28, some (25, false), .faddr 3 (.tmp 3)⟩,
  ⟨some 29, some (25, false), .load false 1 (.tmp 28)⟩,
  ⟨some 30, some (25, false), .bin .neq .plain (.tmp 27) (.tmp 29)⟩,
  ⟨some 31, none, .pick (.tmp 25) (.lit (.d (.bool true))) (.tmp 30)⟩,
  ⟨some 32, none, .mv (.tmp 31)⟩,
  ⟨some 33, some (32, false), .faddr 4 (.tmp 2)⟩,
  ⟨some 34, some (32, false), .load false 1 (.tmp 33)⟩,
  ⟨some 35, some (32, false), .len .sl (.tmp 34)⟩,
  ⟨some 36, some (32, false), .faddr 4 (.tmp 3)⟩,
  ⟨some 37, some (32, false), .load false 1 (.tmp 36)⟩,
  ⟨some 38, some (32, false), .len .sl (.tmp 37)⟩,
  ⟨some 39, some (32, false), .bin .neq .plain (.tmp 35) (.tmp 38)⟩,
  ⟨some 40, none, .pick (.tmp 32) (.lit (.d (.bool true))) (.tmp 39)⟩])
 (.cond (.tmp 40) (.seq (.ops [⟨some 4, none, .mv (.lit (.d (.bool false)))⟩])
 .ret) .skip))
 (.seq (.seq (.ops [⟨some 5, none, .mv (.lit (.d (.int .i64 0)))⟩])
 (.block 0 (.loop [5] [4, 41, 42, 43, 44, 45, 46, 47, 48, 49, 50, 51, 52, 53, 54, 55, 56, 57, 58, 59, 60] (.seq (.seq (.ops [⟨some 41, none, .mv (.tmp 5)⟩,
  ⟨some 42, none, .faddr 4 (.tmp 2)⟩,
  ⟨some 43, none, .load false 1 (.tmp 42)⟩,
  ⟨some 44, none, .len .sl (.tmp 43)⟩,
  ⟨some 45, none, .bin .lss .plain (.tmp 41) (.tmp 44)⟩])
 (.cond (.tmp 45) .skip (.exit 0)))
 (.seq (.block 1 (.seq (.draw [⟨some 48, none, .faddr 4 (.tmp 2)⟩,
  ⟨some 49, none, .load false 1 (.tmp 48)⟩,
  ⟨some 50, none, .mv (.tmp 5)⟩,
  ⟨some 51, none, .iaddr none 1 (.tmp 49) (.tmp 50)⟩,
  ⟨some 52, none, .load false 1 (.tmp 51)⟩,
  ⟨some 53, none, .conv .toStr (.tmp 52)⟩,
  ⟨some 54, none, .faddr 4 (.tmp 3)⟩,
  ⟨some 55, none, .load false 1 (.tmp 54)⟩,
  ⟨some 56, none, .mv (.tmp 5)⟩,
  ⟨some 57, none, .iaddr none 1 (.tmp 55) (.tmp 56)⟩,
  ⟨some 58, none, .load false 1 (.tmp 57)⟩,
  ⟨some 59, none, .conv .toStr (.tmp 58)⟩,
  ⟨some 60, none, .bin .neq .plain (.tmp 53) (.tmp 59)⟩] [[], [0], [], [1, 2], [3], [4], [], [6], [], [7, 8], [9], [10], [5, 11]] [(0, []), (1, []), (2, []), (3, []), (4, []), (5, []), (6, []), (7, []), (8, []), (9, []), (10, []), (11, []), (12, [])] [0, 1, 0, 7, 15, 31, 0, 64, 0, 448, 960, 1984, 4095])
 (.cond (.tmp 60) (.seq (.ops [⟨some 4, none, .mv (.lit (.d (.bool false)))⟩])
 .ret) .skip)))
 (.ops [⟨some 46, none, .mv (.tmp 5)⟩,
  ⟨some 47, none, .bin .add .plain (.tmp 46) (.lit (.d (.int .i64 1)))⟩,
  ⟨some 5, none, .mv (.tmp 47)⟩]))))))
 (.seq (.ops [⟨some 4, none, .mv (.lit (.d (.bool true)))⟩])
 .ret))))⟩
theorem isA_r06_Same : isF Try.prog n_r06_Same A_r06_Same := ⟨Try.f31, _, Try.func31, by decide +kernel, rfl, by kernel_rfl, by kernel_rfl, by decide, by kernel_rfl, rfl, by kernel_rfl⟩
/-- bulla/quorum.times -/
def A_quorum_times : AF := ⟨2, 12, [(.tmp 4)],
 (.seq (.ops [⟨some 4, none, .mv (.lit (.d (.int .i64 0)))⟩])
 (.seq (.seq (.ops [⟨some 5, none, .mv (.tmp 1)⟩,
  ⟨some 6, none, .call 27 [(.tmp 5)]⟩,
  ⟨some 7, none, .bin .neq .plain (.tmp 6) (.lit (.d (.int .i64 0)))⟩])
 (.cond (.tmp 7) (.seq (.ops [⟨some 4, none, .mv (.lit (.d (.int .i64 0)))⟩])
 .ret) .skip))
 (.seq (.ops [⟨some 8, none, .mv (.tmp 0)⟩,
  ⟨some 9, none, .mv (.tmp 1)⟩,
  ⟨some 10, none, .bin .mul .plain (.tmp 8) (.tmp 9)⟩,
  ⟨some 11, none, .bin .add .plain (.tmp 10) (.lit (.d (.int .i64 1)))⟩,
  ⟨some 4, none, .mv (.tmp 11)⟩])
 .ret)))⟩
theorem isA_quorum_times : isF Try.prog n_quorum_times A_quorum_times := ⟨Try.f32, _, Try.func32, by decide +kernel, rfl, by kernel_rfl, by kernel_rfl, by decide, by kernel_rfl, rfl, by kernel_rfl⟩
/-- bytes.Clone -/
def A_bytes_Clone : AF := ⟨1, 8, [(.tmp 2)],
 (.seq (.ops [⟨some 2, none, .mv (.lit (.exact []))⟩])
 (.seq (.seq (.ops [⟨some 3, none, .mv (.tmp 0)⟩,
  ⟨some 4, none, .isnil false (.tmp 3)⟩])
 (.cond (.tmp 4) (.seq (.ops [⟨some 2, none, .mv (.lit (.exact []))⟩])
 .ret) .skip))
 (.seq (.ops [⟨some 5, none, .mkslice false 1 0 [(.d (.int .u8 0))] []⟩,
  ⟨some 6, none, .mv (.tmp 0)⟩,
  ⟨some 7, none, .append 1 1 [(.d (.int .u8 0))] (.tmp 5) (.tmp 6)⟩,
  ⟨some 2, none, .mv (.tmp 7)⟩])
 .ret)))⟩
theorem isA_bytes_Clone : isF Try.prog n_bytes_Clone A_bytes_Clone := ⟨Try.f33, _, Try.func33, by decide +kernel, rfl, by kernel_rfl, by kernel_rfl, by decide, by kernel_rfl, rfl, by kernel_rfl⟩
end Go.Proofs.Ytndpnfbcnmebjaa

/- Resolved forms, each with the theorem that it is its function's. Printed by program. -/
import Derived.Test.YtfnnejokhikefaaNm
import Derived.KernelRfl
set_option linter.all false
set_option maxRecDepth 100000
set_option linter.unusedVariables false
namespace Go.Proofs.Ytfnnejokhikefaa
open Go.AW
/-- bulla/op.Same$1 -/
def A_op_Same_1 : AF := ⟨2, 8, [(.tmp 4)],
 (.seq (.ops [⟨some 4, none, .mv (.lit (.d (.bool false)))⟩])
 (.seq (.ops [⟨some 5, none, .mv (.tmp 0)⟩,
  ⟨some 6, none, .mv (.tmp 1)⟩,
  ⟨some 7, none, .call false 63 [(.tmp 5), (.tmp 6)]⟩,
  ⟨some 4, none, .mv (.tmp 7)⟩])
 .ret))⟩
theorem isA_op_Same_1 : isF Try.prog n_op_Same_1 A_op_Same_1 := ⟨Try.f62, _, Try.func62, by decide +kernel, rfl, by kernel_rfl, by kernel_rfl, by decide, by kernel_rfl, rfl, by kernel_rfl⟩
/-- bytes.Equal -/
def A_bytes_Equal : AF := ⟨2, 10, [(.tmp 4)],
 (.seq (.ops [⟨some 4, none, .mv (.lit (.d (.bool false)))⟩])
 (.seq (.ops [⟨some 5, none, .mv (.tmp 0)⟩,
  ⟨some 6, none, .conv .toStr (.tmp 5)⟩,
  ⟨some 7, none, .mv (.tmp 1)⟩,
  ⟨some 8, none, .conv .toStr (.tmp 7)⟩,
  ⟨some 9, none, .bin .eql .plain (.tmp 6) (.tmp 8)⟩,
  ⟨some 4, none, .mv (.tmp 9)⟩])
 .ret))⟩
theorem isA_bytes_Equal : isF Try.prog n_bytes_Equal A_bytes_Equal := ⟨Try.f63, _, Try.func63, by decide +kernel, rfl, by kernel_rfl, by kernel_rfl, by decide, by kernel_rfl, rfl, by kernel_rfl⟩
/-- bulla/op.Runes -/
def A_op_Runes : AF := ⟨1, 34, [(.tmp 2)],
 (.seq (.ops [⟨some 2, none, .mv (.lit (.d (.int .i64 0)))⟩])
 (.seq (.ops [⟨some 3, none, .mv (.lit (.d (.int .i64 0)))⟩])
 (.seq (.seq (.ops [⟨some 6, none, .mv (.tmp 0)⟩,
  ⟨some 7, none, .rangeS (.tmp 6)⟩])
 (.block 0 (.loop [3] [2, 5, 8, 9, 10, 11, 12, 13, 14, 15, 16, 17, 18, 19, 20, 21, 22, 23, 24, 25, 26, 27, 28, 29, 30] (.seq (.ops [⟨some 8, none, .nextS (.tmp 7)⟩,
  ⟨some 9, none, .extract (.tmp 8) 0⟩])
 (.seq (.cond (.tmp 9) .skip (.exit 0))
 (.block 1 (.seq (.ops [⟨some 10, none, .extract (.tmp 8) 2⟩,
  ⟨some 5, none, .mv (.tmp 10)⟩])
 (.seq (.seq (.ops [⟨some 11, none, .mv (.tmp 5)⟩,
  ⟨some 12, none, .bin .lss .plain (.tmp 11) (.lit (.d (.int .i32 33)))⟩,
  ⟨some 13, none, .mv (.tmp 12)⟩,
  ⟨some 14, some (13, false), .mv (.tmp 5)⟩,
  ⟨some 15, some (13, false), .bin .geq .plain (.tmp 14) (.lit (.d (.int .i32 127)))⟩,
  ⟨some 16, some (13, false), .mv (.tmp 15)⟩,
  ⟨some 17, some (16, true), .mv (.tmp 5)⟩,
  ⟨some 18, some (16, true), .bin .leq .plain (.tmp 17) (.lit (.d (.int .i32 159)))⟩,
  ⟨some 19, some (13, false), .pick (.tmp 16) (.tmp 18) (.lit (.d (.bool false)))⟩,
  ⟨some 20, none, .pick (.tmp 13) (.lit (.d (.bool true))) (.tmp 19)⟩,
  ⟨some 21, none, .mv (.tmp 20)⟩,
  ⟨some 22, some (21, false), .mv (.tmp 5)⟩,
  ⟨some 23, some (21, false), .bin .eql .plain (.tmp 22) (.lit (.d (.int .i32 47)))⟩,
  ⟨some 24, none, .pick (.tmp 21) (.lit (.d (.bool true))) (.tmp 23)⟩,
  ⟨some 25, none, .mv (.tmp 24)⟩,
  ⟨some 26, some (25, false), .mv (.tmp 5)⟩,
  ⟨some 27, some (25, false), .bin .eql .plain (.tmp 26) (.lit (.d (.int .i32 65533)))⟩,
  ⟨some 28, none, .pick (.tmp 25) (.lit (.d (.bool true))) (.tmp 27)⟩])
 (.cond (.tmp 28) (.seq (.ops [⟨some 2, none, .mv (.lit (.d (.int .i64 0)))⟩])
 .ret) .skip))
 (.ops [⟨some 29, none, .mv (.tmp 3)⟩,
  ⟨some 30, none, .bin .add .plain (.tmp 29) (.lit (.d (.int .i64 1)))⟩,
  ⟨some 3, none, .mv (.tmp 30)⟩])))))))))
 (.seq (.seq (.ops [⟨some 31, none, .mv (.tmp 3)⟩,
  ⟨some 32, none, .bin .gtr .plain (.tmp 31) (.lit (.d (.int .i64 16)))⟩])
 (.cond (.tmp 32) (.seq (.ops [⟨some 2, none, .mv (.lit (.d (.int .i64 0)))⟩])
 .ret) .skip))
 (.seq (.ops [⟨some 33, none, .mv (.tmp 3)⟩,
  ⟨some 2, none, .mv (.tmp 33)⟩])
 .ret)))))⟩
theorem isA_op_Runes : isF Try.prog n_op_Runes A_op_Runes := ⟨Try.f64, _, Try.func64, by decide +kernel, rfl, by kernel_rfl, by kernel_rfl, by decide, by kernel_rfl, rfl, by kernel_rfl⟩
/-- slices.IndexFunc[[]bulla/api.Record,bulla/api.Record] -/
def A_slices_IndexFunc_api_Record_api_Record : AF := ⟨2, 19, [(.tmp 4)],
 (.seq (.ops [⟨some 4, none, .mv (.lit (.d (.int .i64 0)))⟩])
 (.seq (.seq (.ops [⟨some 6, none, .mv (.tmp 0)⟩,
  ⟨some 7, none, .len .sl (.tmp 6)⟩,
  ⟨some 8, none, .mv (.lit (.d (.int .i64 0)))⟩])
 (.block 0 (.loop [8] [4, 5, 9, 10, 11, 12, 13, 14, 15, 16, 17, 18] (.seq (.ops [⟨some 9, none, .bin .lss .plain (.tmp 8) (.tmp 7)⟩])
 (.seq (.cond (.tmp 9) .skip (.exit 0))
 (.seq (.block 1 (.seq (.ops [⟨some 10, none, .mv (.tmp 8)⟩,
  ⟨some 5, none, .mv (.tmp 10)⟩])
 (.seq (.ops [⟨some 11, none, .mv (.tmp 1)⟩,
  ⟨some 12, none, .mv (.tmp 0)⟩,
  ⟨some 13, none, .mv (.tmp 5)⟩,
  ⟨some 14, none, .iaddr none 1 (.tmp 12) (.tmp 13)⟩,
  ⟨some 15, none, .load false 1 (.tmp 14)⟩,
  ⟨some 16, none, .callv (.tmp 11) [(.tmp 15)]⟩])
 (.cond (.tmp 16) (.seq (.ops [⟨some 17, none, .mv (.tmp 5)⟩,
  ⟨some 4, none, .mv (.tmp 17)⟩])
 .ret) .skip))))
 (.ops [⟨some 18, none, .bin .add .plain (.tmp 8) (.lit (.d (.int .i64 1)))⟩,
  ⟨some 8, none, .mv (.tmp 18)⟩])))))))
 (.seq (.ops [⟨some 4, none, .mv (.lit (.d (.int .i64 (-1))))⟩])
 .ret)))⟩
theorem isA_slices_IndexFunc_api_Record_api_Record : isF Try.prog n_slices_IndexFunc_api_Record_api_Record A_slices_IndexFunc_api_Record_api_Record := ⟨Try.f65, _, Try.func65, by decide +kernel, rfl, by kernel_rfl, by kernel_rfl, by decide, by kernel_rfl, rfl, by kernel_rfl⟩
/-- bulla/bullaref06.rune1 -/
def A_r06_rune1 : AF := ⟨1, 76, [(.tmp 2), (.tmp 3)],
 (.seq (.ops [⟨some 2, none, .mv (.lit (.d (.int .i64 0)))⟩,
  ⟨some 3, none, .mv (.lit (.d (.int .i64 0)))⟩])
 (.seq (.ops [⟨some 8, none, .mv (.tmp 0)⟩,
  ⟨some 9, none, .idxS (.tmp 8) (.lit (.d (.int .i64 0)))⟩,
  ⟨some 10, none, .call false 67 [(.tmp 9)]⟩,
  ⟨some 4, none, .mv (.tmp 10)⟩])
 (.seq (.seq (.ops [⟨some 11, none, .mv (.tmp 4)⟩,
  ⟨some 12, none, .bin .eql .plain (.tmp 11) (.lit (.d (.int .i64 0)))⟩,
  ⟨some 13, none, .mv (.tmp 12)⟩,
  ⟨some 14, some (13, false), .mv (.tmp 4)⟩,
  ⟨some 15, some (13, false), .mv (.tmp 0)⟩,
  ⟨some 16, some (13, false), .len .str (.tmp 15)⟩,
  ⟨some 17, some (13, false), .bin .gtr .plain (.tmp 14) (.tmp 16)⟩,
  ⟨some 18, none, .pick (.tmp 13) (.lit (.d (.bool true))) (.tmp 17)⟩])
 (.cond (.tmp 18) (.seq (.ops [⟨some 2, none, .mv (.lit (.d (.int .i64 0)))⟩,
  ⟨some 3, none, .mv (.lit (.d (.int .i64 0)))⟩])
 .ret) .skip))
 (.seq (.seq (.ops [⟨some 19, none, .mv (.tmp 4)⟩,
  ⟨some 20, none, .bin .eql .plain (.tmp 19) (.lit (.d (.int .i64 1)))⟩])
 (.cond (.tmp 20) (.seq (.ops [⟨some 21, none, .mv (.tmp 0)⟩,
  ⟨some 22, none, .idxS (.tmp 21) (.lit (.d (.int .i64 0)))⟩,
  ⟨some 23, none, .conv (.int .i64) (.tmp 22)⟩,
  ⟨some 2, none, .mv (.tmp 23)⟩,
  ⟨some 3, none, .mv (.lit (.d (.int .i64 1)))⟩])
 .ret) .skip))
 (.seq (.draw [⟨some 24, none, .mv (.tmp 0)⟩,
  ⟨some 25, none, .idxS (.tmp 24) (.lit (.d (.int .i64 0)))⟩,
  ⟨some 26, none, .conv (.int .i64) (.tmp 25)⟩,
  ⟨some 27, none, .mv (.tmp 4)⟩,
  ⟨some 28, none, .bin .sub .plain (.lit (.d (.int .i64 7))) (.tmp 27)⟩,
  ⟨some 29, none, .bin .shl .plain (.lit (.d (.int .i64 1))) (.tmp 28)⟩,
  ⟨some 30, none, .bin .sub .plain (.tmp 29) (.lit (.d (.int .i64 1)))⟩,
  ⟨some 31, none, .bin .and .plain (.tmp 26) (.tmp 30)⟩,
  ⟨some 5, none, .mv (.tmp 31)⟩] [[], [0], [1], [], [3], [4], [5], [2, 6], [7, 0, 1, 2, 3, 4, 5, 6, 7]] [(0, []), (1, []), (2, []), (3, []), (4, []), (5, []), (6, []), (7, []), (8, [])] [0, 1, 3, 0, 8, 24, 56, 127, 255])
 (.seq (.seq (.ops [⟨some 6, none, .mv (.lit (.d (.int .i64 1)))⟩])
 (.block 0 (.loop [5, 6] [2, 3, 32, 33, 34, 35, 36, 37, 38, 39, 40, 41, 42, 43, 44, 45, 46, 47, 48, 49, 50, 51, 52, 53, 54] (.seq (.seq (.ops [⟨some 32, none, .mv (.tmp 6)⟩,
  ⟨some 33, none, .mv (.tmp 4)⟩,
  ⟨some 34, none, .bin .lss .plain (.tmp 32) (.tmp 33)⟩])
 (.cond (.tmp 34) .skip (.exit 0)))
 (.seq (.block 1 (.seq (.seq (.ops [⟨some 37, none, .mv (.tmp 0)⟩,
  ⟨some 38, none, .mv (.tmp 6)⟩,
  ⟨some 39, none, .idxS (.tmp 37) (.tmp 38)⟩,
  ⟨some 40, none, .bin .lss .plain (.tmp 39) (.lit (.d (.int .u8 128)))⟩,
  ⟨some 41, none, .mv (.tmp 40)⟩,
  ⟨some 42, some (41, false), .mv (.tmp 0)⟩,
  ⟨some 43, some (41, false), .mv (.tmp 6)⟩,
  ⟨some 44, some (41, false), .idxS (.tmp 42) (.tmp 43)⟩,
  ⟨some 45, some (41, false), .bin .geq .plain (.tmp 44) (.lit (.d (.int .u8 192)))⟩,
  ⟨some 46, none, .pick (.tmp 41) (.lit (.d (.bool true))) (.tmp 45)⟩])
 (.cond (.tmp 46) (.seq (.ops [⟨some 2, none, .mv (.lit (.d (.int .i64 0)))⟩,
  ⟨some 3, none, .mv (.lit (.d (.int .i64 0)))⟩])
 .ret) .skip))
 (.ops [⟨some 47, none, .mv (.tmp 5)⟩,
  ⟨some 48, none, .bin .mul .plain (.tmp 47) (.lit (.d (.int .i64 64)))⟩,
  ⟨some 49, none, .mv (.tmp 0)⟩,
  ⟨some 50, none, .mv (.tmp 6)⟩,
  ⟨some 51, none, .idxS (.tmp 49) (.tmp 50)⟩,
  ⟨some 52, none, .conv (.int .i64) (.tmp 51)⟩,
  ⟨some 53, none, .bin .rem .plain (.tmp 52) (.lit (.d (.int .i64 64)))⟩,
  ⟨some 54, none, .bin .add .plain (.tmp 48) (.tmp 53)⟩,
  ⟨some 5, none, .mv (.tmp 54)⟩])))
 (.ops [⟨some 35, none, .mv (.tmp 6)⟩,
  ⟨some 36, none, .bin .add .plain (.tmp 35) (.lit (.d (.int .i64 1)))⟩,
  ⟨some 6, none, .mv (.tmp 36)⟩]))))))
 (.seq (.ops [⟨some 55, none, .mkslice false 1 5 [(.d (.int .i64 0))] [(0, 1, (.lit (.d (.int .i64 0)))), (1, 1, (.lit (.d (.int .i64 0)))), (2, 1, (.lit (.d (.int .i64 128)))), (3, 1, (.lit (.d (.int .i64 2048)))), (4, 1, (.lit (.d (.int .i64 65536))))]⟩,
  ⟨some 56, none, .mv (.tmp 4)⟩,
  ⟨some 57, none, .iaddr none 1 (.tmp 55) (.tmp 56)⟩,
  ⟨some 58, none, .load false 1 (.tmp 57)⟩,
  ⟨some 7, none, .mv (.tmp 58)⟩])
 (.seq (.seq (.ops [⟨some 59, none, .mv (.tmp 5)⟩,
  ⟨some 60, none, .mv (.tmp 7)⟩,
  ⟨some 61, none, .bin .lss .plain (.tmp 59) (.tmp 60)⟩,
  ⟨some 62, none, .mv (.tmp 61)⟩,
  ⟨some 63, some (62, false), .mv (.tmp 5)⟩,
  ⟨some 64, some (62, false), .bin .gtr .plain (.tmp 63) (.lit (.d (.int .i64 1114111)))⟩,
  ⟨some 65, none, .pick (.tmp 62) (.lit (.d (.bool true))) (.tmp 64)⟩,
  ⟨some 66, none, .mv (.tmp 65)⟩,
  ⟨some 67, some (66, false), .mv (.tmp 5)⟩,
  ⟨some 68, some (66, false), .bin .geq .plain (.tmp 67) (.lit (.d (.int .i64 55296)))⟩,
  ⟨some 69, some (66, false), .mv (.tmp 68)⟩,
  ⟨some 70, some (69, true), .mv (.tmp 5)⟩,
  ⟨some 71, some (69, true), .bin .lss .plain (.tmp 70) (.lit (.d (.int .i64 57344)))⟩,
  ⟨some 72, some (66, false), .pick (.tmp 69) (.tmp 71) (.lit (.d (.bool false)))⟩,
  ⟨some 73, none, .pick (.tmp 66) (.lit (.d (.bool true))) (.tmp 72)⟩])
 (.cond (.tmp 73) (.seq (.ops [⟨some 2, none, .mv (.lit (.d (.int .i64 0)))⟩,
  ⟨some 3, none, .mv (.lit (.d (.int .i64 0)))⟩])
 .ret) .skip))
 (.seq (.ops [⟨some 74, none, .mv (.tmp 5)⟩,
  ⟨some 75, none, .mv (.tmp 4)⟩,
  ⟨some 2, none, .mv (.tmp 74)⟩,
  ⟨some 3, none, .mv (.tmp 75)⟩])
 .ret)))))))))⟩
theorem isA_r06_rune1 : isF Try.prog n_r06_rune1 A_r06_rune1 := ⟨Try.f66, _, Try.func66, by decide +kernel, rfl, by kernel_rfl, by kernel_rfl, by decide, by kernel_rfl, rfl, by kernel_rfl⟩
/-- bulla/bullaref06.size -/
def A_r06_size : AF := ⟨1, 27, [(.tmp 2)],
 (.seq (.ops [⟨some 2, none, .mv (.lit (.d (.int .i64 0)))⟩])
 (.seq (.block 0 (.seq (.ops [⟨some 4, none, .mv (.tmp 0)⟩,
  ⟨some 5, none, .bin .lss .plain (.tmp 4) (.lit (.d (.int .u8 128)))⟩,
  ⟨some 3, none, .mv (.tmp 5)⟩])
 (.cond (.tmp 3) (.seq (.ops [⟨some 2, none, .mv (.lit (.d (.int .i64 1)))⟩])
 .ret) (.seq (.ops [⟨some 7, none, .mv (.tmp 0)⟩,
  ⟨some 8, none, .bin .geq .plain (.tmp 7) (.lit (.d (.int .u8 194)))⟩,
  ⟨some 9, none, .mv (.tmp 8)⟩,
  ⟨some 10, some (9, true), .mv (.tmp 0)⟩,
  ⟨some 11, some (9, true), .bin .lss .plain (.tmp 10) (.lit (.d (.int .u8 224)))⟩,
  ⟨some 12, none, .pick (.tmp 9) (.tmp 11) (.lit (.d (.bool false)))⟩,
  ⟨some 6, none, .mv (.tmp 12)⟩])
 (.cond (.tmp 6) (.seq (.ops [⟨some 2, none, .mv (.lit (.d (.int .i64 2)))⟩])
 .ret) (.seq (.ops [⟨some 14, none, .mv (.tmp 0)⟩,
  ⟨some 15, none, .bin .geq .plain (.tmp 14) (.lit (.d (.int .u8 224)))⟩,
  ⟨some 16, none, .mv (.tmp 15)⟩,
  ⟨some 17, some (16, true), .mv (.tmp 0)⟩,
  ⟨some 18, some (16, true), .bin .lss .plain (.tmp 17) (.lit (.d (.int .u8 240)))⟩,
  ⟨some 19, none, .pick (.tmp 16) (.tmp 18) (.lit (.d (.bool false)))⟩,
  ⟨some 13, none, .mv (.tmp 19)⟩])
 (.cond (.tmp 13) (.seq (.ops [⟨some 2, none, .mv (.lit (.d (.int .i64 3)))⟩])
 .ret) (.seq (.ops [⟨some 21, none, .mv (.tmp 0)⟩,
  ⟨some 22, none, .bin .geq .plain (.tmp 21) (.lit (.d (.int .u8 240)))⟩,
  ⟨some 23, none, .mv (.tmp 22)⟩,
  ⟨some 24, some (23, true), .mv (.tmp 0)⟩,
  ⟨some 25, some (23, true), .bin .lss .plain (.tmp 24) (.lit (.d (.int .u8 245)))⟩,
  ⟨some 26, none, .pick (.tmp 23) (.tmp 25) (.lit (.d (.bool false)))⟩,
  ⟨some 20, none, .mv (.tmp 26)⟩])
 (.cond (.tmp 20) (.seq (.ops [⟨some 2, none, .mv (.lit (.d (.int .i64 4)))⟩])
 .ret) .skip)))))))))
 (.seq (.ops [⟨some 2, none, .mv (.lit (.d (.int .i64 0)))⟩])
 .ret)))⟩
theorem isA_r06_size : isF Try.prog n_r06_size A_r06_size := ⟨Try.f67, _, Try.func67, by decide +kernel, rfl, by kernel_rfl, by kernel_rfl, by decide, by kernel_rfl, rfl, by kernel_rfl⟩
end Go.Proofs.Ytfnnejokhikefaa

/- Resolved forms, each with the theorem that it is its function's. Printed by program. -/
import Derived.Test.YtahbjkanmagndaaNm
import Derived.KernelRfl
set_option linter.all false
set_option maxRecDepth 100000
set_option linter.unusedVariables false
namespace Go.Proofs.Ytahbjkanmagndaa
open Go.AW
/-- bulla/op.Same -/
def A_op_Same : AF := ⟨2, 38, [(.tmp 4)],
 (.seq (.ops [⟨some 2, none, .boxi (.tmp 0)⟩,
  ⟨some 3, none, .boxi (.tmp 1)⟩,
  ⟨some 4, none, .mv (.lit (.d (.bool false)))⟩])
 (.seq (.ops [⟨some 5, none, .faddr 0 (.tmp 2)⟩,
  ⟨some 6, none, .load false 1 (.tmp 5)⟩,
  ⟨some 7, none, .faddr 0 (.tmp 3)⟩,
  ⟨some 8, none, .load false 1 (.tmp 7)⟩,
  ⟨some 9, none, .bin .eql .plain (.tmp 6) (.tmp 8)⟩,
  ⟨some 10, none, .mv (.tmp 9)⟩,
  ⟨some 11, some (10, true), .faddr 1 (.tmp 2)⟩,
  ⟨some 12, some (10, true), .load false 1 (.tmp 11)⟩,
  ⟨some 13, some (10, true), .faddr 1 (.tmp 3)⟩,
  ⟨some 14, some (10, true), .load false 1 (.tmp 13)⟩,
  ⟨some 15, some (10, true), .bin .eql .plain (.tmp 12) (.tmp 14)⟩,
  ⟨some 16, none, .pick (.tmp 10) (.tmp 15) (.lit (.d (.bool false)))⟩,
  ⟨some 17, none, .mv (.tmp 16)⟩,
  ⟨some 18, some (17, true), .faddr 2 (.tmp 2)⟩,
  ⟨some 19, some (17, true), .load false 1 (.tmp 18)⟩,
  ⟨some 20, some (17, true), .faddr 2 (.tmp 3)⟩,
  ⟨some 21, some (17, true), .load false 1 (.tmp 20)⟩,
  ⟨some 22, some (17, true), .bin .eql .plain (.tmp 19) (.tmp 21)⟩,
  ⟨some 23, none, .pick (.tmp 17) (.tmp 22) (.lit (.d (.bool false)))⟩,
  ⟨some 24, none, .mv (.tmp 23)⟩,
  ⟨some 25, some (24, true), .faddr 3 (.tmp 2)⟩,
  ⟨some 26, some (24, true), .load false 1 (.tmp 25)⟩,
  ⟨some 27, some (24, true), .faddr 3 (.tmp 3)⟩,
  ⟨some 28, some (24, true), .load false 1 (.tmp 27)⟩,
  ⟨some 29, some (24, true), .bin .eql .plain (.tmp 26) (.tmp 28)⟩,
  ⟨some 30, none, .pick (.tmp 24) (.tmp 29) (.lit (.d (.bool false)))⟩,
  ⟨some 31, none, .mv (.tmp 30)⟩,
  ⟨some 32, some (31, true), .faddr 4 (.tmp 2)⟩,
  ⟨some 33, some (31, true), .load false 1 (.tmp 32)⟩,
  ⟨some 34, some (31, true), .faddr 4 (.tmp 3)⟩,
  ⟨some 35, some (31, true), .load false 1 (.tmp 34)⟩,
  ⟨some 36, some (31, true), .call false 43 [(.tmp 33), (.tmp 35), (.lit (.fn (.func 44) [] []))]⟩,
  ⟨some 37, none, .pick (.tmp 31) (.tmp 36) (.lit (.d (.bool false)))⟩,
  ⟨some 4, none, .mv (.tmp 37)⟩])
 .ret))⟩
theorem isA_op_Same : isF Try.prog n_op_Same A_op_Same := ⟨Try.f19, _, Try.func19, by decide +kernel, rfl, by kernel_rfl, by kernel_rfl, by decide, by kernel_rfl, rfl, by kernel_rfl⟩
/-- bulla/op.Clone -/
def Am_op_Clone : AF := ⟨1, 22, [(.cell 2 true 5)],
 (.seq (.ops [⟨some 1, none, .boxi (.tmp 0)⟩,
  ⟨some 2, none, .alloc [(.d (.int .i64 0)), (.d (.str [])), (.d (.str [])), (.d (.int .i64 0)), (.exact [])]⟩])
 (.seq (.ops [⟨some 3, none, .mv (.lit (.exact []))⟩])
 (.seq (.seq (.ops [⟨some 6, none, .faddr 4 (.tmp 1)⟩,
  ⟨some 7, none, .load false 1 (.tmp 6)⟩,
  ⟨some 8, none, .len .sl (.tmp 7)⟩,
  ⟨some 9, none, .mv (.lit (.d (.int .i64 0)))⟩])
 (.block 0 (.loop [3, 9] [5, 10, 11, 12, 13, 14, 15, 16, 17, 18] (.seq (.ops [⟨some 10, none, .bin .lss .plain (.tmp 9) (.tmp 8)⟩])
 (.seq (.cond (.tmp 10) .skip (.exit 0))
 (.seq (.block 1 (.seq (.ops [⟨some 11, none, .iaddr none 1 (.tmp 7) (.tmp 9)⟩,
  ⟨some 12, none, .load false 1 (.tmp 11)⟩,
  ⟨some 5, none, .mv (.tmp 12)⟩])
 (.ops [⟨some 13, none, .mv (.tmp 3)⟩,
  ⟨some 14, none, .mv (.tmp 5)⟩,
  ⟨some 15, none, .call true 45 [(.tmp 14)]⟩,
  ⟨some 16, none, .mkslice true 1 1 [(.exact [])] [(0, 1, (.tmp 15))]⟩,
  ⟨some 17, none, .append true 1 24 [(.exact [])] (.tmp 13) (.tmp 16)⟩,
  ⟨some 3, none, .mv (.tmp 17)⟩])))
 (.ops [⟨some 18, none, .bin .add .plain (.tmp 9) (.lit (.d (.int .i64 1)))⟩,
  ⟨some 9, none, .mv (.tmp 18)⟩])))))))
 (.seq (.ops [⟨some 19, none, .mv (.tmp 3)⟩,
  ⟨some 20, none, .faddr 4 (.tmp 1)⟩,
  ⟨none, none, .store 1 (.tmp 20) (.tmp 19)⟩])
 (.seq (.ops [⟨some 21, none, .load true 5 (.tmp 1)⟩,
  ⟨none, none, .store 5 (.tmp 2) (.tmp 21)⟩])
 .ret)))))⟩
theorem isAm_op_Clone : isF Try.prog n_op_Clone Am_op_Clone := ⟨Try.f20, _, Try.func20, by decide +kernel, rfl, by kernel_rfl, by kernel_rfl, by decide, by kernel_rfl, rfl, by kernel_rfl⟩
/-- bytes.Equal -/
def A_bytes_Equal : AF := ⟨2, 10, [(.tmp 4)],
 (.seq (.ops [⟨some 4, none, .mv (.lit (.d (.bool false)))⟩])
 (.seq (.ops [⟨some 5, none, .mv (.tmp 0)⟩,
  ⟨some 6, none, .conv .toStr (.tmp 5)⟩,
  ⟨some 7, none, .mv (.tmp 1)⟩,
  ⟨some 8, none, .conv .toStr (.tmp 7)⟩,
  ⟨some 9, none, .bin .eql .plain (.tmp 6) (.tmp 8)⟩,
  ⟨some 4, none, .mv (.tmp 9)⟩])
 .ret))⟩
theorem isA_bytes_Equal : isF Try.prog n_bytes_Equal A_bytes_Equal := ⟨Try.f23, _, Try.func23, by decide +kernel, rfl, by kernel_rfl, by kernel_rfl, by decide, by kernel_rfl, rfl, by kernel_rfl⟩
/-- bulla/op.Put -/
def A_op_Put : AF := ⟨2, 67, [(.tmp 4)],
 (.seq (.ops [⟨some 3, none, .boxi (.tmp 1)⟩,
  ⟨some 4, none, .mv (.lit (.exact []))⟩])
 (.seq (.ops [⟨some 8, none, .mv (.tmp 0)⟩,
  ⟨some 9, none, .call false 45 [(.tmp 8)]⟩,
  ⟨some 5, none, .mv (.tmp 9)⟩])
 (.seq (.seq (.ops [⟨some 10, none, .load true 5 (.tmp 3)⟩,
  ⟨some 11, none, .call false 17 [(.tmp 10)]⟩,
  ⟨some 12, none, .bin .neq .plain (.tmp 11) (.lit (.d (.int .i64 0)))⟩])
 (.cond (.tmp 12) (.seq (.ops [⟨some 13, none, .mv (.tmp 5)⟩,
  ⟨some 4, none, .mv (.tmp 13)⟩])
 .ret) .skip))
 (.seq (.ops [⟨some 14, none, .mv (.tmp 5)⟩,
  ⟨some 15, none, .faddr 0 (.tmp 3)⟩,
  ⟨some 16, none, .load false 1 (.tmp 15)⟩,
  ⟨some 17, none, .conv (.int .u64) (.tmp 16)⟩,
  ⟨some 18, none, .call false 46 [(.tmp 14), (.tmp 17)]⟩,
  ⟨some 5, none, .mv (.tmp 18)⟩])
 (.seq (.seq (.ops [⟨some 19, none, .faddr 0 (.tmp 3)⟩,
  ⟨some 20, none, .load false 1 (.tmp 19)⟩,
  ⟨some 21, none, .bin .neq .plain (.tmp 20) (.lit (.d (.int .i64 0)))⟩])
 (.cond (.tmp 21) (.ops [⟨some 22, none, .mv (.tmp 5)⟩,
  ⟨some 23, none, .faddr 1 (.tmp 3)⟩,
  ⟨some 24, none, .load false 1 (.tmp 23)⟩,
  ⟨some 25, none, .conv .toBytes (.tmp 24)⟩,
  ⟨some 26, none, .call false 47 [(.tmp 22), (.tmp 25)]⟩,
  ⟨some 5, none, .mv (.tmp 26)⟩]) .skip))
 (.seq (.seq (.ops [⟨some 27, none, .faddr 0 (.tmp 3)⟩,
  ⟨some 28, none, .load false 1 (.tmp 27)⟩])
 (.block 0 (.seq (.ops [⟨some 30, none, .bin .eql .plain (.tmp 28) (.lit (.d (.int .i64 2)))⟩,
  ⟨some 29, none, .mv (.tmp 30)⟩])
 (.cond (.tmp 29) (.seq (.ops [⟨some 31, none, .mv (.tmp 5)⟩,
  ⟨some 32, none, .faddr 4 (.tmp 3)⟩,
  ⟨some 33, none, .load false 1 (.tmp 32)⟩,
  ⟨some 34, none, .len .sl (.tmp 33)⟩,
  ⟨some 35, none, .conv (.int .u64) (.tmp 34)⟩,
  ⟨some 36, none, .call false 46 [(.tmp 31), (.tmp 35)]⟩,
  ⟨some 5, none, .mv (.tmp 36)⟩])
 (.seq (.ops [⟨some 37, none, .faddr 4 (.tmp 3)⟩,
  ⟨some 38, none, .load false 1 (.tmp 37)⟩,
  ⟨some 39, none, .len .sl (.tmp 38)⟩,
  ⟨some 40, none, .mv (.lit (.d (.int .i64 0)))⟩])
 (.block 1 (.loop [5, 40] [7, 41, 42, 43, 44, 45, 46, 47] (.seq (.ops [⟨some 41, none, .bin .lss .plain (.tmp 40) (.tmp 39)⟩])
 (.seq (.cond (.tmp 41) .skip (.exit 1))
 (.seq (.block 2 (.seq (.ops [⟨some 42, none, .iaddr none 1 (.tmp 38) (.tmp 40)⟩,
  ⟨some 43, none, .load false 1 (.tmp 42)⟩,
  ⟨some 7, none, .mv (.tmp 43)⟩])
 (.ops [⟨some 44, none, .mv (.tmp 5)⟩,
  ⟨some 45, none, .mv (.tmp 7)⟩,
  ⟨some 46, none, .call false 47 [(.tmp 44), (.tmp 45)]⟩,
  ⟨some 5, none, .mv (.tmp 46)⟩])))
 (.ops [⟨some 47, none, .bin .add .plain (.tmp 40) (.lit (.d (.int .i64 1)))⟩,
  ⟨some 40, none, .mv (.tmp 47)⟩])))))))) (.seq (.ops [⟨some 49, none, .bin .eql .plain (.tmp 28) (.lit (.d (.int .i64 3)))⟩,
  ⟨some 48, none, .mv (.tmp 49)⟩])
 (.cond (.tmp 48) (.draw [⟨some 50, none, .mv (.tmp 5)⟩,
  ⟨some 51, none, .faddr 2 (.tmp 3)⟩,
  ⟨some 52, none, .load false 1 (.tmp 51)⟩,
  ⟨some 53, none, .conv .toBytes (.tmp 52)⟩,
  ⟨some 54, none, .call false 47 [(.tmp 50), (.tmp 53)]⟩,
  ⟨some 55, none, .faddr 3 (.tmp 3)⟩,
  ⟨some 56, none, .load false 1 (.tmp 55)⟩,
  ⟨some 57, none, .conv (.int .u64) (.tmp 56)⟩,
  ⟨some 58, none, .call false 46 [(.tmp 54), (.tmp 57)]⟩,
  ⟨some 5, none, .mv (.tmp 58)⟩] [[], [], [1], [2], [0, 3], [], [5], [6], [4, 7, 4], [8, 8, 0, 1, 2, 3, 4, 5, 6, 7, 8]] [(0, []), (1, []), (2, []), (3, []), (5, []), (6, []), (7, []), (4, [55]), (8, []), (9, [])] [0, 0, 2, 6, 15, 0, 32, 96, 255, 511]) (.seq (.ops [⟨some 60, none, .bin .eql .plain (.tmp 28) (.lit (.d (.int .i64 4)))⟩,
  ⟨some 59, none, .mv (.tmp 60)⟩])
 (.cond (.tmp 59) (.ops [⟨some 61, none, .mv (.tmp 5)⟩,
  ⟨some 62, none, .faddr 3 (.tmp 3)⟩,
  ⟨some 63, none, .load false 1 (.tmp 62)⟩,
  ⟨some 64, none, .conv (.int .u64) (.tmp 63)⟩,
  ⟨some 65, none, .call false 46 [(.tmp 61), (.tmp 64)]⟩,
  ⟨some 5, none, .mv (.tmp 65)⟩]) .skip))))))))
 (.seq (.ops [⟨some 66, none, .mv (.tmp 5)⟩,
  ⟨some 4, none, .mv (.tmp 66)⟩])
 .ret)))))))⟩
theorem isA_op_Put : isF Try.prog n_op_Put A_op_Put := ⟨Try.f24, _, Try.func24, by decide +kernel, rfl, by kernel_rfl, by kernel_rfl, by decide, by kernel_rfl, rfl, by kernel_rfl⟩
/-- bulla/bullaref06.rune1 -/
def A_r06_rune1 : AF := ⟨1, 76, [(.tmp 2), (.tmp 3)],
 (.seq (.ops [⟨some 2, none, .mv (.lit (.d (.int .i64 0)))⟩,
  ⟨some 3, none, .mv (.lit (.d (.int .i64 0)))⟩])
 (.seq (.ops [⟨some 8, none, .mv (.tmp 0)⟩,
  ⟨some 9, none, .idxS (.tmp 8) (.lit (.d (.int .i64 0)))⟩,
  ⟨some 10, none, .call false 59 [(.tmp 9)]⟩,
  ⟨some 4, none, .mv (.tmp 10)⟩])
 (.seq (.seq (.ops [⟨some 11, none, .mv (.tmp 4)⟩,
  ⟨some 12, none, .bin .eql .plain (.tmp 11) (.lit (.d (.int .i64 0)))⟩,
  ⟨some 13, none, .mv (.tmp 12)⟩,
  ⟨some 14, some (13, false), .mv (.tmp 4)⟩,
  ⟨some 15, some (13, false), .mv (.tmp 0)⟩,
  ⟨some 16, some (13, false), .len .str (.tmp 15)⟩,
  ⟨some 17, some (13, false), .bin .gtr .plain (.tmp 14) (.tmp 16)⟩,
  ⟨some 18, none, .pick (.tmp 13) (.lit (.d (.bool true))) (.tmp 17)⟩])
 (.cond (.tmp 18) (.seq (.ops [⟨some 2, none, .mv (.lit (.d (.int .i64 0)))⟩,
  ⟨some 3, none, .mv (.lit (.d (.int .i64 0)))⟩])
 .ret) .skip))
 (.seq (.seq (.ops [⟨some 19, none, .mv (.tmp 4)⟩,
  ⟨some 20, none, .bin .eql .plain (.tmp 19) (.lit (.d (.int .i64 1)))⟩])
 (.cond (.tmp 20) (.seq (.ops [⟨some 21, none, .mv (.tmp 0)⟩,
  ⟨some 22, none, .idxS (.tmp 21) (.lit (.d (.int .i64 0)))⟩,
  ⟨some 23, none, .conv (.int .i64) (.tmp 22)⟩,
  ⟨some 2, none, .mv (.tmp 23)⟩,
  ⟨some 3, none, .mv (.lit (.d (.int .i64 1)))⟩])
 .ret) .skip))
 (.seq (.draw [⟨some 24, none, .mv (.tmp 0)⟩,
  ⟨some 25, none, .idxS (.tmp 24) (.lit (.d (.int .i64 0)))⟩,
  ⟨some 26, none, .conv (.int .i64) (.tmp 25)⟩,
  ⟨some 27, none, .mv (.tmp 4)⟩,
  ⟨some 28, none, .bin .sub .plain (.lit (.d (.int .i64 7))) (.tmp 27)⟩,
  ⟨some 29, none, .bin .shl .plain (.lit (.d (.int .i64 1))) (.tmp 28)⟩,
  ⟨some 30, none, .bin .sub .plain (.tmp 29) (.lit (.d (.int .i64 1)))⟩,
  ⟨some 31, none, .bin .and .plain (.tmp 26) (.tmp 30)⟩,
  ⟨some 5, none, .mv (.tmp 31)⟩] [[], [0], [1], [], [3], [4], [5], [2, 6], [7, 0, 1, 2, 3, 4, 5, 6, 7]] [(0, []), (1, []), (2, []), (3, []), (4, []), (5, []), (6, []), (7, []), (8, [])] [0, 1, 3, 0, 8, 24, 56, 127, 255])
 (.seq (.seq (.ops [⟨some 6, none, .mv (.lit (.d (.int .i64 1)))⟩])
 (.block 0 (.loop [5, 6] [2, 3, 32, 33, 34, 35, 36, 37, 38, 39, 40, 41, 42, 43, 44, 45, 46, 47, 48, 49, 50, 51, 52, 53, 54] (.seq (.seq (.ops [⟨some 32, none, .mv (.tmp 6)⟩,
  ⟨some 33, none, .mv (.tmp 4)⟩,
  ⟨some 34, none, .bin .lss .plain (.tmp 32) (.tmp 33)⟩])
 (.cond (.tmp 34) .skip (.exit 0)))
 (.seq (.block 1 (.seq (.seq (.ops [⟨some 37, none, .mv (.tmp 0)⟩,
  ⟨some 38, none, .mv (.tmp 6)⟩,
  ⟨some 39, none, .idxS (.tmp 37) (.tmp 38)⟩,
  ⟨some 40, none, .bin .lss .plain (.tmp 39) (.lit (.d (.int .u8 128)))⟩,
  ⟨some 41, none, .mv (.tmp 40)⟩,
  ⟨some 42, some (41, false), .mv (.tmp 0)⟩,
  ⟨some 43, some (41, false), .mv (.tmp 6)⟩,
  ⟨some 44, some (41, false), .idxS (.tmp 42) (.tmp 43)⟩,
  ⟨some 45, some (41, false), .bin .geq .plain (.tmp 44) (.lit (.d (.int .u8 192)))⟩,
  ⟨some 46, none, .pick (.tmp 41) (.lit (.d (.bool true))) (.tmp 45)⟩])
 (.cond (.tmp 46) (.seq (.ops [⟨some 2, none, .mv (.lit (.d (.int .i64 0)))⟩,
  ⟨some 3, none, .mv (.lit (.d (.int .i64 0)))⟩])
 .ret) .skip))
 (.ops [⟨some 47, none, .mv (.tmp 5)⟩,
  ⟨some 48, none, .bin .mul .plain (.tmp 47) (.lit (.d (.int .i64 64)))⟩,
  ⟨some 49, none, .mv (.tmp 0)⟩,
  ⟨some 50, none, .mv (.tmp 6)⟩,
  ⟨some 51, none, .idxS (.tmp 49) (.tmp 50)⟩,
  ⟨some 52, none, .conv (.int .i64) (.tmp 51)⟩,
  ⟨some 53, none, .bin .rem .plain (.tmp 52) (.lit (.d (.int .i64 64)))⟩,
  ⟨some 54, none, .bin .add .plain (.tmp 48) (.tmp 53)⟩,
  ⟨some 5, none, .mv (.tmp 54)⟩])))
 (.ops [⟨some 35, none, .mv (.tmp 6)⟩,
  ⟨some 36, none, .bin .add .plain (.tmp 35) (.lit (.d (.int .i64 1)))⟩,
  ⟨some 6, none, .mv (.tmp 36)⟩]))))))
 (.seq (.ops [⟨some 55, none, .mkslice false 1 5 [(.d (.int .i64 0))] [(0, 1, (.lit (.d (.int .i64 0)))), (1, 1, (.lit (.d (.int .i64 0)))), (2, 1, (.lit (.d (.int .i64 128)))), (3, 1, (.lit (.d (.int .i64 2048)))), (4, 1, (.lit (.d (.int .i64 65536))))]⟩,
  ⟨some 56, none, .mv (.tmp 4)⟩,
  ⟨some 57, none, .iaddr none 1 (.tmp 55) (.tmp 56)⟩,
  ⟨some 58, none, .load false 1 (.tmp 57)⟩,
  ⟨some 7, none, .mv (.tmp 58)⟩])
 (.seq (.seq (.ops [⟨some 59, none, .mv (.tmp 5)⟩,
  ⟨some 60, none, .mv (.tmp 7)⟩,
  ⟨some 61, none, .bin .lss .plain (.tmp 59) (.tmp 60)⟩,
  ⟨some 62, none, .mv (.tmp 61)⟩,
  ⟨some 63, some (62, false), .mv (.tmp 5)⟩,
  ⟨some 64, some (62, false), .bin .gtr .plain (.tmp 63) (.lit (.d (.int .i64 1114111)))⟩,
  ⟨some 65, none, .pick (.tmp 62) (.lit (.d (.bool true))) (.tmp 64)⟩,
  ⟨some 66, none, .mv (.tmp 65)⟩,
  ⟨some 67, some (66, false), .mv (.tmp 5)⟩,
  ⟨some 68, some (66, false), .bin .geq .plain (.tmp 67) (.lit (.d (.int .i64 55296)))⟩,
  ⟨some 69, some (66, false), .mv (.tmp 68)⟩,
  ⟨some 70, some (69, true), .mv (.tmp 5)⟩,
  ⟨some 71, some (69, true), .bin .lss .plain (.tmp 70) (.lit (.d (.int .i64 57344)))⟩,
  ⟨some 72, some (66, false), .pick (.tmp 69) (.tmp 71) (.lit (.d (.bool false)))⟩,
  ⟨some 73, none, .pick (.tmp 66) (.lit (.d (.bool true))) (.tmp 72)⟩])
 (.cond (.tmp 73) (.seq (.ops [⟨some 2, none, .mv (.lit (.d (.int .i64 0)))⟩,
  ⟨some 3, none, .mv (.lit (.d (.int .i64 0)))⟩])
 .ret) .skip))
 (.seq (.ops [⟨some 74, none, .mv (.tmp 5)⟩,
  ⟨some 75, none, .mv (.tmp 4)⟩,
  ⟨some 2, none, .mv (.tmp 74)⟩,
  ⟨some 3, none, .mv (.tmp 75)⟩])
 .ret)))))))))⟩
theorem isA_r06_rune1 : isF Try.prog n_r06_rune1 A_r06_rune1 := ⟨Try.f38, _, Try.func38, by decide +kernel, rfl, by kernel_rfl, by kernel_rfl, by decide, by kernel_rfl, rfl, by kernel_rfl⟩
/-- bulla/op.only -/
def A_op_only : AF := ⟨1, 46, [(.cell 2 true 5), (.tmp 3)],
 (.seq (.ops [⟨some 1, none, .boxi (.tmp 0)⟩,
  ⟨some 2, none, .alloc [(.d (.int .i64 0)), (.d (.str [])), (.d (.str [])), (.d (.int .i64 0)), (.exact [])]⟩,
  ⟨some 3, none, .mv (.lit (.d (.bool false)))⟩])
 (.seq (.ops [⟨some 5, none, .faddr 0 (.tmp 1)⟩,
  ⟨some 6, none, .load false 1 (.tmp 5)⟩,
  ⟨some 7, none, .build [(.d (.int .i64 0)), (.d (.str [])), (.d (.str [])), (.d (.int .i64 0)), (.exact [])] [(0, 1, (.tmp 6))]⟩,
  ⟨some 4, none, .alloc [(.d (.int .i64 0)), (.d (.str [])), (.d (.str [])), (.d (.int .i64 0)), (.exact [])]⟩,
  ⟨none, none, .store 5 (.tmp 4) (.tmp 7)⟩])
 (.seq (.seq (.ops [⟨some 8, none, .faddr 0 (.tmp 1)⟩,
  ⟨some 9, none, .load false 1 (.tmp 8)⟩])
 (.block 0 (.seq (.ops [⟨some 12, none, .bin .eql .plain (.tmp 9) (.lit (.d (.int .i64 0)))⟩,
  ⟨some 11, none, .mv (.tmp 12)⟩])
 (.cond (.tmp 11) .skip (.seq (.ops [⟨some 14, none, .bin .eql .plain (.tmp 9) (.lit (.d (.int .i64 1)))⟩,
  ⟨some 13, none, .mv (.tmp 14)⟩])
 (.cond (.tmp 13) (.ops [⟨some 15, none, .faddr 1 (.tmp 1)⟩,
  ⟨some 16, none, .load false 1 (.tmp 15)⟩,
  ⟨some 17, none, .faddr 1 (.tmp 4)⟩,
  ⟨none, none, .store 1 (.tmp 17) (.tmp 16)⟩]) (.seq (.ops [⟨some 19, none, .bin .eql .plain (.tmp 9) (.lit (.d (.int .i64 2)))⟩,
  ⟨some 18, none, .mv (.tmp 19)⟩])
 (.cond (.tmp 18) (.draw [⟨some 20, none, .faddr 1 (.tmp 1)⟩,
  ⟨some 21, none, .load false 1 (.tmp 20)⟩,
  ⟨some 22, none, .faddr 4 (.tmp 1)⟩,
  ⟨some 23, none, .load false 1 (.tmp 22)⟩,
  ⟨some 24, none, .faddr 1 (.tmp 4)⟩,
  ⟨none, none, .store 1 (.tmp 24) (.tmp 21)⟩,
  ⟨some 25, none, .faddr 4 (.tmp 4)⟩,
  ⟨none, none, .store 1 (.tmp 25) (.tmp 23)⟩] [[], [0], [], [2], [0, 1], [4, 1, 0, 1], [0, 1, 2, 3, 4, 5], [6, 3, 5, 0, 1, 2, 3, 4, 5]] [(0, []), (1, []), (2, []), (3, []), (4, []), (5, [22]), (6, []), (7, [])] [0, 1, 0, 4, 3, 19, 63, 127]) (.seq (.ops [⟨some 27, none, .bin .eql .plain (.tmp 9) (.lit (.d (.int .i64 3)))⟩,
  ⟨some 26, none, .mv (.tmp 27)⟩])
 (.cond (.tmp 26) (.draw [⟨some 28, none, .faddr 1 (.tmp 1)⟩,
  ⟨some 29, none, .load false 1 (.tmp 28)⟩,
  ⟨some 30, none, .faddr 2 (.tmp 1)⟩,
  ⟨some 31, none, .load false 1 (.tmp 30)⟩,
  ⟨some 32, none, .faddr 3 (.tmp 1)⟩,
  ⟨some 33, none, .load false 1 (.tmp 32)⟩,
  ⟨some 34, none, .faddr 1 (.tmp 4)⟩,
  ⟨none, none, .store 1 (.tmp 34) (.tmp 29)⟩,
  ⟨some 35, none, .faddr 2 (.tmp 4)⟩,
  ⟨none, none, .store 1 (.tmp 35) (.tmp 31)⟩,
  ⟨some 36, none, .faddr 3 (.tmp 4)⟩,
  ⟨none, none, .store 1 (.tmp 36) (.tmp 33)⟩] [[], [0], [], [2], [], [4], [0, 1], [6, 1, 0, 1], [0, 1, 2, 3, 6, 7], [8, 3, 7, 0, 1, 2, 3, 6, 7], [0, 1, 2, 3, 4, 5, 6, 7, 8, 9], [10, 5, 9, 0, 1, 2, 3, 4, 5, 6, 7, 8, 9]] [(0, []), (1, []), (2, []), (3, []), (4, []), (5, []), (6, []), (7, [30, 32]), (8, []), (9, [32]), (10, []), (11, [])] [0, 1, 0, 4, 0, 16, 3, 67, 207, 463, 1023, 2047]) (.seq (.ops [⟨some 38, none, .bin .eql .plain (.tmp 9) (.lit (.d (.int .i64 4)))⟩,
  ⟨some 37, none, .mv (.tmp 38)⟩])
 (.cond (.tmp 37) (.draw [⟨some 39, none, .faddr 1 (.tmp 1)⟩,
  ⟨some 40, none, .load false 1 (.tmp 39)⟩,
  ⟨some 41, none, .faddr 3 (.tmp 1)⟩,
  ⟨some 42, none, .load false 1 (.tmp 41)⟩,
  ⟨some 43, none, .faddr 1 (.tmp 4)⟩,
  ⟨none, none, .store 1 (.tmp 43) (.tmp 40)⟩,
  ⟨some 44, none, .faddr 3 (.tmp 4)⟩,
  ⟨none, none, .store 1 (.tmp 44) (.tmp 42)⟩] [[], [0], [], [2], [0, 1], [4, 1, 0, 1], [0, 1, 2, 3, 4, 5], [6, 3, 5, 0, 1, 2, 3, 4, 5]] [(0, []), (1, []), (2, []), (3, []), (4, []), (5, [41]), (6, []), (7, [])] [0, 1, 0, 4, 3, 19, 63, 127]) (.seq (.ops [⟨some 10, none, .load true 5 (.tmp 4)⟩,
  ⟨none, none, .store 5 (.tmp 2) (.tmp 10)⟩,
  ⟨some 3, none, .mv (.lit (.d (.bool false)))⟩])
 .ret)))))))))))))
 (.seq (.ops [⟨some 45, none, .load true 5 (.tmp 4)⟩,
  ⟨none, none, .store 5 (.tmp 2) (.tmp 45)⟩,
  ⟨some 3, none, .mv (.lit (.d (.bool true)))⟩])
 .ret))))⟩
theorem isA_op_only : isF Try.prog n_op_only A_op_only := ⟨Try.f39, _, Try.func39, by decide +kernel, rfl, by kernel_rfl, by kernel_rfl, by decide, by kernel_rfl, rfl, by kernel_rfl⟩
/-- bulla/op.Check$1 -/
def A_op_Check_1 : AF := ⟨1, 6, [(.tmp 2)],
 (.seq (.ops [⟨some 2, none, .mv (.lit (.d (.bool false)))⟩])
 (.seq (.ops [⟨some 3, none, .mv (.tmp 0)⟩,
  ⟨some 4, none, .len .sl (.tmp 3)⟩,
  ⟨some 5, none, .bin .gtr .plain (.tmp 4) (.lit (.d (.int .i64 64)))⟩,
  ⟨some 2, none, .mv (.tmp 5)⟩])
 .ret))⟩
theorem isA_op_Check_1 : isF Try.prog n_op_Check_1 A_op_Check_1 := ⟨Try.f40, _, Try.func40, by decide +kernel, rfl, by kernel_rfl, by kernel_rfl, by decide, by kernel_rfl, rfl, by kernel_rfl⟩
/-- slices.ContainsFunc[[]bulla/api.Record,bulla/api.Record] -/
def A_slices_ContainsFunc_api_Record_api_Record : AF := ⟨2, 9, [(.tmp 4)],
 (.seq (.ops [⟨some 4, none, .mv (.lit (.d (.bool false)))⟩])
 (.seq (.ops [⟨some 5, none, .mv (.tmp 0)⟩,
  ⟨some 6, none, .mv (.tmp 1)⟩,
  ⟨some 7, none, .call false 60 [(.tmp 5), (.tmp 6)]⟩,
  ⟨some 8, none, .bin .geq .plain (.tmp 7) (.lit (.d (.int .i64 0)))⟩,
  ⟨some 4, none, .mv (.tmp 8)⟩])
 .ret))⟩
theorem isA_slices_ContainsFunc_api_Record_api_Record : isF Try.prog n_slices_ContainsFunc_api_Record_api_Record A_slices_ContainsFunc_api_Record_api_Record := ⟨Try.f41, _, Try.func41, by decide +kernel, rfl, by kernel_rfl, by kernel_rfl, by decide, by kernel_rfl, rfl, by kernel_rfl⟩
/-- bulla/bullaref06.fields -/
def A_r06_fields : AF := ⟨1, 15, [(.tmp 2), (.tmp 3), (.tmp 4), (.tmp 5)],
 (.seq (.ops [⟨some 2, none, .mv (.lit (.d (.bool false)))⟩,
  ⟨some 3, none, .mv (.lit (.d (.bool false)))⟩,
  ⟨some 4, none, .mv (.lit (.d (.bool false)))⟩,
  ⟨some 5, none, .mv (.lit (.d (.bool false)))⟩])
 (.seq (.ops [⟨some 6, none, .mv (.tmp 0)⟩])
 (.block 0 (.seq (.ops [⟨some 8, none, .bin .eql .plain (.tmp 6) (.lit (.d (.int .i64 1)))⟩,
  ⟨some 7, none, .mv (.tmp 8)⟩])
 (.cond (.tmp 7) (.seq (.ops [⟨some 2, none, .mv (.lit (.d (.bool true)))⟩,
  ⟨some 3, none, .mv (.lit (.d (.bool false)))⟩,
  ⟨some 4, none, .mv (.lit (.d (.bool false)))⟩,
  ⟨some 5, none, .mv (.lit (.d (.bool false)))⟩])
 .ret) (.seq (.ops [⟨some 10, none, .bin .eql .plain (.tmp 6) (.lit (.d (.int .i64 2)))⟩,
  ⟨some 9, none, .mv (.tmp 10)⟩])
 (.cond (.tmp 9) (.seq (.ops [⟨some 2, none, .mv (.lit (.d (.bool true)))⟩,
  ⟨some 3, none, .mv (.lit (.d (.bool false)))⟩,
  ⟨some 4, none, .mv (.lit (.d (.bool false)))⟩,
  ⟨some 5, none, .mv (.lit (.d (.bool true)))⟩])
 .ret) (.seq (.ops [⟨some 12, none, .bin .eql .plain (.tmp 6) (.lit (.d (.int .i64 3)))⟩,
  ⟨some 11, none, .mv (.tmp 12)⟩])
 (.cond (.tmp 11) (.seq (.ops [⟨some 2, none, .mv (.lit (.d (.bool true)))⟩,
  ⟨some 3, none, .mv (.lit (.d (.bool true)))⟩,
  ⟨some 4, none, .mv (.lit (.d (.bool true)))⟩,
  ⟨some 5, none, .mv (.lit (.d (.bool false)))⟩])
 .ret) (.seq (.ops [⟨some 14, none, .bin .eql .plain (.tmp 6) (.lit (.d (.int .i64 4)))⟩,
  ⟨some 13, none, .mv (.tmp 14)⟩])
 (.cond (.tmp 13) (.seq (.ops [⟨some 2, none, .mv (.lit (.d (.bool true)))⟩,
  ⟨some 3, none, .mv (.lit (.d (.bool false)))⟩,
  ⟨some 4, none, .mv (.lit (.d (.bool true)))⟩,
  ⟨some 5, none, .mv (.lit (.d (.bool false)))⟩])
 .ret) (.seq (.ops [⟨some 2, none, .mv (.lit (.d (.bool false)))⟩,
  ⟨some 3, none, .mv (.lit (.d (.bool false)))⟩,
  ⟨some 4, none, .mv (.lit (.d (.bool false)))⟩,
  ⟨some 5, none, .mv (.lit (.d (.bool false)))⟩])
 .ret))))))))))))⟩
theorem isA_r06_fields : isF Try.prog n_r06_fields A_r06_fields := ⟨Try.f42, _, Try.func42, by decide +kernel, rfl, by kernel_rfl, by kernel_rfl, by decide, by kernel_rfl, rfl, by kernel_rfl⟩
/-- slices.EqualFunc[[]bulla/api.Record,[]bulla/api.Record,bulla/api.Record,bulla/api.Record] -/
def A_slices_EqualFunc_api_Record_api_Record_api_Record_api_Record : AF := ⟨3, 32, [(.tmp 6)],
 (.seq (.ops [⟨some 6, none, .mv (.lit (.d (.bool false)))⟩])
 (.seq (.seq (.ops [⟨some 10, none, .mv (.tmp 0)⟩,
  ⟨some 11, none, .len .sl (.tmp 10)⟩,
  ⟨some 12, none, .mv (.tmp 1)⟩,
  ⟨some 13, none, .len .sl (.tmp 12)⟩,
  ⟨some 14, none, .bin .neq .plain (.tmp 11) (.tmp 13)⟩])
 (.cond (.tmp 14) (.seq (.ops [⟨some 6, none, .mv (.lit (.d (.bool false)))⟩])
 .ret) .skip))
 (.seq (.seq (.ops [⟨some 15, none, .mv (.tmp 0)⟩,
  ⟨some 16, none, .len .sl (.tmp 15)⟩,
  ⟨some 17, none, .mv (.lit (.d (.int .i64 0)))⟩])
 (.block 0 (.loop [17] [6, 7, 8, 9, 18, 19, 20, 21, 22, 23, 24, 25, 26, 27, 28, 29, 30, 31] (.seq (.ops [⟨some 18, none, .bin .lss .plain (.tmp 17) (.tmp 16)⟩])
 (.seq (.cond (.tmp 18) .skip (.exit 0))
 (.seq (.block 1 (.seq (.ops [⟨some 19, none, .mv (.tmp 17)⟩,
  ⟨some 20, none, .iaddr none 1 (.tmp 15) (.tmp 17)⟩,
  ⟨some 21, none, .load false 1 (.tmp 20)⟩,
  ⟨some 7, none, .mv (.tmp 19)⟩,
  ⟨some 8, none, .mv (.tmp 21)⟩])
 (.seq (.ops [⟨some 22, none, .mv (.tmp 1)⟩,
  ⟨some 23, none, .mv (.tmp 7)⟩,
  ⟨some 24, none, .iaddr none 1 (.tmp 22) (.tmp 23)⟩,
  ⟨some 25, none, .load false 1 (.tmp 24)⟩,
  ⟨some 9, none, .mv (.tmp 25)⟩])
 (.seq (.ops [⟨some 26, none, .mv (.tmp 2)⟩,
  ⟨some 27, none, .mv (.tmp 8)⟩,
  ⟨some 28, none, .mv (.tmp 9)⟩,
  ⟨some 29, none, .callv (.tmp 26) [(.tmp 27), (.tmp 28)]⟩,
  ⟨some 30, none, .un .not (.tmp 29)⟩])
 (.cond (.tmp 30) (.seq (.ops [⟨some 6, none, .mv (.lit (.d (.bool false)))⟩])
 .ret) .skip)))))
 (.ops [⟨some 31, none, .bin .add .plain (.tmp 17) (.lit (.d (.int .i64 1)))⟩,
  ⟨some 17, none, .mv (.tmp 31)⟩])))))))
 (.seq (.ops [⟨some 6, none, .mv (.lit (.d (.bool true)))⟩])
 .ret))))⟩
theorem isA_slices_EqualFunc_api_Record_api_Record_api_Record_api_Record : isF Try.prog n_slices_EqualFunc_api_Record_api_Record_api_Record_api_Record A_slices_EqualFunc_api_Record_api_Record_api_Record_api_Record := ⟨Try.f43, _, Try.func43, by decide +kernel, rfl, by kernel_rfl, by kernel_rfl, by decide, by kernel_rfl, rfl, by kernel_rfl⟩
/-- bulla/op.Same$1 -/
def A_op_Same_1 : AF := ⟨2, 8, [(.tmp 4)],
 (.seq (.ops [⟨some 4, none, .mv (.lit (.d (.bool false)))⟩])
 (.seq (.ops [⟨some 5, none, .mv (.tmp 0)⟩,
  ⟨some 6, none, .mv (.tmp 1)⟩,
  ⟨some 7, none, .call false 23 [(.tmp 5), (.tmp 6)]⟩,
  ⟨some 4, none, .mv (.tmp 7)⟩])
 .ret))⟩
theorem isA_op_Same_1 : isF Try.prog n_op_Same_1 A_op_Same_1 := ⟨Try.f44, _, Try.func44, by decide +kernel, rfl, by kernel_rfl, by kernel_rfl, by decide, by kernel_rfl, rfl, by kernel_rfl⟩
/-- bytes.Clone -/
def A_bytes_Clone : AF := ⟨1, 8, [(.tmp 2)],
 (.seq (.ops [⟨some 2, none, .mv (.lit (.exact []))⟩])
 (.seq (.seq (.ops [⟨some 3, none, .mv (.tmp 0)⟩,
  ⟨some 4, none, .isnil false (.tmp 3)⟩])
 (.cond (.tmp 4) (.seq (.ops [⟨some 2, none, .mv (.lit (.exact []))⟩])
 .ret) .skip))
 (.seq (.ops [⟨some 5, none, .mkslice false 1 0 [(.d (.int .u8 0))] []⟩,
  ⟨some 6, none, .mv (.tmp 0)⟩,
  ⟨some 7, none, .append false 1 1 [(.d (.int .u8 0))] (.tmp 5) (.tmp 6)⟩,
  ⟨some 2, none, .mv (.tmp 7)⟩])
 .ret)))⟩
theorem isA_bytes_Clone : isF Try.prog n_bytes_Clone A_bytes_Clone := ⟨Try.f45, _, Try.func45, by decide +kernel, rfl, by kernel_rfl, by kernel_rfl, by decide, by kernel_rfl, rfl, by kernel_rfl⟩
/-- bytes.Clone -/
def Am_bytes_Clone : AF := ⟨1, 8, [(.tmp 2)],
 (.seq (.ops [⟨some 2, none, .mv (.lit (.exact []))⟩])
 (.seq (.seq (.ops [⟨some 3, none, .mv (.tmp 0)⟩,
  ⟨some 4, none, .isnil false (.tmp 3)⟩])
 (.cond (.tmp 4) (.seq (.ops [⟨some 2, none, .mv (.lit (.exact []))⟩])
 .ret) .skip))
 (.seq (.ops [⟨some 5, none, .mkslice true 1 0 [(.d (.int .u8 0))] []⟩,
  ⟨some 6, none, .mv (.tmp 0)⟩,
  ⟨some 7, none, .append true 1 1 [(.d (.int .u8 0))] (.tmp 5) (.tmp 6)⟩,
  ⟨some 2, none, .mv (.tmp 7)⟩])
 .ret)))⟩
theorem isAm_bytes_Clone : isF Try.prog n_bytes_Clone Am_bytes_Clone := ⟨Try.f45, _, Try.func45, by decide +kernel, rfl, by kernel_rfl, by kernel_rfl, by decide, by kernel_rfl, rfl, by kernel_rfl⟩
/-- bulla/codec.PutNum -/
def A_codec_PutNum : AF := ⟨2, 17, [(.tmp 4)],
 (.seq (.ops [⟨some 4, none, .mv (.lit (.exact []))⟩])
 (.seq (.ops [⟨some 8, none, .mv (.tmp 1)⟩,
  ⟨some 9, none, .call false 61 [(.tmp 8)]⟩,
  ⟨some 7, none, .mv (.tmp 9)⟩,
  ⟨some 10, none, .extract (.tmp 7) 0⟩,
  ⟨some 11, none, .extract (.tmp 7) 1⟩,
  ⟨some 5, none, .alloc [(.d (.int .u8 0)), (.d (.int .u8 0)), (.d (.int .u8 0)), (.d (.int .u8 0)), (.d (.int .u8 0)), (.d (.int .u8 0)), (.d (.int .u8 0)), (.d (.int .u8 0)), (.d (.int .u8 0)), (.d (.int .u8 0))]⟩,
  ⟨none, none, .store 10 (.tmp 5) (.tmp 10)⟩,
  ⟨some 6, none, .mv (.tmp 11)⟩])
 (.seq (.draw [⟨some 12, none, .mv (.tmp 0)⟩,
  ⟨some 13, none, .call false 62 [(.tmp 12)]⟩,
  ⟨some 14, none, .mv (.tmp 6)⟩,
  ⟨some 15, none, .slc (.arr 10 1) (.tmp 5) none (some (.tmp 14)) none⟩,
  ⟨some 16, none, .append false 1 1 [(.d (.int .u8 0))] (.tmp 13) (.tmp 15)⟩,
  ⟨some 4, none, .mv (.tmp 16)⟩] [[], [0], [], [2], [1, 3, 1], [4, 4, 0, 1, 2, 3, 4]] [(0, []), (2, []), (3, []), (1, []), (4, []), (5, [])] [0, 1, 0, 4, 15, 31])
 .ret)))⟩
theorem isA_codec_PutNum : isF Try.prog n_codec_PutNum A_codec_PutNum := ⟨Try.f46, _, Try.func46, by decide +kernel, rfl, by kernel_rfl, by kernel_rfl, by decide, by kernel_rfl, rfl, by kernel_rfl⟩
/-- bulla/codec.PutBytes -/
def A_codec_PutBytes : AF := ⟨2, 12, [(.tmp 4)],
 (.seq (.ops [⟨some 4, none, .mv (.lit (.exact []))⟩])
 (.seq (.ops [⟨some 5, none, .mv (.tmp 0)⟩,
  ⟨some 6, none, .mv (.tmp 1)⟩,
  ⟨some 7, none, .len .sl (.tmp 6)⟩,
  ⟨some 8, none, .conv (.int .u64) (.tmp 7)⟩,
  ⟨some 9, none, .call false 46 [(.tmp 5), (.tmp 8)]⟩,
  ⟨some 10, none, .mv (.tmp 1)⟩,
  ⟨some 11, none, .append false 1 1 [(.d (.int .u8 0))] (.tmp 9) (.tmp 10)⟩,
  ⟨some 4, none, .mv (.tmp 11)⟩])
 .ret))⟩
theorem isA_codec_PutBytes : isF Try.prog n_codec_PutBytes A_codec_PutBytes := ⟨Try.f47, _, Try.func47, by decide +kernel, rfl, by kernel_rfl, by kernel_rfl, by decide, by kernel_rfl, rfl, by kernel_rfl⟩
end Go.Proofs.Ytahbjkanmagndaa

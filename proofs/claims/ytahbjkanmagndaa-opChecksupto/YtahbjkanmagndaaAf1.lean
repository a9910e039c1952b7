/- Resolved forms, each with the theorem that it is its function's. Printed by program. -/
import Derived.Test.YtahbjkanmagndaaNm
import Derived.KernelRfl
set_option linter.all false
set_option maxRecDepth 100000
set_option linter.unusedVariables false
namespace Go.Proofs.Ytahbjkanmagndaa
open Go.AW
/-- bulla/bullalaw06.OpChecks -/
def Am_l06_OpChecks : AF := ⟨2, 71, [(.tmp 4)],
 (.seq (.ops [⟨some 2, none, .boxi (.tmp 0)⟩,
  ⟨some 3, none, .boxi (.tmp 1)⟩,
  ⟨some 4, none, .mv (.lit (.d (.bool false)))⟩])
 (.seq (.seq (.draw [⟨some 9, none, .call true 9 []⟩,
  ⟨some 10, none, .un .not (.tmp 9)⟩,
  ⟨some 11, none, .mv (.tmp 10)⟩,
  ⟨some 12, some (11, false), .load true 5 (.tmp 2)⟩,
  ⟨some 13, some (11, false), .call true 17 [(.tmp 12)]⟩,
  ⟨some 14, some (11, false), .load true 5 (.tmp 2)⟩,
  ⟨some 15, some (11, false), .call true 18 [(.tmp 14)]⟩,
  ⟨some 16, some (11, false), .bin .neq .plain (.tmp 13) (.tmp 15)⟩,
  ⟨some 17, none, .pick (.tmp 11) (.lit (.d (.bool true))) (.tmp 16)⟩,
  ⟨some 18, none, .mv (.tmp 17)⟩,
  ⟨some 19, some (18, false), .load true 5 (.tmp 2)⟩,
  ⟨some 20, some (18, false), .load true 5 (.tmp 3)⟩,
  ⟨some 21, some (18, false), .call true 19 [(.tmp 19), (.tmp 20)]⟩,
  ⟨some 22, some (18, false), .load true 5 (.tmp 2)⟩,
  ⟨some 23, some (18, false), .load true 5 (.tmp 3)⟩,
  ⟨some 24, some (18, false), .call true 15 [(.tmp 22), (.tmp 23)]⟩,
  ⟨some 25, some (18, false), .bin .neq .bool (.tmp 21) (.tmp 24)⟩,
  ⟨some 26, none, .pick (.tmp 18) (.lit (.d (.bool true))) (.tmp 25)⟩,
  ⟨some 27, none, .mv (.tmp 26)⟩,
  ⟨some 28, some (27, false), .load true 5 (.tmp 2)⟩,
  ⟨some 29, some (27, false), .load true 5 (.tmp 2)⟩,
  ⟨some 30, some (27, false), .call true 19 [(.tmp 28), (.tmp 29)]⟩,
  ⟨some 31, some (27, false), .un .not (.tmp 30)⟩,
  ⟨some 32, none, .pick (.tmp 27) (.lit (.d (.bool true))) (.tmp 31)⟩] [[], [0], [1, 0], [2], [3, 2, 2], [2], [5, 4, 2], [4, 6, 2], [2, 7], [8, 6], [9], [9], [10, 11, 9, 9], [9], [9], [13, 14, 12, 9], [12, 15, 9], [9, 16], [17, 15], [18], [18], [19, 20, 18, 18], [21, 18], [18, 22]] [(0, []), (1, []), (2, []), (3, []), (5, []), (4, [2]), (6, []), (7, []), (8, []), (9, []), (10, []), (11, []), (13, []), (14, []), (12, [2, 3]), (15, []), (16, []), (17, []), (18, []), (19, []), (20, []), (21, []), (22, []), (23, [])] [0, 1, 3, 7, 15, 7, 63, 127, 255, 511, 1023, 1023, 4095, 1023, 1023, 32767, 65535, 131071, 262143, 524287, 524287, 2097151, 4194303, 8388607])
 (.cond (.tmp 32) (.seq (.ops [⟨some 4, none, .mv (.lit (.d (.bool false)))⟩])
 .ret) .skip))
 (.seq (.ops [⟨some 33, none, .load true 5 (.tmp 2)⟩,
  ⟨some 34, none, .call true 20 [(.tmp 33)]⟩,
  ⟨some 5, none, .alloc [(.d (.int .i64 0)), (.d (.str [])), (.d (.str [])), (.d (.int .i64 0)), (.exact [])]⟩,
  ⟨none, none, .store 5 (.tmp 5) (.tmp 34)⟩])
 (.seq (.seq (.ops [⟨some 35, none, .load true 5 (.tmp 2)⟩,
  ⟨some 36, none, .load true 5 (.tmp 5)⟩,
  ⟨some 37, none, .call true 15 [(.tmp 35), (.tmp 36)]⟩,
  ⟨some 38, none, .un .not (.tmp 37)⟩])
 (.cond (.tmp 38) (.seq (.ops [⟨some 4, none, .mv (.lit (.d (.bool false)))⟩])
 .ret) .skip))
 (.seq (.seq (.ops [⟨some 39, none, .faddr 4 (.tmp 5)⟩,
  ⟨some 40, none, .load false 1 (.tmp 39)⟩,
  ⟨some 41, none, .len .sl (.tmp 40)⟩,
  ⟨some 42, none, .mv (.lit (.d (.int .i64 0)))⟩])
 (.block 0 (.loop [42] [6, 7, 43, 44, 45, 46, 47, 48, 49, 50, 51, 52, 53, 54, 55, 56, 57, 58, 59, 60, 61, 62, 63, 64, 65] (.seq (.ops [⟨some 43, none, .bin .lss .plain (.tmp 42) (.tmp 41)⟩])
 (.seq (.cond (.tmp 43) .skip (.exit 0))
 (.seq (.block 1 (.seq (.ops [⟨some 44, none, .mv (.tmp 42)⟩,
  ⟨some 6, none, .mv (.tmp 44)⟩])
 (.seq (.ops [⟨some 45, none, .faddr 4 (.tmp 5)⟩,
  ⟨some 46, none, .load false 1 (.tmp 45)⟩,
  ⟨some 47, none, .mv (.tmp 6)⟩,
  ⟨some 48, none, .iaddr none 1 (.tmp 46) (.tmp 47)⟩,
  ⟨some 49, none, .load false 1 (.tmp 48)⟩,
  ⟨some 50, none, .len .sl (.tmp 49)⟩,
  ⟨some 51, none, .mv (.lit (.d (.int .i64 0)))⟩])
 (.block 2 (.loop [51] [7, 52, 53, 54, 55, 56, 57, 58, 59, 60, 61, 62, 63, 64] (.seq (.ops [⟨some 52, none, .bin .lss .plain (.tmp 51) (.tmp 50)⟩])
 (.seq (.cond (.tmp 52) .skip (.exit 2))
 (.seq (.block 3 (.seq (.ops [⟨some 53, none, .mv (.tmp 51)⟩,
  ⟨some 7, none, .mv (.tmp 53)⟩])
 (.ops [⟨some 54, none, .faddr 4 (.tmp 5)⟩,
  ⟨some 55, none, .load false 1 (.tmp 54)⟩,
  ⟨some 56, none, .mv (.tmp 6)⟩,
  ⟨some 57, none, .iaddr none 1 (.tmp 55) (.tmp 56)⟩,
  ⟨some 58, none, .load false 1 (.tmp 57)⟩,
  ⟨some 59, none, .mv (.tmp 7)⟩,
  ⟨some 60, none, .iaddr none 1 (.tmp 58) (.tmp 59)⟩,
  ⟨some 61, none, .load false 1 (.tmp 60)⟩,
  ⟨some 62, none, .bin .add .plain (.tmp 61) (.lit (.d (.int .u8 1)))⟩,
  ⟨some 63, none, .iaddr none 1 (.tmp 58) (.tmp 59)⟩,
  ⟨none, none, .store 1 (.tmp 63) (.tmp 62)⟩])))
 (.ops [⟨some 64, none, .bin .add .plain (.tmp 51) (.lit (.d (.int .i64 1)))⟩,
  ⟨some 51, none, .mv (.tmp 64)⟩])))))))))
 (.ops [⟨some 65, none, .bin .add .plain (.tmp 42) (.lit (.d (.int .i64 1)))⟩,
  ⟨some 42, none, .mv (.tmp 65)⟩])))))))
 (.seq (.ops [⟨some 66, none, .load true 5 (.tmp 2)⟩,
  ⟨some 67, none, .call true 20 [(.tmp 66)]⟩,
  ⟨some 8, none, .alloc [(.d (.int .i64 0)), (.d (.str [])), (.d (.str [])), (.d (.int .i64 0)), (.exact [])]⟩,
  ⟨none, none, .store 5 (.tmp 8) (.tmp 67)⟩])
 (.seq (.ops [⟨some 68, none, .load true 5 (.tmp 2)⟩,
  ⟨some 69, none, .load true 5 (.tmp 8)⟩,
  ⟨some 70, none, .call true 15 [(.tmp 68), (.tmp 69)]⟩,
  ⟨some 4, none, .mv (.tmp 70)⟩])
 .ret)))))))⟩
theorem isAm_l06_OpChecks : isF Try.prog n_l06_OpChecks Am_l06_OpChecks := ⟨Try.f5, _, Try.func5, by decide +kernel, rfl, by kernel_rfl, by kernel_rfl, by decide, by kernel_rfl, rfl, by kernel_rfl⟩
/-- bulla/bullalaw06.begun -/
def A_l06_begun : AF := ⟨0, 25, [(.tmp 0)],
 (.seq (.ops [⟨some 0, none, .mv (.lit (.d (.bool false)))⟩])
 (.seq (.ops [⟨some 4, none, .mkslice false 1 1 [(.d (.int .u8 0))] [(0, 1, (.lit (.d (.int .u8 9))))]⟩,
  ⟨some 5, none, .mkslice false 1 1 [(.exact [])] [(0, 1, (.tmp 4))]⟩,
  ⟨some 6, none, .build [(.d (.int .i64 0)), (.d (.str [])), (.d (.str [])), (.d (.int .i64 0)), (.exact [])] [(0, 1, (.lit (.d (.int .i64 2)))), (1, 1, (.lit (.d (.str [116])))), (4, 1, (.tmp 5))]⟩,
  ⟨some 7, none, .call false 14 [(.tmp 6)]⟩,
  ⟨some 3, none, .mv (.tmp 7)⟩,
  ⟨some 8, none, .extract (.tmp 3) 0⟩,
  ⟨some 9, none, .extract (.tmp 3) 1⟩,
  ⟨some 1, none, .mv (.tmp 8)⟩,
  ⟨some 2, none, .mv (.tmp 9)⟩])
 (.seq (.ops [⟨some 10, none, .mv (.tmp 2)⟩,
  ⟨some 11, none, .bin .eql .plain (.tmp 10) (.lit (.d (.int .i64 0)))⟩,
  ⟨some 12, none, .mv (.tmp 11)⟩,
  ⟨some 13, some (12, true), .mv (.tmp 1)⟩,
  ⟨some 14, some (12, true), .mkslice false 1 6 [(.d (.int .u8 0))] [(0, 1, (.lit (.d (.int .u8 2)))), (1, 1, (.lit (.d (.int .u8 1)))), (2, 1, (.lit (.d (.int .u8 116)))), (3, 1, (.lit (.d (.int .u8 1)))), (4, 1, (.lit (.d (.int .u8 1)))), (5, 1, (.lit (.d (.int .u8 9))))]⟩,
  ⟨some 15, some (12, true), .call false 23 [(.tmp 13), (.tmp 14)]⟩,
  ⟨some 16, none, .pick (.tmp 12) (.tmp 15) (.lit (.d (.bool false)))⟩,
  ⟨some 17, none, .mv (.tmp 16)⟩,
  ⟨some 18, some (17, true), .call false 12 [(.lit (.d (.str [103, 114, 195, 182, 195, 159, 101])))]⟩,
  ⟨some 19, some (17, true), .bin .eql .plain (.tmp 18) (.lit (.d (.int .i64 5)))⟩,
  ⟨some 20, none, .pick (.tmp 17) (.tmp 19) (.lit (.d (.bool false)))⟩,
  ⟨some 21, none, .mv (.tmp 20)⟩,
  ⟨some 22, some (21, true), .call false 10 [(.lit (.d (.str [97, 32, 98])))]⟩,
  ⟨some 23, some (21, true), .un .not (.tmp 22)⟩,
  ⟨some 24, none, .pick (.tmp 21) (.tmp 23) (.lit (.d (.bool false)))⟩,
  ⟨some 0, none, .mv (.tmp 24)⟩])
 .ret)))⟩
theorem isA_l06_begun : isF Try.prog n_l06_begun A_l06_begun := ⟨Try.f9, _, Try.func9, by decide +kernel, rfl, by kernel_rfl, by kernel_rfl, by decide, by kernel_rfl, rfl, by kernel_rfl⟩
/-- bulla/op.Name -/
def A_op_Name : AF := ⟨1, 6, [(.tmp 2)],
 (.seq (.ops [⟨some 2, none, .mv (.lit (.d (.bool false)))⟩])
 (.seq (.ops [⟨some 3, none, .mv (.tmp 0)⟩,
  ⟨some 4, none, .call false 12 [(.tmp 3)]⟩,
  ⟨some 5, none, .bin .gtr .plain (.tmp 4) (.lit (.d (.int .i64 0)))⟩,
  ⟨some 2, none, .mv (.tmp 5)⟩])
 .ret))⟩
theorem isA_op_Name : isF Try.prog n_op_Name A_op_Name := ⟨Try.f10, _, Try.func10, by decide +kernel, rfl, by kernel_rfl, by kernel_rfl, by decide, by kernel_rfl, rfl, by kernel_rfl⟩
/-- bulla/bullaref06.Name -/
def A_r06_Name : AF := ⟨1, 6, [(.tmp 2)],
 (.seq (.ops [⟨some 2, none, .mv (.lit (.d (.bool false)))⟩])
 (.seq (.ops [⟨some 3, none, .mv (.tmp 0)⟩,
  ⟨some 4, none, .call false 13 [(.tmp 3)]⟩,
  ⟨some 5, none, .bin .gtr .plain (.tmp 4) (.lit (.d (.int .i64 0)))⟩,
  ⟨some 2, none, .mv (.tmp 5)⟩])
 .ret))⟩
theorem isA_r06_Name : isF Try.prog n_r06_Name A_r06_Name := ⟨Try.f11, _, Try.func11, by decide +kernel, rfl, by kernel_rfl, by kernel_rfl, by decide, by kernel_rfl, rfl, by kernel_rfl⟩
/-- bulla/op.Runes -/
def A_op_Runes : AF := ⟨1, 34, [(.tmp 2)],
 (.seq (.ops [⟨some 2, none, .mv (.lit (.d (.int .i64 0)))⟩])
 (.seq (.ops [⟨some 3, none, .mv (.lit (.d (.int .i64 0)))⟩])
 (.seq (.seq (.ops [⟨some 6, none, .mv (.tmp 0)⟩,
  ⟨some 7, none, .rangeS (.tmp 6)⟩])
 (.block 0 (.loop [3] [2, 5, 8, 9, 10, 11, 12, 13, 14, 15, 16, 17, 18, 19, 20, 21, 22, 23, 24, 25, 26, 27, 28, 29, 30] (.seq (.ops [⟨some 8, none, .nextS (.tmp 7)⟩,
  ⟨some 9, none, .extract (.tmp 8) 0⟩])
 (.seq (.cond (.tmp 9) .skip (.exit 0))
 (.block 1 (.seq (.ops [⟨some 10, none, .extract (.tmp 8) 2⟩,
  ⟨some 5, none, .mv (.tmp 10)⟩])
 (.seq (.seq (.ops [⟨some 11, none, .mv (.tmp 5)⟩,
  ⟨some 12, none, .bin .lss .plain (.tmp 11) (.lit (.d (.int .i32 33)))⟩,
  ⟨some 13, none, .mv (.tmp 12)⟩,
  ⟨some 14, some (13, false), .mv (.tmp 5)⟩,
  ⟨some 15, some (13, false), .bin .geq .plain (.tmp 14) (.lit (.d (.int .i32 127)))⟩,
  ⟨some 16, some (13, false), .mv (.tmp 15)⟩,
  ⟨some 17, some (16, true), .mv (.tmp 5)⟩,
  ⟨some 18, some (16, true), .bin .leq .plain (.tmp 17) (.lit (.d (.int .i32 159)))⟩,
  ⟨some 19, some (13, false), .pick (.tmp 16) (.tmp 18) (.lit (.d (.bool false)))⟩,
  ⟨some 20, none, .pick (.tmp 13) (.lit (.d (.bool true))) (.tmp 19)⟩,
  ⟨some 21, none, .mv (.tmp 20)⟩,
  ⟨some 22, some (21, false), .mv (.tmp 5)⟩,
  ⟨some 23, some (21, false), .bin .eql .plain (.tmp 22) (.lit (.d (.int .i32 47)))⟩,
  ⟨some 24, none, .pick (.tmp 21) (.lit (.d (.bool true))) (.tmp 23)⟩,
  ⟨some 25, none, .mv (.tmp 24)⟩,
  ⟨some 26, some (25, false), .mv (.tmp 5)⟩,
  ⟨some 27, some (25, false), .bin .eql .plain (.tmp 26) (.lit (.d (.int .i32 65533)))⟩,
  ⟨some 28, none, .pick (.tmp 25) (.lit (.d (.bool true))) (.tmp 27)⟩])
 (.cond (.tmp 28) (.seq (.ops [⟨some 2, none, .mv (.lit (.d (.int .i64 0)))⟩])
 .ret) .skip))
 (.ops [⟨some 29, none, .mv (.tmp 3)⟩,
  ⟨some 30, none, .bin .add .plain (.tmp 29) (.lit (.d (.int .i64 1)))⟩,
  ⟨some 3, none, .mv (.tmp 30)⟩])))))))))
 (.seq (.seq (.ops [⟨some 31, none, .mv (.tmp 3)⟩,
  ⟨some 32, none, .bin .gtr .plain (.tmp 31) (.lit (.d (.int .i64 16)))⟩])
 (.cond (.tmp 32) (.seq (.ops [⟨some 2, none, .mv (.lit (.d (.int .i64 0)))⟩])
 .ret) .skip))
 (.seq (.ops [⟨some 33, none, .mv (.tmp 3)⟩,
  ⟨some 2, none, .mv (.tmp 33)⟩])
 .ret)))))⟩
theorem isA_op_Runes : isF Try.prog n_op_Runes A_op_Runes := ⟨Try.f12, _, Try.func12, by decide +kernel, rfl, by kernel_rfl, by kernel_rfl, by decide, by kernel_rfl, rfl, by kernel_rfl⟩
/-- bulla/bullaref06.Runes -/
def A_r06_Runes : AF := ⟨1, 46, [(.tmp 2)],
 (.seq (.ops [⟨some 2, none, .mv (.lit (.d (.int .i64 0)))⟩])
 (.seq (.ops [⟨some 3, none, .mv (.lit (.d (.int .i64 0)))⟩])
 (.seq (.block 0 (.loop [0, 3] [2, 4, 5, 6, 7, 8, 9, 10, 11, 12, 13, 14, 15, 16, 17, 18, 19, 20, 21, 22, 23, 24, 25, 26, 27, 28, 29, 30, 31, 32, 33, 34, 35, 36, 37, 38, 39, 40, 41, 42, 43, 44] (.seq (.seq (.ops [⟨some 6, none, .mv (.tmp 0)⟩,
  ⟨some 7, none, .len .str (.tmp 6)⟩,
  ⟨some 8, none, .bin .gtr .plain (.tmp 7) (.lit (.d (.int .i64 0)))⟩])
 (.cond (.tmp 8) .skip (.exit 0)))
 (.block 1 (.seq (.ops [⟨some 10, none, .mv (.tmp 0)⟩,
  ⟨some 11, none, .call false 38 [(.tmp 10)]⟩,
  ⟨some 9, none, .mv (.tmp 11)⟩,
  ⟨some 12, none, .extract (.tmp 9) 0⟩,
  ⟨some 13, none, .extract (.tmp 9) 1⟩,
  ⟨some 4, none, .mv (.tmp 12)⟩,
  ⟨some 5, none, .mv (.tmp 13)⟩])
 (.seq (.seq (.ops [⟨some 14, none, .mv (.tmp 5)⟩,
  ⟨some 15, none, .bin .eql .plain (.tmp 14) (.lit (.d (.int .i64 0)))⟩,
  ⟨some 16, none, .mv (.tmp 15)⟩,
  ⟨some 17, some (16, false), .mv (.tmp 4)⟩,
  ⟨some 18, some (16, false), .bin .lss .plain (.tmp 17) (.lit (.d (.int .i64 33)))⟩,
  ⟨some 19, none, .pick (.tmp 16) (.lit (.d (.bool true))) (.tmp 18)⟩,
  ⟨some 20, none, .mv (.tmp 19)⟩,
  ⟨some 21, some (20, false), .mv (.tmp 4)⟩,
  ⟨some 22, some (20, false), .bin .geq .plain (.tmp 21) (.lit (.d (.int .i64 127)))⟩,
  ⟨some 23, some (20, false), .mv (.tmp 22)⟩,
  ⟨some 24, some (23, true), .mv (.tmp 4)⟩,
  ⟨some 25, some (23, true), .bin .lss .plain (.tmp 24) (.lit (.d (.int .i64 160)))⟩,
  ⟨some 26, some (20, false), .pick (.tmp 23) (.tmp 25) (.lit (.d (.bool false)))⟩,
  ⟨some 27, none, .pick (.tmp 20) (.lit (.d (.bool true))) (.tmp 26)⟩,
  ⟨some 28, none, .mv (.tmp 27)⟩,
  ⟨some 29, some (28, false), .mv (.tmp 4)⟩,
  ⟨some 30, some (28, false), .bin .eql .plain (.tmp 29) (.lit (.d (.int .i64 47)))⟩,
  ⟨some 31, none, .pick (.tmp 28) (.lit (.d (.bool true))) (.tmp 30)⟩,
  ⟨some 32, none, .mv (.tmp 31)⟩,
  ⟨some 33, some (32, false), .mv (.tmp 4)⟩,
  ⟨some 34, some (32, false), .bin .eql .plain (.tmp 33) (.lit (.d (.int .i64 65533)))⟩,
  ⟨some 35, none, .pick (.tmp 32) (.lit (.d (.bool true))) (.tmp 34)⟩,
  ⟨some 36, none, .mv (.tmp 35)⟩,
  ⟨some 37, some (36, false), .mv (.tmp 3)⟩,
  ⟨some 38, some (36, false), .bin .geq .plain (.tmp 37) (.lit (.d (.int .i64 16)))⟩,
  ⟨some 39, none, .pick (.tmp 36) (.lit (.d (.bool true))) (.tmp 38)⟩])
 (.cond (.tmp 39) (.seq (.ops [⟨some 2, none, .mv (.lit (.d (.int .i64 0)))⟩])
 .ret) .skip))
 (.seq (.ops [⟨some 40, none, .mv (.tmp 3)⟩,
  ⟨some 41, none, .bin .add .plain (.tmp 40) (.lit (.d (.int .i64 1)))⟩,
  ⟨some 3, none, .mv (.tmp 41)⟩])
 (.ops [⟨some 42, none, .mv (.tmp 0)⟩,
  ⟨some 43, none, .mv (.tmp 5)⟩,
  ⟨some 44, none, .slc .str (.tmp 42) (some (.tmp 43)) none none⟩,
  ⟨some 0, none, .mv (.tmp 44)⟩]))))))))
 (.seq (.ops [⟨some 45, none, .mv (.tmp 3)⟩,
  ⟨some 2, none, .mv (.tmp 45)⟩])
 .ret))))⟩
theorem isA_r06_Runes : isF Try.prog n_r06_Runes A_r06_Runes := ⟨Try.f13, _, Try.func13, by decide +kernel, rfl, by kernel_rfl, by kernel_rfl, by decide, by kernel_rfl, rfl, by kernel_rfl⟩
/-- bulla/op.Bytes -/
def A_op_Bytes : AF := ⟨1, 12, [(.tmp 2), (.tmp 3)],
 (.seq (.ops [⟨some 1, none, .boxi (.tmp 0)⟩,
  ⟨some 2, none, .mv (.lit (.exact []))⟩,
  ⟨some 3, none, .mv (.lit (.d (.int .i64 0)))⟩])
 (.seq (.seq (.ops [⟨some 5, none, .load true 5 (.tmp 1)⟩,
  ⟨some 6, none, .call false 17 [(.tmp 5)]⟩,
  ⟨some 4, none, .mv (.tmp 6)⟩])
 (.seq (.ops [⟨some 7, none, .mv (.tmp 4)⟩,
  ⟨some 8, none, .bin .neq .plain (.tmp 7) (.lit (.d (.int .i64 0)))⟩])
 (.cond (.tmp 8) (.seq (.ops [⟨some 9, none, .mv (.tmp 4)⟩,
  ⟨some 2, none, .mv (.lit (.exact []))⟩,
  ⟨some 3, none, .mv (.tmp 9)⟩])
 .ret) .skip)))
 (.seq (.ops [⟨some 10, none, .load true 5 (.tmp 1)⟩,
  ⟨some 11, none, .call false 24 [(.lit (.exact [])), (.tmp 10)]⟩,
  ⟨some 2, none, .mv (.tmp 11)⟩,
  ⟨some 3, none, .mv (.lit (.d (.int .i64 0)))⟩])
 .ret)))⟩
theorem isA_op_Bytes : isF Try.prog n_op_Bytes A_op_Bytes := ⟨Try.f14, _, Try.func14, by decide +kernel, rfl, by kernel_rfl, by kernel_rfl, by decide, by kernel_rfl, rfl, by kernel_rfl⟩
/-- bulla/bullaref06.Same -/
def A_r06_Same : AF := ⟨2, 61, [(.tmp 4)],
 (.seq (.ops [⟨some 2, none, .boxi (.tmp 0)⟩,
  ⟨some 3, none, .boxi (.tmp 1)⟩,
  ⟨some 4, none, .mv (.lit (.d (.bool false)))⟩])
 (.seq (.seq (.ops [⟨some 6, none, .faddr 0 (.tmp 2)⟩,
  ⟨some 7, none, .load false 1 (.tmp 6)⟩,
  ⟨some 8, none, .faddr 0 (.tmp 3)⟩,
  ⟨some 9, none, .load false 1 (.tmp 8)⟩,
  ⟨some 10, none, .bin .neq .plain (.tmp 7) (.tmp 9)⟩,
  ⟨some 11, none, .mv (.tmp 10)⟩,
  ⟨some 12, some (11, false), .faddr 1 (.tmp 2)⟩,
  ⟨some 13, some (11, false), .load false 1 (.tmp 12)⟩,
  ⟨some 14, some (11, false), .faddr 1 (.tmp 3)⟩,
  ⟨some 15, some (11, false), .load false 1 (.tmp 14)⟩,
  ⟨some 16, some (11, false), .bin .neq .plain (.tmp 13) (.tmp 15)⟩,
  ⟨some 17, none, .pick (.tmp 11) (.lit (.d (.bool true))) (.tmp 16)⟩,
  ⟨some 18, none, .mv (.tmp 17)⟩,
  ⟨some 19, some (18, false), .faddr 2 (.tmp 2)⟩,
  ⟨some 20, some (18, false), .load false 1 (.tmp 19)⟩,
  ⟨some 21, some (18, false), .faddr 2 (.tmp 3)⟩,
  ⟨some 22, some (18, false), .load false 1 (.tmp 21)⟩,
  ⟨some 23, some (18, false), .bin .neq .plain (.tmp 20) (.tmp 22)⟩,
  ⟨some 24, none, .pick (.tmp 18) (.lit (.d (.bool true))) (.tmp 23)⟩,
  ⟨some 25, none, .mv (.tmp 24)⟩,
  ⟨some 26, some (25, false), .faddr 3 (.tmp 2)⟩,
  ⟨some 27, some (25, false), .load false 1 (.tmp 26)⟩,
  ⟨some 28, some (25, false), .faddr 3 (.tmp 3)⟩,
  ⟨some 29, some (25, false), .load false 1 (.tmp 28)⟩,
  ⟨some 30, some (25, false), .bin .neq .plain (.tmp 27) (.tmp 29)⟩,
  ⟨some 31, none, .pick (.tmp 25) (.lit (.d (.bool true))) (.tmp 30)⟩,
  ⟨some 32, none, .mv (.tmp 31)⟩,
  ⟨some 33, some (32, false), .faddr 4 (.tmp 2)⟩,
  ⟨some 34, some (32, false), .load false 1 (.tmp 33)⟩,
  ⟨some 35, some (32, false), .len .sl (.tmp 34)⟩,
  ⟨some 36, some (32, false), .faddr 4 (.tmp 3)⟩,
  ⟨some 37, some (32, false), .load false 1 (.tmp 36)⟩,
  ⟨some 38, some (32, false), .len .sl (.tmp 37)⟩,
  ⟨some 39, some (32, false), .bin .neq .plain (.tmp 35) (.tmp 38)⟩,
  ⟨some 40, none, .pick (.tmp 32) (.lit (.d (.bool true))) (.tmp 39)⟩])
 (.cond (.tmp 40) (.seq (.ops [⟨some 4, none, .mv (.lit (.d (.bool false)))⟩])
 .ret) .skip))
 (.seq (.seq (.ops [⟨some 5, none, .mv (.lit (.d (.int .i64 0)))⟩])
 (.block 0 (.loop [5] [4, 41, 42, 43, 44, 45, 46, 47, 48, 49, 50, 51, 52, 53, 54, 55, 56, 57, 58, 59, 60] (.seq (.seq (.ops [⟨some 41, none, .mv (.tmp 5)⟩,
  ⟨some 42, none, .faddr 4 (.tmp 2)⟩,
  ⟨some 43, none, .load false 1 (.tmp 42)⟩,
  ⟨some 44, none, .len .sl (.tmp 43)⟩,
  ⟨some 45, none, .bin .lss .plain (.tmp 41) (.tmp 44)⟩])
 (.cond (.tmp 45) .skip (.exit 0)))
 (.seq (.block 1 (.seq (.draw [⟨some 48, none, .faddr 4 (.tmp 2)⟩,
  ⟨some 49, none, .load false 1 (.tmp 48)⟩,
  ⟨some 50, none, .mv (.tmp 5)⟩,
  ⟨some 51, none, .iaddr none 1 (.tmp 49) (.tmp 50)⟩,
  ⟨some 52, none, .load false 1 (.tmp 51)⟩,
  ⟨some 53, none, .conv .toStr (.tmp 52)⟩,
  ⟨some 54, none, .faddr 4 (.tmp 3)⟩,
  ⟨some 55, none, .load false 1 (.tmp 54)⟩,
  ⟨some 56, none, .mv (.tmp 5)⟩,
  ⟨some 57, none, .iaddr none 1 (.tmp 55) (.tmp 56)⟩,
  ⟨some 58, none, .load false 1 (.tmp 57)⟩,
  ⟨some 59, none, .conv .toStr (.tmp 58)⟩,
  ⟨some 60, none, .bin .neq .plain (.tmp 53) (.tmp 59)⟩] [[], [0], [], [1, 2], [3], [4], [], [6], [], [7, 8], [9], [10], [5, 11]] [(0, []), (1, []), (2, []), (3, []), (4, []), (5, []), (6, []), (7, []), (8, []), (9, []), (10, []), (11, []), (12, [])] [0, 1, 0, 7, 15, 31, 0, 64, 0, 448, 960, 1984, 4095])
 (.cond (.tmp 60) (.seq (.ops [⟨some 4, none, .mv (.lit (.d (.bool false)))⟩])
 .ret) .skip)))
 (.ops [⟨some 46, none, .mv (.tmp 5)⟩,
  ⟨some 47, none, .bin .add .plain (.tmp 46) (.lit (.d (.int .i64 1)))⟩,
  ⟨some 5, none, .mv (.tmp 47)⟩]))))))
 (.seq (.ops [⟨some 4, none, .mv (.lit (.d (.bool true)))⟩])
 .ret))))⟩
theorem isA_r06_Same : isF Try.prog n_r06_Same A_r06_Same := ⟨Try.f15, _, Try.func15, by decide +kernel, rfl, by kernel_rfl, by kernel_rfl, by decide, by kernel_rfl, rfl, by kernel_rfl⟩
/-- bulla/op.Check -/
def A_op_Check : AF := ⟨1, 71, [(.tmp 2)],
 (.seq (.ops [⟨some 1, none, .boxi (.tmp 0)⟩,
  ⟨some 2, none, .mv (.lit (.d (.int .i64 0)))⟩])
 (.seq (.ops [⟨some 7, none, .load true 5 (.tmp 1)⟩,
  ⟨some 8, none, .call false 39 [(.tmp 7)]⟩,
  ⟨some 6, none, .mv (.tmp 8)⟩,
  ⟨some 9, none, .extract (.tmp 6) 0⟩,
  ⟨some 10, none, .extract (.tmp 6) 1⟩,
  ⟨some 3, none, .alloc [(.d (.int .i64 0)), (.d (.str [])), (.d (.str [])), (.d (.int .i64 0)), (.exact [])]⟩,
  ⟨none, none, .store 5 (.tmp 3) (.tmp 9)⟩,
  ⟨some 4, none, .mv (.tmp 10)⟩])
 (.seq (.ops [⟨some 5, none, .mv (.lit (.fn (.func 40) [] []))⟩])
 (.seq (.block 0 (.seq (.ops [⟨some 12, none, .mv (.tmp 4)⟩,
  ⟨some 13, none, .un .not (.tmp 12)⟩,
  ⟨some 14, none, .mv (.tmp 13)⟩,
  ⟨some 15, some (14, false), .load true 5 (.tmp 1)⟩,
  ⟨some 16, some (14, false), .load true 5 (.tmp 3)⟩,
  ⟨some 17, some (14, false), .call false 19 [(.tmp 15), (.tmp 16)]⟩,
  ⟨some 18, some (14, false), .un .not (.tmp 17)⟩,
  ⟨some 19, none, .pick (.tmp 14) (.lit (.d (.bool true))) (.tmp 18)⟩,
  ⟨some 11, none, .mv (.tmp 19)⟩])
 (.cond (.tmp 11) (.seq (.ops [⟨some 2, none, .mv (.lit (.d (.int .i64 60)))⟩])
 .ret) (.seq (.ops [⟨some 21, none, .faddr 0 (.tmp 1)⟩,
  ⟨some 22, none, .load false 1 (.tmp 21)⟩,
  ⟨some 23, none, .bin .neq .plain (.tmp 22) (.lit (.d (.int .i64 0)))⟩,
  ⟨some 24, none, .mv (.tmp 23)⟩,
  ⟨some 25, some (24, true), .faddr 1 (.tmp 1)⟩,
  ⟨some 26, some (24, true), .load false 1 (.tmp 25)⟩,
  ⟨some 27, some (24, true), .call false 10 [(.tmp 26)]⟩,
  ⟨some 28, some (24, true), .un .not (.tmp 27)⟩,
  ⟨some 29, none, .pick (.tmp 24) (.tmp 28) (.lit (.d (.bool false)))⟩,
  ⟨some 20, none, .mv (.tmp 29)⟩])
 (.cond (.tmp 20) (.seq (.ops [⟨some 2, none, .mv (.lit (.d (.int .i64 61)))⟩])
 .ret) (.seq (.ops [⟨some 31, none, .faddr 0 (.tmp 1)⟩,
  ⟨some 32, none, .load false 1 (.tmp 31)⟩,
  ⟨some 33, none, .bin .eql .plain (.tmp 32) (.lit (.d (.int .i64 3)))⟩,
  ⟨some 34, none, .mv (.tmp 33)⟩,
  ⟨some 35, some (34, true), .faddr 2 (.tmp 1)⟩,
  ⟨some 36, some (34, true), .load false 1 (.tmp 35)⟩,
  ⟨some 37, some (34, true), .call false 10 [(.tmp 36)]⟩,
  ⟨some 38, some (34, true), .un .not (.tmp 37)⟩,
  ⟨some 39, none, .pick (.tmp 34) (.tmp 38) (.lit (.d (.bool false)))⟩,
  ⟨some 30, none, .mv (.tmp 39)⟩])
 (.cond (.tmp 30) (.seq (.ops [⟨some 2, none, .mv (.lit (.d (.int .i64 61)))⟩])
 .ret) (.seq (.ops [⟨some 41, none, .faddr 0 (.tmp 1)⟩,
  ⟨some 42, none, .load false 1 (.tmp 41)⟩,
  ⟨some 43, none, .bin .eql .plain (.tmp 42) (.lit (.d (.int .i64 2)))⟩,
  ⟨some 44, none, .mv (.tmp 43)⟩,
  ⟨some 45, some (44, true), .faddr 4 (.tmp 1)⟩,
  ⟨some 46, some (44, true), .load false 1 (.tmp 45)⟩,
  ⟨some 47, some (44, true), .len .sl (.tmp 46)⟩,
  ⟨some 48, some (44, true), .bin .lss .plain (.tmp 47) (.lit (.d (.int .i64 1)))⟩,
  ⟨some 49, some (44, true), .mv (.tmp 48)⟩,
  ⟨some 50, some (49, false), .faddr 4 (.tmp 1)⟩,
  ⟨some 51, some (49, false), .load false 1 (.tmp 50)⟩,
  ⟨some 52, some (49, false), .len .sl (.tmp 51)⟩,
  ⟨some 53, some (49, false), .bin .gtr .plain (.tmp 52) (.lit (.d (.int .i64 4)))⟩,
  ⟨some 54, some (44, true), .pick (.tmp 49) (.lit (.d (.bool true))) (.tmp 53)⟩,
  ⟨some 55, some (44, true), .mv (.tmp 54)⟩,
  ⟨some 56, some (55, false), .faddr 4 (.tmp 1)⟩,
  ⟨some 57, some (55, false), .load false 1 (.tmp 56)⟩,
  ⟨some 58, some (55, false), .mv (.tmp 5)⟩,
  ⟨some 59, some (55, false), .call false 41 [(.tmp 57), (.tmp 58)]⟩,
  ⟨some 60, some (44, true), .pick (.tmp 55) (.lit (.d (.bool true))) (.tmp 59)⟩,
  ⟨some 61, none, .pick (.tmp 44) (.tmp 60) (.lit (.d (.bool false)))⟩,
  ⟨some 40, none, .mv (.tmp 61)⟩])
 (.cond (.tmp 40) (.seq (.ops [⟨some 2, none, .mv (.lit (.d (.int .i64 62)))⟩])
 .ret) (.seq (.ops [⟨some 63, none, .faddr 3 (.tmp 1)⟩,
  ⟨some 64, none, .load false 1 (.tmp 63)⟩,
  ⟨some 65, none, .bin .lss .plain (.tmp 64) (.lit (.d (.int .i64 0)))⟩,
  ⟨some 66, none, .mv (.tmp 65)⟩,
  ⟨some 67, some (66, false), .faddr 3 (.tmp 1)⟩,
  ⟨some 68, some (66, false), .load false 1 (.tmp 67)⟩,
  ⟨some 69, some (66, false), .bin .gtr .plain (.tmp 68) (.lit (.d (.int .i64 9007199254740992)))⟩,
  ⟨some 70, none, .pick (.tmp 66) (.lit (.d (.bool true))) (.tmp 69)⟩,
  ⟨some 62, none, .mv (.tmp 70)⟩])
 (.cond (.tmp 62) (.seq (.ops [⟨some 2, none, .mv (.lit (.d (.int .i64 60)))⟩])
 .ret) .skip)))))))))))
 (.seq (.ops [⟨some 2, none, .mv (.lit (.d (.int .i64 0)))⟩])
 .ret)))))⟩
theorem isA_op_Check : isF Try.prog n_op_Check A_op_Check := ⟨Try.f17, _, Try.func17, by decide +kernel, rfl, by kernel_rfl, by kernel_rfl, by decide, by kernel_rfl, rfl, by kernel_rfl⟩
/-- bulla/bullaref06.Check -/
def A_r06_Check : AF := ⟨1, 112, [(.tmp 2)],
 (.seq (.ops [⟨some 1, none, .boxi (.tmp 0)⟩,
  ⟨some 2, none, .mv (.lit (.d (.int .i64 0)))⟩])
 (.seq (.ops [⟨some 9, none, .faddr 0 (.tmp 1)⟩,
  ⟨some 10, none, .load false 1 (.tmp 9)⟩,
  ⟨some 11, none, .call false 42 [(.tmp 10)]⟩,
  ⟨some 8, none, .mv (.tmp 11)⟩,
  ⟨some 12, none, .extract (.tmp 8) 0⟩,
  ⟨some 13, none, .extract (.tmp 8) 1⟩,
  ⟨some 14, none, .extract (.tmp 8) 2⟩,
  ⟨some 15, none, .extract (.tmp 8) 3⟩,
  ⟨some 3, none, .mv (.tmp 12)⟩,
  ⟨some 4, none, .mv (.tmp 13)⟩,
  ⟨some 5, none, .mv (.tmp 14)⟩,
  ⟨some 6, none, .mv (.tmp 15)⟩])
 (.seq (.seq (.ops [⟨some 16, none, .faddr 0 (.tmp 1)⟩,
  ⟨some 17, none, .load false 1 (.tmp 16)⟩,
  ⟨some 18, none, .bin .lss .plain (.tmp 17) (.lit (.d (.int .i64 0)))⟩,
  ⟨some 19, none, .mv (.tmp 18)⟩,
  ⟨some 20, some (19, false), .faddr 0 (.tmp 1)⟩,
  ⟨some 21, some (19, false), .load false 1 (.tmp 20)⟩,
  ⟨some 22, some (19, false), .bin .gtr .plain (.tmp 21) (.lit (.d (.int .i64 4)))⟩,
  ⟨some 23, none, .pick (.tmp 19) (.lit (.d (.bool true))) (.tmp 22)⟩,
  ⟨some 24, none, .mv (.tmp 23)⟩,
  ⟨some 25, some (24, false), .mv (.tmp 3)⟩,
  ⟨some 26, some (24, false), .un .not (.tmp 25)⟩,
  ⟨some 27, some (24, false), .mv (.tmp 26)⟩,
  ⟨some 28, some (27, true), .faddr 1 (.tmp 1)⟩,
  ⟨some 29, some (27, true), .load false 1 (.tmp 28)⟩,
  ⟨some 30, some (27, true), .bin .neq .plain (.tmp 29) (.lit (.d (.str [])))⟩,
  ⟨some 31, some (24, false), .pick (.tmp 27) (.tmp 30) (.lit (.d (.bool false)))⟩,
  ⟨some 32, none, .pick (.tmp 24) (.lit (.d (.bool true))) (.tmp 31)⟩,
  ⟨some 33, none, .mv (.tmp 32)⟩,
  ⟨some 34, some (33, false), .mv (.tmp 4)⟩,
  ⟨some 35, some (33, false), .un .not (.tmp 34)⟩,
  ⟨some 36, some (33, false), .mv (.tmp 35)⟩,
  ⟨some 37, some (36, true), .faddr 2 (.tmp 1)⟩,
  ⟨some 38, some (36, true), .load false 1 (.tmp 37)⟩,
  ⟨some 39, some (36, true), .bin .neq .plain (.tmp 38) (.lit (.d (.str [])))⟩,
  ⟨some 40, some (33, false), .pick (.tmp 36) (.tmp 39) (.lit (.d (.bool false)))⟩,
  ⟨some 41, none, .pick (.tmp 33) (.lit (.d (.bool true))) (.tmp 40)⟩,
  ⟨some 42, none, .mv (.tmp 41)⟩,
  ⟨some 43, some (42, false), .mv (.tmp 5)⟩,
  ⟨some 44, some (42, false), .un .not (.tmp 43)⟩,
  ⟨some 45, some (42, false), .mv (.tmp 44)⟩,
  ⟨some 46, some (45, true), .faddr 3 (.tmp 1)⟩,
  ⟨some 47, some (45, true), .load false 1 (.tmp 46)⟩,
  ⟨some 48, some (45, true), .bin .neq .plain (.tmp 47) (.lit (.d (.int .i64 0)))⟩,
  ⟨some 49, some (42, false), .pick (.tmp 45) (.tmp 48) (.lit (.d (.bool false)))⟩,
  ⟨some 50, none, .pick (.tmp 42) (.lit (.d (.bool true))) (.tmp 49)⟩,
  ⟨some 51, none, .mv (.tmp 50)⟩,
  ⟨some 52, some (51, false), .mv (.tmp 6)⟩,
  ⟨some 53, some (51, false), .un .not (.tmp 52)⟩,
  ⟨some 54, some (51, false), .mv (.tmp 53)⟩,
  ⟨some 55, some (54, true), .faddr 4 (.tmp 1)⟩,
  ⟨some 56, some (54, true), .load false 1 (.tmp 55)⟩,
  ⟨some 57, some (54, true), .len .sl (.tmp 56)⟩,
  ⟨some 58, some (54, true), .bin .gtr .plain (.tmp 57) (.lit (.d (.int .i64 0)))⟩,
  ⟨some 59, some (51, false), .pick (.tmp 54) (.tmp 58) (.lit (.d (.bool false)))⟩,
  ⟨some 60, none, .pick (.tmp 51) (.lit (.d (.bool true))) (.tmp 59)⟩])
 (.cond (.tmp 60) (.seq (.ops [⟨some 2, none, .mv (.lit (.d (.int .i64 60)))⟩])
 .ret) .skip))
 (.seq (.seq (.ops [⟨some 61, none, .mv (.tmp 3)⟩,
  ⟨some 62, none, .mv (.tmp 61)⟩,
  ⟨some 63, some (62, true), .faddr 1 (.tmp 1)⟩,
  ⟨some 64, some (62, true), .load false 1 (.tmp 63)⟩,
  ⟨some 65, some (62, true), .call false 11 [(.tmp 64)]⟩,
  ⟨some 66, some (62, true), .un .not (.tmp 65)⟩,
  ⟨some 67, none, .pick (.tmp 62) (.tmp 66) (.lit (.d (.bool false)))⟩,
  ⟨some 68, none, .mv (.tmp 67)⟩,
  ⟨some 69, some (68, false), .mv (.tmp 4)⟩,
  ⟨some 70, some (68, false), .mv (.tmp 69)⟩,
  ⟨some 71, some (70, true), .faddr 2 (.tmp 1)⟩,
  ⟨some 72, some (70, true), .load false 1 (.tmp 71)⟩,
  ⟨some 73, some (70, true), .call false 11 [(.tmp 72)]⟩,
  ⟨some 74, some (70, true), .un .not (.tmp 73)⟩,
  ⟨some 75, some (68, false), .pick (.tmp 70) (.tmp 74) (.lit (.d (.bool false)))⟩,
  ⟨some 76, none, .pick (.tmp 68) (.lit (.d (.bool true))) (.tmp 75)⟩])
 (.cond (.tmp 76) (.seq (.ops [⟨some 2, none, .mv (.lit (.d (.int .i64 61)))⟩])
 .ret) .skip))
 (.seq (.seq (.ops [⟨some 77, none, .mv (.tmp 6)⟩,
  ⟨some 78, none, .mv (.tmp 77)⟩,
  ⟨some 79, some (78, true), .faddr 4 (.tmp 1)⟩,
  ⟨some 80, some (78, true), .load false 1 (.tmp 79)⟩,
  ⟨some 81, some (78, true), .len .sl (.tmp 80)⟩,
  ⟨some 82, some (78, true), .bin .lss .plain (.tmp 81) (.lit (.d (.int .i64 1)))⟩,
  ⟨some 83, some (78, true), .mv (.tmp 82)⟩,
  ⟨some 84, some (83, false), .faddr 4 (.tmp 1)⟩,
  ⟨some 85, some (83, false), .load false 1 (.tmp 84)⟩,
  ⟨some 86, some (83, false), .len .sl (.tmp 85)⟩,
  ⟨some 87, some (83, false), .bin .gtr .plain (.tmp 86) (.lit (.d (.int .i64 4)))⟩,
  ⟨some 88, some (78, true), .pick (.tmp 83) (.lit (.d (.bool true))) (.tmp 87)⟩,
  ⟨some 89, none, .pick (.tmp 78) (.tmp 88) (.lit (.d (.bool false)))⟩])
 (.cond (.tmp 89) (.seq (.ops [⟨some 2, none, .mv (.lit (.d (.int .i64 62)))⟩])
 .ret) .skip))
 (.seq (.seq (.ops [⟨some 7, none, .mv (.lit (.d (.int .i64 0)))⟩])
 (.block 0 (.loop [7] [2, 90, 91, 92, 93, 94, 95, 96, 97, 98, 99, 100, 101, 102, 103] (.seq (.seq (.ops [⟨some 90, none, .mv (.tmp 7)⟩,
  ⟨some 91, none, .faddr 4 (.tmp 1)⟩,
  ⟨some 92, none, .load false 1 (.tmp 91)⟩,
  ⟨some 93, none, .len .sl (.tmp 92)⟩,
  ⟨some 94, none, .bin .lss .plain (.tmp 90) (.tmp 93)⟩])
 (.cond (.tmp 94) .skip (.exit 0)))
 (.seq (.block 1 (.seq (.ops [⟨some 97, none, .faddr 4 (.tmp 1)⟩,
  ⟨some 98, none, .load false 1 (.tmp 97)⟩,
  ⟨some 99, none, .mv (.tmp 7)⟩,
  ⟨some 100, none, .iaddr none 1 (.tmp 98) (.tmp 99)⟩,
  ⟨some 101, none, .load false 1 (.tmp 100)⟩,
  ⟨some 102, none, .len .sl (.tmp 101)⟩,
  ⟨some 103, none, .bin .gtr .plain (.tmp 102) (.lit (.d (.int .i64 64)))⟩])
 (.cond (.tmp 103) (.seq (.ops [⟨some 2, none, .mv (.lit (.d (.int .i64 62)))⟩])
 .ret) .skip)))
 (.ops [⟨some 95, none, .mv (.tmp 7)⟩,
  ⟨some 96, none, .bin .add .plain (.tmp 95) (.lit (.d (.int .i64 1)))⟩,
  ⟨some 7, none, .mv (.tmp 96)⟩]))))))
 (.seq (.seq (.ops [⟨some 104, none, .faddr 3 (.tmp 1)⟩,
  ⟨some 105, none, .load false 1 (.tmp 104)⟩,
  ⟨some 106, none, .bin .lss .plain (.tmp 105) (.lit (.d (.int .i64 0)))⟩,
  ⟨some 107, none, .mv (.tmp 106)⟩,
  ⟨some 108, some (107, false), .faddr 3 (.tmp 1)⟩,
  ⟨some 109, some (107, false), .load false 1 (.tmp 108)⟩,
  ⟨some 110, some (107, false), .bin .gtr .plain (.tmp 109) (.lit (.d (.int .i64 9007199254740992)))⟩,
  ⟨some 111, none, .pick (.tmp 107) (.lit (.d (.bool true))) (.tmp 110)⟩])
 (.cond (.tmp 111) (.seq (.ops [⟨some 2, none, .mv (.lit (.d (.int .i64 60)))⟩])
 .ret) .skip))
 (.seq (.ops [⟨some 2, none, .mv (.lit (.d (.int .i64 0)))⟩])
 .ret))))))))⟩
theorem isA_r06_Check : isF Try.prog n_r06_Check A_r06_Check := ⟨Try.f18, _, Try.func18, by decide +kernel, rfl, by kernel_rfl, by kernel_rfl, by decide, by kernel_rfl, rfl, by kernel_rfl⟩
end Go.Proofs.Ytahbjkanmagndaa

/- Resolved forms, each with the theorem that it is its function's. Printed by program. -/
import Derived.Test.YthmdpooklflkfaaNm
import Derived.KernelRfl
set_option linter.all false
set_option maxRecDepth 100000
set_option linter.unusedVariables false
namespace Go.Proofs.Ythmdpooklflkfaa
open Go.AW
/-- bulla/bullaref08.CheckBatch -/
def A_r08_CheckBatch : AF := ⟨1, 74, [(.tmp 2)],
 (.seq (.ops [⟨some 2, none, .mv (.lit (.d (.int .i64 0)))⟩])
 (.seq (.seq (.ops [⟨some 8, none, .mv (.tmp 0)⟩,
  ⟨some 9, none, .len .sl (.tmp 8)⟩,
  ⟨some 10, none, .bin .gtr .plain (.tmp 9) (.lit (.d (.int .i64 4)))⟩])
 (.cond (.tmp 10) (.seq (.ops [⟨some 2, none, .mv (.lit (.d (.int .i64 3)))⟩])
 .ret) .skip))
 (.seq (.seq (.ops [⟨some 3, none, .mv (.lit (.d (.int .i64 0)))⟩])
 (.block 0 (.loop [3] [2, 4, 5, 11, 12, 13, 14, 15, 16, 17, 18, 19, 20, 21, 22, 23, 24, 25, 26, 27, 28, 29, 30, 31, 32, 33, 34] (.seq (.seq (.ops [⟨some 11, none, .mv (.tmp 3)⟩,
  ⟨some 12, none, .mv (.tmp 0)⟩,
  ⟨some 13, none, .len .sl (.tmp 12)⟩,
  ⟨some 14, none, .bin .lss .plain (.tmp 11) (.tmp 13)⟩])
 (.cond (.tmp 14) .skip (.exit 0)))
 (.seq (.block 1 (.seq (.seq (.ops [⟨some 17, none, .mv (.tmp 0)⟩,
  ⟨some 18, none, .mv (.tmp 3)⟩,
  ⟨some 19, none, .iaddr none 9 (.tmp 17) (.tmp 18)⟩,
  ⟨some 20, none, .faddr 0 (.tmp 19)⟩,
  ⟨some 21, none, .load true 7 (.tmp 20)⟩,
  ⟨some 22, none, .call false 11 [(.tmp 21)]⟩,
  ⟨some 4, none, .mv (.tmp 22)⟩])
 (.seq (.ops [⟨some 23, none, .mv (.tmp 4)⟩,
  ⟨some 24, none, .bin .neq .plain (.tmp 23) (.lit (.d (.int .i64 0)))⟩])
 (.cond (.tmp 24) (.seq (.ops [⟨some 25, none, .mv (.tmp 4)⟩,
  ⟨some 2, none, .mv (.tmp 25)⟩])
 .ret) .skip)))
 (.seq (.ops [⟨some 26, none, .mv (.tmp 0)⟩,
  ⟨some 27, none, .mv (.tmp 3)⟩,
  ⟨some 28, none, .iaddr none 9 (.tmp 26) (.tmp 27)⟩,
  ⟨some 29, none, .faddr 7 (.tmp 28)⟩,
  ⟨some 30, none, .load true 2 (.tmp 29)⟩,
  ⟨some 31, none, .call false 13 [(.tmp 30)]⟩,
  ⟨some 5, none, .mv (.tmp 31)⟩])
 (.seq (.ops [⟨some 32, none, .mv (.tmp 5)⟩,
  ⟨some 33, none, .bin .neq .plain (.tmp 32) (.lit (.d (.int .i64 0)))⟩])
 (.cond (.tmp 33) (.seq (.ops [⟨some 34, none, .mv (.tmp 5)⟩,
  ⟨some 2, none, .mv (.tmp 34)⟩])
 .ret) .skip)))))
 (.ops [⟨some 15, none, .mv (.tmp 3)⟩,
  ⟨some 16, none, .bin .add .plain (.tmp 15) (.lit (.d (.int .i64 1)))⟩,
  ⟨some 3, none, .mv (.tmp 16)⟩]))))))
 (.seq (.seq (.ops [⟨some 6, none, .mv (.lit (.d (.int .i64 0)))⟩])
 (.block 2 (.loop [6] [2, 7, 35, 36, 37, 38, 39, 40, 41, 42, 43, 44, 45, 46, 47, 48, 49, 50, 51, 52, 53, 54, 55, 56, 57, 58, 59, 60, 61, 62, 63, 64, 65, 66, 67, 68, 69, 70, 71, 72, 73] (.seq (.seq (.ops [⟨some 35, none, .mv (.tmp 6)⟩,
  ⟨some 36, none, .mv (.tmp 0)⟩,
  ⟨some 37, none, .len .sl (.tmp 36)⟩,
  ⟨some 38, none, .bin .lss .plain (.tmp 35) (.tmp 37)⟩])
 (.cond (.tmp 38) .skip (.exit 2)))
 (.seq (.block 3 (.seq (.ops [⟨some 7, none, .mv (.lit (.d (.int .i64 0)))⟩])
 (.block 4 (.loop [7] [2, 41, 42, 43, 44, 45, 46, 47, 48, 49, 50, 51, 52, 53, 54, 55, 56, 57, 58, 59, 60, 61, 62, 63, 64, 65, 66, 67, 68, 69, 70, 71, 72, 73] (.seq (.seq (.ops [⟨some 41, none, .mv (.tmp 7)⟩,
  ⟨some 42, none, .mv (.tmp 6)⟩,
  ⟨some 43, none, .bin .lss .plain (.tmp 41) (.tmp 42)⟩])
 (.cond (.tmp 43) .skip (.exit 4)))
 (.seq (.block 5 (.seq (.draw [⟨some 46, none, .mv (.tmp 0)⟩,
  ⟨some 47, none, .mv (.tmp 6)⟩,
  ⟨some 48, none, .iaddr none 9 (.tmp 46) (.tmp 47)⟩,
  ⟨some 49, none, .faddr 0 (.tmp 48)⟩,
  ⟨some 50, none, .faddr 0 (.tmp 49)⟩,
  ⟨some 51, none, .load false 1 (.tmp 50)⟩,
  ⟨some 52, none, .mv (.tmp 0)⟩,
  ⟨some 53, none, .mv (.tmp 7)⟩,
  ⟨some 54, none, .iaddr none 9 (.tmp 52) (.tmp 53)⟩,
  ⟨some 55, none, .faddr 0 (.tmp 54)⟩,
  ⟨some 56, none, .faddr 0 (.tmp 55)⟩,
  ⟨some 57, none, .load false 1 (.tmp 56)⟩,
  ⟨some 58, none, .bin .eql .plain (.tmp 51) (.tmp 57)⟩,
  ⟨some 59, none, .mv (.tmp 58)⟩,
  ⟨some 60, some (59, true), .mv (.tmp 0)⟩,
  ⟨some 61, some (59, true), .mv (.tmp 6)⟩,
  ⟨some 62, some (59, true), .iaddr none 9 (.tmp 60) (.tmp 61)⟩,
  ⟨some 63, some (59, true), .faddr 0 (.tmp 62)⟩,
  ⟨some 64, some (59, true), .faddr 1 (.tmp 63)⟩,
  ⟨some 65, some (59, true), .load false 1 (.tmp 64)⟩,
  ⟨some 66, some (59, true), .mv (.tmp 0)⟩,
  ⟨some 67, some (59, true), .mv (.tmp 7)⟩,
  ⟨some 68, some (59, true), .iaddr none 9 (.tmp 66) (.tmp 67)⟩,
  ⟨some 69, some (59, true), .faddr 0 (.tmp 68)⟩,
  ⟨some 70, some (59, true), .faddr 1 (.tmp 69)⟩,
  ⟨some 71, some (59, true), .load false 1 (.tmp 70)⟩,
  ⟨some 72, some (59, true), .bin .eql .plain (.tmp 65) (.tmp 71)⟩,
  ⟨some 73, none, .pick (.tmp 59) (.tmp 72) (.lit (.d (.bool false)))⟩] [[], [], [0, 1], [2], [3], [4], [], [], [6, 7], [8], [9], [10], [5, 11], [12], [13], [13], [14, 15, 13], [16, 13], [17, 13], [18, 13], [13], [13], [20, 21, 13], [22, 13], [23, 13], [24, 13], [19, 25, 13], [13, 26]] [(0, []), (1, []), (2, []), (3, []), (4, []), (5, []), (6, []), (7, []), (8, []), (9, []), (10, []), (11, []), (12, []), (13, []), (14, []), (15, []), (16, []), (17, []), (18, []), (19, []), (20, []), (21, []), (22, []), (23, []), (24, []), (25, []), (26, []), (27, [])] [0, 0, 3, 7, 15, 31, 0, 0, 192, 448, 960, 1984, 4095, 8191, 16383, 16383, 65535, 131071, 262143, 524287, 16383, 16383, 3162111, 7356415, 15745023, 32522239, 67108863, 134217727])
 (.cond (.tmp 73) (.seq (.ops [⟨some 2, none, .mv (.lit (.d (.int .i64 5)))⟩])
 .ret) .skip)))
 (.ops [⟨some 44, none, .mv (.tmp 7)⟩,
  ⟨some 45, none, .bin .add .plain (.tmp 44) (.lit (.d (.int .i64 1)))⟩,
  ⟨some 7, none, .mv (.tmp 45)⟩])))))))
 (.ops [⟨some 39, none, .mv (.tmp 6)⟩,
  ⟨some 40, none, .bin .add .plain (.tmp 39) (.lit (.d (.int .i64 1)))⟩,
  ⟨some 6, none, .mv (.tmp 40)⟩]))))))
 (.seq (.ops [⟨some 2, none, .mv (.lit (.d (.int .i64 0)))⟩])
 .ret)))))⟩
theorem isA_r08_CheckBatch : isF Try.prog n_r08_CheckBatch A_r08_CheckBatch := ⟨Try.f15, _, Try.func15, by decide +kernel, rfl, by kernel_rfl, by kernel_rfl, by decide, by kernel_rfl, rfl, by kernel_rfl⟩
/-- bulla/request.Key -/
def A_request_Key : AF := ⟨1, 11, [(.tmp 2)],
 (.seq (.ops [⟨some 2, none, .mv (.lit (.d (.int .i64 0)))⟩])
 (.seq (.seq (.ops [⟨some 3, none, .mv (.tmp 0)⟩,
  ⟨some 4, none, .bin .lss .plain (.tmp 3) (.lit (.d (.int .i64 0)))⟩,
  ⟨some 5, none, .mv (.tmp 4)⟩,
  ⟨some 6, some (5, false), .mv (.tmp 0)⟩,
  ⟨some 7, some (5, false), .bin .geq .plain (.tmp 6) (.lit (.d (.int .i64 8)))⟩,
  ⟨some 8, none, .pick (.tmp 5) (.lit (.d (.bool true))) (.tmp 7)⟩])
 (.cond (.tmp 8) (.seq (.ops [⟨some 2, none, .mv (.lit (.d (.int .i64 (-1))))⟩])
 .ret) .skip))
 (.seq (.ops [⟨some 9, none, .mv (.tmp 0)⟩,
  ⟨some 10, none, .bin .add .plain (.lit (.d (.int .i64 13))) (.tmp 9)⟩,
  ⟨some 2, none, .mv (.tmp 10)⟩])
 .ret)))⟩
theorem isA_request_Key : isF Try.prog n_request_Key A_request_Key := ⟨Try.f16, _, Try.func16, by decide +kernel, rfl, by kernel_rfl, by kernel_rfl, by decide, by kernel_rfl, rfl, by kernel_rfl⟩
/-- bulla/bullaref08.Key -/
def A_r08_Key : AF := ⟨1, 11, [(.tmp 2)],
 (.seq (.ops [⟨some 2, none, .mv (.lit (.d (.int .i64 0)))⟩])
 (.seq (.seq (.ops [⟨some 3, none, .mv (.tmp 0)⟩,
  ⟨some 4, none, .bin .lss .plain (.tmp 3) (.lit (.d (.int .i64 0)))⟩,
  ⟨some 5, none, .mv (.tmp 4)⟩,
  ⟨some 6, some (5, false), .mv (.tmp 0)⟩,
  ⟨some 7, some (5, false), .bin .geq .plain (.tmp 6) (.lit (.d (.int .i64 8)))⟩,
  ⟨some 8, none, .pick (.tmp 5) (.lit (.d (.bool true))) (.tmp 7)⟩])
 (.cond (.tmp 8) (.seq (.ops [⟨some 2, none, .mv (.lit (.d (.int .i64 (-1))))⟩])
 .ret) .skip))
 (.seq (.ops [⟨some 9, none, .mv (.tmp 0)⟩,
  ⟨some 10, none, .bin .add .plain (.lit (.d (.int .i64 13))) (.tmp 9)⟩,
  ⟨some 2, none, .mv (.tmp 10)⟩])
 .ret)))⟩
theorem isA_r08_Key : isF Try.prog n_r08_Key A_r08_Key := ⟨Try.f17, _, Try.func17, by decide +kernel, rfl, by kernel_rfl, by kernel_rfl, by decide, by kernel_rfl, rfl, by kernel_rfl⟩
/-- bulla/request.Same -/
def A_request_Same : AF := ⟨2, 8, [(.tmp 4)],
 (.seq (.ops [⟨some 4, none, .mv (.lit (.d (.bool false)))⟩])
 (.seq (.ops [⟨some 5, none, .mv (.tmp 0)⟩,
  ⟨some 6, none, .mv (.tmp 1)⟩,
  ⟨some 7, none, .call false 54 [(.tmp 5), (.tmp 6), (.lit (.fn (.func 55) [] []))]⟩,
  ⟨some 4, none, .mv (.tmp 7)⟩])
 .ret))⟩
theorem isA_request_Same : isF Try.prog n_request_Same A_request_Same := ⟨Try.f18, _, Try.func18, by decide +kernel, rfl, by kernel_rfl, by kernel_rfl, by decide, by kernel_rfl, rfl, by kernel_rfl⟩
/-- bulla/bullaref08.Same -/
def A_r08_Same : AF := ⟨2, 42, [(.tmp 4)],
 (.seq (.ops [⟨some 4, none, .mv (.lit (.d (.bool false)))⟩])
 (.seq (.seq (.ops [⟨some 6, none, .mv (.tmp 0)⟩,
  ⟨some 7, none, .len .sl (.tmp 6)⟩,
  ⟨some 8, none, .mv (.tmp 1)⟩,
  ⟨some 9, none, .len .sl (.tmp 8)⟩,
  ⟨some 10, none, .bin .neq .plain (.tmp 7) (.tmp 9)⟩])
 (.cond (.tmp 10) (.seq (.ops [⟨some 4, none, .mv (.lit (.d (.bool false)))⟩])
 .ret) .skip))
 (.seq (.seq (.ops [⟨some 5, none, .mv (.lit (.d (.int .i64 0)))⟩])
 (.block 0 (.loop [5] [4, 11, 12, 13, 14, 15, 16, 17, 18, 19, 20, 21, 22, 23, 24, 25, 26, 27, 28, 29, 30, 31, 32, 33, 34, 35, 36, 37, 38, 39, 40, 41] (.seq (.seq (.ops [⟨some 11, none, .mv (.tmp 5)⟩,
  ⟨some 12, none, .mv (.tmp 0)⟩,
  ⟨some 13, none, .len .sl (.tmp 12)⟩,
  ⟨some 14, none, .bin .lss .plain (.tmp 11) (.tmp 13)⟩])
 (.cond (.tmp 14) .skip (.exit 0)))
 (.seq (.block 1 (.seq (.draw [⟨some 17, none, .mv (.tmp 0)⟩,
  ⟨some 18, none, .mv (.tmp 5)⟩,
  ⟨some 19, none, .iaddr none 9 (.tmp 17) (.tmp 18)⟩,
  ⟨some 20, none, .faddr 7 (.tmp 19)⟩,
  ⟨some 21, none, .load true 2 (.tmp 20)⟩,
  ⟨some 22, none, .mv (.tmp 1)⟩,
  ⟨some 23, none, .mv (.tmp 5)⟩,
  ⟨some 24, none, .iaddr none 9 (.tmp 22) (.tmp 23)⟩,
  ⟨some 25, none, .faddr 7 (.tmp 24)⟩,
  ⟨some 26, none, .load true 2 (.tmp 25)⟩,
  ⟨some 27, none, .bin .neq (.ints 2) (.tmp 21) (.tmp 26)⟩,
  ⟨some 28, none, .mv (.tmp 27)⟩,
  ⟨some 29, some (28, false), .mv (.tmp 0)⟩,
  ⟨some 30, some (28, false), .mv (.tmp 5)⟩,
  ⟨some 31, some (28, false), .iaddr none 9 (.tmp 29) (.tmp 30)⟩,
  ⟨some 32, some (28, false), .faddr 0 (.tmp 31)⟩,
  ⟨some 33, some (28, false), .load true 7 (.tmp 32)⟩,
  ⟨some 34, some (28, false), .mv (.tmp 1)⟩,
  ⟨some 35, some (28, false), .mv (.tmp 5)⟩,
  ⟨some 36, some (28, false), .iaddr none 9 (.tmp 34) (.tmp 35)⟩,
  ⟨some 37, some (28, false), .faddr 0 (.tmp 36)⟩,
  ⟨some 38, some (28, false), .load true 7 (.tmp 37)⟩,
  ⟨some 39, some (28, false), .call false 41 [(.tmp 33), (.tmp 38)]⟩,
  ⟨some 40, some (28, false), .un .not (.tmp 39)⟩,
  ⟨some 41, none, .pick (.tmp 28) (.lit (.d (.bool true))) (.tmp 40)⟩] [[], [], [0, 1], [2], [3], [], [], [5, 6], [7], [8], [4, 9], [10], [11], [11], [12, 13, 11], [14, 11], [15, 11], [11], [11], [17, 18, 11], [19, 11], [20, 11], [16, 21, 11, 11], [22, 11], [11, 23]] [(0, []), (1, []), (2, []), (3, []), (4, []), (5, []), (6, []), (7, []), (8, []), (9, []), (10, []), (11, []), (12, []), (13, []), (14, []), (15, []), (16, []), (17, []), (18, []), (19, []), (20, []), (21, []), (22, []), (23, []), (24, [])] [0, 0, 3, 7, 15, 0, 0, 96, 224, 480, 1023, 2047, 4095, 4095, 16383, 32767, 65535, 4095, 4095, 397311, 921599, 1970175, 4194303, 8388607, 16777215])
 (.cond (.tmp 41) (.seq (.ops [⟨some 4, none, .mv (.lit (.d (.bool false)))⟩])
 .ret) .skip)))
 (.ops [⟨some 15, none, .mv (.tmp 5)⟩,
  ⟨some 16, none, .bin .add .plain (.tmp 15) (.lit (.d (.int .i64 1)))⟩,
  ⟨some 5, none, .mv (.tmp 16)⟩]))))))
 (.seq (.ops [⟨some 4, none, .mv (.lit (.d (.bool true)))⟩])
 .ret))))⟩
theorem isA_r08_Same : isF Try.prog n_r08_Same A_r08_Same := ⟨Try.f19, _, Try.func19, by decide +kernel, rfl, by kernel_rfl, by kernel_rfl, by decide, by kernel_rfl, rfl, by kernel_rfl⟩
/-- bulla/request.Clone -/
def Am_request_Clone : AF := ⟨1, 24, [(.tmp 2)],
 (.seq (.ops [⟨some 2, none, .mv (.lit (.exact []))⟩])
 (.seq (.ops [⟨some 3, none, .mv (.lit (.exact []))⟩])
 (.seq (.seq (.ops [⟨some 6, none, .mv (.tmp 0)⟩,
  ⟨some 7, none, .len .sl (.tmp 6)⟩,
  ⟨some 8, none, .mv (.lit (.d (.int .i64 0)))⟩])
 (.block 0 (.loop [3, 8] [5, 9, 10, 11, 12, 13, 14, 15, 16, 17, 18, 19, 20, 21, 22] (.seq (.ops [⟨some 9, none, .bin .lss .plain (.tmp 8) (.tmp 7)⟩])
 (.seq (.cond (.tmp 9) .skip (.exit 0))
 (.seq (.block 1 (.seq (.ops [⟨some 10, none, .iaddr none 9 (.tmp 6) (.tmp 8)⟩,
  ⟨some 11, none, .load true 9 (.tmp 10)⟩,
  ⟨some 5, none, .alloc [(.d (.int .i64 0)), (.d (.int .i64 0)), (.d (.int .i64 0)), (.d (.str [])), (.d (.str [])), (.d (.int .i64 0)), (.exact []), (.d (.int .i64 0)), (.d (.int .i64 0))]⟩,
  ⟨none, none, .store 9 (.tmp 5) (.tmp 11)⟩])
 (.seq (.ops [⟨some 12, none, .faddr 0 (.tmp 5)⟩,
  ⟨some 13, none, .faddr 2 (.tmp 12)⟩,
  ⟨some 14, none, .load true 5 (.tmp 13)⟩,
  ⟨some 15, none, .call true 57 [(.tmp 14)]⟩,
  ⟨some 16, none, .faddr 0 (.tmp 5)⟩,
  ⟨some 17, none, .faddr 2 (.tmp 16)⟩,
  ⟨none, none, .store 5 (.tmp 17) (.tmp 15)⟩])
 (.ops [⟨some 18, none, .mv (.tmp 3)⟩,
  ⟨some 19, none, .load true 9 (.tmp 5)⟩,
  ⟨some 20, none, .mkslice true 9 1 [(.d (.int .i64 0)), (.d (.int .i64 0)), (.d (.int .i64 0)), (.d (.str [])), (.d (.str [])), (.d (.int .i64 0)), (.exact []), (.d (.int .i64 0)), (.d (.int .i64 0))] [(0, 9, (.tmp 19))]⟩,
  ⟨some 21, none, .append true 9 104 [(.d (.int .i64 0)), (.d (.int .i64 0)), (.d (.int .i64 0)), (.d (.str [])), (.d (.str [])), (.d (.int .i64 0)), (.exact []), (.d (.int .i64 0)), (.d (.int .i64 0))] (.tmp 18) (.tmp 20)⟩,
  ⟨some 3, none, .mv (.tmp 21)⟩]))))
 (.ops [⟨some 22, none, .bin .add .plain (.tmp 8) (.lit (.d (.int .i64 1)))⟩,
  ⟨some 8, none, .mv (.tmp 22)⟩])))))))
 (.seq (.ops [⟨some 23, none, .mv (.tmp 3)⟩,
  ⟨some 2, none, .mv (.tmp 23)⟩])
 .ret))))⟩
theorem isAm_request_Clone : isF Try.prog n_request_Clone Am_request_Clone := ⟨Try.f20, _, Try.func20, by decide +kernel, rfl, by kernel_rfl, by kernel_rfl, by decide, by kernel_rfl, rfl, by kernel_rfl⟩
/-- bulla/request.Bytes -/
def A_request_Bytes : AF := ⟨1, 21, [(.tmp 2), (.tmp 3)],
 (.seq (.ops [⟨some 1, none, .boxi (.tmp 0)⟩,
  ⟨some 2, none, .mv (.lit (.exact []))⟩,
  ⟨some 3, none, .mv (.lit (.d (.int .i64 0)))⟩])
 (.seq (.seq (.ops [⟨some 5, none, .load true 7 (.tmp 1)⟩,
  ⟨some 6, none, .call false 10 [(.tmp 5)]⟩,
  ⟨some 4, none, .mv (.tmp 6)⟩])
 (.seq (.ops [⟨some 7, none, .mv (.tmp 4)⟩,
  ⟨some 8, none, .bin .neq .plain (.tmp 7) (.lit (.d (.int .i64 0)))⟩])
 (.cond (.tmp 8) (.seq (.ops [⟨some 9, none, .mv (.tmp 4)⟩,
  ⟨some 2, none, .mv (.lit (.exact []))⟩,
  ⟨some 3, none, .mv (.tmp 9)⟩])
 .ret) .skip)))
 (.seq (.draw [⟨some 10, none, .faddr 0 (.tmp 1)⟩,
  ⟨some 11, none, .load false 1 (.tmp 10)⟩,
  ⟨some 12, none, .conv (.int .u64) (.tmp 11)⟩,
  ⟨some 13, none, .call false 59 [(.lit (.exact [])), (.tmp 12)]⟩,
  ⟨some 14, none, .faddr 1 (.tmp 1)⟩,
  ⟨some 15, none, .load false 1 (.tmp 14)⟩,
  ⟨some 16, none, .conv (.int .u64) (.tmp 15)⟩,
  ⟨some 17, none, .call false 59 [(.tmp 13), (.tmp 16)]⟩,
  ⟨some 18, none, .faddr 2 (.tmp 1)⟩,
  ⟨some 19, none, .load true 5 (.tmp 18)⟩,
  ⟨some 20, none, .call false 58 [(.tmp 17), (.tmp 19)]⟩,
  ⟨some 2, none, .mv (.tmp 20)⟩,
  ⟨some 3, none, .mv (.lit (.d (.int .i64 0)))⟩] [[], [0], [1], [2], [], [4], [5], [3, 6, 3], [], [8], [7, 9, 7], [10, 10, 0, 1, 2, 3, 4, 5, 6, 7, 8, 9, 10], [11, 0, 1, 2, 3, 4, 5, 6, 7, 8, 9, 10, 11]] [(0, []), (1, []), (2, []), (4, []), (5, []), (6, []), (8, []), (9, []), (3, [14, 18]), (7, [18]), (10, []), (11, []), (12, [])] [0, 1, 3, 7, 0, 16, 48, 127, 0, 256, 1023, 2047, 4095])
 .ret)))⟩
theorem isA_request_Bytes : isF Try.prog n_request_Bytes A_request_Bytes := ⟨Try.f21, _, Try.func21, by decide +kernel, rfl, by kernel_rfl, by kernel_rfl, by decide, by kernel_rfl, rfl, by kernel_rfl⟩
/-- bytes.Equal -/
def A_bytes_Equal : AF := ⟨2, 10, [(.tmp 4)],
 (.seq (.ops [⟨some 4, none, .mv (.lit (.d (.bool false)))⟩])
 (.seq (.ops [⟨some 5, none, .mv (.tmp 0)⟩,
  ⟨some 6, none, .conv .toStr (.tmp 5)⟩,
  ⟨some 7, none, .mv (.tmp 1)⟩,
  ⟨some 8, none, .conv .toStr (.tmp 7)⟩,
  ⟨some 9, none, .bin .eql .plain (.tmp 6) (.tmp 8)⟩,
  ⟨some 4, none, .mv (.tmp 9)⟩])
 .ret))⟩
theorem isA_bytes_Equal : isF Try.prog n_bytes_Equal A_bytes_Equal := ⟨Try.f24, _, Try.func24, by decide +kernel, rfl, by kernel_rfl, by kernel_rfl, by decide, by kernel_rfl, rfl, by kernel_rfl⟩
/-- bulla/ideal.NewTable -/
def A_ideal_NewTable : AF := ⟨0, 4, [(.tmp 0)],
 (.seq (.ops [⟨some 0, none, .mv (.lit (.d .nilp))⟩])
 (.seq (.ops [⟨some 1, none, .mkmap⟩,
  ⟨some 2, none, .build [(.exact []), (.d .nilmap)] [(1, 1, (.tmp 1))]⟩,
  ⟨some 3, none, .boxi (.tmp 2)⟩,
  ⟨some 0, none, .mv (.tmp 3)⟩])
 .ret))⟩
theorem isA_ideal_NewTable : isF Try.prog n_ideal_NewTable A_ideal_NewTable := ⟨Try.f29, _, Try.func29, by decide +kernel, rfl, by kernel_rfl, by kernel_rfl, by decide, by kernel_rfl, rfl, by kernel_rfl⟩
/-- bulla/ideal.NewLedger -/
def A_ideal_NewLedger : AF := ⟨0, 4, [(.tmp 0)],
 (.seq (.ops [⟨some 0, none, .mv (.lit (.d .nilp))⟩])
 (.seq (.ops [⟨some 1, none, .mkmap⟩,
  ⟨some 2, none, .build [(.exact []), (.d .nilmap)] [(1, 1, (.tmp 1))]⟩,
  ⟨some 3, none, .boxi (.tmp 2)⟩,
  ⟨some 0, none, .mv (.tmp 3)⟩])
 .ret))⟩
theorem isA_ideal_NewLedger : isF Try.prog n_ideal_NewLedger A_ideal_NewLedger := ⟨Try.f30, _, Try.func30, by decide +kernel, rfl, by kernel_rfl, by kernel_rfl, by decide, by kernel_rfl, rfl, by kernel_rfl⟩
/-- bulla/request.Seal -/
def A_request_Seal : AF := ⟨3, 47, [(.cell 6 true 9), (.tmp 7)],
 (.seq (.ops [⟨some 5, none, .boxi (.tmp 2)⟩,
  ⟨some 6, none, .alloc [(.d (.int .i64 0)), (.d (.int .i64 0)), (.d (.int .i64 0)), (.d (.str [])), (.d (.str [])), (.d (.int .i64 0)), (.exact []), (.d (.int .i64 0)), (.d (.int .i64 0))]⟩,
  ⟨some 7, none, .mv (.lit (.d (.int .i64 0)))⟩])
 (.seq (.ops [⟨some 12, none, .load true 7 (.tmp 5)⟩,
  ⟨some 13, none, .call false 21 [(.tmp 12)]⟩,
  ⟨some 11, none, .mv (.tmp 13)⟩,
  ⟨some 14, none, .extract (.tmp 11) 0⟩,
  ⟨some 15, none, .extract (.tmp 11) 1⟩,
  ⟨some 8, none, .mv (.tmp 14)⟩,
  ⟨some 9, none, .mv (.tmp 15)⟩])
 (.seq (.seq (.ops [⟨some 16, none, .mv (.tmp 9)⟩,
  ⟨some 17, none, .bin .neq .plain (.tmp 16) (.lit (.d (.int .i64 0)))⟩])
 (.cond (.tmp 17) (.seq (.ops [⟨some 18, none, .build [(.d (.int .i64 0)), (.d (.int .i64 0)), (.d (.int .i64 0)), (.d (.str [])), (.d (.str [])), (.d (.int .i64 0)), (.exact []), (.d (.int .i64 0)), (.d (.int .i64 0))] []⟩,
  ⟨some 19, none, .mv (.tmp 9)⟩,
  ⟨none, none, .store 9 (.tmp 6) (.tmp 18)⟩,
  ⟨some 7, none, .mv (.tmp 19)⟩])
 .ret) .skip))
 (.seq (.seq (.ops [⟨some 20, none, .mv (.tmp 0)⟩,
  ⟨some 21, none, .mv (.tmp 1)⟩,
  ⟨some 22, none, .call false 65 [(.tmp 20), (.tmp 21)]⟩,
  ⟨some 23, none, .un .not (.tmp 22)⟩])
 (.cond (.tmp 23) (.seq (.ops [⟨some 24, none, .build [(.d (.int .i64 0)), (.d (.int .i64 0)), (.d (.int .i64 0)), (.d (.str [])), (.d (.str [])), (.d (.int .i64 0)), (.exact []), (.d (.int .i64 0)), (.d (.int .i64 0))] []⟩,
  ⟨none, none, .store 9 (.tmp 6) (.tmp 24)⟩,
  ⟨some 7, none, .mv (.lit (.d (.int .i64 2)))⟩])
 .ret) .skip))
 (.seq (.ops [⟨some 26, none, .mv (.tmp 1)⟩,
  ⟨some 27, none, .faddr 0 (.tmp 5)⟩,
  ⟨some 28, none, .load false 1 (.tmp 27)⟩,
  ⟨some 29, none, .call false 16 [(.tmp 28)]⟩,
  ⟨some 30, none, .mv (.tmp 0)⟩,
  ⟨some 31, none, .mv (.tmp 8)⟩,
  ⟨some 32, none, .call false 67 [(.tmp 30), (.tmp 31)]⟩,
  ⟨some 33, none, .call false 66 [(.tmp 26), (.tmp 29), (.tmp 32)]⟩,
  ⟨some 25, none, .mv (.tmp 33)⟩,
  ⟨some 34, none, .extract (.tmp 25) 0⟩,
  ⟨some 35, none, .extract (.tmp 25) 1⟩,
  ⟨some 10, none, .alloc [(.d (.int .i64 0)), (.d (.int .i64 0))]⟩,
  ⟨none, none, .store 2 (.tmp 10) (.tmp 34)⟩,
  ⟨some 9, none, .mv (.tmp 35)⟩])
 (.seq (.seq (.ops [⟨some 36, none, .mv (.tmp 9)⟩,
  ⟨some 37, none, .bin .neq .plain (.tmp 36) (.lit (.d (.int .i64 0)))⟩])
 (.cond (.tmp 37) (.seq (.ops [⟨some 38, none, .build [(.d (.int .i64 0)), (.d (.int .i64 0)), (.d (.int .i64 0)), (.d (.str [])), (.d (.str [])), (.d (.int .i64 0)), (.exact []), (.d (.int .i64 0)), (.d (.int .i64 0))] []⟩,
  ⟨some 39, none, .mv (.tmp 9)⟩,
  ⟨none, none, .store 9 (.tmp 6) (.tmp 38)⟩,
  ⟨some 7, none, .mv (.tmp 39)⟩])
 .ret) .skip))
 (.seq (.ops [⟨some 40, none, .faddr 2 (.tmp 5)⟩,
  ⟨some 41, none, .load true 5 (.tmp 40)⟩,
  ⟨some 42, none, .call false 57 [(.tmp 41)]⟩,
  ⟨some 43, none, .faddr 2 (.tmp 5)⟩,
  ⟨none, none, .store 5 (.tmp 43) (.tmp 42)⟩])
 (.seq (.ops [⟨some 44, none, .load true 7 (.tmp 5)⟩,
  ⟨some 45, none, .load true 2 (.tmp 10)⟩,
  ⟨some 46, none, .build [(.d (.int .i64 0)), (.d (.int .i64 0)), (.d (.int .i64 0)), (.d (.str [])), (.d (.str [])), (.d (.int .i64 0)), (.exact []), (.d (.int .i64 0)), (.d (.int .i64 0))] [(0, 7, (.tmp 44)), (7, 2, (.tmp 45))]⟩,
  ⟨none, none, .store 9 (.tmp 6) (.tmp 46)⟩,
  ⟨some 7, none, .mv (.lit (.d (.int .i64 0)))⟩])
 .ret))))))))⟩
theorem isA_request_Seal : isF Try.prog n_request_Seal A_request_Seal := ⟨Try.f31, _, Try.func31, by decide +kernel, rfl, by kernel_rfl, by kernel_rfl, by decide, by kernel_rfl, rfl, by kernel_rfl⟩
/-- bulla/request.Valid -/
def A_request_Valid : AF := ⟨3, 43, [(.tmp 6)],
 (.seq (.ops [⟨some 5, none, .boxi (.tmp 2)⟩,
  ⟨some 6, none, .mv (.lit (.d (.bool false)))⟩])
 (.seq (.ops [⟨some 12, none, .faddr 0 (.tmp 5)⟩,
  ⟨some 13, none, .load true 7 (.tmp 12)⟩,
  ⟨some 14, none, .call false 21 [(.tmp 13)]⟩,
  ⟨some 11, none, .mv (.tmp 14)⟩,
  ⟨some 15, none, .extract (.tmp 11) 0⟩,
  ⟨some 16, none, .extract (.tmp 11) 1⟩,
  ⟨some 7, none, .mv (.tmp 15)⟩,
  ⟨some 8, none, .mv (.tmp 16)⟩])
 (.seq (.seq (.ops [⟨some 17, none, .mv (.tmp 8)⟩,
  ⟨some 18, none, .bin .neq .plain (.tmp 17) (.lit (.d (.int .i64 0)))⟩])
 (.cond (.tmp 18) (.seq (.ops [⟨some 6, none, .mv (.lit (.d (.bool false)))⟩])
 .ret) .skip))
 (.seq (.ops [⟨some 20, none, .mv (.tmp 0)⟩,
  ⟨some 21, none, .mv (.tmp 7)⟩,
  ⟨some 22, none, .call false 68 [(.tmp 20), (.tmp 21)]⟩,
  ⟨some 19, none, .mv (.tmp 22)⟩,
  ⟨some 23, none, .extract (.tmp 19) 0⟩,
  ⟨some 24, none, .extract (.tmp 19) 1⟩,
  ⟨some 9, none, .mv (.tmp 23)⟩,
  ⟨some 10, none, .mv (.tmp 24)⟩])
 (.seq (.draw [⟨some 25, none, .mv (.tmp 10)⟩,
  ⟨some 26, none, .mv (.tmp 25)⟩,
  ⟨some 27, some (26, true), .faddr 7 (.tmp 5)⟩,
  ⟨some 28, some (26, true), .load true 2 (.tmp 27)⟩,
  ⟨some 29, some (26, true), .faddr 0 (.tmp 5)⟩,
  ⟨some 30, some (26, true), .faddr 0 (.tmp 29)⟩,
  ⟨some 31, some (26, true), .load false 1 (.tmp 30)⟩,
  ⟨some 32, some (26, true), .call false 16 [(.tmp 31)]⟩,
  ⟨some 33, some (26, true), .mv (.tmp 9)⟩,
  ⟨some 34, some (26, true), .build [(.d (.int .i64 0)), (.d (.int .i64 0))] [(0, 1, (.tmp 32)), (1, 1, (.tmp 33))]⟩,
  ⟨some 35, some (26, true), .bin .eql (.ints 2) (.tmp 28) (.tmp 34)⟩,
  ⟨some 36, none, .pick (.tmp 26) (.tmp 35) (.lit (.d (.bool false)))⟩,
  ⟨some 37, none, .mv (.tmp 36)⟩,
  ⟨some 38, some (37, true), .mv (.tmp 1)⟩,
  ⟨some 39, some (37, true), .faddr 7 (.tmp 5)⟩,
  ⟨some 40, some (37, true), .load true 2 (.tmp 39)⟩,
  ⟨some 41, some (37, true), .call false 69 [(.tmp 38), (.tmp 40)]⟩,
  ⟨some 42, none, .pick (.tmp 37) (.tmp 41) (.lit (.d (.bool false)))⟩,
  ⟨some 6, none, .mv (.tmp 42)⟩] [[], [0], [1], [2, 1], [1], [4, 1], [5, 1], [6, 1, 1], [1], [7, 8, 1], [3, 9, 1], [1, 10], [11, 7], [12], [12], [14, 12], [13, 15, 12, 12], [12, 16], [17, 16, 0, 1, 2, 3, 4, 5, 6, 7, 8, 9, 10, 11, 12, 13, 14, 15, 16, 17]] [(0, []), (1, []), (2, []), (3, []), (4, []), (5, []), (6, []), (8, []), (7, [27]), (9, []), (10, []), (11, []), (12, []), (13, []), (14, []), (15, []), (16, []), (17, []), (18, [])] [0, 1, 3, 7, 3, 19, 51, 115, 3, 499, 1023, 2047, 4095, 8191, 8191, 24575, 65535, 131071, 262143])
 .ret)))))⟩
theorem isA_request_Valid : isF Try.prog n_request_Valid A_request_Valid := ⟨Try.f32, _, Try.func32, by decide +kernel, rfl, by kernel_rfl, by kernel_rfl, by decide, by kernel_rfl, rfl, by kernel_rfl⟩
/-- bulla/bullaref08.SameRequest -/
def A_r08_SameRequest : AF := ⟨2, 24, [(.tmp 4)],
 (.seq (.ops [⟨some 2, none, .boxi (.tmp 0)⟩,
  ⟨some 3, none, .boxi (.tmp 1)⟩,
  ⟨some 4, none, .mv (.lit (.d (.bool false)))⟩])
 (.seq (.ops [⟨some 5, none, .faddr 0 (.tmp 2)⟩,
  ⟨some 6, none, .load false 1 (.tmp 5)⟩,
  ⟨some 7, none, .faddr 0 (.tmp 3)⟩,
  ⟨some 8, none, .load false 1 (.tmp 7)⟩,
  ⟨some 9, none, .bin .eql .plain (.tmp 6) (.tmp 8)⟩,
  ⟨some 10, none, .mv (.tmp 9)⟩,
  ⟨some 11, some (10, true), .faddr 1 (.tmp 2)⟩,
  ⟨some 12, some (10, true), .load false 1 (.tmp 11)⟩,
  ⟨some 13, some (10, true), .faddr 1 (.tmp 3)⟩,
  ⟨some 14, some (10, true), .load false 1 (.tmp 13)⟩,
  ⟨some 15, some (10, true), .bin .eql .plain (.tmp 12) (.tmp 14)⟩,
  ⟨some 16, none, .pick (.tmp 10) (.tmp 15) (.lit (.d (.bool false)))⟩,
  ⟨some 17, none, .mv (.tmp 16)⟩,
  ⟨some 18, some (17, true), .faddr 2 (.tmp 2)⟩,
  ⟨some 19, some (17, true), .load true 5 (.tmp 18)⟩,
  ⟨some 20, some (17, true), .faddr 2 (.tmp 3)⟩,
  ⟨some 21, some (17, true), .load true 5 (.tmp 20)⟩,
  ⟨some 22, some (17, true), .call false 82 [(.tmp 19), (.tmp 21)]⟩,
  ⟨some 23, none, .pick (.tmp 17) (.tmp 22) (.lit (.d (.bool false)))⟩,
  ⟨some 4, none, .mv (.tmp 23)⟩])
 .ret))⟩
theorem isA_r08_SameRequest : isF Try.prog n_r08_SameRequest A_r08_SameRequest := ⟨Try.f41, _, Try.func41, by decide +kernel, rfl, by kernel_rfl, by kernel_rfl, by decide, by kernel_rfl, rfl, by kernel_rfl⟩
end Go.Proofs.Ythmdpooklflkfaa

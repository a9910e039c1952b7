/- Resolved forms, each with the theorem that it is its function's. Printed by program. -/
import Derived.Test.YthmdpooklflkfaaNm
import Derived.KernelRfl
set_option linter.all false
set_option maxRecDepth 100000
set_option linter.unusedVariables false
namespace Go.Proofs.Ythmdpooklflkfaa
open Go.AW
/-- bulla/bullalaw08.RequestReads -/
def A_l08_RequestReads : AF := ⟨1, 69, [(.tmp 2)],
 (.seq (.ops [⟨some 2, none, .mv (.lit (.d (.bool false)))⟩])
 (.seq (.ops [⟨some 12, none, .mv (.tmp 0)⟩,
  ⟨some 13, none, .call false 39 [(.tmp 12)]⟩,
  ⟨some 11, none, .mv (.tmp 13)⟩,
  ⟨some 14, none, .extract (.tmp 11) 0⟩,
  ⟨some 15, none, .extract (.tmp 11) 1⟩,
  ⟨some 3, none, .alloc [(.d (.int .i64 0)), (.d (.int .i64 0)), (.d (.int .i64 0)), (.d (.str [])), (.d (.str [])), (.d (.int .i64 0)), (.exact [])]⟩,
  ⟨none, none, .store 7 (.tmp 3) (.tmp 14)⟩,
  ⟨some 4, none, .mv (.tmp 15)⟩])
 (.seq (.ops [⟨some 17, none, .mv (.tmp 0)⟩,
  ⟨some 18, none, .call false 40 [(.tmp 17)]⟩,
  ⟨some 16, none, .mv (.tmp 18)⟩,
  ⟨some 19, none, .extract (.tmp 16) 0⟩,
  ⟨some 20, none, .extract (.tmp 16) 1⟩,
  ⟨some 5, none, .alloc [(.d (.int .i64 0)), (.d (.int .i64 0)), (.d (.int .i64 0)), (.d (.str [])), (.d (.str [])), (.d (.int .i64 0)), (.exact [])]⟩,
  ⟨none, none, .store 7 (.tmp 5) (.tmp 19)⟩,
  ⟨some 6, none, .mv (.tmp 20)⟩])
 (.seq (.seq (.ops [⟨some 21, none, .call false 9 []⟩,
  ⟨some 22, none, .un .not (.tmp 21)⟩,
  ⟨some 23, none, .mv (.tmp 22)⟩,
  ⟨some 24, some (23, false), .load true 7 (.tmp 3)⟩,
  ⟨some 25, some (23, false), .load true 7 (.tmp 5)⟩,
  ⟨some 26, some (23, false), .call false 41 [(.tmp 24), (.tmp 25)]⟩,
  ⟨some 27, some (23, false), .un .not (.tmp 26)⟩,
  ⟨some 28, none, .pick (.tmp 23) (.lit (.d (.bool true))) (.tmp 27)⟩,
  ⟨some 29, none, .mv (.tmp 28)⟩,
  ⟨some 30, some (29, false), .mv (.tmp 4)⟩,
  ⟨some 31, some (29, false), .mv (.tmp 6)⟩,
  ⟨some 32, some (29, false), .bin .neq .plain (.tmp 30) (.tmp 31)⟩,
  ⟨some 33, none, .pick (.tmp 29) (.lit (.d (.bool true))) (.tmp 32)⟩])
 (.cond (.tmp 33) (.seq (.ops [⟨some 2, none, .mv (.lit (.d (.bool false)))⟩])
 .ret) .skip))
 (.seq (.ops [⟨some 34, none, .mv (.tmp 0)⟩,
  ⟨some 35, none, .call false 42 [(.tmp 34)]⟩,
  ⟨some 36, none, .mv (.tmp 0)⟩,
  ⟨some 37, none, .call false 43 [(.tmp 36)]⟩,
  ⟨some 7, none, .mv (.tmp 35)⟩,
  ⟨some 8, none, .mv (.tmp 37)⟩])
 (.seq (.seq (.draw [⟨some 38, none, .mv (.tmp 7)⟩,
  ⟨some 39, none, .call false 44 [(.tmp 38)]⟩,
  ⟨some 40, none, .mv (.tmp 8)⟩,
  ⟨some 41, none, .call false 45 [(.tmp 40)]⟩,
  ⟨some 42, none, .call false 19 [(.tmp 39), (.tmp 41)]⟩,
  ⟨some 43, none, .un .not (.tmp 42)⟩,
  ⟨some 44, none, .mv (.tmp 43)⟩,
  ⟨some 45, some (44, false), .mv (.tmp 7)⟩,
  ⟨some 46, some (44, false), .call false 46 [(.tmp 45)]⟩,
  ⟨some 47, some (44, false), .mv (.tmp 8)⟩,
  ⟨some 48, some (44, false), .nilchk (.tmp 47)⟩,
  ⟨some 49, some (44, false), .faddr 1 (.tmp 48)⟩,
  ⟨some 50, some (44, false), .load false 1 (.tmp 49)⟩,
  ⟨some 51, some (44, false), .bin .neq .plain (.tmp 46) (.tmp 50)⟩,
  ⟨some 52, none, .pick (.tmp 44) (.lit (.d (.bool true))) (.tmp 51)⟩] [[], [0], [], [2, 1], [1, 3, 3], [4], [5, 4], [6], [7, 6, 6], [6], [9, 6], [10, 6], [11, 6], [8, 12, 6], [6, 13]] [(0, []), (2, []), (1, []), (3, []), (4, []), (5, []), (6, []), (7, []), (9, []), (10, []), (11, []), (12, []), (8, [49]), (13, []), (14, [])] [0, 1, 0, 7, 15, 31, 63, 127, 255, 127, 639, 1663, 3711, 8191, 16383])
 (.cond (.tmp 52) (.seq (.ops [⟨some 2, none, .mv (.lit (.d (.bool false)))⟩])
 .ret) .skip))
 (.seq (.ops [⟨some 53, none, .mv (.tmp 7)⟩,
  ⟨some 54, none, .call false 47 [(.tmp 53)]⟩,
  ⟨some 55, none, .mv (.tmp 8)⟩,
  ⟨some 56, none, .call false 48 [(.tmp 55)]⟩,
  ⟨some 9, none, .alloc [(.d (.int .i64 0)), (.d (.int .i64 0))]⟩,
  ⟨some 10, none, .alloc [(.d (.int .i64 0)), (.d (.int .i64 0))]⟩,
  ⟨none, none, .store 2 (.tmp 9) (.tmp 54)⟩,
  ⟨none, none, .store 2 (.tmp 10) (.tmp 56)⟩])
 (.seq (.draw [⟨some 57, none, .load true 2 (.tmp 9)⟩,
  ⟨some 58, none, .load true 2 (.tmp 10)⟩,
  ⟨some 59, none, .bin .eql (.ints 2) (.tmp 57) (.tmp 58)⟩,
  ⟨some 60, none, .mv (.tmp 59)⟩,
  ⟨some 61, some (60, true), .mv (.tmp 7)⟩,
  ⟨some 62, some (60, true), .call false 46 [(.tmp 61)]⟩,
  ⟨some 63, some (60, true), .mv (.tmp 8)⟩,
  ⟨some 64, some (60, true), .nilchk (.tmp 63)⟩,
  ⟨some 65, some (60, true), .faddr 1 (.tmp 64)⟩,
  ⟨some 66, some (60, true), .load false 1 (.tmp 65)⟩,
  ⟨some 67, some (60, true), .bin .eql .plain (.tmp 62) (.tmp 66)⟩,
  ⟨some 68, none, .pick (.tmp 60) (.tmp 67) (.lit (.d (.bool false)))⟩,
  ⟨some 2, none, .mv (.tmp 68)⟩] [[], [], [0, 1], [2], [3], [4, 3, 3], [3], [6, 3], [7, 3], [8, 3], [5, 9, 3], [3, 10], [11, 5, 0, 1, 2, 3, 4, 5, 6, 7, 8, 9, 10, 11]] [(0, []), (1, []), (2, []), (3, []), (4, []), (6, []), (7, []), (8, []), (9, []), (5, [65]), (10, []), (11, []), (12, [])] [0, 0, 3, 7, 15, 31, 15, 79, 207, 463, 1023, 2047, 4095])
 .ret))))))))⟩
theorem isA_l08_RequestReads : isF Try.prog n_l08_RequestReads A_l08_RequestReads := ⟨Try.f7, _, Try.func7, by decide +kernel, rfl, by kernel_rfl, by kernel_rfl, by decide, by kernel_rfl, rfl, by kernel_rfl⟩
/-- bulla/bullalaw08.begun -/
def A_l08_begun : AF := ⟨0, 39, [(.tmp 0)],
 (.seq (.ops [⟨some 0, none, .mv (.lit (.d (.bool false)))⟩])
 (.seq (.ops [⟨some 6, none, .call false 29 []⟩,
  ⟨some 7, none, .call false 30 []⟩,
  ⟨some 1, none, .mv (.tmp 6)⟩,
  ⟨some 2, none, .mv (.tmp 7)⟩])
 (.seq (.ops [⟨some 9, none, .mv (.tmp 1)⟩,
  ⟨some 10, none, .mv (.tmp 2)⟩,
  ⟨some 11, none, .call false 51 []⟩,
  ⟨some 12, none, .call false 31 [(.tmp 9), (.tmp 10), (.tmp 11)]⟩,
  ⟨some 8, none, .mv (.tmp 12)⟩,
  ⟨some 13, none, .extract (.tmp 8) 0⟩,
  ⟨some 14, none, .extract (.tmp 8) 1⟩,
  ⟨some 3, none, .alloc [(.d (.int .i64 0)), (.d (.int .i64 0)), (.d (.int .i64 0)), (.d (.str [])), (.d (.str [])), (.d (.int .i64 0)), (.exact []), (.d (.int .i64 0)), (.d (.int .i64 0))]⟩,
  ⟨none, none, .store 9 (.tmp 3) (.tmp 13)⟩,
  ⟨some 4, none, .mv (.tmp 14)⟩])
 (.seq (.ops [⟨some 15, none, .load true 9 (.tmp 3)⟩,
  ⟨some 5, none, .alloc [(.d (.int .i64 0)), (.d (.int .i64 0)), (.d (.int .i64 0)), (.d (.str [])), (.d (.str [])), (.d (.int .i64 0)), (.exact []), (.d (.int .i64 0)), (.d (.int .i64 0))]⟩,
  ⟨none, none, .store 9 (.tmp 5) (.tmp 15)⟩])
 (.seq (.ops [⟨some 16, none, .faddr 0 (.tmp 5)⟩,
  ⟨some 17, none, .faddr 0 (.tmp 16)⟩,
  ⟨none, none, .store 1 (.tmp 17) (.lit (.d (.int .i64 3)))⟩])
 (.seq (.ops [⟨some 18, none, .mv (.tmp 4)⟩,
  ⟨some 19, none, .bin .eql .plain (.tmp 18) (.lit (.d (.int .i64 0)))⟩,
  ⟨some 20, none, .mv (.tmp 19)⟩,
  ⟨some 21, some (20, true), .faddr 7 (.tmp 3)⟩,
  ⟨some 22, some (20, true), .load true 2 (.tmp 21)⟩,
  ⟨some 23, some (20, true), .build [(.d (.int .i64 0)), (.d (.int .i64 0))] [(0, 1, (.lit (.d (.int .i64 15)))), (1, 1, (.lit (.d (.int .i64 1))))]⟩,
  ⟨some 24, some (20, true), .bin .eql (.ints 2) (.tmp 22) (.tmp 23)⟩,
  ⟨some 25, none, .pick (.tmp 20) (.tmp 24) (.lit (.d (.bool false)))⟩,
  ⟨some 26, none, .mv (.tmp 25)⟩,
  ⟨some 27, some (26, true), .mv (.tmp 1)⟩,
  ⟨some 28, some (26, true), .mv (.tmp 2)⟩,
  ⟨some 29, some (26, true), .load true 9 (.tmp 3)⟩,
  ⟨some 30, some (26, true), .call false 32 [(.tmp 27), (.tmp 28), (.tmp 29)]⟩,
  ⟨some 31, none, .pick (.tmp 26) (.tmp 30) (.lit (.d (.bool false)))⟩,
  ⟨some 32, none, .mv (.tmp 31)⟩,
  ⟨some 33, some (32, true), .mv (.tmp 1)⟩,
  ⟨some 34, some (32, true), .mv (.tmp 2)⟩,
  ⟨some 35, some (32, true), .load true 9 (.tmp 5)⟩,
  ⟨some 36, some (32, true), .call false 32 [(.tmp 33), (.tmp 34), (.tmp 35)]⟩,
  ⟨some 37, some (32, true), .un .not (.tmp 36)⟩,
  ⟨some 38, none, .pick (.tmp 32) (.tmp 37) (.lit (.d (.bool false)))⟩,
  ⟨some 0, none, .mv (.tmp 38)⟩])
 .ret))))))⟩
theorem isA_l08_begun : isF Try.prog n_l08_begun A_l08_begun := ⟨Try.f9, _, Try.func9, by decide +kernel, rfl, by kernel_rfl, by kernel_rfl, by decide, by kernel_rfl, rfl, by kernel_rfl⟩
/-- bulla/request.Check -/
def A_request_Check : AF := ⟨1, 24, [(.tmp 2)],
 (.seq (.ops [⟨some 1, none, .boxi (.tmp 0)⟩,
  ⟨some 2, none, .mv (.lit (.d (.int .i64 0)))⟩])
 (.seq (.seq (.ops [⟨some 3, none, .faddr 0 (.tmp 1)⟩,
  ⟨some 4, none, .load false 1 (.tmp 3)⟩,
  ⟨some 5, none, .bin .lss .plain (.tmp 4) (.lit (.d (.int .i64 0)))⟩,
  ⟨some 6, none, .mv (.tmp 5)⟩,
  ⟨some 7, some (6, false), .faddr 0 (.tmp 1)⟩,
  ⟨some 8, some (6, false), .load false 1 (.tmp 7)⟩,
  ⟨some 9, some (6, false), .bin .geq .plain (.tmp 8) (.lit (.d (.int .i64 8)))⟩,
  ⟨some 10, none, .pick (.tmp 6) (.lit (.d (.bool true))) (.tmp 9)⟩,
  ⟨some 11, none, .mv (.tmp 10)⟩,
  ⟨some 12, some (11, false), .faddr 1 (.tmp 1)⟩,
  ⟨some 13, some (11, false), .load false 1 (.tmp 12)⟩,
  ⟨some 14, some (11, false), .bin .lss .plain (.tmp 13) (.lit (.d (.int .i64 1)))⟩,
  ⟨some 15, none, .pick (.tmp 11) (.lit (.d (.bool true))) (.tmp 14)⟩,
  ⟨some 16, none, .mv (.tmp 15)⟩,
  ⟨some 17, some (16, false), .faddr 1 (.tmp 1)⟩,
  ⟨some 18, some (16, false), .load false 1 (.tmp 17)⟩,
  ⟨some 19, some (16, false), .bin .gtr .plain (.tmp 18) (.lit (.d (.int .i64 9007199254740992)))⟩,
  ⟨some 20, none, .pick (.tmp 16) (.lit (.d (.bool true))) (.tmp 19)⟩])
 (.cond (.tmp 20) (.seq (.ops [⟨some 2, none, .mv (.lit (.d (.int .i64 80)))⟩])
 .ret) .skip))
 (.seq (.ops [⟨some 21, none, .faddr 2 (.tmp 1)⟩,
  ⟨some 22, none, .load true 5 (.tmp 21)⟩,
  ⟨some 23, none, .call false 52 [(.tmp 22)]⟩,
  ⟨some 2, none, .mv (.tmp 23)⟩])
 .ret)))⟩
theorem isA_request_Check : isF Try.prog n_request_Check A_request_Check := ⟨Try.f10, _, Try.func10, by decide +kernel, rfl, by kernel_rfl, by kernel_rfl, by decide, by kernel_rfl, rfl, by kernel_rfl⟩
/-- bulla/bullaref08.Check -/
def A_r08_Check : AF := ⟨1, 20, [(.tmp 2)],
 (.seq (.ops [⟨some 1, none, .boxi (.tmp 0)⟩,
  ⟨some 2, none, .mv (.lit (.d (.int .i64 0)))⟩])
 (.seq (.seq (.ops [⟨some 3, none, .faddr 0 (.tmp 1)⟩,
  ⟨some 4, none, .load false 1 (.tmp 3)⟩,
  ⟨some 5, none, .call false 17 [(.tmp 4)]⟩,
  ⟨some 6, none, .bin .lss .plain (.tmp 5) (.lit (.d (.int .i64 0)))⟩,
  ⟨some 7, none, .mv (.tmp 6)⟩,
  ⟨some 8, some (7, false), .faddr 1 (.tmp 1)⟩,
  ⟨some 9, some (7, false), .load false 1 (.tmp 8)⟩,
  ⟨some 10, some (7, false), .bin .lss .plain (.tmp 9) (.lit (.d (.int .i64 1)))⟩,
  ⟨some 11, none, .pick (.tmp 7) (.lit (.d (.bool true))) (.tmp 10)⟩,
  ⟨some 12, none, .mv (.tmp 11)⟩,
  ⟨some 13, some (12, false), .faddr 1 (.tmp 1)⟩,
  ⟨some 14, some (12, false), .load false 1 (.tmp 13)⟩,
  ⟨some 15, some (12, false), .bin .gtr .plain (.tmp 14) (.lit (.d (.int .i64 9007199254740992)))⟩,
  ⟨some 16, none, .pick (.tmp 12) (.lit (.d (.bool true))) (.tmp 15)⟩])
 (.cond (.tmp 16) (.seq (.ops [⟨some 2, none, .mv (.lit (.d (.int .i64 80)))⟩])
 .ret) .skip))
 (.seq (.ops [⟨some 17, none, .faddr 2 (.tmp 1)⟩,
  ⟨some 18, none, .load true 5 (.tmp 17)⟩,
  ⟨some 19, none, .call false 53 [(.tmp 18)]⟩,
  ⟨some 2, none, .mv (.tmp 19)⟩])
 .ret)))⟩
theorem isA_r08_Check : isF Try.prog n_r08_Check A_r08_Check := ⟨Try.f11, _, Try.func11, by decide +kernel, rfl, by kernel_rfl, by kernel_rfl, by decide, by kernel_rfl, rfl, by kernel_rfl⟩
/-- bulla/request.CheckSign -/
def A_request_CheckSign : AF := ⟨1, 21, [(.tmp 2)],
 (.seq (.ops [⟨some 1, none, .boxi (.tmp 0)⟩,
  ⟨some 2, none, .mv (.lit (.d (.int .i64 0)))⟩])
 (.seq (.seq (.ops [⟨some 3, none, .faddr 0 (.tmp 1)⟩,
  ⟨some 4, none, .load false 1 (.tmp 3)⟩,
  ⟨some 5, none, .bin .lss .plain (.tmp 4) (.lit (.d (.int .i64 0)))⟩,
  ⟨some 6, none, .mv (.tmp 5)⟩,
  ⟨some 7, some (6, false), .faddr 0 (.tmp 1)⟩,
  ⟨some 8, some (6, false), .load false 1 (.tmp 7)⟩,
  ⟨some 9, some (6, false), .bin .geq .plain (.tmp 8) (.lit (.d (.int .i64 21)))⟩,
  ⟨some 10, none, .pick (.tmp 6) (.lit (.d (.bool true))) (.tmp 9)⟩,
  ⟨some 11, none, .mv (.tmp 10)⟩,
  ⟨some 12, some (11, false), .faddr 1 (.tmp 1)⟩,
  ⟨some 13, some (11, false), .load false 1 (.tmp 12)⟩,
  ⟨some 14, some (11, false), .bin .lss .plain (.tmp 13) (.lit (.d (.int .i64 1)))⟩,
  ⟨some 15, none, .pick (.tmp 11) (.lit (.d (.bool true))) (.tmp 14)⟩,
  ⟨some 16, none, .mv (.tmp 15)⟩,
  ⟨some 17, some (16, false), .faddr 1 (.tmp 1)⟩,
  ⟨some 18, some (16, false), .load false 1 (.tmp 17)⟩,
  ⟨some 19, some (16, false), .bin .gtr .plain (.tmp 18) (.lit (.d (.int .i64 9007199254740992)))⟩,
  ⟨some 20, none, .pick (.tmp 16) (.lit (.d (.bool true))) (.tmp 19)⟩])
 (.cond (.tmp 20) (.seq (.ops [⟨some 2, none, .mv (.lit (.d (.int .i64 81)))⟩])
 .ret) .skip))
 (.seq (.ops [⟨some 2, none, .mv (.lit (.d (.int .i64 0)))⟩])
 .ret)))⟩
theorem isA_request_CheckSign : isF Try.prog n_request_CheckSign A_request_CheckSign := ⟨Try.f12, _, Try.func12, by decide +kernel, rfl, by kernel_rfl, by kernel_rfl, by decide, by kernel_rfl, rfl, by kernel_rfl⟩
/-- bulla/bullaref08.CheckSign -/
def A_r08_CheckSign : AF := ⟨1, 21, [(.tmp 2)],
 (.seq (.ops [⟨some 1, none, .boxi (.tmp 0)⟩,
  ⟨some 2, none, .mv (.lit (.d (.int .i64 0)))⟩])
 (.seq (.seq (.ops [⟨some 3, none, .faddr 0 (.tmp 1)⟩,
  ⟨some 4, none, .load false 1 (.tmp 3)⟩,
  ⟨some 5, none, .bin .lss .plain (.tmp 4) (.lit (.d (.int .i64 0)))⟩,
  ⟨some 6, none, .mv (.tmp 5)⟩,
  ⟨some 7, some (6, false), .faddr 0 (.tmp 1)⟩,
  ⟨some 8, some (6, false), .load false 1 (.tmp 7)⟩,
  ⟨some 9, some (6, false), .bin .geq .plain (.tmp 8) (.lit (.d (.int .i64 21)))⟩,
  ⟨some 10, none, .pick (.tmp 6) (.lit (.d (.bool true))) (.tmp 9)⟩,
  ⟨some 11, none, .mv (.tmp 10)⟩,
  ⟨some 12, some (11, false), .faddr 1 (.tmp 1)⟩,
  ⟨some 13, some (11, false), .load false 1 (.tmp 12)⟩,
  ⟨some 14, some (11, false), .bin .lss .plain (.tmp 13) (.lit (.d (.int .i64 1)))⟩,
  ⟨some 15, none, .pick (.tmp 11) (.lit (.d (.bool true))) (.tmp 14)⟩,
  ⟨some 16, none, .mv (.tmp 15)⟩,
  ⟨some 17, some (16, false), .faddr 1 (.tmp 1)⟩,
  ⟨some 18, some (16, false), .load false 1 (.tmp 17)⟩,
  ⟨some 19, some (16, false), .bin .gtr .plain (.tmp 18) (.lit (.d (.int .i64 9007199254740992)))⟩,
  ⟨some 20, none, .pick (.tmp 16) (.lit (.d (.bool true))) (.tmp 19)⟩])
 (.cond (.tmp 20) (.seq (.ops [⟨some 2, none, .mv (.lit (.d (.int .i64 81)))⟩])
 .ret) .skip))
 (.seq (.ops [⟨some 2, none, .mv (.lit (.d (.int .i64 0)))⟩])
 .ret)))⟩
theorem isA_r08_CheckSign : isF Try.prog n_r08_CheckSign A_r08_CheckSign := ⟨Try.f13, _, Try.func13, by decide +kernel, rfl, by kernel_rfl, by kernel_rfl, by decide, by kernel_rfl, rfl, by kernel_rfl⟩
/-- bulla/request.CheckBatch -/
def A_request_CheckBatch : AF := ⟨1, 66, [(.tmp 2)],
 (.seq (.ops [⟨some 2, none, .mv (.lit (.d (.int .i64 0)))⟩])
 (.seq (.seq (.ops [⟨some 11, none, .mv (.tmp 0)⟩,
  ⟨some 12, none, .len .sl (.tmp 11)⟩,
  ⟨some 13, none, .bin .gtr .plain (.tmp 12) (.lit (.d (.int .i64 4)))⟩])
 (.cond (.tmp 13) (.seq (.ops [⟨some 2, none, .mv (.lit (.d (.int .i64 3)))⟩])
 .ret) .skip))
 (.seq (.seq (.ops [⟨some 14, none, .mv (.tmp 0)⟩,
  ⟨some 15, none, .len .sl (.tmp 14)⟩,
  ⟨some 16, none, .mv (.lit (.d (.int .i64 0)))⟩])
 (.block 0 (.loop [16] [2, 4, 5, 6, 17, 18, 19, 20, 21, 22, 23, 24, 25, 26, 27, 28, 29, 30, 31, 32] (.seq (.ops [⟨some 17, none, .bin .lss .plain (.tmp 16) (.tmp 15)⟩])
 (.seq (.cond (.tmp 17) .skip (.exit 0))
 (.seq (.block 1 (.seq (.ops [⟨some 18, none, .iaddr none 9 (.tmp 14) (.tmp 16)⟩,
  ⟨some 19, none, .load true 9 (.tmp 18)⟩,
  ⟨some 4, none, .alloc [(.d (.int .i64 0)), (.d (.int .i64 0)), (.d (.int .i64 0)), (.d (.str [])), (.d (.str [])), (.d (.int .i64 0)), (.exact []), (.d (.int .i64 0)), (.d (.int .i64 0))]⟩,
  ⟨none, none, .store 9 (.tmp 4) (.tmp 19)⟩])
 (.seq (.seq (.ops [⟨some 20, none, .faddr 0 (.tmp 4)⟩,
  ⟨some 21, none, .load true 7 (.tmp 20)⟩,
  ⟨some 22, none, .call false 10 [(.tmp 21)]⟩,
  ⟨some 5, none, .mv (.tmp 22)⟩])
 (.seq (.ops [⟨some 23, none, .mv (.tmp 5)⟩,
  ⟨some 24, none, .bin .neq .plain (.tmp 23) (.lit (.d (.int .i64 0)))⟩])
 (.cond (.tmp 24) (.seq (.ops [⟨some 25, none, .mv (.tmp 5)⟩,
  ⟨some 2, none, .mv (.tmp 25)⟩])
 .ret) .skip)))
 (.seq (.ops [⟨some 26, none, .faddr 7 (.tmp 4)⟩,
  ⟨some 27, none, .load true 2 (.tmp 26)⟩,
  ⟨some 28, none, .call false 12 [(.tmp 27)]⟩,
  ⟨some 6, none, .mv (.tmp 28)⟩])
 (.seq (.ops [⟨some 29, none, .mv (.tmp 6)⟩,
  ⟨some 30, none, .bin .neq .plain (.tmp 29) (.lit (.d (.int .i64 0)))⟩])
 (.cond (.tmp 30) (.seq (.ops [⟨some 31, none, .mv (.tmp 6)⟩,
  ⟨some 2, none, .mv (.tmp 31)⟩])
 .ret) .skip))))))
 (.ops [⟨some 32, none, .bin .add .plain (.tmp 16) (.lit (.d (.int .i64 1)))⟩,
  ⟨some 16, none, .mv (.tmp 32)⟩])))))))
 (.seq (.seq (.ops [⟨some 33, none, .mv (.tmp 0)⟩,
  ⟨some 34, none, .len .sl (.tmp 33)⟩,
  ⟨some 35, none, .mv (.lit (.d (.int .i64 0)))⟩])
 (.block 2 (.loop [35] [2, 7, 8, 10, 36, 37, 38, 39, 40, 41, 42, 43, 44, 45, 46, 47, 48, 49, 50, 51, 52, 53, 54, 55, 56, 57, 58, 59, 60, 61, 62, 63, 64, 65] (.seq (.ops [⟨some 36, none, .bin .lss .plain (.tmp 35) (.tmp 34)⟩])
 (.seq (.cond (.tmp 36) .skip (.exit 2))
 (.seq (.block 3 (.seq (.ops [⟨some 37, none, .mv (.tmp 35)⟩,
  ⟨some 38, none, .iaddr none 9 (.tmp 33) (.tmp 35)⟩,
  ⟨some 39, none, .load true 9 (.tmp 38)⟩,
  ⟨some 8, none, .alloc [(.d (.int .i64 0)), (.d (.int .i64 0)), (.d (.int .i64 0)), (.d (.str [])), (.d (.str [])), (.d (.int .i64 0)), (.exact []), (.d (.int .i64 0)), (.d (.int .i64 0))]⟩,
  ⟨some 7, none, .mv (.tmp 37)⟩,
  ⟨none, none, .store 9 (.tmp 8) (.tmp 39)⟩])
 (.seq (.ops [⟨some 40, none, .mv (.tmp 0)⟩,
  ⟨some 41, none, .mv (.tmp 7)⟩,
  ⟨some 42, none, .slc (.sl 9) (.tmp 40) none (some (.tmp 41)) none⟩,
  ⟨some 43, none, .len .sl (.tmp 42)⟩,
  ⟨some 44, none, .mv (.lit (.d (.int .i64 0)))⟩])
 (.block 4 (.loop [44] [2, 10, 45, 46, 47, 48, 49, 50, 51, 52, 53, 54, 55, 56, 57, 58, 59, 60, 61, 62, 63, 64] (.seq (.ops [⟨some 45, none, .bin .lss .plain (.tmp 44) (.tmp 43)⟩])
 (.seq (.cond (.tmp 45) .skip (.exit 4))
 (.seq (.block 5 (.seq (.ops [⟨some 46, none, .iaddr none 9 (.tmp 42) (.tmp 44)⟩,
  ⟨some 47, none, .load true 9 (.tmp 46)⟩,
  ⟨some 10, none, .alloc [(.d (.int .i64 0)), (.d (.int .i64 0)), (.d (.int .i64 0)), (.d (.str [])), (.d (.str [])), (.d (.int .i64 0)), (.exact []), (.d (.int .i64 0)), (.d (.int .i64 0))]⟩,
  ⟨none, none, .store 9 (.tmp 10) (.tmp 47)⟩])
 (.seq (.ops [⟨some 48, none, .faddr 0 (.tmp 8)⟩,
  ⟨some 49, none, .faddr 0 (.tmp 48)⟩,
  ⟨some 50, none, .load false 1 (.tmp 49)⟩,
  ⟨some 51, none, .faddr 0 (.tmp 10)⟩,
  ⟨some 52, none, .faddr 0 (.tmp 51)⟩,
  ⟨some 53, none, .load false 1 (.tmp 52)⟩,
  ⟨some 54, none, .bin .eql .plain (.tmp 50) (.tmp 53)⟩,
  ⟨some 55, none, .mv (.tmp 54)⟩,
  ⟨some 56, some (55, true), .faddr 0 (.tmp 8)⟩,
  ⟨some 57, some (55, true), .faddr 1 (.tmp 56)⟩,
  ⟨some 58, some (55, true), .load false 1 (.tmp 57)⟩,
  ⟨some 59, some (55, true), .faddr 0 (.tmp 10)⟩,
  ⟨some 60, some (55, true), .faddr 1 (.tmp 59)⟩,
  ⟨some 61, some (55, true), .load false 1 (.tmp 60)⟩,
  ⟨some 62, some (55, true), .bin .eql .plain (.tmp 58) (.tmp 61)⟩,
  ⟨some 63, none, .pick (.tmp 55) (.tmp 62) (.lit (.d (.bool false)))⟩])
 (.cond (.tmp 63) (.seq (.ops [⟨some 2, none, .mv (.lit (.d (.int .i64 5)))⟩])
 .ret) .skip))))
 (.ops [⟨some 64, none, .bin .add .plain (.tmp 44) (.lit (.d (.int .i64 1)))⟩,
  ⟨some 44, none, .mv (.tmp 64)⟩])))))))))
 (.ops [⟨some 65, none, .bin .add .plain (.tmp 35) (.lit (.d (.int .i64 1)))⟩,
  ⟨some 35, none, .mv (.tmp 65)⟩])))))))
 (.seq (.ops [⟨some 2, none, .mv (.lit (.d (.int .i64 0)))⟩])
 .ret)))))⟩
theorem isA_request_CheckBatch : isF Try.prog n_request_CheckBatch A_request_CheckBatch := ⟨Try.f14, _, Try.func14, by decide +kernel, rfl, by kernel_rfl, by kernel_rfl, by decide, by kernel_rfl, rfl, by kernel_rfl⟩
/-- bulla/bullaref08.CheckBatch -/
def A_r08_CheckBatch : AF := ⟨1, 74, [(.tmp 2)],
 (.seq (.ops [⟨some 2, none, .mv (.lit (.d (.int .i64 0)))⟩])
 (.seq (.seq (.ops [⟨some 8, none, .mv (.tmp 0)⟩,
  ⟨some 9, none, .len .sl (.tmp 8)⟩,
  ⟨some 10, none, .bin .gtr .plain (.tmp 9) (.lit (.d (.int .i64 4)))⟩])
 (.cond (.tmp 10) (.seq (.ops [⟨some 2, none, .mv (.lit (.d (.int .i64 3)))⟩])
 .ret) .skip))
 (.seq (.seq (.ops [⟨some 3, none, .mv (.lit (.d (.int .i64 0)))⟩])
 (.block 0 (.loop [3] [2, 4, 5, 11, 12, 13, 14, 15, 16, 17, 18, 19, 20, 21, 22, 23, 24, 25, 26, 27, 28, 29, 30, 31, 32, 33, 34] (.seq (.seq (.ops [⟨some 11, none, .mv (.tmp 3)⟩,
  ⟨some 12, none, .mv (.tmp 0)⟩,
  ⟨some 13, none, .len .sl (.tmp 12)⟩,
  ⟨some 14, none, .bin .lss .plain (.tmp 11) (.tmp 13)⟩])
 (.cond (.tmp 14) .skip (.exit 0)))
 (.seq (.block 1 (.seq (.seq (.ops [⟨some 17, none, .mv (.tmp 0)⟩,
  ⟨some 18, none, .mv (.tmp 3)⟩,
  ⟨some 19, none, .iaddr none 9 (.tmp 17) (.tmp 18)⟩,
  ⟨some 20, none, .faddr 0 (.tmp 19)⟩,
  ⟨some 21, none, .load true 7 (.tmp 20)⟩,
  ⟨some 22, none, .call false 11 [(.tmp 21)]⟩,
  ⟨some 4, none, .mv (.tmp 22)⟩])
 (.seq (.ops [⟨some 23, none, .mv (.tmp 4)⟩,
  ⟨some 24, none, .bin .neq .plain (.tmp 23) (.lit (.d (.int .i64 0)))⟩])
 (.cond (.tmp 24) (.seq (.ops [⟨some 25, none, .mv (.tmp 4)⟩,
  ⟨some 2, none, .mv (.tmp 25)⟩])
 .ret) .skip)))
 (.seq (.ops [⟨some 26, none, .mv (.tmp 0)⟩,
  ⟨some 27, none, .mv (.tmp 3)⟩,
  ⟨some 28, none, .iaddr none 9 (.tmp 26) (.tmp 27)⟩,
  ⟨some 29, none, .faddr 7 (.tmp 28)⟩,
  ⟨some 30, none, .load true 2 (.tmp 29)⟩,
  ⟨some 31, none, .call false 13 [(.tmp 30)]⟩,
  ⟨some 5, none, .mv (.tmp 31)⟩])
 (.seq (.ops [⟨some 32, none, .mv (.tmp 5)⟩,
  ⟨some 33, none, .bin .neq .plain (.tmp 32) (.lit (.d (.int .i64 0)))⟩])
 (.cond (.tmp 33) (.seq (.ops [⟨some 34, none, .mv (.tmp 5)⟩,
  ⟨some 2, none, .mv (.tmp 34)⟩])
 .ret) .skip)))))
 (.ops [⟨some 15, none, .mv (.tmp 3)⟩,
  ⟨some 16, none, .bin .add .plain (.tmp 15) (.lit (.d (.int .i64 1)))⟩,
  ⟨some 3, none, .mv (.tmp 16)⟩]))))))
 (.seq (.seq (.ops [⟨some 6, none, .mv (.lit (.d (.int .i64 0)))⟩])
 (.block 2 (.loop [6] [2, 7, 35, 36, 37, 38, 39, 40, 41, 42, 43, 44, 45, 46, 47, 48, 49, 50, 51, 52, 53, 54, 55, 56, 57, 58, 59, 60, 61, 62, 63, 64, 65, 66, 67, 68, 69, 70, 71, 72, 73] (.seq (.seq (.ops [⟨some 35, none, .mv (.tmp 6)⟩,
  ⟨some 36, none, .mv (.tmp 0)⟩,
  ⟨some 37, none, .len .sl (.tmp 36)⟩,
  ⟨some 38, none, .bin .lss .plain (.tmp 35) (.tmp 37)⟩])
 (.cond (.tmp 38) .skip (.exit 2)))
 (.seq (.block 3 (.seq (.ops [⟨some 7, none, .mv (.lit (.d (.int .i64 0)))⟩])
 (.block 4 (.loop [7] [2, 41, 42, 43, 44, 45, 46, 47, 48, 49, 50, 51, 52, 53, 54, 55, 56, 57, 58, 59, 60, 61, 62, 63, 64, 65, 66, 67, 68, 69, 70, 71, 72, 73] (.seq (.seq (.ops [⟨some 41, none, .mv (.tmp 7)⟩,
  ⟨some 42, none, .mv (.tmp 6)⟩,
  ⟨some 43, none, .bin .lss .plain (.tmp 41) (.tmp 42)⟩])
 (.cond (.tmp 43) .skip (.exit 4)))
 (.seq (.block 5 (.seq (.draw [⟨some 46, none, .mv (.tmp 0)⟩,
  ⟨some 47, none, .mv (.tmp 6)⟩,
  ⟨some 48, none, .iaddr none 9 (.tmp 46) (.tmp 47)⟩,
  ⟨some 49, none, .faddr 0 (.tmp 48)⟩,
  ⟨some 50, none, .faddr 0 (.tmp 49)⟩,
  ⟨some 51, none, .load false 1 (.tmp 50)⟩,
  ⟨some 52, none, .mv (.tmp 0)⟩,
  ⟨some 53, none, .mv (.tmp 7)⟩,
  ⟨some 54, none, .iaddr none 9 (.tmp 52) (.tmp 53)⟩,
  ⟨some 55, none, .faddr 0 (.tmp 54)⟩,
  ⟨some 56, none, .faddr 0 (.tmp 55)⟩,
  ⟨some 57, none, .load false 1 (.tmp 56)⟩,
  ⟨some 58, none, .bin .eql .plain (.tmp 51) (.tmp 57)⟩,
  ⟨some 59, none, .mv (.tmp 58)⟩,
  ⟨some 60, some (59, true), .mv (.tmp 0)⟩,
  ⟨some 61, some (59, true), .mv (.tmp 6)⟩,
  ⟨some 62, some (59, true), .iaddr none 9 (.tmp 60) (.tmp 61)⟩,
  ⟨some 63, some (59, true), .faddr 0 (.tmp 62)⟩,
  ⟨some 64, some (59, true), .faddr 1 (.tmp 63)⟩,
  ⟨some 65, some (59, true), .load false 1 (.tmp 64)⟩,
  ⟨some 66, some (59, true), .mv (.tmp 0)⟩,
  ⟨some 67, some (59, true), .mv (.tmp 7)⟩,
  ⟨some 68, some (59, true), .iaddr none 9 (.tmp 66) (.tmp 67)⟩,
  ⟨some 69, some (59, true), .faddr 0 (.tmp 68)⟩,
  ⟨some 70, some (59, true), .faddr 1 (.tmp 69)⟩,
  ⟨some 71, some (59, true), .load false 1 (.tmp 70)⟩,
  ⟨some 72, some (59, true), .bin .eql .plain (.tmp 65) (.tmp 71)⟩,
  ⟨some 73, none, .pick (.tmp 59) (.tmp 72) (.lit (.d (.bool false)))⟩] [[], [], [0, 1], [2], [3], [4], [], [], [6, 7], [8], [9], [10], [5, 11], [12], [13], [13], [14, 15, 13], [16, 13], [17, 13], [18, 13], [13], [13], [20, 21, 13], [22, 13], [23, 13], [24, 13], [19, 25, 13], [13, 26]] [(0, []), (1, []), (2, []), (3, []), (4, []), (5, []), (6, []), (7, []), (8, []), (9, []), (10, []), (11, []), (12, []), (13, []), (14, []), (15, []), (16, []), (17, []), (18, []), (19, []), (20, []), (21, []), (22, []), (23, []), (24, []), (25, []), (26, []), (27, [])] [0, 0, 3, 7, 15, 31, 0, 0, 192, 448, 960, 1984, 4095, 8191, 16383, 16383, 65535, 131071, 262143, 524287, 16383, 16383, 3162111, 7356415, 15745023, 32522239, 67108863, 134217727])
 (.cond (.tmp 73) (.seq (.ops [⟨some 2, none, .mv (.lit (.d (.int .i64 5)))⟩])
 .ret) .skip)))
 (.ops [⟨some 44, none, .mv (.tmp 7)⟩,
  ⟨some 45, none, .bin .add .plain (.tmp 44) (.lit (.d (.int .i64 1)))⟩,
  ⟨some 7, none, .mv (.tmp 45)⟩])))))))
 (.ops [⟨some 39, none, .mv (.tmp 6)⟩,
  ⟨some 40, none, .bin .add .plain (.tmp 39) (.lit (.d (.int .i64 1)))⟩,
  ⟨some 6, none, .mv (.tmp 40)⟩]))))))
 (.seq (.ops [⟨some 2, none, .mv (.lit (.d (.int .i64 0)))⟩])
 .ret)))))⟩
theorem isA_r08_CheckBatch : isF Try.prog n_r08_CheckBatch A_r08_CheckBatch := ⟨Try.f15, _, Try.func15, by decide +kernel, rfl, by kernel_rfl, by kernel_rfl, by decide, by kernel_rfl, rfl, by kernel_rfl⟩
/-- bulla/request.Key -/
def A_request_Key : AF := ⟨1, 11, [(.tmp 2)],
 (.seq (.ops [⟨some 2, none, .mv (.lit (.d (.int .i64 0)))⟩])
 (.seq (.seq (.ops [⟨some 3, none, .mv (.tmp 0)⟩,
  ⟨some 4, none, .bin .lss .plain (.tmp 3) (.lit (.d (.int .i64 0)))⟩,
  ⟨some 5, none, .mv (.tmp 4)⟩,
  ⟨some 6, some (5, false), .mv (.tmp 0)⟩,
  ⟨some 7, some (5, false), .bin .geq .plain (.tmp 6) (.lit (.d (.int .i64 8)))⟩,
  ⟨some 8, none, .pick (.tmp 5) (.lit (.d (.bool true))) (.tmp 7)⟩])
 (.cond (.tmp 8) (.seq (.ops [⟨some 2, none, .mv (.lit (.d (.int .i64 (-1))))⟩])
 .ret) .skip))
 (.seq (.ops [⟨some 9, none, .mv (.tmp 0)⟩,
  ⟨some 10, none, .bin .add .plain (.lit (.d (.int .i64 13))) (.tmp 9)⟩,
  ⟨some 2, none, .mv (.tmp 10)⟩])
 .ret)))⟩
theorem isA_request_Key : isF Try.prog n_request_Key A_request_Key := ⟨Try.f16, _, Try.func16, by decide +kernel, rfl, by kernel_rfl, by kernel_rfl, by decide, by kernel_rfl, rfl, by kernel_rfl⟩
/-- bulla/bullaref08.Key -/
def A_r08_Key : AF := ⟨1, 11, [(.tmp 2)],
 (.seq (.ops [⟨some 2, none, .mv (.lit (.d (.int .i64 0)))⟩])
 (.seq (.seq (.ops [⟨some 3, none, .mv (.tmp 0)⟩,
  ⟨some 4, none, .bin .lss .plain (.tmp 3) (.lit (.d (.int .i64 0)))⟩,
  ⟨some 5, none, .mv (.tmp 4)⟩,
  ⟨some 6, some (5, false), .mv (.tmp 0)⟩,
  ⟨some 7, some (5, false), .bin .geq .plain (.tmp 6) (.lit (.d (.int .i64 8)))⟩,
  ⟨some 8, none, .pick (.tmp 5) (.lit (.d (.bool true))) (.tmp 7)⟩])
 (.cond (.tmp 8) (.seq (.ops [⟨some 2, none, .mv (.lit (.d (.int .i64 (-1))))⟩])
 .ret) .skip))
 (.seq (.ops [⟨some 9, none, .mv (.tmp 0)⟩,
  ⟨some 10, none, .bin .add .plain (.lit (.d (.int .i64 13))) (.tmp 9)⟩,
  ⟨some 2, none, .mv (.tmp 10)⟩])
 .ret)))⟩
theorem isA_r08_Key : isF Try.prog n_r08_Key A_r08_Key := ⟨Try.f17, _, Try.func17, by decide +kernel, rfl, by kernel_rfl, by kernel_rfl, by decide, by kernel_rfl, rfl, by kernel_rfl⟩
end Go.Proofs.Ythmdpooklflkfaa

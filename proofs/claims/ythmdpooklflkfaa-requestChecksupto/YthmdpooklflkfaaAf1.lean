/- Resolved forms, each with the theorem that it is its function's. Printed by program. -/
import Derived.Test.YthmdpooklflkfaaNm
import Derived.KernelRfl
set_option linter.all false
set_option maxRecDepth 100000
set_option linter.unusedVariables false
namespace Go.Proofs.Ythmdpooklflkfaa
open Go.AW
/-- bulla/bullalaw08.RequestChecks -/
def Am_l08_RequestChecks : AF := ⟨4, 110, [(.tmp 8)],
 (.seq (.ops [⟨some 4, none, .boxi (.tmp 0)⟩,
  ⟨some 5, none, .boxi (.tmp 1)⟩,
  ⟨some 8, none, .mv (.lit (.d (.bool false)))⟩])
 (.seq (.seq (.draw [⟨some 14, none, .call true 9 []⟩,
  ⟨some 15, none, .un .not (.tmp 14)⟩,
  ⟨some 16, none, .mv (.tmp 15)⟩,
  ⟨some 17, some (16, false), .load true 7 (.tmp 4)⟩,
  ⟨some 18, some (16, false), .call true 10 [(.tmp 17)]⟩,
  ⟨some 19, some (16, false), .load true 7 (.tmp 4)⟩,
  ⟨some 20, some (16, false), .call true 11 [(.tmp 19)]⟩,
  ⟨some 21, some (16, false), .bin .neq .plain (.tmp 18) (.tmp 20)⟩,
  ⟨some 22, none, .pick (.tmp 16) (.lit (.d (.bool true))) (.tmp 21)⟩,
  ⟨some 23, none, .mv (.tmp 22)⟩,
  ⟨some 24, some (23, false), .load true 2 (.tmp 5)⟩,
  ⟨some 25, some (23, false), .call true 12 [(.tmp 24)]⟩,
  ⟨some 26, some (23, false), .load true 2 (.tmp 5)⟩,
  ⟨some 27, some (23, false), .call true 13 [(.tmp 26)]⟩,
  ⟨some 28, some (23, false), .bin .neq .plain (.tmp 25) (.tmp 27)⟩,
  ⟨some 29, none, .pick (.tmp 23) (.lit (.d (.bool true))) (.tmp 28)⟩,
  ⟨some 30, none, .mv (.tmp 29)⟩,
  ⟨some 31, some (30, false), .mv (.tmp 2)⟩,
  ⟨some 32, some (30, false), .call true 14 [(.tmp 31)]⟩,
  ⟨some 33, some (30, false), .mv (.tmp 2)⟩,
  ⟨some 34, some (30, false), .call true 15 [(.tmp 33)]⟩,
  ⟨some 35, some (30, false), .bin .neq .plain (.tmp 32) (.tmp 34)⟩,
  ⟨some 36, none, .pick (.tmp 30) (.lit (.d (.bool true))) (.tmp 35)⟩,
  ⟨some 37, none, .mv (.tmp 36)⟩,
  ⟨some 38, some (37, false), .faddr 0 (.tmp 4)⟩,
  ⟨some 39, some (37, false), .load false 1 (.tmp 38)⟩,
  ⟨some 40, some (37, false), .call true 16 [(.tmp 39)]⟩,
  ⟨some 41, some (37, false), .faddr 0 (.tmp 4)⟩,
  ⟨some 42, some (37, false), .load false 1 (.tmp 41)⟩,
  ⟨some 43, some (37, false), .call true 17 [(.tmp 42)]⟩,
  ⟨some 44, some (37, false), .bin .neq .plain (.tmp 40) (.tmp 43)⟩,
  ⟨some 45, none, .pick (.tmp 37) (.lit (.d (.bool true))) (.tmp 44)⟩] [[], [0], [1, 0], [2], [3, 2, 2], [2], [5, 4, 2], [4, 6, 2], [2, 7], [8, 6], [9], [10, 9, 9], [9], [12, 11, 9], [11, 13, 9], [9, 14], [15, 13], [16], [17, 16, 16], [16], [19, 18, 16], [18, 20, 16], [16, 21], [22, 20], [23], [24, 23], [25, 23, 23], [23], [27, 23], [28, 26, 23], [26, 29, 23], [23, 30]] [(0, []), (1, []), (2, []), (3, []), (5, []), (4, [4]), (6, []), (7, []), (8, []), (9, []), (10, []), (12, []), (11, [5]), (13, []), (14, []), (15, []), (16, []), (17, []), (19, []), (18, []), (20, []), (21, []), (22, []), (23, []), (24, []), (25, []), (27, []), (28, []), (26, [41]), (29, []), (30, []), (31, [])] [0, 1, 3, 7, 15, 7, 63, 127, 255, 511, 1023, 2047, 1023, 8191, 16383, 32767, 65535, 131071, 262143, 131071, 1048575, 2097151, 4194303, 8388607, 16777215, 33554431, 67108863, 16777215, 150994943, 536870911, 1073741823, 2147483647])
 (.cond (.tmp 45) (.seq (.ops [⟨some 8, none, .mv (.lit (.d (.bool false)))⟩])
 .ret) .skip))
 (.seq (.seq (.ops [⟨some 46, none, .mv (.tmp 2)⟩,
  ⟨some 47, none, .mv (.tmp 3)⟩,
  ⟨some 48, none, .call true 18 [(.tmp 46), (.tmp 47)]⟩,
  ⟨some 49, none, .mv (.tmp 2)⟩,
  ⟨some 50, none, .mv (.tmp 3)⟩,
  ⟨some 51, none, .call true 19 [(.tmp 49), (.tmp 50)]⟩,
  ⟨some 52, none, .bin .neq .bool (.tmp 48) (.tmp 51)⟩,
  ⟨some 53, none, .mv (.tmp 52)⟩,
  ⟨some 54, some (53, false), .mv (.tmp 2)⟩,
  ⟨some 55, some (53, false), .mv (.tmp 2)⟩,
  ⟨some 56, some (53, false), .call true 18 [(.tmp 54), (.tmp 55)]⟩,
  ⟨some 57, some (53, false), .un .not (.tmp 56)⟩,
  ⟨some 58, none, .pick (.tmp 53) (.lit (.d (.bool true))) (.tmp 57)⟩])
 (.cond (.tmp 58) (.seq (.ops [⟨some 8, none, .mv (.lit (.d (.bool false)))⟩])
 .ret) .skip))
 (.seq (.ops [⟨some 59, none, .mv (.tmp 2)⟩,
  ⟨some 60, none, .call true 20 [(.tmp 59)]⟩,
  ⟨some 9, none, .mv (.tmp 60)⟩])
 (.seq (.seq (.ops [⟨some 61, none, .mv (.tmp 2)⟩,
  ⟨some 62, none, .mv (.tmp 9)⟩,
  ⟨some 63, none, .call true 19 [(.tmp 61), (.tmp 62)]⟩,
  ⟨some 64, none, .un .not (.tmp 63)⟩])
 (.cond (.tmp 64) (.seq (.ops [⟨some 8, none, .mv (.lit (.d (.bool false)))⟩])
 .ret) .skip))
 (.seq (.seq (.ops [⟨some 65, none, .mv (.tmp 9)⟩,
  ⟨some 66, none, .len .sl (.tmp 65)⟩,
  ⟨some 67, none, .mv (.lit (.d (.int .i64 0)))⟩])
 (.block 0 (.loop [67] [10, 12, 13, 68, 69, 70, 71, 72, 73, 74, 75, 76, 77, 78, 79, 80, 81, 82, 83, 84, 85, 86, 87, 88, 89, 90, 91, 92, 93, 94, 95, 96, 97, 98, 99, 100, 101, 102, 103, 104, 105] (.seq (.ops [⟨some 68, none, .bin .lss .plain (.tmp 67) (.tmp 66)⟩])
 (.seq (.cond (.tmp 68) .skip (.exit 0))
 (.seq (.block 1 (.seq (.ops [⟨some 69, none, .mv (.tmp 67)⟩,
  ⟨some 10, none, .mv (.tmp 69)⟩])
 (.seq (.seq (.ops [⟨some 70, none, .mv (.tmp 9)⟩,
  ⟨some 71, none, .mv (.tmp 10)⟩,
  ⟨some 72, none, .iaddr none 9 (.tmp 70) (.tmp 71)⟩,
  ⟨some 73, none, .faddr 0 (.tmp 72)⟩,
  ⟨some 74, none, .faddr 2 (.tmp 73)⟩,
  ⟨some 75, none, .faddr 4 (.tmp 74)⟩,
  ⟨some 76, none, .load false 1 (.tmp 75)⟩,
  ⟨some 77, none, .len .sl (.tmp 76)⟩,
  ⟨some 78, none, .mv (.lit (.d (.int .i64 0)))⟩])
 (.block 2 (.loop [78] [12, 13, 79, 80, 81, 82, 83, 84, 85, 86, 87, 88, 89, 90, 91, 92, 93, 94] (.seq (.ops [⟨some 79, none, .bin .lss .plain (.tmp 78) (.tmp 77)⟩])
 (.seq (.cond (.tmp 79) .skip (.exit 2))
 (.seq (.block 3 (.seq (.ops [⟨some 80, none, .iaddr none 1 (.tmp 76) (.tmp 78)⟩,
  ⟨some 81, none, .load false 1 (.tmp 80)⟩,
  ⟨some 12, none, .mv (.tmp 81)⟩])
 (.seq (.ops [⟨some 82, none, .mv (.tmp 12)⟩,
  ⟨some 83, none, .len .sl (.tmp 82)⟩,
  ⟨some 84, none, .mv (.lit (.d (.int .i64 0)))⟩])
 (.block 4 (.loop [84] [13, 85, 86, 87, 88, 89, 90, 91, 92, 93] (.seq (.ops [⟨some 85, none, .bin .lss .plain (.tmp 84) (.tmp 83)⟩])
 (.seq (.cond (.tmp 85) .skip (.exit 4))
 (.seq (.block 5 (.seq (.ops [⟨some 86, none, .mv (.tmp 84)⟩,
  ⟨some 13, none, .mv (.tmp 86)⟩])
 (.ops [⟨some 87, none, .mv (.tmp 12)⟩,
  ⟨some 88, none, .mv (.tmp 13)⟩,
  ⟨some 89, none, .iaddr none 1 (.tmp 87) (.tmp 88)⟩,
  ⟨some 90, none, .load false 1 (.tmp 89)⟩,
  ⟨some 91, none, .bin .add .plain (.tmp 90) (.lit (.d (.int .u8 1)))⟩,
  ⟨some 92, none, .iaddr none 1 (.tmp 87) (.tmp 88)⟩,
  ⟨none, none, .store 1 (.tmp 92) (.tmp 91)⟩])))
 (.ops [⟨some 93, none, .bin .add .plain (.tmp 84) (.lit (.d (.int .i64 1)))⟩,
  ⟨some 84, none, .mv (.tmp 93)⟩])))))))))
 (.ops [⟨some 94, none, .bin .add .plain (.tmp 78) (.lit (.d (.int .i64 1)))⟩,
  ⟨some 78, none, .mv (.tmp 94)⟩])))))))
 (.ops [⟨some 95, none, .mv (.tmp 9)⟩,
  ⟨some 96, none, .mv (.tmp 10)⟩,
  ⟨some 97, none, .iaddr none 9 (.tmp 95) (.tmp 96)⟩,
  ⟨some 98, none, .faddr 0 (.tmp 97)⟩,
  ⟨some 99, none, .faddr 1 (.tmp 98)⟩,
  ⟨some 100, none, .load false 1 (.tmp 99)⟩,
  ⟨some 101, none, .bin .add .plain (.tmp 100) (.lit (.d (.int .i64 1)))⟩,
  ⟨some 102, none, .iaddr none 9 (.tmp 95) (.tmp 96)⟩,
  ⟨some 103, none, .faddr 0 (.tmp 102)⟩,
  ⟨some 104, none, .faddr 1 (.tmp 103)⟩,
  ⟨none, none, .store 1 (.tmp 104) (.tmp 101)⟩]))))
 (.ops [⟨some 105, none, .bin .add .plain (.tmp 67) (.lit (.d (.int .i64 1)))⟩,
  ⟨some 67, none, .mv (.tmp 105)⟩])))))))
 (.seq (.ops [⟨some 106, none, .mv (.tmp 2)⟩,
  ⟨some 107, none, .mv (.tmp 2)⟩,
  ⟨some 108, none, .call true 20 [(.tmp 107)]⟩,
  ⟨some 109, none, .call true 19 [(.tmp 106), (.tmp 108)]⟩,
  ⟨some 8, none, .mv (.tmp 109)⟩])
 .ret)))))))⟩
theorem isAm_l08_RequestChecks : isF Try.prog n_l08_RequestChecks Am_l08_RequestChecks := ⟨Try.f3, _, Try.func3, by decide +kernel, rfl, by kernel_rfl, by kernel_rfl, by decide, by kernel_rfl, rfl, by kernel_rfl⟩
/-- bulla/bullalaw08.begun -/
def A_l08_begun : AF := ⟨0, 39, [(.tmp 0)],
 (.seq (.ops [⟨some 0, none, .mv (.lit (.d (.bool false)))⟩])
 (.seq (.ops [⟨some 6, none, .call false 29 []⟩,
  ⟨some 7, none, .call false 30 []⟩,
  ⟨some 1, none, .mv (.tmp 6)⟩,
  ⟨some 2, none, .mv (.tmp 7)⟩])
 (.seq (.ops [⟨some 9, none, .mv (.tmp 1)⟩,
  ⟨some 10, none, .mv (.tmp 2)⟩,
  ⟨some 11, none, .call false 51 []⟩,
  ⟨some 12, none, .call false 31 [(.tmp 9), (.tmp 10), (.tmp 11)]⟩,
  ⟨some 8, none, .mv (.tmp 12)⟩,
  ⟨some 13, none, .extract (.tmp 8) 0⟩,
  ⟨some 14, none, .extract (.tmp 8) 1⟩,
  ⟨some 3, none, .alloc [(.d (.int .i64 0)), (.d (.int .i64 0)), (.d (.int .i64 0)), (.d (.str [])), (.d (.str [])), (.d (.int .i64 0)), (.exact []), (.d (.int .i64 0)), (.d (.int .i64 0))]⟩,
  ⟨none, none, .store 9 (.tmp 3) (.tmp 13)⟩,
  ⟨some 4, none, .mv (.tmp 14)⟩])
 (.seq (.ops [⟨some 15, none, .load true 9 (.tmp 3)⟩,
  ⟨some 5, none, .alloc [(.d (.int .i64 0)), (.d (.int .i64 0)), (.d (.int .i64 0)), (.d (.str [])), (.d (.str [])), (.d (.int .i64 0)), (.exact []), (.d (.int .i64 0)), (.d (.int .i64 0))]⟩,
  ⟨none, none, .store 9 (.tmp 5) (.tmp 15)⟩])
 (.seq (.ops [⟨some 16, none, .faddr 0 (.tmp 5)⟩,
  ⟨some 17, none, .faddr 0 (.tmp 16)⟩,
  ⟨none, none, .store 1 (.tmp 17) (.lit (.d (.int .i64 3)))⟩])
 (.seq (.ops [⟨some 18, none, .mv (.tmp 4)⟩,
  ⟨some 19, none, .bin .eql .plain (.tmp 18) (.lit (.d (.int .i64 0)))⟩,
  ⟨some 20, none, .mv (.tmp 19)⟩,
  ⟨some 21, some (20, true), .faddr 7 (.tmp 3)⟩,
  ⟨some 22, some (20, true), .load true 2 (.tmp 21)⟩,
  ⟨some 23, some (20, true), .build [(.d (.int .i64 0)), (.d (.int .i64 0))] [(0, 1, (.lit (.d (.int .i64 15)))), (1, 1, (.lit (.d (.int .i64 1))))]⟩,
  ⟨some 24, some (20, true), .bin .eql (.ints 2) (.tmp 22) (.tmp 23)⟩,
  ⟨some 25, none, .pick (.tmp 20) (.tmp 24) (.lit (.d (.bool false)))⟩,
  ⟨some 26, none, .mv (.tmp 25)⟩,
  ⟨some 27, some (26, true), .mv (.tmp 1)⟩,
  ⟨some 28, some (26, true), .mv (.tmp 2)⟩,
  ⟨some 29, some (26, true), .load true 9 (.tmp 3)⟩,
  ⟨some 30, some (26, true), .call false 32 [(.tmp 27), (.tmp 28), (.tmp 29)]⟩,
  ⟨some 31, none, .pick (.tmp 26) (.tmp 30) (.lit (.d (.bool false)))⟩,
  ⟨some 32, none, .mv (.tmp 31)⟩,
  ⟨some 33, some (32, true), .mv (.tmp 1)⟩,
  ⟨some 34, some (32, true), .mv (.tmp 2)⟩,
  ⟨some 35, some (32, true), .load true 9 (.tmp 5)⟩,
  ⟨some 36, some (32, true), .call false 32 [(.tmp 33), (.tmp 34), (.tmp 35)]⟩,
  ⟨some 37, some (32, true), .un .not (.tmp 36)⟩,
  ⟨some 38, none, .pick (.tmp 32) (.tmp 37) (.lit (.d (.bool false)))⟩,
  ⟨some 0, none, .mv (.tmp 38)⟩])
 .ret))))))⟩
theorem isA_l08_begun : isF Try.prog n_l08_begun A_l08_begun := ⟨Try.f9, _, Try.func9, by decide +kernel, rfl, by kernel_rfl, by kernel_rfl, by decide, by kernel_rfl, rfl, by kernel_rfl⟩
/-- bulla/request.Check -/
def A_request_Check : AF := ⟨1, 24, [(.tmp 2)],
 (.seq (.ops [⟨some 1, none, .boxi (.tmp 0)⟩,
  ⟨some 2, none, .mv (.lit (.d (.int .i64 0)))⟩])
 (.seq (.seq (.ops [⟨some 3, none, .faddr 0 (.tmp 1)⟩,
  ⟨some 4, none, .load false 1 (.tmp 3)⟩,
  ⟨some 5, none, .bin .lss .plain (.tmp 4) (.lit (.d (.int .i64 0)))⟩,
  ⟨some 6, none, .mv (.tmp 5)⟩,
  ⟨some 7, some (6, false), .faddr 0 (.tmp 1)⟩,
  ⟨some 8, some (6, false), .load false 1 (.tmp 7)⟩,
  ⟨some 9, some (6, false), .bin .geq .plain (.tmp 8) (.lit (.d (.int .i64 8)))⟩,
  ⟨some 10, none, .pick (.tmp 6) (.lit (.d (.bool true))) (.tmp 9)⟩,
  ⟨some 11, none, .mv (.tmp 10)⟩,
  ⟨some 12, some (11, false), .faddr 1 (.tmp 1)⟩,
  ⟨some 13, some (11, false), .load false 1 (.tmp 12)⟩,
  ⟨some 14, some (11, false), .bin .lss .plain (.tmp 13) (.lit (.d (.int .i64 1)))⟩,
  ⟨some 15, none, .pick (.tmp 11) (.lit (.d (.bool true))) (.tmp 14)⟩,
  ⟨some 16, none, .mv (.tmp 15)⟩,
  ⟨some 17, some (16, false), .faddr 1 (.tmp 1)⟩,
  ⟨some 18, some (16, false), .load false 1 (.tmp 17)⟩,
  ⟨some 19, some (16, false), .bin .gtr .plain (.tmp 18) (.lit (.d (.int .i64 9007199254740992)))⟩,
  ⟨some 20, none, .pick (.tmp 16) (.lit (.d (.bool true))) (.tmp 19)⟩])
 (.cond (.tmp 20) (.seq (.ops [⟨some 2, none, .mv (.lit (.d (.int .i64 80)))⟩])
 .ret) .skip))
 (.seq (.ops [⟨some 21, none, .faddr 2 (.tmp 1)⟩,
  ⟨some 22, none, .load true 5 (.tmp 21)⟩,
  ⟨some 23, none, .call false 52 [(.tmp 22)]⟩,
  ⟨some 2, none, .mv (.tmp 23)⟩])
 .ret)))⟩
theorem isA_request_Check : isF Try.prog n_request_Check A_request_Check := ⟨Try.f10, _, Try.func10, by decide +kernel, rfl, by kernel_rfl, by kernel_rfl, by decide, by kernel_rfl, rfl, by kernel_rfl⟩
/-- bulla/bullaref08.Check -/
def A_r08_Check : AF := ⟨1, 20, [(.tmp 2)],
 (.seq (.ops [⟨some 1, none, .boxi (.tmp 0)⟩,
  ⟨some 2, none, .mv (.lit (.d (.int .i64 0)))⟩])
 (.seq (.seq (.ops [⟨some 3, none, .faddr 0 (.tmp 1)⟩,
  ⟨some 4, none, .load false 1 (.tmp 3)⟩,
  ⟨some 5, none, .call false 17 [(.tmp 4)]⟩,
  ⟨some 6, none, .bin .lss .plain (.tmp 5) (.lit (.d (.int .i64 0)))⟩,
  ⟨some 7, none, .mv (.tmp 6)⟩,
  ⟨some 8, some (7, false), .faddr 1 (.tmp 1)⟩,
  ⟨some 9, some (7, false), .load false 1 (.tmp 8)⟩,
  ⟨some 10, some (7, false), .bin .lss .plain (.tmp 9) (.lit (.d (.int .i64 1)))⟩,
  ⟨some 11, none, .pick (.tmp 7) (.lit (.d (.bool true))) (.tmp 10)⟩,
  ⟨some 12, none, .mv (.tmp 11)⟩,
  ⟨some 13, some (12, false), .faddr 1 (.tmp 1)⟩,
  ⟨some 14, some (12, false), .load false 1 (.tmp 13)⟩,
  ⟨some 15, some (12, false), .bin .gtr .plain (.tmp 14) (.lit (.d (.int .i64 9007199254740992)))⟩,
  ⟨some 16, none, .pick (.tmp 12) (.lit (.d (.bool true))) (.tmp 15)⟩])
 (.cond (.tmp 16) (.seq (.ops [⟨some 2, none, .mv (.lit (.d (.int .i64 80)))⟩])
 .ret) .skip))
 (.seq (.ops [⟨some 17, none, .faddr 2 (.tmp 1)⟩,
  ⟨some 18, none, .load true 5 (.tmp 17)⟩,
  ⟨some 19, none, .call false 53 [(.tmp 18)]⟩,
  ⟨some 2, none, .mv (.tmp 19)⟩])
 .ret)))⟩
theorem isA_r08_Check : isF Try.prog n_r08_Check A_r08_Check := ⟨Try.f11, _, Try.func11, by decide +kernel, rfl, by kernel_rfl, by kernel_rfl, by decide, by kernel_rfl, rfl, by kernel_rfl⟩
/-- bulla/request.CheckSign -/
def A_request_CheckSign : AF := ⟨1, 21, [(.tmp 2)],
 (.seq (.ops [⟨some 1, none, .boxi (.tmp 0)⟩,
  ⟨some 2, none, .mv (.lit (.d (.int .i64 0)))⟩])
 (.seq (.seq (.ops [⟨some 3, none, .faddr 0 (.tmp 1)⟩,
  ⟨some 4, none, .load false 1 (.tmp 3)⟩,
  ⟨some 5, none, .bin .lss .plain (.tmp 4) (.lit (.d (.int .i64 0)))⟩,
  ⟨some 6, none, .mv (.tmp 5)⟩,
  ⟨some 7, some (6, false), .faddr 0 (.tmp 1)⟩,
  ⟨some 8, some (6, false), .load false 1 (.tmp 7)⟩,
  ⟨some 9, some (6, false), .bin .geq .plain (.tmp 8) (.lit (.d (.int .i64 21)))⟩,
  ⟨some 10, none, .pick (.tmp 6) (.lit (.d (.bool true))) (.tmp 9)⟩,
  ⟨some 11, none, .mv (.tmp 10)⟩,
  ⟨some 12, some (11, false), .faddr 1 (.tmp 1)⟩,
  ⟨some 13, some (11, false), .load false 1 (.tmp 12)⟩,
  ⟨some 14, some (11, false), .bin .lss .plain (.tmp 13) (.lit (.d (.int .i64 1)))⟩,
  ⟨some 15, none, .pick (.tmp 11) (.lit (.d (.bool true))) (.tmp 14)⟩,
  ⟨some 16, none, .mv (.tmp 15)⟩,
  ⟨some 17, some (16, false), .faddr 1 (.tmp 1)⟩,
  ⟨some 18, some (16, false), .load false 1 (.tmp 17)⟩,
  ⟨some 19, some (16, false), .bin .gtr .plain (.tmp 18) (.lit (.d (.int .i64 9007199254740992)))⟩,
  ⟨some 20, none, .pick (.tmp 16) (.lit (.d (.bool true))) (.tmp 19)⟩])
 (.cond (.tmp 20) (.seq (.ops [⟨some 2, none, .mv (.lit (.d (.int .i64 81)))⟩])
 .ret) .skip))
 (.seq (.ops [⟨some 2, none, .mv (.lit (.d (.int .i64 0)))⟩])
 .ret)))⟩
theorem isA_request_CheckSign : isF Try.prog n_request_CheckSign A_request_CheckSign := ⟨Try.f12, _, Try.func12, by decide +kernel, rfl, by kernel_rfl, by kernel_rfl, by decide, by kernel_rfl, rfl, by kernel_rfl⟩
/-- bulla/bullaref08.CheckSign -/
def A_r08_CheckSign : AF := ⟨1, 21, [(.tmp 2)],
 (.seq (.ops [⟨some 1, none, .boxi (.tmp 0)⟩,
  ⟨some 2, none, .mv (.lit (.d (.int .i64 0)))⟩])
 (.seq (.seq (.ops [⟨some 3, none, .faddr 0 (.tmp 1)⟩,
  ⟨some 4, none, .load false 1 (.tmp 3)⟩,
  ⟨some 5, none, .bin .lss .plain (.tmp 4) (.lit (.d (.int .i64 0)))⟩,
  ⟨some 6, none, .mv (.tmp 5)⟩,
  ⟨some 7, some (6, false), .faddr 0 (.tmp 1)⟩,
  ⟨some 8, some (6, false), .load false 1 (.tmp 7)⟩,
  ⟨some 9, some (6, false), .bin .geq .plain (.tmp 8) (.lit (.d (.int .i64 21)))⟩,
  ⟨some 10, none, .pick (.tmp 6) (.lit (.d (.bool true))) (.tmp 9)⟩,
  ⟨some 11, none, .mv (.tmp 10)⟩,
  ⟨some 12, some (11, false), .faddr 1 (.tmp 1)⟩,
  ⟨some 13, some (11, false), .load false 1 (.tmp 12)⟩,
  ⟨some 14, some (11, false), .bin .lss .plain (.tmp 13) (.lit (.d (.int .i64 1)))⟩,
  ⟨some 15, none, .pick (.tmp 11) (.lit (.d (.bool true))) (.tmp 14)⟩,
  ⟨some 16, none, .mv (.tmp 15)⟩,
  ⟨some 17, some (16, false), .faddr 1 (.tmp 1)⟩,
  ⟨some 18, some (16, false), .load false 1 (.tmp 17)⟩,
  ⟨some 19, some (16, false), .bin .gtr .plain (.tmp 18) (.lit (.d (.int .i64 9007199254740992)))⟩,
  ⟨some 20, none, .pick (.tmp 16) (.lit (.d (.bool true))) (.tmp 19)⟩])
 (.cond (.tmp 20) (.seq (.ops [⟨some 2, none, .mv (.lit (.d (.int .i64 81)))⟩])
 .ret) .skip))
 (.seq (.ops [⟨some 2, none, .mv (.lit (.d (.int .i64 0)))⟩])
 .ret)))⟩
theorem isA_r08_CheckSign : isF Try.prog n_r08_CheckSign A_r08_CheckSign := ⟨Try.f13, _, Try.func13, by decide +kernel, rfl, by kernel_rfl, by kernel_rfl, by decide, by kernel_rfl, rfl, by kernel_rfl⟩
/-- bulla/request.CheckBatch -/
def A_request_CheckBatch : AF := ⟨1, 66, [(.tmp 2)],
 (.seq (.ops [⟨some 2, none, .mv (.lit (.d (.int .i64 0)))⟩])
 (.seq (.seq (.ops [⟨some 11, none, .mv (.tmp 0)⟩,
  ⟨some 12, none, .len .sl (.tmp 11)⟩,
  ⟨some 13, none, .bin .gtr .plain (.tmp 12) (.lit (.d (.int .i64 4)))⟩])
 (.cond (.tmp 13) (.seq (.ops [⟨some 2, none, .mv (.lit (.d (.int .i64 3)))⟩])
 .ret) .skip))
 (.seq (.seq (.ops [⟨some 14, none, .mv (.tmp 0)⟩,
  ⟨some 15, none, .len .sl (.tmp 14)⟩,
  ⟨some 16, none, .mv (.lit (.d (.int .i64 0)))⟩])
 (.block 0 (.loop [16] [2, 4, 5, 6, 17, 18, 19, 20, 21, 22, 23, 24, 25, 26, 27, 28, 29, 30, 31, 32] (.seq (.ops [⟨some 17, none, .bin .lss .plain (.tmp 16) (.tmp 15)⟩])
 (.seq (.cond (.tmp 17) .skip (.exit 0))
 (.seq (.block 1 (.seq (.ops [⟨some 18, none, .iaddr none 9 (.tmp 14) (.tmp 16)⟩,
  ⟨some 19, none, .load true 9 (.tmp 18)⟩,
  ⟨some 4, none, .alloc [(.d (.int .i64 0)), (.d (.int .i64 0)), (.d (.int .i64 0)), (.d (.str [])), (.d (.str [])), (.d (.int .i64 0)), (.exact []), (.d (.int .i64 0)), (.d (.int .i64 0))]⟩,
  ⟨none, none, .store 9 (.tmp 4) (.tmp 19)⟩])
 (.seq (.seq (.ops [⟨some 20, none, .faddr 0 (.tmp 4)⟩,
  ⟨some 21, none, .load true 7 (.tmp 20)⟩,
  ⟨some 22, none, .call false 10 [(.tmp 21)]⟩,
  ⟨some 5, none, .mv (.tmp 22)⟩])
 (.seq (.ops [⟨some 23, none, .mv (.tmp 5)⟩,
  ⟨some 24, none, .bin .neq .plain (.tmp 23) (.lit (.d (.int .i64 0)))⟩])
 (.cond (.tmp 24) (.seq (.ops [⟨some 25, none, .mv (.tmp 5)⟩,
  ⟨some 2, none, .mv (.tmp 25)⟩])
 .ret) .skip)))
 (.seq (.ops [⟨some 26, none, .faddr 7 (.tmp 4)⟩,
  ⟨some 27, none, .load true 2 (.tmp 26)⟩,
  ⟨some 28, none, .call false 12 [(.tmp 27)]⟩,
  ⟨some 6, none, .mv (.tmp 28)⟩])
 (.seq (.ops [⟨some 29, none, .mv (.tmp 6)⟩,
  ⟨some 30, none, .bin .neq .plain (.tmp 29) (.lit (.d (.int .i64 0)))⟩])
 (.cond (.tmp 30) (.seq (.ops [⟨some 31, none, .mv (.tmp 6)⟩,
  ⟨some 2, none, .mv (.tmp 31)⟩])
 .ret) .skip))))))
 (.ops [⟨some 32, none, .bin .add .plain (.tmp 16) (.lit (.d (.int .i64 1)))⟩,
  ⟨some 16, none, .mv (.tmp 32)⟩])))))))
 (.seq (.seq (.ops [⟨some 33, none, .mv (.tmp 0)⟩,
  ⟨some 34, none, .len .sl (.tmp 33)⟩,
  ⟨some 35, none, .mv (.lit (.d (.int .i64 0)))⟩])
 (.block 2 (.loop [35] [2, 7, 8, 10, 36, 37, 38, 39, 40, 41, 42, 43, 44, 45, 46, 47, 48, 49, 50, 51, 52, 53, 54, 55, 56, 57, 58, 59, 60, 61, 62, 63, 64, 65] (.seq (.ops [⟨some 36, none, .bin .lss .plain (.tmp 35) (.tmp 34)⟩])
 (.seq (.cond (.tmp 36) .skip (.exit 2))
 (.seq (.block 3 (.seq (.ops [⟨some 37, none, .mv (.tmp 35)⟩,
  ⟨some 38, none, .iaddr none 9 (.tmp 33) (.tmp 35)⟩,
  ⟨some 39, none, .load true 9 (.tmp 38)⟩,
  ⟨some 8, none, .alloc [(.d (.int .i64 0)), (.d (.int .i64 0)), (.d (.int .i64 0)), (.d (.str [])), (.d (.str [])), (.d (.int .i64 0)), (.exact []), (.d (.int .i64 0)), (.d (.int .i64 0))]⟩,
  ⟨some 7, none, .mv (.tmp 37)⟩,
  ⟨none, none, .store 9 (.tmp 8) (.tmp 39)⟩])
 (.seq (.ops [⟨some 40, none, .mv (.tmp 0)⟩,
  ⟨some 41, none, .mv (.tmp 7)⟩,
  ⟨some 42, none, .slc (.sl 9) (.tmp 40) none (some (.tmp 41)) none⟩,
  ⟨some 43, none, .len .sl (.tmp 42)⟩,
  ⟨some 44, none, .mv (.lit (.d (.int .i64 0)))⟩])
 (.block 4 (.loop [44] [2, 10, 45, 46, 47, 48, 49, 50, 51, 52, 53, 54, 55, 56, 57, 58, 59, 60, 61, 62, 63, 64] (.seq (.ops [⟨some 45, none, .bin .lss .plain (.tmp 44) (.tmp 43)⟩])
 (.seq (.cond (.tmp 45) .skip (.exit 4))
 (.seq (.block 5 (.seq (.ops [⟨some 46, none, .iaddr none 9 (.tmp 42) (.tmp 44)⟩,
  ⟨some 47, none, .load true 9 (.tmp 46)⟩,
  ⟨some 10, none, .alloc [(.d (.int .i64 0)), (.d (.int .i64 0)), (.d (.int .i64 0)), (.d (.str [])), (.d (.str [])), (.d (.int .i64 0)), (.exact []), (.d (.int .i64 0)), (.d (.int .i64 0))]⟩,
  ⟨none, none, .store 9 (.tmp 10) (.tmp 47)⟩])
 (.seq (.ops [⟨some 48, none, .faddr 0 (.tmp 8)⟩,
  ⟨some 49, none, .faddr 0 (.tmp 48)⟩,
  ⟨some 50, none, .load false 1 (.tmp 49)⟩,
  ⟨some 51, none, .faddr 0 (.tmp 10)⟩,
  ⟨some 52, none, .faddr 0 (.tmp 51)⟩,
  ⟨some 53, none, .load false 1 (.tmp 52)⟩,
  ⟨some 54, none, .bin .eql .plain (.tmp 50) (.tmp 53)⟩,
  ⟨some 55, none, .mv (.tmp 54)⟩,
  ⟨some 56, some (55, true), .faddr 0 (.tmp 8)⟩,
  ⟨some 57, some (55, true), .faddr 1 (.tmp 56)⟩,
  ⟨some 58, some (55, true), .load false 1 (.tmp 57)⟩,
  ⟨some 59, some (55, true), .faddr 0 (.tmp 10)⟩,
  ⟨some 60, some (55, true), .faddr 1 (.tmp 59)⟩,
  ⟨some 61, some (55, true), .load false 1 (.tmp 60)⟩,
  ⟨some 62, some (55, true), .bin .eql .plain (.tmp 58) (.tmp 61)⟩,
  ⟨some 63, none, .pick (.tmp 55) (.tmp 62) (.lit (.d (.bool false)))⟩])
 (.cond (.tmp 63) (.seq (.ops [⟨some 2, none, .mv (.lit (.d (.int .i64 5)))⟩])
 .ret) .skip))))
 (.ops [⟨some 64, none, .bin .add .plain (.tmp 44) (.lit (.d (.int .i64 1)))⟩,
  ⟨some 44, none, .mv (.tmp 64)⟩])))))))))
 (.ops [⟨some 65, none, .bin .add .plain (.tmp 35) (.lit (.d (.int .i64 1)))⟩,
  ⟨some 35, none, .mv (.tmp 65)⟩])))))))
 (.seq (.ops [⟨some 2, none, .mv (.lit (.d (.int .i64 0)))⟩])
 .ret)))))⟩
theorem isA_request_CheckBatch : isF Try.prog n_request_CheckBatch A_request_CheckBatch := ⟨Try.f14, _, Try.func14, by decide +kernel, rfl, by kernel_rfl, by kernel_rfl, by decide, by kernel_rfl, rfl, by kernel_rfl⟩
end Go.Proofs.Ythmdpooklflkfaa

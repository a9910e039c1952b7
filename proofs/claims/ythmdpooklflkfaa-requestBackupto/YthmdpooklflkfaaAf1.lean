/- Resolved forms, each with the theorem that it is its function's. Printed by program. -/
import Derived.Test.YthmdpooklflkfaaNm
import Derived.KernelRfl
set_option linter.all false
set_option maxRecDepth 100000
set_option linter.unusedVariables false
namespace Go.Proofs.Ythmdpooklflkfaa
open Go.AW
/-- bulla/bullalaw08.RequestBack -/
def A_l08_RequestBack : AF := ⟨3, 72, [(.tmp 6)],
 (.seq (.ops [⟨some 3, none, .boxi (.tmp 0)⟩,
  ⟨some 6, none, .mv (.lit (.d (.bool false)))⟩])
 (.seq (.seq (.ops [⟨some 14, none, .call false 9 []⟩,
  ⟨some 15, none, .un .not (.tmp 14)⟩])
 (.cond (.tmp 15) (.seq (.ops [⟨some 6, none, .mv (.lit (.d (.bool false)))⟩])
 .ret) .skip))
 (.seq (.seq (.ops [⟨some 17, none, .load true 7 (.tmp 3)⟩,
  ⟨some 18, none, .call false 21 [(.tmp 17)]⟩,
  ⟨some 16, none, .mv (.tmp 18)⟩,
  ⟨some 19, none, .extract (.tmp 16) 0⟩,
  ⟨some 20, none, .extract (.tmp 16) 1⟩,
  ⟨some 7, none, .mv (.tmp 19)⟩,
  ⟨some 8, none, .mv (.tmp 20)⟩])
 (.seq (.ops [⟨some 21, none, .mv (.tmp 8)⟩,
  ⟨some 22, none, .bin .eql .plain (.tmp 21) (.lit (.d (.int .i64 0)))⟩])
 (.cond (.tmp 22) (.seq (.ops [⟨some 24, none, .mv (.tmp 7)⟩,
  ⟨some 25, none, .call false 39 [(.tmp 24)]⟩,
  ⟨some 23, none, .mv (.tmp 25)⟩,
  ⟨some 26, none, .extract (.tmp 23) 0⟩,
  ⟨some 27, none, .extract (.tmp 23) 1⟩,
  ⟨some 9, none, .alloc [(.d (.int .i64 0)), (.d (.int .i64 0)), (.d (.int .i64 0)), (.d (.str [])), (.d (.str [])), (.d (.int .i64 0)), (.exact [])]⟩,
  ⟨none, none, .store 7 (.tmp 9) (.tmp 26)⟩,
  ⟨some 10, none, .mv (.tmp 27)⟩])
 (.seq (.ops [⟨some 28, none, .mv (.tmp 10)⟩,
  ⟨some 29, none, .bin .neq .plain (.tmp 28) (.lit (.d (.int .i64 0)))⟩,
  ⟨some 30, none, .mv (.tmp 29)⟩,
  ⟨some 31, some (30, false), .load true 7 (.tmp 3)⟩,
  ⟨some 32, some (30, false), .load true 7 (.tmp 9)⟩,
  ⟨some 33, some (30, false), .call false 41 [(.tmp 31), (.tmp 32)]⟩,
  ⟨some 34, some (30, false), .un .not (.tmp 33)⟩,
  ⟨some 35, none, .pick (.tmp 30) (.lit (.d (.bool true))) (.tmp 34)⟩])
 (.cond (.tmp 35) (.seq (.ops [⟨some 6, none, .mv (.lit (.d (.bool false)))⟩])
 .ret) .skip))) .skip)))
 (.seq (.seq (.ops [⟨some 36, none, .mv (.tmp 1)⟩,
  ⟨some 37, none, .call false 14 [(.tmp 36)]⟩,
  ⟨some 38, none, .bin .eql .plain (.tmp 37) (.lit (.d (.int .i64 0)))⟩])
 (.cond (.tmp 38) (.seq (.ops [⟨some 39, none, .mv (.tmp 1)⟩,
  ⟨some 40, none, .call false 27 [(.lit (.exact [])), (.tmp 39)]⟩,
  ⟨some 41, none, .mv (.tmp 2)⟩,
  ⟨some 42, none, .append false 1 1 [(.d (.int .u8 0))] (.tmp 40) (.tmp 41)⟩,
  ⟨some 43, none, .call false 42 [(.tmp 42)]⟩,
  ⟨some 11, none, .mv (.tmp 43)⟩])
 (.seq (.ops [⟨some 44, none, .mv (.tmp 11)⟩,
  ⟨some 45, none, .call false 44 [(.tmp 44)]⟩,
  ⟨some 46, none, .mv (.tmp 1)⟩,
  ⟨some 47, none, .call false 19 [(.tmp 45), (.tmp 46)]⟩,
  ⟨some 48, none, .un .not (.tmp 47)⟩,
  ⟨some 49, none, .mv (.tmp 48)⟩,
  ⟨some 50, some (49, false), .mv (.tmp 11)⟩,
  ⟨some 51, some (49, false), .call false 46 [(.tmp 50)]⟩,
  ⟨some 52, some (49, false), .bin .neq .plain (.tmp 51) (.lit (.d (.int .i64 0)))⟩,
  ⟨some 53, none, .pick (.tmp 49) (.lit (.d (.bool true))) (.tmp 52)⟩,
  ⟨some 54, none, .mv (.tmp 53)⟩,
  ⟨some 55, some (54, false), .mv (.tmp 11)⟩,
  ⟨some 56, some (54, false), .call false 49 [(.tmp 55)]⟩,
  ⟨some 57, some (54, false), .mv (.tmp 2)⟩,
  ⟨some 58, some (54, false), .len .sl (.tmp 57)⟩,
  ⟨some 59, some (54, false), .bin .neq .plain (.tmp 56) (.tmp 58)⟩,
  ⟨some 60, none, .pick (.tmp 54) (.lit (.d (.bool true))) (.tmp 59)⟩])
 (.cond (.tmp 60) (.seq (.ops [⟨some 6, none, .mv (.lit (.d (.bool false)))⟩])
 .ret) .skip))) .skip))
 (.seq (.ops [⟨some 61, none, .mv (.tmp 2)⟩,
  ⟨some 62, none, .call false 42 [(.tmp 61)]⟩,
  ⟨some 12, none, .mv (.tmp 62)⟩])
 (.seq (.ops [⟨some 63, none, .mv (.tmp 12)⟩,
  ⟨some 64, none, .call false 44 [(.tmp 63)]⟩,
  ⟨some 13, none, .mv (.tmp 64)⟩])
 (.seq (.seq (.ops [⟨some 65, none, .mv (.tmp 12)⟩,
  ⟨some 66, none, .call false 50 [(.tmp 65)]⟩,
  ⟨some 67, none, .bin .neq .plain (.tmp 66) (.lit (.d (.int .i64 0)))⟩])
 (.cond (.tmp 67) (.seq (.ops [⟨some 6, none, .mv (.lit (.d (.bool true)))⟩])
 .ret) .skip))
 (.seq (.ops [⟨some 68, none, .mv (.tmp 13)⟩,
  ⟨some 69, none, .call false 27 [(.lit (.exact [])), (.tmp 68)]⟩,
  ⟨some 70, none, .mv (.tmp 2)⟩,
  ⟨some 71, none, .call false 24 [(.tmp 69), (.tmp 70)]⟩,
  ⟨some 6, none, .mv (.tmp 71)⟩])
 .ret))))))))⟩
theorem isA_l08_RequestBack : isF Try.prog n_l08_RequestBack A_l08_RequestBack := ⟨Try.f8, _, Try.func8, by decide +kernel, rfl, by kernel_rfl, by kernel_rfl, by decide, by kernel_rfl, rfl, by kernel_rfl⟩
/-- bulla/bullalaw08.begun -/
def A_l08_begun : AF := ⟨0, 39, [(.tmp 0)],
 (.seq (.ops [⟨some 0, none, .mv (.lit (.d (.bool false)))⟩])
 (.seq (.ops [⟨some 6, none, .call false 29 []⟩,
  ⟨some 7, none, .call false 30 []⟩,
  ⟨some 1, none, .mv (.tmp 6)⟩,
  ⟨some 2, none, .mv (.tmp 7)⟩])
 (.seq (.ops [⟨some 9, none, .mv (.tmp 1)⟩,
  ⟨some 10, none, .mv (.tmp 2)⟩,
  ⟨some 11, none, .call false 51 []⟩,
  ⟨some 12, none, .call false 31 [(.tmp 9), (.tmp 10), (.tmp 11)]⟩,
  ⟨some 8, none, .mv (.tmp 12)⟩,
  ⟨some 13, none, .extract (.tmp 8) 0⟩,
  ⟨some 14, none, .extract (.tmp 8) 1⟩,
  ⟨some 3, none, .alloc [(.d (.int .i64 0)), (.d (.int .i64 0)), (.d (.int .i64 0)), (.d (.str [])), (.d (.str [])), (.d (.int .i64 0)), (.exact []), (.d (.int .i64 0)), (.d (.int .i64 0))]⟩,
  ⟨none, none, .store 9 (.tmp 3) (.tmp 13)⟩,
  ⟨some 4, none, .mv (.tmp 14)⟩])
 (.seq (.ops [⟨some 15, none, .load true 9 (.tmp 3)⟩,
  ⟨some 5, none, .alloc [(.d (.int .i64 0)), (.d (.int .i64 0)), (.d (.int .i64 0)), (.d (.str [])), (.d (.str [])), (.d (.int .i64 0)), (.exact []), (.d (.int .i64 0)), (.d (.int .i64 0))]⟩,
  ⟨none, none, .store 9 (.tmp 5) (.tmp 15)⟩])
 (.seq (.ops [⟨some 16, none, .faddr 0 (.tmp 5)⟩,
  ⟨some 17, none, .faddr 0 (.tmp 16)⟩,
  ⟨none, none, .store 1 (.tmp 17) (.lit (.d (.int .i64 3)))⟩])
 (.seq (.ops [⟨some 18, none, .mv (.tmp 4)⟩,
  ⟨some 19, none, .bin .eql .plain (.tmp 18) (.lit (.d (.int .i64 0)))⟩,
  ⟨some 20, none, .mv (.tmp 19)⟩,
  ⟨some 21, some (20, true), .faddr 7 (.tmp 3)⟩,
  ⟨some 22, some (20, true), .load true 2 (.tmp 21)⟩,
  ⟨some 23, some (20, true), .build [(.d (.int .i64 0)), (.d (.int .i64 0))] [(0, 1, (.lit (.d (.int .i64 15)))), (1, 1, (.lit (.d (.int .i64 1))))]⟩,
  ⟨some 24, some (20, true), .bin .eql (.ints 2) (.tmp 22) (.tmp 23)⟩,
  ⟨some 25, none, .pick (.tmp 20) (.tmp 24) (.lit (.d (.bool false)))⟩,
  ⟨some 26, none, .mv (.tmp 25)⟩,
  ⟨some 27, some (26, true), .mv (.tmp 1)⟩,
  ⟨some 28, some (26, true), .mv (.tmp 2)⟩,
  ⟨some 29, some (26, true), .load true 9 (.tmp 3)⟩,
  ⟨some 30, some (26, true), .call false 32 [(.tmp 27), (.tmp 28), (.tmp 29)]⟩,
  ⟨some 31, none, .pick (.tmp 26) (.tmp 30) (.lit (.d (.bool false)))⟩,
  ⟨some 32, none, .mv (.tmp 31)⟩,
  ⟨some 33, some (32, true), .mv (.tmp 1)⟩,
  ⟨some 34, some (32, true), .mv (.tmp 2)⟩,
  ⟨some 35, some (32, true), .load true 9 (.tmp 5)⟩,
  ⟨some 36, some (32, true), .call false 32 [(.tmp 33), (.tmp 34), (.tmp 35)]⟩,
  ⟨some 37, some (32, true), .un .not (.tmp 36)⟩,
  ⟨some 38, none, .pick (.tmp 32) (.tmp 37) (.lit (.d (.bool false)))⟩,
  ⟨some 0, none, .mv (.tmp 38)⟩])
 .ret))))))⟩
theorem isA_l08_begun : isF Try.prog n_l08_begun A_l08_begun := ⟨Try.f9, _, Try.func9, by decide +kernel, rfl, by kernel_rfl, by kernel_rfl, by decide, by kernel_rfl, rfl, by kernel_rfl⟩
/-- bulla/request.Check -/
def A_request_Check : AF := ⟨1, 24, [(.tmp 2)],
 (.seq (.ops [⟨some 1, none, .boxi (.tmp 0)⟩,
  ⟨some 2, none, .mv (.lit (.d (.int .i64 0)))⟩])
 (.seq (.seq (.ops [⟨some 3, none, .faddr 0 (.tmp 1)⟩,
  ⟨some 4, none, .load false 1 (.tmp 3)⟩,
  ⟨some 5, none, .bin .lss .plain (.tmp 4) (.lit (.d (.int .i64 0)))⟩,
  ⟨some 6, none, .mv (.tmp 5)⟩,
  ⟨some 7, some (6, false), .faddr 0 (.tmp 1)⟩,
  ⟨some 8, some (6, false), .load false 1 (.tmp 7)⟩,
  ⟨some 9, some (6, false), .bin .geq .plain (.tmp 8) (.lit (.d (.int .i64 8)))⟩,
  ⟨some 10, none, .pick (.tmp 6) (.lit (.d (.bool true))) (.tmp 9)⟩,
  ⟨some 11, none, .mv (.tmp 10)⟩,
  ⟨some 12, some (11, false), .faddr 1 (.tmp 1)⟩,
  ⟨some 13, some (11, false), .load false 1 (.tmp 12)⟩,
  ⟨some 14, some (11, false), .bin .lss .plain (.tmp 13) (.lit (.d (.int .i64 1)))⟩,
  ⟨some 15, none, .pick (.tmp 11) (.lit (.d (.bool true))) (.tmp 14)⟩,
  ⟨some 16, none, .mv (.tmp 15)⟩,
  ⟨some 17, some (16, false), .faddr 1 (.tmp 1)⟩,
  ⟨some 18, some (16, false), .load false 1 (.tmp 17)⟩,
  ⟨some 19, some (16, false), .bin .gtr .plain (.tmp 18) (.lit (.d (.int .i64 9007199254740992)))⟩,
  ⟨some 20, none, .pick (.tmp 16) (.lit (.d (.bool true))) (.tmp 19)⟩])
 (.cond (.tmp 20) (.seq (.ops [⟨some 2, none, .mv (.lit (.d (.int .i64 80)))⟩])
 .ret) .skip))
 (.seq (.ops [⟨some 21, none, .faddr 2 (.tmp 1)⟩,
  ⟨some 22, none, .load true 5 (.tmp 21)⟩,
  ⟨some 23, none, .call false 52 [(.tmp 22)]⟩,
  ⟨some 2, none, .mv (.tmp 23)⟩])
 .ret)))⟩
theorem isA_request_Check : isF Try.prog n_request_Check A_request_Check := ⟨Try.f10, _, Try.func10, by decide +kernel, rfl, by kernel_rfl, by kernel_rfl, by decide, by kernel_rfl, rfl, by kernel_rfl⟩
/-- bulla/request.CheckSign -/
def A_request_CheckSign : AF := ⟨1, 21, [(.tmp 2)],
 (.seq (.ops [⟨some 1, none, .boxi (.tmp 0)⟩,
  ⟨some 2, none, .mv (.lit (.d (.int .i64 0)))⟩])
 (.seq (.seq (.ops [⟨some 3, none, .faddr 0 (.tmp 1)⟩,
  ⟨some 4, none, .load false 1 (.tmp 3)⟩,
  ⟨some 5, none, .bin .lss .plain (.tmp 4) (.lit (.d (.int .i64 0)))⟩,
  ⟨some 6, none, .mv (.tmp 5)⟩,
  ⟨some 7, some (6, false), .faddr 0 (.tmp 1)⟩,
  ⟨some 8, some (6, false), .load false 1 (.tmp 7)⟩,
  ⟨some 9, some (6, false), .bin .geq .plain (.tmp 8) (.lit (.d (.int .i64 21)))⟩,
  ⟨some 10, none, .pick (.tmp 6) (.lit (.d (.bool true))) (.tmp 9)⟩,
  ⟨some 11, none, .mv (.tmp 10)⟩,
  ⟨some 12, some (11, false), .faddr 1 (.tmp 1)⟩,
  ⟨some 13, some (11, false), .load false 1 (.tmp 12)⟩,
  ⟨some 14, some (11, false), .bin .lss .plain (.tmp 13) (.lit (.d (.int .i64 1)))⟩,
  ⟨some 15, none, .pick (.tmp 11) (.lit (.d (.bool true))) (.tmp 14)⟩,
  ⟨some 16, none, .mv (.tmp 15)⟩,
  ⟨some 17, some (16, false), .faddr 1 (.tmp 1)⟩,
  ⟨some 18, some (16, false), .load false 1 (.tmp 17)⟩,
  ⟨some 19, some (16, false), .bin .gtr .plain (.tmp 18) (.lit (.d (.int .i64 9007199254740992)))⟩,
  ⟨some 20, none, .pick (.tmp 16) (.lit (.d (.bool true))) (.tmp 19)⟩])
 (.cond (.tmp 20) (.seq (.ops [⟨some 2, none, .mv (.lit (.d (.int .i64 81)))⟩])
 .ret) .skip))
 (.seq (.ops [⟨some 2, none, .mv (.lit (.d (.int .i64 0)))⟩])
 .ret)))⟩
theorem isA_request_CheckSign : isF Try.prog n_request_CheckSign A_request_CheckSign := ⟨Try.f12, _, Try.func12, by decide +kernel, rfl, by kernel_rfl, by kernel_rfl, by decide, by kernel_rfl, rfl, by kernel_rfl⟩
/-- bulla/request.CheckBatch -/
def A_request_CheckBatch : AF := ⟨1, 66, [(.tmp 2)],
 (.seq (.ops [⟨some 2, none, .mv (.lit (.d (.int .i64 0)))⟩])
 (.seq (.seq (.ops [⟨some 11, none, .mv (.tmp 0)⟩,
  ⟨some 12, none, .len .sl (.tmp 11)⟩,
  ⟨some 13, none, .bin .gtr .plain (.tmp 12) (.lit (.d (.int .i64 4)))⟩])
 (.cond (.tmp 13) (.seq (.ops [⟨some 2, none, .mv (.lit (.d (.int .i64 3)))⟩])
 .ret) .skip))
 (.seq (.seq (.ops [⟨some 14, none, .mv (.tmp 0)⟩,
  ⟨some 15, none, .len .sl (.tmp 14)⟩,
  ⟨some 16, none, .mv (.lit (.d (.int .i64 0)))⟩])
 (.block 0 (.loop [16] [2, 4, 5, 6, 17, 18, 19, 20, 21, 22, 23, 24, 25, 26, 27, 28, 29, 30, 31, 32] (.seq (.ops [⟨some 17, none, .bin .lss .plain (.tmp 16) (.tmp 15)⟩])
 (.seq (.cond (.tmp 17) .skip (.exit 0))
 (.seq (.block 1 (.seq (.ops [⟨some 18, none, .iaddr none 9 (.tmp 14) (.tmp 16)⟩,
  ⟨some 19, none, .load true 9 (.tmp 18)⟩,
  ⟨some 4, none, .alloc [(.d (.int .i64 0)), (.d (.int .i64 0)), (.d (.int .i64 0)), (.d (.str [])), (.d (.str [])), (.d (.int .i64 0)), (.exact []), (.d (.int .i64 0)), (.d (.int .i64 0))]⟩,
  ⟨none, none, .store 9 (.tmp 4) (.tmp 19)⟩])
 (.seq (.seq (.ops [⟨some 20, none, .faddr 0 (.tmp 4)⟩,
  ⟨some 21, none, .load true 7 (.tmp 20)⟩,
  ⟨some 22, none, .call false 10 [(.tmp 21)]⟩,
  ⟨some 5, none, .mv (.tmp 22)⟩])
 (.seq (.ops [⟨some 23, none, .mv (.tmp 5)⟩,
  ⟨some 24, none, .bin .neq .plain (.tmp 23) (.lit (.d (.int .i64 0)))⟩])
 (.cond (.tmp 24) (.seq (.ops [⟨some 25, none, .mv (.tmp 5)⟩,
  ⟨some 2, none, .mv (.tmp 25)⟩])
 .ret) .skip)))
 (.seq (.ops [⟨some 26, none, .faddr 7 (.tmp 4)⟩,
  ⟨some 27, none, .load true 2 (.tmp 26)⟩,
  ⟨some 28, none, .call false 12 [(.tmp 27)]⟩,
  ⟨some 6, none, .mv (.tmp 28)⟩])
 (.seq (.ops [⟨some 29, none, .mv (.tmp 6)⟩,
  ⟨some 30, none, .bin .neq .plain (.tmp 29) (.lit (.d (.int .i64 0)))⟩])
 (.cond (.tmp 30) (.seq (.ops [⟨some 31, none, .mv (.tmp 6)⟩,
  ⟨some 2, none, .mv (.tmp 31)⟩])
 .ret) .skip))))))
 (.ops [⟨some 32, none, .bin .add .plain (.tmp 16) (.lit (.d (.int .i64 1)))⟩,
  ⟨some 16, none, .mv (.tmp 32)⟩])))))))
 (.seq (.seq (.ops [⟨some 33, none, .mv (.tmp 0)⟩,
  ⟨some 34, none, .len .sl (.tmp 33)⟩,
  ⟨some 35, none, .mv (.lit (.d (.int .i64 0)))⟩])
 (.block 2 (.loop [35] [2, 7, 8, 10, 36, 37, 38, 39, 40, 41, 42, 43, 44, 45, 46, 47, 48, 49, 50, 51, 52, 53, 54, 55, 56, 57, 58, 59, 60, 61, 62, 63, 64, 65] (.seq (.ops [⟨some 36, none, .bin .lss .plain (.tmp 35) (.tmp 34)⟩])
 (.seq (.cond (.tmp 36) .skip (.exit 2))
 (.seq (.block 3 (.seq (.ops [⟨some 37, none, .mv (.tmp 35)⟩,
  ⟨some 38, none, .iaddr none 9 (.tmp 33) (.tmp 35)⟩,
  ⟨some 39, none, .load true 9 (.tmp 38)⟩,
  ⟨some 8, none, .alloc [(.d (.int .i64 0)), (.d (.int .i64 0)), (.d (.int .i64 0)), (.d (.str [])), (.d (.str [])), (.d (.int .i64 0)), (.exact []), (.d (.int .i64 0)), (.d (.int .i64 0))]⟩,
  ⟨some 7, none, .mv (.tmp 37)⟩,
  ⟨none, none, .store 9 (.tmp 8) (.tmp 39)⟩])
 (.seq (.ops [⟨some 40, none, .mv (.tmp 0)⟩,
  ⟨some 41, none, .mv (.tmp 7)⟩,
  ⟨some 42, none, .slc (.sl 9) (.tmp 40) none (some (.tmp 41)) none⟩,
  ⟨some 43, none, .len .sl (.tmp 42)⟩,
  ⟨some 44, none, .mv (.lit (.d (.int .i64 0)))⟩])
 (.block 4 (.loop [44] [2, 10, 45, 46, 47, 48, 49, 50, 51, 52, 53, 54, 55, 56, 57, 58, 59, 60, 61, 62, 63, 64] (.seq (.ops [⟨some 45, none, .bin .lss .plain (.tmp 44) (.tmp 43)⟩])
 (.seq (.cond (.tmp 45) .skip (.exit 4))
 (.seq (.block 5 (.seq (.ops [⟨some 46, none, .iaddr none 9 (.tmp 42) (.tmp 44)⟩,
  ⟨some 47, none, .load true 9 (.tmp 46)⟩,
  ⟨some 10, none, .alloc [(.d (.int .i64 0)), (.d (.int .i64 0)), (.d (.int .i64 0)), (.d (.str [])), (.d (.str [])), (.d (.int .i64 0)), (.exact []), (.d (.int .i64 0)), (.d (.int .i64 0))]⟩,
  ⟨none, none, .store 9 (.tmp 10) (.tmp 47)⟩])
 (.seq (.ops [⟨some 48, none, .faddr 0 (.tmp 8)⟩,
  ⟨some 49, none, .faddr 0 (.tmp 48)⟩,
  ⟨some 50, none, .load false 1 (.tmp 49)⟩,
  ⟨some 51, none, .faddr 0 (.tmp 10)⟩,
  ⟨some 52, none, .faddr 0 (.tmp 51)⟩,
  ⟨some 53, none, .load false 1 (.tmp 52)⟩,
  ⟨some 54, none, .bin .eql .plain (.tmp 50) (.tmp 53)⟩,
  ⟨some 55, none, .mv (.tmp 54)⟩,
  ⟨some 56, some (55, true), .faddr 0 (.tmp 8)⟩,
  ⟨some 57, some (55, true), .faddr 1 (.tmp 56)⟩,
  ⟨some 58, some (55, true), .load false 1 (.tmp 57)⟩,
  ⟨some 59, some (55, true), .faddr 0 (.tmp 10)⟩,
  ⟨some 60, some (55, true), .faddr 1 (.tmp 59)⟩,
  ⟨some 61, some (55, true), .load false 1 (.tmp 60)⟩,
  ⟨some 62, some (55, true), .bin .eql .plain (.tmp 58) (.tmp 61)⟩,
  ⟨some 63, none, .pick (.tmp 55) (.tmp 62) (.lit (.d (.bool false)))⟩])
 (.cond (.tmp 63) (.seq (.ops [⟨some 2, none, .mv (.lit (.d (.int .i64 5)))⟩])
 .ret) .skip))))
 (.ops [⟨some 64, none, .bin .add .plain (.tmp 44) (.lit (.d (.int .i64 1)))⟩,
  ⟨some 44, none, .mv (.tmp 64)⟩])))))))))
 (.ops [⟨some 65, none, .bin .add .plain (.tmp 35) (.lit (.d (.int .i64 1)))⟩,
  ⟨some 35, none, .mv (.tmp 65)⟩])))))))
 (.seq (.ops [⟨some 2, none, .mv (.lit (.d (.int .i64 0)))⟩])
 .ret)))))⟩
theorem isA_request_CheckBatch : isF Try.prog n_request_CheckBatch A_request_CheckBatch := ⟨Try.f14, _, Try.func14, by decide +kernel, rfl, by kernel_rfl, by kernel_rfl, by decide, by kernel_rfl, rfl, by kernel_rfl⟩
/-- bulla/request.Key -/
def A_request_Key : AF := ⟨1, 11, [(.tmp 2)],
 (.seq (.ops [⟨some 2, none, .mv (.lit (.d (.int .i64 0)))⟩])
 (.seq (.seq (.ops [⟨some 3, none, .mv (.tmp 0)⟩,
  ⟨some 4, none, .bin .lss .plain (.tmp 3) (.lit (.d (.int .i64 0)))⟩,
  ⟨some 5, none, .mv (.tmp 4)⟩,
  ⟨some 6, some (5, false), .mv (.tmp 0)⟩,
  ⟨some 7, some (5, false), .bin .geq .plain (.tmp 6) (.lit (.d (.int .i64 8)))⟩,
  ⟨some 8, none, .pick (.tmp 5) (.lit (.d (.bool true))) (.tmp 7)⟩])
 (.cond (.tmp 8) (.seq (.ops [⟨some 2, none, .mv (.lit (.d (.int .i64 (-1))))⟩])
 .ret) .skip))
 (.seq (.ops [⟨some 9, none, .mv (.tmp 0)⟩,
  ⟨some 10, none, .bin .add .plain (.lit (.d (.int .i64 13))) (.tmp 9)⟩,
  ⟨some 2, none, .mv (.tmp 10)⟩])
 .ret)))⟩
theorem isA_request_Key : isF Try.prog n_request_Key A_request_Key := ⟨Try.f16, _, Try.func16, by decide +kernel, rfl, by kernel_rfl, by kernel_rfl, by decide, by kernel_rfl, rfl, by kernel_rfl⟩
end Go.Proofs.Ythmdpooklflkfaa

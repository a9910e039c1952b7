/- Resolved forms, each with the theorem that it is its function's. Printed by program. -/
import Derived.Test.YthmdpooklflkfaaNm
import Derived.KernelRfl
set_option linter.all false
set_option maxRecDepth 100000
set_option linter.unusedVariables false
namespace Go.Proofs.Ythmdpooklflkfaa
open Go.AW
/-- bulla/bullalaw08.create -/
def A_l08_create : AF := ⟨0, 3, [(.cell 0 true 7)],
 (.seq (.ops [⟨some 0, none, .alloc [(.d (.int .i64 0)), (.d (.int .i64 0)), (.d (.int .i64 0)), (.d (.str [])), (.d (.str [])), (.d (.int .i64 0)), (.exact [])]⟩])
 (.seq (.ops [⟨some 1, none, .build [(.d (.int .i64 0)), (.d (.str [])), (.d (.str [])), (.d (.int .i64 0)), (.exact [])] [(0, 1, (.lit (.d (.int .i64 1)))), (1, 1, (.lit (.d (.str [116]))))]⟩,
  ⟨some 2, none, .build [(.d (.int .i64 0)), (.d (.int .i64 0)), (.d (.int .i64 0)), (.d (.str [])), (.d (.str [])), (.d (.int .i64 0)), (.exact [])] [(0, 1, (.lit (.d (.int .i64 2)))), (1, 1, (.lit (.d (.int .i64 7)))), (2, 5, (.tmp 1))]⟩,
  ⟨none, none, .store 7 (.tmp 0) (.tmp 2)⟩])
 .ret))⟩
theorem isA_l08_create : isF Try.prog n_l08_create A_l08_create := ⟨Try.f51, _, Try.func51, by decide +kernel, rfl, by kernel_rfl, by kernel_rfl, by decide, by kernel_rfl, rfl, by kernel_rfl⟩
/-- bulla/op.Check -/
def A_op_Check : AF := ⟨1, 71, [(.tmp 2)],
 (.seq (.ops [⟨some 1, none, .boxi (.tmp 0)⟩,
  ⟨some 2, none, .mv (.lit (.d (.int .i64 0)))⟩])
 (.seq (.ops [⟨some 7, none, .load true 5 (.tmp 1)⟩,
  ⟨some 8, none, .call false 88 [(.tmp 7)]⟩,
  ⟨some 6, none, .mv (.tmp 8)⟩,
  ⟨some 9, none, .extract (.tmp 6) 0⟩,
  ⟨some 10, none, .extract (.tmp 6) 1⟩,
  ⟨some 3, none, .alloc [(.d (.int .i64 0)), (.d (.str [])), (.d (.str [])), (.d (.int .i64 0)), (.exact [])]⟩,
  ⟨none, none, .store 5 (.tmp 3) (.tmp 9)⟩,
  ⟨some 4, none, .mv (.tmp 10)⟩])
 (.seq (.ops [⟨some 5, none, .mv (.lit (.fn (.func 89) [] []))⟩])
 (.seq (.block 0 (.seq (.ops [⟨some 12, none, .mv (.tmp 4)⟩,
  ⟨some 13, none, .un .not (.tmp 12)⟩,
  ⟨some 14, none, .mv (.tmp 13)⟩,
  ⟨some 15, some (14, false), .load true 5 (.tmp 1)⟩,
  ⟨some 16, some (14, false), .load true 5 (.tmp 3)⟩,
  ⟨some 17, some (14, false), .call false 56 [(.tmp 15), (.tmp 16)]⟩,
  ⟨some 18, some (14, false), .un .not (.tmp 17)⟩,
  ⟨some 19, none, .pick (.tmp 14) (.lit (.d (.bool true))) (.tmp 18)⟩,
  ⟨some 11, none, .mv (.tmp 19)⟩])
 (.cond (.tmp 11) (.seq (.ops [⟨some 2, none, .mv (.lit (.d (.int .i64 60)))⟩])
 .ret) (.seq (.ops [⟨some 21, none, .faddr 0 (.tmp 1)⟩,
  ⟨some 22, none, .load false 1 (.tmp 21)⟩,
  ⟨some 23, none, .bin .neq .plain (.tmp 22) (.lit (.d (.int .i64 0)))⟩,
  ⟨some 24, none, .mv (.tmp 23)⟩,
  ⟨some 25, some (24, true), .faddr 1 (.tmp 1)⟩,
  ⟨some 26, some (24, true), .load false 1 (.tmp 25)⟩,
  ⟨some 27, some (24, true), .call false 90 [(.tmp 26)]⟩,
  ⟨some 28, some (24, true), .un .not (.tmp 27)⟩,
  ⟨some 29, none, .pick (.tmp 24) (.tmp 28) (.lit (.d (.bool false)))⟩,
  ⟨some 20, none, .mv (.tmp 29)⟩])
 (.cond (.tmp 20) (.seq (.ops [⟨some 2, none, .mv (.lit (.d (.int .i64 61)))⟩])
 .ret) (.seq (.ops [⟨some 31, none, .faddr 0 (.tmp 1)⟩,
  ⟨some 32, none, .load false 1 (.tmp 31)⟩,
  ⟨some 33, none, .bin .eql .plain (.tmp 32) (.lit (.d (.int .i64 3)))⟩,
  ⟨some 34, none, .mv (.tmp 33)⟩,
  ⟨some 35, some (34, true), .faddr 2 (.tmp 1)⟩,
  ⟨some 36, some (34, true), .load false 1 (.tmp 35)⟩,
  ⟨some 37, some (34, true), .call false 90 [(.tmp 36)]⟩,
  ⟨some 38, some (34, true), .un .not (.tmp 37)⟩,
  ⟨some 39, none, .pick (.tmp 34) (.tmp 38) (.lit (.d (.bool false)))⟩,
  ⟨some 30, none, .mv (.tmp 39)⟩])
 (.cond (.tmp 30) (.seq (.ops [⟨some 2, none, .mv (.lit (.d (.int .i64 61)))⟩])
 .ret) (.seq (.ops [⟨some 41, none, .faddr 0 (.tmp 1)⟩,
  ⟨some 42, none, .load false 1 (.tmp 41)⟩,
  ⟨some 43, none, .bin .eql .plain (.tmp 42) (.lit (.d (.int .i64 2)))⟩,
  ⟨some 44, none, .mv (.tmp 43)⟩,
  ⟨some 45, some (44, true), .faddr 4 (.tmp 1)⟩,
  ⟨some 46, some (44, true), .load false 1 (.tmp 45)⟩,
  ⟨some 47, some (44, true), .len .sl (.tmp 46)⟩,
  ⟨some 48, some (44, true), .bin .lss .plain (.tmp 47) (.lit (.d (.int .i64 1)))⟩,
  ⟨some 49, some (44, true), .mv (.tmp 48)⟩,
  ⟨some 50, some (49, false), .faddr 4 (.tmp 1)⟩,
  ⟨some 51, some (49, false), .load false 1 (.tmp 50)⟩,
  ⟨some 52, some (49, false), .len .sl (.tmp 51)⟩,
  ⟨some 53, some (49, false), .bin .gtr .plain (.tmp 52) (.lit (.d (.int .i64 4)))⟩,
  ⟨some 54, some (44, true), .pick (.tmp 49) (.lit (.d (.bool true))) (.tmp 53)⟩,
  ⟨some 55, some (44, true), .mv (.tmp 54)⟩,
  ⟨some 56, some (55, false), .faddr 4 (.tmp 1)⟩,
  ⟨some 57, some (55, false), .load false 1 (.tmp 56)⟩,
  ⟨some 58, some (55, false), .mv (.tmp 5)⟩,
  ⟨some 59, some (55, false), .call false 91 [(.tmp 57), (.tmp 58)]⟩,
  ⟨some 60, some (44, true), .pick (.tmp 55) (.lit (.d (.bool true))) (.tmp 59)⟩,
  ⟨some 61, none, .pick (.tmp 44) (.tmp 60) (.lit (.d (.bool false)))⟩,
  ⟨some 40, none, .mv (.tmp 61)⟩])
 (.cond (.tmp 40) (.seq (.ops [⟨some 2, none, .mv (.lit (.d (.int .i64 62)))⟩])
 .ret) (.seq (.ops [⟨some 63, none, .faddr 3 (.tmp 1)⟩,
  ⟨some 64, none, .load false 1 (.tmp 63)⟩,
  ⟨some 65, none, .bin .lss .plain (.tmp 64) (.lit (.d (.int .i64 0)))⟩,
  ⟨some 66, none, .mv (.tmp 65)⟩,
  ⟨some 67, some (66, false), .faddr 3 (.tmp 1)⟩,
  ⟨some 68, some (66, false), .load false 1 (.tmp 67)⟩,
  ⟨some 69, some (66, false), .bin .gtr .plain (.tmp 68) (.lit (.d (.int .i64 9007199254740992)))⟩,
  ⟨some 70, none, .pick (.tmp 66) (.lit (.d (.bool true))) (.tmp 69)⟩,
  ⟨some 62, none, .mv (.tmp 70)⟩])
 (.cond (.tmp 62) (.seq (.ops [⟨some 2, none, .mv (.lit (.d (.int .i64 60)))⟩])
 .ret) .skip)))))))))))
 (.seq (.ops [⟨some 2, none, .mv (.lit (.d (.int .i64 0)))⟩])
 .ret)))))⟩
theorem isA_op_Check : isF Try.prog n_op_Check A_op_Check := ⟨Try.f52, _, Try.func52, by decide +kernel, rfl, by kernel_rfl, by kernel_rfl, by decide, by kernel_rfl, rfl, by kernel_rfl⟩
/-- bulla/bullaref06.Check -/
def A_r06_Check : AF := ⟨1, 112, [(.tmp 2)],
 (.seq (.ops [⟨some 1, none, .boxi (.tmp 0)⟩,
  ⟨some 2, none, .mv (.lit (.d (.int .i64 0)))⟩])
 (.seq (.ops [⟨some 9, none, .faddr 0 (.tmp 1)⟩,
  ⟨some 10, none, .load false 1 (.tmp 9)⟩,
  ⟨some 11, none, .call false 92 [(.tmp 10)]⟩,
  ⟨some 8, none, .mv (.tmp 11)⟩,
  ⟨some 12, none, .extract (.tmp 8) 0⟩,
  ⟨some 13, none, .extract (.tmp 8) 1⟩,
  ⟨some 14, none, .extract (.tmp 8) 2⟩,
  ⟨some 15, none, .extract (.tmp 8) 3⟩,
  ⟨some 3, none, .mv (.tmp 12)⟩,
  ⟨some 4, none, .mv (.tmp 13)⟩,
  ⟨some 5, none, .mv (.tmp 14)⟩,
  ⟨some 6, none, .mv (.tmp 15)⟩])
 (.seq (.seq (.ops [⟨some 16, none, .faddr 0 (.tmp 1)⟩,
  ⟨some 17, none, .load false 1 (.tmp 16)⟩,
  ⟨some 18, none, .bin .lss .plain (.tmp 17) (.lit (.d (.int .i64 0)))⟩,
  ⟨some 19, none, .mv (.tmp 18)⟩,
  ⟨some 20, some (19, false), .faddr 0 (.tmp 1)⟩,
  ⟨some 21, some (19, false), .load false 1 (.tmp 20)⟩,
  ⟨some 22, some (19, false), .bin .gtr .plain (.tmp 21) (.lit (.d (.int .i64 4)))⟩,
  ⟨some 23, none, .pick (.tmp 19) (.lit (.d (.bool true))) (.tmp 22)⟩,
  ⟨some 24, none, .mv (.tmp 23)⟩,
  ⟨some 25, some (24, false), .mv (.tmp 3)⟩,
  ⟨some 26, some (24, false), .un .not (.tmp 25)⟩,
  ⟨some 27, some (24, false), .mv (.tmp 26)⟩,
  ⟨some 28, some (27, true), .faddr 1 (.tmp 1)⟩,
  ⟨some 29, some (27, true), .load false 1 (.tmp 28)⟩,
  ⟨some 30, some (27, true), .bin .neq .plain (.tmp 29) (.lit (.d (.str [])))⟩,
  ⟨some 31, some (24, false), .pick (.tmp 27) (.tmp 30) (.lit (.d (.bool false)))⟩,
  ⟨some 32, none, .pick (.tmp 24) (.lit (.d (.bool true))) (.tmp 31)⟩,
  ⟨some 33, none, .mv (.tmp 32)⟩,
  ⟨some 34, some (33, false), .mv (.tmp 4)⟩,
  ⟨some 35, some (33, false), .un .not (.tmp 34)⟩,
  ⟨some 36, some (33, false), .mv (.tmp 35)⟩,
  ⟨some 37, some (36, true), .faddr 2 (.tmp 1)⟩,
  ⟨some 38, some (36, true), .load false 1 (.tmp 37)⟩,
  ⟨some 39, some (36, true), .bin .neq .plain (.tmp 38) (.lit (.d (.str [])))⟩,
  ⟨some 40, some (33, false), .pick (.tmp 36) (.tmp 39) (.lit (.d (.bool false)))⟩,
  ⟨some 41, none, .pick (.tmp 33) (.lit (.d (.bool true))) (.tmp 40)⟩,
  ⟨some 42, none, .mv (.tmp 41)⟩,
  ⟨some 43, some (42, false), .mv (.tmp 5)⟩,
  ⟨some 44, some (42, false), .un .not (.tmp 43)⟩,
  ⟨some 45, some (42, false), .mv (.tmp 44)⟩,
  ⟨some 46, some (45, true), .faddr 3 (.tmp 1)⟩,
  ⟨some 47, some (45, true), .load false 1 (.tmp 46)⟩,
  ⟨some 48, some (45, true), .bin .neq .plain (.tmp 47) (.lit (.d (.int .i64 0)))⟩,
  ⟨some 49, some (42, false), .pick (.tmp 45) (.tmp 48) (.lit (.d (.bool false)))⟩,
  ⟨some 50, none, .pick (.tmp 42) (.lit (.d (.bool true))) (.tmp 49)⟩,
  ⟨some 51, none, .mv (.tmp 50)⟩,
  ⟨some 52, some (51, false), .mv (.tmp 6)⟩,
  ⟨some 53, some (51, false), .un .not (.tmp 52)⟩,
  ⟨some 54, some (51, false), .mv (.tmp 53)⟩,
  ⟨some 55, some (54, true), .faddr 4 (.tmp 1)⟩,
  ⟨some 56, some (54, true), .load false 1 (.tmp 55)⟩,
  ⟨some 57, some (54, true), .len .sl (.tmp 56)⟩,
  ⟨some 58, some (54, true), .bin .gtr .plain (.tmp 57) (.lit (.d (.int .i64 0)))⟩,
  ⟨some 59, some (51, false), .pick (.tmp 54) (.tmp 58) (.lit (.d (.bool false)))⟩,
  ⟨some 60, none, .pick (.tmp 51) (.lit (.d (.bool true))) (.tmp 59)⟩])
 (.cond (.tmp 60) (.seq (.ops [⟨some 2, none, .mv (.lit (.d (.int .i64 60)))⟩])
 .ret) .skip))
 (.seq (.seq (.ops [⟨some 61, none, .mv (.tmp 3)⟩,
  ⟨some 62, none, .mv (.tmp 61)⟩,
  ⟨some 63, some (62, true), .faddr 1 (.tmp 1)⟩,
  ⟨some 64, some (62, true), .load false 1 (.tmp 63)⟩,
  ⟨some 65, some (62, true), .call false 93 [(.tmp 64)]⟩,
  ⟨some 66, some (62, true), .un .not (.tmp 65)⟩,
  ⟨some 67, none, .pick (.tmp 62) (.tmp 66) (.lit (.d (.bool false)))⟩,
  ⟨some 68, none, .mv (.tmp 67)⟩,
  ⟨some 69, some (68, false), .mv (.tmp 4)⟩,
  ⟨some 70, some (68, false), .mv (.tmp 69)⟩,
  ⟨some 71, some (70, true), .faddr 2 (.tmp 1)⟩,
  ⟨some 72, some (70, true), .load false 1 (.tmp 71)⟩,
  ⟨some 73, some (70, true), .call false 93 [(.tmp 72)]⟩,
  ⟨some 74, some (70, true), .un .not (.tmp 73)⟩,
  ⟨some 75, some (68, false), .pick (.tmp 70) (.tmp 74) (.lit (.d (.bool false)))⟩,
  ⟨some 76, none, .pick (.tmp 68) (.lit (.d (.bool true))) (.tmp 75)⟩])
 (.cond (.tmp 76) (.seq (.ops [⟨some 2, none, .mv (.lit (.d (.int .i64 61)))⟩])
 .ret) .skip))
 (.seq (.seq (.ops [⟨some 77, none, .mv (.tmp 6)⟩,
  ⟨some 78, none, .mv (.tmp 77)⟩,
  ⟨some 79, some (78, true), .faddr 4 (.tmp 1)⟩,
  ⟨some 80, some (78, true), .load false 1 (.tmp 79)⟩,
  ⟨some 81, some (78, true), .len .sl (.tmp 80)⟩,
  ⟨some 82, some (78, true), .bin .lss .plain (.tmp 81) (.lit (.d (.int .i64 1)))⟩,
  ⟨some 83, some (78, true), .mv (.tmp 82)⟩,
  ⟨some 84, some (83, false), .faddr 4 (.tmp 1)⟩,
  ⟨some 85, some (83, false), .load false 1 (.tmp 84)⟩,
  ⟨some 86, some (83, false), .len .sl (.tmp 85)⟩,
  ⟨some 87, some (83, false), .bin .gtr .plain (.tmp 86) (.lit (.d (.int .i64 4)))⟩,
  ⟨some 88, some (78, true), .pick (.tmp 83) (.lit (.d (.bool true))) (.tmp 87)⟩,
  ⟨some 89, none, .pick (.tmp 78) (.tmp 88) (.lit (.d (.bool false)))⟩])
 (.cond (.tmp 89) (.seq (.ops [⟨some 2, none, .mv (.lit (.d (.int .i64 62)))⟩])
 .ret) .skip))
 (.seq (.seq (.ops [⟨some 7, none, .mv (.lit (.d (.int .i64 0)))⟩])
 (.block 0 (.loop [7] [2, 90, 91, 92, 93, 94, 95, 96, 97, 98, 99, 100, 101, 102, 103] (.seq (.seq (.ops [⟨some 90, none, .mv (.tmp 7)⟩,
  ⟨some 91, none, .faddr 4 (.tmp 1)⟩,
  ⟨some 92, none, .load false 1 (.tmp 91)⟩,
  ⟨some 93, none, .len .sl (.tmp 92)⟩,
  ⟨some 94, none, .bin .lss .plain (.tmp 90) (.tmp 93)⟩])
 (.cond (.tmp 94) .skip (.exit 0)))
 (.seq (.block 1 (.seq (.ops [⟨some 97, none, .faddr 4 (.tmp 1)⟩,
  ⟨some 98, none, .load false 1 (.tmp 97)⟩,
  ⟨some 99, none, .mv (.tmp 7)⟩,
  ⟨some 100, none, .iaddr none 1 (.tmp 98) (.tmp 99)⟩,
  ⟨some 101, none, .load false 1 (.tmp 100)⟩,
  ⟨some 102, none, .len .sl (.tmp 101)⟩,
  ⟨some 103, none, .bin .gtr .plain (.tmp 102) (.lit (.d (.int .i64 64)))⟩])
 (.cond (.tmp 103) (.seq (.ops [⟨some 2, none, .mv (.lit (.d (.int .i64 62)))⟩])
 .ret) .skip)))
 (.ops [⟨some 95, none, .mv (.tmp 7)⟩,
  ⟨some 96, none, .bin .add .plain (.tmp 95) (.lit (.d (.int .i64 1)))⟩,
  ⟨some 7, none, .mv (.tmp 96)⟩]))))))
 (.seq (.seq (.ops [⟨some 104, none, .faddr 3 (.tmp 1)⟩,
  ⟨some 105, none, .load false 1 (.tmp 104)⟩,
  ⟨some 106, none, .bin .lss .plain (.tmp 105) (.lit (.d (.int .i64 0)))⟩,
  ⟨some 107, none, .mv (.tmp 106)⟩,
  ⟨some 108, some (107, false), .faddr 3 (.tmp 1)⟩,
  ⟨some 109, some (107, false), .load false 1 (.tmp 108)⟩,
  ⟨some 110, some (107, false), .bin .gtr .plain (.tmp 109) (.lit (.d (.int .i64 9007199254740992)))⟩,
  ⟨some 111, none, .pick (.tmp 107) (.lit (.d (.bool true))) (.tmp 110)⟩])
 (.cond (.tmp 111) (.seq (.ops [⟨some 2, none, .mv (.lit (.d (.int .i64 60)))⟩])
 .ret) .skip))
 (.seq (.ops [⟨some 2, none, .mv (.lit (.d (.int .i64 0)))⟩])
 .ret))))))))⟩
theorem isA_r06_Check : isF Try.prog n_r06_Check A_r06_Check := ⟨Try.f53, _, Try.func53, by decide +kernel, rfl, by kernel_rfl, by kernel_rfl, by decide, by kernel_rfl, rfl, by kernel_rfl⟩
/-- slices.EqualFunc[bulla/api.Batch,bulla/api.Batch,bulla/api.Signed,bulla/api.Signed] -/
def A_slices_EqualFunc_api_Batch_api_Batch_api_Signed_api_Signed : AF := ⟨3, 32, [(.tmp 6)],
 (.seq (.ops [⟨some 6, none, .mv (.lit (.d (.bool false)))⟩])
 (.seq (.seq (.ops [⟨some 10, none, .mv (.tmp 0)⟩,
  ⟨some 11, none, .len .sl (.tmp 10)⟩,
  ⟨some 12, none, .mv (.tmp 1)⟩,
  ⟨some 13, none, .len .sl (.tmp 12)⟩,
  ⟨some 14, none, .bin .neq .plain (.tmp 11) (.tmp 13)⟩])
 (.cond (.tmp 14) (.seq (.ops [⟨some 6, none, .mv (.lit (.d (.bool false)))⟩])
 .ret) .skip))
 (.seq (.seq (.ops [⟨some 15, none, .mv (.tmp 0)⟩,
  ⟨some 16, none, .len .sl (.tmp 15)⟩,
  ⟨some 17, none, .mv (.lit (.d (.int .i64 0)))⟩])
 (.block 0 (.loop [17] [6, 7, 8, 9, 18, 19, 20, 21, 22, 23, 24, 25, 26, 27, 28, 29, 30, 31] (.seq (.ops [⟨some 18, none, .bin .lss .plain (.tmp 17) (.tmp 16)⟩])
 (.seq (.cond (.tmp 18) .skip (.exit 0))
 (.seq (.block 1 (.seq (.ops [⟨some 19, none, .mv (.tmp 17)⟩,
  ⟨some 20, none, .iaddr none 9 (.tmp 15) (.tmp 17)⟩,
  ⟨some 21, none, .load true 9 (.tmp 20)⟩,
  ⟨some 8, none, .alloc [(.d (.int .i64 0)), (.d (.int .i64 0)), (.d (.int .i64 0)), (.d (.str [])), (.d (.str [])), (.d (.int .i64 0)), (.exact []), (.d (.int .i64 0)), (.d (.int .i64 0))]⟩,
  ⟨some 7, none, .mv (.tmp 19)⟩,
  ⟨none, none, .store 9 (.tmp 8) (.tmp 21)⟩])
 (.seq (.ops [⟨some 22, none, .mv (.tmp 1)⟩,
  ⟨some 23, none, .mv (.tmp 7)⟩,
  ⟨some 24, none, .iaddr none 9 (.tmp 22) (.tmp 23)⟩,
  ⟨some 25, none, .load true 9 (.tmp 24)⟩,
  ⟨some 9, none, .alloc [(.d (.int .i64 0)), (.d (.int .i64 0)), (.d (.int .i64 0)), (.d (.str [])), (.d (.str [])), (.d (.int .i64 0)), (.exact []), (.d (.int .i64 0)), (.d (.int .i64 0))]⟩,
  ⟨none, none, .store 9 (.tmp 9) (.tmp 25)⟩])
 (.seq (.ops [⟨some 26, none, .mv (.tmp 2)⟩,
  ⟨some 27, none, .load true 9 (.tmp 8)⟩,
  ⟨some 28, none, .load true 9 (.tmp 9)⟩,
  ⟨some 29, none, .callv (.tmp 26) [(.tmp 27), (.tmp 28)]⟩,
  ⟨some 30, none, .un .not (.tmp 29)⟩])
 (.cond (.tmp 30) (.seq (.ops [⟨some 6, none, .mv (.lit (.d (.bool false)))⟩])
 .ret) .skip)))))
 (.ops [⟨some 31, none, .bin .add .plain (.tmp 17) (.lit (.d (.int .i64 1)))⟩,
  ⟨some 17, none, .mv (.tmp 31)⟩])))))))
 (.seq (.ops [⟨some 6, none, .mv (.lit (.d (.bool true)))⟩])
 .ret))))⟩
theorem isA_slices_EqualFunc_api_Batch_api_Batch_api_Signed_api_Signed : isF Try.prog n_slices_EqualFunc_api_Batch_api_Batch_api_Signed_api_Signed A_slices_EqualFunc_api_Batch_api_Batch_api_Signed_api_Signed := ⟨Try.f54, _, Try.func54, by decide +kernel, rfl, by kernel_rfl, by kernel_rfl, by decide, by kernel_rfl, rfl, by kernel_rfl⟩
/-- bulla/request.Same$1 -/
def A_request_Same_1 : AF := ⟨2, 37, [(.tmp 4)],
 (.seq (.ops [⟨some 2, none, .boxi (.tmp 0)⟩,
  ⟨some 3, none, .boxi (.tmp 1)⟩,
  ⟨some 4, none, .mv (.lit (.d (.bool false)))⟩])
 (.seq (.ops [⟨some 5, none, .faddr 7 (.tmp 2)⟩,
  ⟨some 6, none, .load true 2 (.tmp 5)⟩,
  ⟨some 7, none, .faddr 7 (.tmp 3)⟩,
  ⟨some 8, none, .load true 2 (.tmp 7)⟩,
  ⟨some 9, none, .bin .eql (.ints 2) (.tmp 6) (.tmp 8)⟩,
  ⟨some 10, none, .mv (.tmp 9)⟩,
  ⟨some 11, some (10, true), .faddr 0 (.tmp 2)⟩,
  ⟨some 12, some (10, true), .faddr 0 (.tmp 11)⟩,
  ⟨some 13, some (10, true), .load false 1 (.tmp 12)⟩,
  ⟨some 14, some (10, true), .faddr 0 (.tmp 3)⟩,
  ⟨some 15, some (10, true), .faddr 0 (.tmp 14)⟩,
  ⟨some 16, some (10, true), .load false 1 (.tmp 15)⟩,
  ⟨some 17, some (10, true), .bin .eql .plain (.tmp 13) (.tmp 16)⟩,
  ⟨some 18, none, .pick (.tmp 10) (.tmp 17) (.lit (.d (.bool false)))⟩,
  ⟨some 19, none, .mv (.tmp 18)⟩,
  ⟨some 20, some (19, true), .faddr 0 (.tmp 2)⟩,
  ⟨some 21, some (19, true), .faddr 1 (.tmp 20)⟩,
  ⟨some 22, some (19, true), .load false 1 (.tmp 21)⟩,
  ⟨some 23, some (19, true), .faddr 0 (.tmp 3)⟩,
  ⟨some 24, some (19, true), .faddr 1 (.tmp 23)⟩,
  ⟨some 25, some (19, true), .load false 1 (.tmp 24)⟩,
  ⟨some 26, some (19, true), .bin .eql .plain (.tmp 22) (.tmp 25)⟩,
  ⟨some 27, none, .pick (.tmp 19) (.tmp 26) (.lit (.d (.bool false)))⟩,
  ⟨some 28, none, .mv (.tmp 27)⟩,
  ⟨some 29, some (28, true), .faddr 0 (.tmp 2)⟩,
  ⟨some 30, some (28, true), .faddr 2 (.tmp 29)⟩,
  ⟨some 31, some (28, true), .load true 5 (.tmp 30)⟩,
  ⟨some 32, some (28, true), .faddr 0 (.tmp 3)⟩,
  ⟨some 33, some (28, true), .faddr 2 (.tmp 32)⟩,
  ⟨some 34, some (28, true), .load true 5 (.tmp 33)⟩,
  ⟨some 35, some (28, true), .call false 56 [(.tmp 31), (.tmp 34)]⟩,
  ⟨some 36, none, .pick (.tmp 28) (.tmp 35) (.lit (.d (.bool false)))⟩,
  ⟨some 4, none, .mv (.tmp 36)⟩])
 .ret))⟩
theorem isA_request_Same_1 : isF Try.prog n_request_Same_1 A_request_Same_1 := ⟨Try.f55, _, Try.func55, by decide +kernel, rfl, by kernel_rfl, by kernel_rfl, by decide, by kernel_rfl, rfl, by kernel_rfl⟩
/-- bulla/op.Same -/
def A_op_Same : AF := ⟨2, 38, [(.tmp 4)],
 (.seq (.ops [⟨some 2, none, .boxi (.tmp 0)⟩,
  ⟨some 3, none, .boxi (.tmp 1)⟩,
  ⟨some 4, none, .mv (.lit (.d (.bool false)))⟩])
 (.seq (.ops [⟨some 5, none, .faddr 0 (.tmp 2)⟩,
  ⟨some 6, none, .load false 1 (.tmp 5)⟩,
  ⟨some 7, none, .faddr 0 (.tmp 3)⟩,
  ⟨some 8, none, .load false 1 (.tmp 7)⟩,
  ⟨some 9, none, .bin .eql .plain (.tmp 6) (.tmp 8)⟩,
  ⟨some 10, none, .mv (.tmp 9)⟩,
  ⟨some 11, some (10, true), .faddr 1 (.tmp 2)⟩,
  ⟨some 12, some (10, true), .load false 1 (.tmp 11)⟩,
  ⟨some 13, some (10, true), .faddr 1 (.tmp 3)⟩,
  ⟨some 14, some (10, true), .load false 1 (.tmp 13)⟩,
  ⟨some 15, some (10, true), .bin .eql .plain (.tmp 12) (.tmp 14)⟩,
  ⟨some 16, none, .pick (.tmp 10) (.tmp 15) (.lit (.d (.bool false)))⟩,
  ⟨some 17, none, .mv (.tmp 16)⟩,
  ⟨some 18, some (17, true), .faddr 2 (.tmp 2)⟩,
  ⟨some 19, some (17, true), .load false 1 (.tmp 18)⟩,
  ⟨some 20, some (17, true), .faddr 2 (.tmp 3)⟩,
  ⟨some 21, some (17, true), .load false 1 (.tmp 20)⟩,
  ⟨some 22, some (17, true), .bin .eql .plain (.tmp 19) (.tmp 21)⟩,
  ⟨some 23, none, .pick (.tmp 17) (.tmp 22) (.lit (.d (.bool false)))⟩,
  ⟨some 24, none, .mv (.tmp 23)⟩,
  ⟨some 25, some (24, true), .faddr 3 (.tmp 2)⟩,
  ⟨some 26, some (24, true), .load false 1 (.tmp 25)⟩,
  ⟨some 27, some (24, true), .faddr 3 (.tmp 3)⟩,
  ⟨some 28, some (24, true), .load false 1 (.tmp 27)⟩,
  ⟨some 29, some (24, true), .bin .eql .plain (.tmp 26) (.tmp 28)⟩,
  ⟨some 30, none, .pick (.tmp 24) (.tmp 29) (.lit (.d (.bool false)))⟩,
  ⟨some 31, none, .mv (.tmp 30)⟩,
  ⟨some 32, some (31, true), .faddr 4 (.tmp 2)⟩,
  ⟨some 33, some (31, true), .load false 1 (.tmp 32)⟩,
  ⟨some 34, some (31, true), .faddr 4 (.tmp 3)⟩,
  ⟨some 35, some (31, true), .load false 1 (.tmp 34)⟩,
  ⟨some 36, some (31, true), .call false 94 [(.tmp 33), (.tmp 35), (.lit (.fn (.func 95) [] []))]⟩,
  ⟨some 37, none, .pick (.tmp 31) (.tmp 36) (.lit (.d (.bool false)))⟩,
  ⟨some 4, none, .mv (.tmp 37)⟩])
 .ret))⟩
theorem isA_op_Same : isF Try.prog n_op_Same A_op_Same := ⟨Try.f56, _, Try.func56, by decide +kernel, rfl, by kernel_rfl, by kernel_rfl, by decide, by kernel_rfl, rfl, by kernel_rfl⟩
/-- bulla/op.Clone -/
def A_op_Clone : AF := ⟨1, 22, [(.cell 2 true 5)],
 (.seq (.ops [⟨some 1, none, .boxi (.tmp 0)⟩,
  ⟨some 2, none, .alloc [(.d (.int .i64 0)), (.d (.str [])), (.d (.str [])), (.d (.int .i64 0)), (.exact [])]⟩])
 (.seq (.ops [⟨some 3, none, .mv (.lit (.exact []))⟩])
 (.seq (.seq (.ops [⟨some 6, none, .faddr 4 (.tmp 1)⟩,
  ⟨some 7, none, .load false 1 (.tmp 6)⟩,
  ⟨some 8, none, .len .sl (.tmp 7)⟩,
  ⟨some 9, none, .mv (.lit (.d (.int .i64 0)))⟩])
 (.block 0 (.loop [3, 9] [5, 10, 11, 12, 13, 14, 15, 16, 17, 18] (.seq (.ops [⟨some 10, none, .bin .lss .plain (.tmp 9) (.tmp 8)⟩])
 (.seq (.cond (.tmp 10) .skip (.exit 0))
 (.seq (.block 1 (.seq (.ops [⟨some 11, none, .iaddr none 1 (.tmp 7) (.tmp 9)⟩,
  ⟨some 12, none, .load false 1 (.tmp 11)⟩,
  ⟨some 5, none, .mv (.tmp 12)⟩])
 (.ops [⟨some 13, none, .mv (.tmp 3)⟩,
  ⟨some 14, none, .mv (.tmp 5)⟩,
  ⟨some 15, none, .call false 62 [(.tmp 14)]⟩,
  ⟨some 16, none, .mkslice false 1 1 [(.exact [])] [(0, 1, (.tmp 15))]⟩,
  ⟨some 17, none, .append false 1 24 [(.exact [])] (.tmp 13) (.tmp 16)⟩,
  ⟨some 3, none, .mv (.tmp 17)⟩])))
 (.ops [⟨some 18, none, .bin .add .plain (.tmp 9) (.lit (.d (.int .i64 1)))⟩,
  ⟨some 9, none, .mv (.tmp 18)⟩])))))))
 (.seq (.ops [⟨some 19, none, .mv (.tmp 3)⟩,
  ⟨some 20, none, .faddr 4 (.tmp 1)⟩,
  ⟨none, none, .store 1 (.tmp 20) (.tmp 19)⟩])
 (.seq (.ops [⟨some 21, none, .load true 5 (.tmp 1)⟩,
  ⟨none, none, .store 5 (.tmp 2) (.tmp 21)⟩])
 .ret)))))⟩
theorem isA_op_Clone : isF Try.prog n_op_Clone A_op_Clone := ⟨Try.f57, _, Try.func57, by decide +kernel, rfl, by kernel_rfl, by kernel_rfl, by decide, by kernel_rfl, rfl, by kernel_rfl⟩
/-- bulla/op.Clone -/
def Am_op_Clone : AF := ⟨1, 22, [(.cell 2 true 5)],
 (.seq (.ops [⟨some 1, none, .boxi (.tmp 0)⟩,
  ⟨some 2, none, .alloc [(.d (.int .i64 0)), (.d (.str [])), (.d (.str [])), (.d (.int .i64 0)), (.exact [])]⟩])
 (.seq (.ops [⟨some 3, none, .mv (.lit (.exact []))⟩])
 (.seq (.seq (.ops [⟨some 6, none, .faddr 4 (.tmp 1)⟩,
  ⟨some 7, none, .load false 1 (.tmp 6)⟩,
  ⟨some 8, none, .len .sl (.tmp 7)⟩,
  ⟨some 9, none, .mv (.lit (.d (.int .i64 0)))⟩])
 (.block 0 (.loop [3, 9] [5, 10, 11, 12, 13, 14, 15, 16, 17, 18] (.seq (.ops [⟨some 10, none, .bin .lss .plain (.tmp 9) (.tmp 8)⟩])
 (.seq (.cond (.tmp 10) .skip (.exit 0))
 (.seq (.block 1 (.seq (.ops [⟨some 11, none, .iaddr none 1 (.tmp 7) (.tmp 9)⟩,
  ⟨some 12, none, .load false 1 (.tmp 11)⟩,
  ⟨some 5, none, .mv (.tmp 12)⟩])
 (.ops [⟨some 13, none, .mv (.tmp 3)⟩,
  ⟨some 14, none, .mv (.tmp 5)⟩,
  ⟨some 15, none, .call true 62 [(.tmp 14)]⟩,
  ⟨some 16, none, .mkslice true 1 1 [(.exact [])] [(0, 1, (.tmp 15))]⟩,
  ⟨some 17, none, .append true 1 24 [(.exact [])] (.tmp 13) (.tmp 16)⟩,
  ⟨some 3, none, .mv (.tmp 17)⟩])))
 (.ops [⟨some 18, none, .bin .add .plain (.tmp 9) (.lit (.d (.int .i64 1)))⟩,
  ⟨some 9, none, .mv (.tmp 18)⟩])))))))
 (.seq (.ops [⟨some 19, none, .mv (.tmp 3)⟩,
  ⟨some 20, none, .faddr 4 (.tmp 1)⟩,
  ⟨none, none, .store 1 (.tmp 20) (.tmp 19)⟩])
 (.seq (.ops [⟨some 21, none, .load true 5 (.tmp 1)⟩,
  ⟨none, none, .store 5 (.tmp 2) (.tmp 21)⟩])
 .ret)))))⟩
theorem isAm_op_Clone : isF Try.prog n_op_Clone Am_op_Clone := ⟨Try.f57, _, Try.func57, by decide +kernel, rfl, by kernel_rfl, by kernel_rfl, by decide, by kernel_rfl, rfl, by kernel_rfl⟩
/-- bulla/op.Put -/
def A_op_Put : AF := ⟨2, 67, [(.tmp 4)],
 (.seq (.ops [⟨some 3, none, .boxi (.tmp 1)⟩,
  ⟨some 4, none, .mv (.lit (.exact []))⟩])
 (.seq (.ops [⟨some 8, none, .mv (.tmp 0)⟩,
  ⟨some 9, none, .call false 62 [(.tmp 8)]⟩,
  ⟨some 5, none, .mv (.tmp 9)⟩])
 (.seq (.seq (.ops [⟨some 10, none, .load true 5 (.tmp 3)⟩,
  ⟨some 11, none, .call false 52 [(.tmp 10)]⟩,
  ⟨some 12, none, .bin .neq .plain (.tmp 11) (.lit (.d (.int .i64 0)))⟩])
 (.cond (.tmp 12) (.seq (.ops [⟨some 13, none, .mv (.tmp 5)⟩,
  ⟨some 4, none, .mv (.tmp 13)⟩])
 .ret) .skip))
 (.seq (.ops [⟨some 14, none, .mv (.tmp 5)⟩,
  ⟨some 15, none, .faddr 0 (.tmp 3)⟩,
  ⟨some 16, none, .load false 1 (.tmp 15)⟩,
  ⟨some 17, none, .conv (.int .u64) (.tmp 16)⟩,
  ⟨some 18, none, .call false 59 [(.tmp 14), (.tmp 17)]⟩,
  ⟨some 5, none, .mv (.tmp 18)⟩])
 (.seq (.seq (.ops [⟨some 19, none, .faddr 0 (.tmp 3)⟩,
  ⟨some 20, none, .load false 1 (.tmp 19)⟩,
  ⟨some 21, none, .bin .neq .plain (.tmp 20) (.lit (.d (.int .i64 0)))⟩])
 (.cond (.tmp 21) (.ops [⟨some 22, none, .mv (.tmp 5)⟩,
  ⟨some 23, none, .faddr 1 (.tmp 3)⟩,
  ⟨some 24, none, .load false 1 (.tmp 23)⟩,
  ⟨some 25, none, .conv .toBytes (.tmp 24)⟩,
  ⟨some 26, none, .call false 96 [(.tmp 22), (.tmp 25)]⟩,
  ⟨some 5, none, .mv (.tmp 26)⟩]) .skip))
 (.seq (.seq (.ops [⟨some 27, none, .faddr 0 (.tmp 3)⟩,
  ⟨some 28, none, .load false 1 (.tmp 27)⟩])
 (.block 0 (.seq (.ops [⟨some 30, none, .bin .eql .plain (.tmp 28) (.lit (.d (.int .i64 2)))⟩,
  ⟨some 29, none, .mv (.tmp 30)⟩])
 (.cond (.tmp 29) (.seq (.ops [⟨some 31, none, .mv (.tmp 5)⟩,
  ⟨some 32, none, .faddr 4 (.tmp 3)⟩,
  ⟨some 33, none, .load false 1 (.tmp 32)⟩,
  ⟨some 34, none, .len .sl (.tmp 33)⟩,
  ⟨some 35, none, .conv (.int .u64) (.tmp 34)⟩,
  ⟨some 36, none, .call false 59 [(.tmp 31), (.tmp 35)]⟩,
  ⟨some 5, none, .mv (.tmp 36)⟩])
 (.seq (.ops [⟨some 37, none, .faddr 4 (.tmp 3)⟩,
  ⟨some 38, none, .load false 1 (.tmp 37)⟩,
  ⟨some 39, none, .len .sl (.tmp 38)⟩,
  ⟨some 40, none, .mv (.lit (.d (.int .i64 0)))⟩])
 (.block 1 (.loop [5, 40] [7, 41, 42, 43, 44, 45, 46, 47] (.seq (.ops [⟨some 41, none, .bin .lss .plain (.tmp 40) (.tmp 39)⟩])
 (.seq (.cond (.tmp 41) .skip (.exit 1))
 (.seq (.block 2 (.seq (.ops [⟨some 42, none, .iaddr none 1 (.tmp 38) (.tmp 40)⟩,
  ⟨some 43, none, .load false 1 (.tmp 42)⟩,
  ⟨some 7, none, .mv (.tmp 43)⟩])
 (.ops [⟨some 44, none, .mv (.tmp 5)⟩,
  ⟨some 45, none, .mv (.tmp 7)⟩,
  ⟨some 46, none, .call false 96 [(.tmp 44), (.tmp 45)]⟩,
  ⟨some 5, none, .mv (.tmp 46)⟩])))
 (.ops [⟨some 47, none, .bin .add .plain (.tmp 40) (.lit (.d (.int .i64 1)))⟩,
  ⟨some 40, none, .mv (.tmp 47)⟩])))))))) (.seq (.ops [⟨some 49, none, .bin .eql .plain (.tmp 28) (.lit (.d (.int .i64 3)))⟩,
  ⟨some 48, none, .mv (.tmp 49)⟩])
 (.cond (.tmp 48) (.draw [⟨some 50, none, .mv (.tmp 5)⟩,
  ⟨some 51, none, .faddr 2 (.tmp 3)⟩,
  ⟨some 52, none, .load false 1 (.tmp 51)⟩,
  ⟨some 53, none, .conv .toBytes (.tmp 52)⟩,
  ⟨some 54, none, .call false 96 [(.tmp 50), (.tmp 53)]⟩,
  ⟨some 55, none, .faddr 3 (.tmp 3)⟩,
  ⟨some 56, none, .load false 1 (.tmp 55)⟩,
  ⟨some 57, none, .conv (.int .u64) (.tmp 56)⟩,
  ⟨some 58, none, .call false 59 [(.tmp 54), (.tmp 57)]⟩,
  ⟨some 5, none, .mv (.tmp 58)⟩] [[], [], [1], [2], [0, 3], [], [5], [6], [4, 7, 4], [8, 8, 0, 1, 2, 3, 4, 5, 6, 7, 8]] [(0, []), (1, []), (2, []), (3, []), (5, []), (6, []), (7, []), (4, [55]), (8, []), (9, [])] [0, 0, 2, 6, 15, 0, 32, 96, 255, 511]) (.seq (.ops [⟨some 60, none, .bin .eql .plain (.tmp 28) (.lit (.d (.int .i64 4)))⟩,
  ⟨some 59, none, .mv (.tmp 60)⟩])
 (.cond (.tmp 59) (.ops [⟨some 61, none, .mv (.tmp 5)⟩,
  ⟨some 62, none, .faddr 3 (.tmp 3)⟩,
  ⟨some 63, none, .load false 1 (.tmp 62)⟩,
  ⟨some 64, none, .conv (.int .u64) (.tmp 63)⟩,
  ⟨some 65, none, .call false 59 [(.tmp 61), (.tmp 64)]⟩,
  ⟨some 5, none, .mv (.tmp 65)⟩]) .skip))))))))
 (.seq (.ops [⟨some 66, none, .mv (.tmp 5)⟩,
  ⟨some 4, none, .mv (.tmp 66)⟩])
 .ret)))))))⟩
theorem isA_op_Put : isF Try.prog n_op_Put A_op_Put := ⟨Try.f58, _, Try.func58, by decide +kernel, rfl, by kernel_rfl, by kernel_rfl, by decide, by kernel_rfl, rfl, by kernel_rfl⟩
/-- bulla/codec.PutNum -/
def A_codec_PutNum : AF := ⟨2, 17, [(.tmp 4)],
 (.seq (.ops [⟨some 4, none, .mv (.lit (.exact []))⟩])
 (.seq (.ops [⟨some 8, none, .mv (.tmp 1)⟩,
  ⟨some 9, none, .call false 97 [(.tmp 8)]⟩,
  ⟨some 7, none, .mv (.tmp 9)⟩,
  ⟨some 10, none, .extract (.tmp 7) 0⟩,
  ⟨some 11, none, .extract (.tmp 7) 1⟩,
  ⟨some 5, none, .alloc [(.d (.int .u8 0)), (.d (.int .u8 0)), (.d (.int .u8 0)), (.d (.int .u8 0)), (.d (.int .u8 0)), (.d (.int .u8 0)), (.d (.int .u8 0)), (.d (.int .u8 0)), (.d (.int .u8 0)), (.d (.int .u8 0))]⟩,
  ⟨none, none, .store 10 (.tmp 5) (.tmp 10)⟩,
  ⟨some 6, none, .mv (.tmp 11)⟩])
 (.seq (.draw [⟨some 12, none, .mv (.tmp 0)⟩,
  ⟨some 13, none, .call false 98 [(.tmp 12)]⟩,
  ⟨some 14, none, .mv (.tmp 6)⟩,
  ⟨some 15, none, .slc (.arr 10 1) (.tmp 5) none (some (.tmp 14)) none⟩,
  ⟨some 16, none, .append false 1 1 [(.d (.int .u8 0))] (.tmp 13) (.tmp 15)⟩,
  ⟨some 4, none, .mv (.tmp 16)⟩] [[], [0], [], [2], [1, 3, 1], [4, 4, 0, 1, 2, 3, 4]] [(0, []), (2, []), (3, []), (1, []), (4, []), (5, [])] [0, 1, 0, 4, 15, 31])
 .ret)))⟩
theorem isA_codec_PutNum : isF Try.prog n_codec_PutNum A_codec_PutNum := ⟨Try.f59, _, Try.func59, by decide +kernel, rfl, by kernel_rfl, by kernel_rfl, by decide, by kernel_rfl, rfl, by kernel_rfl⟩
/-- bytes.Clone -/
def A_bytes_Clone : AF := ⟨1, 8, [(.tmp 2)],
 (.seq (.ops [⟨some 2, none, .mv (.lit (.exact []))⟩])
 (.seq (.seq (.ops [⟨some 3, none, .mv (.tmp 0)⟩,
  ⟨some 4, none, .isnil false (.tmp 3)⟩])
 (.cond (.tmp 4) (.seq (.ops [⟨some 2, none, .mv (.lit (.exact []))⟩])
 .ret) .skip))
 (.seq (.ops [⟨some 5, none, .mkslice false 1 0 [(.d (.int .u8 0))] []⟩,
  ⟨some 6, none, .mv (.tmp 0)⟩,
  ⟨some 7, none, .append false 1 1 [(.d (.int .u8 0))] (.tmp 5) (.tmp 6)⟩,
  ⟨some 2, none, .mv (.tmp 7)⟩])
 .ret)))⟩
theorem isA_bytes_Clone : isF Try.prog n_bytes_Clone A_bytes_Clone := ⟨Try.f62, _, Try.func62, by decide +kernel, rfl, by kernel_rfl, by kernel_rfl, by decide, by kernel_rfl, rfl, by kernel_rfl⟩
/-- bytes.Clone -/
def Am_bytes_Clone : AF := ⟨1, 8, [(.tmp 2)],
 (.seq (.ops [⟨some 2, none, .mv (.lit (.exact []))⟩])
 (.seq (.seq (.ops [⟨some 3, none, .mv (.tmp 0)⟩,
  ⟨some 4, none, .isnil false (.tmp 3)⟩])
 (.cond (.tmp 4) (.seq (.ops [⟨some 2, none, .mv (.lit (.exact []))⟩])
 .ret) .skip))
 (.seq (.ops [⟨some 5, none, .mkslice true 1 0 [(.d (.int .u8 0))] []⟩,
  ⟨some 6, none, .mv (.tmp 0)⟩,
  ⟨some 7, none, .append true 1 1 [(.d (.int .u8 0))] (.tmp 5) (.tmp 6)⟩,
  ⟨some 2, none, .mv (.tmp 7)⟩])
 .ret)))⟩
theorem isAm_bytes_Clone : isF Try.prog n_bytes_Clone Am_bytes_Clone := ⟨Try.f62, _, Try.func62, by decide +kernel, rfl, by kernel_rfl, by kernel_rfl, by decide, by kernel_rfl, rfl, by kernel_rfl⟩
/-- bulla/request.made -/
def A_request_made : AF := ⟨2, 17, [(.tmp 4)],
 (.seq (.ops [⟨some 4, none, .mv (.lit (.d (.bool false)))⟩])
 (.seq (.ops [⟨some 5, none, .mv (.tmp 0)⟩,
  ⟨some 6, none, .call false 70 [(.tmp 5)]⟩,
  ⟨some 7, none, .mv (.tmp 6)⟩,
  ⟨some 8, some (7, true), .mv (.tmp 1)⟩,
  ⟨some 9, some (7, true), .call false 99 [(.tmp 8)]⟩,
  ⟨some 10, some (7, true), .bin .gtr .plain (.tmp 9) (.lit (.d (.int .i64 0)))⟩,
  ⟨some 11, some (7, true), .mv (.tmp 10)⟩,
  ⟨some 12, some (11, false), .mv (.tmp 1)⟩,
  ⟨some 13, some (11, false), .call false 100 [(.tmp 12)]⟩,
  ⟨some 14, some (11, false), .bin .neq .ptr (.tmp 13) (.lit (.d .nilp))⟩,
  ⟨some 15, some (7, true), .pick (.tmp 11) (.lit (.d (.bool true))) (.tmp 14)⟩,
  ⟨some 16, none, .pick (.tmp 7) (.tmp 15) (.lit (.d (.bool false)))⟩,
  ⟨some 4, none, .mv (.tmp 16)⟩])
 .ret))⟩
theorem isA_request_made : isF Try.prog n_request_made A_request_made := ⟨Try.f65, _, Try.func65, by decide +kernel, rfl, by kernel_rfl, by kernel_rfl, by decide, by kernel_rfl, rfl, by kernel_rfl⟩
end Go.Proofs.Ythmdpooklflkfaa

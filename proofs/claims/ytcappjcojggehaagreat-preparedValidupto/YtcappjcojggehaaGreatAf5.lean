/- Resolved forms, each with the theorem that it is its function's. Printed by program. -/
import Derived.Test.YtcappjcojggehaaGreatNm
import Derived.KernelRfl
set_option linter.all false
set_option maxRecDepth 100000
set_option linter.unusedVariables false
namespace Go.Proofs.YtcappjcojggehaaGreat
open Go.AW
/-- bulla/op.Check -/
def zkc : AF := ⟨1, 71, [(.tmp 2)],
 (.seq (.ops [⟨some 1, none, .boxi (.tmp 0)⟩,
  ⟨some 2, none, .mv (.lit (.d (.int .i64 0)))⟩])
 (.seq (.ops [⟨some 7, none, .load true 5 (.tmp 1)⟩,
  ⟨some 8, none, .call false 142 [(.tmp 7)]⟩,
  ⟨some 6, none, .mv (.tmp 8)⟩,
  ⟨some 9, none, .extract (.tmp 6) 0⟩,
  ⟨some 10, none, .extract (.tmp 6) 1⟩,
  ⟨some 3, none, .alloc [(.d (.int .i64 0)), (.d (.str [])), (.d (.str [])), (.d (.int .i64 0)), (.exact [])]⟩,
  ⟨none, none, .store 5 (.tmp 3) (.tmp 9)⟩,
  ⟨some 4, none, .mv (.tmp 10)⟩])
 (.seq (.ops [⟨some 5, none, .mv (.lit (.fn (.func 143) [] []))⟩])
 (.seq (.block 0 (.seq (.ops [⟨some 12, none, .mv (.tmp 4)⟩,
  ⟨some 13, none, .un .not (.tmp 12)⟩,
  ⟨some 14, none, .mv (.tmp 13)⟩,
  ⟨some 15, some (14, false), .load true 5 (.tmp 1)⟩,
  ⟨some 16, some (14, false), .load true 5 (.tmp 3)⟩,
  ⟨some 17, some (14, false), .call false 106 [(.tmp 15), (.tmp 16)]⟩,
  ⟨some 18, some (14, false), .un .not (.tmp 17)⟩,
  ⟨some 19, none, .pick (.tmp 14) (.lit (.d (.bool true))) (.tmp 18)⟩,
  ⟨some 11, none, .mv (.tmp 19)⟩])
 (.cond (.tmp 11) (.seq (.ops [⟨some 2, none, .mv (.lit (.d (.int .i64 60)))⟩])
 .ret) (.seq (.ops [⟨some 21, none, .faddr 0 (.tmp 1)⟩,
  ⟨some 22, none, .load false 1 (.tmp 21)⟩,
  ⟨some 23, none, .bin .neq .plain (.tmp 22) (.lit (.d (.int .i64 0)))⟩,
  ⟨some 24, none, .mv (.tmp 23)⟩,
  ⟨some 25, some (24, true), .faddr 1 (.tmp 1)⟩,
  ⟨some 26, some (24, true), .load false 1 (.tmp 25)⟩,
  ⟨some 27, some (24, true), .call false 144 [(.tmp 26)]⟩,
  ⟨some 28, some (24, true), .un .not (.tmp 27)⟩,
  ⟨some 29, none, .pick (.tmp 24) (.tmp 28) (.lit (.d (.bool false)))⟩,
  ⟨some 20, none, .mv (.tmp 29)⟩])
 (.cond (.tmp 20) (.seq (.ops [⟨some 2, none, .mv (.lit (.d (.int .i64 61)))⟩])
 .ret) (.seq (.ops [⟨some 31, none, .faddr 0 (.tmp 1)⟩,
  ⟨some 32, none, .load false 1 (.tmp 31)⟩,
  ⟨some 33, none, .bin .eql .plain (.tmp 32) (.lit (.d (.int .i64 3)))⟩,
  ⟨some 34, none, .mv (.tmp 33)⟩,
  ⟨some 35, some (34, true), .faddr 2 (.tmp 1)⟩,
  ⟨some 36, some (34, true), .load false 1 (.tmp 35)⟩,
  ⟨some 37, some (34, true), .call false 144 [(.tmp 36)]⟩,
  ⟨some 38, some (34, true), .un .not (.tmp 37)⟩,
  ⟨some 39, none, .pick (.tmp 34) (.tmp 38) (.lit (.d (.bool false)))⟩,
  ⟨some 30, none, .mv (.tmp 39)⟩])
 (.cond (.tmp 30) (.seq (.ops [⟨some 2, none, .mv (.lit (.d (.int .i64 61)))⟩])
 .ret) (.seq (.ops [⟨some 41, none, .faddr 0 (.tmp 1)⟩,
  ⟨some 42, none, .load false 1 (.tmp 41)⟩,
  ⟨some 43, none, .bin .eql .plain (.tmp 42) (.lit (.d (.int .i64 2)))⟩,
  ⟨some 44, none, .mv (.tmp 43)⟩,
  ⟨some 45, some (44, true), .faddr 4 (.tmp 1)⟩,
  ⟨some 46, some (44, true), .load false 1 (.tmp 45)⟩,
  ⟨some 47, some (44, true), .len .sl (.tmp 46)⟩,
  ⟨some 48, some (44, true), .bin .lss .plain (.tmp 47) (.lit (.d (.int .i64 1)))⟩,
  ⟨some 49, some (44, true), .mv (.tmp 48)⟩,
  ⟨some 50, some (49, false), .faddr 4 (.tmp 1)⟩,
  ⟨some 51, some (49, false), .load false 1 (.tmp 50)⟩,
  ⟨some 52, some (49, false), .len .sl (.tmp 51)⟩,
  ⟨some 53, some (49, false), .bin .gtr .plain (.tmp 52) (.lit (.d (.int .i64 4)))⟩,
  ⟨some 54, some (44, true), .pick (.tmp 49) (.lit (.d (.bool true))) (.tmp 53)⟩,
  ⟨some 55, some (44, true), .mv (.tmp 54)⟩,
  ⟨some 56, some (55, false), .faddr 4 (.tmp 1)⟩,
  ⟨some 57, some (55, false), .load false 1 (.tmp 56)⟩,
  ⟨some 58, some (55, false), .mv (.tmp 5)⟩,
  ⟨some 59, some (55, false), .call false 145 [(.tmp 57), (.tmp 58)]⟩,
  ⟨some 60, some (44, true), .pick (.tmp 55) (.lit (.d (.bool true))) (.tmp 59)⟩,
  ⟨some 61, none, .pick (.tmp 44) (.tmp 60) (.lit (.d (.bool false)))⟩,
  ⟨some 40, none, .mv (.tmp 61)⟩])
 (.cond (.tmp 40) (.seq (.ops [⟨some 2, none, .mv (.lit (.d (.int .i64 62)))⟩])
 .ret) (.seq (.ops [⟨some 63, none, .faddr 3 (.tmp 1)⟩,
  ⟨some 64, none, .load false 1 (.tmp 63)⟩,
  ⟨some 65, none, .bin .lss .plain (.tmp 64) (.lit (.d (.int .i64 0)))⟩,
  ⟨some 66, none, .mv (.tmp 65)⟩,
  ⟨some 67, some (66, false), .faddr 3 (.tmp 1)⟩,
  ⟨some 68, some (66, false), .load false 1 (.tmp 67)⟩,
  ⟨some 69, some (66, false), .bin .gtr .plain (.tmp 68) (.lit (.d (.int .i64 9007199254740992)))⟩,
  ⟨some 70, none, .pick (.tmp 66) (.lit (.d (.bool true))) (.tmp 69)⟩,
  ⟨some 62, none, .mv (.tmp 70)⟩])
 (.cond (.tmp 62) (.seq (.ops [⟨some 2, none, .mv (.lit (.d (.int .i64 60)))⟩])
 .ret) .skip)))))))))))
 (.seq (.ops [⟨some 2, none, .mv (.lit (.d (.int .i64 0)))⟩])
 .ret)))))⟩
theorem isA_op_Check : isF Tryz.prog zgT zkc := ⟨Tryz.f134, _, Tryz.func134, by decide +kernel, rfl, by kernel_rfl, by kernel_rfl, by decide, by kernel_rfl, rfl, by kernel_rfl⟩
/-- bulla/op.Put -/
def zoy : AF := ⟨2, 67, [(.tmp 4)],
 (.seq (.ops [⟨some 3, none, .boxi (.tmp 1)⟩,
  ⟨some 4, none, .mv (.lit (.exact []))⟩])
 (.seq (.ops [⟨some 8, none, .mv (.tmp 0)⟩,
  ⟨some 9, none, .call false 80 [(.tmp 8)]⟩,
  ⟨some 5, none, .mv (.tmp 9)⟩])
 (.seq (.seq (.ops [⟨some 10, none, .load true 5 (.tmp 3)⟩,
  ⟨some 11, none, .call false 134 [(.tmp 10)]⟩,
  ⟨some 12, none, .bin .neq .plain (.tmp 11) (.lit (.d (.int .i64 0)))⟩])
 (.cond (.tmp 12) (.seq (.ops [⟨some 13, none, .mv (.tmp 5)⟩,
  ⟨some 4, none, .mv (.tmp 13)⟩])
 .ret) .skip))
 (.seq (.ops [⟨some 14, none, .mv (.tmp 5)⟩,
  ⟨some 15, none, .faddr 0 (.tmp 3)⟩,
  ⟨some 16, none, .load false 1 (.tmp 15)⟩,
  ⟨some 17, none, .conv (.int .u64) (.tmp 16)⟩,
  ⟨some 18, none, .call false 120 [(.tmp 14), (.tmp 17)]⟩,
  ⟨some 5, none, .mv (.tmp 18)⟩])
 (.seq (.seq (.ops [⟨some 19, none, .faddr 0 (.tmp 3)⟩,
  ⟨some 20, none, .load false 1 (.tmp 19)⟩,
  ⟨some 21, none, .bin .neq .plain (.tmp 20) (.lit (.d (.int .i64 0)))⟩])
 (.cond (.tmp 21) (.ops [⟨some 22, none, .mv (.tmp 5)⟩,
  ⟨some 23, none, .faddr 1 (.tmp 3)⟩,
  ⟨some 24, none, .load false 1 (.tmp 23)⟩,
  ⟨some 25, none, .conv .toBytes (.tmp 24)⟩,
  ⟨some 26, none, .call false 122 [(.tmp 22), (.tmp 25)]⟩,
  ⟨some 5, none, .mv (.tmp 26)⟩]) .skip))
 (.seq (.seq (.ops [⟨some 27, none, .faddr 0 (.tmp 3)⟩,
  ⟨some 28, none, .load false 1 (.tmp 27)⟩])
 (.block 0 (.seq (.ops [⟨some 30, none, .bin .eql .plain (.tmp 28) (.lit (.d (.int .i64 2)))⟩,
  ⟨some 29, none, .mv (.tmp 30)⟩])
 (.cond (.tmp 29) (.seq (.ops [⟨some 31, none, .mv (.tmp 5)⟩,
  ⟨some 32, none, .faddr 4 (.tmp 3)⟩,
  ⟨some 33, none, .load false 1 (.tmp 32)⟩,
  ⟨some 34, none, .len .sl (.tmp 33)⟩,
  ⟨some 35, none, .conv (.int .u64) (.tmp 34)⟩,
  ⟨some 36, none, .call false 120 [(.tmp 31), (.tmp 35)]⟩,
  ⟨some 5, none, .mv (.tmp 36)⟩])
 (.seq (.ops [⟨some 37, none, .faddr 4 (.tmp 3)⟩,
  ⟨some 38, none, .load false 1 (.tmp 37)⟩,
  ⟨some 39, none, .len .sl (.tmp 38)⟩,
  ⟨some 40, none, .mv (.lit (.d (.int .i64 0)))⟩])
 (.block 1 (.loop [5, 40] [7, 41, 42, 43, 44, 45, 46, 47] (.seq (.ops [⟨some 41, none, .bin .lss .plain (.tmp 40) (.tmp 39)⟩])
 (.seq (.cond (.tmp 41) .skip (.exit 1))
 (.seq (.block 2 (.seq (.ops [⟨some 42, none, .iaddr none 1 (.tmp 38) (.tmp 40)⟩,
  ⟨some 43, none, .load false 1 (.tmp 42)⟩,
  ⟨some 7, none, .mv (.tmp 43)⟩])
 (.ops [⟨some 44, none, .mv (.tmp 5)⟩,
  ⟨some 45, none, .mv (.tmp 7)⟩,
  ⟨some 46, none, .call false 122 [(.tmp 44), (.tmp 45)]⟩,
  ⟨some 5, none, .mv (.tmp 46)⟩])))
 (.ops [⟨some 47, none, .bin .add .plain (.tmp 40) (.lit (.d (.int .i64 1)))⟩,
  ⟨some 40, none, .mv (.tmp 47)⟩])))))))) (.seq (.ops [⟨some 49, none, .bin .eql .plain (.tmp 28) (.lit (.d (.int .i64 3)))⟩,
  ⟨some 48, none, .mv (.tmp 49)⟩])
 (.cond (.tmp 48) (.draw [⟨some 50, none, .mv (.tmp 5)⟩,
  ⟨some 51, none, .faddr 2 (.tmp 3)⟩,
  ⟨some 52, none, .load false 1 (.tmp 51)⟩,
  ⟨some 53, none, .conv .toBytes (.tmp 52)⟩,
  ⟨some 54, none, .call false 122 [(.tmp 50), (.tmp 53)]⟩,
  ⟨some 55, none, .faddr 3 (.tmp 3)⟩,
  ⟨some 56, none, .load false 1 (.tmp 55)⟩,
  ⟨some 57, none, .conv (.int .u64) (.tmp 56)⟩,
  ⟨some 58, none, .call false 120 [(.tmp 54), (.tmp 57)]⟩,
  ⟨some 5, none, .mv (.tmp 58)⟩] [[], [], [1], [2], [0, 3], [], [5], [6], [4, 7, 4], [8, 8, 0, 1, 2, 3, 4, 5, 6, 7, 8]] [(0, []), (1, []), (2, []), (3, []), (5, []), (6, []), (7, []), (4, [55]), (8, []), (9, [])] [0, 0, 2, 6, 15, 0, 32, 96, 255, 511]) (.seq (.ops [⟨some 60, none, .bin .eql .plain (.tmp 28) (.lit (.d (.int .i64 4)))⟩,
  ⟨some 59, none, .mv (.tmp 60)⟩])
 (.cond (.tmp 59) (.ops [⟨some 61, none, .mv (.tmp 5)⟩,
  ⟨some 62, none, .faddr 3 (.tmp 3)⟩,
  ⟨some 63, none, .load false 1 (.tmp 62)⟩,
  ⟨some 64, none, .conv (.int .u64) (.tmp 63)⟩,
  ⟨some 65, none, .call false 120 [(.tmp 61), (.tmp 64)]⟩,
  ⟨some 5, none, .mv (.tmp 65)⟩]) .skip))))))))
 (.seq (.ops [⟨some 66, none, .mv (.tmp 5)⟩,
  ⟨some 4, none, .mv (.tmp 66)⟩])
 .ret)))))))⟩
theorem isA_op_Put : isF Tryz.prog znV zoy := ⟨Tryz.f135, _, Tryz.func135, by decide +kernel, rfl, by kernel_rfl, by kernel_rfl, by decide, by kernel_rfl, rfl, by kernel_rfl⟩
/-- bulla/codec.form -/
def zgL : AF := ⟨1, 24, [(.cell 2 true 10), (.tmp 3)],
 (.seq (.ops [⟨some 2, none, .alloc [(.d (.int .u8 0)), (.d (.int .u8 0)), (.d (.int .u8 0)), (.d (.int .u8 0)), (.d (.int .u8 0)), (.d (.int .u8 0)), (.d (.int .u8 0)), (.d (.int .u8 0)), (.d (.int .u8 0)), (.d (.int .u8 0))]⟩,
  ⟨some 3, none, .mv (.lit (.d (.int .i64 0)))⟩])
 (.seq (.ops [⟨some 4, none, .alloc [(.d (.int .u8 0)), (.d (.int .u8 0)), (.d (.int .u8 0)), (.d (.int .u8 0)), (.d (.int .u8 0)), (.d (.int .u8 0)), (.d (.int .u8 0)), (.d (.int .u8 0)), (.d (.int .u8 0)), (.d (.int .u8 0))]⟩])
 (.seq (.ops [⟨some 5, none, .mv (.lit (.d (.int .i64 0)))⟩])
 (.seq (.block 0 (.loop [0, 5] [6, 7, 8, 9, 10, 11, 12, 13, 14, 15, 16] (.seq (.seq (.ops [⟨some 6, none, .mv (.tmp 0)⟩,
  ⟨some 7, none, .bin .gtr .plain (.tmp 6) (.lit (.d (.int .u64 127)))⟩])
 (.cond (.tmp 7) .skip (.exit 0)))
 (.block 1 (.seq (.ops [⟨some 8, none, .mv (.tmp 5)⟩,
  ⟨some 9, none, .mv (.tmp 0)⟩,
  ⟨some 10, none, .conv (.int .u8) (.tmp 9)⟩,
  ⟨some 11, none, .bin .or .plain (.tmp 10) (.lit (.d (.int .u8 128)))⟩,
  ⟨some 12, none, .iaddr (some 10) 1 (.tmp 4) (.tmp 8)⟩,
  ⟨none, none, .store 1 (.tmp 12) (.tmp 11)⟩])
 (.seq (.ops [⟨some 13, none, .mv (.tmp 0)⟩,
  ⟨some 14, none, .bin .shr .plain (.tmp 13) (.lit (.d (.int .u64 7)))⟩,
  ⟨some 0, none, .mv (.tmp 14)⟩])
 (.ops [⟨some 15, none, .mv (.tmp 5)⟩,
  ⟨some 16, none, .bin .add .plain (.tmp 15) (.lit (.d (.int .i64 1)))⟩,
  ⟨some 5, none, .mv (.tmp 16)⟩])))))))
 (.seq (.ops [⟨some 17, none, .mv (.tmp 5)⟩,
  ⟨some 18, none, .mv (.tmp 0)⟩,
  ⟨some 19, none, .conv (.int .u8) (.tmp 18)⟩,
  ⟨some 20, none, .iaddr (some 10) 1 (.tmp 4) (.tmp 17)⟩,
  ⟨none, none, .store 1 (.tmp 20) (.tmp 19)⟩])
 (.seq (.ops [⟨some 21, none, .load true 10 (.tmp 4)⟩,
  ⟨some 22, none, .mv (.tmp 5)⟩,
  ⟨some 23, none, .bin .add .plain (.tmp 22) (.lit (.d (.int .i64 1)))⟩,
  ⟨none, none, .store 10 (.tmp 2) (.tmp 21)⟩,
  ⟨some 3, none, .mv (.tmp 23)⟩])
 .ret))))))⟩
theorem zmH : isF Tryz.prog zge zgL := ⟨Tryz.f136, _, Tryz.func136, by decide +kernel, rfl, by kernel_rfl, by kernel_rfl, by decide, by kernel_rfl, rfl, by kernel_rfl⟩
/-- slices.Clip[[]byte,byte] -/
def zbt : AF := ⟨1, 9, [(.tmp 2)],
 (.seq (.ops [⟨some 2, none, .mv (.lit (.exact []))⟩])
 (.seq (.ops [⟨some 3, none, .mv (.tmp 0)⟩,
  ⟨some 4, none, .mv (.tmp 0)⟩,
  ⟨some 5, none, .len .sl (.tmp 4)⟩,
  ⟨some 6, none, .mv (.tmp 0)⟩,
  ⟨some 7, none, .len .sl (.tmp 6)⟩,
  ⟨some 8, none, .slc (.sl 1) (.tmp 3) none (some (.tmp 5)) (some (.tmp 7))⟩,
  ⟨some 2, none, .mv (.tmp 8)⟩])
 .ret))⟩
theorem zex : isF Tryz.prog zbm zbt := ⟨Tryz.f137, _, Tryz.func137, by decide +kernel, rfl, by kernel_rfl, by kernel_rfl, by decide, by kernel_rfl, rfl, by kernel_rfl⟩
/-- bulla/bullaref06.Name -/
def zjY : AF := ⟨1, 6, [(.tmp 2)],
 (.seq (.ops [⟨some 2, none, .mv (.lit (.d (.bool false)))⟩])
 (.seq (.ops [⟨some 3, none, .mv (.tmp 0)⟩,
  ⟨some 4, none, .call false 157 [(.tmp 3)]⟩,
  ⟨some 5, none, .bin .gtr .plain (.tmp 4) (.lit (.d (.int .i64 0)))⟩,
  ⟨some 2, none, .mv (.tmp 5)⟩])
 .ret))⟩
theorem isA_r06_Name : isF Tryz.prog zgS zjY := ⟨Tryz.f141, _, Tryz.func141, by decide +kernel, rfl, by kernel_rfl, by kernel_rfl, by decide, by kernel_rfl, rfl, by kernel_rfl⟩
/-- bulla/op.only -/
def zmr : AF := ⟨1, 46, [(.cell 2 true 5), (.tmp 3)],
 (.seq (.ops [⟨some 1, none, .boxi (.tmp 0)⟩,
  ⟨some 2, none, .alloc [(.d (.int .i64 0)), (.d (.str [])), (.d (.str [])), (.d (.int .i64 0)), (.exact [])]⟩,
  ⟨some 3, none, .mv (.lit (.d (.bool false)))⟩])
 (.seq (.ops [⟨some 5, none, .faddr 0 (.tmp 1)⟩,
  ⟨some 6, none, .load false 1 (.tmp 5)⟩,
  ⟨some 7, none, .build [(.d (.int .i64 0)), (.d (.str [])), (.d (.str [])), (.d (.int .i64 0)), (.exact [])] [(0, 1, (.tmp 6))]⟩,
  ⟨some 4, none, .alloc [(.d (.int .i64 0)), (.d (.str [])), (.d (.str [])), (.d (.int .i64 0)), (.exact [])]⟩,
  ⟨none, none, .store 5 (.tmp 4) (.tmp 7)⟩])
 (.seq (.seq (.ops [⟨some 8, none, .faddr 0 (.tmp 1)⟩,
  ⟨some 9, none, .load false 1 (.tmp 8)⟩])
 (.block 0 (.seq (.ops [⟨some 12, none, .bin .eql .plain (.tmp 9) (.lit (.d (.int .i64 0)))⟩,
  ⟨some 11, none, .mv (.tmp 12)⟩])
 (.cond (.tmp 11) .skip (.seq (.ops [⟨some 14, none, .bin .eql .plain (.tmp 9) (.lit (.d (.int .i64 1)))⟩,
  ⟨some 13, none, .mv (.tmp 14)⟩])
 (.cond (.tmp 13) (.ops [⟨some 15, none, .faddr 1 (.tmp 1)⟩,
  ⟨some 16, none, .load false 1 (.tmp 15)⟩,
  ⟨some 17, none, .faddr 1 (.tmp 4)⟩,
  ⟨none, none, .store 1 (.tmp 17) (.tmp 16)⟩]) (.seq (.ops [⟨some 19, none, .bin .eql .plain (.tmp 9) (.lit (.d (.int .i64 2)))⟩,
  ⟨some 18, none, .mv (.tmp 19)⟩])
 (.cond (.tmp 18) (.draw [⟨some 20, none, .faddr 1 (.tmp 1)⟩,
  ⟨some 21, none, .load false 1 (.tmp 20)⟩,
  ⟨some 22, none, .faddr 4 (.tmp 1)⟩,
  ⟨some 23, none, .load false 1 (.tmp 22)⟩,
  ⟨some 24, none, .faddr 1 (.tmp 4)⟩,
  ⟨none, none, .store 1 (.tmp 24) (.tmp 21)⟩,
  ⟨some 25, none, .faddr 4 (.tmp 4)⟩,
  ⟨none, none, .store 1 (.tmp 25) (.tmp 23)⟩] [[], [0], [], [2], [0, 1], [4, 1, 0, 1], [0, 1, 2, 3, 4, 5], [6, 3, 5, 0, 1, 2, 3, 4, 5]] [(0, []), (1, []), (2, []), (3, []), (4, []), (5, [22]), (6, []), (7, [])] [0, 1, 0, 4, 3, 19, 63, 127]) (.seq (.ops [⟨some 27, none, .bin .eql .plain (.tmp 9) (.lit (.d (.int .i64 3)))⟩,
  ⟨some 26, none, .mv (.tmp 27)⟩])
 (.cond (.tmp 26) (.draw [⟨some 28, none, .faddr 1 (.tmp 1)⟩,
  ⟨some 29, none, .load false 1 (.tmp 28)⟩,
  ⟨some 30, none, .faddr 2 (.tmp 1)⟩,
  ⟨some 31, none, .load false 1 (.tmp 30)⟩,
  ⟨some 32, none, .faddr 3 (.tmp 1)⟩,
  ⟨some 33, none, .load false 1 (.tmp 32)⟩,
  ⟨some 34, none, .faddr 1 (.tmp 4)⟩,
  ⟨none, none, .store 1 (.tmp 34) (.tmp 29)⟩,
  ⟨some 35, none, .faddr 2 (.tmp 4)⟩,
  ⟨none, none, .store 1 (.tmp 35) (.tmp 31)⟩,
  ⟨some 36, none, .faddr 3 (.tmp 4)⟩,
  ⟨none, none, .store 1 (.tmp 36) (.tmp 33)⟩] [[], [0], [], [2], [], [4], [0, 1], [6, 1, 0, 1], [0, 1, 2, 3, 6, 7], [8, 3, 7, 0, 1, 2, 3, 6, 7], [0, 1, 2, 3, 4, 5, 6, 7, 8, 9], [10, 5, 9, 0, 1, 2, 3, 4, 5, 6, 7, 8, 9]] [(0, []), (1, []), (2, []), (3, []), (4, []), (5, []), (6, []), (7, [30, 32]), (8, []), (9, [32]), (10, []), (11, [])] [0, 1, 0, 4, 0, 16, 3, 67, 207, 463, 1023, 2047]) (.seq (.ops [⟨some 38, none, .bin .eql .plain (.tmp 9) (.lit (.d (.int .i64 4)))⟩,
  ⟨some 37, none, .mv (.tmp 38)⟩])
 (.cond (.tmp 37) (.draw [⟨some 39, none, .faddr 1 (.tmp 1)⟩,
  ⟨some 40, none, .load false 1 (.tmp 39)⟩,
  ⟨some 41, none, .faddr 3 (.tmp 1)⟩,
  ⟨some 42, none, .load false 1 (.tmp 41)⟩,
  ⟨some 43, none, .faddr 1 (.tmp 4)⟩,
  ⟨none, none, .store 1 (.tmp 43) (.tmp 40)⟩,
  ⟨some 44, none, .faddr 3 (.tmp 4)⟩,
  ⟨none, none, .store 1 (.tmp 44) (.tmp 42)⟩] [[], [0], [], [2], [0, 1], [4, 1, 0, 1], [0, 1, 2, 3, 4, 5], [6, 3, 5, 0, 1, 2, 3, 4, 5]] [(0, []), (1, []), (2, []), (3, []), (4, []), (5, [41]), (6, []), (7, [])] [0, 1, 0, 4, 3, 19, 63, 127]) (.seq (.ops [⟨some 10, none, .load true 5 (.tmp 4)⟩,
  ⟨none, none, .store 5 (.tmp 2) (.tmp 10)⟩,
  ⟨some 3, none, .mv (.lit (.d (.bool false)))⟩])
 .ret)))))))))))))
 (.seq (.ops [⟨some 45, none, .load true 5 (.tmp 4)⟩,
  ⟨none, none, .store 5 (.tmp 2) (.tmp 45)⟩,
  ⟨some 3, none, .mv (.lit (.d (.bool true)))⟩])
 .ret))))⟩
theorem isA_op_only : isF Tryz.prog zlx zmr := ⟨Tryz.f142, _, Tryz.func142, by decide +kernel, rfl, by kernel_rfl, by kernel_rfl, by decide, by kernel_rfl, rfl, by kernel_rfl⟩
/-- bulla/op.Check$1 -/
def zgJ : AF := ⟨1, 6, [(.tmp 2)],
 (.seq (.ops [⟨some 2, none, .mv (.lit (.d (.bool false)))⟩])
 (.seq (.ops [⟨some 3, none, .mv (.tmp 0)⟩,
  ⟨some 4, none, .len .sl (.tmp 3)⟩,
  ⟨some 5, none, .bin .gtr .plain (.tmp 4) (.lit (.d (.int .i64 64)))⟩,
  ⟨some 2, none, .mv (.tmp 5)⟩])
 .ret))⟩
theorem zmF : isF Tryz.prog zem zgJ := ⟨Tryz.f143, _, Tryz.func143, by decide +kernel, rfl, by kernel_rfl, by kernel_rfl, by decide, by kernel_rfl, rfl, by kernel_rfl⟩
/-- bulla/op.Name -/
def zmt : AF := ⟨1, 6, [(.tmp 2)],
 (.seq (.ops [⟨some 2, none, .mv (.lit (.d (.bool false)))⟩])
 (.seq (.ops [⟨some 3, none, .mv (.tmp 0)⟩,
  ⟨some 4, none, .call false 158 [(.tmp 3)]⟩,
  ⟨some 5, none, .bin .gtr .plain (.tmp 4) (.lit (.d (.int .i64 0)))⟩,
  ⟨some 2, none, .mv (.tmp 5)⟩])
 .ret))⟩
theorem isA_op_Name : isF Tryz.prog zir zmt := ⟨Tryz.f144, _, Tryz.func144, by decide +kernel, rfl, by kernel_rfl, by kernel_rfl, by decide, by kernel_rfl, rfl, by kernel_rfl⟩
/-- slices.ContainsFunc[[]bulla/api.Record,bulla/api.Record] -/
def zal : AF := ⟨2, 9, [(.tmp 4)],
 (.seq (.ops [⟨some 4, none, .mv (.lit (.d (.bool false)))⟩])
 (.seq (.ops [⟨some 5, none, .mv (.tmp 0)⟩,
  ⟨some 6, none, .mv (.tmp 1)⟩,
  ⟨some 7, none, .call false 159 [(.tmp 5), (.tmp 6)]⟩,
  ⟨some 8, none, .bin .geq .plain (.tmp 7) (.lit (.d (.int .i64 0)))⟩,
  ⟨some 4, none, .mv (.tmp 8)⟩])
 .ret))⟩
theorem zbh : isF Tryz.prog zak zal := ⟨Tryz.f145, _, Tryz.func145, by decide +kernel, rfl, by kernel_rfl, by kernel_rfl, by decide, by kernel_rfl, rfl, by kernel_rfl⟩
/-- bulla/bullaref06.Runes -/
def zic : AF := ⟨1, 46, [(.tmp 2)],
 (.seq (.ops [⟨some 2, none, .mv (.lit (.d (.int .i64 0)))⟩])
 (.seq (.ops [⟨some 3, none, .mv (.lit (.d (.int .i64 0)))⟩])
 (.seq (.block 0 (.loop [0, 3] [2, 4, 5, 6, 7, 8, 9, 10, 11, 12, 13, 14, 15, 16, 17, 18, 19, 20, 21, 22, 23, 24, 25, 26, 27, 28, 29, 30, 31, 32, 33, 34, 35, 36, 37, 38, 39, 40, 41, 42, 43, 44] (.seq (.seq (.ops [⟨some 6, none, .mv (.tmp 0)⟩,
  ⟨some 7, none, .len .str (.tmp 6)⟩,
  ⟨some 8, none, .bin .gtr .plain (.tmp 7) (.lit (.d (.int .i64 0)))⟩])
 (.cond (.tmp 8) .skip (.exit 0)))
 (.block 1 (.seq (.ops [⟨some 10, none, .mv (.tmp 0)⟩,
  ⟨some 11, none, .call false 166 [(.tmp 10)]⟩,
  ⟨some 9, none, .mv (.tmp 11)⟩,
  ⟨some 12, none, .extract (.tmp 9) 0⟩,
  ⟨some 13, none, .extract (.tmp 9) 1⟩,
  ⟨some 4, none, .mv (.tmp 12)⟩,
  ⟨some 5, none, .mv (.tmp 13)⟩])
 (.seq (.seq (.ops [⟨some 14, none, .mv (.tmp 5)⟩,
  ⟨some 15, none, .bin .eql .plain (.tmp 14) (.lit (.d (.int .i64 0)))⟩,
  ⟨some 16, none, .mv (.tmp 15)⟩,
  ⟨some 17, some (16, false), .mv (.tmp 4)⟩,
  ⟨some 18, some (16, false), .bin .lss .plain (.tmp 17) (.lit (.d (.int .i64 33)))⟩,
  ⟨some 19, none, .pick (.tmp 16) (.lit (.d (.bool true))) (.tmp 18)⟩,
  ⟨some 20, none, .mv (.tmp 19)⟩,
  ⟨some 21, some (20, false), .mv (.tmp 4)⟩,
  ⟨some 22, some (20, false), .bin .geq .plain (.tmp 21) (.lit (.d (.int .i64 127)))⟩,
  ⟨some 23, some (20, false), .mv (.tmp 22)⟩,
  ⟨some 24, some (23, true), .mv (.tmp 4)⟩,
  ⟨some 25, some (23, true), .bin .lss .plain (.tmp 24) (.lit (.d (.int .i64 160)))⟩,
  ⟨some 26, some (20, false), .pick (.tmp 23) (.tmp 25) (.lit (.d (.bool false)))⟩,
  ⟨some 27, none, .pick (.tmp 20) (.lit (.d (.bool true))) (.tmp 26)⟩,
  ⟨some 28, none, .mv (.tmp 27)⟩,
  ⟨some 29, some (28, false), .mv (.tmp 4)⟩,
  ⟨some 30, some (28, false), .bin .eql .plain (.tmp 29) (.lit (.d (.int .i64 47)))⟩,
  ⟨some 31, none, .pick (.tmp 28) (.lit (.d (.bool true))) (.tmp 30)⟩,
  ⟨some 32, none, .mv (.tmp 31)⟩,
  ⟨some 33, some (32, false), .mv (.tmp 4)⟩,
  ⟨some 34, some (32, false), .bin .eql .plain (.tmp 33) (.lit (.d (.int .i64 65533)))⟩,
  ⟨some 35, none, .pick (.tmp 32) (.lit (.d (.bool true))) (.tmp 34)⟩,
  ⟨some 36, none, .mv (.tmp 35)⟩,
  ⟨some 37, some (36, false), .mv (.tmp 3)⟩,
  ⟨some 38, some (36, false), .bin .geq .plain (.tmp 37) (.lit (.d (.int .i64 16)))⟩,
  ⟨some 39, none, .pick (.tmp 36) (.lit (.d (.bool true))) (.tmp 38)⟩])
 (.cond (.tmp 39) (.seq (.ops [⟨some 2, none, .mv (.lit (.d (.int .i64 0)))⟩])
 .ret) .skip))
 (.seq (.ops [⟨some 40, none, .mv (.tmp 3)⟩,
  ⟨some 41, none, .bin .add .plain (.tmp 40) (.lit (.d (.int .i64 1)))⟩,
  ⟨some 3, none, .mv (.tmp 41)⟩])
 (.ops [⟨some 42, none, .mv (.tmp 0)⟩,
  ⟨some 43, none, .mv (.tmp 5)⟩,
  ⟨some 44, none, .slc .str (.tmp 42) (some (.tmp 43)) none none⟩,
  ⟨some 0, none, .mv (.tmp 44)⟩]))))))))
 (.seq (.ops [⟨some 45, none, .mv (.tmp 3)⟩,
  ⟨some 2, none, .mv (.tmp 45)⟩])
 .ret))))⟩
theorem zof : isF Tryz.prog zhH zic := ⟨Tryz.f157, _, Tryz.func157, by decide +kernel, rfl, by kernel_rfl, by kernel_rfl, by decide, by kernel_rfl, rfl, by kernel_rfl⟩
/-- bulla/op.Runes -/
def zka : AF := ⟨1, 34, [(.tmp 2)],
 (.seq (.ops [⟨some 2, none, .mv (.lit (.d (.int .i64 0)))⟩])
 (.seq (.ops [⟨some 3, none, .mv (.lit (.d (.int .i64 0)))⟩])
 (.seq (.seq (.ops [⟨some 6, none, .mv (.tmp 0)⟩,
  ⟨some 7, none, .rangeS (.tmp 6)⟩])
 (.block 0 (.loop [3] [2, 5, 8, 9, 10, 11, 12, 13, 14, 15, 16, 17, 18, 19, 20, 21, 22, 23, 24, 25, 26, 27, 28, 29, 30] (.seq (.ops [⟨some 8, none, .nextS (.tmp 7)⟩,
  ⟨some 9, none, .extract (.tmp 8) 0⟩])
 (.seq (.cond (.tmp 9) .skip (.exit 0))
 (.block 1 (.seq (.ops [⟨some 10, none, .extract (.tmp 8) 2⟩,
  ⟨some 5, none, .mv (.tmp 10)⟩])
 (.seq (.seq (.ops [⟨some 11, none, .mv (.tmp 5)⟩,
  ⟨some 12, none, .bin .lss .plain (.tmp 11) (.lit (.d (.int .i32 33)))⟩,
  ⟨some 13, none, .mv (.tmp 12)⟩,
  ⟨some 14, some (13, false), .mv (.tmp 5)⟩,
  ⟨some 15, some (13, false), .bin .geq .plain (.tmp 14) (.lit (.d (.int .i32 127)))⟩,
  ⟨some 16, some (13, false), .mv (.tmp 15)⟩,
  ⟨some 17, some (16, true), .mv (.tmp 5)⟩,
  ⟨some 18, some (16, true), .bin .leq .plain (.tmp 17) (.lit (.d (.int .i32 159)))⟩,
  ⟨some 19, some (13, false), .pick (.tmp 16) (.tmp 18) (.lit (.d (.bool false)))⟩,
  ⟨some 20, none, .pick (.tmp 13) (.lit (.d (.bool true))) (.tmp 19)⟩,
  ⟨some 21, none, .mv (.tmp 20)⟩,
  ⟨some 22, some (21, false), .mv (.tmp 5)⟩,
  ⟨some 23, some (21, false), .bin .eql .plain (.tmp 22) (.lit (.d (.int .i32 47)))⟩,
  ⟨some 24, none, .pick (.tmp 21) (.lit (.d (.bool true))) (.tmp 23)⟩,
  ⟨some 25, none, .mv (.tmp 24)⟩,
  ⟨some 26, some (25, false), .mv (.tmp 5)⟩,
  ⟨some 27, some (25, false), .bin .eql .plain (.tmp 26) (.lit (.d (.int .i32 65533)))⟩,
  ⟨some 28, none, .pick (.tmp 25) (.lit (.d (.bool true))) (.tmp 27)⟩])
 (.cond (.tmp 28) (.seq (.ops [⟨some 2, none, .mv (.lit (.d (.int .i64 0)))⟩])
 .ret) .skip))
 (.ops [⟨some 29, none, .mv (.tmp 3)⟩,
  ⟨some 30, none, .bin .add .plain (.tmp 29) (.lit (.d (.int .i64 1)))⟩,
  ⟨some 3, none, .mv (.tmp 30)⟩])))))))))
 (.seq (.seq (.ops [⟨some 31, none, .mv (.tmp 3)⟩,
  ⟨some 32, none, .bin .gtr .plain (.tmp 31) (.lit (.d (.int .i64 16)))⟩])
 (.cond (.tmp 32) (.seq (.ops [⟨some 2, none, .mv (.lit (.d (.int .i64 0)))⟩])
 .ret) .skip))
 (.seq (.ops [⟨some 33, none, .mv (.tmp 3)⟩,
  ⟨some 2, none, .mv (.tmp 33)⟩])
 .ret)))))⟩
theorem isA_op_Runes : isF Tryz.prog zjn zka := ⟨Tryz.f158, _, Tryz.func158, by decide +kernel, rfl, by kernel_rfl, by kernel_rfl, by decide, by kernel_rfl, rfl, by kernel_rfl⟩
/-- slices.IndexFunc[[]bulla/api.Record,bulla/api.Record] -/
def zap : AF := ⟨2, 19, [(.tmp 4)],
 (.seq (.ops [⟨some 4, none, .mv (.lit (.d (.int .i64 0)))⟩])
 (.seq (.seq (.ops [⟨some 6, none, .mv (.tmp 0)⟩,
  ⟨some 7, none, .len .sl (.tmp 6)⟩,
  ⟨some 8, none, .mv (.lit (.d (.int .i64 0)))⟩])
 (.block 0 (.loop [8] [4, 5, 9, 10, 11, 12, 13, 14, 15, 16, 17, 18] (.seq (.ops [⟨some 9, none, .bin .lss .plain (.tmp 8) (.tmp 7)⟩])
 (.seq (.cond (.tmp 9) .skip (.exit 0))
 (.seq (.block 1 (.seq (.ops [⟨some 10, none, .mv (.tmp 8)⟩,
  ⟨some 5, none, .mv (.tmp 10)⟩])
 (.seq (.ops [⟨some 11, none, .mv (.tmp 1)⟩,
  ⟨some 12, none, .mv (.tmp 0)⟩,
  ⟨some 13, none, .mv (.tmp 5)⟩,
  ⟨some 14, none, .iaddr none 1 (.tmp 12) (.tmp 13)⟩,
  ⟨some 15, none, .load false 1 (.tmp 14)⟩,
  ⟨some 16, none, .callv (.tmp 11) [(.tmp 15)]⟩])
 (.cond (.tmp 16) (.seq (.ops [⟨some 17, none, .mv (.tmp 5)⟩,
  ⟨some 4, none, .mv (.tmp 17)⟩])
 .ret) .skip))))
 (.ops [⟨some 18, none, .bin .add .plain (.tmp 8) (.lit (.d (.int .i64 1)))⟩,
  ⟨some 8, none, .mv (.tmp 18)⟩])))))))
 (.seq (.ops [⟨some 4, none, .mv (.lit (.d (.int .i64 (-1))))⟩])
 .ret)))⟩
theorem zby : isF Tryz.prog zaH zap := ⟨Tryz.f159, _, Tryz.func159, by decide +kernel, rfl, by kernel_rfl, by kernel_rfl, by decide, by kernel_rfl, rfl, by kernel_rfl⟩
/-- bulla/bullaref06.rune1 -/
def zib : AF := ⟨1, 76, [(.tmp 2), (.tmp 3)],
 (.seq (.ops [⟨some 2, none, .mv (.lit (.d (.int .i64 0)))⟩,
  ⟨some 3, none, .mv (.lit (.d (.int .i64 0)))⟩])
 (.seq (.ops [⟨some 8, none, .mv (.tmp 0)⟩,
  ⟨some 9, none, .idxS (.tmp 8) (.lit (.d (.int .i64 0)))⟩,
  ⟨some 10, none, .call false 168 [(.tmp 9)]⟩,
  ⟨some 4, none, .mv (.tmp 10)⟩])
 (.seq (.seq (.ops [⟨some 11, none, .mv (.tmp 4)⟩,
  ⟨some 12, none, .bin .eql .plain (.tmp 11) (.lit (.d (.int .i64 0)))⟩,
  ⟨some 13, none, .mv (.tmp 12)⟩,
  ⟨some 14, some (13, false), .mv (.tmp 4)⟩,
  ⟨some 15, some (13, false), .mv (.tmp 0)⟩,
  ⟨some 16, some (13, false), .len .str (.tmp 15)⟩,
  ⟨some 17, some (13, false), .bin .gtr .plain (.tmp 14) (.tmp 16)⟩,
  ⟨some 18, none, .pick (.tmp 13) (.lit (.d (.bool true))) (.tmp 17)⟩])
 (.cond (.tmp 18) (.seq (.ops [⟨some 2, none, .mv (.lit (.d (.int .i64 0)))⟩,
  ⟨some 3, none, .mv (.lit (.d (.int .i64 0)))⟩])
 .ret) .skip))
 (.seq (.seq (.ops [⟨some 19, none, .mv (.tmp 4)⟩,
  ⟨some 20, none, .bin .eql .plain (.tmp 19) (.lit (.d (.int .i64 1)))⟩])
 (.cond (.tmp 20) (.seq (.ops [⟨some 21, none, .mv (.tmp 0)⟩,
  ⟨some 22, none, .idxS (.tmp 21) (.lit (.d (.int .i64 0)))⟩,
  ⟨some 23, none, .conv (.int .i64) (.tmp 22)⟩,
  ⟨some 2, none, .mv (.tmp 23)⟩,
  ⟨some 3, none, .mv (.lit (.d (.int .i64 1)))⟩])
 .ret) .skip))
 (.seq (.draw [⟨some 24, none, .mv (.tmp 0)⟩,
  ⟨some 25, none, .idxS (.tmp 24) (.lit (.d (.int .i64 0)))⟩,
  ⟨some 26, none, .conv (.int .i64) (.tmp 25)⟩,
  ⟨some 27, none, .mv (.tmp 4)⟩,
  ⟨some 28, none, .bin .sub .plain (.lit (.d (.int .i64 7))) (.tmp 27)⟩,
  ⟨some 29, none, .bin .shl .plain (.lit (.d (.int .i64 1))) (.tmp 28)⟩,
  ⟨some 30, none, .bin .sub .plain (.tmp 29) (.lit (.d (.int .i64 1)))⟩,
  ⟨some 31, none, .bin .and .plain (.tmp 26) (.tmp 30)⟩,
  ⟨some 5, none, .mv (.tmp 31)⟩] [[], [0], [1], [], [3], [4], [5], [2, 6], [7, 0, 1, 2, 3, 4, 5, 6, 7]] [(0, []), (1, []), (2, []), (3, []), (4, []), (5, []), (6, []), (7, []), (8, [])] [0, 1, 3, 0, 8, 24, 56, 127, 255])
 (.seq (.seq (.ops [⟨some 6, none, .mv (.lit (.d (.int .i64 1)))⟩])
 (.block 0 (.loop [5, 6] [2, 3, 32, 33, 34, 35, 36, 37, 38, 39, 40, 41, 42, 43, 44, 45, 46, 47, 48, 49, 50, 51, 52, 53, 54] (.seq (.seq (.ops [⟨some 32, none, .mv (.tmp 6)⟩,
  ⟨some 33, none, .mv (.tmp 4)⟩,
  ⟨some 34, none, .bin .lss .plain (.tmp 32) (.tmp 33)⟩])
 (.cond (.tmp 34) .skip (.exit 0)))
 (.seq (.block 1 (.seq (.seq (.ops [⟨some 37, none, .mv (.tmp 0)⟩,
  ⟨some 38, none, .mv (.tmp 6)⟩,
  ⟨some 39, none, .idxS (.tmp 37) (.tmp 38)⟩,
  ⟨some 40, none, .bin .lss .plain (.tmp 39) (.lit (.d (.int .u8 128)))⟩,
  ⟨some 41, none, .mv (.tmp 40)⟩,
  ⟨some 42, some (41, false), .mv (.tmp 0)⟩,
  ⟨some 43, some (41, false), .mv (.tmp 6)⟩,
  ⟨some 44, some (41, false), .idxS (.tmp 42) (.tmp 43)⟩,
  ⟨some 45, some (41, false), .bin .geq .plain (.tmp 44) (.lit (.d (.int .u8 192)))⟩,
  ⟨some 46, none, .pick (.tmp 41) (.lit (.d (.bool true))) (.tmp 45)⟩])
 (.cond (.tmp 46) (.seq (.ops [⟨some 2, none, .mv (.lit (.d (.int .i64 0)))⟩,
  ⟨some 3, none, .mv (.lit (.d (.int .i64 0)))⟩])
 .ret) .skip))
 (.ops [⟨some 47, none, .mv (.tmp 5)⟩,
  ⟨some 48, none, .bin .mul .plain (.tmp 47) (.lit (.d (.int .i64 64)))⟩,
  ⟨some 49, none, .mv (.tmp 0)⟩,
  ⟨some 50, none, .mv (.tmp 6)⟩,
  ⟨some 51, none, .idxS (.tmp 49) (.tmp 50)⟩,
  ⟨some 52, none, .conv (.int .i64) (.tmp 51)⟩,
  ⟨some 53, none, .bin .rem .plain (.tmp 52) (.lit (.d (.int .i64 64)))⟩,
  ⟨some 54, none, .bin .add .plain (.tmp 48) (.tmp 53)⟩,
  ⟨some 5, none, .mv (.tmp 54)⟩])))
 (.ops [⟨some 35, none, .mv (.tmp 6)⟩,
  ⟨some 36, none, .bin .add .plain (.tmp 35) (.lit (.d (.int .i64 1)))⟩,
  ⟨some 6, none, .mv (.tmp 36)⟩]))))))
 (.seq (.ops [⟨some 55, none, .mkslice false 1 5 [(.d (.int .i64 0))] [(0, 1, (.lit (.d (.int .i64 0)))), (1, 1, (.lit (.d (.int .i64 0)))), (2, 1, (.lit (.d (.int .i64 128)))), (3, 1, (.lit (.d (.int .i64 2048)))), (4, 1, (.lit (.d (.int .i64 65536))))]⟩,
  ⟨some 56, none, .mv (.tmp 4)⟩,
  ⟨some 57, none, .iaddr none 1 (.tmp 55) (.tmp 56)⟩,
  ⟨some 58, none, .load false 1 (.tmp 57)⟩,
  ⟨some 7, none, .mv (.tmp 58)⟩])
 (.seq (.seq (.ops [⟨some 59, none, .mv (.tmp 5)⟩,
  ⟨some 60, none, .mv (.tmp 7)⟩,
  ⟨some 61, none, .bin .lss .plain (.tmp 59) (.tmp 60)⟩,
  ⟨some 62, none, .mv (.tmp 61)⟩,
  ⟨some 63, some (62, false), .mv (.tmp 5)⟩,
  ⟨some 64, some (62, false), .bin .gtr .plain (.tmp 63) (.lit (.d (.int .i64 1114111)))⟩,
  ⟨some 65, none, .pick (.tmp 62) (.lit (.d (.bool true))) (.tmp 64)⟩,
  ⟨some 66, none, .mv (.tmp 65)⟩,
  ⟨some 67, some (66, false), .mv (.tmp 5)⟩,
  ⟨some 68, some (66, false), .bin .geq .plain (.tmp 67) (.lit (.d (.int .i64 55296)))⟩,
  ⟨some 69, some (66, false), .mv (.tmp 68)⟩,
  ⟨some 70, some (69, true), .mv (.tmp 5)⟩,
  ⟨some 71, some (69, true), .bin .lss .plain (.tmp 70) (.lit (.d (.int .i64 57344)))⟩,
  ⟨some 72, some (66, false), .pick (.tmp 69) (.tmp 71) (.lit (.d (.bool false)))⟩,
  ⟨some 73, none, .pick (.tmp 66) (.lit (.d (.bool true))) (.tmp 72)⟩])
 (.cond (.tmp 73) (.seq (.ops [⟨some 2, none, .mv (.lit (.d (.int .i64 0)))⟩,
  ⟨some 3, none, .mv (.lit (.d (.int .i64 0)))⟩])
 .ret) .skip))
 (.seq (.ops [⟨some 74, none, .mv (.tmp 5)⟩,
  ⟨some 75, none, .mv (.tmp 4)⟩,
  ⟨some 2, none, .mv (.tmp 74)⟩,
  ⟨some 3, none, .mv (.tmp 75)⟩])
 .ret)))))))))⟩
theorem zoe : isF Tryz.prog zhG zib := ⟨Tryz.f166, _, Tryz.func166, by decide +kernel, rfl, by kernel_rfl, by kernel_rfl, by decide, by kernel_rfl, rfl, by kernel_rfl⟩
/-- bulla/bullaref06.size -/
def zjX : AF := ⟨1, 27, [(.tmp 2)],
 (.seq (.ops [⟨some 2, none, .mv (.lit (.d (.int .i64 0)))⟩])
 (.seq (.block 0 (.seq (.ops [⟨some 4, none, .mv (.tmp 0)⟩,
  ⟨some 5, none, .bin .lss .plain (.tmp 4) (.lit (.d (.int .u8 128)))⟩,
  ⟨some 3, none, .mv (.tmp 5)⟩])
 (.cond (.tmp 3) (.seq (.ops [⟨some 2, none, .mv (.lit (.d (.int .i64 1)))⟩])
 .ret) (.seq (.ops [⟨some 7, none, .mv (.tmp 0)⟩,
  ⟨some 8, none, .bin .geq .plain (.tmp 7) (.lit (.d (.int .u8 194)))⟩,
  ⟨some 9, none, .mv (.tmp 8)⟩,
  ⟨some 10, some (9, true), .mv (.tmp 0)⟩,
  ⟨some 11, some (9, true), .bin .lss .plain (.tmp 10) (.lit (.d (.int .u8 224)))⟩,
  ⟨some 12, none, .pick (.tmp 9) (.tmp 11) (.lit (.d (.bool false)))⟩,
  ⟨some 6, none, .mv (.tmp 12)⟩])
 (.cond (.tmp 6) (.seq (.ops [⟨some 2, none, .mv (.lit (.d (.int .i64 2)))⟩])
 .ret) (.seq (.ops [⟨some 14, none, .mv (.tmp 0)⟩,
  ⟨some 15, none, .bin .geq .plain (.tmp 14) (.lit (.d (.int .u8 224)))⟩,
  ⟨some 16, none, .mv (.tmp 15)⟩,
  ⟨some 17, some (16, true), .mv (.tmp 0)⟩,
  ⟨some 18, some (16, true), .bin .lss .plain (.tmp 17) (.lit (.d (.int .u8 240)))⟩,
  ⟨some 19, none, .pick (.tmp 16) (.tmp 18) (.lit (.d (.bool false)))⟩,
  ⟨some 13, none, .mv (.tmp 19)⟩])
 (.cond (.tmp 13) (.seq (.ops [⟨some 2, none, .mv (.lit (.d (.int .i64 3)))⟩])
 .ret) (.seq (.ops [⟨some 21, none, .mv (.tmp 0)⟩,
  ⟨some 22, none, .bin .geq .plain (.tmp 21) (.lit (.d (.int .u8 240)))⟩,
  ⟨some 23, none, .mv (.tmp 22)⟩,
  ⟨some 24, some (23, true), .mv (.tmp 0)⟩,
  ⟨some 25, some (23, true), .bin .lss .plain (.tmp 24) (.lit (.d (.int .u8 245)))⟩,
  ⟨some 26, none, .pick (.tmp 23) (.tmp 25) (.lit (.d (.bool false)))⟩,
  ⟨some 20, none, .mv (.tmp 26)⟩])
 (.cond (.tmp 20) (.seq (.ops [⟨some 2, none, .mv (.lit (.d (.int .i64 4)))⟩])
 .ret) .skip)))))))))
 (.seq (.ops [⟨some 2, none, .mv (.lit (.d (.int .i64 0)))⟩])
 .ret)))⟩
theorem isA_r06_size : isF Tryz.prog zjl zjX := ⟨Tryz.f168, _, Tryz.func168, by decide +kernel, rfl, by kernel_rfl, by kernel_rfl, by decide, by kernel_rfl, rfl, by kernel_rfl⟩
end Go.Proofs.YtcappjcojggehaaGreat

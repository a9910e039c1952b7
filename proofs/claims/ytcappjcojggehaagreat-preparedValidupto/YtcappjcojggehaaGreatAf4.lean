/- Resolved forms, each with the theorem that it is its function's. Printed by program. -/
import Derived.Test.YtcappjcojggehaaGreatNm
import Derived.KernelRfl
set_option linter.all false
set_option maxRecDepth 100000
set_option linter.unusedVariables false
namespace Go.Proofs.YtcappjcojggehaaGreat
open Go.AW
/-- bulla/quorum.times -/
def zeA : AF := ⟨2, 12, [(.tmp 4)],
 (.seq (.ops [⟨some 4, none, .mv (.lit (.d (.int .i64 0)))⟩])
 (.seq (.seq (.ops [⟨some 5, none, .mv (.tmp 1)⟩,
  ⟨some 6, none, .call false 49 [(.tmp 5)]⟩,
  ⟨some 7, none, .bin .neq .plain (.tmp 6) (.lit (.d (.int .i64 0)))⟩])
 (.cond (.tmp 7) (.seq (.ops [⟨some 4, none, .mv (.lit (.d (.int .i64 0)))⟩])
 .ret) .skip))
 (.seq (.ops [⟨some 8, none, .mv (.tmp 0)⟩,
  ⟨some 9, none, .mv (.tmp 1)⟩,
  ⟨some 10, none, .bin .mul .plain (.tmp 8) (.tmp 9)⟩,
  ⟨some 11, none, .bin .add .plain (.tmp 10) (.lit (.d (.int .i64 1)))⟩,
  ⟨some 4, none, .mv (.tmp 11)⟩])
 .ret)))⟩
theorem zkS : isF Tryz.prog zev zeA := ⟨Tryz.f92, _, Tryz.func92, by decide +kernel, rfl, by kernel_rfl, by kernel_rfl, by decide, by kernel_rfl, rfl, by kernel_rfl⟩
/-- bulla/bullaref08.Valid -/
def zhY : AF := ⟨3, 49, [(.tmp 6)],
 (.seq (.ops [⟨some 5, none, .boxi (.tmp 2)⟩,
  ⟨some 6, none, .mv (.lit (.d (.bool false)))⟩])
 (.seq (.ops [⟨some 12, none, .faddr 0 (.tmp 5)⟩,
  ⟨some 13, none, .load true 7 (.tmp 12)⟩,
  ⟨some 14, none, .call false 72 [(.tmp 13)]⟩,
  ⟨some 11, none, .mv (.tmp 14)⟩,
  ⟨some 15, none, .extract (.tmp 11) 0⟩,
  ⟨some 16, none, .extract (.tmp 11) 1⟩,
  ⟨some 7, none, .mv (.tmp 15)⟩,
  ⟨some 8, none, .mv (.tmp 16)⟩])
 (.seq (.seq (.draw [⟨some 17, none, .mv (.tmp 8)⟩,
  ⟨some 18, none, .bin .neq .plain (.tmp 17) (.lit (.d (.int .i64 0)))⟩,
  ⟨some 19, none, .mv (.tmp 18)⟩,
  ⟨some 20, some (19, false), .faddr 7 (.tmp 5)⟩,
  ⟨some 21, some (19, false), .faddr 0 (.tmp 20)⟩,
  ⟨some 22, some (19, false), .load false 1 (.tmp 21)⟩,
  ⟨some 23, some (19, false), .faddr 0 (.tmp 5)⟩,
  ⟨some 24, some (19, false), .faddr 0 (.tmp 23)⟩,
  ⟨some 25, some (19, false), .load false 1 (.tmp 24)⟩,
  ⟨some 26, some (19, false), .call false 74 [(.tmp 25)]⟩,
  ⟨some 27, some (19, false), .bin .neq .plain (.tmp 22) (.tmp 26)⟩,
  ⟨some 28, none, .pick (.tmp 19) (.lit (.d (.bool true))) (.tmp 27)⟩] [[], [0], [1], [2], [3, 2], [4, 2], [2], [6, 2], [7, 2], [8, 2, 2], [5, 9, 2], [2, 10]] [(0, []), (1, []), (2, []), (3, []), (4, []), (5, []), (6, []), (7, []), (8, []), (9, [21]), (10, []), (11, [])] [0, 1, 3, 7, 15, 31, 7, 71, 199, 455, 1023, 2047])
 (.cond (.tmp 28) (.seq (.ops [⟨some 6, none, .mv (.lit (.d (.bool false)))⟩])
 .ret) .skip))
 (.seq (.ops [⟨some 30, none, .mv (.tmp 0)⟩,
  ⟨some 31, none, .mv (.tmp 7)⟩,
  ⟨some 32, none, .call false 57 [(.tmp 30), (.tmp 31)]⟩,
  ⟨some 29, none, .mv (.tmp 32)⟩,
  ⟨some 33, none, .extract (.tmp 29) 0⟩,
  ⟨some 34, none, .extract (.tmp 29) 1⟩,
  ⟨some 9, none, .mv (.tmp 33)⟩,
  ⟨some 10, none, .mv (.tmp 34)⟩])
 (.seq (.ops [⟨some 35, none, .mv (.tmp 10)⟩,
  ⟨some 36, none, .mv (.tmp 35)⟩,
  ⟨some 37, some (36, true), .mv (.tmp 9)⟩,
  ⟨some 38, some (36, true), .faddr 7 (.tmp 5)⟩,
  ⟨some 39, some (36, true), .faddr 1 (.tmp 38)⟩,
  ⟨some 40, some (36, true), .load false 1 (.tmp 39)⟩,
  ⟨some 41, some (36, true), .bin .eql .plain (.tmp 37) (.tmp 40)⟩,
  ⟨some 42, none, .pick (.tmp 36) (.tmp 41) (.lit (.d (.bool false)))⟩,
  ⟨some 43, none, .mv (.tmp 42)⟩,
  ⟨some 44, some (43, true), .mv (.tmp 1)⟩,
  ⟨some 45, some (43, true), .faddr 7 (.tmp 5)⟩,
  ⟨some 46, some (43, true), .load true 2 (.tmp 45)⟩,
  ⟨some 47, some (43, true), .call false 110 [(.tmp 44), (.tmp 46)]⟩,
  ⟨some 48, none, .pick (.tmp 43) (.tmp 47) (.lit (.d (.bool false)))⟩,
  ⟨some 6, none, .mv (.tmp 48)⟩])
 .ret)))))⟩
theorem zob : isF Tryz.prog zhF zhY := ⟨Tryz.f93, _, Tryz.func93, by decide +kernel, rfl, by kernel_rfl, by kernel_rfl, by decide, by kernel_rfl, rfl, by kernel_rfl⟩
/-- bulla/bullaref02.Same -/
def zjZ : AF := ⟨2, 10, [(.tmp 4)],
 (.seq (.ops [⟨some 4, none, .mv (.lit (.d (.bool false)))⟩])
 (.seq (.ops [⟨some 5, none, .mv (.tmp 0)⟩,
  ⟨some 6, none, .conv .toStr (.tmp 5)⟩,
  ⟨some 7, none, .mv (.tmp 1)⟩,
  ⟨some 8, none, .conv .toStr (.tmp 7)⟩,
  ⟨some 9, none, .bin .eql .plain (.tmp 6) (.tmp 8)⟩,
  ⟨some 4, none, .mv (.tmp 9)⟩])
 .ret))⟩
theorem isA_r02_Same : isF Tryz.prog zjm zjZ := ⟨Tryz.f94, _, Tryz.func94, by decide +kernel, rfl, by kernel_rfl, by kernel_rfl, by decide, by kernel_rfl, rfl, by kernel_rfl⟩
/-- bulla/bullaref01.PutNum -/
def zgI : AF := ⟨2, 25, [(.tmp 4)],
 (.seq (.ops [⟨some 4, none, .mv (.lit (.exact []))⟩])
 (.seq (.ops [⟨some 5, none, .mv (.lit (.exact []))⟩])
 (.seq (.ops [⟨some 6, none, .mv (.tmp 5)⟩,
  ⟨some 7, none, .mv (.tmp 0)⟩,
  ⟨some 8, none, .append false 1 1 [(.d (.int .u8 0))] (.tmp 6) (.tmp 7)⟩,
  ⟨some 5, none, .mv (.tmp 8)⟩])
 (.seq (.block 0 (.loop [1, 5] [9, 10, 11, 12, 13, 14, 15, 16, 17, 18, 19] (.seq (.seq (.ops [⟨some 9, none, .mv (.tmp 1)⟩,
  ⟨some 10, none, .bin .geq .plain (.tmp 9) (.lit (.d (.int .u64 128)))⟩])
 (.cond (.tmp 10) .skip (.exit 0)))
 (.block 1 (.seq (.ops [⟨some 11, none, .mv (.tmp 5)⟩,
  ⟨some 12, none, .mv (.tmp 1)⟩,
  ⟨some 13, none, .bin .rem .plain (.tmp 12) (.lit (.d (.int .u64 128)))⟩,
  ⟨some 14, none, .conv (.int .u8) (.tmp 13)⟩,
  ⟨some 15, none, .bin .add .plain (.tmp 14) (.lit (.d (.int .u8 128)))⟩,
  ⟨some 16, none, .mkslice false 1 1 [(.d (.int .u8 0))] [(0, 1, (.tmp 15))]⟩,
  ⟨some 17, none, .append false 1 1 [(.d (.int .u8 0))] (.tmp 11) (.tmp 16)⟩,
  ⟨some 5, none, .mv (.tmp 17)⟩])
 (.ops [⟨some 18, none, .mv (.tmp 1)⟩,
  ⟨some 19, none, .bin .quo .plain (.tmp 18) (.lit (.d (.int .u64 128)))⟩,
  ⟨some 1, none, .mv (.tmp 19)⟩]))))))
 (.seq (.ops [⟨some 20, none, .mv (.tmp 5)⟩,
  ⟨some 21, none, .mv (.tmp 1)⟩,
  ⟨some 22, none, .conv (.int .u8) (.tmp 21)⟩,
  ⟨some 23, none, .mkslice false 1 1 [(.d (.int .u8 0))] [(0, 1, (.tmp 22))]⟩,
  ⟨some 24, none, .append false 1 1 [(.d (.int .u8 0))] (.tmp 20) (.tmp 23)⟩,
  ⟨some 4, none, .mv (.tmp 24)⟩])
 .ret)))))⟩
theorem zmE : isF Tryz.prog zaB zgI := ⟨Tryz.f95, _, Tryz.func95, by decide +kernel, rfl, by kernel_rfl, by kernel_rfl, by decide, by kernel_rfl, rfl, by kernel_rfl⟩
/-- bulla/bullaref08.PutSign -/
def zfy : AF := ⟨2, 18, [(.tmp 4)],
 (.seq (.ops [⟨some 3, none, .boxi (.tmp 1)⟩,
  ⟨some 4, none, .mv (.lit (.exact []))⟩])
 (.seq (.seq (.ops [⟨some 5, none, .load true 2 (.tmp 3)⟩,
  ⟨some 6, none, .call false 111 [(.tmp 5)]⟩,
  ⟨some 7, none, .bin .neq .plain (.tmp 6) (.lit (.d (.int .i64 0)))⟩])
 (.cond (.tmp 7) (.seq (.ops [⟨some 8, none, .mv (.tmp 0)⟩,
  ⟨some 4, none, .mv (.tmp 8)⟩])
 .ret) .skip))
 (.seq (.draw [⟨some 9, none, .mv (.tmp 0)⟩,
  ⟨some 10, none, .faddr 0 (.tmp 3)⟩,
  ⟨some 11, none, .load false 1 (.tmp 10)⟩,
  ⟨some 12, none, .conv (.int .u64) (.tmp 11)⟩,
  ⟨some 13, none, .call false 95 [(.tmp 9), (.tmp 12)]⟩,
  ⟨some 14, none, .faddr 1 (.tmp 3)⟩,
  ⟨some 15, none, .load false 1 (.tmp 14)⟩,
  ⟨some 16, none, .conv (.int .u64) (.tmp 15)⟩,
  ⟨some 17, none, .call false 95 [(.tmp 13), (.tmp 16)]⟩,
  ⟨some 4, none, .mv (.tmp 17)⟩] [[], [], [1], [2], [0, 3], [], [5], [6], [4, 7, 4], [8, 8, 0, 1, 2, 3, 4, 5, 6, 7, 8]] [(0, []), (1, []), (2, []), (3, []), (5, []), (6, []), (7, []), (4, [14]), (8, []), (9, [])] [0, 0, 2, 6, 15, 0, 32, 96, 255, 511])
 .ret)))⟩
theorem zlF : isF Tryz.prog zfh zfy := ⟨Tryz.f96, _, Tryz.func96, by decide +kernel, rfl, by kernel_rfl, by kernel_rfl, by decide, by kernel_rfl, rfl, by kernel_rfl⟩
/-- bulla/bullaref01.PutBytes -/
def zez : AF := ⟨2, 12, [(.tmp 4)],
 (.seq (.ops [⟨some 4, none, .mv (.lit (.exact []))⟩])
 (.seq (.ops [⟨some 5, none, .mv (.tmp 0)⟩,
  ⟨some 6, none, .mv (.tmp 1)⟩,
  ⟨some 7, none, .len .sl (.tmp 6)⟩,
  ⟨some 8, none, .conv (.int .u64) (.tmp 7)⟩,
  ⟨some 9, none, .call false 95 [(.tmp 5), (.tmp 8)]⟩,
  ⟨some 10, none, .mv (.tmp 1)⟩,
  ⟨some 11, none, .append false 1 1 [(.d (.int .u8 0))] (.tmp 9) (.tmp 10)⟩,
  ⟨some 4, none, .mv (.tmp 11)⟩])
 .ret))⟩
theorem zkR : isF Tryz.prog zbA zez := ⟨Tryz.f97, _, Tryz.func97, by decide +kernel, rfl, by kernel_rfl, by kernel_rfl, by decide, by kernel_rfl, rfl, by kernel_rfl⟩
/-- bulla/bullaref11.signed -/
def zgF : AF := ⟨5, 37, [(.tmp 10)],
 (.seq (.ops [⟨some 7, none, .boxi (.tmp 2)⟩,
  ⟨some 10, none, .mv (.lit (.d (.bool false)))⟩])
 (.seq (.ops [⟨some 14, none, .mv (.tmp 0)⟩,
  ⟨some 15, none, .mv (.tmp 4)⟩,
  ⟨some 16, none, .call false 57 [(.tmp 14), (.tmp 15)]⟩,
  ⟨some 13, none, .mv (.tmp 16)⟩,
  ⟨some 17, none, .extract (.tmp 13) 0⟩,
  ⟨some 18, none, .extract (.tmp 13) 1⟩,
  ⟨some 11, none, .mv (.tmp 17)⟩,
  ⟨some 12, none, .mv (.tmp 18)⟩])
 (.seq (.ops [⟨some 19, none, .mv (.tmp 12)⟩,
  ⟨some 20, none, .mv (.tmp 19)⟩,
  ⟨some 21, some (20, true), .faddr 0 (.tmp 7)⟩,
  ⟨some 22, some (20, true), .load false 1 (.tmp 21)⟩,
  ⟨some 23, some (20, true), .mv (.tmp 3)⟩,
  ⟨some 24, some (20, true), .bin .eql .plain (.tmp 22) (.tmp 23)⟩,
  ⟨some 25, none, .pick (.tmp 20) (.tmp 24) (.lit (.d (.bool false)))⟩,
  ⟨some 26, none, .mv (.tmp 25)⟩,
  ⟨some 27, some (26, true), .faddr 1 (.tmp 7)⟩,
  ⟨some 28, some (26, true), .load false 1 (.tmp 27)⟩,
  ⟨some 29, some (26, true), .mv (.tmp 11)⟩,
  ⟨some 30, some (26, true), .bin .eql .plain (.tmp 28) (.tmp 29)⟩,
  ⟨some 31, none, .pick (.tmp 26) (.tmp 30) (.lit (.d (.bool false)))⟩,
  ⟨some 32, none, .mv (.tmp 31)⟩,
  ⟨some 33, some (32, true), .mv (.tmp 1)⟩,
  ⟨some 34, some (32, true), .load true 2 (.tmp 7)⟩,
  ⟨some 35, some (32, true), .call false 110 [(.tmp 33), (.tmp 34)]⟩,
  ⟨some 36, none, .pick (.tmp 32) (.tmp 35) (.lit (.d (.bool false)))⟩,
  ⟨some 10, none, .mv (.tmp 36)⟩])
 .ret)))⟩
theorem zmB : isF Tryz.prog zgb zgF := ⟨Tryz.f98, _, Tryz.func98, by decide +kernel, rfl, by kernel_rfl, by kernel_rfl, by decide, by kernel_rfl, rfl, by kernel_rfl⟩
/-- slices.Clone[[]bulla/api.Sign,bulla/api.Sign] -/
def zaE : AF := ⟨1, 8, [(.tmp 2)],
 (.seq (.ops [⟨some 2, none, .mv (.lit (.exact []))⟩])
 (.seq (.seq (.ops [⟨some 3, none, .mv (.tmp 0)⟩,
  ⟨some 4, none, .isnil false (.tmp 3)⟩])
 (.cond (.tmp 4) (.seq (.ops [⟨some 2, none, .mv (.lit (.exact []))⟩])
 .ret) .skip))
 (.seq (.ops [⟨some 5, none, .mkslice false 2 0 [(.d (.int .i64 0)), (.d (.int .i64 0))] []⟩,
  ⟨some 6, none, .mv (.tmp 0)⟩,
  ⟨some 7, none, .append false 2 16 [(.d (.int .i64 0)), (.d (.int .i64 0))] (.tmp 5) (.tmp 6)⟩,
  ⟨some 2, none, .mv (.tmp 7)⟩])
 .ret)))⟩
theorem zcp : isF Tryz.prog zaD zaE := ⟨Tryz.f99, _, Tryz.func99, by decide +kernel, rfl, by kernel_rfl, by kernel_rfl, by decide, by kernel_rfl, rfl, by kernel_rfl⟩
/-- bulla/request.Clone -/
def zec : AF := ⟨1, 24, [(.tmp 2)],
 (.seq (.ops [⟨some 2, none, .mv (.lit (.exact []))⟩])
 (.seq (.ops [⟨some 3, none, .mv (.lit (.exact []))⟩])
 (.seq (.seq (.ops [⟨some 6, none, .mv (.tmp 0)⟩,
  ⟨some 7, none, .len .sl (.tmp 6)⟩,
  ⟨some 8, none, .mv (.lit (.d (.int .i64 0)))⟩])
 (.block 0 (.loop [3, 8] [5, 9, 10, 11, 12, 13, 14, 15, 16, 17, 18, 19, 20, 21, 22] (.seq (.ops [⟨some 9, none, .bin .lss .plain (.tmp 8) (.tmp 7)⟩])
 (.seq (.cond (.tmp 9) .skip (.exit 0))
 (.seq (.block 1 (.seq (.ops [⟨some 10, none, .iaddr none 9 (.tmp 6) (.tmp 8)⟩,
  ⟨some 11, none, .load true 9 (.tmp 10)⟩,
  ⟨some 5, none, .alloc [(.d (.int .i64 0)), (.d (.int .i64 0)), (.d (.int .i64 0)), (.d (.str [])), (.d (.str [])), (.d (.int .i64 0)), (.exact []), (.d (.int .i64 0)), (.d (.int .i64 0))]⟩,
  ⟨none, none, .store 9 (.tmp 5) (.tmp 11)⟩])
 (.seq (.ops [⟨some 12, none, .faddr 0 (.tmp 5)⟩,
  ⟨some 13, none, .faddr 2 (.tmp 12)⟩,
  ⟨some 14, none, .load true 5 (.tmp 13)⟩,
  ⟨some 15, none, .call false 124 [(.tmp 14)]⟩,
  ⟨some 16, none, .faddr 0 (.tmp 5)⟩,
  ⟨some 17, none, .faddr 2 (.tmp 16)⟩,
  ⟨none, none, .store 5 (.tmp 17) (.tmp 15)⟩])
 (.ops [⟨some 18, none, .mv (.tmp 3)⟩,
  ⟨some 19, none, .load true 9 (.tmp 5)⟩,
  ⟨some 20, none, .mkslice false 9 1 [(.d (.int .i64 0)), (.d (.int .i64 0)), (.d (.int .i64 0)), (.d (.str [])), (.d (.str [])), (.d (.int .i64 0)), (.exact []), (.d (.int .i64 0)), (.d (.int .i64 0))] [(0, 9, (.tmp 19))]⟩,
  ⟨some 21, none, .append false 9 104 [(.d (.int .i64 0)), (.d (.int .i64 0)), (.d (.int .i64 0)), (.d (.str [])), (.d (.str [])), (.d (.int .i64 0)), (.exact []), (.d (.int .i64 0)), (.d (.int .i64 0))] (.tmp 18) (.tmp 20)⟩,
  ⟨some 3, none, .mv (.tmp 21)⟩]))))
 (.ops [⟨some 22, none, .bin .add .plain (.tmp 8) (.lit (.d (.int .i64 1)))⟩,
  ⟨some 8, none, .mv (.tmp 22)⟩])))))))
 (.seq (.ops [⟨some 23, none, .mv (.tmp 3)⟩,
  ⟨some 2, none, .mv (.tmp 23)⟩])
 .ret))))⟩
theorem zjC : isF Tryz.prog zdL zec := ⟨Tryz.f100, _, Tryz.func100, by decide +kernel, rfl, by kernel_rfl, by kernel_rfl, by decide, by kernel_rfl, rfl, by kernel_rfl⟩
/-- bulla/op.Same -/
def zms : AF := ⟨2, 38, [(.tmp 4)],
 (.seq (.ops [⟨some 2, none, .boxi (.tmp 0)⟩,
  ⟨some 3, none, .boxi (.tmp 1)⟩,
  ⟨some 4, none, .mv (.lit (.d (.bool false)))⟩])
 (.seq (.ops [⟨some 5, none, .faddr 0 (.tmp 2)⟩,
  ⟨some 6, none, .load false 1 (.tmp 5)⟩,
  ⟨some 7, none, .faddr 0 (.tmp 3)⟩,
  ⟨some 8, none, .load false 1 (.tmp 7)⟩,
  ⟨some 9, none, .bin .eql .plain (.tmp 6) (.tmp 8)⟩,
  ⟨some 10, none, .mv (.tmp 9)⟩,
  ⟨some 11, some (10, true), .faddr 1 (.tmp 2)⟩,
  ⟨some 12, some (10, true), .load false 1 (.tmp 11)⟩,
  ⟨some 13, some (10, true), .faddr 1 (.tmp 3)⟩,
  ⟨some 14, some (10, true), .load false 1 (.tmp 13)⟩,
  ⟨some 15, some (10, true), .bin .eql .plain (.tmp 12) (.tmp 14)⟩,
  ⟨some 16, none, .pick (.tmp 10) (.tmp 15) (.lit (.d (.bool false)))⟩,
  ⟨some 17, none, .mv (.tmp 16)⟩,
  ⟨some 18, some (17, true), .faddr 2 (.tmp 2)⟩,
  ⟨some 19, some (17, true), .load false 1 (.tmp 18)⟩,
  ⟨some 20, some (17, true), .faddr 2 (.tmp 3)⟩,
  ⟨some 21, some (17, true), .load false 1 (.tmp 20)⟩,
  ⟨some 22, some (17, true), .bin .eql .plain (.tmp 19) (.tmp 21)⟩,
  ⟨some 23, none, .pick (.tmp 17) (.tmp 22) (.lit (.d (.bool false)))⟩,
  ⟨some 24, none, .mv (.tmp 23)⟩,
  ⟨some 25, some (24, true), .faddr 3 (.tmp 2)⟩,
  ⟨some 26, some (24, true), .load false 1 (.tmp 25)⟩,
  ⟨some 27, some (24, true), .faddr 3 (.tmp 3)⟩,
  ⟨some 28, some (24, true), .load false 1 (.tmp 27)⟩,
  ⟨some 29, some (24, true), .bin .eql .plain (.tmp 26) (.tmp 28)⟩,
  ⟨some 30, none, .pick (.tmp 24) (.tmp 29) (.lit (.d (.bool false)))⟩,
  ⟨some 31, none, .mv (.tmp 30)⟩,
  ⟨some 32, some (31, true), .faddr 4 (.tmp 2)⟩,
  ⟨some 33, some (31, true), .load false 1 (.tmp 32)⟩,
  ⟨some 34, some (31, true), .faddr 4 (.tmp 3)⟩,
  ⟨some 35, some (31, true), .load false 1 (.tmp 34)⟩,
  ⟨some 36, some (31, true), .call false 128 [(.tmp 33), (.tmp 35), (.lit (.fn (.func 129) [] []))]⟩,
  ⟨some 37, none, .pick (.tmp 31) (.tmp 36) (.lit (.d (.bool false)))⟩,
  ⟨some 4, none, .mv (.tmp 37)⟩])
 .ret))⟩
theorem isA_op_Same : isF Tryz.prog zly zms := ⟨Tryz.f106, _, Tryz.func106, by decide +kernel, rfl, by kernel_rfl, by kernel_rfl, by decide, by kernel_rfl, rfl, by kernel_rfl⟩
/-- bulla/bullaref08.Check -/
def zhZ : AF := ⟨1, 20, [(.tmp 2)],
 (.seq (.ops [⟨some 1, none, .boxi (.tmp 0)⟩,
  ⟨some 2, none, .mv (.lit (.d (.int .i64 0)))⟩])
 (.seq (.seq (.ops [⟨some 3, none, .faddr 0 (.tmp 1)⟩,
  ⟨some 4, none, .load false 1 (.tmp 3)⟩,
  ⟨some 5, none, .call false 74 [(.tmp 4)]⟩,
  ⟨some 6, none, .bin .lss .plain (.tmp 5) (.lit (.d (.int .i64 0)))⟩,
  ⟨some 7, none, .mv (.tmp 6)⟩,
  ⟨some 8, some (7, false), .faddr 1 (.tmp 1)⟩,
  ⟨some 9, some (7, false), .load false 1 (.tmp 8)⟩,
  ⟨some 10, some (7, false), .bin .lss .plain (.tmp 9) (.lit (.d (.int .i64 1)))⟩,
  ⟨some 11, none, .pick (.tmp 7) (.lit (.d (.bool true))) (.tmp 10)⟩,
  ⟨some 12, none, .mv (.tmp 11)⟩,
  ⟨some 13, some (12, false), .faddr 1 (.tmp 1)⟩,
  ⟨some 14, some (12, false), .load false 1 (.tmp 13)⟩,
  ⟨some 15, some (12, false), .bin .gtr .plain (.tmp 14) (.lit (.d (.int .i64 9007199254740992)))⟩,
  ⟨some 16, none, .pick (.tmp 12) (.lit (.d (.bool true))) (.tmp 15)⟩])
 (.cond (.tmp 16) (.seq (.ops [⟨some 2, none, .mv (.lit (.d (.int .i64 80)))⟩])
 .ret) .skip))
 (.seq (.ops [⟨some 17, none, .faddr 2 (.tmp 1)⟩,
  ⟨some 18, none, .load true 5 (.tmp 17)⟩,
  ⟨some 19, none, .call false 132 [(.tmp 18)]⟩,
  ⟨some 2, none, .mv (.tmp 19)⟩])
 .ret)))⟩
theorem zoc : isF Tryz.prog zfi zhZ := ⟨Tryz.f108, _, Tryz.func108, by decide +kernel, rfl, by kernel_rfl, by kernel_rfl, by decide, by kernel_rfl, rfl, by kernel_rfl⟩
/-- bulla/bullaref06.Put -/
def zmq : AF := ⟨2, 67, [(.tmp 4)],
 (.seq (.ops [⟨some 3, none, .boxi (.tmp 1)⟩,
  ⟨some 4, none, .mv (.lit (.exact []))⟩])
 (.seq (.seq (.ops [⟨some 10, none, .load true 5 (.tmp 3)⟩,
  ⟨some 11, none, .call false 132 [(.tmp 10)]⟩,
  ⟨some 12, none, .bin .neq .plain (.tmp 11) (.lit (.d (.int .i64 0)))⟩])
 (.cond (.tmp 12) (.seq (.ops [⟨some 13, none, .mv (.tmp 0)⟩,
  ⟨some 4, none, .mv (.tmp 13)⟩])
 .ret) .skip))
 (.seq (.ops [⟨some 15, none, .faddr 0 (.tmp 3)⟩,
  ⟨some 16, none, .load false 1 (.tmp 15)⟩,
  ⟨some 17, none, .call false 133 [(.tmp 16)]⟩,
  ⟨some 14, none, .mv (.tmp 17)⟩,
  ⟨some 18, none, .extract (.tmp 14) 0⟩,
  ⟨some 19, none, .extract (.tmp 14) 1⟩,
  ⟨some 20, none, .extract (.tmp 14) 2⟩,
  ⟨some 21, none, .extract (.tmp 14) 3⟩,
  ⟨some 5, none, .mv (.tmp 18)⟩,
  ⟨some 6, none, .mv (.tmp 19)⟩,
  ⟨some 7, none, .mv (.tmp 20)⟩,
  ⟨some 8, none, .mv (.tmp 21)⟩])
 (.seq (.ops [⟨some 22, none, .mv (.tmp 0)⟩,
  ⟨some 23, none, .faddr 0 (.tmp 3)⟩,
  ⟨some 24, none, .load false 1 (.tmp 23)⟩,
  ⟨some 25, none, .conv (.int .u64) (.tmp 24)⟩,
  ⟨some 26, none, .call false 95 [(.tmp 22), (.tmp 25)]⟩,
  ⟨some 0, none, .mv (.tmp 26)⟩])
 (.seq (.seq (.ops [⟨some 27, none, .mv (.tmp 5)⟩])
 (.cond (.tmp 27) (.ops [⟨some 28, none, .mv (.tmp 0)⟩,
  ⟨some 29, none, .faddr 1 (.tmp 3)⟩,
  ⟨some 30, none, .load false 1 (.tmp 29)⟩,
  ⟨some 31, none, .conv .toBytes (.tmp 30)⟩,
  ⟨some 32, none, .call false 97 [(.tmp 28), (.tmp 31)]⟩,
  ⟨some 0, none, .mv (.tmp 32)⟩]) .skip))
 (.seq (.seq (.ops [⟨some 33, none, .mv (.tmp 6)⟩])
 (.cond (.tmp 33) (.ops [⟨some 34, none, .mv (.tmp 0)⟩,
  ⟨some 35, none, .faddr 2 (.tmp 3)⟩,
  ⟨some 36, none, .load false 1 (.tmp 35)⟩,
  ⟨some 37, none, .conv .toBytes (.tmp 36)⟩,
  ⟨some 38, none, .call false 97 [(.tmp 34), (.tmp 37)]⟩,
  ⟨some 0, none, .mv (.tmp 38)⟩]) .skip))
 (.seq (.seq (.ops [⟨some 39, none, .mv (.tmp 7)⟩])
 (.cond (.tmp 39) (.ops [⟨some 40, none, .mv (.tmp 0)⟩,
  ⟨some 41, none, .faddr 3 (.tmp 3)⟩,
  ⟨some 42, none, .load false 1 (.tmp 41)⟩,
  ⟨some 43, none, .conv (.int .u64) (.tmp 42)⟩,
  ⟨some 44, none, .call false 95 [(.tmp 40), (.tmp 43)]⟩,
  ⟨some 0, none, .mv (.tmp 44)⟩]) .skip))
 (.seq (.seq (.ops [⟨some 45, none, .mv (.tmp 8)⟩])
 (.cond (.tmp 45) (.seq (.ops [⟨some 46, none, .mv (.tmp 0)⟩,
  ⟨some 47, none, .faddr 4 (.tmp 3)⟩,
  ⟨some 48, none, .load false 1 (.tmp 47)⟩,
  ⟨some 49, none, .len .sl (.tmp 48)⟩,
  ⟨some 50, none, .conv (.int .u64) (.tmp 49)⟩,
  ⟨some 51, none, .call false 95 [(.tmp 46), (.tmp 50)]⟩,
  ⟨some 0, none, .mv (.tmp 51)⟩])
 (.seq (.ops [⟨some 9, none, .mv (.lit (.d (.int .i64 0)))⟩])
 (.block 0 (.loop [0, 9] [52, 53, 54, 55, 56, 57, 58, 59, 60, 61, 62, 63, 64, 65] (.seq (.seq (.ops [⟨some 52, none, .mv (.tmp 9)⟩,
  ⟨some 53, none, .faddr 4 (.tmp 3)⟩,
  ⟨some 54, none, .load false 1 (.tmp 53)⟩,
  ⟨some 55, none, .len .sl (.tmp 54)⟩,
  ⟨some 56, none, .bin .lss .plain (.tmp 52) (.tmp 55)⟩])
 (.cond (.tmp 56) .skip (.exit 0)))
 (.seq (.block 1 (.ops [⟨some 59, none, .mv (.tmp 0)⟩,
  ⟨some 60, none, .faddr 4 (.tmp 3)⟩,
  ⟨some 61, none, .load false 1 (.tmp 60)⟩,
  ⟨some 62, none, .mv (.tmp 9)⟩,
  ⟨some 63, none, .iaddr none 1 (.tmp 61) (.tmp 62)⟩,
  ⟨some 64, none, .load false 1 (.tmp 63)⟩,
  ⟨some 65, none, .call false 97 [(.tmp 59), (.tmp 64)]⟩,
  ⟨some 0, none, .mv (.tmp 65)⟩]))
 (.ops [⟨some 57, none, .mv (.tmp 9)⟩,
  ⟨some 58, none, .bin .add .plain (.tmp 57) (.lit (.d (.int .i64 1)))⟩,
  ⟨some 9, none, .mv (.tmp 58)⟩]))))))) .skip))
 (.seq (.ops [⟨some 66, none, .mv (.tmp 0)⟩,
  ⟨some 4, none, .mv (.tmp 66)⟩])
 .ret)))))))))⟩
theorem isA_r06_Put : isF Tryz.prog zlw zmq := ⟨Tryz.f109, _, Tryz.func109, by decide +kernel, rfl, by kernel_rfl, by kernel_rfl, by decide, by kernel_rfl, rfl, by kernel_rfl⟩
/-- (*bulla/bullaref02.Ledger).Signed -/
def zcf : AF := ⟨2, 24, [(.tmp 4)],
 (.seq (.ops [⟨some 3, none, .boxi (.tmp 1)⟩,
  ⟨some 4, none, .mv (.lit (.d (.bool false)))⟩])
 (.seq (.seq (.ops [⟨some 5, none, .mv (.lit (.d (.int .i64 0)))⟩])
 (.block 0 (.loop [5] [4, 6, 7, 8, 9, 10, 11, 12, 13, 14, 15, 16, 17, 18, 19, 20, 21, 22, 23] (.seq (.seq (.ops [⟨some 6, none, .mv (.tmp 5)⟩,
  ⟨some 7, none, .mv (.tmp 0)⟩,
  ⟨some 8, none, .nilchk (.tmp 7)⟩,
  ⟨some 9, none, .faddr 0 (.tmp 8)⟩,
  ⟨some 10, none, .load false 1 (.tmp 9)⟩,
  ⟨some 11, none, .len .sl (.tmp 10)⟩,
  ⟨some 12, none, .bin .lss .plain (.tmp 6) (.tmp 11)⟩])
 (.cond (.tmp 12) .skip (.exit 0)))
 (.seq (.block 1 (.seq (.draw [⟨some 15, none, .mv (.tmp 0)⟩,
  ⟨some 16, none, .nilchk (.tmp 15)⟩,
  ⟨some 17, none, .faddr 0 (.tmp 16)⟩,
  ⟨some 18, none, .load false 1 (.tmp 17)⟩,
  ⟨some 19, none, .mv (.tmp 5)⟩,
  ⟨some 20, none, .iaddr none 2 (.tmp 18) (.tmp 19)⟩,
  ⟨some 21, none, .load true 2 (.tmp 20)⟩,
  ⟨some 22, none, .load true 2 (.tmp 3)⟩,
  ⟨some 23, none, .bin .eql (.ints 2) (.tmp 21) (.tmp 22)⟩] [[], [0], [1], [2], [], [3, 4], [5], [], [6, 7]] [(0, []), (1, []), (2, []), (3, []), (4, []), (5, []), (6, []), (7, []), (8, [])] [0, 1, 3, 7, 0, 31, 63, 0, 255])
 (.cond (.tmp 23) (.seq (.ops [⟨some 4, none, .mv (.lit (.d (.bool true)))⟩])
 .ret) .skip)))
 (.ops [⟨some 13, none, .mv (.tmp 5)⟩,
  ⟨some 14, none, .bin .add .plain (.tmp 13) (.lit (.d (.int .i64 1)))⟩,
  ⟨some 5, none, .mv (.tmp 14)⟩]))))))
 (.seq (.ops [⟨some 4, none, .mv (.lit (.d (.bool false)))⟩])
 .ret)))⟩
theorem zgi : isF Tryz.prog zaS zcf := ⟨Tryz.f110, _, Tryz.func110, by decide +kernel, rfl, by kernel_rfl, by kernel_rfl, by decide, by kernel_rfl, rfl, by kernel_rfl⟩
/-- bulla/bullaref08.CheckSign -/
def zeh : AF := ⟨1, 21, [(.tmp 2)],
 (.seq (.ops [⟨some 1, none, .boxi (.tmp 0)⟩,
  ⟨some 2, none, .mv (.lit (.d (.int .i64 0)))⟩])
 (.seq (.seq (.ops [⟨some 3, none, .faddr 0 (.tmp 1)⟩,
  ⟨some 4, none, .load false 1 (.tmp 3)⟩,
  ⟨some 5, none, .bin .lss .plain (.tmp 4) (.lit (.d (.int .i64 0)))⟩,
  ⟨some 6, none, .mv (.tmp 5)⟩,
  ⟨some 7, some (6, false), .faddr 0 (.tmp 1)⟩,
  ⟨some 8, some (6, false), .load false 1 (.tmp 7)⟩,
  ⟨some 9, some (6, false), .bin .geq .plain (.tmp 8) (.lit (.d (.int .i64 21)))⟩,
  ⟨some 10, none, .pick (.tmp 6) (.lit (.d (.bool true))) (.tmp 9)⟩,
  ⟨some 11, none, .mv (.tmp 10)⟩,
  ⟨some 12, some (11, false), .faddr 1 (.tmp 1)⟩,
  ⟨some 13, some (11, false), .load false 1 (.tmp 12)⟩,
  ⟨some 14, some (11, false), .bin .lss .plain (.tmp 13) (.lit (.d (.int .i64 1)))⟩,
  ⟨some 15, none, .pick (.tmp 11) (.lit (.d (.bool true))) (.tmp 14)⟩,
  ⟨some 16, none, .mv (.tmp 15)⟩,
  ⟨some 17, some (16, false), .faddr 1 (.tmp 1)⟩,
  ⟨some 18, some (16, false), .load false 1 (.tmp 17)⟩,
  ⟨some 19, some (16, false), .bin .gtr .plain (.tmp 18) (.lit (.d (.int .i64 9007199254740992)))⟩,
  ⟨some 20, none, .pick (.tmp 16) (.lit (.d (.bool true))) (.tmp 19)⟩])
 (.cond (.tmp 20) (.seq (.ops [⟨some 2, none, .mv (.lit (.d (.int .i64 81)))⟩])
 .ret) .skip))
 (.seq (.ops [⟨some 2, none, .mv (.lit (.d (.int .i64 0)))⟩])
 .ret)))⟩
theorem zjH : isF Tryz.prog zcv zeh := ⟨Tryz.f111, _, Tryz.func111, by decide +kernel, rfl, by kernel_rfl, by kernel_rfl, by decide, by kernel_rfl, rfl, by kernel_rfl⟩
/-- bulla/bullaref11.num -/
def zmn : AF := ⟨1, 9, [(.tmp 2)],
 (.seq (.ops [⟨some 2, none, .mv (.lit (.d (.bool false)))⟩])
 (.seq (.ops [⟨some 3, none, .mv (.tmp 0)⟩,
  ⟨some 4, none, .bin .geq .plain (.tmp 3) (.lit (.d (.int .i64 0)))⟩,
  ⟨some 5, none, .mv (.tmp 4)⟩,
  ⟨some 6, some (5, true), .mv (.tmp 0)⟩,
  ⟨some 7, some (5, true), .bin .leq .plain (.tmp 6) (.lit (.d (.int .i64 9007199254740992)))⟩,
  ⟨some 8, none, .pick (.tmp 5) (.tmp 7) (.lit (.d (.bool false)))⟩,
  ⟨some 2, none, .mv (.tmp 8)⟩])
 .ret))⟩
theorem isA_r11_num : isF Tryz.prog zeI zmn := ⟨Tryz.f112, _, Tryz.func112, by decide +kernel, rfl, by kernel_rfl, by kernel_rfl, by decide, by kernel_rfl, rfl, by kernel_rfl⟩
/-- bulla/bullaref11.put -/
def zmm : AF := ⟨2, 10, [(.tmp 4)],
 (.seq (.ops [⟨some 4, none, .mv (.lit (.exact []))⟩])
 (.seq (.ops [⟨some 5, none, .mv (.tmp 0)⟩,
  ⟨some 6, none, .mv (.tmp 1)⟩,
  ⟨some 7, none, .maxi [(.tmp 6), (.lit (.d (.int .i64 0)))]⟩,
  ⟨some 8, none, .conv (.int .u64) (.tmp 7)⟩,
  ⟨some 9, none, .call false 95 [(.tmp 5), (.tmp 8)]⟩,
  ⟨some 4, none, .mv (.tmp 9)⟩])
 .ret))⟩
theorem isA_r11_put : isF Tryz.prog zeH zmm := ⟨Tryz.f113, _, Tryz.func113, by decide +kernel, rfl, by kernel_rfl, by kernel_rfl, by decide, by kernel_rfl, rfl, by kernel_rfl⟩
/-- bulla/request.Check -/
def zed : AF := ⟨1, 24, [(.tmp 2)],
 (.seq (.ops [⟨some 1, none, .boxi (.tmp 0)⟩,
  ⟨some 2, none, .mv (.lit (.d (.int .i64 0)))⟩])
 (.seq (.seq (.ops [⟨some 3, none, .faddr 0 (.tmp 1)⟩,
  ⟨some 4, none, .load false 1 (.tmp 3)⟩,
  ⟨some 5, none, .bin .lss .plain (.tmp 4) (.lit (.d (.int .i64 0)))⟩,
  ⟨some 6, none, .mv (.tmp 5)⟩,
  ⟨some 7, some (6, false), .faddr 0 (.tmp 1)⟩,
  ⟨some 8, some (6, false), .load false 1 (.tmp 7)⟩,
  ⟨some 9, some (6, false), .bin .geq .plain (.tmp 8) (.lit (.d (.int .i64 8)))⟩,
  ⟨some 10, none, .pick (.tmp 6) (.lit (.d (.bool true))) (.tmp 9)⟩,
  ⟨some 11, none, .mv (.tmp 10)⟩,
  ⟨some 12, some (11, false), .faddr 1 (.tmp 1)⟩,
  ⟨some 13, some (11, false), .load false 1 (.tmp 12)⟩,
  ⟨some 14, some (11, false), .bin .lss .plain (.tmp 13) (.lit (.d (.int .i64 1)))⟩,
  ⟨some 15, none, .pick (.tmp 11) (.lit (.d (.bool true))) (.tmp 14)⟩,
  ⟨some 16, none, .mv (.tmp 15)⟩,
  ⟨some 17, some (16, false), .faddr 1 (.tmp 1)⟩,
  ⟨some 18, some (16, false), .load false 1 (.tmp 17)⟩,
  ⟨some 19, some (16, false), .bin .gtr .plain (.tmp 18) (.lit (.d (.int .i64 9007199254740992)))⟩,
  ⟨some 20, none, .pick (.tmp 16) (.lit (.d (.bool true))) (.tmp 19)⟩])
 (.cond (.tmp 20) (.seq (.ops [⟨some 2, none, .mv (.lit (.d (.int .i64 80)))⟩])
 .ret) .skip))
 (.seq (.ops [⟨some 21, none, .faddr 2 (.tmp 1)⟩,
  ⟨some 22, none, .load true 5 (.tmp 21)⟩,
  ⟨some 23, none, .call false 134 [(.tmp 22)]⟩,
  ⟨some 2, none, .mv (.tmp 23)⟩])
 .ret)))⟩
theorem zjD : isF Tryz.prog zcr zed := ⟨Tryz.f114, _, Tryz.func114, by decide +kernel, rfl, by kernel_rfl, by kernel_rfl, by decide, by kernel_rfl, rfl, by kernel_rfl⟩
/-- bulla/request.CheckSign -/
def zce : AF := ⟨1, 21, [(.tmp 2)],
 (.seq (.ops [⟨some 1, none, .boxi (.tmp 0)⟩,
  ⟨some 2, none, .mv (.lit (.d (.int .i64 0)))⟩])
 (.seq (.seq (.ops [⟨some 3, none, .faddr 0 (.tmp 1)⟩,
  ⟨some 4, none, .load false 1 (.tmp 3)⟩,
  ⟨some 5, none, .bin .lss .plain (.tmp 4) (.lit (.d (.int .i64 0)))⟩,
  ⟨some 6, none, .mv (.tmp 5)⟩,
  ⟨some 7, some (6, false), .faddr 0 (.tmp 1)⟩,
  ⟨some 8, some (6, false), .load false 1 (.tmp 7)⟩,
  ⟨some 9, some (6, false), .bin .geq .plain (.tmp 8) (.lit (.d (.int .i64 21)))⟩,
  ⟨some 10, none, .pick (.tmp 6) (.lit (.d (.bool true))) (.tmp 9)⟩,
  ⟨some 11, none, .mv (.tmp 10)⟩,
  ⟨some 12, some (11, false), .faddr 1 (.tmp 1)⟩,
  ⟨some 13, some (11, false), .load false 1 (.tmp 12)⟩,
  ⟨some 14, some (11, false), .bin .lss .plain (.tmp 13) (.lit (.d (.int .i64 1)))⟩,
  ⟨some 15, none, .pick (.tmp 11) (.lit (.d (.bool true))) (.tmp 14)⟩,
  ⟨some 16, none, .mv (.tmp 15)⟩,
  ⟨some 17, some (16, false), .faddr 1 (.tmp 1)⟩,
  ⟨some 18, some (16, false), .load false 1 (.tmp 17)⟩,
  ⟨some 19, some (16, false), .bin .gtr .plain (.tmp 18) (.lit (.d (.int .i64 9007199254740992)))⟩,
  ⟨some 20, none, .pick (.tmp 16) (.lit (.d (.bool true))) (.tmp 19)⟩])
 (.cond (.tmp 20) (.seq (.ops [⟨some 2, none, .mv (.lit (.d (.int .i64 81)))⟩])
 .ret) .skip))
 (.seq (.ops [⟨some 2, none, .mv (.lit (.d (.int .i64 0)))⟩])
 .ret)))⟩
theorem zgh : isF Tryz.prog zbn zce := ⟨Tryz.f115, _, Tryz.func115, by decide +kernel, rfl, by kernel_rfl, by kernel_rfl, by decide, by kernel_rfl, rfl, by kernel_rfl⟩
/-- slices.IndexFunc[bulla/api.Batch,bulla/api.Signed] -/
def zar : AF := ⟨2, 19, [(.tmp 4)],
 (.seq (.ops [⟨some 4, none, .mv (.lit (.d (.int .i64 0)))⟩])
 (.seq (.seq (.ops [⟨some 6, none, .mv (.tmp 0)⟩,
  ⟨some 7, none, .len .sl (.tmp 6)⟩,
  ⟨some 8, none, .mv (.lit (.d (.int .i64 0)))⟩])
 (.block 0 (.loop [8] [4, 5, 9, 10, 11, 12, 13, 14, 15, 16, 17, 18] (.seq (.ops [⟨some 9, none, .bin .lss .plain (.tmp 8) (.tmp 7)⟩])
 (.seq (.cond (.tmp 9) .skip (.exit 0))
 (.seq (.block 1 (.seq (.ops [⟨some 10, none, .mv (.tmp 8)⟩,
  ⟨some 5, none, .mv (.tmp 10)⟩])
 (.seq (.ops [⟨some 11, none, .mv (.tmp 1)⟩,
  ⟨some 12, none, .mv (.tmp 0)⟩,
  ⟨some 13, none, .mv (.tmp 5)⟩,
  ⟨some 14, none, .iaddr none 9 (.tmp 12) (.tmp 13)⟩,
  ⟨some 15, none, .load true 9 (.tmp 14)⟩,
  ⟨some 16, none, .callv (.tmp 11) [(.tmp 15)]⟩])
 (.cond (.tmp 16) (.seq (.ops [⟨some 17, none, .mv (.tmp 5)⟩,
  ⟨some 4, none, .mv (.tmp 17)⟩])
 .ret) .skip))))
 (.ops [⟨some 18, none, .bin .add .plain (.tmp 8) (.lit (.d (.int .i64 1)))⟩,
  ⟨some 8, none, .mv (.tmp 18)⟩])))))))
 (.seq (.ops [⟨some 4, none, .mv (.lit (.d (.int .i64 (-1))))⟩])
 .ret)))⟩
theorem zbB : isF Tryz.prog zaq zar := ⟨Tryz.f116, _, Tryz.func116, by decide +kernel, rfl, by kernel_rfl, by kernel_rfl, by decide, by kernel_rfl, rfl, by kernel_rfl⟩
/-- bulla/request.Bytes -/
def zee : AF := ⟨1, 21, [(.tmp 2), (.tmp 3)],
 (.seq (.ops [⟨some 1, none, .boxi (.tmp 0)⟩,
  ⟨some 2, none, .mv (.lit (.exact []))⟩,
  ⟨some 3, none, .mv (.lit (.d (.int .i64 0)))⟩])
 (.seq (.seq (.ops [⟨some 5, none, .load true 7 (.tmp 1)⟩,
  ⟨some 6, none, .call false 114 [(.tmp 5)]⟩,
  ⟨some 4, none, .mv (.tmp 6)⟩])
 (.seq (.ops [⟨some 7, none, .mv (.tmp 4)⟩,
  ⟨some 8, none, .bin .neq .plain (.tmp 7) (.lit (.d (.int .i64 0)))⟩])
 (.cond (.tmp 8) (.seq (.ops [⟨some 9, none, .mv (.tmp 4)⟩,
  ⟨some 2, none, .mv (.lit (.exact []))⟩,
  ⟨some 3, none, .mv (.tmp 9)⟩])
 .ret) .skip)))
 (.seq (.draw [⟨some 10, none, .faddr 0 (.tmp 1)⟩,
  ⟨some 11, none, .load false 1 (.tmp 10)⟩,
  ⟨some 12, none, .conv (.int .u64) (.tmp 11)⟩,
  ⟨some 13, none, .call false 120 [(.lit (.exact [])), (.tmp 12)]⟩,
  ⟨some 14, none, .faddr 1 (.tmp 1)⟩,
  ⟨some 15, none, .load false 1 (.tmp 14)⟩,
  ⟨some 16, none, .conv (.int .u64) (.tmp 15)⟩,
  ⟨some 17, none, .call false 120 [(.tmp 13), (.tmp 16)]⟩,
  ⟨some 18, none, .faddr 2 (.tmp 1)⟩,
  ⟨some 19, none, .load true 5 (.tmp 18)⟩,
  ⟨some 20, none, .call false 135 [(.tmp 17), (.tmp 19)]⟩,
  ⟨some 2, none, .mv (.tmp 20)⟩,
  ⟨some 3, none, .mv (.lit (.d (.int .i64 0)))⟩] [[], [0], [1], [2], [], [4], [5], [3, 6, 3], [], [8], [7, 9, 7], [10, 10, 0, 1, 2, 3, 4, 5, 6, 7, 8, 9, 10], [11, 0, 1, 2, 3, 4, 5, 6, 7, 8, 9, 10, 11]] [(0, []), (1, []), (2, []), (4, []), (5, []), (6, []), (8, []), (9, []), (3, [14, 18]), (7, [18]), (10, []), (11, []), (12, [])] [0, 1, 3, 7, 0, 16, 48, 127, 0, 256, 1023, 2047, 4095])
 .ret)))⟩
theorem zjE : isF Tryz.prog zcs zee := ⟨Tryz.f117, _, Tryz.func117, by decide +kernel, rfl, by kernel_rfl, by kernel_rfl, by decide, by kernel_rfl, rfl, by kernel_rfl⟩
/-- bulla/request.Key -/
def zfv : AF := ⟨1, 11, [(.tmp 2)],
 (.seq (.ops [⟨some 2, none, .mv (.lit (.d (.int .i64 0)))⟩])
 (.seq (.seq (.ops [⟨some 3, none, .mv (.tmp 0)⟩,
  ⟨some 4, none, .bin .lss .plain (.tmp 3) (.lit (.d (.int .i64 0)))⟩,
  ⟨some 5, none, .mv (.tmp 4)⟩,
  ⟨some 6, some (5, false), .mv (.tmp 0)⟩,
  ⟨some 7, some (5, false), .bin .geq .plain (.tmp 6) (.lit (.d (.int .i64 8)))⟩,
  ⟨some 8, none, .pick (.tmp 5) (.lit (.d (.bool true))) (.tmp 7)⟩])
 (.cond (.tmp 8) (.seq (.ops [⟨some 2, none, .mv (.lit (.d (.int .i64 (-1))))⟩])
 .ret) .skip))
 (.seq (.ops [⟨some 9, none, .mv (.tmp 0)⟩,
  ⟨some 10, none, .bin .add .plain (.lit (.d (.int .i64 13))) (.tmp 9)⟩,
  ⟨some 2, none, .mv (.tmp 10)⟩])
 .ret)))⟩
theorem zlC : isF Tryz.prog zfe zfv := ⟨Tryz.f118, _, Tryz.func118, by decide +kernel, rfl, by kernel_rfl, by kernel_rfl, by decide, by kernel_rfl, rfl, by kernel_rfl⟩
/-- (*bulla/ideal.Ledger).Signed -/
def zbH : AF := ⟨2, 16, [(.tmp 4)],
 (.seq (.ops [⟨some 3, none, .boxi (.tmp 1)⟩,
  ⟨some 4, none, .mv (.lit (.d (.bool false)))⟩])
 (.seq (.draw [⟨some 5, none, .mv (.tmp 0)⟩,
  ⟨some 6, none, .call false 62 [(.tmp 5)]⟩,
  ⟨some 7, none, .un .not (.tmp 6)⟩,
  ⟨some 8, none, .mv (.tmp 7)⟩,
  ⟨some 9, some (8, true), .mv (.tmp 0)⟩,
  ⟨some 10, some (8, true), .nilchk (.tmp 9)⟩,
  ⟨some 11, some (8, true), .faddr 1 (.tmp 10)⟩,
  ⟨some 12, some (8, true), .load false 1 (.tmp 11)⟩,
  ⟨some 13, some (8, true), .load true 2 (.tmp 3)⟩,
  ⟨some 14, some (8, true), .mget (.ints 2) false (.d (.bool false)) (.tmp 12) (.tmp 13)⟩,
  ⟨some 15, none, .pick (.tmp 8) (.tmp 14) (.lit (.d (.bool false)))⟩,
  ⟨some 4, none, .mv (.tmp 15)⟩] [[], [0], [1], [2, 1], [3], [4, 3], [5, 3], [6, 3], [3], [7, 8, 3], [3, 9], [10, 3, 0, 1, 2, 3, 4, 5, 6, 7, 8, 9, 10]] [(0, []), (1, []), (2, []), (3, []), (4, []), (5, []), (6, []), (7, []), (8, []), (9, []), (10, []), (11, [])] [0, 1, 3, 7, 15, 31, 63, 127, 15, 511, 1023, 2047])
 .ret))⟩
theorem zfo : isF Tryz.prog zaY zbH := ⟨Tryz.f119, _, Tryz.func119, by decide +kernel, rfl, by kernel_rfl, by kernel_rfl, by decide, by kernel_rfl, rfl, by kernel_rfl⟩
/-- bulla/codec.PutNum -/
def zeD : AF := ⟨2, 17, [(.tmp 4)],
 (.seq (.ops [⟨some 4, none, .mv (.lit (.exact []))⟩])
 (.seq (.ops [⟨some 8, none, .mv (.tmp 1)⟩,
  ⟨some 9, none, .call false 136 [(.tmp 8)]⟩,
  ⟨some 7, none, .mv (.tmp 9)⟩,
  ⟨some 10, none, .extract (.tmp 7) 0⟩,
  ⟨some 11, none, .extract (.tmp 7) 1⟩,
  ⟨some 5, none, .alloc [(.d (.int .u8 0)), (.d (.int .u8 0)), (.d (.int .u8 0)), (.d (.int .u8 0)), (.d (.int .u8 0)), (.d (.int .u8 0)), (.d (.int .u8 0)), (.d (.int .u8 0)), (.d (.int .u8 0)), (.d (.int .u8 0))]⟩,
  ⟨none, none, .store 10 (.tmp 5) (.tmp 10)⟩,
  ⟨some 6, none, .mv (.tmp 11)⟩])
 (.seq (.draw [⟨some 12, none, .mv (.tmp 0)⟩,
  ⟨some 13, none, .call false 137 [(.tmp 12)]⟩,
  ⟨some 14, none, .mv (.tmp 6)⟩,
  ⟨some 15, none, .slc (.arr 10 1) (.tmp 5) none (some (.tmp 14)) none⟩,
  ⟨some 16, none, .append false 1 1 [(.d (.int .u8 0))] (.tmp 13) (.tmp 15)⟩,
  ⟨some 4, none, .mv (.tmp 16)⟩] [[], [0], [], [2], [1, 3, 1], [4, 4, 0, 1, 2, 3, 4]] [(0, []), (2, []), (3, []), (1, []), (4, []), (5, [])] [0, 1, 0, 4, 15, 31])
 .ret)))⟩
theorem zkV : isF Tryz.prog zao zeD := ⟨Tryz.f120, _, Tryz.func120, by decide +kernel, rfl, by kernel_rfl, by kernel_rfl, by decide, by kernel_rfl, rfl, by kernel_rfl⟩
/-- bulla/request.PutSign -/
def zcT : AF := ⟨2, 19, [(.tmp 4)],
 (.seq (.ops [⟨some 3, none, .boxi (.tmp 1)⟩,
  ⟨some 4, none, .mv (.lit (.exact []))⟩])
 (.seq (.seq (.ops [⟨some 5, none, .load true 2 (.tmp 3)⟩,
  ⟨some 6, none, .call false 115 [(.tmp 5)]⟩,
  ⟨some 7, none, .bin .neq .plain (.tmp 6) (.lit (.d (.int .i64 0)))⟩])
 (.cond (.tmp 7) (.seq (.ops [⟨some 8, none, .mv (.tmp 0)⟩,
  ⟨some 9, none, .call false 80 [(.tmp 8)]⟩,
  ⟨some 4, none, .mv (.tmp 9)⟩])
 .ret) .skip))
 (.seq (.draw [⟨some 10, none, .mv (.tmp 0)⟩,
  ⟨some 11, none, .faddr 0 (.tmp 3)⟩,
  ⟨some 12, none, .load false 1 (.tmp 11)⟩,
  ⟨some 13, none, .conv (.int .u64) (.tmp 12)⟩,
  ⟨some 14, none, .call false 120 [(.tmp 10), (.tmp 13)]⟩,
  ⟨some 15, none, .faddr 1 (.tmp 3)⟩,
  ⟨some 16, none, .load false 1 (.tmp 15)⟩,
  ⟨some 17, none, .conv (.int .u64) (.tmp 16)⟩,
  ⟨some 18, none, .call false 120 [(.tmp 14), (.tmp 17)]⟩,
  ⟨some 4, none, .mv (.tmp 18)⟩] [[], [], [1], [2], [0, 3], [], [5], [6], [4, 7, 4], [8, 8, 0, 1, 2, 3, 4, 5, 6, 7, 8]] [(0, []), (1, []), (2, []), (3, []), (5, []), (6, []), (7, []), (4, [15]), (8, []), (9, [])] [0, 0, 2, 6, 15, 0, 32, 96, 255, 511])
 .ret)))⟩
theorem zhK : isF Tryz.prog zcP zcT := ⟨Tryz.f121, _, Tryz.func121, by decide +kernel, rfl, by kernel_rfl, by kernel_rfl, by decide, by kernel_rfl, rfl, by kernel_rfl⟩
/-- bulla/codec.PutBytes -/
def zdv : AF := ⟨2, 12, [(.tmp 4)],
 (.seq (.ops [⟨some 4, none, .mv (.lit (.exact []))⟩])
 (.seq (.ops [⟨some 5, none, .mv (.tmp 0)⟩,
  ⟨some 6, none, .mv (.tmp 1)⟩,
  ⟨some 7, none, .len .sl (.tmp 6)⟩,
  ⟨some 8, none, .conv (.int .u64) (.tmp 7)⟩,
  ⟨some 9, none, .call false 120 [(.tmp 5), (.tmp 8)]⟩,
  ⟨some 10, none, .mv (.tmp 1)⟩,
  ⟨some 11, none, .append false 1 1 [(.d (.int .u8 0))] (.tmp 9) (.tmp 10)⟩,
  ⟨some 4, none, .mv (.tmp 11)⟩])
 .ret))⟩
theorem ziF : isF Tryz.prog zaW zdv := ⟨Tryz.f122, _, Tryz.func122, by decide +kernel, rfl, by kernel_rfl, by kernel_rfl, by decide, by kernel_rfl, rfl, by kernel_rfl⟩
/-- bulla/auth.put -/
def zke : AF := ⟨2, 20, [(.tmp 4)],
 (.seq (.ops [⟨some 4, none, .mv (.lit (.exact []))⟩])
 (.seq (.seq (.ops [⟨some 7, none, .mv (.tmp 1)⟩,
  ⟨some 8, none, .len .sl (.tmp 7)⟩,
  ⟨some 9, none, .mv (.lit (.d (.int .i64 0)))⟩])
 (.block 0 (.loop [0, 9] [6, 10, 11, 12, 13, 14, 15, 16, 17, 18] (.seq (.ops [⟨some 10, none, .bin .lss .plain (.tmp 9) (.tmp 8)⟩])
 (.seq (.cond (.tmp 10) .skip (.exit 0))
 (.seq (.block 1 (.seq (.ops [⟨some 11, none, .iaddr none 1 (.tmp 7) (.tmp 9)⟩,
  ⟨some 12, none, .load false 1 (.tmp 11)⟩,
  ⟨some 6, none, .mv (.tmp 12)⟩])
 (.ops [⟨some 13, none, .mv (.tmp 0)⟩,
  ⟨some 14, none, .mv (.tmp 6)⟩,
  ⟨some 15, none, .maxi [(.lit (.d (.int .i64 0))), (.tmp 14)]⟩,
  ⟨some 16, none, .conv (.int .u64) (.tmp 15)⟩,
  ⟨some 17, none, .call false 120 [(.tmp 13), (.tmp 16)]⟩,
  ⟨some 0, none, .mv (.tmp 17)⟩])))
 (.ops [⟨some 18, none, .bin .add .plain (.tmp 9) (.lit (.d (.int .i64 1)))⟩,
  ⟨some 9, none, .mv (.tmp 18)⟩])))))))
 (.seq (.ops [⟨some 19, none, .mv (.tmp 0)⟩,
  ⟨some 4, none, .mv (.tmp 19)⟩])
 .ret)))⟩
theorem isA_auth_put : isF Tryz.prog zjq zke := ⟨Tryz.f123, _, Tryz.func123, by decide +kernel, rfl, by kernel_rfl, by kernel_rfl, by decide, by kernel_rfl, rfl, by kernel_rfl⟩
/-- bulla/op.Clone -/
def zkb : AF := ⟨1, 22, [(.cell 2 true 5)],
 (.seq (.ops [⟨some 1, none, .boxi (.tmp 0)⟩,
  ⟨some 2, none, .alloc [(.d (.int .i64 0)), (.d (.str [])), (.d (.str [])), (.d (.int .i64 0)), (.exact [])]⟩])
 (.seq (.ops [⟨some 3, none, .mv (.lit (.exact []))⟩])
 (.seq (.seq (.ops [⟨some 6, none, .faddr 4 (.tmp 1)⟩,
  ⟨some 7, none, .load false 1 (.tmp 6)⟩,
  ⟨some 8, none, .len .sl (.tmp 7)⟩,
  ⟨some 9, none, .mv (.lit (.d (.int .i64 0)))⟩])
 (.block 0 (.loop [3, 9] [5, 10, 11, 12, 13, 14, 15, 16, 17, 18] (.seq (.ops [⟨some 10, none, .bin .lss .plain (.tmp 9) (.tmp 8)⟩])
 (.seq (.cond (.tmp 10) .skip (.exit 0))
 (.seq (.block 1 (.seq (.ops [⟨some 11, none, .iaddr none 1 (.tmp 7) (.tmp 9)⟩,
  ⟨some 12, none, .load false 1 (.tmp 11)⟩,
  ⟨some 5, none, .mv (.tmp 12)⟩])
 (.ops [⟨some 13, none, .mv (.tmp 3)⟩,
  ⟨some 14, none, .mv (.tmp 5)⟩,
  ⟨some 15, none, .call false 80 [(.tmp 14)]⟩,
  ⟨some 16, none, .mkslice false 1 1 [(.exact [])] [(0, 1, (.tmp 15))]⟩,
  ⟨some 17, none, .append false 1 24 [(.exact [])] (.tmp 13) (.tmp 16)⟩,
  ⟨some 3, none, .mv (.tmp 17)⟩])))
 (.ops [⟨some 18, none, .bin .add .plain (.tmp 9) (.lit (.d (.int .i64 1)))⟩,
  ⟨some 9, none, .mv (.tmp 18)⟩])))))))
 (.seq (.ops [⟨some 19, none, .mv (.tmp 3)⟩,
  ⟨some 20, none, .faddr 4 (.tmp 1)⟩,
  ⟨none, none, .store 1 (.tmp 20) (.tmp 19)⟩])
 (.seq (.ops [⟨some 21, none, .load true 5 (.tmp 1)⟩,
  ⟨none, none, .store 5 (.tmp 2) (.tmp 21)⟩])
 .ret)))))⟩
theorem isA_op_Clone : isF Tryz.prog zjo zkb := ⟨Tryz.f124, _, Tryz.func124, by decide +kernel, rfl, by kernel_rfl, by kernel_rfl, by decide, by kernel_rfl, rfl, by kernel_rfl⟩
/-- slices.EqualFunc[[]bulla/api.Record,[]bulla/api.Record,bulla/api.Record,bulla/api.Record] -/
def zY : AF := ⟨3, 32, [(.tmp 6)],
 (.seq (.ops [⟨some 6, none, .mv (.lit (.d (.bool false)))⟩])
 (.seq (.seq (.ops [⟨some 10, none, .mv (.tmp 0)⟩,
  ⟨some 11, none, .len .sl (.tmp 10)⟩,
  ⟨some 12, none, .mv (.tmp 1)⟩,
  ⟨some 13, none, .len .sl (.tmp 12)⟩,
  ⟨some 14, none, .bin .neq .plain (.tmp 11) (.tmp 13)⟩])
 (.cond (.tmp 14) (.seq (.ops [⟨some 6, none, .mv (.lit (.d (.bool false)))⟩])
 .ret) .skip))
 (.seq (.seq (.ops [⟨some 15, none, .mv (.tmp 0)⟩,
  ⟨some 16, none, .len .sl (.tmp 15)⟩,
  ⟨some 17, none, .mv (.lit (.d (.int .i64 0)))⟩])
 (.block 0 (.loop [17] [6, 7, 8, 9, 18, 19, 20, 21, 22, 23, 24, 25, 26, 27, 28, 29, 30, 31] (.seq (.ops [⟨some 18, none, .bin .lss .plain (.tmp 17) (.tmp 16)⟩])
 (.seq (.cond (.tmp 18) .skip (.exit 0))
 (.seq (.block 1 (.seq (.ops [⟨some 19, none, .mv (.tmp 17)⟩,
  ⟨some 20, none, .iaddr none 1 (.tmp 15) (.tmp 17)⟩,
  ⟨some 21, none, .load false 1 (.tmp 20)⟩,
  ⟨some 7, none, .mv (.tmp 19)⟩,
  ⟨some 8, none, .mv (.tmp 21)⟩])
 (.seq (.ops [⟨some 22, none, .mv (.tmp 1)⟩,
  ⟨some 23, none, .mv (.tmp 7)⟩,
  ⟨some 24, none, .iaddr none 1 (.tmp 22) (.tmp 23)⟩,
  ⟨some 25, none, .load false 1 (.tmp 24)⟩,
  ⟨some 9, none, .mv (.tmp 25)⟩])
 (.seq (.ops [⟨some 26, none, .mv (.tmp 2)⟩,
  ⟨some 27, none, .mv (.tmp 8)⟩,
  ⟨some 28, none, .mv (.tmp 9)⟩,
  ⟨some 29, none, .callv (.tmp 26) [(.tmp 27), (.tmp 28)]⟩,
  ⟨some 30, none, .un .not (.tmp 29)⟩])
 (.cond (.tmp 30) (.seq (.ops [⟨some 6, none, .mv (.lit (.d (.bool false)))⟩])
 .ret) .skip)))))
 (.ops [⟨some 31, none, .bin .add .plain (.tmp 17) (.lit (.d (.int .i64 1)))⟩,
  ⟨some 17, none, .mv (.tmp 31)⟩])))))))
 (.seq (.ops [⟨some 6, none, .mv (.lit (.d (.bool true)))⟩])
 .ret))))⟩
theorem zav : isF Tryz.prog zX zY := ⟨Tryz.f128, _, Tryz.func128, by decide +kernel, rfl, by kernel_rfl, by kernel_rfl, by decide, by kernel_rfl, rfl, by kernel_rfl⟩
/-- bulla/op.Same$1 -/
def zie : AF := ⟨2, 8, [(.tmp 4)],
 (.seq (.ops [⟨some 4, none, .mv (.lit (.d (.bool false)))⟩])
 (.seq (.ops [⟨some 5, none, .mv (.tmp 0)⟩,
  ⟨some 6, none, .mv (.tmp 1)⟩,
  ⟨some 7, none, .call false 130 [(.tmp 5), (.tmp 6)]⟩,
  ⟨some 4, none, .mv (.tmp 7)⟩])
 .ret))⟩
theorem zoh : isF Tryz.prog zfl zie := ⟨Tryz.f129, _, Tryz.func129, by decide +kernel, rfl, by kernel_rfl, by kernel_rfl, by decide, by kernel_rfl, rfl, by kernel_rfl⟩
/-- bytes.Equal -/
def zfA : AF := ⟨2, 10, [(.tmp 4)],
 (.seq (.ops [⟨some 4, none, .mv (.lit (.d (.bool false)))⟩])
 (.seq (.ops [⟨some 5, none, .mv (.tmp 0)⟩,
  ⟨some 6, none, .conv .toStr (.tmp 5)⟩,
  ⟨some 7, none, .mv (.tmp 1)⟩,
  ⟨some 8, none, .conv .toStr (.tmp 7)⟩,
  ⟨some 9, none, .bin .eql .plain (.tmp 6) (.tmp 8)⟩,
  ⟨some 4, none, .mv (.tmp 9)⟩])
 .ret))⟩
theorem zlH : isF Tryz.prog zfm zfA := ⟨Tryz.f130, _, Tryz.func130, by decide +kernel, rfl, by kernel_rfl, by kernel_rfl, by decide, by kernel_rfl, rfl, by kernel_rfl⟩
/-- bulla/bullaref06.Check -/
def zid : AF := ⟨1, 112, [(.tmp 2)],
 (.seq (.ops [⟨some 1, none, .boxi (.tmp 0)⟩,
  ⟨some 2, none, .mv (.lit (.d (.int .i64 0)))⟩])
 (.seq (.ops [⟨some 9, none, .faddr 0 (.tmp 1)⟩,
  ⟨some 10, none, .load false 1 (.tmp 9)⟩,
  ⟨some 11, none, .call false 133 [(.tmp 10)]⟩,
  ⟨some 8, none, .mv (.tmp 11)⟩,
  ⟨some 12, none, .extract (.tmp 8) 0⟩,
  ⟨some 13, none, .extract (.tmp 8) 1⟩,
  ⟨some 14, none, .extract (.tmp 8) 2⟩,
  ⟨some 15, none, .extract (.tmp 8) 3⟩,
  ⟨some 3, none, .mv (.tmp 12)⟩,
  ⟨some 4, none, .mv (.tmp 13)⟩,
  ⟨some 5, none, .mv (.tmp 14)⟩,
  ⟨some 6, none, .mv (.tmp 15)⟩])
 (.seq (.seq (.ops [⟨some 16, none, .faddr 0 (.tmp 1)⟩,
  ⟨some 17, none, .load false 1 (.tmp 16)⟩,
  ⟨some 18, none, .bin .lss .plain (.tmp 17) (.lit (.d (.int .i64 0)))⟩,
  ⟨some 19, none, .mv (.tmp 18)⟩,
  ⟨some 20, some (19, false), .faddr 0 (.tmp 1)⟩,
  ⟨some 21, some (19, false), .load false 1 (.tmp 20)⟩,
  ⟨some 22, some (19, false), .bin .gtr .plain (.tmp 21) (.lit (.d (.int .i64 4)))⟩,
  ⟨some 23, none, .pick (.tmp 19) (.lit (.d (.bool true))) (.tmp 22)⟩,
  ⟨some 24, none, .mv (.tmp 23)⟩,
  ⟨some 25, some (24, false), .mv (.tmp 3)⟩,
  ⟨some 26, some (24, false), .un .not (.tmp 25)⟩,
  ⟨some 27, some (24, false), .mv (.tmp 26)⟩,
  ⟨some 28, some (27, true), .faddr 1 (.tmp 1)⟩,
  ⟨some 29, some (27, true), .load false 1 (.tmp 28)⟩,
  ⟨some 30, some (27, true), .bin .neq .plain (.tmp 29) (.lit (.d (.str [])))⟩,
  ⟨some 31, some (24, false), .pick (.tmp 27) (.tmp 30) (.lit (.d (.bool false)))⟩,
  ⟨some 32, none, .pick (.tmp 24) (.lit (.d (.bool true))) (.tmp 31)⟩,
  ⟨some 33, none, .mv (.tmp 32)⟩,
  ⟨some 34, some (33, false), .mv (.tmp 4)⟩,
  ⟨some 35, some (33, false), .un .not (.tmp 34)⟩,
  ⟨some 36, some (33, false), .mv (.tmp 35)⟩,
  ⟨some 37, some (36, true), .faddr 2 (.tmp 1)⟩,
  ⟨some 38, some (36, true), .load false 1 (.tmp 37)⟩,
  ⟨some 39, some (36, true), .bin .neq .plain (.tmp 38) (.lit (.d (.str [])))⟩,
  ⟨some 40, some (33, false), .pick (.tmp 36) (.tmp 39) (.lit (.d (.bool false)))⟩,
  ⟨some 41, none, .pick (.tmp 33) (.lit (.d (.bool true))) (.tmp 40)⟩,
  ⟨some 42, none, .mv (.tmp 41)⟩,
  ⟨some 43, some (42, false), .mv (.tmp 5)⟩,
  ⟨some 44, some (42, false), .un .not (.tmp 43)⟩,
  ⟨some 45, some (42, false), .mv (.tmp 44)⟩,
  ⟨some 46, some (45, true), .faddr 3 (.tmp 1)⟩,
  ⟨some 47, some (45, true), .load false 1 (.tmp 46)⟩,
  ⟨some 48, some (45, true), .bin .neq .plain (.tmp 47) (.lit (.d (.int .i64 0)))⟩,
  ⟨some 49, some (42, false), .pick (.tmp 45) (.tmp 48) (.lit (.d (.bool false)))⟩,
  ⟨some 50, none, .pick (.tmp 42) (.lit (.d (.bool true))) (.tmp 49)⟩,
  ⟨some 51, none, .mv (.tmp 50)⟩,
  ⟨some 52, some (51, false), .mv (.tmp 6)⟩,
  ⟨some 53, some (51, false), .un .not (.tmp 52)⟩,
  ⟨some 54, some (51, false), .mv (.tmp 53)⟩,
  ⟨some 55, some (54, true), .faddr 4 (.tmp 1)⟩,
  ⟨some 56, some (54, true), .load false 1 (.tmp 55)⟩,
  ⟨some 57, some (54, true), .len .sl (.tmp 56)⟩,
  ⟨some 58, some (54, true), .bin .gtr .plain (.tmp 57) (.lit (.d (.int .i64 0)))⟩,
  ⟨some 59, some (51, false), .pick (.tmp 54) (.tmp 58) (.lit (.d (.bool false)))⟩,
  ⟨some 60, none, .pick (.tmp 51) (.lit (.d (.bool true))) (.tmp 59)⟩])
 (.cond (.tmp 60) (.seq (.ops [⟨some 2, none, .mv (.lit (.d (.int .i64 60)))⟩])
 .ret) .skip))
 (.seq (.seq (.ops [⟨some 61, none, .mv (.tmp 3)⟩,
  ⟨some 62, none, .mv (.tmp 61)⟩,
  ⟨some 63, some (62, true), .faddr 1 (.tmp 1)⟩,
  ⟨some 64, some (62, true), .load false 1 (.tmp 63)⟩,
  ⟨some 65, some (62, true), .call false 141 [(.tmp 64)]⟩,
  ⟨some 66, some (62, true), .un .not (.tmp 65)⟩,
  ⟨some 67, none, .pick (.tmp 62) (.tmp 66) (.lit (.d (.bool false)))⟩,
  ⟨some 68, none, .mv (.tmp 67)⟩,
  ⟨some 69, some (68, false), .mv (.tmp 4)⟩,
  ⟨some 70, some (68, false), .mv (.tmp 69)⟩,
  ⟨some 71, some (70, true), .faddr 2 (.tmp 1)⟩,
  ⟨some 72, some (70, true), .load false 1 (.tmp 71)⟩,
  ⟨some 73, some (70, true), .call false 141 [(.tmp 72)]⟩,
  ⟨some 74, some (70, true), .un .not (.tmp 73)⟩,
  ⟨some 75, some (68, false), .pick (.tmp 70) (.tmp 74) (.lit (.d (.bool false)))⟩,
  ⟨some 76, none, .pick (.tmp 68) (.lit (.d (.bool true))) (.tmp 75)⟩])
 (.cond (.tmp 76) (.seq (.ops [⟨some 2, none, .mv (.lit (.d (.int .i64 61)))⟩])
 .ret) .skip))
 (.seq (.seq (.ops [⟨some 77, none, .mv (.tmp 6)⟩,
  ⟨some 78, none, .mv (.tmp 77)⟩,
  ⟨some 79, some (78, true), .faddr 4 (.tmp 1)⟩,
  ⟨some 80, some (78, true), .load false 1 (.tmp 79)⟩,
  ⟨some 81, some (78, true), .len .sl (.tmp 80)⟩,
  ⟨some 82, some (78, true), .bin .lss .plain (.tmp 81) (.lit (.d (.int .i64 1)))⟩,
  ⟨some 83, some (78, true), .mv (.tmp 82)⟩,
  ⟨some 84, some (83, false), .faddr 4 (.tmp 1)⟩,
  ⟨some 85, some (83, false), .load false 1 (.tmp 84)⟩,
  ⟨some 86, some (83, false), .len .sl (.tmp 85)⟩,
  ⟨some 87, some (83, false), .bin .gtr .plain (.tmp 86) (.lit (.d (.int .i64 4)))⟩,
  ⟨some 88, some (78, true), .pick (.tmp 83) (.lit (.d (.bool true))) (.tmp 87)⟩,
  ⟨some 89, none, .pick (.tmp 78) (.tmp 88) (.lit (.d (.bool false)))⟩])
 (.cond (.tmp 89) (.seq (.ops [⟨some 2, none, .mv (.lit (.d (.int .i64 62)))⟩])
 .ret) .skip))
 (.seq (.seq (.ops [⟨some 7, none, .mv (.lit (.d (.int .i64 0)))⟩])
 (.block 0 (.loop [7] [2, 90, 91, 92, 93, 94, 95, 96, 97, 98, 99, 100, 101, 102, 103] (.seq (.seq (.ops [⟨some 90, none, .mv (.tmp 7)⟩,
  ⟨some 91, none, .faddr 4 (.tmp 1)⟩,
  ⟨some 92, none, .load false 1 (.tmp 91)⟩,
  ⟨some 93, none, .len .sl (.tmp 92)⟩,
  ⟨some 94, none, .bin .lss .plain (.tmp 90) (.tmp 93)⟩])
 (.cond (.tmp 94) .skip (.exit 0)))
 (.seq (.block 1 (.seq (.ops [⟨some 97, none, .faddr 4 (.tmp 1)⟩,
  ⟨some 98, none, .load false 1 (.tmp 97)⟩,
  ⟨some 99, none, .mv (.tmp 7)⟩,
  ⟨some 100, none, .iaddr none 1 (.tmp 98) (.tmp 99)⟩,
  ⟨some 101, none, .load false 1 (.tmp 100)⟩,
  ⟨some 102, none, .len .sl (.tmp 101)⟩,
  ⟨some 103, none, .bin .gtr .plain (.tmp 102) (.lit (.d (.int .i64 64)))⟩])
 (.cond (.tmp 103) (.seq (.ops [⟨some 2, none, .mv (.lit (.d (.int .i64 62)))⟩])
 .ret) .skip)))
 (.ops [⟨some 95, none, .mv (.tmp 7)⟩,
  ⟨some 96, none, .bin .add .plain (.tmp 95) (.lit (.d (.int .i64 1)))⟩,
  ⟨some 7, none, .mv (.tmp 96)⟩]))))))
 (.seq (.seq (.ops [⟨some 104, none, .faddr 3 (.tmp 1)⟩,
  ⟨some 105, none, .load false 1 (.tmp 104)⟩,
  ⟨some 106, none, .bin .lss .plain (.tmp 105) (.lit (.d (.int .i64 0)))⟩,
  ⟨some 107, none, .mv (.tmp 106)⟩,
  ⟨some 108, some (107, false), .faddr 3 (.tmp 1)⟩,
  ⟨some 109, some (107, false), .load false 1 (.tmp 108)⟩,
  ⟨some 110, some (107, false), .bin .gtr .plain (.tmp 109) (.lit (.d (.int .i64 9007199254740992)))⟩,
  ⟨some 111, none, .pick (.tmp 107) (.lit (.d (.bool true))) (.tmp 110)⟩])
 (.cond (.tmp 111) (.seq (.ops [⟨some 2, none, .mv (.lit (.d (.int .i64 60)))⟩])
 .ret) .skip))
 (.seq (.ops [⟨some 2, none, .mv (.lit (.d (.int .i64 0)))⟩])
 .ret))))))))⟩
theorem zog : isF Tryz.prog zfj zid := ⟨Tryz.f132, _, Tryz.func132, by decide +kernel, rfl, by kernel_rfl, by kernel_rfl, by decide, by kernel_rfl, rfl, by kernel_rfl⟩
/-- bulla/bullaref06.fields -/
def zgH : AF := ⟨1, 15, [(.tmp 2), (.tmp 3), (.tmp 4), (.tmp 5)],
 (.seq (.ops [⟨some 2, none, .mv (.lit (.d (.bool false)))⟩,
  ⟨some 3, none, .mv (.lit (.d (.bool false)))⟩,
  ⟨some 4, none, .mv (.lit (.d (.bool false)))⟩,
  ⟨some 5, none, .mv (.lit (.d (.bool false)))⟩])
 (.seq (.ops [⟨some 6, none, .mv (.tmp 0)⟩])
 (.block 0 (.seq (.ops [⟨some 8, none, .bin .eql .plain (.tmp 6) (.lit (.d (.int .i64 1)))⟩,
  ⟨some 7, none, .mv (.tmp 8)⟩])
 (.cond (.tmp 7) (.seq (.ops [⟨some 2, none, .mv (.lit (.d (.bool true)))⟩,
  ⟨some 3, none, .mv (.lit (.d (.bool false)))⟩,
  ⟨some 4, none, .mv (.lit (.d (.bool false)))⟩,
  ⟨some 5, none, .mv (.lit (.d (.bool false)))⟩])
 .ret) (.seq (.ops [⟨some 10, none, .bin .eql .plain (.tmp 6) (.lit (.d (.int .i64 2)))⟩,
  ⟨some 9, none, .mv (.tmp 10)⟩])
 (.cond (.tmp 9) (.seq (.ops [⟨some 2, none, .mv (.lit (.d (.bool true)))⟩,
  ⟨some 3, none, .mv (.lit (.d (.bool false)))⟩,
  ⟨some 4, none, .mv (.lit (.d (.bool false)))⟩,
  ⟨some 5, none, .mv (.lit (.d (.bool true)))⟩])
 .ret) (.seq (.ops [⟨some 12, none, .bin .eql .plain (.tmp 6) (.lit (.d (.int .i64 3)))⟩,
  ⟨some 11, none, .mv (.tmp 12)⟩])
 (.cond (.tmp 11) (.seq (.ops [⟨some 2, none, .mv (.lit (.d (.bool true)))⟩,
  ⟨some 3, none, .mv (.lit (.d (.bool true)))⟩,
  ⟨some 4, none, .mv (.lit (.d (.bool true)))⟩,
  ⟨some 5, none, .mv (.lit (.d (.bool false)))⟩])
 .ret) (.seq (.ops [⟨some 14, none, .bin .eql .plain (.tmp 6) (.lit (.d (.int .i64 4)))⟩,
  ⟨some 13, none, .mv (.tmp 14)⟩])
 (.cond (.tmp 13) (.seq (.ops [⟨some 2, none, .mv (.lit (.d (.bool true)))⟩,
  ⟨some 3, none, .mv (.lit (.d (.bool false)))⟩,
  ⟨some 4, none, .mv (.lit (.d (.bool true)))⟩,
  ⟨some 5, none, .mv (.lit (.d (.bool false)))⟩])
 .ret) (.seq (.ops [⟨some 2, none, .mv (.lit (.d (.bool false)))⟩,
  ⟨some 3, none, .mv (.lit (.d (.bool false)))⟩,
  ⟨some 4, none, .mv (.lit (.d (.bool false)))⟩,
  ⟨some 5, none, .mv (.lit (.d (.bool false)))⟩])
 .ret))))))))))))⟩
theorem zmD : isF Tryz.prog zel zgH := ⟨Tryz.f133, _, Tryz.func133, by decide +kernel, rfl, by kernel_rfl, by kernel_rfl, by decide, by kernel_rfl, rfl, by kernel_rfl⟩
end Go.Proofs.YtcappjcojggehaaGreat

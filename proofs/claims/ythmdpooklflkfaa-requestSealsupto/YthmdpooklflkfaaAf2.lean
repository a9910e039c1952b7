/- Resolved forms, each with the theorem that it is its function's. Printed by program. -/
import Derived.Test.YthmdpooklflkfaaNm
import Derived.KernelRfl
set_option linter.all false
set_option maxRecDepth 100000
set_option linter.unusedVariables false
namespace Go.Proofs.Ythmdpooklflkfaa
open Go.AW
/-- bulla/bullaref08.Same -/
def zhX : AF := ⟨2, 42, [(.tmp 4)],
 (.seq (.ops [⟨some 4, none, .mv (.lit (.d (.bool false)))⟩])
 (.seq (.seq (.ops [⟨some 6, none, .mv (.tmp 0)⟩,
  ⟨some 7, none, .len .sl (.tmp 6)⟩,
  ⟨some 8, none, .mv (.tmp 1)⟩,
  ⟨some 9, none, .len .sl (.tmp 8)⟩,
  ⟨some 10, none, .bin .neq .plain (.tmp 7) (.tmp 9)⟩])
 (.cond (.tmp 10) (.seq (.ops [⟨some 4, none, .mv (.lit (.d (.bool false)))⟩])
 .ret) .skip))
 (.seq (.seq (.ops [⟨some 5, none, .mv (.lit (.d (.int .i64 0)))⟩])
 (.block 0 (.loop [5] [4, 11, 12, 13, 14, 15, 16, 17, 18, 19, 20, 21, 22, 23, 24, 25, 26, 27, 28, 29, 30, 31, 32, 33, 34, 35, 36, 37, 38, 39, 40, 41] (.seq (.seq (.ops [⟨some 11, none, .mv (.tmp 5)⟩,
  ⟨some 12, none, .mv (.tmp 0)⟩,
  ⟨some 13, none, .len .sl (.tmp 12)⟩,
  ⟨some 14, none, .bin .lss .plain (.tmp 11) (.tmp 13)⟩])
 (.cond (.tmp 14) .skip (.exit 0)))
 (.seq (.block 1 (.seq (.draw [⟨some 17, none, .mv (.tmp 0)⟩,
  ⟨some 18, none, .mv (.tmp 5)⟩,
  ⟨some 19, none, .iaddr none 9 (.tmp 17) (.tmp 18)⟩,
  ⟨some 20, none, .faddr 7 (.tmp 19)⟩,
  ⟨some 21, none, .load true 2 (.tmp 20)⟩,
  ⟨some 22, none, .mv (.tmp 1)⟩,
  ⟨some 23, none, .mv (.tmp 5)⟩,
  ⟨some 24, none, .iaddr none 9 (.tmp 22) (.tmp 23)⟩,
  ⟨some 25, none, .faddr 7 (.tmp 24)⟩,
  ⟨some 26, none, .load true 2 (.tmp 25)⟩,
  ⟨some 27, none, .bin .neq (.ints 2) (.tmp 21) (.tmp 26)⟩,
  ⟨some 28, none, .mv (.tmp 27)⟩,
  ⟨some 29, some (28, false), .mv (.tmp 0)⟩,
  ⟨some 30, some (28, false), .mv (.tmp 5)⟩,
  ⟨some 31, some (28, false), .iaddr none 9 (.tmp 29) (.tmp 30)⟩,
  ⟨some 32, some (28, false), .faddr 0 (.tmp 31)⟩,
  ⟨some 33, some (28, false), .load true 7 (.tmp 32)⟩,
  ⟨some 34, some (28, false), .mv (.tmp 1)⟩,
  ⟨some 35, some (28, false), .mv (.tmp 5)⟩,
  ⟨some 36, some (28, false), .iaddr none 9 (.tmp 34) (.tmp 35)⟩,
  ⟨some 37, some (28, false), .faddr 0 (.tmp 36)⟩,
  ⟨some 38, some (28, false), .load true 7 (.tmp 37)⟩,
  ⟨some 39, some (28, false), .call false 41 [(.tmp 33), (.tmp 38)]⟩,
  ⟨some 40, some (28, false), .un .not (.tmp 39)⟩,
  ⟨some 41, none, .pick (.tmp 28) (.lit (.d (.bool true))) (.tmp 40)⟩] [[], [], [0, 1], [2], [3], [], [], [5, 6], [7], [8], [4, 9], [10], [11], [11], [12, 13, 11], [14, 11], [15, 11], [11], [11], [17, 18, 11], [19, 11], [20, 11], [16, 21, 11, 11], [22, 11], [11, 23]] [(0, []), (1, []), (2, []), (3, []), (4, []), (5, []), (6, []), (7, []), (8, []), (9, []), (10, []), (11, []), (12, []), (13, []), (14, []), (15, []), (16, []), (17, []), (18, []), (19, []), (20, []), (21, []), (22, []), (23, []), (24, [])] [0, 0, 3, 7, 15, 0, 0, 96, 224, 480, 1023, 2047, 4095, 4095, 16383, 32767, 65535, 4095, 4095, 397311, 921599, 1970175, 4194303, 8388607, 16777215])
 (.cond (.tmp 41) (.seq (.ops [⟨some 4, none, .mv (.lit (.d (.bool false)))⟩])
 .ret) .skip)))
 (.ops [⟨some 15, none, .mv (.tmp 5)⟩,
  ⟨some 16, none, .bin .add .plain (.tmp 15) (.lit (.d (.int .i64 1)))⟩,
  ⟨some 5, none, .mv (.tmp 16)⟩]))))))
 (.seq (.ops [⟨some 4, none, .mv (.lit (.d (.bool true)))⟩])
 .ret))))⟩
theorem isA_r08_Same : isF Try.prog zhv zhX := ⟨Try.f19, _, Try.func19, by decide +kernel, rfl, by kernel_rfl, by kernel_rfl, by decide, by kernel_rfl, rfl, by kernel_rfl⟩
/-- bulla/request.Bytes -/
def zdl : AF := ⟨1, 21, [(.tmp 2), (.tmp 3)],
 (.seq (.ops [⟨some 1, none, .boxi (.tmp 0)⟩,
  ⟨some 2, none, .mv (.lit (.exact []))⟩,
  ⟨some 3, none, .mv (.lit (.d (.int .i64 0)))⟩])
 (.seq (.seq (.ops [⟨some 5, none, .load true 7 (.tmp 1)⟩,
  ⟨some 6, none, .call false 10 [(.tmp 5)]⟩,
  ⟨some 4, none, .mv (.tmp 6)⟩])
 (.seq (.ops [⟨some 7, none, .mv (.tmp 4)⟩,
  ⟨some 8, none, .bin .neq .plain (.tmp 7) (.lit (.d (.int .i64 0)))⟩])
 (.cond (.tmp 8) (.seq (.ops [⟨some 9, none, .mv (.tmp 4)⟩,
  ⟨some 2, none, .mv (.lit (.exact []))⟩,
  ⟨some 3, none, .mv (.tmp 9)⟩])
 .ret) .skip)))
 (.seq (.draw [⟨some 10, none, .faddr 0 (.tmp 1)⟩,
  ⟨some 11, none, .load false 1 (.tmp 10)⟩,
  ⟨some 12, none, .conv (.int .u64) (.tmp 11)⟩,
  ⟨some 13, none, .call false 59 [(.lit (.exact [])), (.tmp 12)]⟩,
  ⟨some 14, none, .faddr 1 (.tmp 1)⟩,
  ⟨some 15, none, .load false 1 (.tmp 14)⟩,
  ⟨some 16, none, .conv (.int .u64) (.tmp 15)⟩,
  ⟨some 17, none, .call false 59 [(.tmp 13), (.tmp 16)]⟩,
  ⟨some 18, none, .faddr 2 (.tmp 1)⟩,
  ⟨some 19, none, .load true 5 (.tmp 18)⟩,
  ⟨some 20, none, .call false 58 [(.tmp 17), (.tmp 19)]⟩,
  ⟨some 2, none, .mv (.tmp 20)⟩,
  ⟨some 3, none, .mv (.lit (.d (.int .i64 0)))⟩] [[], [0], [1], [2], [], [4], [5], [3, 6, 3], [], [8], [7, 9, 7], [10, 10, 0, 1, 2, 3, 4, 5, 6, 7, 8, 9, 10], [11, 0, 1, 2, 3, 4, 5, 6, 7, 8, 9, 10, 11]] [(0, []), (1, []), (2, []), (4, []), (5, []), (6, []), (8, []), (9, []), (3, [14, 18]), (7, [18]), (10, []), (11, []), (12, [])] [0, 1, 3, 7, 0, 16, 48, 127, 0, 256, 1023, 2047, 4095])
 .ret)))⟩
theorem zhJ : isF Try.prog zbt zdl := ⟨Try.f21, _, Try.func21, by decide +kernel, rfl, by kernel_rfl, by kernel_rfl, by decide, by kernel_rfl, rfl, by kernel_rfl⟩
/-- bulla/bullaref08.Bytes -/
def zgu : AF := ⟨1, 24, [(.tmp 2), (.tmp 3)],
 (.seq (.ops [⟨some 1, none, .boxi (.tmp 0)⟩,
  ⟨some 2, none, .mv (.lit (.exact []))⟩,
  ⟨some 3, none, .mv (.lit (.d (.int .i64 0)))⟩])
 (.seq (.seq (.ops [⟨some 6, none, .load true 7 (.tmp 1)⟩,
  ⟨some 7, none, .call false 11 [(.tmp 6)]⟩,
  ⟨some 4, none, .mv (.tmp 7)⟩])
 (.seq (.ops [⟨some 8, none, .mv (.tmp 4)⟩,
  ⟨some 9, none, .bin .neq .plain (.tmp 8) (.lit (.d (.int .i64 0)))⟩])
 (.cond (.tmp 9) (.seq (.ops [⟨some 10, none, .mv (.tmp 4)⟩,
  ⟨some 2, none, .mv (.lit (.exact []))⟩,
  ⟨some 3, none, .mv (.tmp 10)⟩])
 .ret) .skip)))
 (.seq (.ops [⟨some 11, none, .faddr 0 (.tmp 1)⟩,
  ⟨some 12, none, .load false 1 (.tmp 11)⟩,
  ⟨some 13, none, .conv (.int .u64) (.tmp 12)⟩,
  ⟨some 14, none, .call false 60 [(.lit (.exact [])), (.tmp 13)]⟩,
  ⟨some 5, none, .mv (.tmp 14)⟩])
 (.seq (.ops [⟨some 15, none, .mv (.tmp 5)⟩,
  ⟨some 16, none, .faddr 1 (.tmp 1)⟩,
  ⟨some 17, none, .load false 1 (.tmp 16)⟩,
  ⟨some 18, none, .conv (.int .u64) (.tmp 17)⟩,
  ⟨some 19, none, .call false 60 [(.tmp 15), (.tmp 18)]⟩,
  ⟨some 5, none, .mv (.tmp 19)⟩])
 (.seq (.ops [⟨some 20, none, .mv (.tmp 5)⟩,
  ⟨some 21, none, .faddr 2 (.tmp 1)⟩,
  ⟨some 22, none, .load true 5 (.tmp 21)⟩,
  ⟨some 23, none, .call false 61 [(.tmp 20), (.tmp 22)]⟩,
  ⟨some 2, none, .mv (.tmp 23)⟩,
  ⟨some 3, none, .mv (.lit (.d (.int .i64 0)))⟩])
 .ret)))))⟩
theorem zlj : isF Try.prog zda zgu := ⟨Try.f22, _, Try.func22, by decide +kernel, rfl, by kernel_rfl, by kernel_rfl, by decide, by kernel_rfl, rfl, by kernel_rfl⟩
/-- bytes.Equal -/
def zet : AF := ⟨2, 10, [(.tmp 4)],
 (.seq (.ops [⟨some 4, none, .mv (.lit (.d (.bool false)))⟩])
 (.seq (.ops [⟨some 5, none, .mv (.tmp 0)⟩,
  ⟨some 6, none, .conv .toStr (.tmp 5)⟩,
  ⟨some 7, none, .mv (.tmp 1)⟩,
  ⟨some 8, none, .conv .toStr (.tmp 7)⟩,
  ⟨some 9, none, .bin .eql .plain (.tmp 6) (.tmp 8)⟩,
  ⟨some 4, none, .mv (.tmp 9)⟩])
 .ret))⟩
theorem zjn : isF Try.prog zek zet := ⟨Try.f24, _, Try.func24, by decide +kernel, rfl, by kernel_rfl, by kernel_rfl, by decide, by kernel_rfl, rfl, by kernel_rfl⟩
/-- bulla/request.PutSign -/
def zcy : AF := ⟨2, 19, [(.tmp 4)],
 (.seq (.ops [⟨some 3, none, .boxi (.tmp 1)⟩,
  ⟨some 4, none, .mv (.lit (.exact []))⟩])
 (.seq (.seq (.ops [⟨some 5, none, .load true 2 (.tmp 3)⟩,
  ⟨some 6, none, .call false 12 [(.tmp 5)]⟩,
  ⟨some 7, none, .bin .neq .plain (.tmp 6) (.lit (.d (.int .i64 0)))⟩])
 (.cond (.tmp 7) (.seq (.ops [⟨some 8, none, .mv (.tmp 0)⟩,
  ⟨some 9, none, .call false 62 [(.tmp 8)]⟩,
  ⟨some 4, none, .mv (.tmp 9)⟩])
 .ret) .skip))
 (.seq (.draw [⟨some 10, none, .mv (.tmp 0)⟩,
  ⟨some 11, none, .faddr 0 (.tmp 3)⟩,
  ⟨some 12, none, .load false 1 (.tmp 11)⟩,
  ⟨some 13, none, .conv (.int .u64) (.tmp 12)⟩,
  ⟨some 14, none, .call false 59 [(.tmp 10), (.tmp 13)]⟩,
  ⟨some 15, none, .faddr 1 (.tmp 3)⟩,
  ⟨some 16, none, .load false 1 (.tmp 15)⟩,
  ⟨some 17, none, .conv (.int .u64) (.tmp 16)⟩,
  ⟨some 18, none, .call false 59 [(.tmp 14), (.tmp 17)]⟩,
  ⟨some 4, none, .mv (.tmp 18)⟩] [[], [], [1], [2], [0, 3], [], [5], [6], [4, 7, 4], [8, 8, 0, 1, 2, 3, 4, 5, 6, 7, 8]] [(0, []), (1, []), (2, []), (3, []), (5, []), (6, []), (7, []), (4, [15]), (8, []), (9, [])] [0, 0, 2, 6, 15, 0, 32, 96, 255, 511])
 .ret)))⟩
theorem zgg : isF Try.prog zcs zcy := ⟨Try.f25, _, Try.func25, by decide +kernel, rfl, by kernel_rfl, by kernel_rfl, by decide, by kernel_rfl, rfl, by kernel_rfl⟩
/-- bulla/bullaref08.PutSign -/
def zes : AF := ⟨2, 18, [(.tmp 4)],
 (.seq (.ops [⟨some 3, none, .boxi (.tmp 1)⟩,
  ⟨some 4, none, .mv (.lit (.exact []))⟩])
 (.seq (.seq (.ops [⟨some 5, none, .load true 2 (.tmp 3)⟩,
  ⟨some 6, none, .call false 13 [(.tmp 5)]⟩,
  ⟨some 7, none, .bin .neq .plain (.tmp 6) (.lit (.d (.int .i64 0)))⟩])
 (.cond (.tmp 7) (.seq (.ops [⟨some 8, none, .mv (.tmp 0)⟩,
  ⟨some 4, none, .mv (.tmp 8)⟩])
 .ret) .skip))
 (.seq (.draw [⟨some 9, none, .mv (.tmp 0)⟩,
  ⟨some 10, none, .faddr 0 (.tmp 3)⟩,
  ⟨some 11, none, .load false 1 (.tmp 10)⟩,
  ⟨some 12, none, .conv (.int .u64) (.tmp 11)⟩,
  ⟨some 13, none, .call false 60 [(.tmp 9), (.tmp 12)]⟩,
  ⟨some 14, none, .faddr 1 (.tmp 3)⟩,
  ⟨some 15, none, .load false 1 (.tmp 14)⟩,
  ⟨some 16, none, .conv (.int .u64) (.tmp 15)⟩,
  ⟨some 17, none, .call false 60 [(.tmp 13), (.tmp 16)]⟩,
  ⟨some 4, none, .mv (.tmp 17)⟩] [[], [], [1], [2], [0, 3], [], [5], [6], [4, 7, 4], [8, 8, 0, 1, 2, 3, 4, 5, 6, 7, 8]] [(0, []), (1, []), (2, []), (3, []), (5, []), (6, []), (7, []), (4, [14]), (8, []), (9, [])] [0, 0, 2, 6, 15, 0, 32, 96, 255, 511])
 .ret)))⟩
theorem zjm : isF Try.prog zeg zes := ⟨Try.f26, _, Try.func26, by decide +kernel, rfl, by kernel_rfl, by kernel_rfl, by decide, by kernel_rfl, rfl, by kernel_rfl⟩
/-- bulla/request.PutBatch -/
def zck : AF := ⟨2, 16, [(.tmp 4)],
 (.seq (.ops [⟨some 4, none, .mv (.lit (.exact []))⟩])
 (.seq (.seq (.ops [⟨some 6, none, .mv (.tmp 1)⟩,
  ⟨some 7, none, .call false 14 [(.tmp 6)]⟩,
  ⟨some 8, none, .bin .neq .plain (.tmp 7) (.lit (.d (.int .i64 0)))⟩])
 (.cond (.tmp 8) (.seq (.ops [⟨some 9, none, .mv (.tmp 0)⟩,
  ⟨some 10, none, .call false 62 [(.tmp 9)]⟩,
  ⟨some 4, none, .mv (.tmp 10)⟩])
 .ret) .skip))
 (.seq (.ops [⟨some 11, none, .mv (.tmp 1)⟩,
  ⟨some 12, none, .mkfn (.func 63) [(.tmp 11)] []⟩,
  ⟨some 5, none, .mv (.tmp 12)⟩])
 (.seq (.ops [⟨some 13, none, .mv (.tmp 5)⟩,
  ⟨some 14, none, .mv (.tmp 0)⟩,
  ⟨some 15, none, .callv (.tmp 13) [(.tmp 14)]⟩,
  ⟨some 4, none, .mv (.tmp 15)⟩])
 .ret))))⟩
theorem zfE : isF Try.prog zcb zck := ⟨Try.f27, _, Try.func27, by decide +kernel, rfl, by kernel_rfl, by kernel_rfl, by decide, by kernel_rfl, rfl, by kernel_rfl⟩
/-- bulla/bullaref08.PutBatch -/
def zdI : AF := ⟨2, 42, [(.tmp 4)],
 (.seq (.ops [⟨some 4, none, .mv (.lit (.exact []))⟩])
 (.seq (.seq (.ops [⟨some 8, none, .mv (.tmp 1)⟩,
  ⟨some 9, none, .call false 15 [(.tmp 8)]⟩,
  ⟨some 10, none, .bin .neq .plain (.tmp 9) (.lit (.d (.int .i64 0)))⟩])
 (.cond (.tmp 10) (.seq (.ops [⟨some 11, none, .mv (.tmp 0)⟩,
  ⟨some 4, none, .mv (.tmp 11)⟩])
 .ret) .skip))
 (.seq (.ops [⟨some 12, none, .mv (.tmp 0)⟩,
  ⟨some 13, none, .mv (.tmp 1)⟩,
  ⟨some 14, none, .len .sl (.tmp 13)⟩,
  ⟨some 15, none, .conv (.int .u64) (.tmp 14)⟩,
  ⟨some 16, none, .call false 60 [(.tmp 12), (.tmp 15)]⟩,
  ⟨some 0, none, .mv (.tmp 16)⟩])
 (.seq (.seq (.ops [⟨some 5, none, .mv (.lit (.d (.int .i64 0)))⟩])
 (.block 0 (.loop [0, 5] [6, 7, 17, 18, 19, 20, 21, 22, 23, 24, 25, 26, 27, 28, 29, 30, 31, 32, 33, 34, 35, 36, 37, 38, 39, 40] (.seq (.seq (.ops [⟨some 17, none, .mv (.tmp 5)⟩,
  ⟨some 18, none, .mv (.tmp 1)⟩,
  ⟨some 19, none, .len .sl (.tmp 18)⟩,
  ⟨some 20, none, .bin .lss .plain (.tmp 17) (.tmp 19)⟩])
 (.cond (.tmp 20) .skip (.exit 0)))
 (.seq (.block 1 (.seq (.ops [⟨some 24, none, .mv (.tmp 1)⟩,
  ⟨some 25, none, .mv (.tmp 5)⟩,
  ⟨some 26, none, .iaddr none 9 (.tmp 24) (.tmp 25)⟩,
  ⟨some 27, none, .faddr 0 (.tmp 26)⟩,
  ⟨some 28, none, .load true 7 (.tmp 27)⟩,
  ⟨some 29, none, .call false 22 [(.tmp 28)]⟩,
  ⟨some 23, none, .mv (.tmp 29)⟩,
  ⟨some 30, none, .extract (.tmp 23) 0⟩,
  ⟨some 31, none, .extract (.tmp 23) 1⟩,
  ⟨some 6, none, .mv (.tmp 30)⟩,
  ⟨some 7, none, .mv (.tmp 31)⟩])
 (.draw [⟨some 32, none, .mv (.tmp 0)⟩,
  ⟨some 33, none, .mv (.tmp 6)⟩,
  ⟨some 34, none, .call false 64 [(.tmp 32), (.tmp 33)]⟩,
  ⟨some 35, none, .mv (.tmp 1)⟩,
  ⟨some 36, none, .mv (.tmp 5)⟩,
  ⟨some 37, none, .iaddr none 9 (.tmp 35) (.tmp 36)⟩,
  ⟨some 38, none, .faddr 7 (.tmp 37)⟩,
  ⟨some 39, none, .load true 2 (.tmp 38)⟩,
  ⟨some 40, none, .call false 26 [(.tmp 34), (.tmp 39)]⟩,
  ⟨some 0, none, .mv (.tmp 40)⟩] [[], [], [0, 1], [], [], [3, 4], [5], [6], [2, 7, 2], [8, 8, 0, 1, 2, 3, 4, 5, 6, 7, 8]] [(0, []), (1, []), (3, []), (4, []), (5, []), (6, []), (7, []), (2, [38]), (8, []), (9, [])] [0, 0, 3, 0, 0, 24, 56, 120, 255, 511])))
 (.ops [⟨some 21, none, .mv (.tmp 5)⟩,
  ⟨some 22, none, .bin .add .plain (.tmp 21) (.lit (.d (.int .i64 1)))⟩,
  ⟨some 5, none, .mv (.tmp 22)⟩]))))))
 (.seq (.ops [⟨some 41, none, .mv (.tmp 0)⟩,
  ⟨some 4, none, .mv (.tmp 41)⟩])
 .ret)))))⟩
theorem ziI : isF Try.prog zdC zdI := ⟨Try.f28, _, Try.func28, by decide +kernel, rfl, by kernel_rfl, by kernel_rfl, by decide, by kernel_rfl, rfl, by kernel_rfl⟩
/-- bulla/ideal.NewTable -/
def zcQ : AF := ⟨0, 4, [(.tmp 0)],
 (.seq (.ops [⟨some 0, none, .mv (.lit (.d .nilp))⟩])
 (.seq (.ops [⟨some 1, none, .mkmap⟩,
  ⟨some 2, none, .build [(.exact []), (.d .nilmap)] [(1, 1, (.tmp 1))]⟩,
  ⟨some 3, none, .boxi (.tmp 2)⟩,
  ⟨some 0, none, .mv (.tmp 3)⟩])
 .ret))⟩
theorem zgU : isF Try.prog zaP zcQ := ⟨Try.f29, _, Try.func29, by decide +kernel, rfl, by kernel_rfl, by kernel_rfl, by decide, by kernel_rfl, rfl, by kernel_rfl⟩
/-- bulla/ideal.NewLedger -/
def zcD : AF := ⟨0, 4, [(.tmp 0)],
 (.seq (.ops [⟨some 0, none, .mv (.lit (.d .nilp))⟩])
 (.seq (.ops [⟨some 1, none, .mkmap⟩,
  ⟨some 2, none, .build [(.exact []), (.d .nilmap)] [(1, 1, (.tmp 1))]⟩,
  ⟨some 3, none, .boxi (.tmp 2)⟩,
  ⟨some 0, none, .mv (.tmp 3)⟩])
 .ret))⟩
theorem zgl : isF Try.prog zaM zcD := ⟨Try.f30, _, Try.func30, by decide +kernel, rfl, by kernel_rfl, by kernel_rfl, by decide, by kernel_rfl, rfl, by kernel_rfl⟩
/-- bulla/request.Seal -/
def zdH : AF := ⟨3, 47, [(.cell 6 true 9), (.tmp 7)],
 (.seq (.ops [⟨some 5, none, .boxi (.tmp 2)⟩,
  ⟨some 6, none, .alloc [(.d (.int .i64 0)), (.d (.int .i64 0)), (.d (.int .i64 0)), (.d (.str [])), (.d (.str [])), (.d (.int .i64 0)), (.exact []), (.d (.int .i64 0)), (.d (.int .i64 0))]⟩,
  ⟨some 7, none, .mv (.lit (.d (.int .i64 0)))⟩])
 (.seq (.ops [⟨some 12, none, .load true 7 (.tmp 5)⟩,
  ⟨some 13, none, .call false 21 [(.tmp 12)]⟩,
  ⟨some 11, none, .mv (.tmp 13)⟩,
  ⟨some 14, none, .extract (.tmp 11) 0⟩,
  ⟨some 15, none, .extract (.tmp 11) 1⟩,
  ⟨some 8, none, .mv (.tmp 14)⟩,
  ⟨some 9, none, .mv (.tmp 15)⟩])
 (.seq (.seq (.ops [⟨some 16, none, .mv (.tmp 9)⟩,
  ⟨some 17, none, .bin .neq .plain (.tmp 16) (.lit (.d (.int .i64 0)))⟩])
 (.cond (.tmp 17) (.seq (.ops [⟨some 18, none, .build [(.d (.int .i64 0)), (.d (.int .i64 0)), (.d (.int .i64 0)), (.d (.str [])), (.d (.str [])), (.d (.int .i64 0)), (.exact []), (.d (.int .i64 0)), (.d (.int .i64 0))] []⟩,
  ⟨some 19, none, .mv (.tmp 9)⟩,
  ⟨none, none, .store 9 (.tmp 6) (.tmp 18)⟩,
  ⟨some 7, none, .mv (.tmp 19)⟩])
 .ret) .skip))
 (.seq (.seq (.ops [⟨some 20, none, .mv (.tmp 0)⟩,
  ⟨some 21, none, .mv (.tmp 1)⟩,
  ⟨some 22, none, .call false 65 [(.tmp 20), (.tmp 21)]⟩,
  ⟨some 23, none, .un .not (.tmp 22)⟩])
 (.cond (.tmp 23) (.seq (.ops [⟨some 24, none, .build [(.d (.int .i64 0)), (.d (.int .i64 0)), (.d (.int .i64 0)), (.d (.str [])), (.d (.str [])), (.d (.int .i64 0)), (.exact []), (.d (.int .i64 0)), (.d (.int .i64 0))] []⟩,
  ⟨none, none, .store 9 (.tmp 6) (.tmp 24)⟩,
  ⟨some 7, none, .mv (.lit (.d (.int .i64 2)))⟩])
 .ret) .skip))
 (.seq (.ops [⟨some 26, none, .mv (.tmp 1)⟩,
  ⟨some 27, none, .faddr 0 (.tmp 5)⟩,
  ⟨some 28, none, .load false 1 (.tmp 27)⟩,
  ⟨some 29, none, .call false 16 [(.tmp 28)]⟩,
  ⟨some 30, none, .mv (.tmp 0)⟩,
  ⟨some 31, none, .mv (.tmp 8)⟩,
  ⟨some 32, none, .call false 67 [(.tmp 30), (.tmp 31)]⟩,
  ⟨some 33, none, .call false 66 [(.tmp 26), (.tmp 29), (.tmp 32)]⟩,
  ⟨some 25, none, .mv (.tmp 33)⟩,
  ⟨some 34, none, .extract (.tmp 25) 0⟩,
  ⟨some 35, none, .extract (.tmp 25) 1⟩,
  ⟨some 10, none, .alloc [(.d (.int .i64 0)), (.d (.int .i64 0))]⟩,
  ⟨none, none, .store 2 (.tmp 10) (.tmp 34)⟩,
  ⟨some 9, none, .mv (.tmp 35)⟩])
 (.seq (.seq (.ops [⟨some 36, none, .mv (.tmp 9)⟩,
  ⟨some 37, none, .bin .neq .plain (.tmp 36) (.lit (.d (.int .i64 0)))⟩])
 (.cond (.tmp 37) (.seq (.ops [⟨some 38, none, .build [(.d (.int .i64 0)), (.d (.int .i64 0)), (.d (.int .i64 0)), (.d (.str [])), (.d (.str [])), (.d (.int .i64 0)), (.exact []), (.d (.int .i64 0)), (.d (.int .i64 0))] []⟩,
  ⟨some 39, none, .mv (.tmp 9)⟩,
  ⟨none, none, .store 9 (.tmp 6) (.tmp 38)⟩,
  ⟨some 7, none, .mv (.tmp 39)⟩])
 .ret) .skip))
 (.seq (.ops [⟨some 40, none, .faddr 2 (.tmp 5)⟩,
  ⟨some 41, none, .load true 5 (.tmp 40)⟩,
  ⟨some 42, none, .call false 57 [(.tmp 41)]⟩,
  ⟨some 43, none, .faddr 2 (.tmp 5)⟩,
  ⟨none, none, .store 5 (.tmp 43) (.tmp 42)⟩])
 (.seq (.ops [⟨some 44, none, .load true 7 (.tmp 5)⟩,
  ⟨some 45, none, .load true 2 (.tmp 10)⟩,
  ⟨some 46, none, .build [(.d (.int .i64 0)), (.d (.int .i64 0)), (.d (.int .i64 0)), (.d (.str [])), (.d (.str [])), (.d (.int .i64 0)), (.exact []), (.d (.int .i64 0)), (.d (.int .i64 0))] [(0, 7, (.tmp 44)), (7, 2, (.tmp 45))]⟩,
  ⟨none, none, .store 9 (.tmp 6) (.tmp 46)⟩,
  ⟨some 7, none, .mv (.lit (.d (.int .i64 0)))⟩])
 .ret))))))))⟩
theorem ziH : isF Try.prog zbK zdH := ⟨Try.f31, _, Try.func31, by decide +kernel, rfl, by kernel_rfl, by kernel_rfl, by decide, by kernel_rfl, rfl, by kernel_rfl⟩
/-- bulla/request.Valid -/
def zdj : AF := ⟨3, 43, [(.tmp 6)],
 (.seq (.ops [⟨some 5, none, .boxi (.tmp 2)⟩,
  ⟨some 6, none, .mv (.lit (.d (.bool false)))⟩])
 (.seq (.ops [⟨some 12, none, .faddr 0 (.tmp 5)⟩,
  ⟨some 13, none, .load true 7 (.tmp 12)⟩,
  ⟨some 14, none, .call false 21 [(.tmp 13)]⟩,
  ⟨some 11, none, .mv (.tmp 14)⟩,
  ⟨some 15, none, .extract (.tmp 11) 0⟩,
  ⟨some 16, none, .extract (.tmp 11) 1⟩,
  ⟨some 7, none, .mv (.tmp 15)⟩,
  ⟨some 8, none, .mv (.tmp 16)⟩])
 (.seq (.seq (.ops [⟨some 17, none, .mv (.tmp 8)⟩,
  ⟨some 18, none, .bin .neq .plain (.tmp 17) (.lit (.d (.int .i64 0)))⟩])
 (.cond (.tmp 18) (.seq (.ops [⟨some 6, none, .mv (.lit (.d (.bool false)))⟩])
 .ret) .skip))
 (.seq (.ops [⟨some 20, none, .mv (.tmp 0)⟩,
  ⟨some 21, none, .mv (.tmp 7)⟩,
  ⟨some 22, none, .call false 68 [(.tmp 20), (.tmp 21)]⟩,
  ⟨some 19, none, .mv (.tmp 22)⟩,
  ⟨some 23, none, .extract (.tmp 19) 0⟩,
  ⟨some 24, none, .extract (.tmp 19) 1⟩,
  ⟨some 9, none, .mv (.tmp 23)⟩,
  ⟨some 10, none, .mv (.tmp 24)⟩])
 (.seq (.draw [⟨some 25, none, .mv (.tmp 10)⟩,
  ⟨some 26, none, .mv (.tmp 25)⟩,
  ⟨some 27, some (26, true), .faddr 7 (.tmp 5)⟩,
  ⟨some 28, some (26, true), .load true 2 (.tmp 27)⟩,
  ⟨some 29, some (26, true), .faddr 0 (.tmp 5)⟩,
  ⟨some 30, some (26, true), .faddr 0 (.tmp 29)⟩,
  ⟨some 31, some (26, true), .load false 1 (.tmp 30)⟩,
  ⟨some 32, some (26, true), .call false 16 [(.tmp 31)]⟩,
  ⟨some 33, some (26, true), .mv (.tmp 9)⟩,
  ⟨some 34, some (26, true), .build [(.d (.int .i64 0)), (.d (.int .i64 0))] [(0, 1, (.tmp 32)), (1, 1, (.tmp 33))]⟩,
  ⟨some 35, some (26, true), .bin .eql (.ints 2) (.tmp 28) (.tmp 34)⟩,
  ⟨some 36, none, .pick (.tmp 26) (.tmp 35) (.lit (.d (.bool false)))⟩,
  ⟨some 37, none, .mv (.tmp 36)⟩,
  ⟨some 38, some (37, true), .mv (.tmp 1)⟩,
  ⟨some 39, some (37, true), .faddr 7 (.tmp 5)⟩,
  ⟨some 40, some (37, true), .load true 2 (.tmp 39)⟩,
  ⟨some 41, some (37, true), .call false 69 [(.tmp 38), (.tmp 40)]⟩,
  ⟨some 42, none, .pick (.tmp 37) (.tmp 41) (.lit (.d (.bool false)))⟩,
  ⟨some 6, none, .mv (.tmp 42)⟩] [[], [0], [1], [2, 1], [1], [4, 1], [5, 1], [6, 1, 1], [1], [7, 8, 1], [3, 9, 1], [1, 10], [11, 7], [12], [12], [14, 12], [13, 15, 12, 12], [12, 16], [17, 16, 0, 1, 2, 3, 4, 5, 6, 7, 8, 9, 10, 11, 12, 13, 14, 15, 16, 17]] [(0, []), (1, []), (2, []), (3, []), (4, []), (5, []), (6, []), (8, []), (7, [27]), (9, []), (10, []), (11, []), (12, []), (13, []), (14, []), (15, []), (16, []), (17, []), (18, [])] [0, 1, 3, 7, 3, 19, 51, 115, 3, 499, 1023, 2047, 4095, 8191, 8191, 24575, 65535, 131071, 262143])
 .ret)))))⟩
theorem zhH : isF Try.prog zaR zdj := ⟨Try.f32, _, Try.func32, by decide +kernel, rfl, by kernel_rfl, by kernel_rfl, by decide, by kernel_rfl, rfl, by kernel_rfl⟩
/-- bulla/request.Digest -/
def zcM : AF := ⟨2, 23, [(.tmp 4), (.tmp 5)],
 (.seq (.ops [⟨some 4, none, .mv (.lit (.d (.int .i64 0)))⟩,
  ⟨some 5, none, .mv (.lit (.d (.int .i64 0)))⟩])
 (.seq (.seq (.ops [⟨some 8, none, .mv (.tmp 1)⟩,
  ⟨some 9, none, .call false 14 [(.tmp 8)]⟩,
  ⟨some 6, none, .mv (.tmp 9)⟩])
 (.seq (.ops [⟨some 10, none, .mv (.tmp 6)⟩,
  ⟨some 11, none, .bin .neq .plain (.tmp 10) (.lit (.d (.int .i64 0)))⟩])
 (.cond (.tmp 11) (.seq (.ops [⟨some 12, none, .mv (.tmp 6)⟩,
  ⟨some 4, none, .mv (.lit (.d (.int .i64 0)))⟩,
  ⟨some 5, none, .mv (.tmp 12)⟩])
 .ret) .skip)))
 (.seq (.seq (.ops [⟨some 13, none, .mv (.tmp 0)⟩,
  ⟨some 14, none, .call false 70 [(.tmp 13)]⟩,
  ⟨some 15, none, .un .not (.tmp 14)⟩])
 (.cond (.tmp 15) (.seq (.ops [⟨some 4, none, .mv (.lit (.d (.int .i64 0)))⟩,
  ⟨some 5, none, .mv (.lit (.d (.int .i64 2)))⟩])
 .ret) .skip))
 (.seq (.ops [⟨some 16, none, .mv (.tmp 0)⟩,
  ⟨some 17, none, .mv (.tmp 1)⟩,
  ⟨some 18, none, .call false 27 [(.lit (.exact [])), (.tmp 17)]⟩,
  ⟨some 19, none, .call false 67 [(.tmp 16), (.tmp 18)]⟩,
  ⟨some 7, none, .mv (.tmp 19)⟩])
 (.seq (.seq (.ops [⟨some 20, none, .mv (.tmp 7)⟩,
  ⟨some 21, none, .bin .eql .plain (.tmp 20) (.lit (.d (.int .i64 0)))⟩])
 (.cond (.tmp 21) (.seq (.ops [⟨some 4, none, .mv (.lit (.d (.int .i64 0)))⟩,
  ⟨some 5, none, .mv (.lit (.d (.int .i64 6)))⟩])
 .ret) .skip))
 (.seq (.ops [⟨some 22, none, .mv (.tmp 7)⟩,
  ⟨some 4, none, .mv (.tmp 22)⟩,
  ⟨some 5, none, .mv (.lit (.d (.int .i64 0)))⟩])
 .ret))))))⟩
theorem zgQ : isF Try.prog zbM zcM := ⟨Try.f33, _, Try.func33, by decide +kernel, rfl, by kernel_rfl, by kernel_rfl, by decide, by kernel_rfl, rfl, by kernel_rfl⟩
/-- bulla/bullaref08.Seal -/
def zhW : AF := ⟨3, 38, [(.cell 6 true 9), (.tmp 7)],
 (.seq (.ops [⟨some 5, none, .boxi (.tmp 2)⟩,
  ⟨some 6, none, .alloc [(.d (.int .i64 0)), (.d (.int .i64 0)), (.d (.int .i64 0)), (.d (.str [])), (.d (.str [])), (.d (.int .i64 0)), (.exact []), (.d (.int .i64 0)), (.d (.int .i64 0))]⟩,
  ⟨some 7, none, .mv (.lit (.d (.int .i64 0)))⟩])
 (.seq (.ops [⟨some 12, none, .load true 7 (.tmp 5)⟩,
  ⟨some 13, none, .call false 22 [(.tmp 12)]⟩,
  ⟨some 11, none, .mv (.tmp 13)⟩,
  ⟨some 14, none, .extract (.tmp 11) 0⟩,
  ⟨some 15, none, .extract (.tmp 11) 1⟩,
  ⟨some 8, none, .mv (.tmp 14)⟩,
  ⟨some 9, none, .mv (.tmp 15)⟩])
 (.seq (.seq (.ops [⟨some 16, none, .mv (.tmp 9)⟩,
  ⟨some 17, none, .bin .neq .plain (.tmp 16) (.lit (.d (.int .i64 0)))⟩])
 (.cond (.tmp 17) (.seq (.ops [⟨some 18, none, .build [(.d (.int .i64 0)), (.d (.int .i64 0)), (.d (.int .i64 0)), (.d (.str [])), (.d (.str [])), (.d (.int .i64 0)), (.exact []), (.d (.int .i64 0)), (.d (.int .i64 0))] []⟩,
  ⟨some 19, none, .mv (.tmp 9)⟩,
  ⟨none, none, .store 9 (.tmp 6) (.tmp 18)⟩,
  ⟨some 7, none, .mv (.tmp 19)⟩])
 .ret) .skip))
 (.seq (.ops [⟨some 21, none, .mv (.tmp 1)⟩,
  ⟨some 22, none, .faddr 0 (.tmp 5)⟩,
  ⟨some 23, none, .load false 1 (.tmp 22)⟩,
  ⟨some 24, none, .call false 17 [(.tmp 23)]⟩,
  ⟨some 25, none, .mv (.tmp 0)⟩,
  ⟨some 26, none, .mv (.tmp 8)⟩,
  ⟨some 27, none, .call false 72 [(.tmp 25), (.tmp 26)]⟩,
  ⟨some 28, none, .call false 71 [(.tmp 21), (.tmp 24), (.tmp 27)]⟩,
  ⟨some 20, none, .mv (.tmp 28)⟩,
  ⟨some 29, none, .extract (.tmp 20) 0⟩,
  ⟨some 30, none, .extract (.tmp 20) 1⟩,
  ⟨some 10, none, .alloc [(.d (.int .i64 0)), (.d (.int .i64 0))]⟩,
  ⟨none, none, .store 2 (.tmp 10) (.tmp 29)⟩,
  ⟨some 9, none, .mv (.tmp 30)⟩])
 (.seq (.seq (.ops [⟨some 31, none, .mv (.tmp 9)⟩,
  ⟨some 32, none, .bin .neq .plain (.tmp 31) (.lit (.d (.int .i64 0)))⟩])
 (.cond (.tmp 32) (.seq (.ops [⟨some 33, none, .build [(.d (.int .i64 0)), (.d (.int .i64 0)), (.d (.int .i64 0)), (.d (.str [])), (.d (.str [])), (.d (.int .i64 0)), (.exact []), (.d (.int .i64 0)), (.d (.int .i64 0))] []⟩,
  ⟨some 34, none, .mv (.tmp 9)⟩,
  ⟨none, none, .store 9 (.tmp 6) (.tmp 33)⟩,
  ⟨some 7, none, .mv (.tmp 34)⟩])
 .ret) .skip))
 (.seq (.ops [⟨some 35, none, .load true 7 (.tmp 5)⟩,
  ⟨some 36, none, .load true 2 (.tmp 10)⟩,
  ⟨some 37, none, .build [(.d (.int .i64 0)), (.d (.int .i64 0)), (.d (.int .i64 0)), (.d (.str [])), (.d (.str [])), (.d (.int .i64 0)), (.exact []), (.d (.int .i64 0)), (.d (.int .i64 0))] [(0, 7, (.tmp 35)), (7, 2, (.tmp 36))]⟩,
  ⟨none, none, .store 9 (.tmp 6) (.tmp 37)⟩,
  ⟨some 7, none, .mv (.lit (.d (.int .i64 0)))⟩])
 .ret))))))⟩
theorem isA_r08_Seal : isF Try.prog zhu zhW := ⟨Try.f34, _, Try.func34, by decide +kernel, rfl, by kernel_rfl, by kernel_rfl, by decide, by kernel_rfl, rfl, by kernel_rfl⟩
/-- bulla/bullaref08.Valid -/
def zgs : AF := ⟨3, 49, [(.tmp 6)],
 (.seq (.ops [⟨some 5, none, .boxi (.tmp 2)⟩,
  ⟨some 6, none, .mv (.lit (.d (.bool false)))⟩])
 (.seq (.ops [⟨some 12, none, .faddr 0 (.tmp 5)⟩,
  ⟨some 13, none, .load true 7 (.tmp 12)⟩,
  ⟨some 14, none, .call false 22 [(.tmp 13)]⟩,
  ⟨some 11, none, .mv (.tmp 14)⟩,
  ⟨some 15, none, .extract (.tmp 11) 0⟩,
  ⟨some 16, none, .extract (.tmp 11) 1⟩,
  ⟨some 7, none, .mv (.tmp 15)⟩,
  ⟨some 8, none, .mv (.tmp 16)⟩])
 (.seq (.seq (.draw [⟨some 17, none, .mv (.tmp 8)⟩,
  ⟨some 18, none, .bin .neq .plain (.tmp 17) (.lit (.d (.int .i64 0)))⟩,
  ⟨some 19, none, .mv (.tmp 18)⟩,
  ⟨some 20, some (19, false), .faddr 7 (.tmp 5)⟩,
  ⟨some 21, some (19, false), .faddr 0 (.tmp 20)⟩,
  ⟨some 22, some (19, false), .load false 1 (.tmp 21)⟩,
  ⟨some 23, some (19, false), .faddr 0 (.tmp 5)⟩,
  ⟨some 24, some (19, false), .faddr 0 (.tmp 23)⟩,
  ⟨some 25, some (19, false), .load false 1 (.tmp 24)⟩,
  ⟨some 26, some (19, false), .call false 17 [(.tmp 25)]⟩,
  ⟨some 27, some (19, false), .bin .neq .plain (.tmp 22) (.tmp 26)⟩,
  ⟨some 28, none, .pick (.tmp 19) (.lit (.d (.bool true))) (.tmp 27)⟩] [[], [0], [1], [2], [3, 2], [4, 2], [2], [6, 2], [7, 2], [8, 2, 2], [5, 9, 2], [2, 10]] [(0, []), (1, []), (2, []), (3, []), (4, []), (5, []), (6, []), (7, []), (8, []), (9, [21]), (10, []), (11, [])] [0, 1, 3, 7, 15, 31, 7, 71, 199, 455, 1023, 2047])
 (.cond (.tmp 28) (.seq (.ops [⟨some 6, none, .mv (.lit (.d (.bool false)))⟩])
 .ret) .skip))
 (.seq (.ops [⟨some 30, none, .mv (.tmp 0)⟩,
  ⟨some 31, none, .mv (.tmp 7)⟩,
  ⟨some 32, none, .call false 73 [(.tmp 30), (.tmp 31)]⟩,
  ⟨some 29, none, .mv (.tmp 32)⟩,
  ⟨some 33, none, .extract (.tmp 29) 0⟩,
  ⟨some 34, none, .extract (.tmp 29) 1⟩,
  ⟨some 9, none, .mv (.tmp 33)⟩,
  ⟨some 10, none, .mv (.tmp 34)⟩])
 (.seq (.ops [⟨some 35, none, .mv (.tmp 10)⟩,
  ⟨some 36, none, .mv (.tmp 35)⟩,
  ⟨some 37, some (36, true), .mv (.tmp 9)⟩,
  ⟨some 38, some (36, true), .faddr 7 (.tmp 5)⟩,
  ⟨some 39, some (36, true), .faddr 1 (.tmp 38)⟩,
  ⟨some 40, some (36, true), .load false 1 (.tmp 39)⟩,
  ⟨some 41, some (36, true), .bin .eql .plain (.tmp 37) (.tmp 40)⟩,
  ⟨some 42, none, .pick (.tmp 36) (.tmp 41) (.lit (.d (.bool false)))⟩,
  ⟨some 43, none, .mv (.tmp 42)⟩,
  ⟨some 44, some (43, true), .mv (.tmp 1)⟩,
  ⟨some 45, some (43, true), .faddr 7 (.tmp 5)⟩,
  ⟨some 46, some (43, true), .load true 2 (.tmp 45)⟩,
  ⟨some 47, some (43, true), .call false 74 [(.tmp 44), (.tmp 46)]⟩,
  ⟨some 48, none, .pick (.tmp 43) (.tmp 47) (.lit (.d (.bool false)))⟩,
  ⟨some 6, none, .mv (.tmp 48)⟩])
 .ret)))))⟩
theorem zlh : isF Try.prog zef zgs := ⟨Try.f35, _, Try.func35, by decide +kernel, rfl, by kernel_rfl, by kernel_rfl, by decide, by kernel_rfl, rfl, by kernel_rfl⟩
/-- bulla/request.ValidBatch -/
def zbG : AF := ⟨3, 16, [(.tmp 6)],
 (.seq (.ops [⟨some 3, none, .boxi (.tmp 0)⟩,
  ⟨some 4, none, .boxi (.tmp 1)⟩,
  ⟨some 6, none, .mv (.lit (.d (.bool false)))⟩])
 (.seq (.ops [⟨some 7, none, .mv (.tmp 2)⟩,
  ⟨some 8, none, .call false 14 [(.tmp 7)]⟩,
  ⟨some 9, none, .bin .eql .plain (.tmp 8) (.lit (.d (.int .i64 0)))⟩,
  ⟨some 10, none, .mv (.tmp 9)⟩,
  ⟨some 11, some (10, true), .mv (.tmp 2)⟩,
  ⟨some 12, some (10, true), .mkfn (.func 76) [] [(.tmp 3), (.tmp 4)]⟩,
  ⟨some 13, some (10, true), .call false 75 [(.tmp 11), (.tmp 12)]⟩,
  ⟨some 14, some (10, true), .un .not (.tmp 13)⟩,
  ⟨some 15, none, .pick (.tmp 10) (.tmp 14) (.lit (.d (.bool false)))⟩,
  ⟨some 6, none, .mv (.tmp 15)⟩])
 .ret))⟩
theorem zeD : isF Try.prog zbD zbG := ⟨Try.f36, _, Try.func36, by decide +kernel, rfl, by kernel_rfl, by kernel_rfl, by decide, by kernel_rfl, rfl, by kernel_rfl⟩
/-- bulla/bullaref08.ValidBatch -/
def zcN : AF := ⟨3, 25, [(.tmp 6)],
 (.seq (.ops [⟨some 6, none, .mv (.lit (.d (.bool false)))⟩])
 (.seq (.seq (.ops [⟨some 8, none, .mv (.tmp 2)⟩,
  ⟨some 9, none, .call false 15 [(.tmp 8)]⟩,
  ⟨some 10, none, .bin .neq .plain (.tmp 9) (.lit (.d (.int .i64 0)))⟩])
 (.cond (.tmp 10) (.seq (.ops [⟨some 6, none, .mv (.lit (.d (.bool false)))⟩])
 .ret) .skip))
 (.seq (.seq (.ops [⟨some 7, none, .mv (.lit (.d (.int .i64 0)))⟩])
 (.block 0 (.loop [7] [6, 11, 12, 13, 14, 15, 16, 17, 18, 19, 20, 21, 22, 23, 24] (.seq (.seq (.ops [⟨some 11, none, .mv (.tmp 7)⟩,
  ⟨some 12, none, .mv (.tmp 2)⟩,
  ⟨some 13, none, .len .sl (.tmp 12)⟩,
  ⟨some 14, none, .bin .lss .plain (.tmp 11) (.tmp 13)⟩])
 (.cond (.tmp 14) .skip (.exit 0)))
 (.seq (.block 1 (.seq (.ops [⟨some 17, none, .mv (.tmp 0)⟩,
  ⟨some 18, none, .mv (.tmp 1)⟩,
  ⟨some 19, none, .mv (.tmp 2)⟩,
  ⟨some 20, none, .mv (.tmp 7)⟩,
  ⟨some 21, none, .iaddr none 9 (.tmp 19) (.tmp 20)⟩,
  ⟨some 22, none, .load true 9 (.tmp 21)⟩,
  ⟨some 23, none, .call false 35 [(.tmp 17), (.tmp 18), (.tmp 22)]⟩,
  ⟨some 24, none, .un .not (.tmp 23)⟩])
 (.cond (.tmp 24) (.seq (.ops [⟨some 6, none, .mv (.lit (.d (.bool false)))⟩])
 .ret) .skip)))
 (.ops [⟨some 15, none, .mv (.tmp 7)⟩,
  ⟨some 16, none, .bin .add .plain (.tmp 15) (.lit (.d (.int .i64 1)))⟩,
  ⟨some 7, none, .mv (.tmp 16)⟩]))))))
 (.seq (.ops [⟨some 6, none, .mv (.lit (.d (.bool true)))⟩])
 .ret))))⟩
theorem zgR : isF Try.prog zcK zcN := ⟨Try.f37, _, Try.func37, by decide +kernel, rfl, by kernel_rfl, by kernel_rfl, by decide, by kernel_rfl, rfl, by kernel_rfl⟩
/-- bulla/bullaref08.Digest -/
def zfj : AF := ⟨2, 20, [(.tmp 4), (.tmp 5)],
 (.seq (.ops [⟨some 4, none, .mv (.lit (.d (.int .i64 0)))⟩,
  ⟨some 5, none, .mv (.lit (.d (.int .i64 0)))⟩])
 (.seq (.seq (.ops [⟨some 8, none, .mv (.tmp 1)⟩,
  ⟨some 9, none, .call false 15 [(.tmp 8)]⟩,
  ⟨some 6, none, .mv (.tmp 9)⟩])
 (.seq (.ops [⟨some 10, none, .mv (.tmp 6)⟩,
  ⟨some 11, none, .bin .neq .plain (.tmp 10) (.lit (.d (.int .i64 0)))⟩])
 (.cond (.tmp 11) (.seq (.ops [⟨some 12, none, .mv (.tmp 6)⟩,
  ⟨some 4, none, .mv (.lit (.d (.int .i64 0)))⟩,
  ⟨some 5, none, .mv (.tmp 12)⟩])
 .ret) .skip)))
 (.seq (.ops [⟨some 13, none, .mv (.tmp 0)⟩,
  ⟨some 14, none, .mv (.tmp 1)⟩,
  ⟨some 15, none, .call false 28 [(.lit (.exact [])), (.tmp 14)]⟩,
  ⟨some 16, none, .call false 72 [(.tmp 13), (.tmp 15)]⟩,
  ⟨some 7, none, .mv (.tmp 16)⟩])
 (.seq (.seq (.ops [⟨some 17, none, .mv (.tmp 7)⟩,
  ⟨some 18, none, .bin .eql .plain (.tmp 17) (.lit (.d (.int .i64 0)))⟩])
 (.cond (.tmp 18) (.seq (.ops [⟨some 4, none, .mv (.lit (.d (.int .i64 0)))⟩,
  ⟨some 5, none, .mv (.lit (.d (.int .i64 6)))⟩])
 .ret) .skip))
 (.seq (.ops [⟨some 19, none, .mv (.tmp 7)⟩,
  ⟨some 4, none, .mv (.tmp 19)⟩,
  ⟨some 5, none, .mv (.lit (.d (.int .i64 0)))⟩])
 .ret)))))⟩
theorem zjU : isF Try.prog zeL zfj := ⟨Try.f38, _, Try.func38, by decide +kernel, rfl, by kernel_rfl, by kernel_rfl, by decide, by kernel_rfl, rfl, by kernel_rfl⟩
/-- bulla/bullaref08.SameRequest -/
def zcz : AF := ⟨2, 24, [(.tmp 4)],
 (.seq (.ops [⟨some 2, none, .boxi (.tmp 0)⟩,
  ⟨some 3, none, .boxi (.tmp 1)⟩,
  ⟨some 4, none, .mv (.lit (.d (.bool false)))⟩])
 (.seq (.ops [⟨some 5, none, .faddr 0 (.tmp 2)⟩,
  ⟨some 6, none, .load false 1 (.tmp 5)⟩,
  ⟨some 7, none, .faddr 0 (.tmp 3)⟩,
  ⟨some 8, none, .load false 1 (.tmp 7)⟩,
  ⟨some 9, none, .bin .eql .plain (.tmp 6) (.tmp 8)⟩,
  ⟨some 10, none, .mv (.tmp 9)⟩,
  ⟨some 11, some (10, true), .faddr 1 (.tmp 2)⟩,
  ⟨some 12, some (10, true), .load false 1 (.tmp 11)⟩,
  ⟨some 13, some (10, true), .faddr 1 (.tmp 3)⟩,
  ⟨some 14, some (10, true), .load false 1 (.tmp 13)⟩,
  ⟨some 15, some (10, true), .bin .eql .plain (.tmp 12) (.tmp 14)⟩,
  ⟨some 16, none, .pick (.tmp 10) (.tmp 15) (.lit (.d (.bool false)))⟩,
  ⟨some 17, none, .mv (.tmp 16)⟩,
  ⟨some 18, some (17, true), .faddr 2 (.tmp 2)⟩,
  ⟨some 19, some (17, true), .load true 5 (.tmp 18)⟩,
  ⟨some 20, some (17, true), .faddr 2 (.tmp 3)⟩,
  ⟨some 21, some (17, true), .load true 5 (.tmp 20)⟩,
  ⟨some 22, some (17, true), .call false 82 [(.tmp 19), (.tmp 21)]⟩,
  ⟨some 23, none, .pick (.tmp 17) (.tmp 22) (.lit (.d (.bool false)))⟩,
  ⟨some 4, none, .mv (.tmp 23)⟩])
 .ret))⟩
theorem zgh : isF Try.prog zct zcz := ⟨Try.f41, _, Try.func41, by decide +kernel, rfl, by kernel_rfl, by kernel_rfl, by decide, by kernel_rfl, rfl, by kernel_rfl⟩
end Go.Proofs.Ythmdpooklflkfaa

/- Resolved forms, each with the theorem that it is its function's. Printed by program. -/
import Derived.Test.YtcappjcojggehaaNm
import Derived.KernelRfl
set_option linter.all false
set_option maxRecDepth 100000
set_option linter.unusedVariables false
namespace Go.Proofs.Ytcappjcojggehaa
open Go.AW
/-- bulla/request.Valid -/
def zdO : AF := ⟨3, 43, [(.tmp 6)],
 (.seq (.ops [⟨some 5, none, .boxi (.tmp 2)⟩,
  ⟨some 6, none, .mv (.lit (.d (.bool false)))⟩])
 (.seq (.ops [⟨some 12, none, .faddr 0 (.tmp 5)⟩,
  ⟨some 13, none, .load true 7 (.tmp 12)⟩,
  ⟨some 14, none, .call false 70 [(.tmp 13)]⟩,
  ⟨some 11, none, .mv (.tmp 14)⟩,
  ⟨some 15, none, .extract (.tmp 11) 0⟩,
  ⟨some 16, none, .extract (.tmp 11) 1⟩,
  ⟨some 7, none, .mv (.tmp 15)⟩,
  ⟨some 8, none, .mv (.tmp 16)⟩])
 (.seq (.seq (.ops [⟨some 17, none, .mv (.tmp 8)⟩,
  ⟨some 18, none, .bin .neq .plain (.tmp 17) (.lit (.d (.int .i64 0)))⟩])
 (.cond (.tmp 18) (.seq (.ops [⟨some 6, none, .mv (.lit (.d (.bool false)))⟩])
 .ret) .skip))
 (.seq (.ops [⟨some 20, none, .mv (.tmp 0)⟩,
  ⟨some 21, none, .mv (.tmp 7)⟩,
  ⟨some 22, none, .call false 25 [(.tmp 20), (.tmp 21)]⟩,
  ⟨some 19, none, .mv (.tmp 22)⟩,
  ⟨some 23, none, .extract (.tmp 19) 0⟩,
  ⟨some 24, none, .extract (.tmp 19) 1⟩,
  ⟨some 9, none, .mv (.tmp 23)⟩,
  ⟨some 10, none, .mv (.tmp 24)⟩])
 (.seq (.draw [⟨some 25, none, .mv (.tmp 10)⟩,
  ⟨some 26, none, .mv (.tmp 25)⟩,
  ⟨some 27, some (26, true), .faddr 7 (.tmp 5)⟩,
  ⟨some 28, some (26, true), .load true 2 (.tmp 27)⟩,
  ⟨some 29, some (26, true), .faddr 0 (.tmp 5)⟩,
  ⟨some 30, some (26, true), .faddr 0 (.tmp 29)⟩,
  ⟨some 31, some (26, true), .load false 1 (.tmp 30)⟩,
  ⟨some 32, some (26, true), .call false 71 [(.tmp 31)]⟩,
  ⟨some 33, some (26, true), .mv (.tmp 9)⟩,
  ⟨some 34, some (26, true), .build [(.d (.int .i64 0)), (.d (.int .i64 0))] [(0, 1, (.tmp 32)), (1, 1, (.tmp 33))]⟩,
  ⟨some 35, some (26, true), .bin .eql (.ints 2) (.tmp 28) (.tmp 34)⟩,
  ⟨some 36, none, .pick (.tmp 26) (.tmp 35) (.lit (.d (.bool false)))⟩,
  ⟨some 37, none, .mv (.tmp 36)⟩,
  ⟨some 38, some (37, true), .mv (.tmp 1)⟩,
  ⟨some 39, some (37, true), .faddr 7 (.tmp 5)⟩,
  ⟨some 40, some (37, true), .load true 2 (.tmp 39)⟩,
  ⟨some 41, some (37, true), .call false 72 [(.tmp 38), (.tmp 40)]⟩,
  ⟨some 42, none, .pick (.tmp 37) (.tmp 41) (.lit (.d (.bool false)))⟩,
  ⟨some 6, none, .mv (.tmp 42)⟩] [[], [0], [1], [2, 1], [1], [4, 1], [5, 1], [6, 1, 1], [1], [7, 8, 1], [3, 9, 1], [1, 10], [11, 7], [12], [12], [14, 12], [13, 15, 12, 12], [12, 16], [17, 16, 0, 1, 2, 3, 4, 5, 6, 7, 8, 9, 10, 11, 12, 13, 14, 15, 16, 17]] [(0, []), (1, []), (2, []), (3, []), (4, []), (5, []), (6, []), (8, []), (7, [27]), (9, []), (10, []), (11, []), (12, []), (13, []), (14, []), (15, []), (16, []), (17, []), (18, [])] [0, 1, 3, 7, 3, 19, 51, 115, 3, 499, 1023, 2047, 4095, 8191, 8191, 24575, 65535, 131071, 262143])
 .ret)))))⟩
theorem ziM : isF Try.prog zdy zdO := ⟨Try.f48, _, Try.func48, by decide +kernel, rfl, by kernel_rfl, by kernel_rfl, by decide, by kernel_rfl, rfl, by kernel_rfl⟩
/-- (bulla/request.parts).put -/
def zce : AF := ⟨2, 34, [(.tmp 4)],
 (.seq (.ops [⟨some 4, none, .mv (.lit (.exact []))⟩])
 (.seq (.ops [⟨some 9, none, .mv (.tmp 1)⟩,
  ⟨some 10, none, .mv (.tmp 0)⟩,
  ⟨some 11, none, .len .sl (.tmp 10)⟩,
  ⟨some 12, none, .conv (.int .u64) (.tmp 11)⟩,
  ⟨some 13, none, .call false 73 [(.tmp 9), (.tmp 12)]⟩,
  ⟨some 1, none, .mv (.tmp 13)⟩])
 (.seq (.seq (.ops [⟨some 14, none, .mv (.tmp 0)⟩,
  ⟨some 15, none, .len .sl (.tmp 14)⟩,
  ⟨some 16, none, .mv (.lit (.d (.int .i64 0)))⟩])
 (.block 0 (.loop [1, 16] [6, 7, 8, 17, 18, 19, 20, 21, 22, 23, 24, 25, 26, 27, 28, 29, 30, 31, 32] (.seq (.ops [⟨some 17, none, .bin .lss .plain (.tmp 16) (.tmp 15)⟩])
 (.seq (.cond (.tmp 17) .skip (.exit 0))
 (.seq (.block 1 (.seq (.ops [⟨some 18, none, .iaddr none 9 (.tmp 14) (.tmp 16)⟩,
  ⟨some 19, none, .load true 9 (.tmp 18)⟩,
  ⟨some 6, none, .alloc [(.d (.int .i64 0)), (.d (.int .i64 0)), (.d (.int .i64 0)), (.d (.str [])), (.d (.str [])), (.d (.int .i64 0)), (.exact []), (.d (.int .i64 0)), (.d (.int .i64 0))]⟩,
  ⟨none, none, .store 9 (.tmp 6) (.tmp 19)⟩])
 (.seq (.ops [⟨some 21, none, .faddr 0 (.tmp 6)⟩,
  ⟨some 22, none, .load true 7 (.tmp 21)⟩,
  ⟨some 23, none, .call false 70 [(.tmp 22)]⟩,
  ⟨some 20, none, .mv (.tmp 23)⟩,
  ⟨some 24, none, .extract (.tmp 20) 0⟩,
  ⟨some 25, none, .extract (.tmp 20) 1⟩,
  ⟨some 7, none, .mv (.tmp 24)⟩,
  ⟨some 8, none, .mv (.tmp 25)⟩])
 (.draw [⟨some 26, none, .mv (.tmp 1)⟩,
  ⟨some 27, none, .mv (.tmp 7)⟩,
  ⟨some 28, none, .call false 75 [(.tmp 26), (.tmp 27)]⟩,
  ⟨some 29, none, .faddr 7 (.tmp 6)⟩,
  ⟨some 30, none, .load true 2 (.tmp 29)⟩,
  ⟨some 31, none, .call false 74 [(.tmp 28), (.tmp 30)]⟩,
  ⟨some 1, none, .mv (.tmp 31)⟩] [[], [], [0, 1], [], [3], [2, 4, 2], [5, 5, 0, 1, 2, 3, 4, 5]] [(0, []), (1, []), (3, []), (4, []), (2, [29]), (5, []), (6, [])] [0, 0, 3, 0, 8, 31, 63]))))
 (.ops [⟨some 32, none, .bin .add .plain (.tmp 16) (.lit (.d (.int .i64 1)))⟩,
  ⟨some 16, none, .mv (.tmp 32)⟩])))))))
 (.seq (.ops [⟨some 33, none, .mv (.tmp 1)⟩,
  ⟨some 4, none, .mv (.tmp 33)⟩])
 .ret))))⟩
theorem zfJ : isF Try.prog zcb zce := ⟨Try.f49, _, Try.func49, by decide +kernel, rfl, by kernel_rfl, by kernel_rfl, by decide, by kernel_rfl, rfl, by kernel_rfl⟩
/-- bulla/quorum.view -/
def zfb : AF := ⟨2, 16, [(.tmp 4)],
 (.seq (.ops [⟨some 4, none, .mv (.lit (.d (.bool false)))⟩])
 (.seq (.ops [⟨some 5, none, .mv (.tmp 0)⟩,
  ⟨some 6, none, .call false 23 [(.tmp 5)]⟩,
  ⟨some 7, none, .bin .eql .plain (.tmp 6) (.lit (.d (.int .i64 0)))⟩,
  ⟨some 8, none, .mv (.tmp 7)⟩,
  ⟨some 9, some (8, true), .mv (.tmp 1)⟩,
  ⟨some 10, some (8, true), .bin .geq .plain (.tmp 9) (.lit (.d (.int .i64 0)))⟩,
  ⟨some 11, none, .pick (.tmp 8) (.tmp 10) (.lit (.d (.bool false)))⟩,
  ⟨some 12, none, .mv (.tmp 11)⟩,
  ⟨some 13, some (12, true), .mv (.tmp 1)⟩,
  ⟨some 14, some (12, true), .bin .leq .plain (.tmp 13) (.lit (.d (.int .i64 9007199254740992)))⟩,
  ⟨some 15, none, .pick (.tmp 12) (.tmp 14) (.lit (.d (.bool false)))⟩,
  ⟨some 4, none, .mv (.tmp 15)⟩])
 .ret))⟩
theorem zkM : isF Try.prog zeP zfb := ⟨Try.f50, _, Try.func50, by decide +kernel, rfl, by kernel_rfl, by kernel_rfl, by decide, by kernel_rfl, rfl, by kernel_rfl⟩
/-- bulla/auth.made -/
def zhz : AF := ⟨2, 13, [(.tmp 4)],
 (.seq (.ops [⟨some 4, none, .mv (.lit (.d (.bool false)))⟩])
 (.seq (.ops [⟨some 5, none, .mv (.tmp 0)⟩,
  ⟨some 6, none, .call false 21 [(.tmp 5)]⟩,
  ⟨some 7, none, .bin .neq .ptr (.tmp 6) (.lit (.d .nilp))⟩,
  ⟨some 8, none, .mv (.tmp 7)⟩,
  ⟨some 9, some (8, true), .mv (.tmp 1)⟩,
  ⟨some 10, some (8, true), .call false 22 [(.tmp 9)]⟩,
  ⟨some 11, some (8, true), .bin .neq .ptr (.tmp 10) (.lit (.d .nilp))⟩,
  ⟨some 12, none, .pick (.tmp 8) (.tmp 11) (.lit (.d (.bool false)))⟩,
  ⟨some 4, none, .mv (.tmp 12)⟩])
 .ret))⟩
theorem zmY : isF Try.prog zhh zhz := ⟨Try.f51, _, Try.func51, by decide +kernel, rfl, by kernel_rfl, by kernel_rfl, by decide, by kernel_rfl, rfl, by kernel_rfl⟩
/-- bulla/auth.may -/
def zjn : AF := ⟨4, 28, [(.tmp 8)],
 (.seq (.ops [⟨some 8, none, .mv (.lit (.d (.bool false)))⟩])
 (.seq (.seq (.ops [⟨some 11, none, .mv (.tmp 0)⟩,
  ⟨some 12, none, .mv (.tmp 1)⟩,
  ⟨some 13, none, .mv (.tmp 2)⟩,
  ⟨some 14, none, .mv (.tmp 3)⟩,
  ⟨some 15, none, .mkslice false 1 4 [(.d (.int .i64 0))] [(0, 1, (.tmp 11)), (1, 1, (.tmp 12)), (2, 1, (.tmp 13)), (3, 1, (.tmp 14))]⟩,
  ⟨some 16, none, .len .sl (.tmp 15)⟩,
  ⟨some 17, none, .mv (.lit (.d (.int .i64 0)))⟩])
 (.block 0 (.loop [17] [8, 10, 18, 19, 20, 21, 22, 23, 24, 25, 26, 27] (.seq (.ops [⟨some 18, none, .bin .lss .plain (.tmp 17) (.tmp 16)⟩])
 (.seq (.cond (.tmp 18) .skip (.exit 0))
 (.seq (.block 1 (.seq (.ops [⟨some 19, none, .iaddr none 1 (.tmp 15) (.tmp 17)⟩,
  ⟨some 20, none, .load false 1 (.tmp 19)⟩,
  ⟨some 10, none, .mv (.tmp 20)⟩])
 (.seq (.ops [⟨some 21, none, .mv (.tmp 10)⟩,
  ⟨some 22, none, .bin .lss .plain (.tmp 21) (.lit (.d (.int .i64 0)))⟩,
  ⟨some 23, none, .mv (.tmp 22)⟩,
  ⟨some 24, some (23, false), .mv (.tmp 10)⟩,
  ⟨some 25, some (23, false), .bin .gtr .plain (.tmp 24) (.lit (.d (.int .i64 9007199254740992)))⟩,
  ⟨some 26, none, .pick (.tmp 23) (.lit (.d (.bool true))) (.tmp 25)⟩])
 (.cond (.tmp 26) (.seq (.ops [⟨some 8, none, .mv (.lit (.d (.bool false)))⟩])
 .ret) .skip))))
 (.ops [⟨some 27, none, .bin .add .plain (.tmp 17) (.lit (.d (.int .i64 1)))⟩,
  ⟨some 17, none, .mv (.tmp 27)⟩])))))))
 (.seq (.ops [⟨some 8, none, .mv (.lit (.d (.bool true)))⟩])
 .ret)))⟩
theorem isA_auth_may : isF Try.prog ziE zjn := ⟨Try.f52, _, Try.func52, by decide +kernel, rfl, by kernel_rfl, by kernel_rfl, by decide, by kernel_rfl, rfl, by kernel_rfl⟩
/-- bulla/auth.signed -/
def zfe : AF := ⟨5, 32, [(.tmp 10)],
 (.seq (.ops [⟨some 7, none, .boxi (.tmp 2)⟩,
  ⟨some 10, none, .mv (.lit (.d (.bool false)))⟩])
 (.seq (.ops [⟨some 14, none, .mv (.tmp 0)⟩,
  ⟨some 15, none, .mv (.tmp 4)⟩,
  ⟨some 16, none, .call false 25 [(.tmp 14), (.tmp 15)]⟩,
  ⟨some 13, none, .mv (.tmp 16)⟩,
  ⟨some 17, none, .extract (.tmp 13) 0⟩,
  ⟨some 18, none, .extract (.tmp 13) 1⟩,
  ⟨some 11, none, .mv (.tmp 17)⟩,
  ⟨some 12, none, .mv (.tmp 18)⟩])
 (.seq (.ops [⟨some 19, none, .mv (.tmp 12)⟩,
  ⟨some 20, none, .mv (.tmp 19)⟩,
  ⟨some 21, some (20, true), .load true 2 (.tmp 7)⟩,
  ⟨some 22, some (20, true), .mv (.tmp 3)⟩,
  ⟨some 23, some (20, true), .mv (.tmp 11)⟩,
  ⟨some 24, some (20, true), .build [(.d (.int .i64 0)), (.d (.int .i64 0))] [(0, 1, (.tmp 22)), (1, 1, (.tmp 23))]⟩,
  ⟨some 25, some (20, true), .bin .eql (.ints 2) (.tmp 21) (.tmp 24)⟩,
  ⟨some 26, none, .pick (.tmp 20) (.tmp 25) (.lit (.d (.bool false)))⟩,
  ⟨some 27, none, .mv (.tmp 26)⟩,
  ⟨some 28, some (27, true), .mv (.tmp 1)⟩,
  ⟨some 29, some (27, true), .load true 2 (.tmp 7)⟩,
  ⟨some 30, some (27, true), .call false 72 [(.tmp 28), (.tmp 29)]⟩,
  ⟨some 31, none, .pick (.tmp 27) (.tmp 30) (.lit (.d (.bool false)))⟩,
  ⟨some 10, none, .mv (.tmp 31)⟩])
 .ret)))⟩
theorem zkP : isF Try.prog zeS zfe := ⟨Try.f53, _, Try.func53, by decide +kernel, rfl, by kernel_rfl, by kernel_rfl, by decide, by kernel_rfl, rfl, by kernel_rfl⟩
/-- bulla/auth.VoteBytes -/
def zdi : AF := ⟨4, 16, [(.tmp 8)],
 (.seq (.ops [⟨some 8, none, .mv (.lit (.exact []))⟩])
 (.seq (.ops [⟨some 9, none, .mkslice false 1 1 [(.d (.int .u8 0))] [(0, 1, (.lit (.d (.int .u8 4))))]⟩,
  ⟨some 10, none, .mv (.tmp 0)⟩,
  ⟨some 11, none, .mv (.tmp 1)⟩,
  ⟨some 12, none, .mv (.tmp 2)⟩,
  ⟨some 13, none, .mv (.tmp 3)⟩,
  ⟨some 14, none, .mkslice false 1 4 [(.d (.int .i64 0))] [(0, 1, (.tmp 10)), (1, 1, (.tmp 11)), (2, 1, (.tmp 12)), (3, 1, (.tmp 13))]⟩,
  ⟨some 15, none, .call false 76 [(.tmp 9), (.tmp 14)]⟩,
  ⟨some 8, none, .mv (.tmp 15)⟩])
 .ret))⟩
theorem zhW : isF Try.prog zcW zdi := ⟨Try.f54, _, Try.func54, by decide +kernel, rfl, by kernel_rfl, by kernel_rfl, by decide, by kernel_rfl, rfl, by kernel_rfl⟩
/-- bulla/quorum.times -/
def zek : AF := ⟨2, 12, [(.tmp 4)],
 (.seq (.ops [⟨some 4, none, .mv (.lit (.d (.int .i64 0)))⟩])
 (.seq (.seq (.ops [⟨some 5, none, .mv (.tmp 1)⟩,
  ⟨some 6, none, .call false 23 [(.tmp 5)]⟩,
  ⟨some 7, none, .bin .neq .plain (.tmp 6) (.lit (.d (.int .i64 0)))⟩])
 (.cond (.tmp 7) (.seq (.ops [⟨some 4, none, .mv (.lit (.d (.int .i64 0)))⟩])
 .ret) .skip))
 (.seq (.ops [⟨some 8, none, .mv (.tmp 0)⟩,
  ⟨some 9, none, .mv (.tmp 1)⟩,
  ⟨some 10, none, .bin .mul .plain (.tmp 8) (.tmp 9)⟩,
  ⟨some 11, none, .bin .add .plain (.tmp 10) (.lit (.d (.int .i64 1)))⟩,
  ⟨some 4, none, .mv (.tmp 11)⟩])
 .ret)))⟩
theorem zka : isF Try.prog zeg zek := ⟨Try.f55, _, Try.func55, by decide +kernel, rfl, by kernel_rfl, by kernel_rfl, by decide, by kernel_rfl, rfl, by kernel_rfl⟩
/-- bulla/op.Clone -/
def zjj : AF := ⟨1, 22, [(.cell 2 true 5)],
 (.seq (.ops [⟨some 1, none, .boxi (.tmp 0)⟩,
  ⟨some 2, none, .alloc [(.d (.int .i64 0)), (.d (.str [])), (.d (.str [])), (.d (.int .i64 0)), (.exact [])]⟩])
 (.seq (.ops [⟨some 3, none, .mv (.lit (.exact []))⟩])
 (.seq (.seq (.ops [⟨some 6, none, .faddr 4 (.tmp 1)⟩,
  ⟨some 7, none, .load false 1 (.tmp 6)⟩,
  ⟨some 8, none, .len .sl (.tmp 7)⟩,
  ⟨some 9, none, .mv (.lit (.d (.int .i64 0)))⟩])
 (.block 0 (.loop [3, 9] [5, 10, 11, 12, 13, 14, 15, 16, 17, 18] (.seq (.ops [⟨some 10, none, .bin .lss .plain (.tmp 9) (.tmp 8)⟩])
 (.seq (.cond (.tmp 10) .skip (.exit 0))
 (.seq (.block 1 (.seq (.ops [⟨some 11, none, .iaddr none 1 (.tmp 7) (.tmp 9)⟩,
  ⟨some 12, none, .load false 1 (.tmp 11)⟩,
  ⟨some 5, none, .mv (.tmp 12)⟩])
 (.ops [⟨some 13, none, .mv (.tmp 3)⟩,
  ⟨some 14, none, .mv (.tmp 5)⟩,
  ⟨some 15, none, .call false 42 [(.tmp 14)]⟩,
  ⟨some 16, none, .mkslice false 1 1 [(.exact [])] [(0, 1, (.tmp 15))]⟩,
  ⟨some 17, none, .append false 1 24 [(.exact [])] (.tmp 13) (.tmp 16)⟩,
  ⟨some 3, none, .mv (.tmp 17)⟩])))
 (.ops [⟨some 18, none, .bin .add .plain (.tmp 9) (.lit (.d (.int .i64 1)))⟩,
  ⟨some 9, none, .mv (.tmp 18)⟩])))))))
 (.seq (.ops [⟨some 19, none, .mv (.tmp 3)⟩,
  ⟨some 20, none, .faddr 4 (.tmp 1)⟩,
  ⟨none, none, .store 1 (.tmp 20) (.tmp 19)⟩])
 (.seq (.ops [⟨some 21, none, .load true 5 (.tmp 1)⟩,
  ⟨none, none, .store 5 (.tmp 2) (.tmp 21)⟩])
 .ret)))))⟩
theorem isA_op_Clone : isF Try.prog ziB zjj := ⟨Try.f56, _, Try.func56, by decide +kernel, rfl, by kernel_rfl, by kernel_rfl, by decide, by kernel_rfl, rfl, by kernel_rfl⟩
/-- bulla/bullaref08.Check -/
def zht : AF := ⟨1, 20, [(.tmp 2)],
 (.seq (.ops [⟨some 1, none, .boxi (.tmp 0)⟩,
  ⟨some 2, none, .mv (.lit (.d (.int .i64 0)))⟩])
 (.seq (.seq (.ops [⟨some 3, none, .faddr 0 (.tmp 1)⟩,
  ⟨some 4, none, .load false 1 (.tmp 3)⟩,
  ⟨some 5, none, .call false 34 [(.tmp 4)]⟩,
  ⟨some 6, none, .bin .lss .plain (.tmp 5) (.lit (.d (.int .i64 0)))⟩,
  ⟨some 7, none, .mv (.tmp 6)⟩,
  ⟨some 8, some (7, false), .faddr 1 (.tmp 1)⟩,
  ⟨some 9, some (7, false), .load false 1 (.tmp 8)⟩,
  ⟨some 10, some (7, false), .bin .lss .plain (.tmp 9) (.lit (.d (.int .i64 1)))⟩,
  ⟨some 11, none, .pick (.tmp 7) (.lit (.d (.bool true))) (.tmp 10)⟩,
  ⟨some 12, none, .mv (.tmp 11)⟩,
  ⟨some 13, some (12, false), .faddr 1 (.tmp 1)⟩,
  ⟨some 14, some (12, false), .load false 1 (.tmp 13)⟩,
  ⟨some 15, some (12, false), .bin .gtr .plain (.tmp 14) (.lit (.d (.int .i64 9007199254740992)))⟩,
  ⟨some 16, none, .pick (.tmp 12) (.lit (.d (.bool true))) (.tmp 15)⟩])
 (.cond (.tmp 16) (.seq (.ops [⟨some 2, none, .mv (.lit (.d (.int .i64 80)))⟩])
 .ret) .skip))
 (.seq (.ops [⟨some 17, none, .faddr 2 (.tmp 1)⟩,
  ⟨some 18, none, .load true 5 (.tmp 17)⟩,
  ⟨some 19, none, .call false 77 [(.tmp 18)]⟩,
  ⟨some 2, none, .mv (.tmp 19)⟩])
 .ret)))⟩
theorem zmS : isF Try.prog zeM zht := ⟨Try.f57, _, Try.func57, by decide +kernel, rfl, by kernel_rfl, by kernel_rfl, by decide, by kernel_rfl, rfl, by kernel_rfl⟩
/-- bulla/bullaref01.PutNum -/
def zgj : AF := ⟨2, 25, [(.tmp 4)],
 (.seq (.ops [⟨some 4, none, .mv (.lit (.exact []))⟩])
 (.seq (.ops [⟨some 5, none, .mv (.lit (.exact []))⟩])
 (.seq (.ops [⟨some 6, none, .mv (.tmp 5)⟩,
  ⟨some 7, none, .mv (.tmp 0)⟩,
  ⟨some 8, none, .append false 1 1 [(.d (.int .u8 0))] (.tmp 6) (.tmp 7)⟩,
  ⟨some 5, none, .mv (.tmp 8)⟩])
 (.seq (.block 0 (.loop [1, 5] [9, 10, 11, 12, 13, 14, 15, 16, 17, 18, 19] (.seq (.seq (.ops [⟨some 9, none, .mv (.tmp 1)⟩,
  ⟨some 10, none, .bin .geq .plain (.tmp 9) (.lit (.d (.int .u64 128)))⟩])
 (.cond (.tmp 10) .skip (.exit 0)))
 (.block 1 (.seq (.ops [⟨some 11, none, .mv (.tmp 5)⟩,
  ⟨some 12, none, .mv (.tmp 1)⟩,
  ⟨some 13, none, .bin .rem .plain (.tmp 12) (.lit (.d (.int .u64 128)))⟩,
  ⟨some 14, none, .conv (.int .u8) (.tmp 13)⟩,
  ⟨some 15, none, .bin .add .plain (.tmp 14) (.lit (.d (.int .u8 128)))⟩,
  ⟨some 16, none, .mkslice false 1 1 [(.d (.int .u8 0))] [(0, 1, (.tmp 15))]⟩,
  ⟨some 17, none, .append false 1 1 [(.d (.int .u8 0))] (.tmp 11) (.tmp 16)⟩,
  ⟨some 5, none, .mv (.tmp 17)⟩])
 (.ops [⟨some 18, none, .mv (.tmp 1)⟩,
  ⟨some 19, none, .bin .quo .plain (.tmp 18) (.lit (.d (.int .u64 128)))⟩,
  ⟨some 1, none, .mv (.tmp 19)⟩]))))))
 (.seq (.ops [⟨some 20, none, .mv (.tmp 5)⟩,
  ⟨some 21, none, .mv (.tmp 1)⟩,
  ⟨some 22, none, .conv (.int .u8) (.tmp 21)⟩,
  ⟨some 23, none, .mkslice false 1 1 [(.d (.int .u8 0))] [(0, 1, (.tmp 22))]⟩,
  ⟨some 24, none, .append false 1 1 [(.d (.int .u8 0))] (.tmp 20) (.tmp 23)⟩,
  ⟨some 4, none, .mv (.tmp 24)⟩])
 .ret)))))⟩
theorem zlC : isF Try.prog zaB zgj := ⟨Try.f58, _, Try.func58, by decide +kernel, rfl, by kernel_rfl, by kernel_rfl, by decide, by kernel_rfl, rfl, by kernel_rfl⟩
/-- bulla/bullaref06.Put -/
def zlp : AF := ⟨2, 67, [(.tmp 4)],
 (.seq (.ops [⟨some 3, none, .boxi (.tmp 1)⟩,
  ⟨some 4, none, .mv (.lit (.exact []))⟩])
 (.seq (.seq (.ops [⟨some 10, none, .load true 5 (.tmp 3)⟩,
  ⟨some 11, none, .call false 77 [(.tmp 10)]⟩,
  ⟨some 12, none, .bin .neq .plain (.tmp 11) (.lit (.d (.int .i64 0)))⟩])
 (.cond (.tmp 12) (.seq (.ops [⟨some 13, none, .mv (.tmp 0)⟩,
  ⟨some 4, none, .mv (.tmp 13)⟩])
 .ret) .skip))
 (.seq (.ops [⟨some 15, none, .faddr 0 (.tmp 3)⟩,
  ⟨some 16, none, .load false 1 (.tmp 15)⟩,
  ⟨some 17, none, .call false 78 [(.tmp 16)]⟩,
  ⟨some 14, none, .mv (.tmp 17)⟩,
  ⟨some 18, none, .extract (.tmp 14) 0⟩,
  ⟨some 19, none, .extract (.tmp 14) 1⟩,
  ⟨some 20, none, .extract (.tmp 14) 2⟩,
  ⟨some 21, none, .extract (.tmp 14) 3⟩,
  ⟨some 5, none, .mv (.tmp 18)⟩,
  ⟨some 6, none, .mv (.tmp 19)⟩,
  ⟨some 7, none, .mv (.tmp 20)⟩,
  ⟨some 8, none, .mv (.tmp 21)⟩])
 (.seq (.ops [⟨some 22, none, .mv (.tmp 0)⟩,
  ⟨some 23, none, .faddr 0 (.tmp 3)⟩,
  ⟨some 24, none, .load false 1 (.tmp 23)⟩,
  ⟨some 25, none, .conv (.int .u64) (.tmp 24)⟩,
  ⟨some 26, none, .call false 58 [(.tmp 22), (.tmp 25)]⟩,
  ⟨some 0, none, .mv (.tmp 26)⟩])
 (.seq (.seq (.ops [⟨some 27, none, .mv (.tmp 5)⟩])
 (.cond (.tmp 27) (.ops [⟨some 28, none, .mv (.tmp 0)⟩,
  ⟨some 29, none, .faddr 1 (.tmp 3)⟩,
  ⟨some 30, none, .load false 1 (.tmp 29)⟩,
  ⟨some 31, none, .conv .toBytes (.tmp 30)⟩,
  ⟨some 32, none, .call false 64 [(.tmp 28), (.tmp 31)]⟩,
  ⟨some 0, none, .mv (.tmp 32)⟩]) .skip))
 (.seq (.seq (.ops [⟨some 33, none, .mv (.tmp 6)⟩])
 (.cond (.tmp 33) (.ops [⟨some 34, none, .mv (.tmp 0)⟩,
  ⟨some 35, none, .faddr 2 (.tmp 3)⟩,
  ⟨some 36, none, .load false 1 (.tmp 35)⟩,
  ⟨some 37, none, .conv .toBytes (.tmp 36)⟩,
  ⟨some 38, none, .call false 64 [(.tmp 34), (.tmp 37)]⟩,
  ⟨some 0, none, .mv (.tmp 38)⟩]) .skip))
 (.seq (.seq (.ops [⟨some 39, none, .mv (.tmp 7)⟩])
 (.cond (.tmp 39) (.ops [⟨some 40, none, .mv (.tmp 0)⟩,
  ⟨some 41, none, .faddr 3 (.tmp 3)⟩,
  ⟨some 42, none, .load false 1 (.tmp 41)⟩,
  ⟨some 43, none, .conv (.int .u64) (.tmp 42)⟩,
  ⟨some 44, none, .call false 58 [(.tmp 40), (.tmp 43)]⟩,
  ⟨some 0, none, .mv (.tmp 44)⟩]) .skip))
 (.seq (.seq (.ops [⟨some 45, none, .mv (.tmp 8)⟩])
 (.cond (.tmp 45) (.seq (.ops [⟨some 46, none, .mv (.tmp 0)⟩,
  ⟨some 47, none, .faddr 4 (.tmp 3)⟩,
  ⟨some 48, none, .load false 1 (.tmp 47)⟩,
  ⟨some 49, none, .len .sl (.tmp 48)⟩,
  ⟨some 50, none, .conv (.int .u64) (.tmp 49)⟩,
  ⟨some 51, none, .call false 58 [(.tmp 46), (.tmp 50)]⟩,
  ⟨some 0, none, .mv (.tmp 51)⟩])
 (.seq (.ops [⟨some 9, none, .mv (.lit (.d (.int .i64 0)))⟩])
 (.block 0 (.loop [0, 9] [52, 53, 54, 55, 56, 57, 58, 59, 60, 61, 62, 63, 64, 65] (.seq (.seq (.ops [⟨some 52, none, .mv (.tmp 9)⟩,
  ⟨some 53, none, .faddr 4 (.tmp 3)⟩,
  ⟨some 54, none, .load false 1 (.tmp 53)⟩,
  ⟨some 55, none, .len .sl (.tmp 54)⟩,
  ⟨some 56, none, .bin .lss .plain (.tmp 52) (.tmp 55)⟩])
 (.cond (.tmp 56) .skip (.exit 0)))
 (.seq (.block 1 (.ops [⟨some 59, none, .mv (.tmp 0)⟩,
  ⟨some 60, none, .faddr 4 (.tmp 3)⟩,
  ⟨some 61, none, .load false 1 (.tmp 60)⟩,
  ⟨some 62, none, .mv (.tmp 9)⟩,
  ⟨some 63, none, .iaddr none 1 (.tmp 61) (.tmp 62)⟩,
  ⟨some 64, none, .load false 1 (.tmp 63)⟩,
  ⟨some 65, none, .call false 64 [(.tmp 59), (.tmp 64)]⟩,
  ⟨some 0, none, .mv (.tmp 65)⟩]))
 (.ops [⟨some 57, none, .mv (.tmp 9)⟩,
  ⟨some 58, none, .bin .add .plain (.tmp 57) (.lit (.d (.int .i64 1)))⟩,
  ⟨some 9, none, .mv (.tmp 58)⟩]))))))) .skip))
 (.seq (.ops [⟨some 66, none, .mv (.tmp 0)⟩,
  ⟨some 4, none, .mv (.tmp 66)⟩])
 .ret)))))))))⟩
theorem isA_r06_Put : isF Try.prog zkE zlp := ⟨Try.f59, _, Try.func59, by decide +kernel, rfl, by kernel_rfl, by kernel_rfl, by decide, by kernel_rfl, rfl, by kernel_rfl⟩
/-- (*bulla/bullaref02.Ledger).Signed -/
def zcg : AF := ⟨2, 24, [(.tmp 4)],
 (.seq (.ops [⟨some 3, none, .boxi (.tmp 1)⟩,
  ⟨some 4, none, .mv (.lit (.d (.bool false)))⟩])
 (.seq (.seq (.ops [⟨some 5, none, .mv (.lit (.d (.int .i64 0)))⟩])
 (.block 0 (.loop [5] [4, 6, 7, 8, 9, 10, 11, 12, 13, 14, 15, 16, 17, 18, 19, 20, 21, 22, 23] (.seq (.seq (.ops [⟨some 6, none, .mv (.tmp 5)⟩,
  ⟨some 7, none, .mv (.tmp 0)⟩,
  ⟨some 8, none, .nilchk (.tmp 7)⟩,
  ⟨some 9, none, .faddr 0 (.tmp 8)⟩,
  ⟨some 10, none, .load false 1 (.tmp 9)⟩,
  ⟨some 11, none, .len .sl (.tmp 10)⟩,
  ⟨some 12, none, .bin .lss .plain (.tmp 6) (.tmp 11)⟩])
 (.cond (.tmp 12) .skip (.exit 0)))
 (.seq (.block 1 (.seq (.draw [⟨some 15, none, .mv (.tmp 0)⟩,
  ⟨some 16, none, .nilchk (.tmp 15)⟩,
  ⟨some 17, none, .faddr 0 (.tmp 16)⟩,
  ⟨some 18, none, .load false 1 (.tmp 17)⟩,
  ⟨some 19, none, .mv (.tmp 5)⟩,
  ⟨some 20, none, .iaddr none 2 (.tmp 18) (.tmp 19)⟩,
  ⟨some 21, none, .load true 2 (.tmp 20)⟩,
  ⟨some 22, none, .load true 2 (.tmp 3)⟩,
  ⟨some 23, none, .bin .eql (.ints 2) (.tmp 21) (.tmp 22)⟩] [[], [0], [1], [2], [], [3, 4], [5], [], [6, 7]] [(0, []), (1, []), (2, []), (3, []), (4, []), (5, []), (6, []), (7, []), (8, [])] [0, 1, 3, 7, 0, 31, 63, 0, 255])
 (.cond (.tmp 23) (.seq (.ops [⟨some 4, none, .mv (.lit (.d (.bool true)))⟩])
 .ret) .skip)))
 (.ops [⟨some 13, none, .mv (.tmp 5)⟩,
  ⟨some 14, none, .bin .add .plain (.tmp 13) (.lit (.d (.int .i64 1)))⟩,
  ⟨some 5, none, .mv (.tmp 14)⟩]))))))
 (.seq (.ops [⟨some 4, none, .mv (.lit (.d (.bool false)))⟩])
 .ret)))⟩
theorem zfL : isF Try.prog zcc zcg := ⟨Try.f60, _, Try.func60, by decide +kernel, rfl, by kernel_rfl, by kernel_rfl, by decide, by kernel_rfl, rfl, by kernel_rfl⟩
/-- (*bulla/bullaref02.Table).Look -/
def zcZ : AF := ⟨2, 27, [(.tmp 4), (.tmp 5)],
 (.seq (.ops [⟨some 4, none, .mv (.lit (.d (.int .i64 0)))⟩,
  ⟨some 5, none, .mv (.lit (.d (.bool false)))⟩])
 (.seq (.seq (.ops [⟨some 6, none, .mv (.lit (.d (.int .i64 0)))⟩])
 (.block 0 (.loop [6] [4, 5, 7, 8, 9, 10, 11, 12, 13, 14, 15, 16, 17, 18, 19, 20, 21, 22, 23, 24, 25, 26] (.seq (.seq (.ops [⟨some 7, none, .mv (.tmp 6)⟩,
  ⟨some 8, none, .mv (.tmp 0)⟩,
  ⟨some 9, none, .nilchk (.tmp 8)⟩,
  ⟨some 10, none, .faddr 0 (.tmp 9)⟩,
  ⟨some 11, none, .load false 1 (.tmp 10)⟩,
  ⟨some 12, none, .len .sl (.tmp 11)⟩,
  ⟨some 13, none, .bin .lss .plain (.tmp 7) (.tmp 12)⟩])
 (.cond (.tmp 13) .skip (.exit 0)))
 (.seq (.block 1 (.seq (.ops [⟨some 16, none, .mv (.tmp 0)⟩,
  ⟨some 17, none, .nilchk (.tmp 16)⟩,
  ⟨some 18, none, .faddr 0 (.tmp 17)⟩,
  ⟨some 19, none, .load false 1 (.tmp 18)⟩,
  ⟨some 20, none, .mv (.tmp 6)⟩,
  ⟨some 21, none, .iaddr none 1 (.tmp 19) (.tmp 20)⟩,
  ⟨some 22, none, .load false 1 (.tmp 21)⟩,
  ⟨some 23, none, .mv (.tmp 1)⟩,
  ⟨some 24, none, .call false 79 [(.tmp 22), (.tmp 23)]⟩])
 (.cond (.tmp 24) (.seq (.ops [⟨some 25, none, .mv (.tmp 6)⟩,
  ⟨some 26, none, .bin .add .plain (.tmp 25) (.lit (.d (.int .i64 1)))⟩,
  ⟨some 4, none, .mv (.tmp 26)⟩,
  ⟨some 5, none, .mv (.lit (.d (.bool true)))⟩])
 .ret) .skip)))
 (.ops [⟨some 14, none, .mv (.tmp 6)⟩,
  ⟨some 15, none, .bin .add .plain (.tmp 14) (.lit (.d (.int .i64 1)))⟩,
  ⟨some 6, none, .mv (.tmp 15)⟩]))))))
 (.seq (.ops [⟨some 4, none, .mv (.lit (.d (.int .i64 0)))⟩,
  ⟨some 5, none, .mv (.lit (.d (.bool false)))⟩])
 .ret)))⟩
theorem zhN : isF Try.prog zcT zcZ := ⟨Try.f61, _, Try.func61, by decide +kernel, rfl, by kernel_rfl, by kernel_rfl, by decide, by kernel_rfl, rfl, by kernel_rfl⟩
/-- bulla/bullaref08.CheckSign -/
def zdT : AF := ⟨1, 21, [(.tmp 2)],
 (.seq (.ops [⟨some 1, none, .boxi (.tmp 0)⟩,
  ⟨some 2, none, .mv (.lit (.d (.int .i64 0)))⟩])
 (.seq (.seq (.ops [⟨some 3, none, .faddr 0 (.tmp 1)⟩,
  ⟨some 4, none, .load false 1 (.tmp 3)⟩,
  ⟨some 5, none, .bin .lss .plain (.tmp 4) (.lit (.d (.int .i64 0)))⟩,
  ⟨some 6, none, .mv (.tmp 5)⟩,
  ⟨some 7, some (6, false), .faddr 0 (.tmp 1)⟩,
  ⟨some 8, some (6, false), .load false 1 (.tmp 7)⟩,
  ⟨some 9, some (6, false), .bin .geq .plain (.tmp 8) (.lit (.d (.int .i64 21)))⟩,
  ⟨some 10, none, .pick (.tmp 6) (.lit (.d (.bool true))) (.tmp 9)⟩,
  ⟨some 11, none, .mv (.tmp 10)⟩,
  ⟨some 12, some (11, false), .faddr 1 (.tmp 1)⟩,
  ⟨some 13, some (11, false), .load false 1 (.tmp 12)⟩,
  ⟨some 14, some (11, false), .bin .lss .plain (.tmp 13) (.lit (.d (.int .i64 1)))⟩,
  ⟨some 15, none, .pick (.tmp 11) (.lit (.d (.bool true))) (.tmp 14)⟩,
  ⟨some 16, none, .mv (.tmp 15)⟩,
  ⟨some 17, some (16, false), .faddr 1 (.tmp 1)⟩,
  ⟨some 18, some (16, false), .load false 1 (.tmp 17)⟩,
  ⟨some 19, some (16, false), .bin .gtr .plain (.tmp 18) (.lit (.d (.int .i64 9007199254740992)))⟩,
  ⟨some 20, none, .pick (.tmp 16) (.lit (.d (.bool true))) (.tmp 19)⟩])
 (.cond (.tmp 20) (.seq (.ops [⟨some 2, none, .mv (.lit (.d (.int .i64 81)))⟩])
 .ret) .skip))
 (.seq (.ops [⟨some 2, none, .mv (.lit (.d (.int .i64 0)))⟩])
 .ret)))⟩
theorem ziR : isF Try.prog zcu zdT := ⟨Try.f62, _, Try.func62, by decide +kernel, rfl, by kernel_rfl, by kernel_rfl, by decide, by kernel_rfl, rfl, by kernel_rfl⟩
/-- bulla/bullaref08.PutSign -/
def zfa : AF := ⟨2, 18, [(.tmp 4)],
 (.seq (.ops [⟨some 3, none, .boxi (.tmp 1)⟩,
  ⟨some 4, none, .mv (.lit (.exact []))⟩])
 (.seq (.seq (.ops [⟨some 5, none, .load true 2 (.tmp 3)⟩,
  ⟨some 6, none, .call false 62 [(.tmp 5)]⟩,
  ⟨some 7, none, .bin .neq .plain (.tmp 6) (.lit (.d (.int .i64 0)))⟩])
 (.cond (.tmp 7) (.seq (.ops [⟨some 8, none, .mv (.tmp 0)⟩,
  ⟨some 4, none, .mv (.tmp 8)⟩])
 .ret) .skip))
 (.seq (.draw [⟨some 9, none, .mv (.tmp 0)⟩,
  ⟨some 10, none, .faddr 0 (.tmp 3)⟩,
  ⟨some 11, none, .load false 1 (.tmp 10)⟩,
  ⟨some 12, none, .conv (.int .u64) (.tmp 11)⟩,
  ⟨some 13, none, .call false 58 [(.tmp 9), (.tmp 12)]⟩,
  ⟨some 14, none, .faddr 1 (.tmp 3)⟩,
  ⟨some 15, none, .load false 1 (.tmp 14)⟩,
  ⟨some 16, none, .conv (.int .u64) (.tmp 15)⟩,
  ⟨some 17, none, .call false 58 [(.tmp 13), (.tmp 16)]⟩,
  ⟨some 4, none, .mv (.tmp 17)⟩] [[], [], [1], [2], [0, 3], [], [5], [6], [4, 7, 4], [8, 8, 0, 1, 2, 3, 4, 5, 6, 7, 8]] [(0, []), (1, []), (2, []), (3, []), (5, []), (6, []), (7, []), (4, [14]), (8, []), (9, [])] [0, 0, 2, 6, 15, 0, 32, 96, 255, 511])
 .ret)))⟩
theorem zkL : isF Try.prog zeL zfa := ⟨Try.f63, _, Try.func63, by decide +kernel, rfl, by kernel_rfl, by kernel_rfl, by decide, by kernel_rfl, rfl, by kernel_rfl⟩
/-- bulla/bullaref01.PutBytes -/
def zej : AF := ⟨2, 12, [(.tmp 4)],
 (.seq (.ops [⟨some 4, none, .mv (.lit (.exact []))⟩])
 (.seq (.ops [⟨some 5, none, .mv (.tmp 0)⟩,
  ⟨some 6, none, .mv (.tmp 1)⟩,
  ⟨some 7, none, .len .sl (.tmp 6)⟩,
  ⟨some 8, none, .conv (.int .u64) (.tmp 7)⟩,
  ⟨some 9, none, .call false 58 [(.tmp 5), (.tmp 8)]⟩,
  ⟨some 10, none, .mv (.tmp 1)⟩,
  ⟨some 11, none, .append false 1 1 [(.d (.int .u8 0))] (.tmp 9) (.tmp 10)⟩,
  ⟨some 4, none, .mv (.tmp 11)⟩])
 .ret))⟩
theorem zjZ : isF Try.prog zbw zej := ⟨Try.f64, _, Try.func64, by decide +kernel, rfl, by kernel_rfl, by kernel_rfl, by decide, by kernel_rfl, rfl, by kernel_rfl⟩
/-- bulla/bullaref11.num -/
def zlm : AF := ⟨1, 9, [(.tmp 2)],
 (.seq (.ops [⟨some 2, none, .mv (.lit (.d (.bool false)))⟩])
 (.seq (.ops [⟨some 3, none, .mv (.tmp 0)⟩,
  ⟨some 4, none, .bin .geq .plain (.tmp 3) (.lit (.d (.int .i64 0)))⟩,
  ⟨some 5, none, .mv (.tmp 4)⟩,
  ⟨some 6, some (5, true), .mv (.tmp 0)⟩,
  ⟨some 7, some (5, true), .bin .leq .plain (.tmp 6) (.lit (.d (.int .i64 9007199254740992)))⟩,
  ⟨some 8, none, .pick (.tmp 5) (.tmp 7) (.lit (.d (.bool false)))⟩,
  ⟨some 2, none, .mv (.tmp 8)⟩])
 .ret))⟩
theorem isA_r11_num : isF Try.prog zeq zlm := ⟨Try.f65, _, Try.func65, by decide +kernel, rfl, by kernel_rfl, by kernel_rfl, by decide, by kernel_rfl, rfl, by kernel_rfl⟩
/-- bulla/bullaref11.put -/
def zll : AF := ⟨2, 10, [(.tmp 4)],
 (.seq (.ops [⟨some 4, none, .mv (.lit (.exact []))⟩])
 (.seq (.ops [⟨some 5, none, .mv (.tmp 0)⟩,
  ⟨some 6, none, .mv (.tmp 1)⟩,
  ⟨some 7, none, .maxi [(.tmp 6), (.lit (.d (.int .i64 0)))]⟩,
  ⟨some 8, none, .conv (.int .u64) (.tmp 7)⟩,
  ⟨some 9, none, .call false 58 [(.tmp 5), (.tmp 8)]⟩,
  ⟨some 4, none, .mv (.tmp 9)⟩])
 .ret))⟩
theorem isA_r11_put : isF Try.prog zep zll := ⟨Try.f66, _, Try.func66, by decide +kernel, rfl, by kernel_rfl, by kernel_rfl, by decide, by kernel_rfl, rfl, by kernel_rfl⟩
/-- bulla/request.Check -/
def zdQ : AF := ⟨1, 24, [(.tmp 2)],
 (.seq (.ops [⟨some 1, none, .boxi (.tmp 0)⟩,
  ⟨some 2, none, .mv (.lit (.d (.int .i64 0)))⟩])
 (.seq (.seq (.ops [⟨some 3, none, .faddr 0 (.tmp 1)⟩,
  ⟨some 4, none, .load false 1 (.tmp 3)⟩,
  ⟨some 5, none, .bin .lss .plain (.tmp 4) (.lit (.d (.int .i64 0)))⟩,
  ⟨some 6, none, .mv (.tmp 5)⟩,
  ⟨some 7, some (6, false), .faddr 0 (.tmp 1)⟩,
  ⟨some 8, some (6, false), .load false 1 (.tmp 7)⟩,
  ⟨some 9, some (6, false), .bin .geq .plain (.tmp 8) (.lit (.d (.int .i64 8)))⟩,
  ⟨some 10, none, .pick (.tmp 6) (.lit (.d (.bool true))) (.tmp 9)⟩,
  ⟨some 11, none, .mv (.tmp 10)⟩,
  ⟨some 12, some (11, false), .faddr 1 (.tmp 1)⟩,
  ⟨some 13, some (11, false), .load false 1 (.tmp 12)⟩,
  ⟨some 14, some (11, false), .bin .lss .plain (.tmp 13) (.lit (.d (.int .i64 1)))⟩,
  ⟨some 15, none, .pick (.tmp 11) (.lit (.d (.bool true))) (.tmp 14)⟩,
  ⟨some 16, none, .mv (.tmp 15)⟩,
  ⟨some 17, some (16, false), .faddr 1 (.tmp 1)⟩,
  ⟨some 18, some (16, false), .load false 1 (.tmp 17)⟩,
  ⟨some 19, some (16, false), .bin .gtr .plain (.tmp 18) (.lit (.d (.int .i64 9007199254740992)))⟩,
  ⟨some 20, none, .pick (.tmp 16) (.lit (.d (.bool true))) (.tmp 19)⟩])
 (.cond (.tmp 20) (.seq (.ops [⟨some 2, none, .mv (.lit (.d (.int .i64 80)))⟩])
 .ret) .skip))
 (.seq (.ops [⟨some 21, none, .faddr 2 (.tmp 1)⟩,
  ⟨some 22, none, .load true 5 (.tmp 21)⟩,
  ⟨some 23, none, .call false 80 [(.tmp 22)]⟩,
  ⟨some 2, none, .mv (.tmp 23)⟩])
 .ret)))⟩
theorem ziO : isF Try.prog zcs zdQ := ⟨Try.f67, _, Try.func67, by decide +kernel, rfl, by kernel_rfl, by kernel_rfl, by decide, by kernel_rfl, rfl, by kernel_rfl⟩
/-- bulla/request.CheckSign -/
def zcf : AF := ⟨1, 21, [(.tmp 2)],
 (.seq (.ops [⟨some 1, none, .boxi (.tmp 0)⟩,
  ⟨some 2, none, .mv (.lit (.d (.int .i64 0)))⟩])
 (.seq (.seq (.ops [⟨some 3, none, .faddr 0 (.tmp 1)⟩,
  ⟨some 4, none, .load false 1 (.tmp 3)⟩,
  ⟨some 5, none, .bin .lss .plain (.tmp 4) (.lit (.d (.int .i64 0)))⟩,
  ⟨some 6, none, .mv (.tmp 5)⟩,
  ⟨some 7, some (6, false), .faddr 0 (.tmp 1)⟩,
  ⟨some 8, some (6, false), .load false 1 (.tmp 7)⟩,
  ⟨some 9, some (6, false), .bin .geq .plain (.tmp 8) (.lit (.d (.int .i64 21)))⟩,
  ⟨some 10, none, .pick (.tmp 6) (.lit (.d (.bool true))) (.tmp 9)⟩,
  ⟨some 11, none, .mv (.tmp 10)⟩,
  ⟨some 12, some (11, false), .faddr 1 (.tmp 1)⟩,
  ⟨some 13, some (11, false), .load false 1 (.tmp 12)⟩,
  ⟨some 14, some (11, false), .bin .lss .plain (.tmp 13) (.lit (.d (.int .i64 1)))⟩,
  ⟨some 15, none, .pick (.tmp 11) (.lit (.d (.bool true))) (.tmp 14)⟩,
  ⟨some 16, none, .mv (.tmp 15)⟩,
  ⟨some 17, some (16, false), .faddr 1 (.tmp 1)⟩,
  ⟨some 18, some (16, false), .load false 1 (.tmp 17)⟩,
  ⟨some 19, some (16, false), .bin .gtr .plain (.tmp 18) (.lit (.d (.int .i64 9007199254740992)))⟩,
  ⟨some 20, none, .pick (.tmp 16) (.lit (.d (.bool true))) (.tmp 19)⟩])
 (.cond (.tmp 20) (.seq (.ops [⟨some 2, none, .mv (.lit (.d (.int .i64 81)))⟩])
 .ret) .skip))
 (.seq (.ops [⟨some 2, none, .mv (.lit (.d (.int .i64 0)))⟩])
 .ret)))⟩
theorem zfK : isF Try.prog zbn zcf := ⟨Try.f68, _, Try.func68, by decide +kernel, rfl, by kernel_rfl, by kernel_rfl, by decide, by kernel_rfl, rfl, by kernel_rfl⟩
/-- slices.IndexFunc[bulla/api.Batch,bulla/api.Signed] -/
def zar : AF := ⟨2, 19, [(.tmp 4)],
 (.seq (.ops [⟨some 4, none, .mv (.lit (.d (.int .i64 0)))⟩])
 (.seq (.seq (.ops [⟨some 6, none, .mv (.tmp 0)⟩,
  ⟨some 7, none, .len .sl (.tmp 6)⟩,
  ⟨some 8, none, .mv (.lit (.d (.int .i64 0)))⟩])
 (.block 0 (.loop [8] [4, 5, 9, 10, 11, 12, 13, 14, 15, 16, 17, 18] (.seq (.ops [⟨some 9, none, .bin .lss .plain (.tmp 8) (.tmp 7)⟩])
 (.seq (.cond (.tmp 9) .skip (.exit 0))
 (.seq (.block 1 (.seq (.ops [⟨some 10, none, .mv (.tmp 8)⟩,
  ⟨some 5, none, .mv (.tmp 10)⟩])
 (.seq (.ops [⟨some 11, none, .mv (.tmp 1)⟩,
  ⟨some 12, none, .mv (.tmp 0)⟩,
  ⟨some 13, none, .mv (.tmp 5)⟩,
  ⟨some 14, none, .iaddr none 9 (.tmp 12) (.tmp 13)⟩,
  ⟨some 15, none, .load true 9 (.tmp 14)⟩,
  ⟨some 16, none, .callv (.tmp 11) [(.tmp 15)]⟩])
 (.cond (.tmp 16) (.seq (.ops [⟨some 17, none, .mv (.tmp 5)⟩,
  ⟨some 4, none, .mv (.tmp 17)⟩])
 .ret) .skip))))
 (.ops [⟨some 18, none, .bin .add .plain (.tmp 8) (.lit (.d (.int .i64 1)))⟩,
  ⟨some 8, none, .mv (.tmp 18)⟩])))))))
 (.seq (.ops [⟨some 4, none, .mv (.lit (.d (.int .i64 (-1))))⟩])
 .ret)))⟩
theorem zbx : isF Try.prog zaq zar := ⟨Try.f69, _, Try.func69, by decide +kernel, rfl, by kernel_rfl, by kernel_rfl, by decide, by kernel_rfl, rfl, by kernel_rfl⟩
/-- bulla/request.Bytes -/
def zdR : AF := ⟨1, 21, [(.tmp 2), (.tmp 3)],
 (.seq (.ops [⟨some 1, none, .boxi (.tmp 0)⟩,
  ⟨some 2, none, .mv (.lit (.exact []))⟩,
  ⟨some 3, none, .mv (.lit (.d (.int .i64 0)))⟩])
 (.seq (.seq (.ops [⟨some 5, none, .load true 7 (.tmp 1)⟩,
  ⟨some 6, none, .call false 67 [(.tmp 5)]⟩,
  ⟨some 4, none, .mv (.tmp 6)⟩])
 (.seq (.ops [⟨some 7, none, .mv (.tmp 4)⟩,
  ⟨some 8, none, .bin .neq .plain (.tmp 7) (.lit (.d (.int .i64 0)))⟩])
 (.cond (.tmp 8) (.seq (.ops [⟨some 9, none, .mv (.tmp 4)⟩,
  ⟨some 2, none, .mv (.lit (.exact []))⟩,
  ⟨some 3, none, .mv (.tmp 9)⟩])
 .ret) .skip)))
 (.seq (.draw [⟨some 10, none, .faddr 0 (.tmp 1)⟩,
  ⟨some 11, none, .load false 1 (.tmp 10)⟩,
  ⟨some 12, none, .conv (.int .u64) (.tmp 11)⟩,
  ⟨some 13, none, .call false 73 [(.lit (.exact [])), (.tmp 12)]⟩,
  ⟨some 14, none, .faddr 1 (.tmp 1)⟩,
  ⟨some 15, none, .load false 1 (.tmp 14)⟩,
  ⟨some 16, none, .conv (.int .u64) (.tmp 15)⟩,
  ⟨some 17, none, .call false 73 [(.tmp 13), (.tmp 16)]⟩,
  ⟨some 18, none, .faddr 2 (.tmp 1)⟩,
  ⟨some 19, none, .load true 5 (.tmp 18)⟩,
  ⟨some 20, none, .call false 81 [(.tmp 17), (.tmp 19)]⟩,
  ⟨some 2, none, .mv (.tmp 20)⟩,
  ⟨some 3, none, .mv (.lit (.d (.int .i64 0)))⟩] [[], [0], [1], [2], [], [4], [5], [3, 6, 3], [], [8], [7, 9, 7], [10, 10, 0, 1, 2, 3, 4, 5, 6, 7, 8, 9, 10], [11, 0, 1, 2, 3, 4, 5, 6, 7, 8, 9, 10, 11]] [(0, []), (1, []), (2, []), (4, []), (5, []), (6, []), (8, []), (9, []), (3, [14, 18]), (7, [18]), (10, []), (11, []), (12, [])] [0, 1, 3, 7, 0, 16, 48, 127, 0, 256, 1023, 2047, 4095])
 .ret)))⟩
theorem ziP : isF Try.prog zct zdR := ⟨Try.f70, _, Try.func70, by decide +kernel, rfl, by kernel_rfl, by kernel_rfl, by decide, by kernel_rfl, rfl, by kernel_rfl⟩
/-- bulla/request.Key -/
def zeZ : AF := ⟨1, 11, [(.tmp 2)],
 (.seq (.ops [⟨some 2, none, .mv (.lit (.d (.int .i64 0)))⟩])
 (.seq (.seq (.ops [⟨some 3, none, .mv (.tmp 0)⟩,
  ⟨some 4, none, .bin .lss .plain (.tmp 3) (.lit (.d (.int .i64 0)))⟩,
  ⟨some 5, none, .mv (.tmp 4)⟩,
  ⟨some 6, some (5, false), .mv (.tmp 0)⟩,
  ⟨some 7, some (5, false), .bin .geq .plain (.tmp 6) (.lit (.d (.int .i64 8)))⟩,
  ⟨some 8, none, .pick (.tmp 5) (.lit (.d (.bool true))) (.tmp 7)⟩])
 (.cond (.tmp 8) (.seq (.ops [⟨some 2, none, .mv (.lit (.d (.int .i64 (-1))))⟩])
 .ret) .skip))
 (.seq (.ops [⟨some 9, none, .mv (.tmp 0)⟩,
  ⟨some 10, none, .bin .add .plain (.lit (.d (.int .i64 13))) (.tmp 9)⟩,
  ⟨some 2, none, .mv (.tmp 10)⟩])
 .ret)))⟩
theorem zkK : isF Try.prog zeK zeZ := ⟨Try.f71, _, Try.func71, by decide +kernel, rfl, by kernel_rfl, by kernel_rfl, by decide, by kernel_rfl, rfl, by kernel_rfl⟩
/-- (*bulla/ideal.Ledger).Signed -/
def zbC : AF := ⟨2, 16, [(.tmp 4)],
 (.seq (.ops [⟨some 3, none, .boxi (.tmp 1)⟩,
  ⟨some 4, none, .mv (.lit (.d (.bool false)))⟩])
 (.seq (.draw [⟨some 5, none, .mv (.tmp 0)⟩,
  ⟨some 6, none, .call false 43 [(.tmp 5)]⟩,
  ⟨some 7, none, .un .not (.tmp 6)⟩,
  ⟨some 8, none, .mv (.tmp 7)⟩,
  ⟨some 9, some (8, true), .mv (.tmp 0)⟩,
  ⟨some 10, some (8, true), .nilchk (.tmp 9)⟩,
  ⟨some 11, some (8, true), .faddr 1 (.tmp 10)⟩,
  ⟨some 12, some (8, true), .load false 1 (.tmp 11)⟩,
  ⟨some 13, some (8, true), .load true 2 (.tmp 3)⟩,
  ⟨some 14, some (8, true), .mget (.ints 2) false (.d (.bool false)) (.tmp 12) (.tmp 13)⟩,
  ⟨some 15, none, .pick (.tmp 8) (.tmp 14) (.lit (.d (.bool false)))⟩,
  ⟨some 4, none, .mv (.tmp 15)⟩] [[], [0], [1], [2, 1], [3], [4, 3], [5, 3], [6, 3], [3], [7, 8, 3], [3, 9], [10, 3, 0, 1, 2, 3, 4, 5, 6, 7, 8, 9, 10]] [(0, []), (1, []), (2, []), (3, []), (4, []), (5, []), (6, []), (7, []), (8, []), (9, []), (10, []), (11, [])] [0, 1, 3, 7, 15, 31, 63, 127, 15, 511, 1023, 2047])
 .ret))⟩
theorem zeT : isF Try.prog zaX zbC := ⟨Try.f72, _, Try.func72, by decide +kernel, rfl, by kernel_rfl, by kernel_rfl, by decide, by kernel_rfl, rfl, by kernel_rfl⟩
/-- bulla/codec.PutNum -/
def zen : AF := ⟨2, 17, [(.tmp 4)],
 (.seq (.ops [⟨some 4, none, .mv (.lit (.exact []))⟩])
 (.seq (.ops [⟨some 8, none, .mv (.tmp 1)⟩,
  ⟨some 9, none, .call false 82 [(.tmp 8)]⟩,
  ⟨some 7, none, .mv (.tmp 9)⟩,
  ⟨some 10, none, .extract (.tmp 7) 0⟩,
  ⟨some 11, none, .extract (.tmp 7) 1⟩,
  ⟨some 5, none, .alloc [(.d (.int .u8 0)), (.d (.int .u8 0)), (.d (.int .u8 0)), (.d (.int .u8 0)), (.d (.int .u8 0)), (.d (.int .u8 0)), (.d (.int .u8 0)), (.d (.int .u8 0)), (.d (.int .u8 0)), (.d (.int .u8 0))]⟩,
  ⟨none, none, .store 10 (.tmp 5) (.tmp 10)⟩,
  ⟨some 6, none, .mv (.tmp 11)⟩])
 (.seq (.draw [⟨some 12, none, .mv (.tmp 0)⟩,
  ⟨some 13, none, .call false 83 [(.tmp 12)]⟩,
  ⟨some 14, none, .mv (.tmp 6)⟩,
  ⟨some 15, none, .slc (.arr 10 1) (.tmp 5) none (some (.tmp 14)) none⟩,
  ⟨some 16, none, .append false 1 1 [(.d (.int .u8 0))] (.tmp 13) (.tmp 15)⟩,
  ⟨some 4, none, .mv (.tmp 16)⟩] [[], [0], [], [2], [1, 3, 1], [4, 4, 0, 1, 2, 3, 4]] [(0, []), (2, []), (3, []), (1, []), (4, []), (5, [])] [0, 1, 0, 4, 15, 31])
 .ret)))⟩
theorem zkd : isF Try.prog zan zen := ⟨Try.f73, _, Try.func73, by decide +kernel, rfl, by kernel_rfl, by kernel_rfl, by decide, by kernel_rfl, rfl, by kernel_rfl⟩
/-- bulla/request.PutSign -/
def zcJ : AF := ⟨2, 19, [(.tmp 4)],
 (.seq (.ops [⟨some 3, none, .boxi (.tmp 1)⟩,
  ⟨some 4, none, .mv (.lit (.exact []))⟩])
 (.seq (.seq (.ops [⟨some 5, none, .load true 2 (.tmp 3)⟩,
  ⟨some 6, none, .call false 68 [(.tmp 5)]⟩,
  ⟨some 7, none, .bin .neq .plain (.tmp 6) (.lit (.d (.int .i64 0)))⟩])
 (.cond (.tmp 7) (.seq (.ops [⟨some 8, none, .mv (.tmp 0)⟩,
  ⟨some 9, none, .call false 42 [(.tmp 8)]⟩,
  ⟨some 4, none, .mv (.tmp 9)⟩])
 .ret) .skip))
 (.seq (.draw [⟨some 10, none, .mv (.tmp 0)⟩,
  ⟨some 11, none, .faddr 0 (.tmp 3)⟩,
  ⟨some 12, none, .load false 1 (.tmp 11)⟩,
  ⟨some 13, none, .conv (.int .u64) (.tmp 12)⟩,
  ⟨some 14, none, .call false 73 [(.tmp 10), (.tmp 13)]⟩,
  ⟨some 15, none, .faddr 1 (.tmp 3)⟩,
  ⟨some 16, none, .load false 1 (.tmp 15)⟩,
  ⟨some 17, none, .conv (.int .u64) (.tmp 16)⟩,
  ⟨some 18, none, .call false 73 [(.tmp 14), (.tmp 17)]⟩,
  ⟨some 4, none, .mv (.tmp 18)⟩] [[], [], [1], [2], [0, 3], [], [5], [6], [4, 7, 4], [8, 8, 0, 1, 2, 3, 4, 5, 6, 7, 8]] [(0, []), (1, []), (2, []), (3, []), (5, []), (6, []), (7, []), (4, [15]), (8, []), (9, [])] [0, 0, 2, 6, 15, 0, 32, 96, 255, 511])
 .ret)))⟩
theorem zhj : isF Try.prog zcF zcJ := ⟨Try.f74, _, Try.func74, by decide +kernel, rfl, by kernel_rfl, by kernel_rfl, by decide, by kernel_rfl, rfl, by kernel_rfl⟩
/-- bulla/codec.PutBytes -/
def zdh : AF := ⟨2, 12, [(.tmp 4)],
 (.seq (.ops [⟨some 4, none, .mv (.lit (.exact []))⟩])
 (.seq (.ops [⟨some 5, none, .mv (.tmp 0)⟩,
  ⟨some 6, none, .mv (.tmp 1)⟩,
  ⟨some 7, none, .len .sl (.tmp 6)⟩,
  ⟨some 8, none, .conv (.int .u64) (.tmp 7)⟩,
  ⟨some 9, none, .call false 73 [(.tmp 5), (.tmp 8)]⟩,
  ⟨some 10, none, .mv (.tmp 1)⟩,
  ⟨some 11, none, .append false 1 1 [(.d (.int .u8 0))] (.tmp 9) (.tmp 10)⟩,
  ⟨some 4, none, .mv (.tmp 11)⟩])
 .ret))⟩
theorem zhV : isF Try.prog zaT zdh := ⟨Try.f75, _, Try.func75, by decide +kernel, rfl, by kernel_rfl, by kernel_rfl, by decide, by kernel_rfl, rfl, by kernel_rfl⟩
/-- bulla/auth.put -/
def zjm : AF := ⟨2, 20, [(.tmp 4)],
 (.seq (.ops [⟨some 4, none, .mv (.lit (.exact []))⟩])
 (.seq (.seq (.ops [⟨some 7, none, .mv (.tmp 1)⟩,
  ⟨some 8, none, .len .sl (.tmp 7)⟩,
  ⟨some 9, none, .mv (.lit (.d (.int .i64 0)))⟩])
 (.block 0 (.loop [0, 9] [6, 10, 11, 12, 13, 14, 15, 16, 17, 18] (.seq (.ops [⟨some 10, none, .bin .lss .plain (.tmp 9) (.tmp 8)⟩])
 (.seq (.cond (.tmp 10) .skip (.exit 0))
 (.seq (.block 1 (.seq (.ops [⟨some 11, none, .iaddr none 1 (.tmp 7) (.tmp 9)⟩,
  ⟨some 12, none, .load false 1 (.tmp 11)⟩,
  ⟨some 6, none, .mv (.tmp 12)⟩])
 (.ops [⟨some 13, none, .mv (.tmp 0)⟩,
  ⟨some 14, none, .mv (.tmp 6)⟩,
  ⟨some 15, none, .maxi [(.lit (.d (.int .i64 0))), (.tmp 14)]⟩,
  ⟨some 16, none, .conv (.int .u64) (.tmp 15)⟩,
  ⟨some 17, none, .call false 73 [(.tmp 13), (.tmp 16)]⟩,
  ⟨some 0, none, .mv (.tmp 17)⟩])))
 (.ops [⟨some 18, none, .bin .add .plain (.tmp 9) (.lit (.d (.int .i64 1)))⟩,
  ⟨some 9, none, .mv (.tmp 18)⟩])))))))
 (.seq (.ops [⟨some 19, none, .mv (.tmp 0)⟩,
  ⟨some 4, none, .mv (.tmp 19)⟩])
 .ret)))⟩
theorem isA_auth_put : isF Try.prog ziD zjm := ⟨Try.f76, _, Try.func76, by decide +kernel, rfl, by kernel_rfl, by kernel_rfl, by decide, by kernel_rfl, rfl, by kernel_rfl⟩
/-- bulla/bullaref06.Check -/
def zhx : AF := ⟨1, 112, [(.tmp 2)],
 (.seq (.ops [⟨some 1, none, .boxi (.tmp 0)⟩,
  ⟨some 2, none, .mv (.lit (.d (.int .i64 0)))⟩])
 (.seq (.ops [⟨some 9, none, .faddr 0 (.tmp 1)⟩,
  ⟨some 10, none, .load false 1 (.tmp 9)⟩,
  ⟨some 11, none, .call false 78 [(.tmp 10)]⟩,
  ⟨some 8, none, .mv (.tmp 11)⟩,
  ⟨some 12, none, .extract (.tmp 8) 0⟩,
  ⟨some 13, none, .extract (.tmp 8) 1⟩,
  ⟨some 14, none, .extract (.tmp 8) 2⟩,
  ⟨some 15, none, .extract (.tmp 8) 3⟩,
  ⟨some 3, none, .mv (.tmp 12)⟩,
  ⟨some 4, none, .mv (.tmp 13)⟩,
  ⟨some 5, none, .mv (.tmp 14)⟩,
  ⟨some 6, none, .mv (.tmp 15)⟩])
 (.seq (.seq (.ops [⟨some 16, none, .faddr 0 (.tmp 1)⟩,
  ⟨some 17, none, .load false 1 (.tmp 16)⟩,
  ⟨some 18, none, .bin .lss .plain (.tmp 17) (.lit (.d (.int .i64 0)))⟩,
  ⟨some 19, none, .mv (.tmp 18)⟩,
  ⟨some 20, some (19, false), .faddr 0 (.tmp 1)⟩,
  ⟨some 21, some (19, false), .load false 1 (.tmp 20)⟩,
  ⟨some 22, some (19, false), .bin .gtr .plain (.tmp 21) (.lit (.d (.int .i64 4)))⟩,
  ⟨some 23, none, .pick (.tmp 19) (.lit (.d (.bool true))) (.tmp 22)⟩,
  ⟨some 24, none, .mv (.tmp 23)⟩,
  ⟨some 25, some (24, false), .mv (.tmp 3)⟩,
  ⟨some 26, some (24, false), .un .not (.tmp 25)⟩,
  ⟨some 27, some (24, false), .mv (.tmp 26)⟩,
  ⟨some 28, some (27, true), .faddr 1 (.tmp 1)⟩,
  ⟨some 29, some (27, true), .load false 1 (.tmp 28)⟩,
  ⟨some 30, some (27, true), .bin .neq .plain (.tmp 29) (.lit (.d (.str [])))⟩,
  ⟨some 31, some (24, false), .pick (.tmp 27) (.tmp 30) (.lit (.d (.bool false)))⟩,
  ⟨some 32, none, .pick (.tmp 24) (.lit (.d (.bool true))) (.tmp 31)⟩,
  ⟨some 33, none, .mv (.tmp 32)⟩,
  ⟨some 34, some (33, false), .mv (.tmp 4)⟩,
  ⟨some 35, some (33, false), .un .not (.tmp 34)⟩,
  ⟨some 36, some (33, false), .mv (.tmp 35)⟩,
  ⟨some 37, some (36, true), .faddr 2 (.tmp 1)⟩,
  ⟨some 38, some (36, true), .load false 1 (.tmp 37)⟩,
  ⟨some 39, some (36, true), .bin .neq .plain (.tmp 38) (.lit (.d (.str [])))⟩,
  ⟨some 40, some (33, false), .pick (.tmp 36) (.tmp 39) (.lit (.d (.bool false)))⟩,
  ⟨some 41, none, .pick (.tmp 33) (.lit (.d (.bool true))) (.tmp 40)⟩,
  ⟨some 42, none, .mv (.tmp 41)⟩,
  ⟨some 43, some (42, false), .mv (.tmp 5)⟩,
  ⟨some 44, some (42, false), .un .not (.tmp 43)⟩,
  ⟨some 45, some (42, false), .mv (.tmp 44)⟩,
  ⟨some 46, some (45, true), .faddr 3 (.tmp 1)⟩,
  ⟨some 47, some (45, true), .load false 1 (.tmp 46)⟩,
  ⟨some 48, some (45, true), .bin .neq .plain (.tmp 47) (.lit (.d (.int .i64 0)))⟩,
  ⟨some 49, some (42, false), .pick (.tmp 45) (.tmp 48) (.lit (.d (.bool false)))⟩,
  ⟨some 50, none, .pick (.tmp 42) (.lit (.d (.bool true))) (.tmp 49)⟩,
  ⟨some 51, none, .mv (.tmp 50)⟩,
  ⟨some 52, some (51, false), .mv (.tmp 6)⟩,
  ⟨some 53, some (51, false), .un .not (.tmp 52)⟩,
  ⟨some 54, some (51, false), .mv (.tmp 53)⟩,
  ⟨some 55, some (54, true), .faddr 4 (.tmp 1)⟩,
  ⟨some 56, some (54, true), .load false 1 (.tmp 55)⟩,
  ⟨some 57, some (54, true), .len .sl (.tmp 56)⟩,
  ⟨some 58, some (54, true), .bin .gtr .plain (.tmp 57) (.lit (.d (.int .i64 0)))⟩,
  ⟨some 59, some (51, false), .pick (.tmp 54) (.tmp 58) (.lit (.d (.bool false)))⟩,
  ⟨some 60, none, .pick (.tmp 51) (.lit (.d (.bool true))) (.tmp 59)⟩])
 (.cond (.tmp 60) (.seq (.ops [⟨some 2, none, .mv (.lit (.d (.int .i64 60)))⟩])
 .ret) .skip))
 (.seq (.seq (.ops [⟨some 61, none, .mv (.tmp 3)⟩,
  ⟨some 62, none, .mv (.tmp 61)⟩,
  ⟨some 63, some (62, true), .faddr 1 (.tmp 1)⟩,
  ⟨some 64, some (62, true), .load false 1 (.tmp 63)⟩,
  ⟨some 65, some (62, true), .call false 84 [(.tmp 64)]⟩,
  ⟨some 66, some (62, true), .un .not (.tmp 65)⟩,
  ⟨some 67, none, .pick (.tmp 62) (.tmp 66) (.lit (.d (.bool false)))⟩,
  ⟨some 68, none, .mv (.tmp 67)⟩,
  ⟨some 69, some (68, false), .mv (.tmp 4)⟩,
  ⟨some 70, some (68, false), .mv (.tmp 69)⟩,
  ⟨some 71, some (70, true), .faddr 2 (.tmp 1)⟩,
  ⟨some 72, some (70, true), .load false 1 (.tmp 71)⟩,
  ⟨some 73, some (70, true), .call false 84 [(.tmp 72)]⟩,
  ⟨some 74, some (70, true), .un .not (.tmp 73)⟩,
  ⟨some 75, some (68, false), .pick (.tmp 70) (.tmp 74) (.lit (.d (.bool false)))⟩,
  ⟨some 76, none, .pick (.tmp 68) (.lit (.d (.bool true))) (.tmp 75)⟩])
 (.cond (.tmp 76) (.seq (.ops [⟨some 2, none, .mv (.lit (.d (.int .i64 61)))⟩])
 .ret) .skip))
 (.seq (.seq (.ops [⟨some 77, none, .mv (.tmp 6)⟩,
  ⟨some 78, none, .mv (.tmp 77)⟩,
  ⟨some 79, some (78, true), .faddr 4 (.tmp 1)⟩,
  ⟨some 80, some (78, true), .load false 1 (.tmp 79)⟩,
  ⟨some 81, some (78, true), .len .sl (.tmp 80)⟩,
  ⟨some 82, some (78, true), .bin .lss .plain (.tmp 81) (.lit (.d (.int .i64 1)))⟩,
  ⟨some 83, some (78, true), .mv (.tmp 82)⟩,
  ⟨some 84, some (83, false), .faddr 4 (.tmp 1)⟩,
  ⟨some 85, some (83, false), .load false 1 (.tmp 84)⟩,
  ⟨some 86, some (83, false), .len .sl (.tmp 85)⟩,
  ⟨some 87, some (83, false), .bin .gtr .plain (.tmp 86) (.lit (.d (.int .i64 4)))⟩,
  ⟨some 88, some (78, true), .pick (.tmp 83) (.lit (.d (.bool true))) (.tmp 87)⟩,
  ⟨some 89, none, .pick (.tmp 78) (.tmp 88) (.lit (.d (.bool false)))⟩])
 (.cond (.tmp 89) (.seq (.ops [⟨some 2, none, .mv (.lit (.d (.int .i64 62)))⟩])
 .ret) .skip))
 (.seq (.seq (.ops [⟨some 7, none, .mv (.lit (.d (.int .i64 0)))⟩])
 (.block 0 (.loop [7] [2, 90, 91, 92, 93, 94, 95, 96, 97, 98, 99, 100, 101, 102, 103] (.seq (.seq (.ops [⟨some 90, none, .mv (.tmp 7)⟩,
  ⟨some 91, none, .faddr 4 (.tmp 1)⟩,
  ⟨some 92, none, .load false 1 (.tmp 91)⟩,
  ⟨some 93, none, .len .sl (.tmp 92)⟩,
  ⟨some 94, none, .bin .lss .plain (.tmp 90) (.tmp 93)⟩])
 (.cond (.tmp 94) .skip (.exit 0)))
 (.seq (.block 1 (.seq (.ops [⟨some 97, none, .faddr 4 (.tmp 1)⟩,
  ⟨some 98, none, .load false 1 (.tmp 97)⟩,
  ⟨some 99, none, .mv (.tmp 7)⟩,
  ⟨some 100, none, .iaddr none 1 (.tmp 98) (.tmp 99)⟩,
  ⟨some 101, none, .load false 1 (.tmp 100)⟩,
  ⟨some 102, none, .len .sl (.tmp 101)⟩,
  ⟨some 103, none, .bin .gtr .plain (.tmp 102) (.lit (.d (.int .i64 64)))⟩])
 (.cond (.tmp 103) (.seq (.ops [⟨some 2, none, .mv (.lit (.d (.int .i64 62)))⟩])
 .ret) .skip)))
 (.ops [⟨some 95, none, .mv (.tmp 7)⟩,
  ⟨some 96, none, .bin .add .plain (.tmp 95) (.lit (.d (.int .i64 1)))⟩,
  ⟨some 7, none, .mv (.tmp 96)⟩]))))))
 (.seq (.seq (.ops [⟨some 104, none, .faddr 3 (.tmp 1)⟩,
  ⟨some 105, none, .load false 1 (.tmp 104)⟩,
  ⟨some 106, none, .bin .lss .plain (.tmp 105) (.lit (.d (.int .i64 0)))⟩,
  ⟨some 107, none, .mv (.tmp 106)⟩,
  ⟨some 108, some (107, false), .faddr 3 (.tmp 1)⟩,
  ⟨some 109, some (107, false), .load false 1 (.tmp 108)⟩,
  ⟨some 110, some (107, false), .bin .gtr .plain (.tmp 109) (.lit (.d (.int .i64 9007199254740992)))⟩,
  ⟨some 111, none, .pick (.tmp 107) (.lit (.d (.bool true))) (.tmp 110)⟩])
 (.cond (.tmp 111) (.seq (.ops [⟨some 2, none, .mv (.lit (.d (.int .i64 60)))⟩])
 .ret) .skip))
 (.seq (.ops [⟨some 2, none, .mv (.lit (.d (.int .i64 0)))⟩])
 .ret))))))))⟩
theorem zmW : isF Try.prog zeO zhx := ⟨Try.f77, _, Try.func77, by decide +kernel, rfl, by kernel_rfl, by kernel_rfl, by decide, by kernel_rfl, rfl, by kernel_rfl⟩
/-- bulla/bullaref06.fields -/
def zgi : AF := ⟨1, 15, [(.tmp 2), (.tmp 3), (.tmp 4), (.tmp 5)],
 (.seq (.ops [⟨some 2, none, .mv (.lit (.d (.bool false)))⟩,
  ⟨some 3, none, .mv (.lit (.d (.bool false)))⟩,
  ⟨some 4, none, .mv (.lit (.d (.bool false)))⟩,
  ⟨some 5, none, .mv (.lit (.d (.bool false)))⟩])
 (.seq (.ops [⟨some 6, none, .mv (.tmp 0)⟩])
 (.block 0 (.seq (.ops [⟨some 8, none, .bin .eql .plain (.tmp 6) (.lit (.d (.int .i64 1)))⟩,
  ⟨some 7, none, .mv (.tmp 8)⟩])
 (.cond (.tmp 7) (.seq (.ops [⟨some 2, none, .mv (.lit (.d (.bool true)))⟩,
  ⟨some 3, none, .mv (.lit (.d (.bool false)))⟩,
  ⟨some 4, none, .mv (.lit (.d (.bool false)))⟩,
  ⟨some 5, none, .mv (.lit (.d (.bool false)))⟩])
 .ret) (.seq (.ops [⟨some 10, none, .bin .eql .plain (.tmp 6) (.lit (.d (.int .i64 2)))⟩,
  ⟨some 9, none, .mv (.tmp 10)⟩])
 (.cond (.tmp 9) (.seq (.ops [⟨some 2, none, .mv (.lit (.d (.bool true)))⟩,
  ⟨some 3, none, .mv (.lit (.d (.bool false)))⟩,
  ⟨some 4, none, .mv (.lit (.d (.bool false)))⟩,
  ⟨some 5, none, .mv (.lit (.d (.bool true)))⟩])
 .ret) (.seq (.ops [⟨some 12, none, .bin .eql .plain (.tmp 6) (.lit (.d (.int .i64 3)))⟩,
  ⟨some 11, none, .mv (.tmp 12)⟩])
 (.cond (.tmp 11) (.seq (.ops [⟨some 2, none, .mv (.lit (.d (.bool true)))⟩,
  ⟨some 3, none, .mv (.lit (.d (.bool true)))⟩,
  ⟨some 4, none, .mv (.lit (.d (.bool true)))⟩,
  ⟨some 5, none, .mv (.lit (.d (.bool false)))⟩])
 .ret) (.seq (.ops [⟨some 14, none, .bin .eql .plain (.tmp 6) (.lit (.d (.int .i64 4)))⟩,
  ⟨some 13, none, .mv (.tmp 14)⟩])
 (.cond (.tmp 13) (.seq (.ops [⟨some 2, none, .mv (.lit (.d (.bool true)))⟩,
  ⟨some 3, none, .mv (.lit (.d (.bool false)))⟩,
  ⟨some 4, none, .mv (.lit (.d (.bool true)))⟩,
  ⟨some 5, none, .mv (.lit (.d (.bool false)))⟩])
 .ret) (.seq (.ops [⟨some 2, none, .mv (.lit (.d (.bool false)))⟩,
  ⟨some 3, none, .mv (.lit (.d (.bool false)))⟩,
  ⟨some 4, none, .mv (.lit (.d (.bool false)))⟩,
  ⟨some 5, none, .mv (.lit (.d (.bool false)))⟩])
 .ret))))))))))))⟩
theorem zlB : isF Try.prog zdW zgi := ⟨Try.f78, _, Try.func78, by decide +kernel, rfl, by kernel_rfl, by kernel_rfl, by decide, by kernel_rfl, rfl, by kernel_rfl⟩
/-- bulla/bullaref02.Same -/
def zjh : AF := ⟨2, 10, [(.tmp 4)],
 (.seq (.ops [⟨some 4, none, .mv (.lit (.d (.bool false)))⟩])
 (.seq (.ops [⟨some 5, none, .mv (.tmp 0)⟩,
  ⟨some 6, none, .conv .toStr (.tmp 5)⟩,
  ⟨some 7, none, .mv (.tmp 1)⟩,
  ⟨some 8, none, .conv .toStr (.tmp 7)⟩,
  ⟨some 9, none, .bin .eql .plain (.tmp 6) (.tmp 8)⟩,
  ⟨some 4, none, .mv (.tmp 9)⟩])
 .ret))⟩
theorem isA_r02_Same : isF Try.prog ziz zjh := ⟨Try.f79, _, Try.func79, by decide +kernel, rfl, by kernel_rfl, by kernel_rfl, by decide, by kernel_rfl, rfl, by kernel_rfl⟩
end Go.Proofs.Ytcappjcojggehaa

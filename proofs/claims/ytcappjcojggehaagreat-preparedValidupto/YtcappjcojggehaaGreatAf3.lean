/- Resolved forms, each with the theorem that it is its function's. Printed by program. -/
import Derived.Test.YtcappjcojggehaaGreatNm
import Derived.KernelRfl
set_option linter.all false
set_option maxRecDepth 100000
set_option linter.unusedVariables false
namespace Go.Proofs.YtcappjcojggehaaGreat
open Go.AW
/-- (*bulla/ideal.Table).Look -/
def zcE : AF := ⟨2, 22, [(.tmp 4), (.tmp 5)],
 (.seq (.ops [⟨some 4, none, .mv (.lit (.d (.int .i64 0)))⟩,
  ⟨some 5, none, .mv (.lit (.d (.bool false)))⟩])
 (.seq (.seq (.ops [⟨some 8, none, .mv (.tmp 0)⟩,
  ⟨some 9, none, .call false 61 [(.tmp 8)]⟩])
 (.cond (.tmp 9) (.seq (.ops [⟨some 4, none, .mv (.lit (.d (.int .i64 0)))⟩,
  ⟨some 5, none, .mv (.lit (.d (.bool false)))⟩])
 .ret) .skip))
 (.seq (.draw [⟨some 11, none, .mv (.tmp 0)⟩,
  ⟨some 12, none, .nilchk (.tmp 11)⟩,
  ⟨some 13, none, .faddr 1 (.tmp 12)⟩,
  ⟨some 14, none, .load false 1 (.tmp 13)⟩,
  ⟨some 15, none, .mv (.tmp 1)⟩,
  ⟨some 16, none, .conv .toStr (.tmp 15)⟩,
  ⟨some 17, none, .mget .str true (.d (.int .i64 0)) (.tmp 14) (.tmp 16)⟩,
  ⟨some 10, none, .mv (.tmp 17)⟩,
  ⟨some 18, none, .extract (.tmp 10) 0⟩,
  ⟨some 19, none, .extract (.tmp 10) 1⟩,
  ⟨some 6, none, .mv (.tmp 18)⟩,
  ⟨some 7, none, .mv (.tmp 19)⟩] [[], [0], [1], [2], [], [4], [3, 5], [6], [7], [7], [8, 0, 1, 2, 3, 4, 5, 6, 7, 8], [9, 10, 0, 1, 2, 3, 4, 5, 6, 7, 8, 9, 10]] [(0, []), (1, []), (2, []), (3, []), (4, []), (5, []), (6, []), (7, []), (8, []), (9, []), (10, []), (11, [])] [0, 1, 3, 7, 0, 16, 63, 127, 255, 255, 511, 2047])
 (.seq (.ops [⟨some 20, none, .mv (.tmp 6)⟩,
  ⟨some 21, none, .mv (.tmp 7)⟩,
  ⟨some 4, none, .mv (.tmp 20)⟩,
  ⟨some 5, none, .mv (.tmp 21)⟩])
 .ret))))⟩
theorem zhf : isF Tryz.prog zaM zcE := ⟨Tryz.f51, _, Tryz.func51, by decide +kernel, rfl, by kernel_rfl, by kernel_rfl, by decide, by kernel_rfl, rfl, by kernel_rfl⟩
/-- bulla/request.PutBatch -/
def zcC : AF := ⟨2, 16, [(.tmp 4)],
 (.seq (.ops [⟨some 4, none, .mv (.lit (.exact []))⟩])
 (.seq (.seq (.ops [⟨some 6, none, .mv (.tmp 1)⟩,
  ⟨some 7, none, .call false 82 [(.tmp 6)]⟩,
  ⟨some 8, none, .bin .neq .plain (.tmp 7) (.lit (.d (.int .i64 0)))⟩])
 (.cond (.tmp 8) (.seq (.ops [⟨some 9, none, .mv (.tmp 0)⟩,
  ⟨some 10, none, .call false 80 [(.tmp 9)]⟩,
  ⟨some 4, none, .mv (.tmp 10)⟩])
 .ret) .skip))
 (.seq (.ops [⟨some 11, none, .mv (.tmp 1)⟩,
  ⟨some 12, none, .mkfn (.func 86) [(.tmp 11)] []⟩,
  ⟨some 5, none, .mv (.tmp 12)⟩])
 (.seq (.ops [⟨some 13, none, .mv (.tmp 5)⟩,
  ⟨some 14, none, .mv (.tmp 0)⟩,
  ⟨some 15, none, .callv (.tmp 13) [(.tmp 14)]⟩,
  ⟨some 4, none, .mv (.tmp 15)⟩])
 .ret))))⟩
theorem zhd : isF Tryz.prog zcq zcC := ⟨Tryz.f52, _, Tryz.func52, by decide +kernel, rfl, by kernel_rfl, by kernel_rfl, by decide, by kernel_rfl, rfl, by kernel_rfl⟩
/-- bulla/quorum.Primary -/
def zdn : AF := ⟨2, 13, [(.tmp 4)],
 (.seq (.ops [⟨some 4, none, .mv (.lit (.d (.int .i64 0)))⟩])
 (.seq (.seq (.ops [⟨some 5, none, .mv (.tmp 0)⟩,
  ⟨some 6, none, .mv (.tmp 1)⟩,
  ⟨some 7, none, .call false 87 [(.tmp 5), (.tmp 6)]⟩,
  ⟨some 8, none, .un .not (.tmp 7)⟩])
 (.cond (.tmp 8) (.seq (.ops [⟨some 4, none, .mv (.lit (.d (.int .i64 (-1))))⟩])
 .ret) .skip))
 (.seq (.ops [⟨some 9, none, .mv (.tmp 1)⟩,
  ⟨some 10, none, .mv (.tmp 0)⟩,
  ⟨some 11, none, .call false 55 [(.tmp 10)]⟩,
  ⟨some 12, none, .bin .rem .plain (.tmp 9) (.tmp 11)⟩,
  ⟨some 4, none, .mv (.tmp 12)⟩])
 .ret)))⟩
theorem zix : isF Tryz.prog zdf zdn := ⟨Tryz.f53, _, Tryz.func53, by decide +kernel, rfl, by kernel_rfl, by kernel_rfl, by decide, by kernel_rfl, rfl, by kernel_rfl⟩
/-- bulla/auth.ValidVote -/
def zdx : AF := ⟨8, 39, [(.tmp 16)],
 (.seq (.ops [⟨some 10, none, .boxi (.tmp 2)⟩,
  ⟨some 16, none, .mv (.lit (.d (.bool false)))⟩])
 (.seq (.draw [⟨some 17, none, .mv (.tmp 0)⟩,
  ⟨some 18, none, .mv (.tmp 1)⟩,
  ⟨some 19, none, .call false 88 [(.tmp 17), (.tmp 18)]⟩,
  ⟨some 20, none, .mv (.tmp 19)⟩,
  ⟨some 21, some (20, true), .mv (.tmp 4)⟩,
  ⟨some 22, some (20, true), .mv (.tmp 5)⟩,
  ⟨some 23, some (20, true), .mv (.tmp 6)⟩,
  ⟨some 24, some (20, true), .mv (.tmp 7)⟩,
  ⟨some 25, some (20, true), .call false 89 [(.tmp 21), (.tmp 22), (.tmp 23), (.tmp 24)]⟩,
  ⟨some 26, none, .pick (.tmp 20) (.tmp 25) (.lit (.d (.bool false)))⟩,
  ⟨some 27, none, .mv (.tmp 26)⟩,
  ⟨some 28, some (27, true), .mv (.tmp 0)⟩,
  ⟨some 29, some (27, true), .mv (.tmp 1)⟩,
  ⟨some 30, some (27, true), .load true 2 (.tmp 10)⟩,
  ⟨some 31, some (27, true), .mv (.tmp 3)⟩,
  ⟨some 32, some (27, true), .mv (.tmp 4)⟩,
  ⟨some 33, some (27, true), .mv (.tmp 5)⟩,
  ⟨some 34, some (27, true), .mv (.tmp 6)⟩,
  ⟨some 35, some (27, true), .mv (.tmp 7)⟩,
  ⟨some 36, some (27, true), .call false 91 [(.tmp 32), (.tmp 33), (.tmp 34), (.tmp 35)]⟩,
  ⟨some 37, some (27, true), .call false 90 [(.tmp 28), (.tmp 29), (.tmp 30), (.tmp 31), (.tmp 36)]⟩,
  ⟨some 38, none, .pick (.tmp 27) (.tmp 37) (.lit (.d (.bool false)))⟩,
  ⟨some 16, none, .mv (.tmp 38)⟩] [[], [], [0, 1], [2, 2], [3], [3], [3], [3], [4, 5, 6, 7, 3, 3], [3, 8], [9, 8], [10], [10], [10], [10], [10], [10], [10], [10], [15, 16, 17, 18, 10, 10], [11, 12, 13, 14, 19, 19, 10], [10, 20], [21, 20, 0, 1, 2, 3, 4, 5, 6, 7, 8, 9, 10, 11, 12, 13, 14, 15, 16, 17, 18, 19, 20, 21]] [(0, []), (1, []), (2, []), (3, []), (4, []), (5, []), (6, []), (7, []), (8, []), (9, []), (10, []), (11, []), (12, []), (13, []), (14, []), (15, []), (16, []), (17, []), (18, []), (19, [10]), (20, []), (21, []), (22, [])] [0, 0, 3, 7, 15, 15, 15, 15, 255, 511, 1023, 2047, 2047, 2047, 2047, 2047, 2047, 2047, 2047, 493567, 1048575, 2097151, 4194303])
 .ret))⟩
theorem ziH : isF Tryz.prog zbY zdx := ⟨Tryz.f54, _, Tryz.func54, by decide +kernel, rfl, by kernel_rfl, by kernel_rfl, by decide, by kernel_rfl, rfl, by kernel_rfl⟩
/-- bulla/quorum.Brokers -/
def zdo : AF := ⟨1, 5, [(.tmp 2)],
 (.seq (.ops [⟨some 2, none, .mv (.lit (.d (.int .i64 0)))⟩])
 (.seq (.ops [⟨some 3, none, .mv (.tmp 0)⟩,
  ⟨some 4, none, .call false 92 [(.lit (.d (.int .i64 3))), (.tmp 3)]⟩,
  ⟨some 2, none, .mv (.tmp 4)⟩])
 .ret))⟩
theorem ziy : isF Tryz.prog zbW zdo := ⟨Tryz.f55, _, Tryz.func55, by decide +kernel, rfl, by kernel_rfl, by kernel_rfl, by decide, by kernel_rfl, rfl, by kernel_rfl⟩
/-- bulla/bullaref08.ValidBatch -/
def zdk : AF := ⟨3, 25, [(.tmp 6)],
 (.seq (.ops [⟨some 6, none, .mv (.lit (.d (.bool false)))⟩])
 (.seq (.seq (.ops [⟨some 8, none, .mv (.tmp 2)⟩,
  ⟨some 9, none, .call false 76 [(.tmp 8)]⟩,
  ⟨some 10, none, .bin .neq .plain (.tmp 9) (.lit (.d (.int .i64 0)))⟩])
 (.cond (.tmp 10) (.seq (.ops [⟨some 6, none, .mv (.lit (.d (.bool false)))⟩])
 .ret) .skip))
 (.seq (.seq (.ops [⟨some 7, none, .mv (.lit (.d (.int .i64 0)))⟩])
 (.block 0 (.loop [7] [6, 11, 12, 13, 14, 15, 16, 17, 18, 19, 20, 21, 22, 23, 24] (.seq (.seq (.ops [⟨some 11, none, .mv (.tmp 7)⟩,
  ⟨some 12, none, .mv (.tmp 2)⟩,
  ⟨some 13, none, .len .sl (.tmp 12)⟩,
  ⟨some 14, none, .bin .lss .plain (.tmp 11) (.tmp 13)⟩])
 (.cond (.tmp 14) .skip (.exit 0)))
 (.seq (.block 1 (.seq (.ops [⟨some 17, none, .mv (.tmp 0)⟩,
  ⟨some 18, none, .mv (.tmp 1)⟩,
  ⟨some 19, none, .mv (.tmp 2)⟩,
  ⟨some 20, none, .mv (.tmp 7)⟩,
  ⟨some 21, none, .iaddr none 9 (.tmp 19) (.tmp 20)⟩,
  ⟨some 22, none, .load true 9 (.tmp 21)⟩,
  ⟨some 23, none, .call false 93 [(.tmp 17), (.tmp 18), (.tmp 22)]⟩,
  ⟨some 24, none, .un .not (.tmp 23)⟩])
 (.cond (.tmp 24) (.seq (.ops [⟨some 6, none, .mv (.lit (.d (.bool false)))⟩])
 .ret) .skip)))
 (.ops [⟨some 15, none, .mv (.tmp 7)⟩,
  ⟨some 16, none, .bin .add .plain (.tmp 15) (.lit (.d (.int .i64 1)))⟩,
  ⟨some 7, none, .mv (.tmp 16)⟩]))))))
 (.seq (.ops [⟨some 6, none, .mv (.lit (.d (.bool true)))⟩])
 .ret))))⟩
theorem ziu : isF Tryz.prog zde zdk := ⟨Tryz.f56, _, Tryz.func56, by decide +kernel, rfl, by kernel_rfl, by kernel_rfl, by decide, by kernel_rfl, rfl, by kernel_rfl⟩
/-- (*bulla/bullaref02.Table).Look -/
def zdm : AF := ⟨2, 27, [(.tmp 4), (.tmp 5)],
 (.seq (.ops [⟨some 4, none, .mv (.lit (.d (.int .i64 0)))⟩,
  ⟨some 5, none, .mv (.lit (.d (.bool false)))⟩])
 (.seq (.seq (.ops [⟨some 6, none, .mv (.lit (.d (.int .i64 0)))⟩])
 (.block 0 (.loop [6] [4, 5, 7, 8, 9, 10, 11, 12, 13, 14, 15, 16, 17, 18, 19, 20, 21, 22, 23, 24, 25, 26] (.seq (.seq (.ops [⟨some 7, none, .mv (.tmp 6)⟩,
  ⟨some 8, none, .mv (.tmp 0)⟩,
  ⟨some 9, none, .nilchk (.tmp 8)⟩,
  ⟨some 10, none, .faddr 0 (.tmp 9)⟩,
  ⟨some 11, none, .load false 1 (.tmp 10)⟩,
  ⟨some 12, none, .len .sl (.tmp 11)⟩,
  ⟨some 13, none, .bin .lss .plain (.tmp 7) (.tmp 12)⟩])
 (.cond (.tmp 13) .skip (.exit 0)))
 (.seq (.block 1 (.seq (.ops [⟨some 16, none, .mv (.tmp 0)⟩,
  ⟨some 17, none, .nilchk (.tmp 16)⟩,
  ⟨some 18, none, .faddr 0 (.tmp 17)⟩,
  ⟨some 19, none, .load false 1 (.tmp 18)⟩,
  ⟨some 20, none, .mv (.tmp 6)⟩,
  ⟨some 21, none, .iaddr none 1 (.tmp 19) (.tmp 20)⟩,
  ⟨some 22, none, .load false 1 (.tmp 21)⟩,
  ⟨some 23, none, .mv (.tmp 1)⟩,
  ⟨some 24, none, .call false 94 [(.tmp 22), (.tmp 23)]⟩])
 (.cond (.tmp 24) (.seq (.ops [⟨some 25, none, .mv (.tmp 6)⟩,
  ⟨some 26, none, .bin .add .plain (.tmp 25) (.lit (.d (.int .i64 1)))⟩,
  ⟨some 4, none, .mv (.tmp 26)⟩,
  ⟨some 5, none, .mv (.lit (.d (.bool true)))⟩])
 .ret) .skip)))
 (.ops [⟨some 14, none, .mv (.tmp 6)⟩,
  ⟨some 15, none, .bin .add .plain (.tmp 14) (.lit (.d (.int .i64 1)))⟩,
  ⟨some 6, none, .mv (.tmp 15)⟩]))))))
 (.seq (.ops [⟨some 4, none, .mv (.lit (.d (.int .i64 0)))⟩,
  ⟨some 5, none, .mv (.lit (.d (.bool false)))⟩])
 .ret)))⟩
theorem ziw : isF Tryz.prog zaU zdm := ⟨Tryz.f57, _, Tryz.func57, by decide +kernel, rfl, by kernel_rfl, by kernel_rfl, by decide, by kernel_rfl, rfl, by kernel_rfl⟩
/-- bulla/bullaref08.PutBatch -/
def zey : AF := ⟨2, 42, [(.tmp 4)],
 (.seq (.ops [⟨some 4, none, .mv (.lit (.exact []))⟩])
 (.seq (.seq (.ops [⟨some 8, none, .mv (.tmp 1)⟩,
  ⟨some 9, none, .call false 76 [(.tmp 8)]⟩,
  ⟨some 10, none, .bin .neq .plain (.tmp 9) (.lit (.d (.int .i64 0)))⟩])
 (.cond (.tmp 10) (.seq (.ops [⟨some 11, none, .mv (.tmp 0)⟩,
  ⟨some 4, none, .mv (.tmp 11)⟩])
 .ret) .skip))
 (.seq (.ops [⟨some 12, none, .mv (.tmp 0)⟩,
  ⟨some 13, none, .mv (.tmp 1)⟩,
  ⟨some 14, none, .len .sl (.tmp 13)⟩,
  ⟨some 15, none, .conv (.int .u64) (.tmp 14)⟩,
  ⟨some 16, none, .call false 95 [(.tmp 12), (.tmp 15)]⟩,
  ⟨some 0, none, .mv (.tmp 16)⟩])
 (.seq (.seq (.ops [⟨some 5, none, .mv (.lit (.d (.int .i64 0)))⟩])
 (.block 0 (.loop [0, 5] [6, 7, 17, 18, 19, 20, 21, 22, 23, 24, 25, 26, 27, 28, 29, 30, 31, 32, 33, 34, 35, 36, 37, 38, 39, 40] (.seq (.seq (.ops [⟨some 17, none, .mv (.tmp 5)⟩,
  ⟨some 18, none, .mv (.tmp 1)⟩,
  ⟨some 19, none, .len .sl (.tmp 18)⟩,
  ⟨some 20, none, .bin .lss .plain (.tmp 17) (.tmp 19)⟩])
 (.cond (.tmp 20) .skip (.exit 0)))
 (.seq (.block 1 (.seq (.ops [⟨some 24, none, .mv (.tmp 1)⟩,
  ⟨some 25, none, .mv (.tmp 5)⟩,
  ⟨some 26, none, .iaddr none 9 (.tmp 24) (.tmp 25)⟩,
  ⟨some 27, none, .faddr 0 (.tmp 26)⟩,
  ⟨some 28, none, .load true 7 (.tmp 27)⟩,
  ⟨some 29, none, .call false 72 [(.tmp 28)]⟩,
  ⟨some 23, none, .mv (.tmp 29)⟩,
  ⟨some 30, none, .extract (.tmp 23) 0⟩,
  ⟨some 31, none, .extract (.tmp 23) 1⟩,
  ⟨some 6, none, .mv (.tmp 30)⟩,
  ⟨some 7, none, .mv (.tmp 31)⟩])
 (.draw [⟨some 32, none, .mv (.tmp 0)⟩,
  ⟨some 33, none, .mv (.tmp 6)⟩,
  ⟨some 34, none, .call false 97 [(.tmp 32), (.tmp 33)]⟩,
  ⟨some 35, none, .mv (.tmp 1)⟩,
  ⟨some 36, none, .mv (.tmp 5)⟩,
  ⟨some 37, none, .iaddr none 9 (.tmp 35) (.tmp 36)⟩,
  ⟨some 38, none, .faddr 7 (.tmp 37)⟩,
  ⟨some 39, none, .load true 2 (.tmp 38)⟩,
  ⟨some 40, none, .call false 96 [(.tmp 34), (.tmp 39)]⟩,
  ⟨some 0, none, .mv (.tmp 40)⟩] [[], [], [0, 1], [], [], [3, 4], [5], [6], [2, 7, 2], [8, 8, 0, 1, 2, 3, 4, 5, 6, 7, 8]] [(0, []), (1, []), (3, []), (4, []), (5, []), (6, []), (7, []), (2, [38]), (8, []), (9, [])] [0, 0, 3, 0, 0, 24, 56, 120, 255, 511])))
 (.ops [⟨some 21, none, .mv (.tmp 5)⟩,
  ⟨some 22, none, .bin .add .plain (.tmp 21) (.lit (.d (.int .i64 1)))⟩,
  ⟨some 5, none, .mv (.tmp 22)⟩]))))))
 (.seq (.ops [⟨some 41, none, .mv (.tmp 0)⟩,
  ⟨some 4, none, .mv (.tmp 41)⟩])
 .ret)))))⟩
theorem zkQ : isF Tryz.prog zda zey := ⟨Tryz.f58, _, Tryz.func58, by decide +kernel, rfl, by kernel_rfl, by kernel_rfl, by decide, by kernel_rfl, rfl, by kernel_rfl⟩
/-- bulla/bullaref12.Primary -/
def zfw : AF := ⟨2, 20, [(.tmp 4)],
 (.seq (.ops [⟨some 4, none, .mv (.lit (.d (.int .i64 0)))⟩])
 (.seq (.seq (.ops [⟨some 5, none, .mv (.tmp 0)⟩,
  ⟨some 6, none, .call false 9 [(.tmp 5)]⟩,
  ⟨some 7, none, .bin .neq .plain (.tmp 6) (.lit (.d (.int .i64 0)))⟩,
  ⟨some 8, none, .mv (.tmp 7)⟩,
  ⟨some 9, some (8, false), .mv (.tmp 1)⟩,
  ⟨some 10, some (8, false), .bin .lss .plain (.tmp 9) (.lit (.d (.int .i64 0)))⟩,
  ⟨some 11, none, .pick (.tmp 8) (.lit (.d (.bool true))) (.tmp 10)⟩,
  ⟨some 12, none, .mv (.tmp 11)⟩,
  ⟨some 13, some (12, false), .mv (.tmp 1)⟩,
  ⟨some 14, some (12, false), .bin .gtr .plain (.tmp 13) (.lit (.d (.int .i64 9007199254740992)))⟩,
  ⟨some 15, none, .pick (.tmp 12) (.lit (.d (.bool true))) (.tmp 14)⟩])
 (.cond (.tmp 15) (.seq (.ops [⟨some 4, none, .mv (.lit (.d (.int .i64 (-1))))⟩])
 .ret) .skip))
 (.seq (.ops [⟨some 16, none, .mv (.tmp 1)⟩,
  ⟨some 17, none, .mv (.tmp 0)⟩,
  ⟨some 18, none, .call false 41 [(.tmp 17)]⟩,
  ⟨some 19, none, .bin .rem .plain (.tmp 16) (.tmp 18)⟩,
  ⟨some 4, none, .mv (.tmp 19)⟩])
 .ret)))⟩
theorem zlD : isF Tryz.prog zfg zfw := ⟨Tryz.f59, _, Tryz.func59, by decide +kernel, rfl, by kernel_rfl, by kernel_rfl, by decide, by kernel_rfl, rfl, by kernel_rfl⟩
/-- bulla/bullaref11.ValidVote -/
def zeg : AF := ⟨8, 34, [(.tmp 16)],
 (.seq (.ops [⟨some 10, none, .boxi (.tmp 2)⟩,
  ⟨some 16, none, .mv (.lit (.d (.bool false)))⟩])
 (.seq (.draw [⟨some 17, none, .mv (.tmp 4)⟩,
  ⟨some 18, none, .mv (.tmp 5)⟩,
  ⟨some 19, none, .mv (.tmp 6)⟩,
  ⟨some 20, none, .mv (.tmp 7)⟩,
  ⟨some 21, none, .call false 77 [(.tmp 17), (.tmp 18), (.tmp 19), (.tmp 20)]⟩,
  ⟨some 22, none, .mv (.tmp 21)⟩,
  ⟨some 23, some (22, true), .mv (.tmp 0)⟩,
  ⟨some 24, some (22, true), .mv (.tmp 1)⟩,
  ⟨some 25, some (22, true), .load true 2 (.tmp 10)⟩,
  ⟨some 26, some (22, true), .mv (.tmp 3)⟩,
  ⟨some 27, some (22, true), .mv (.tmp 4)⟩,
  ⟨some 28, some (22, true), .mv (.tmp 5)⟩,
  ⟨some 29, some (22, true), .mv (.tmp 6)⟩,
  ⟨some 30, some (22, true), .mv (.tmp 7)⟩,
  ⟨some 31, some (22, true), .call false 79 [(.tmp 27), (.tmp 28), (.tmp 29), (.tmp 30)]⟩,
  ⟨some 32, some (22, true), .call false 98 [(.tmp 23), (.tmp 24), (.tmp 25), (.tmp 26), (.tmp 31)]⟩,
  ⟨some 33, none, .pick (.tmp 22) (.tmp 32) (.lit (.d (.bool false)))⟩,
  ⟨some 16, none, .mv (.tmp 33)⟩] [[], [], [], [], [0, 1, 2, 3], [4, 4], [5], [5], [5], [5], [5], [5], [5], [5], [10, 11, 12, 13, 5, 5], [6, 7, 8, 9, 14, 14, 5], [5, 15], [16, 15, 0, 1, 2, 3, 4, 5, 6, 7, 8, 9, 10, 11, 12, 13, 14, 15, 16]] [(0, []), (1, []), (2, []), (3, []), (4, []), (5, []), (6, []), (7, []), (8, []), (9, []), (10, []), (11, []), (12, []), (13, []), (14, [10]), (15, []), (16, []), (17, [])] [0, 0, 0, 0, 15, 31, 63, 63, 63, 63, 63, 63, 63, 63, 15423, 32767, 65535, 131071])
 .ret))⟩
theorem zjG : isF Tryz.prog zcu zeg := ⟨Tryz.f60, _, Tryz.func60, by decide +kernel, rfl, by kernel_rfl, by kernel_rfl, by decide, by kernel_rfl, rfl, by kernel_rfl⟩
/-- (*bulla/ideal.Table).none -/
def zcD : AF := ⟨1, 12, [(.tmp 2)],
 (.seq (.ops [⟨some 2, none, .mv (.lit (.d (.bool false)))⟩])
 (.seq (.ops [⟨some 3, none, .mv (.tmp 0)⟩,
  ⟨some 4, none, .bin .eql .ptr (.tmp 3) (.lit (.d .nilp))⟩,
  ⟨some 5, none, .mv (.tmp 4)⟩,
  ⟨some 6, some (5, false), .mv (.tmp 0)⟩,
  ⟨some 7, some (5, false), .nilchk (.tmp 6)⟩,
  ⟨some 8, some (5, false), .faddr 1 (.tmp 7)⟩,
  ⟨some 9, some (5, false), .load false 1 (.tmp 8)⟩,
  ⟨some 10, some (5, false), .bin .eql .map (.tmp 9) (.lit (.d .nilmap))⟩,
  ⟨some 11, none, .pick (.tmp 5) (.lit (.d (.bool true))) (.tmp 10)⟩,
  ⟨some 2, none, .mv (.tmp 11)⟩])
 .ret))⟩
theorem zhe : isF Tryz.prog zaL zcD := ⟨Tryz.f61, _, Tryz.func61, by decide +kernel, rfl, by kernel_rfl, by kernel_rfl, by decide, by kernel_rfl, rfl, by kernel_rfl⟩
/-- (*bulla/ideal.Ledger).none -/
def zck : AF := ⟨1, 12, [(.tmp 2)],
 (.seq (.ops [⟨some 2, none, .mv (.lit (.d (.bool false)))⟩])
 (.seq (.ops [⟨some 3, none, .mv (.tmp 0)⟩,
  ⟨some 4, none, .bin .eql .ptr (.tmp 3) (.lit (.d .nilp))⟩,
  ⟨some 5, none, .mv (.tmp 4)⟩,
  ⟨some 6, some (5, false), .mv (.tmp 0)⟩,
  ⟨some 7, some (5, false), .nilchk (.tmp 6)⟩,
  ⟨some 8, some (5, false), .faddr 1 (.tmp 7)⟩,
  ⟨some 9, some (5, false), .load false 1 (.tmp 8)⟩,
  ⟨some 10, some (5, false), .bin .eql .map (.tmp 9) (.lit (.d .nilmap))⟩,
  ⟨some 11, none, .pick (.tmp 5) (.lit (.d (.bool true))) (.tmp 10)⟩,
  ⟨some 2, none, .mv (.tmp 11)⟩])
 .ret))⟩
theorem zgn : isF Tryz.prog zaG zck := ⟨Tryz.f62, _, Tryz.func62, by decide +kernel, rfl, by kernel_rfl, by kernel_rfl, by decide, by kernel_rfl, rfl, by kernel_rfl⟩
/-- (*bulla/prepared.Held).none -/
def zbR : AF := ⟨1, 12, [(.tmp 2)],
 (.seq (.ops [⟨some 2, none, .mv (.lit (.d (.bool false)))⟩])
 (.seq (.ops [⟨some 3, none, .mv (.tmp 0)⟩,
  ⟨some 4, none, .bin .eql .ptr (.tmp 3) (.lit (.d .nilp))⟩,
  ⟨some 5, none, .mv (.tmp 4)⟩,
  ⟨some 6, some (5, false), .mv (.tmp 0)⟩,
  ⟨some 7, some (5, false), .nilchk (.tmp 6)⟩,
  ⟨some 8, some (5, false), .faddr 0 (.tmp 7)⟩,
  ⟨some 9, some (5, false), .load false 1 (.tmp 8)⟩,
  ⟨some 10, some (5, false), .bin .eql .map (.tmp 9) (.lit (.d .nilmap))⟩,
  ⟨some 11, none, .pick (.tmp 5) (.lit (.d (.bool true))) (.tmp 10)⟩,
  ⟨some 2, none, .mv (.tmp 11)⟩])
 .ret))⟩
theorem zfV : isF Tryz.prog zbd zbR := ⟨Tryz.f63, _, Tryz.func63, by decide +kernel, rfl, by kernel_rfl, by kernel_rfl, by decide, by kernel_rfl, rfl, by kernel_rfl⟩
/-- bulla/prepared.clone -/
def zdp : AF := ⟨1, 12, [(.cell 2 true 7)],
 (.seq (.ops [⟨some 1, none, .boxi (.tmp 0)⟩,
  ⟨some 2, none, .alloc [(.d (.int .i64 0)), (.d (.int .i64 0)), (.d (.int .i64 0)), (.d (.int .i64 0)), (.d (.int .i64 0)), (.exact []), (.exact [])]⟩])
 (.seq (.ops [⟨some 3, none, .faddr 5 (.tmp 1)⟩,
  ⟨some 4, none, .load false 1 (.tmp 3)⟩,
  ⟨some 5, none, .call false 99 [(.tmp 4)]⟩,
  ⟨some 6, none, .faddr 5 (.tmp 1)⟩,
  ⟨none, none, .store 1 (.tmp 6) (.tmp 5)⟩])
 (.seq (.ops [⟨some 7, none, .faddr 6 (.tmp 1)⟩,
  ⟨some 8, none, .load false 1 (.tmp 7)⟩,
  ⟨some 9, none, .call false 100 [(.tmp 8)]⟩,
  ⟨some 10, none, .faddr 6 (.tmp 1)⟩,
  ⟨none, none, .store 1 (.tmp 10) (.tmp 9)⟩])
 (.seq (.ops [⟨some 11, none, .load true 7 (.tmp 1)⟩,
  ⟨none, none, .store 7 (.tmp 2) (.tmp 11)⟩])
 .ret))))⟩
theorem ziz : isF Tryz.prog zdg zdp := ⟨Tryz.f64, _, Tryz.func64, by decide +kernel, rfl, by kernel_rfl, by kernel_rfl, by decide, by kernel_rfl, rfl, by kernel_rfl⟩
/-- bulla/bullaref08.Bytes -/
def zia : AF := ⟨1, 24, [(.tmp 2), (.tmp 3)],
 (.seq (.ops [⟨some 1, none, .boxi (.tmp 0)⟩,
  ⟨some 2, none, .mv (.lit (.exact []))⟩,
  ⟨some 3, none, .mv (.lit (.d (.int .i64 0)))⟩])
 (.seq (.seq (.ops [⟨some 6, none, .load true 7 (.tmp 1)⟩,
  ⟨some 7, none, .call false 108 [(.tmp 6)]⟩,
  ⟨some 4, none, .mv (.tmp 7)⟩])
 (.seq (.ops [⟨some 8, none, .mv (.tmp 4)⟩,
  ⟨some 9, none, .bin .neq .plain (.tmp 8) (.lit (.d (.int .i64 0)))⟩])
 (.cond (.tmp 9) (.seq (.ops [⟨some 10, none, .mv (.tmp 4)⟩,
  ⟨some 2, none, .mv (.lit (.exact []))⟩,
  ⟨some 3, none, .mv (.tmp 10)⟩])
 .ret) .skip)))
 (.seq (.ops [⟨some 11, none, .faddr 0 (.tmp 1)⟩,
  ⟨some 12, none, .load false 1 (.tmp 11)⟩,
  ⟨some 13, none, .conv (.int .u64) (.tmp 12)⟩,
  ⟨some 14, none, .call false 95 [(.lit (.exact [])), (.tmp 13)]⟩,
  ⟨some 5, none, .mv (.tmp 14)⟩])
 (.seq (.ops [⟨some 15, none, .mv (.tmp 5)⟩,
  ⟨some 16, none, .faddr 1 (.tmp 1)⟩,
  ⟨some 17, none, .load false 1 (.tmp 16)⟩,
  ⟨some 18, none, .conv (.int .u64) (.tmp 17)⟩,
  ⟨some 19, none, .call false 95 [(.tmp 15), (.tmp 18)]⟩,
  ⟨some 5, none, .mv (.tmp 19)⟩])
 (.seq (.ops [⟨some 20, none, .mv (.tmp 5)⟩,
  ⟨some 21, none, .faddr 2 (.tmp 1)⟩,
  ⟨some 22, none, .load true 5 (.tmp 21)⟩,
  ⟨some 23, none, .call false 109 [(.tmp 20), (.tmp 22)]⟩,
  ⟨some 2, none, .mv (.tmp 23)⟩,
  ⟨some 3, none, .mv (.lit (.d (.int .i64 0)))⟩])
 .ret)))))⟩
theorem zod : isF Tryz.prog zdN zia := ⟨Tryz.f72, _, Tryz.func72, by decide +kernel, rfl, by kernel_rfl, by kernel_rfl, by decide, by kernel_rfl, rfl, by kernel_rfl⟩
/-- (*bulla/bullaref02.Ledger).Sign -/
def zcU : AF := ⟨3, 38, [(.cell 6 true 2), (.tmp 7)],
 (.seq (.ops [⟨some 6, none, .alloc [(.d (.int .i64 0)), (.d (.int .i64 0))]⟩,
  ⟨some 7, none, .mv (.lit (.d (.int .i64 0)))⟩])
 (.seq (.seq (.ops [⟨some 9, none, .mv (.tmp 1)⟩,
  ⟨some 10, none, .bin .lss .plain (.tmp 9) (.lit (.d (.int .i64 0)))⟩,
  ⟨some 11, none, .mv (.tmp 10)⟩,
  ⟨some 12, some (11, false), .mv (.tmp 1)⟩,
  ⟨some 13, some (11, false), .bin .geq .plain (.tmp 12) (.lit (.d (.int .i64 21)))⟩,
  ⟨some 14, none, .pick (.tmp 11) (.lit (.d (.bool true))) (.tmp 13)⟩])
 (.cond (.tmp 14) (.seq (.ops [⟨some 15, none, .build [(.d (.int .i64 0)), (.d (.int .i64 0))] []⟩,
  ⟨none, none, .store 2 (.tmp 6) (.tmp 15)⟩,
  ⟨some 7, none, .mv (.lit (.d (.int .i64 20)))⟩])
 .ret) .skip))
 (.seq (.seq (.ops [⟨some 16, none, .mv (.tmp 2)⟩,
  ⟨some 17, none, .bin .lss .plain (.tmp 16) (.lit (.d (.int .i64 1)))⟩])
 (.cond (.tmp 17) (.seq (.ops [⟨some 18, none, .build [(.d (.int .i64 0)), (.d (.int .i64 0))] []⟩,
  ⟨none, none, .store 2 (.tmp 6) (.tmp 18)⟩,
  ⟨some 7, none, .mv (.lit (.d (.int .i64 1)))⟩])
 .ret) .skip))
 (.seq (.ops [⟨some 19, none, .mv (.tmp 1)⟩,
  ⟨some 20, none, .mv (.tmp 2)⟩,
  ⟨some 21, none, .build [(.d (.int .i64 0)), (.d (.int .i64 0))] [(0, 1, (.tmp 19)), (1, 1, (.tmp 20))]⟩,
  ⟨some 8, none, .alloc [(.d (.int .i64 0)), (.d (.int .i64 0))]⟩,
  ⟨none, none, .store 2 (.tmp 8) (.tmp 21)⟩])
 (.seq (.seq (.ops [⟨some 22, none, .mv (.tmp 0)⟩,
  ⟨some 23, none, .load true 2 (.tmp 8)⟩,
  ⟨some 24, none, .call false 110 [(.tmp 22), (.tmp 23)]⟩,
  ⟨some 25, none, .un .not (.tmp 24)⟩])
 (.cond (.tmp 25) (.draw [⟨some 26, none, .mv (.tmp 0)⟩,
  ⟨some 27, none, .mv (.tmp 0)⟩,
  ⟨some 28, none, .nilchk (.tmp 27)⟩,
  ⟨some 29, none, .faddr 0 (.tmp 28)⟩,
  ⟨some 30, none, .load false 1 (.tmp 29)⟩,
  ⟨some 31, none, .append false 2 16 [(.d (.int .i64 0)), (.d (.int .i64 0))] (.lit (.exact [])) (.tmp 30)⟩,
  ⟨some 32, none, .load true 2 (.tmp 8)⟩,
  ⟨some 33, none, .mkslice false 2 1 [(.d (.int .i64 0)), (.d (.int .i64 0))] [(0, 2, (.tmp 32))]⟩,
  ⟨some 34, none, .append false 2 16 [(.d (.int .i64 0)), (.d (.int .i64 0))] (.tmp 31) (.tmp 33)⟩,
  ⟨some 35, none, .nilchk (.tmp 26)⟩,
  ⟨some 36, none, .faddr 0 (.tmp 35)⟩,
  ⟨none, none, .store 1 (.tmp 36) (.tmp 34)⟩] [[], [], [1], [2], [3], [4], [], [6], [5, 7, 5], [0, 0, 1, 2, 3, 4, 5, 6, 7, 8], [9, 0, 1, 2, 3, 4, 5, 6, 7, 8], [10, 8, 8, 0, 1, 2, 3, 4, 5, 6, 7, 8]] [(0, []), (1, []), (2, []), (3, []), (4, []), (6, []), (7, []), (5, [8]), (8, []), (9, []), (10, []), (11, [])] [0, 0, 2, 6, 14, 30, 0, 64, 254, 511, 1023, 2047]) .skip))
 (.seq (.ops [⟨some 37, none, .load true 2 (.tmp 8)⟩,
  ⟨none, none, .store 2 (.tmp 6) (.tmp 37)⟩,
  ⟨some 7, none, .mv (.lit (.d (.int .i64 0)))⟩])
 .ret))))))⟩
theorem zhL : isF Tryz.prog zbJ zcU := ⟨Tryz.f73, _, Tryz.func73, by decide +kernel, rfl, by kernel_rfl, by kernel_rfl, by decide, by kernel_rfl, rfl, by kernel_rfl⟩
/-- bulla/bullaref08.Key -/
def zmp : AF := ⟨1, 11, [(.tmp 2)],
 (.seq (.ops [⟨some 2, none, .mv (.lit (.d (.int .i64 0)))⟩])
 (.seq (.seq (.ops [⟨some 3, none, .mv (.tmp 0)⟩,
  ⟨some 4, none, .bin .lss .plain (.tmp 3) (.lit (.d (.int .i64 0)))⟩,
  ⟨some 5, none, .mv (.tmp 4)⟩,
  ⟨some 6, some (5, false), .mv (.tmp 0)⟩,
  ⟨some 7, some (5, false), .bin .geq .plain (.tmp 6) (.lit (.d (.int .i64 8)))⟩,
  ⟨some 8, none, .pick (.tmp 5) (.lit (.d (.bool true))) (.tmp 7)⟩])
 (.cond (.tmp 8) (.seq (.ops [⟨some 2, none, .mv (.lit (.d (.int .i64 (-1))))⟩])
 .ret) .skip))
 (.seq (.ops [⟨some 9, none, .mv (.tmp 0)⟩,
  ⟨some 10, none, .bin .add .plain (.lit (.d (.int .i64 13))) (.tmp 9)⟩,
  ⟨some 2, none, .mv (.tmp 10)⟩])
 .ret)))⟩
theorem isA_r08_Key : isF Tryz.prog zeJ zmp := ⟨Tryz.f74, _, Tryz.func74, by decide +kernel, rfl, by kernel_rfl, by kernel_rfl, by decide, by kernel_rfl, rfl, by kernel_rfl⟩
/-- (*bulla/bullaref02.Table).Sum -/
def zei : AF := ⟨2, 38, [(.tmp 4)],
 (.seq (.ops [⟨some 4, none, .mv (.lit (.d (.int .i64 0)))⟩])
 (.seq (.seq (.ops [⟨some 8, none, .mv (.tmp 0)⟩,
  ⟨some 9, none, .mv (.tmp 1)⟩,
  ⟨some 10, none, .call false 57 [(.tmp 8), (.tmp 9)]⟩,
  ⟨some 7, none, .mv (.tmp 10)⟩,
  ⟨some 11, none, .extract (.tmp 7) 0⟩,
  ⟨some 12, none, .extract (.tmp 7) 1⟩,
  ⟨some 5, none, .mv (.tmp 11)⟩,
  ⟨some 6, none, .mv (.tmp 12)⟩])
 (.seq (.ops [⟨some 13, none, .mv (.tmp 6)⟩])
 (.cond (.tmp 13) (.seq (.ops [⟨some 14, none, .mv (.tmp 5)⟩,
  ⟨some 4, none, .mv (.tmp 14)⟩])
 .ret) .skip)))
 (.seq (.seq (.ops [⟨some 15, none, .mv (.tmp 0)⟩,
  ⟨some 16, none, .nilchk (.tmp 15)⟩,
  ⟨some 17, none, .faddr 0 (.tmp 16)⟩,
  ⟨some 18, none, .load false 1 (.tmp 17)⟩,
  ⟨some 19, none, .len .sl (.tmp 18)⟩,
  ⟨some 20, none, .bin .geq .plain (.tmp 19) (.lit (.d (.int .i64 1048576)))⟩])
 (.cond (.tmp 20) (.seq (.ops [⟨some 4, none, .mv (.lit (.d (.int .i64 0)))⟩])
 .ret) .skip))
 (.seq (.ops [⟨some 21, none, .mv (.tmp 0)⟩,
  ⟨some 22, none, .mv (.tmp 0)⟩,
  ⟨some 23, none, .nilchk (.tmp 22)⟩,
  ⟨some 24, none, .faddr 0 (.tmp 23)⟩,
  ⟨some 25, none, .load false 1 (.tmp 24)⟩,
  ⟨some 26, none, .append false 1 24 [(.exact [])] (.lit (.exact [])) (.tmp 25)⟩,
  ⟨some 27, none, .mv (.tmp 1)⟩,
  ⟨some 28, none, .append false 1 1 [(.d (.int .u8 0))] (.lit (.exact [])) (.tmp 27)⟩,
  ⟨some 29, none, .mkslice false 1 1 [(.exact [])] [(0, 1, (.tmp 28))]⟩,
  ⟨some 30, none, .append false 1 24 [(.exact [])] (.tmp 26) (.tmp 29)⟩,
  ⟨some 31, none, .nilchk (.tmp 21)⟩,
  ⟨some 32, none, .faddr 0 (.tmp 31)⟩,
  ⟨none, none, .store 1 (.tmp 32) (.tmp 30)⟩])
 (.seq (.ops [⟨some 33, none, .mv (.tmp 0)⟩,
  ⟨some 34, none, .nilchk (.tmp 33)⟩,
  ⟨some 35, none, .faddr 0 (.tmp 34)⟩,
  ⟨some 36, none, .load false 1 (.tmp 35)⟩,
  ⟨some 37, none, .len .sl (.tmp 36)⟩,
  ⟨some 4, none, .mv (.tmp 37)⟩])
 .ret)))))⟩
theorem zjI : isF Tryz.prog zbG zei := ⟨Tryz.f75, _, Tryz.func75, by decide +kernel, rfl, by kernel_rfl, by kernel_rfl, by decide, by kernel_rfl, rfl, by kernel_rfl⟩
/-- bulla/bullaref08.CheckBatch -/
def zdl : AF := ⟨1, 74, [(.tmp 2)],
 (.seq (.ops [⟨some 2, none, .mv (.lit (.d (.int .i64 0)))⟩])
 (.seq (.seq (.ops [⟨some 8, none, .mv (.tmp 0)⟩,
  ⟨some 9, none, .len .sl (.tmp 8)⟩,
  ⟨some 10, none, .bin .gtr .plain (.tmp 9) (.lit (.d (.int .i64 4)))⟩])
 (.cond (.tmp 10) (.seq (.ops [⟨some 2, none, .mv (.lit (.d (.int .i64 3)))⟩])
 .ret) .skip))
 (.seq (.seq (.ops [⟨some 3, none, .mv (.lit (.d (.int .i64 0)))⟩])
 (.block 0 (.loop [3] [2, 4, 5, 11, 12, 13, 14, 15, 16, 17, 18, 19, 20, 21, 22, 23, 24, 25, 26, 27, 28, 29, 30, 31, 32, 33, 34] (.seq (.seq (.ops [⟨some 11, none, .mv (.tmp 3)⟩,
  ⟨some 12, none, .mv (.tmp 0)⟩,
  ⟨some 13, none, .len .sl (.tmp 12)⟩,
  ⟨some 14, none, .bin .lss .plain (.tmp 11) (.tmp 13)⟩])
 (.cond (.tmp 14) .skip (.exit 0)))
 (.seq (.block 1 (.seq (.seq (.ops [⟨some 17, none, .mv (.tmp 0)⟩,
  ⟨some 18, none, .mv (.tmp 3)⟩,
  ⟨some 19, none, .iaddr none 9 (.tmp 17) (.tmp 18)⟩,
  ⟨some 20, none, .faddr 0 (.tmp 19)⟩,
  ⟨some 21, none, .load true 7 (.tmp 20)⟩,
  ⟨some 22, none, .call false 108 [(.tmp 21)]⟩,
  ⟨some 4, none, .mv (.tmp 22)⟩])
 (.seq (.ops [⟨some 23, none, .mv (.tmp 4)⟩,
  ⟨some 24, none, .bin .neq .plain (.tmp 23) (.lit (.d (.int .i64 0)))⟩])
 (.cond (.tmp 24) (.seq (.ops [⟨some 25, none, .mv (.tmp 4)⟩,
  ⟨some 2, none, .mv (.tmp 25)⟩])
 .ret) .skip)))
 (.seq (.ops [⟨some 26, none, .mv (.tmp 0)⟩,
  ⟨some 27, none, .mv (.tmp 3)⟩,
  ⟨some 28, none, .iaddr none 9 (.tmp 26) (.tmp 27)⟩,
  ⟨some 29, none, .faddr 7 (.tmp 28)⟩,
  ⟨some 30, none, .load true 2 (.tmp 29)⟩,
  ⟨some 31, none, .call false 111 [(.tmp 30)]⟩,
  ⟨some 5, none, .mv (.tmp 31)⟩])
 (.seq (.ops [⟨some 32, none, .mv (.tmp 5)⟩,
  ⟨some 33, none, .bin .neq .plain (.tmp 32) (.lit (.d (.int .i64 0)))⟩])
 (.cond (.tmp 33) (.seq (.ops [⟨some 34, none, .mv (.tmp 5)⟩,
  ⟨some 2, none, .mv (.tmp 34)⟩])
 .ret) .skip)))))
 (.ops [⟨some 15, none, .mv (.tmp 3)⟩,
  ⟨some 16, none, .bin .add .plain (.tmp 15) (.lit (.d (.int .i64 1)))⟩,
  ⟨some 3, none, .mv (.tmp 16)⟩]))))))
 (.seq (.seq (.ops [⟨some 6, none, .mv (.lit (.d (.int .i64 0)))⟩])
 (.block 2 (.loop [6] [2, 7, 35, 36, 37, 38, 39, 40, 41, 42, 43, 44, 45, 46, 47, 48, 49, 50, 51, 52, 53, 54, 55, 56, 57, 58, 59, 60, 61, 62, 63, 64, 65, 66, 67, 68, 69, 70, 71, 72, 73] (.seq (.seq (.ops [⟨some 35, none, .mv (.tmp 6)⟩,
  ⟨some 36, none, .mv (.tmp 0)⟩,
  ⟨some 37, none, .len .sl (.tmp 36)⟩,
  ⟨some 38, none, .bin .lss .plain (.tmp 35) (.tmp 37)⟩])
 (.cond (.tmp 38) .skip (.exit 2)))
 (.seq (.block 3 (.seq (.ops [⟨some 7, none, .mv (.lit (.d (.int .i64 0)))⟩])
 (.block 4 (.loop [7] [2, 41, 42, 43, 44, 45, 46, 47, 48, 49, 50, 51, 52, 53, 54, 55, 56, 57, 58, 59, 60, 61, 62, 63, 64, 65, 66, 67, 68, 69, 70, 71, 72, 73] (.seq (.seq (.ops [⟨some 41, none, .mv (.tmp 7)⟩,
  ⟨some 42, none, .mv (.tmp 6)⟩,
  ⟨some 43, none, .bin .lss .plain (.tmp 41) (.tmp 42)⟩])
 (.cond (.tmp 43) .skip (.exit 4)))
 (.seq (.block 5 (.seq (.draw [⟨some 46, none, .mv (.tmp 0)⟩,
  ⟨some 47, none, .mv (.tmp 6)⟩,
  ⟨some 48, none, .iaddr none 9 (.tmp 46) (.tmp 47)⟩,
  ⟨some 49, none, .faddr 0 (.tmp 48)⟩,
  ⟨some 50, none, .faddr 0 (.tmp 49)⟩,
  ⟨some 51, none, .load false 1 (.tmp 50)⟩,
  ⟨some 52, none, .mv (.tmp 0)⟩,
  ⟨some 53, none, .mv (.tmp 7)⟩,
  ⟨some 54, none, .iaddr none 9 (.tmp 52) (.tmp 53)⟩,
  ⟨some 55, none, .faddr 0 (.tmp 54)⟩,
  ⟨some 56, none, .faddr 0 (.tmp 55)⟩,
  ⟨some 57, none, .load false 1 (.tmp 56)⟩,
  ⟨some 58, none, .bin .eql .plain (.tmp 51) (.tmp 57)⟩,
  ⟨some 59, none, .mv (.tmp 58)⟩,
  ⟨some 60, some (59, true), .mv (.tmp 0)⟩,
  ⟨some 61, some (59, true), .mv (.tmp 6)⟩,
  ⟨some 62, some (59, true), .iaddr none 9 (.tmp 60) (.tmp 61)⟩,
  ⟨some 63, some (59, true), .faddr 0 (.tmp 62)⟩,
  ⟨some 64, some (59, true), .faddr 1 (.tmp 63)⟩,
  ⟨some 65, some (59, true), .load false 1 (.tmp 64)⟩,
  ⟨some 66, some (59, true), .mv (.tmp 0)⟩,
  ⟨some 67, some (59, true), .mv (.tmp 7)⟩,
  ⟨some 68, some (59, true), .iaddr none 9 (.tmp 66) (.tmp 67)⟩,
  ⟨some 69, some (59, true), .faddr 0 (.tmp 68)⟩,
  ⟨some 70, some (59, true), .faddr 1 (.tmp 69)⟩,
  ⟨some 71, some (59, true), .load false 1 (.tmp 70)⟩,
  ⟨some 72, some (59, true), .bin .eql .plain (.tmp 65) (.tmp 71)⟩,
  ⟨some 73, none, .pick (.tmp 59) (.tmp 72) (.lit (.d (.bool false)))⟩] [[], [], [0, 1], [2], [3], [4], [], [], [6, 7], [8], [9], [10], [5, 11], [12], [13], [13], [14, 15, 13], [16, 13], [17, 13], [18, 13], [13], [13], [20, 21, 13], [22, 13], [23, 13], [24, 13], [19, 25, 13], [13, 26]] [(0, []), (1, []), (2, []), (3, []), (4, []), (5, []), (6, []), (7, []), (8, []), (9, []), (10, []), (11, []), (12, []), (13, []), (14, []), (15, []), (16, []), (17, []), (18, []), (19, []), (20, []), (21, []), (22, []), (23, []), (24, []), (25, []), (26, []), (27, [])] [0, 0, 3, 7, 15, 31, 0, 0, 192, 448, 960, 1984, 4095, 8191, 16383, 16383, 65535, 131071, 262143, 524287, 16383, 16383, 3162111, 7356415, 15745023, 32522239, 67108863, 134217727])
 (.cond (.tmp 73) (.seq (.ops [⟨some 2, none, .mv (.lit (.d (.int .i64 5)))⟩])
 .ret) .skip)))
 (.ops [⟨some 44, none, .mv (.tmp 7)⟩,
  ⟨some 45, none, .bin .add .plain (.tmp 44) (.lit (.d (.int .i64 1)))⟩,
  ⟨some 7, none, .mv (.tmp 45)⟩])))))))
 (.ops [⟨some 39, none, .mv (.tmp 6)⟩,
  ⟨some 40, none, .bin .add .plain (.tmp 39) (.lit (.d (.int .i64 1)))⟩,
  ⟨some 6, none, .mv (.tmp 40)⟩]))))))
 (.seq (.ops [⟨some 2, none, .mv (.lit (.d (.int .i64 0)))⟩])
 .ret)))))⟩
theorem ziv : isF Tryz.prog zbv zdl := ⟨Tryz.f76, _, Tryz.func76, by decide +kernel, rfl, by kernel_rfl, by kernel_rfl, by decide, by kernel_rfl, rfl, by kernel_rfl⟩
/-- bulla/bullaref11.may -/
def zmo : AF := ⟨4, 23, [(.tmp 8)],
 (.seq (.ops [⟨some 8, none, .mv (.lit (.d (.bool false)))⟩])
 (.seq (.ops [⟨some 9, none, .mv (.tmp 0)⟩,
  ⟨some 10, none, .call false 112 [(.tmp 9)]⟩,
  ⟨some 11, none, .mv (.tmp 10)⟩,
  ⟨some 12, some (11, true), .mv (.tmp 1)⟩,
  ⟨some 13, some (11, true), .call false 112 [(.tmp 12)]⟩,
  ⟨some 14, none, .pick (.tmp 11) (.tmp 13) (.lit (.d (.bool false)))⟩,
  ⟨some 15, none, .mv (.tmp 14)⟩,
  ⟨some 16, some (15, true), .mv (.tmp 2)⟩,
  ⟨some 17, some (15, true), .call false 112 [(.tmp 16)]⟩,
  ⟨some 18, none, .pick (.tmp 15) (.tmp 17) (.lit (.d (.bool false)))⟩,
  ⟨some 19, none, .mv (.tmp 18)⟩,
  ⟨some 20, some (19, true), .mv (.tmp 3)⟩,
  ⟨some 21, some (19, true), .call false 112 [(.tmp 20)]⟩,
  ⟨some 22, none, .pick (.tmp 19) (.tmp 21) (.lit (.d (.bool false)))⟩,
  ⟨some 8, none, .mv (.tmp 22)⟩])
 .ret))⟩
theorem isA_r11_may : isF Tryz.prog ziq zmo := ⟨Tryz.f77, _, Tryz.func77, by decide +kernel, rfl, by kernel_rfl, by kernel_rfl, by decide, by kernel_rfl, rfl, by kernel_rfl⟩
/-- bulla/bullaref11.sign -/
def zjU : AF := ⟨4, 23, [(.cell 8 true 2), (.tmp 9)],
 (.seq (.ops [⟨some 8, none, .alloc [(.d (.int .i64 0)), (.d (.int .i64 0))]⟩,
  ⟨some 9, none, .mv (.lit (.d (.int .i64 0)))⟩])
 (.seq (.ops [⟨some 11, none, .mv (.tmp 0)⟩,
  ⟨some 12, none, .mv (.tmp 3)⟩,
  ⟨some 13, none, .call false 75 [(.tmp 11), (.tmp 12)]⟩,
  ⟨some 10, none, .mv (.tmp 13)⟩])
 (.seq (.seq (.ops [⟨some 14, none, .mv (.tmp 10)⟩,
  ⟨some 15, none, .bin .eql .plain (.tmp 14) (.lit (.d (.int .i64 0)))⟩])
 (.cond (.tmp 15) (.seq (.ops [⟨some 16, none, .build [(.d (.int .i64 0)), (.d (.int .i64 0))] []⟩,
  ⟨none, none, .store 2 (.tmp 8) (.tmp 16)⟩,
  ⟨some 9, none, .mv (.lit (.d (.int .i64 6)))⟩])
 .ret) .skip))
 (.seq (.ops [⟨some 17, none, .mv (.tmp 1)⟩,
  ⟨some 18, none, .mv (.tmp 2)⟩,
  ⟨some 19, none, .mv (.tmp 10)⟩,
  ⟨some 20, none, .call false 73 [(.tmp 17), (.tmp 18), (.tmp 19)]⟩,
  ⟨some 21, none, .extract (.tmp 20) 0⟩,
  ⟨some 22, none, .extract (.tmp 20) 1⟩,
  ⟨none, none, .store 2 (.tmp 8) (.tmp 21)⟩,
  ⟨some 9, none, .mv (.tmp 22)⟩])
 .ret))))⟩
theorem isA_r11_sign : isF Tryz.prog zjk zjU := ⟨Tryz.f78, _, Tryz.func78, by decide +kernel, rfl, by kernel_rfl, by kernel_rfl, by decide, by kernel_rfl, rfl, by kernel_rfl⟩
/-- bulla/bullaref11.VoteBytes -/
def zef : AF := ⟨4, 18, [(.tmp 8)],
 (.seq (.ops [⟨some 8, none, .mv (.lit (.exact []))⟩])
 (.seq (.ops [⟨some 9, none, .mkslice false 1 1 [(.d (.int .u8 0))] [(0, 1, (.lit (.d (.int .u8 4))))]⟩,
  ⟨some 10, none, .mv (.tmp 0)⟩,
  ⟨some 11, none, .call false 113 [(.tmp 9), (.tmp 10)]⟩,
  ⟨some 12, none, .mv (.tmp 1)⟩,
  ⟨some 13, none, .call false 113 [(.tmp 11), (.tmp 12)]⟩,
  ⟨some 14, none, .mv (.tmp 2)⟩,
  ⟨some 15, none, .call false 113 [(.tmp 13), (.tmp 14)]⟩,
  ⟨some 16, none, .mv (.tmp 3)⟩,
  ⟨some 17, none, .call false 113 [(.tmp 15), (.tmp 16)]⟩,
  ⟨some 8, none, .mv (.tmp 17)⟩])
 .ret))⟩
theorem zjF : isF Tryz.prog zct zef := ⟨Tryz.f79, _, Tryz.func79, by decide +kernel, rfl, by kernel_rfl, by kernel_rfl, by decide, by kernel_rfl, rfl, by kernel_rfl⟩
/-- bytes.Clone -/
def zfB : AF := ⟨1, 8, [(.tmp 2)],
 (.seq (.ops [⟨some 2, none, .mv (.lit (.exact []))⟩])
 (.seq (.seq (.ops [⟨some 3, none, .mv (.tmp 0)⟩,
  ⟨some 4, none, .isnil false (.tmp 3)⟩])
 (.cond (.tmp 4) (.seq (.ops [⟨some 2, none, .mv (.lit (.exact []))⟩])
 .ret) .skip))
 (.seq (.ops [⟨some 5, none, .mkslice false 1 0 [(.d (.int .u8 0))] []⟩,
  ⟨some 6, none, .mv (.tmp 0)⟩,
  ⟨some 7, none, .append false 1 1 [(.d (.int .u8 0))] (.tmp 5) (.tmp 6)⟩,
  ⟨some 2, none, .mv (.tmp 7)⟩])
 .ret)))⟩
theorem zlI : isF Tryz.prog zbr zfB := ⟨Tryz.f80, _, Tryz.func80, by decide +kernel, rfl, by kernel_rfl, by kernel_rfl, by decide, by kernel_rfl, rfl, by kernel_rfl⟩
/-- bulla/ideal.From -/
def zgK : AF := ⟨1, 31, [(.tmp 2), (.tmp 3)],
 (.seq (.ops [⟨some 2, none, .mv (.lit (.d .nilp))⟩,
  ⟨some 3, none, .mv (.lit (.d (.int .i64 0)))⟩])
 (.seq (.seq (.ops [⟨some 9, none, .mv (.tmp 0)⟩,
  ⟨some 10, none, .len .sl (.tmp 9)⟩,
  ⟨some 11, none, .bin .gtr .plain (.tmp 10) (.lit (.d (.int .i64 1048576)))⟩])
 (.cond (.tmp 11) (.seq (.ops [⟨some 2, none, .mv (.lit (.d .nilp))⟩,
  ⟨some 3, none, .mv (.lit (.d (.int .i64 3)))⟩])
 .ret) .skip))
 (.seq (.ops [⟨some 12, none, .call false 29 []⟩,
  ⟨some 4, none, .mv (.tmp 12)⟩])
 (.seq (.seq (.ops [⟨some 13, none, .mv (.tmp 0)⟩,
  ⟨some 14, none, .len .sl (.tmp 13)⟩,
  ⟨some 15, none, .mv (.lit (.d (.int .i64 0)))⟩])
 (.block 0 (.loop [15] [2, 3, 6, 7, 8, 16, 17, 18, 19, 20, 21, 22, 23, 24, 25, 26, 27, 28, 29] (.seq (.ops [⟨some 16, none, .bin .lss .plain (.tmp 15) (.tmp 14)⟩])
 (.seq (.cond (.tmp 16) .skip (.exit 0))
 (.seq (.block 1 (.seq (.ops [⟨some 17, none, .iaddr none 1 (.tmp 13) (.tmp 15)⟩,
  ⟨some 18, none, .load false 1 (.tmp 17)⟩,
  ⟨some 6, none, .mv (.tmp 18)⟩])
 (.seq (.seq (.ops [⟨some 20, none, .mv (.tmp 4)⟩,
  ⟨some 21, none, .mv (.tmp 6)⟩,
  ⟨some 22, none, .call false 51 [(.tmp 20), (.tmp 21)]⟩,
  ⟨some 19, none, .mv (.tmp 22)⟩,
  ⟨some 23, none, .extract (.tmp 19) 0⟩,
  ⟨some 24, none, .extract (.tmp 19) 1⟩,
  ⟨some 7, none, .mv (.tmp 23)⟩,
  ⟨some 8, none, .mv (.tmp 24)⟩])
 (.seq (.ops [⟨some 25, none, .mv (.tmp 8)⟩])
 (.cond (.tmp 25) (.seq (.ops [⟨some 2, none, .mv (.lit (.d .nilp))⟩,
  ⟨some 3, none, .mv (.lit (.d (.int .i64 5)))⟩])
 .ret) .skip)))
 (.ops [⟨some 26, none, .mv (.tmp 4)⟩,
  ⟨some 27, none, .mv (.tmp 6)⟩,
  ⟨some 28, none, .call false 45 [(.tmp 26), (.tmp 27)]⟩]))))
 (.ops [⟨some 29, none, .bin .add .plain (.tmp 15) (.lit (.d (.int .i64 1)))⟩,
  ⟨some 15, none, .mv (.tmp 29)⟩])))))))
 (.seq (.ops [⟨some 30, none, .mv (.tmp 4)⟩,
  ⟨some 2, none, .mv (.tmp 30)⟩,
  ⟨some 3, none, .mv (.lit (.d (.int .i64 0)))⟩])
 .ret)))))⟩
theorem zmG : isF Tryz.prog zgd zgK := ⟨Tryz.f81, _, Tryz.func81, by decide +kernel, rfl, by kernel_rfl, by kernel_rfl, by decide, by kernel_rfl, rfl, by kernel_rfl⟩
/-- bulla/request.CheckBatch -/
def zbQ : AF := ⟨1, 66, [(.tmp 2)],
 (.seq (.ops [⟨some 2, none, .mv (.lit (.d (.int .i64 0)))⟩])
 (.seq (.seq (.ops [⟨some 11, none, .mv (.tmp 0)⟩,
  ⟨some 12, none, .len .sl (.tmp 11)⟩,
  ⟨some 13, none, .bin .gtr .plain (.tmp 12) (.lit (.d (.int .i64 4)))⟩])
 (.cond (.tmp 13) (.seq (.ops [⟨some 2, none, .mv (.lit (.d (.int .i64 3)))⟩])
 .ret) .skip))
 (.seq (.seq (.ops [⟨some 14, none, .mv (.tmp 0)⟩,
  ⟨some 15, none, .len .sl (.tmp 14)⟩,
  ⟨some 16, none, .mv (.lit (.d (.int .i64 0)))⟩])
 (.block 0 (.loop [16] [2, 4, 5, 6, 17, 18, 19, 20, 21, 22, 23, 24, 25, 26, 27, 28, 29, 30, 31, 32] (.seq (.ops [⟨some 17, none, .bin .lss .plain (.tmp 16) (.tmp 15)⟩])
 (.seq (.cond (.tmp 17) .skip (.exit 0))
 (.seq (.block 1 (.seq (.ops [⟨some 18, none, .iaddr none 9 (.tmp 14) (.tmp 16)⟩,
  ⟨some 19, none, .load true 9 (.tmp 18)⟩,
  ⟨some 4, none, .alloc [(.d (.int .i64 0)), (.d (.int .i64 0)), (.d (.int .i64 0)), (.d (.str [])), (.d (.str [])), (.d (.int .i64 0)), (.exact []), (.d (.int .i64 0)), (.d (.int .i64 0))]⟩,
  ⟨none, none, .store 9 (.tmp 4) (.tmp 19)⟩])
 (.seq (.seq (.ops [⟨some 20, none, .faddr 0 (.tmp 4)⟩,
  ⟨some 21, none, .load true 7 (.tmp 20)⟩,
  ⟨some 22, none, .call false 114 [(.tmp 21)]⟩,
  ⟨some 5, none, .mv (.tmp 22)⟩])
 (.seq (.ops [⟨some 23, none, .mv (.tmp 5)⟩,
  ⟨some 24, none, .bin .neq .plain (.tmp 23) (.lit (.d (.int .i64 0)))⟩])
 (.cond (.tmp 24) (.seq (.ops [⟨some 25, none, .mv (.tmp 5)⟩,
  ⟨some 2, none, .mv (.tmp 25)⟩])
 .ret) .skip)))
 (.seq (.ops [⟨some 26, none, .faddr 7 (.tmp 4)⟩,
  ⟨some 27, none, .load true 2 (.tmp 26)⟩,
  ⟨some 28, none, .call false 115 [(.tmp 27)]⟩,
  ⟨some 6, none, .mv (.tmp 28)⟩])
 (.seq (.ops [⟨some 29, none, .mv (.tmp 6)⟩,
  ⟨some 30, none, .bin .neq .plain (.tmp 29) (.lit (.d (.int .i64 0)))⟩])
 (.cond (.tmp 30) (.seq (.ops [⟨some 31, none, .mv (.tmp 6)⟩,
  ⟨some 2, none, .mv (.tmp 31)⟩])
 .ret) .skip))))))
 (.ops [⟨some 32, none, .bin .add .plain (.tmp 16) (.lit (.d (.int .i64 1)))⟩,
  ⟨some 16, none, .mv (.tmp 32)⟩])))))))
 (.seq (.seq (.ops [⟨some 33, none, .mv (.tmp 0)⟩,
  ⟨some 34, none, .len .sl (.tmp 33)⟩,
  ⟨some 35, none, .mv (.lit (.d (.int .i64 0)))⟩])
 (.block 2 (.loop [35] [2, 7, 8, 10, 36, 37, 38, 39, 40, 41, 42, 43, 44, 45, 46, 47, 48, 49, 50, 51, 52, 53, 54, 55, 56, 57, 58, 59, 60, 61, 62, 63, 64, 65] (.seq (.ops [⟨some 36, none, .bin .lss .plain (.tmp 35) (.tmp 34)⟩])
 (.seq (.cond (.tmp 36) .skip (.exit 2))
 (.seq (.block 3 (.seq (.ops [⟨some 37, none, .mv (.tmp 35)⟩,
  ⟨some 38, none, .iaddr none 9 (.tmp 33) (.tmp 35)⟩,
  ⟨some 39, none, .load true 9 (.tmp 38)⟩,
  ⟨some 8, none, .alloc [(.d (.int .i64 0)), (.d (.int .i64 0)), (.d (.int .i64 0)), (.d (.str [])), (.d (.str [])), (.d (.int .i64 0)), (.exact []), (.d (.int .i64 0)), (.d (.int .i64 0))]⟩,
  ⟨some 7, none, .mv (.tmp 37)⟩,
  ⟨none, none, .store 9 (.tmp 8) (.tmp 39)⟩])
 (.seq (.ops [⟨some 40, none, .mv (.tmp 0)⟩,
  ⟨some 41, none, .mv (.tmp 7)⟩,
  ⟨some 42, none, .slc (.sl 9) (.tmp 40) none (some (.tmp 41)) none⟩,
  ⟨some 43, none, .len .sl (.tmp 42)⟩,
  ⟨some 44, none, .mv (.lit (.d (.int .i64 0)))⟩])
 (.block 4 (.loop [44] [2, 10, 45, 46, 47, 48, 49, 50, 51, 52, 53, 54, 55, 56, 57, 58, 59, 60, 61, 62, 63, 64] (.seq (.ops [⟨some 45, none, .bin .lss .plain (.tmp 44) (.tmp 43)⟩])
 (.seq (.cond (.tmp 45) .skip (.exit 4))
 (.seq (.block 5 (.seq (.ops [⟨some 46, none, .iaddr none 9 (.tmp 42) (.tmp 44)⟩,
  ⟨some 47, none, .load true 9 (.tmp 46)⟩,
  ⟨some 10, none, .alloc [(.d (.int .i64 0)), (.d (.int .i64 0)), (.d (.int .i64 0)), (.d (.str [])), (.d (.str [])), (.d (.int .i64 0)), (.exact []), (.d (.int .i64 0)), (.d (.int .i64 0))]⟩,
  ⟨none, none, .store 9 (.tmp 10) (.tmp 47)⟩])
 (.seq (.ops [⟨some 48, none, .faddr 0 (.tmp 8)⟩,
  ⟨some 49, none, .faddr 0 (.tmp 48)⟩,
  ⟨some 50, none, .load false 1 (.tmp 49)⟩,
  ⟨some 51, none, .faddr 0 (.tmp 10)⟩,
  ⟨some 52, none, .faddr 0 (.tmp 51)⟩,
  ⟨some 53, none, .load false 1 (.tmp 52)⟩,
  ⟨some 54, none, .bin .eql .plain (.tmp 50) (.tmp 53)⟩,
  ⟨some 55, none, .mv (.tmp 54)⟩,
  ⟨some 56, some (55, true), .faddr 0 (.tmp 8)⟩,
  ⟨some 57, some (55, true), .faddr 1 (.tmp 56)⟩,
  ⟨some 58, some (55, true), .load false 1 (.tmp 57)⟩,
  ⟨some 59, some (55, true), .faddr 0 (.tmp 10)⟩,
  ⟨some 60, some (55, true), .faddr 1 (.tmp 59)⟩,
  ⟨some 61, some (55, true), .load false 1 (.tmp 60)⟩,
  ⟨some 62, some (55, true), .bin .eql .plain (.tmp 58) (.tmp 61)⟩,
  ⟨some 63, none, .pick (.tmp 55) (.tmp 62) (.lit (.d (.bool false)))⟩])
 (.cond (.tmp 63) (.seq (.ops [⟨some 2, none, .mv (.lit (.d (.int .i64 5)))⟩])
 .ret) .skip))))
 (.ops [⟨some 64, none, .bin .add .plain (.tmp 44) (.lit (.d (.int .i64 1)))⟩,
  ⟨some 44, none, .mv (.tmp 64)⟩])))))))))
 (.ops [⟨some 65, none, .bin .add .plain (.tmp 35) (.lit (.d (.int .i64 1)))⟩,
  ⟨some 35, none, .mv (.tmp 65)⟩])))))))
 (.seq (.ops [⟨some 2, none, .mv (.lit (.d (.int .i64 0)))⟩])
 .ret)))))⟩
theorem zfU : isF Tryz.prog zbc zbQ := ⟨Tryz.f82, _, Tryz.func82, by decide +kernel, rfl, by kernel_rfl, by kernel_rfl, by decide, by kernel_rfl, rfl, by kernel_rfl⟩
/-- slices.ContainsFunc[bulla/api.Batch,bulla/api.Signed] -/
def zan : AF := ⟨2, 9, [(.tmp 4)],
 (.seq (.ops [⟨some 4, none, .mv (.lit (.d (.bool false)))⟩])
 (.seq (.ops [⟨some 5, none, .mv (.tmp 0)⟩,
  ⟨some 6, none, .mv (.tmp 1)⟩,
  ⟨some 7, none, .call false 116 [(.tmp 5), (.tmp 6)]⟩,
  ⟨some 8, none, .bin .geq .plain (.tmp 7) (.lit (.d (.int .i64 0)))⟩,
  ⟨some 4, none, .mv (.tmp 8)⟩])
 .ret))⟩
theorem zbk : isF Tryz.prog zam zan := ⟨Tryz.f83, _, Tryz.func83, by decide +kernel, rfl, by kernel_rfl, by kernel_rfl, by decide, by kernel_rfl, rfl, by kernel_rfl⟩
/-- bulla/request.ValidBatch$1 -/
def zbC : AF := ⟨3, 10, [(.tmp 4)],
 (.seq (.ops [⟨some 3, none, .boxi (.tmp 0)⟩,
  ⟨some 4, none, .mv (.lit (.d (.bool false)))⟩])
 (.seq (.ops [⟨some 5, none, .load false 1 (.tmp 1)⟩,
  ⟨some 6, none, .load false 1 (.tmp 2)⟩,
  ⟨some 7, none, .load true 9 (.tmp 3)⟩,
  ⟨some 8, none, .call false 85 [(.tmp 5), (.tmp 6), (.tmp 7)]⟩,
  ⟨some 9, none, .un .not (.tmp 8)⟩,
  ⟨some 4, none, .mv (.tmp 9)⟩])
 .ret))⟩
theorem zeK : isF Tryz.prog zcI zbC := ⟨Tryz.f84, _, Tryz.func84, by decide +kernel, rfl, by kernel_rfl, by kernel_rfl, by decide, by kernel_rfl, rfl, by kernel_rfl⟩
/-- bulla/request.Valid -/
def zeb : AF := ⟨3, 43, [(.tmp 6)],
 (.seq (.ops [⟨some 5, none, .boxi (.tmp 2)⟩,
  ⟨some 6, none, .mv (.lit (.d (.bool false)))⟩])
 (.seq (.ops [⟨some 12, none, .faddr 0 (.tmp 5)⟩,
  ⟨some 13, none, .load true 7 (.tmp 12)⟩,
  ⟨some 14, none, .call false 117 [(.tmp 13)]⟩,
  ⟨some 11, none, .mv (.tmp 14)⟩,
  ⟨some 15, none, .extract (.tmp 11) 0⟩,
  ⟨some 16, none, .extract (.tmp 11) 1⟩,
  ⟨some 7, none, .mv (.tmp 15)⟩,
  ⟨some 8, none, .mv (.tmp 16)⟩])
 (.seq (.seq (.ops [⟨some 17, none, .mv (.tmp 8)⟩,
  ⟨some 18, none, .bin .neq .plain (.tmp 17) (.lit (.d (.int .i64 0)))⟩])
 (.cond (.tmp 18) (.seq (.ops [⟨some 6, none, .mv (.lit (.d (.bool false)))⟩])
 .ret) .skip))
 (.seq (.ops [⟨some 20, none, .mv (.tmp 0)⟩,
  ⟨some 21, none, .mv (.tmp 7)⟩,
  ⟨some 22, none, .call false 51 [(.tmp 20), (.tmp 21)]⟩,
  ⟨some 19, none, .mv (.tmp 22)⟩,
  ⟨some 23, none, .extract (.tmp 19) 0⟩,
  ⟨some 24, none, .extract (.tmp 19) 1⟩,
  ⟨some 9, none, .mv (.tmp 23)⟩,
  ⟨some 10, none, .mv (.tmp 24)⟩])
 (.seq (.draw [⟨some 25, none, .mv (.tmp 10)⟩,
  ⟨some 26, none, .mv (.tmp 25)⟩,
  ⟨some 27, some (26, true), .faddr 7 (.tmp 5)⟩,
  ⟨some 28, some (26, true), .load true 2 (.tmp 27)⟩,
  ⟨some 29, some (26, true), .faddr 0 (.tmp 5)⟩,
  ⟨some 30, some (26, true), .faddr 0 (.tmp 29)⟩,
  ⟨some 31, some (26, true), .load false 1 (.tmp 30)⟩,
  ⟨some 32, some (26, true), .call false 118 [(.tmp 31)]⟩,
  ⟨some 33, some (26, true), .mv (.tmp 9)⟩,
  ⟨some 34, some (26, true), .build [(.d (.int .i64 0)), (.d (.int .i64 0))] [(0, 1, (.tmp 32)), (1, 1, (.tmp 33))]⟩,
  ⟨some 35, some (26, true), .bin .eql (.ints 2) (.tmp 28) (.tmp 34)⟩,
  ⟨some 36, none, .pick (.tmp 26) (.tmp 35) (.lit (.d (.bool false)))⟩,
  ⟨some 37, none, .mv (.tmp 36)⟩,
  ⟨some 38, some (37, true), .mv (.tmp 1)⟩,
  ⟨some 39, some (37, true), .faddr 7 (.tmp 5)⟩,
  ⟨some 40, some (37, true), .load true 2 (.tmp 39)⟩,
  ⟨some 41, some (37, true), .call false 119 [(.tmp 38), (.tmp 40)]⟩,
  ⟨some 42, none, .pick (.tmp 37) (.tmp 41) (.lit (.d (.bool false)))⟩,
  ⟨some 6, none, .mv (.tmp 42)⟩] [[], [0], [1], [2, 1], [1], [4, 1], [5, 1], [6, 1, 1], [1], [7, 8, 1], [3, 9, 1], [1, 10], [11, 7], [12], [12], [14, 12], [13, 15, 12, 12], [12, 16], [17, 16, 0, 1, 2, 3, 4, 5, 6, 7, 8, 9, 10, 11, 12, 13, 14, 15, 16, 17]] [(0, []), (1, []), (2, []), (3, []), (4, []), (5, []), (6, []), (8, []), (7, [27]), (9, []), (10, []), (11, []), (12, []), (13, []), (14, []), (15, []), (16, []), (17, []), (18, [])] [0, 1, 3, 7, 3, 19, 51, 115, 3, 499, 1023, 2047, 4095, 8191, 8191, 24575, 65535, 131071, 262143])
 .ret)))))⟩
theorem zjB : isF Tryz.prog zdK zeb := ⟨Tryz.f85, _, Tryz.func85, by decide +kernel, rfl, by kernel_rfl, by kernel_rfl, by decide, by kernel_rfl, rfl, by kernel_rfl⟩
/-- (bulla/request.parts).put -/
def zcd : AF := ⟨2, 34, [(.tmp 4)],
 (.seq (.ops [⟨some 4, none, .mv (.lit (.exact []))⟩])
 (.seq (.ops [⟨some 9, none, .mv (.tmp 1)⟩,
  ⟨some 10, none, .mv (.tmp 0)⟩,
  ⟨some 11, none, .len .sl (.tmp 10)⟩,
  ⟨some 12, none, .conv (.int .u64) (.tmp 11)⟩,
  ⟨some 13, none, .call false 120 [(.tmp 9), (.tmp 12)]⟩,
  ⟨some 1, none, .mv (.tmp 13)⟩])
 (.seq (.seq (.ops [⟨some 14, none, .mv (.tmp 0)⟩,
  ⟨some 15, none, .len .sl (.tmp 14)⟩,
  ⟨some 16, none, .mv (.lit (.d (.int .i64 0)))⟩])
 (.block 0 (.loop [1, 16] [6, 7, 8, 17, 18, 19, 20, 21, 22, 23, 24, 25, 26, 27, 28, 29, 30, 31, 32] (.seq (.ops [⟨some 17, none, .bin .lss .plain (.tmp 16) (.tmp 15)⟩])
 (.seq (.cond (.tmp 17) .skip (.exit 0))
 (.seq (.block 1 (.seq (.ops [⟨some 18, none, .iaddr none 9 (.tmp 14) (.tmp 16)⟩,
  ⟨some 19, none, .load true 9 (.tmp 18)⟩,
  ⟨some 6, none, .alloc [(.d (.int .i64 0)), (.d (.int .i64 0)), (.d (.int .i64 0)), (.d (.str [])), (.d (.str [])), (.d (.int .i64 0)), (.exact []), (.d (.int .i64 0)), (.d (.int .i64 0))]⟩,
  ⟨none, none, .store 9 (.tmp 6) (.tmp 19)⟩])
 (.seq (.ops [⟨some 21, none, .faddr 0 (.tmp 6)⟩,
  ⟨some 22, none, .load true 7 (.tmp 21)⟩,
  ⟨some 23, none, .call false 117 [(.tmp 22)]⟩,
  ⟨some 20, none, .mv (.tmp 23)⟩,
  ⟨some 24, none, .extract (.tmp 20) 0⟩,
  ⟨some 25, none, .extract (.tmp 20) 1⟩,
  ⟨some 7, none, .mv (.tmp 24)⟩,
  ⟨some 8, none, .mv (.tmp 25)⟩])
 (.draw [⟨some 26, none, .mv (.tmp 1)⟩,
  ⟨some 27, none, .mv (.tmp 7)⟩,
  ⟨some 28, none, .call false 122 [(.tmp 26), (.tmp 27)]⟩,
  ⟨some 29, none, .faddr 7 (.tmp 6)⟩,
  ⟨some 30, none, .load true 2 (.tmp 29)⟩,
  ⟨some 31, none, .call false 121 [(.tmp 28), (.tmp 30)]⟩,
  ⟨some 1, none, .mv (.tmp 31)⟩] [[], [], [0, 1], [], [3], [2, 4, 2], [5, 5, 0, 1, 2, 3, 4, 5]] [(0, []), (1, []), (3, []), (4, []), (2, [29]), (5, []), (6, [])] [0, 0, 3, 0, 8, 31, 63]))))
 (.ops [⟨some 32, none, .bin .add .plain (.tmp 16) (.lit (.d (.int .i64 1)))⟩,
  ⟨some 16, none, .mv (.tmp 32)⟩])))))))
 (.seq (.ops [⟨some 33, none, .mv (.tmp 1)⟩,
  ⟨some 4, none, .mv (.tmp 33)⟩])
 .ret))))⟩
theorem zgg : isF Tryz.prog zca zcd := ⟨Tryz.f86, _, Tryz.func86, by decide +kernel, rfl, by kernel_rfl, by kernel_rfl, by decide, by kernel_rfl, rfl, by kernel_rfl⟩
/-- bulla/quorum.view -/
def zfz : AF := ⟨2, 16, [(.tmp 4)],
 (.seq (.ops [⟨some 4, none, .mv (.lit (.d (.bool false)))⟩])
 (.seq (.ops [⟨some 5, none, .mv (.tmp 0)⟩,
  ⟨some 6, none, .call false 49 [(.tmp 5)]⟩,
  ⟨some 7, none, .bin .eql .plain (.tmp 6) (.lit (.d (.int .i64 0)))⟩,
  ⟨some 8, none, .mv (.tmp 7)⟩,
  ⟨some 9, some (8, true), .mv (.tmp 1)⟩,
  ⟨some 10, some (8, true), .bin .geq .plain (.tmp 9) (.lit (.d (.int .i64 0)))⟩,
  ⟨some 11, none, .pick (.tmp 8) (.tmp 10) (.lit (.d (.bool false)))⟩,
  ⟨some 12, none, .mv (.tmp 11)⟩,
  ⟨some 13, some (12, true), .mv (.tmp 1)⟩,
  ⟨some 14, some (12, true), .bin .leq .plain (.tmp 13) (.lit (.d (.int .i64 9007199254740992)))⟩,
  ⟨some 15, none, .pick (.tmp 12) (.tmp 14) (.lit (.d (.bool false)))⟩,
  ⟨some 4, none, .mv (.tmp 15)⟩])
 .ret))⟩
theorem zlG : isF Tryz.prog zfk zfz := ⟨Tryz.f87, _, Tryz.func87, by decide +kernel, rfl, by kernel_rfl, by kernel_rfl, by decide, by kernel_rfl, rfl, by kernel_rfl⟩
/-- bulla/auth.made -/
def zif : AF := ⟨2, 13, [(.tmp 4)],
 (.seq (.ops [⟨some 4, none, .mv (.lit (.d (.bool false)))⟩])
 (.seq (.ops [⟨some 5, none, .mv (.tmp 0)⟩,
  ⟨some 6, none, .call false 47 [(.tmp 5)]⟩,
  ⟨some 7, none, .bin .neq .ptr (.tmp 6) (.lit (.d .nilp))⟩,
  ⟨some 8, none, .mv (.tmp 7)⟩,
  ⟨some 9, some (8, true), .mv (.tmp 1)⟩,
  ⟨some 10, some (8, true), .call false 48 [(.tmp 9)]⟩,
  ⟨some 11, some (8, true), .bin .neq .ptr (.tmp 10) (.lit (.d .nilp))⟩,
  ⟨some 12, none, .pick (.tmp 8) (.tmp 11) (.lit (.d (.bool false)))⟩,
  ⟨some 4, none, .mv (.tmp 12)⟩])
 .ret))⟩
theorem zoi : isF Tryz.prog zhI zif := ⟨Tryz.f88, _, Tryz.func88, by decide +kernel, rfl, by kernel_rfl, by kernel_rfl, by decide, by kernel_rfl, rfl, by kernel_rfl⟩
/-- bulla/auth.may -/
def zkf : AF := ⟨4, 28, [(.tmp 8)],
 (.seq (.ops [⟨some 8, none, .mv (.lit (.d (.bool false)))⟩])
 (.seq (.seq (.ops [⟨some 11, none, .mv (.tmp 0)⟩,
  ⟨some 12, none, .mv (.tmp 1)⟩,
  ⟨some 13, none, .mv (.tmp 2)⟩,
  ⟨some 14, none, .mv (.tmp 3)⟩,
  ⟨some 15, none, .mkslice false 1 4 [(.d (.int .i64 0))] [(0, 1, (.tmp 11)), (1, 1, (.tmp 12)), (2, 1, (.tmp 13)), (3, 1, (.tmp 14))]⟩,
  ⟨some 16, none, .len .sl (.tmp 15)⟩,
  ⟨some 17, none, .mv (.lit (.d (.int .i64 0)))⟩])
 (.block 0 (.loop [17] [8, 10, 18, 19, 20, 21, 22, 23, 24, 25, 26, 27] (.seq (.ops [⟨some 18, none, .bin .lss .plain (.tmp 17) (.tmp 16)⟩])
 (.seq (.cond (.tmp 18) .skip (.exit 0))
 (.seq (.block 1 (.seq (.ops [⟨some 19, none, .iaddr none 1 (.tmp 15) (.tmp 17)⟩,
  ⟨some 20, none, .load false 1 (.tmp 19)⟩,
  ⟨some 10, none, .mv (.tmp 20)⟩])
 (.seq (.ops [⟨some 21, none, .mv (.tmp 10)⟩,
  ⟨some 22, none, .bin .lss .plain (.tmp 21) (.lit (.d (.int .i64 0)))⟩,
  ⟨some 23, none, .mv (.tmp 22)⟩,
  ⟨some 24, some (23, false), .mv (.tmp 10)⟩,
  ⟨some 25, some (23, false), .bin .gtr .plain (.tmp 24) (.lit (.d (.int .i64 9007199254740992)))⟩,
  ⟨some 26, none, .pick (.tmp 23) (.lit (.d (.bool true))) (.tmp 25)⟩])
 (.cond (.tmp 26) (.seq (.ops [⟨some 8, none, .mv (.lit (.d (.bool false)))⟩])
 .ret) .skip))))
 (.ops [⟨some 27, none, .bin .add .plain (.tmp 17) (.lit (.d (.int .i64 1)))⟩,
  ⟨some 17, none, .mv (.tmp 27)⟩])))))))
 (.seq (.ops [⟨some 8, none, .mv (.lit (.d (.bool true)))⟩])
 .ret)))⟩
theorem isA_auth_may : isF Tryz.prog zjr zkf := ⟨Tryz.f89, _, Tryz.func89, by decide +kernel, rfl, by kernel_rfl, by kernel_rfl, by decide, by kernel_rfl, rfl, by kernel_rfl⟩
/-- bulla/auth.signed -/
def zfC : AF := ⟨5, 32, [(.tmp 10)],
 (.seq (.ops [⟨some 7, none, .boxi (.tmp 2)⟩,
  ⟨some 10, none, .mv (.lit (.d (.bool false)))⟩])
 (.seq (.ops [⟨some 14, none, .mv (.tmp 0)⟩,
  ⟨some 15, none, .mv (.tmp 4)⟩,
  ⟨some 16, none, .call false 51 [(.tmp 14), (.tmp 15)]⟩,
  ⟨some 13, none, .mv (.tmp 16)⟩,
  ⟨some 17, none, .extract (.tmp 13) 0⟩,
  ⟨some 18, none, .extract (.tmp 13) 1⟩,
  ⟨some 11, none, .mv (.tmp 17)⟩,
  ⟨some 12, none, .mv (.tmp 18)⟩])
 (.seq (.ops [⟨some 19, none, .mv (.tmp 12)⟩,
  ⟨some 20, none, .mv (.tmp 19)⟩,
  ⟨some 21, some (20, true), .load true 2 (.tmp 7)⟩,
  ⟨some 22, some (20, true), .mv (.tmp 3)⟩,
  ⟨some 23, some (20, true), .mv (.tmp 11)⟩,
  ⟨some 24, some (20, true), .build [(.d (.int .i64 0)), (.d (.int .i64 0))] [(0, 1, (.tmp 22)), (1, 1, (.tmp 23))]⟩,
  ⟨some 25, some (20, true), .bin .eql (.ints 2) (.tmp 21) (.tmp 24)⟩,
  ⟨some 26, none, .pick (.tmp 20) (.tmp 25) (.lit (.d (.bool false)))⟩,
  ⟨some 27, none, .mv (.tmp 26)⟩,
  ⟨some 28, some (27, true), .mv (.tmp 1)⟩,
  ⟨some 29, some (27, true), .load true 2 (.tmp 7)⟩,
  ⟨some 30, some (27, true), .call false 119 [(.tmp 28), (.tmp 29)]⟩,
  ⟨some 31, none, .pick (.tmp 27) (.tmp 30) (.lit (.d (.bool false)))⟩,
  ⟨some 10, none, .mv (.tmp 31)⟩])
 .ret)))⟩
theorem zlJ : isF Tryz.prog zfn zfC := ⟨Tryz.f90, _, Tryz.func90, by decide +kernel, rfl, by kernel_rfl, by kernel_rfl, by decide, by kernel_rfl, rfl, by kernel_rfl⟩
/-- bulla/auth.VoteBytes -/
def zdw : AF := ⟨4, 16, [(.tmp 8)],
 (.seq (.ops [⟨some 8, none, .mv (.lit (.exact []))⟩])
 (.seq (.ops [⟨some 9, none, .mkslice false 1 1 [(.d (.int .u8 0))] [(0, 1, (.lit (.d (.int .u8 4))))]⟩,
  ⟨some 10, none, .mv (.tmp 0)⟩,
  ⟨some 11, none, .mv (.tmp 1)⟩,
  ⟨some 12, none, .mv (.tmp 2)⟩,
  ⟨some 13, none, .mv (.tmp 3)⟩,
  ⟨some 14, none, .mkslice false 1 4 [(.d (.int .i64 0))] [(0, 1, (.tmp 10)), (1, 1, (.tmp 11)), (2, 1, (.tmp 12)), (3, 1, (.tmp 13))]⟩,
  ⟨some 15, none, .call false 123 [(.tmp 9), (.tmp 14)]⟩,
  ⟨some 8, none, .mv (.tmp 15)⟩])
 .ret))⟩
theorem ziG : isF Tryz.prog zdi zdw := ⟨Tryz.f91, _, Tryz.func91, by decide +kernel, rfl, by kernel_rfl, by kernel_rfl, by decide, by kernel_rfl, rfl, by kernel_rfl⟩
end Go.Proofs.YtcappjcojggehaaGreat

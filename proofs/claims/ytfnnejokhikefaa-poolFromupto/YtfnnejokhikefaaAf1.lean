/- Resolved forms, each with the theorem that it is its function's. Printed by program. -/
import Derived.Test.YtfnnejokhikefaaNm
import Derived.KernelRfl
set_option linter.all false
set_option maxRecDepth 100000
set_option linter.unusedVariables false
namespace Go.Proofs.Ytfnnejokhikefaa
open Go.AW
/-- bulla/bullalaw18.PoolFrom -/
def A_l18_PoolFrom : AF := ⟨1, 40, [(.tmp 2)],
 (.seq (.ops [⟨some 1, none, .boxi (.tmp 0)⟩,
  ⟨some 2, none, .mv (.lit (.d (.bool false)))⟩])
 (.seq (.ops [⟨some 8, none, .load true 1 (.tmp 1)⟩,
  ⟨some 9, none, .call false 17 [(.tmp 8)]⟩,
  ⟨some 7, none, .mv (.tmp 9)⟩,
  ⟨some 10, none, .extract (.tmp 7) 0⟩,
  ⟨some 11, none, .extract (.tmp 7) 1⟩,
  ⟨some 3, none, .mv (.tmp 10)⟩,
  ⟨some 4, none, .mv (.tmp 11)⟩])
 (.seq (.ops [⟨some 13, none, .load true 1 (.tmp 1)⟩,
  ⟨some 14, none, .call false 18 [(.tmp 13)]⟩,
  ⟨some 12, none, .mv (.tmp 14)⟩,
  ⟨some 15, none, .extract (.tmp 12) 0⟩,
  ⟨some 16, none, .extract (.tmp 12) 1⟩,
  ⟨some 5, none, .mv (.tmp 15)⟩,
  ⟨some 6, none, .mv (.tmp 16)⟩])
 (.seq (.seq (.ops [⟨some 17, none, .call false 9 []⟩,
  ⟨some 18, none, .un .not (.tmp 17)⟩,
  ⟨some 19, none, .mv (.tmp 18)⟩,
  ⟨some 20, some (19, false), .mv (.tmp 4)⟩,
  ⟨some 21, some (19, false), .mv (.tmp 6)⟩,
  ⟨some 22, some (19, false), .bin .neq .plain (.tmp 20) (.tmp 21)⟩,
  ⟨some 23, none, .pick (.tmp 19) (.lit (.d (.bool true))) (.tmp 22)⟩,
  ⟨some 24, none, .mv (.tmp 23)⟩,
  ⟨some 25, some (24, false), .mv (.tmp 3)⟩,
  ⟨some 26, some (24, false), .bin .eql .ptr (.tmp 25) (.lit (.d .nilp))⟩,
  ⟨some 27, some (24, false), .mv (.tmp 5)⟩,
  ⟨some 28, some (24, false), .bin .eql .ptr (.tmp 27) (.lit (.d .nilp))⟩,
  ⟨some 29, some (24, false), .bin .neq .bool (.tmp 26) (.tmp 28)⟩,
  ⟨some 30, none, .pick (.tmp 24) (.lit (.d (.bool true))) (.tmp 29)⟩])
 (.cond (.tmp 30) (.seq (.ops [⟨some 2, none, .mv (.lit (.d (.bool false)))⟩])
 .ret) .skip))
 (.seq (.draw [⟨some 31, none, .mv (.tmp 5)⟩,
  ⟨some 32, none, .bin .eql .ptr (.tmp 31) (.lit (.d .nilp))⟩,
  ⟨some 33, none, .mv (.tmp 32)⟩,
  ⟨some 34, some (33, false), .mv (.tmp 3)⟩,
  ⟨some 35, some (33, false), .call false 13 [(.tmp 34)]⟩,
  ⟨some 36, some (33, false), .faddr 0 (.tmp 1)⟩,
  ⟨some 37, some (33, false), .load false 1 (.tmp 36)⟩,
  ⟨some 38, some (33, false), .call false 14 [(.tmp 35), (.tmp 37)]⟩,
  ⟨some 39, none, .pick (.tmp 33) (.lit (.d (.bool true))) (.tmp 38)⟩,
  ⟨some 2, none, .mv (.tmp 39)⟩] [[], [0], [1], [2], [3, 2, 2], [2], [5, 2], [4, 6, 4, 2], [2, 7], [8, 7, 0, 1, 2, 3, 4, 5, 6, 7, 8]] [(0, []), (1, []), (2, []), (3, []), (5, []), (6, []), (4, [36]), (7, []), (8, []), (9, [])] [0, 1, 3, 7, 15, 7, 39, 127, 255, 511])
 .ret)))))⟩
theorem isA_l18_PoolFrom : isF Try.prog n_l18_PoolFrom A_l18_PoolFrom := ⟨Try.f5, _, Try.func5, by decide +kernel, rfl, by kernel_rfl, by kernel_rfl, by decide, by kernel_rfl, rfl, by kernel_rfl⟩
/-- bulla/pool.New -/
def A_pool_New : AF := ⟨0, 3, [(.tmp 0)],
 (.seq (.ops [⟨some 0, none, .mv (.lit (.d .nilp))⟩])
 (.seq (.ops [⟨some 1, none, .build [(.d (.bool false)), (.exact []), (.exact []), (.exact []), (.exact []), (.exact []), (.exact []), (.exact []), (.exact [])] [(0, 1, (.lit (.d (.bool true))))]⟩,
  ⟨some 2, none, .boxi (.tmp 1)⟩,
  ⟨some 0, none, .mv (.tmp 2)⟩])
 .ret))⟩
theorem isA_pool_New : isF Try.prog n_pool_New A_pool_New := ⟨Try.f8, _, Try.func8, by decide +kernel, rfl, by kernel_rfl, by kernel_rfl, by decide, by kernel_rfl, rfl, by kernel_rfl⟩
/-- bulla/bullalaw18.begun -/
def A_l18_begun : AF := ⟨0, 55, [(.tmp 0)],
 (.seq (.ops [⟨some 0, none, .mv (.lit (.d (.bool false)))⟩])
 (.seq (.ops [⟨some 2, none, .call false 8 []⟩,
  ⟨some 1, none, .mv (.tmp 2)⟩])
 (.seq (.ops [⟨some 3, none, .mv (.tmp 1)⟩,
  ⟨some 4, none, .bin .neq .ptr (.tmp 3) (.lit (.d .nilp))⟩,
  ⟨some 5, none, .mv (.tmp 4)⟩,
  ⟨some 6, some (5, true), .mv (.tmp 1)⟩,
  ⟨some 7, some (5, true), .call false 26 [(.lit (.d (.int .i64 2))), (.lit (.d (.int .i64 5)))]⟩,
  ⟨some 8, some (5, true), .call false 10 [(.tmp 6), (.tmp 7)]⟩,
  ⟨some 9, none, .pick (.tmp 5) (.tmp 8) (.lit (.d (.bool false)))⟩,
  ⟨some 10, none, .mv (.tmp 9)⟩,
  ⟨some 11, some (10, true), .mv (.tmp 1)⟩,
  ⟨some 12, some (10, true), .call false 26 [(.lit (.d (.int .i64 2))), (.lit (.d (.int .i64 4)))]⟩,
  ⟨some 13, some (10, true), .call false 10 [(.tmp 11), (.tmp 12)]⟩,
  ⟨some 14, some (10, true), .un .not (.tmp 13)⟩,
  ⟨some 15, none, .pick (.tmp 10) (.tmp 14) (.lit (.d (.bool false)))⟩,
  ⟨some 16, none, .mv (.tmp 15)⟩,
  ⟨some 17, some (16, true), .mv (.tmp 1)⟩,
  ⟨some 18, some (16, true), .call false 26 [(.lit (.d (.int .i64 2))), (.lit (.d (.int .i64 7)))]⟩,
  ⟨some 19, some (16, true), .call false 10 [(.tmp 17), (.tmp 18)]⟩,
  ⟨some 20, none, .pick (.tmp 16) (.tmp 19) (.lit (.d (.bool false)))⟩,
  ⟨some 21, none, .mv (.tmp 20)⟩,
  ⟨some 22, some (21, true), .mv (.tmp 1)⟩,
  ⟨some 23, some (21, true), .call false 24 [(.tmp 22)]⟩,
  ⟨some 24, some (21, true), .bin .eql .plain (.tmp 23) (.lit (.d (.int .i64 1)))⟩,
  ⟨some 25, none, .pick (.tmp 21) (.tmp 24) (.lit (.d (.bool false)))⟩,
  ⟨some 26, none, .mv (.tmp 25)⟩,
  ⟨some 27, some (26, true), .mv (.tmp 1)⟩,
  ⟨some 28, some (26, true), .call false 11 [(.tmp 27), (.lit (.exact []))]⟩,
  ⟨some 29, some (26, true), .len .sl (.tmp 28)⟩,
  ⟨some 30, some (26, true), .bin .eql .plain (.tmp 29) (.lit (.d (.int .i64 1)))⟩,
  ⟨some 31, none, .pick (.tmp 26) (.tmp 30) (.lit (.d (.bool false)))⟩,
  ⟨some 32, none, .mv (.tmp 31)⟩,
  ⟨some 33, some (32, true), .mv (.tmp 1)⟩,
  ⟨some 34, some (32, true), .call false 26 [(.lit (.d (.int .i64 2))), (.lit (.d (.int .i64 7)))]⟩,
  ⟨some 35, some (32, true), .mkslice false 9 1 [(.d (.int .i64 0)), (.d (.int .i64 0)), (.d (.int .i64 0)), (.d (.str [])), (.d (.str [])), (.d (.int .i64 0)), (.exact []), (.d (.int .i64 0)), (.d (.int .i64 0))] [(0, 9, (.tmp 34))]⟩,
  ⟨some 36, some (32, true), .mkslice false 1 1 [(.exact [])] [(0, 1, (.tmp 35))]⟩,
  ⟨some 37, some (32, true), .call false 11 [(.tmp 33), (.tmp 36)]⟩,
  ⟨some 38, some (32, true), .len .sl (.tmp 37)⟩,
  ⟨some 39, some (32, true), .bin .eql .plain (.tmp 38) (.lit (.d (.int .i64 0)))⟩,
  ⟨some 40, none, .pick (.tmp 32) (.tmp 39) (.lit (.d (.bool false)))⟩,
  ⟨some 41, none, .mv (.tmp 40)⟩,
  ⟨some 42, some (41, true), .mv (.tmp 1)⟩,
  ⟨some 43, some (41, true), .call false 15 [(.tmp 42), (.lit (.d (.int .i64 2))), (.lit (.d (.int .i64 6)))]⟩,
  ⟨some 44, some (41, true), .un .not (.tmp 43)⟩,
  ⟨some 45, none, .pick (.tmp 41) (.tmp 44) (.lit (.d (.bool false)))⟩,
  ⟨some 46, none, .mv (.tmp 45)⟩,
  ⟨some 47, some (46, true), .mv (.tmp 1)⟩,
  ⟨some 48, some (46, true), .call false 15 [(.tmp 47), (.lit (.d (.int .i64 2))), (.lit (.d (.int .i64 7)))]⟩,
  ⟨some 49, none, .pick (.tmp 46) (.tmp 48) (.lit (.d (.bool false)))⟩,
  ⟨some 50, none, .mv (.tmp 49)⟩,
  ⟨some 51, some (50, true), .mv (.tmp 1)⟩,
  ⟨some 52, some (50, true), .call false 24 [(.tmp 51)]⟩,
  ⟨some 53, some (50, true), .bin .eql .plain (.tmp 52) (.lit (.d (.int .i64 0)))⟩,
  ⟨some 54, none, .pick (.tmp 50) (.tmp 53) (.lit (.d (.bool false)))⟩,
  ⟨some 0, none, .mv (.tmp 54)⟩])
 .ret)))⟩
theorem isA_l18_begun : isF Try.prog n_l18_begun A_l18_begun := ⟨Try.f9, _, Try.func9, by decide +kernel, rfl, by kernel_rfl, by kernel_rfl, by decide, by kernel_rfl, rfl, by kernel_rfl⟩
/-- (*bulla/pool.Pool).Put -/
def A_pool_Pool_Put : AF := ⟨2, 44, [(.tmp 4)],
 (.seq (.ops [⟨some 3, none, .boxi (.tmp 1)⟩,
  ⟨some 4, none, .mv (.lit (.d (.bool false)))⟩])
 (.seq (.seq (.ops [⟨some 6, none, .mv (.tmp 0)⟩,
  ⟨some 7, none, .call false 27 [(.tmp 6)]⟩,
  ⟨some 8, none, .mv (.tmp 7)⟩,
  ⟨some 9, some (8, false), .load true 9 (.tmp 3)⟩,
  ⟨some 10, some (8, false), .mkslice false 9 1 [(.d (.int .i64 0)), (.d (.int .i64 0)), (.d (.int .i64 0)), (.d (.str [])), (.d (.str [])), (.d (.int .i64 0)), (.exact []), (.d (.int .i64 0)), (.d (.int .i64 0))] [(0, 9, (.tmp 9))]⟩,
  ⟨some 11, some (8, false), .call false 28 [(.tmp 10)]⟩,
  ⟨some 12, some (8, false), .bin .neq .plain (.tmp 11) (.lit (.d (.int .i64 0)))⟩,
  ⟨some 13, none, .pick (.tmp 8) (.lit (.d (.bool true))) (.tmp 12)⟩])
 (.cond (.tmp 13) (.seq (.ops [⟨some 4, none, .mv (.lit (.d (.bool false)))⟩])
 .ret) .skip))
 (.seq (.draw [⟨some 14, none, .mv (.tmp 0)⟩,
  ⟨some 15, none, .faddr 0 (.tmp 3)⟩,
  ⟨some 16, none, .faddr 0 (.tmp 15)⟩,
  ⟨some 17, none, .load false 1 (.tmp 16)⟩,
  ⟨some 18, none, .nilchk (.tmp 14)⟩,
  ⟨some 19, none, .faddr 1 (.tmp 18)⟩,
  ⟨some 20, none, .iaddr (some 8) 1 (.tmp 19) (.tmp 17)⟩,
  ⟨some 5, none, .mv (.tmp 20)⟩] [[], [], [1], [2], [0], [4], [5, 3], [6, 0, 1, 2, 3, 4, 5, 6]] [(0, []), (1, []), (2, []), (3, []), (4, []), (5, []), (6, []), (7, [])] [0, 0, 2, 6, 1, 17, 63, 127])
 (.seq (.seq (.draw [⟨some 21, none, .mv (.tmp 5)⟩,
  ⟨some 22, none, .nilchk (.tmp 21)⟩,
  ⟨some 23, none, .load false 1 (.tmp 22)⟩,
  ⟨some 24, none, .len .sl (.tmp 23)⟩,
  ⟨some 25, none, .bin .gtr .plain (.tmp 24) (.lit (.d (.int .i64 0)))⟩,
  ⟨some 26, none, .mv (.tmp 25)⟩,
  ⟨some 27, some (26, true), .mv (.tmp 5)⟩,
  ⟨some 28, some (26, true), .nilchk (.tmp 27)⟩,
  ⟨some 29, some (26, true), .load false 1 (.tmp 28)⟩,
  ⟨some 30, some (26, true), .iaddr none 9 (.tmp 29) (.lit (.d (.int .i64 0)))⟩,
  ⟨some 31, some (26, true), .faddr 0 (.tmp 30)⟩,
  ⟨some 32, some (26, true), .faddr 1 (.tmp 31)⟩,
  ⟨some 33, some (26, true), .load false 1 (.tmp 32)⟩,
  ⟨some 34, some (26, true), .faddr 0 (.tmp 3)⟩,
  ⟨some 35, some (26, true), .faddr 1 (.tmp 34)⟩,
  ⟨some 36, some (26, true), .load false 1 (.tmp 35)⟩,
  ⟨some 37, some (26, true), .bin .geq .plain (.tmp 33) (.tmp 36)⟩,
  ⟨some 38, none, .pick (.tmp 26) (.tmp 37) (.lit (.d (.bool false)))⟩] [[], [0], [1], [2], [3], [4], [5], [6, 5], [7, 5], [8, 5], [9, 5], [10, 5], [11, 5], [5], [13, 5], [14, 5], [12, 15, 5], [5, 16]] [(0, []), (1, []), (2, []), (3, []), (4, []), (5, []), (6, []), (7, []), (8, []), (9, []), (10, []), (11, []), (12, []), (13, []), (14, []), (15, []), (16, []), (17, [])] [0, 1, 3, 7, 15, 31, 63, 127, 255, 511, 1023, 2047, 4095, 63, 8255, 24639, 65535, 131071])
 (.cond (.tmp 38) (.seq (.ops [⟨some 4, none, .mv (.lit (.d (.bool false)))⟩])
 .ret) .skip))
 (.seq (.ops [⟨some 39, none, .mv (.tmp 5)⟩,
  ⟨some 40, none, .load true 9 (.tmp 3)⟩,
  ⟨some 41, none, .mkslice false 9 1 [(.d (.int .i64 0)), (.d (.int .i64 0)), (.d (.int .i64 0)), (.d (.str [])), (.d (.str [])), (.d (.int .i64 0)), (.exact []), (.d (.int .i64 0)), (.d (.int .i64 0))] [(0, 9, (.tmp 40))]⟩,
  ⟨some 42, none, .call false 29 [(.tmp 41)]⟩,
  ⟨some 43, none, .nilchk (.tmp 39)⟩,
  ⟨none, none, .store 1 (.tmp 43) (.tmp 42)⟩])
 (.seq (.ops [⟨some 4, none, .mv (.lit (.d (.bool true)))⟩])
 .ret))))))⟩
theorem isA_pool_Pool_Put : isF Try.prog n_pool_Pool_Put A_pool_Pool_Put := ⟨Try.f10, _, Try.func10, by decide +kernel, rfl, by kernel_rfl, by kernel_rfl, by decide, by kernel_rfl, rfl, by kernel_rfl⟩
end Go.Proofs.Ytfnnejokhikefaa

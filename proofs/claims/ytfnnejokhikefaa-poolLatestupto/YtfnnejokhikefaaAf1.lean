/- Resolved forms, each with the theorem that it is its function's. Printed by program. -/
import Derived.Test.YtfnnejokhikefaaNm
import Derived.KernelRfl
set_option linter.all false
set_option maxRecDepth 100000
set_option linter.unusedVariables false
namespace Go.Proofs.Ytfnnejokhikefaa
open Go.AW
/-- bulla/bullalaw18.PoolLatest -/
def A_l18_PoolLatest : AF := ⟨1, 136, [(.tmp 2)],
 (.seq (.ops [⟨some 2, none, .mv (.lit (.d (.bool false)))⟩])
 (.seq (.ops [⟨some 13, none, .call false 8 []⟩,
  ⟨some 3, none, .mv (.tmp 13)⟩])
 (.seq (.seq (.ops [⟨some 14, none, .call false 9 []⟩,
  ⟨some 15, none, .un .not (.tmp 14)⟩,
  ⟨some 16, none, .mv (.tmp 15)⟩,
  ⟨some 17, some (16, false), .mv (.tmp 3)⟩,
  ⟨some 18, some (16, false), .bin .eql .ptr (.tmp 17) (.lit (.d .nilp))⟩,
  ⟨some 19, none, .pick (.tmp 16) (.lit (.d (.bool true))) (.tmp 18)⟩])
 (.cond (.tmp 19) (.seq (.ops [⟨some 2, none, .mv (.lit (.d (.bool false)))⟩])
 .ret) .skip))
 (.seq (.ops [⟨some 4, none, .alloc [(.d (.int .i64 0)), (.d (.int .i64 0)), (.d (.int .i64 0)), (.d (.int .i64 0)), (.d (.int .i64 0)), (.d (.int .i64 0)), (.d (.int .i64 0)), (.d (.int .i64 0))]⟩,
  ⟨some 5, none, .alloc [(.d (.int .i64 0)), (.d (.int .i64 0)), (.d (.int .i64 0)), (.d (.int .i64 0)), (.d (.int .i64 0)), (.d (.int .i64 0)), (.d (.int .i64 0)), (.d (.int .i64 0))]⟩])
 (.seq (.seq (.ops [⟨some 20, none, .mv (.tmp 0)⟩,
  ⟨some 21, none, .len .sl (.tmp 20)⟩,
  ⟨some 22, none, .mv (.lit (.d (.int .i64 0)))⟩])
 (.block 0 (.loop [22] [2, 7, 8, 9, 23, 24, 25, 26, 27, 28, 29, 30, 31, 32, 33, 34, 35, 36, 37, 38, 39, 40, 41, 42, 43, 44, 45, 46, 47, 48, 49, 50, 51, 52, 53, 54, 55, 56, 57, 58, 59, 60, 61, 62, 63, 64, 65, 66, 67, 68, 69, 70, 71, 72, 73, 74, 75, 76, 77, 78, 79, 80, 81, 82, 83, 84, 85, 86, 87, 88, 89, 90, 91, 92, 93, 94, 95, 96, 97, 98, 99, 100, 101, 102, 103, 104] (.seq (.ops [⟨some 23, none, .bin .lss .plain (.tmp 22) (.tmp 21)⟩])
 (.seq (.cond (.tmp 23) .skip (.exit 0))
 (.seq (.block 1 (.seq (.ops [⟨some 24, none, .iaddr none 13 (.tmp 20) (.tmp 22)⟩,
  ⟨some 25, none, .load true 13 (.tmp 24)⟩,
  ⟨some 7, none, .alloc [(.d (.int .i64 0)), (.d (.int .i64 0)), (.d (.int .i64 0)), (.d (.int .i64 0)), (.d (.str [])), (.d (.str [])), (.d (.int .i64 0)), (.exact []), (.d (.int .i64 0)), (.d (.int .i64 0)), (.d (.int .i64 0)), (.d (.int .i64 0)), (.exact [])]⟩,
  ⟨none, none, .store 13 (.tmp 7) (.tmp 25)⟩])
 (.seq (.seq (.ops [⟨some 26, none, .faddr 0 (.tmp 7)⟩,
  ⟨some 27, none, .load false 1 (.tmp 26)⟩,
  ⟨some 28, none, .bin .eql .plain (.tmp 27) (.lit (.d (.int .i64 1)))⟩])
 (.cond (.tmp 28) (.seq (.ops [⟨some 29, none, .mv (.tmp 3)⟩,
  ⟨some 30, none, .faddr 10 (.tmp 7)⟩,
  ⟨some 31, none, .load false 1 (.tmp 30)⟩,
  ⟨some 32, none, .faddr 11 (.tmp 7)⟩,
  ⟨some 33, none, .load false 1 (.tmp 32)⟩,
  ⟨some 34, none, .call false 15 [(.tmp 29), (.tmp 31), (.tmp 33)]⟩])
 (.seq (.seq (.draw [⟨some 35, none, .faddr 10 (.tmp 7)⟩,
  ⟨some 36, none, .load false 1 (.tmp 35)⟩,
  ⟨some 37, none, .bin .geq .plain (.tmp 36) (.lit (.d (.int .i64 0)))⟩,
  ⟨some 38, none, .mv (.tmp 37)⟩,
  ⟨some 39, some (38, true), .faddr 10 (.tmp 7)⟩,
  ⟨some 40, some (38, true), .load false 1 (.tmp 39)⟩,
  ⟨some 41, some (38, true), .bin .lss .plain (.tmp 40) (.lit (.d (.int .i64 8)))⟩,
  ⟨some 42, none, .pick (.tmp 38) (.tmp 41) (.lit (.d (.bool false)))⟩,
  ⟨some 43, none, .mv (.tmp 42)⟩,
  ⟨some 44, some (43, true), .faddr 10 (.tmp 7)⟩,
  ⟨some 45, some (43, true), .load false 1 (.tmp 44)⟩,
  ⟨some 46, some (43, true), .iaddr (some 8) 1 (.tmp 4) (.tmp 45)⟩,
  ⟨some 47, some (43, true), .load false 1 (.tmp 46)⟩,
  ⟨some 48, some (43, true), .faddr 11 (.tmp 7)⟩,
  ⟨some 49, some (43, true), .load false 1 (.tmp 48)⟩,
  ⟨some 50, some (43, true), .bin .leq .plain (.tmp 47) (.tmp 49)⟩,
  ⟨some 51, none, .pick (.tmp 43) (.tmp 50) (.lit (.d (.bool false)))⟩] [[], [0], [1], [2], [3], [4, 3], [5, 3], [3, 6], [7, 3], [8], [9, 8], [10, 8], [11, 8], [8], [13, 8], [12, 14, 8], [8, 15]] [(0, []), (1, []), (2, []), (3, []), (4, []), (5, []), (6, []), (7, []), (8, []), (9, []), (10, []), (11, []), (12, []), (13, []), (14, []), (15, []), (16, [])] [0, 1, 3, 7, 15, 31, 63, 127, 255, 511, 1023, 2047, 4095, 511, 8703, 32767, 65535])
 (.cond (.tmp 51) (.draw [⟨some 52, none, .faddr 10 (.tmp 7)⟩,
  ⟨some 53, none, .load false 1 (.tmp 52)⟩,
  ⟨some 54, none, .faddr 10 (.tmp 7)⟩,
  ⟨some 55, none, .load false 1 (.tmp 54)⟩,
  ⟨some 56, none, .iaddr (some 8) 1 (.tmp 4) (.tmp 55)⟩,
  ⟨some 57, none, .load false 1 (.tmp 56)⟩,
  ⟨some 58, none, .iaddr (some 8) 1 (.tmp 5) (.tmp 53)⟩,
  ⟨none, none, .store 1 (.tmp 58) (.tmp 57)⟩] [[], [0], [], [2], [3], [4], [1, 0, 1, 2, 3, 4, 5], [6, 5, 0, 1, 2, 3, 4, 5]] [(0, []), (1, []), (2, []), (3, []), (4, []), (5, []), (6, []), (7, [])] [0, 1, 0, 4, 12, 28, 63, 127]) .skip))
 (.exit 1))) .skip))
 (.seq (.seq (.ops [⟨some 59, none, .faddr 1 (.tmp 7)⟩,
  ⟨some 60, none, .load true 9 (.tmp 59)⟩,
  ⟨some 61, none, .mkslice false 9 1 [(.d (.int .i64 0)), (.d (.int .i64 0)), (.d (.int .i64 0)), (.d (.str [])), (.d (.str [])), (.d (.int .i64 0)), (.exact []), (.d (.int .i64 0)), (.d (.int .i64 0))] [(0, 9, (.tmp 60))]⟩,
  ⟨some 62, none, .call false 12 [(.tmp 61)]⟩,
  ⟨some 63, none, .bin .neq .plain (.tmp 62) (.lit (.d (.int .i64 0)))⟩])
 (.cond (.tmp 63) (.seq (.seq (.ops [⟨some 64, none, .mv (.tmp 3)⟩,
  ⟨some 65, none, .faddr 1 (.tmp 7)⟩,
  ⟨some 66, none, .load true 9 (.tmp 65)⟩,
  ⟨some 67, none, .call false 10 [(.tmp 64), (.tmp 66)]⟩])
 (.cond (.tmp 67) (.seq (.ops [⟨some 2, none, .mv (.lit (.d (.bool false)))⟩])
 .ret) .skip))
 (.exit 1)) .skip))
 (.seq (.ops [⟨some 68, none, .faddr 1 (.tmp 7)⟩,
  ⟨some 69, none, .faddr 0 (.tmp 68)⟩,
  ⟨some 70, none, .faddr 0 (.tmp 69)⟩,
  ⟨some 71, none, .load false 1 (.tmp 70)⟩,
  ⟨some 8, none, .mv (.tmp 71)⟩])
 (.seq (.ops [⟨some 72, none, .mv (.tmp 3)⟩,
  ⟨some 73, none, .faddr 1 (.tmp 7)⟩,
  ⟨some 74, none, .load true 9 (.tmp 73)⟩,
  ⟨some 75, none, .call false 10 [(.tmp 72), (.tmp 74)]⟩,
  ⟨some 9, none, .mv (.tmp 75)⟩])
 (.seq (.draw [⟨some 76, none, .mv (.tmp 8)⟩,
  ⟨some 77, none, .iaddr (some 8) 1 (.tmp 5) (.tmp 76)⟩,
  ⟨some 78, none, .load false 1 (.tmp 77)⟩,
  ⟨some 79, none, .mv (.tmp 8)⟩,
  ⟨some 80, none, .iaddr (some 8) 1 (.tmp 4) (.tmp 79)⟩,
  ⟨some 81, none, .load false 1 (.tmp 80)⟩,
  ⟨some 82, none, .bin .eql .plain (.tmp 78) (.tmp 81)⟩,
  ⟨some 83, none, .mv (.tmp 82)⟩,
  ⟨some 84, some (83, false), .faddr 1 (.tmp 7)⟩,
  ⟨some 85, some (83, false), .faddr 0 (.tmp 84)⟩,
  ⟨some 86, some (83, false), .faddr 1 (.tmp 85)⟩,
  ⟨some 87, some (83, false), .load false 1 (.tmp 86)⟩,
  ⟨some 88, some (83, false), .mv (.tmp 8)⟩,
  ⟨some 89, some (83, false), .iaddr (some 8) 1 (.tmp 4) (.tmp 88)⟩,
  ⟨some 90, some (83, false), .load false 1 (.tmp 89)⟩,
  ⟨some 91, some (83, false), .bin .gtr .plain (.tmp 87) (.tmp 90)⟩,
  ⟨some 92, none, .pick (.tmp 83) (.lit (.d (.bool true))) (.tmp 91)⟩] [[], [0], [1], [], [3], [4], [2, 5], [6], [7], [8, 7], [9, 7], [10, 7], [7], [12, 7], [13, 7], [11, 14, 7], [7, 15]] [(0, []), (1, []), (2, []), (3, []), (4, []), (5, []), (6, []), (7, []), (8, []), (9, []), (10, []), (11, []), (12, []), (13, []), (14, []), (15, []), (16, [])] [0, 1, 3, 0, 8, 24, 63, 127, 255, 511, 1023, 2047, 255, 4351, 12543, 32767, 65535])
 (.cond (.tmp 92) (.seq (.seq (.ops [⟨some 93, none, .mv (.tmp 9)⟩,
  ⟨some 94, none, .un .not (.tmp 93)⟩])
 (.cond (.tmp 94) (.seq (.ops [⟨some 2, none, .mv (.lit (.d (.bool false)))⟩])
 .ret) .skip))
 (.ops [⟨some 95, none, .mv (.tmp 8)⟩,
  ⟨some 96, none, .mv (.tmp 8)⟩,
  ⟨some 97, none, .faddr 1 (.tmp 7)⟩,
  ⟨some 98, none, .faddr 0 (.tmp 97)⟩,
  ⟨some 99, none, .faddr 1 (.tmp 98)⟩,
  ⟨some 100, none, .load false 1 (.tmp 99)⟩,
  ⟨some 101, none, .iaddr (some 8) 1 (.tmp 4) (.tmp 95)⟩,
  ⟨none, none, .store 1 (.tmp 101) (.tmp 100)⟩,
  ⟨some 102, none, .iaddr (some 8) 1 (.tmp 5) (.tmp 96)⟩,
  ⟨none, none, .store 1 (.tmp 102) (.lit (.d (.int .i64 0)))⟩])) (.seq (.ops [⟨some 103, none, .mv (.tmp 9)⟩])
 (.cond (.tmp 103) (.seq (.ops [⟨some 2, none, .mv (.lit (.d (.bool false)))⟩])
 .ret) .skip))))))))))
 (.ops [⟨some 104, none, .bin .add .plain (.tmp 22) (.lit (.d (.int .i64 1)))⟩,
  ⟨some 22, none, .mv (.tmp 104)⟩])))))))
 (.seq (.seq (.ops [⟨some 105, none, .mv (.lit (.d (.int .i64 0)))⟩])
 (.block 2 (.loop [105] [2, 10, 11, 12, 106, 107, 108, 109, 110, 111, 112, 113, 114, 115, 116, 117, 118, 119, 120, 121, 122, 123, 124, 125, 126, 127, 128, 129, 130, 131, 132, 133, 134, 135] (.seq (.ops [⟨some 106, none, .bin .lss .plain (.tmp 105) (.lit (.d (.int .i64 8)))⟩])
 (.seq (.cond (.tmp 106) .skip (.exit 2))
 (.seq (.block 3 (.seq (.ops [⟨some 107, none, .mv (.tmp 105)⟩,
  ⟨some 10, none, .mv (.tmp 107)⟩])
 (.seq (.ops [⟨some 109, none, .mv (.tmp 3)⟩,
  ⟨some 110, none, .mv (.tmp 10)⟩,
  ⟨some 111, none, .call false 16 [(.tmp 109), (.tmp 110)]⟩,
  ⟨some 108, none, .mv (.tmp 111)⟩,
  ⟨some 112, none, .extract (.tmp 108) 0⟩,
  ⟨some 113, none, .extract (.tmp 108) 1⟩,
  ⟨some 11, none, .alloc [(.d (.int .i64 0)), (.d (.int .i64 0)), (.d (.int .i64 0)), (.d (.str [])), (.d (.str [])), (.d (.int .i64 0)), (.exact []), (.d (.int .i64 0)), (.d (.int .i64 0))]⟩,
  ⟨none, none, .store 9 (.tmp 11) (.tmp 112)⟩,
  ⟨some 12, none, .mv (.tmp 113)⟩])
 (.seq (.draw [⟨some 114, none, .mv (.tmp 12)⟩,
  ⟨some 115, none, .mv (.tmp 10)⟩,
  ⟨some 116, none, .iaddr (some 8) 1 (.tmp 4) (.tmp 115)⟩,
  ⟨some 117, none, .load false 1 (.tmp 116)⟩,
  ⟨some 118, none, .mv (.tmp 10)⟩,
  ⟨some 119, none, .iaddr (some 8) 1 (.tmp 5) (.tmp 118)⟩,
  ⟨some 120, none, .load false 1 (.tmp 119)⟩,
  ⟨some 121, none, .bin .neq .plain (.tmp 117) (.tmp 120)⟩,
  ⟨some 122, none, .bin .neq .bool (.tmp 114) (.tmp 121)⟩,
  ⟨some 123, none, .mv (.tmp 122)⟩,
  ⟨some 124, some (123, false), .mv (.tmp 12)⟩,
  ⟨some 125, some (123, false), .mv (.tmp 124)⟩,
  ⟨some 126, some (125, true), .faddr 0 (.tmp 11)⟩,
  ⟨some 127, some (125, true), .faddr 1 (.tmp 126)⟩,
  ⟨some 128, some (125, true), .load false 1 (.tmp 127)⟩,
  ⟨some 129, some (125, true), .mv (.tmp 10)⟩,
  ⟨some 130, some (125, true), .iaddr (some 8) 1 (.tmp 4) (.tmp 129)⟩,
  ⟨some 131, some (125, true), .load false 1 (.tmp 130)⟩,
  ⟨some 132, some (125, true), .bin .neq .plain (.tmp 128) (.tmp 131)⟩,
  ⟨some 133, some (123, false), .pick (.tmp 125) (.tmp 132) (.lit (.d (.bool false)))⟩,
  ⟨some 134, none, .pick (.tmp 123) (.lit (.d (.bool true))) (.tmp 133)⟩] [[], [], [1], [2], [], [4], [5], [3, 6], [0, 7], [8], [9], [10, 9, 9], [11], [12, 11], [13, 11], [11], [15, 11], [16, 11], [14, 17, 11], [11, 18, 9], [9, 19]] [(0, []), (1, []), (2, []), (3, []), (4, []), (5, []), (6, []), (7, []), (8, []), (9, []), (10, []), (11, []), (12, []), (13, []), (14, []), (15, []), (16, []), (17, []), (18, []), (19, []), (20, [])] [0, 0, 2, 6, 0, 16, 48, 126, 255, 511, 1023, 2047, 4095, 8191, 16383, 4095, 36863, 102399, 262143, 524287, 1048575])
 (.cond (.tmp 134) (.seq (.ops [⟨some 2, none, .mv (.lit (.d (.bool false)))⟩])
 .ret) .skip)))))
 (.ops [⟨some 135, none, .bin .add .plain (.tmp 105) (.lit (.d (.int .i64 1)))⟩,
  ⟨some 105, none, .mv (.tmp 135)⟩])))))))
 (.seq (.ops [⟨some 2, none, .mv (.lit (.d (.bool true)))⟩])
 .ret)))))))⟩
theorem isA_l18_PoolLatest : isF Try.prog n_l18_PoolLatest A_l18_PoolLatest := ⟨Try.f4, _, Try.func4, by decide +kernel, rfl, by kernel_rfl, by kernel_rfl, by decide, by kernel_rfl, rfl, by kernel_rfl⟩
/-- bulla/pool.New -/
def A_pool_New : AF := ⟨0, 3, [(.tmp 0)],
 (.seq (.ops [⟨some 0, none, .mv (.lit (.d .nilp))⟩])
 (.seq (.ops [⟨some 1, none, .build [(.d (.bool false)), (.exact []), (.exact []), (.exact []), (.exact []), (.exact []), (.exact []), (.exact []), (.exact [])] [(0, 1, (.lit (.d (.bool true))))]⟩,
  ⟨some 2, none, .boxi (.tmp 1)⟩,
  ⟨some 0, none, .mv (.tmp 2)⟩])
 .ret))⟩
theorem isA_pool_New : isF Try.prog n_pool_New A_pool_New := ⟨Try.f8, _, Try.func8, by decide +kernel, rfl, by kernel_rfl, by kernel_rfl, by decide, by kernel_rfl, rfl, by kernel_rfl⟩
/-- bulla/bullalaw18.begun -/
def A_l18_begun : AF := ⟨0, 55, [(.tmp 0)],
 (.seq (.ops [⟨some 0, none, .mv (.lit (.d (.bool false)))⟩])
 (.seq (.ops [⟨some 2, none, .call false 8 []⟩,
  ⟨some 1, none, .mv (.tmp 2)⟩])
 (.seq (.ops [⟨some 3, none, .mv (.tmp 1)⟩,
  ⟨some 4, none, .bin .neq .ptr (.tmp 3) (.lit (.d .nilp))⟩,
  ⟨some 5, none, .mv (.tmp 4)⟩,
  ⟨some 6, some (5, true), .mv (.tmp 1)⟩,
  ⟨some 7, some (5, true), .call false 26 [(.lit (.d (.int .i64 2))), (.lit (.d (.int .i64 5)))]⟩,
  ⟨some 8, some (5, true), .call false 10 [(.tmp 6), (.tmp 7)]⟩,
  ⟨some 9, none, .pick (.tmp 5) (.tmp 8) (.lit (.d (.bool false)))⟩,
  ⟨some 10, none, .mv (.tmp 9)⟩,
  ⟨some 11, some (10, true), .mv (.tmp 1)⟩,
  ⟨some 12, some (10, true), .call false 26 [(.lit (.d (.int .i64 2))), (.lit (.d (.int .i64 4)))]⟩,
  ⟨some 13, some (10, true), .call false 10 [(.tmp 11), (.tmp 12)]⟩,
  ⟨some 14, some (10, true), .un .not (.tmp 13)⟩,
  ⟨some 15, none, .pick (.tmp 10) (.tmp 14) (.lit (.d (.bool false)))⟩,
  ⟨some 16, none, .mv (.tmp 15)⟩,
  ⟨some 17, some (16, true), .mv (.tmp 1)⟩,
  ⟨some 18, some (16, true), .call false 26 [(.lit (.d (.int .i64 2))), (.lit (.d (.int .i64 7)))]⟩,
  ⟨some 19, some (16, true), .call false 10 [(.tmp 17), (.tmp 18)]⟩,
  ⟨some 20, none, .pick (.tmp 16) (.tmp 19) (.lit (.d (.bool false)))⟩,
  ⟨some 21, none, .mv (.tmp 20)⟩,
  ⟨some 22, some (21, true), .mv (.tmp 1)⟩,
  ⟨some 23, some (21, true), .call false 24 [(.tmp 22)]⟩,
  ⟨some 24, some (21, true), .bin .eql .plain (.tmp 23) (.lit (.d (.int .i64 1)))⟩,
  ⟨some 25, none, .pick (.tmp 21) (.tmp 24) (.lit (.d (.bool false)))⟩,
  ⟨some 26, none, .mv (.tmp 25)⟩,
  ⟨some 27, some (26, true), .mv (.tmp 1)⟩,
  ⟨some 28, some (26, true), .call false 11 [(.tmp 27), (.lit (.exact []))]⟩,
  ⟨some 29, some (26, true), .len .sl (.tmp 28)⟩,
  ⟨some 30, some (26, true), .bin .eql .plain (.tmp 29) (.lit (.d (.int .i64 1)))⟩,
  ⟨some 31, none, .pick (.tmp 26) (.tmp 30) (.lit (.d (.bool false)))⟩,
  ⟨some 32, none, .mv (.tmp 31)⟩,
  ⟨some 33, some (32, true), .mv (.tmp 1)⟩,
  ⟨some 34, some (32, true), .call false 26 [(.lit (.d (.int .i64 2))), (.lit (.d (.int .i64 7)))]⟩,
  ⟨some 35, some (32, true), .mkslice false 9 1 [(.d (.int .i64 0)), (.d (.int .i64 0)), (.d (.int .i64 0)), (.d (.str [])), (.d (.str [])), (.d (.int .i64 0)), (.exact []), (.d (.int .i64 0)), (.d (.int .i64 0))] [(0, 9, (.tmp 34))]⟩,
  ⟨some 36, some (32, true), .mkslice false 1 1 [(.exact [])] [(0, 1, (.tmp 35))]⟩,
  ⟨some 37, some (32, true), .call false 11 [(.tmp 33), (.tmp 36)]⟩,
  ⟨some 38, some (32, true), .len .sl (.tmp 37)⟩,
  ⟨some 39, some (32, true), .bin .eql .plain (.tmp 38) (.lit (.d (.int .i64 0)))⟩,
  ⟨some 40, none, .pick (.tmp 32) (.tmp 39) (.lit (.d (.bool false)))⟩,
  ⟨some 41, none, .mv (.tmp 40)⟩,
  ⟨some 42, some (41, true), .mv (.tmp 1)⟩,
  ⟨some 43, some (41, true), .call false 15 [(.tmp 42), (.lit (.d (.int .i64 2))), (.lit (.d (.int .i64 6)))]⟩,
  ⟨some 44, some (41, true), .un .not (.tmp 43)⟩,
  ⟨some 45, none, .pick (.tmp 41) (.tmp 44) (.lit (.d (.bool false)))⟩,
  ⟨some 46, none, .mv (.tmp 45)⟩,
  ⟨some 47, some (46, true), .mv (.tmp 1)⟩,
  ⟨some 48, some (46, true), .call false 15 [(.tmp 47), (.lit (.d (.int .i64 2))), (.lit (.d (.int .i64 7)))]⟩,
  ⟨some 49, none, .pick (.tmp 46) (.tmp 48) (.lit (.d (.bool false)))⟩,
  ⟨some 50, none, .mv (.tmp 49)⟩,
  ⟨some 51, some (50, true), .mv (.tmp 1)⟩,
  ⟨some 52, some (50, true), .call false 24 [(.tmp 51)]⟩,
  ⟨some 53, some (50, true), .bin .eql .plain (.tmp 52) (.lit (.d (.int .i64 0)))⟩,
  ⟨some 54, none, .pick (.tmp 50) (.tmp 53) (.lit (.d (.bool false)))⟩,
  ⟨some 0, none, .mv (.tmp 54)⟩])
 .ret)))⟩
theorem isA_l18_begun : isF Try.prog n_l18_begun A_l18_begun := ⟨Try.f9, _, Try.func9, by decide +kernel, rfl, by kernel_rfl, by kernel_rfl, by decide, by kernel_rfl, rfl, by kernel_rfl⟩
/-- (*bulla/pool.Pool).Put -/
def A_pool_Pool_Put : AF := ⟨2, 44, [(.tmp 4)],
 (.seq (.ops [⟨some 3, none, .boxi (.tmp 1)⟩,
  ⟨some 4, none, .mv (.lit (.d (.bool false)))⟩])
 (.seq (.seq (.ops [⟨some 6, none, .mv (.tmp 0)⟩,
  ⟨some 7, none, .call false 27 [(.tmp 6)]⟩,
  ⟨some 8, none, .mv (.tmp 7)⟩,
  ⟨some 9, some (8, false), .load true 9 (.tmp 3)⟩,
  ⟨some 10, some (8, false), .mkslice false 9 1 [(.d (.int .i64 0)), (.d (.int .i64 0)), (.d (.int .i64 0)), (.d (.str [])), (.d (.str [])), (.d (.int .i64 0)), (.exact []), (.d (.int .i64 0)), (.d (.int .i64 0))] [(0, 9, (.tmp 9))]⟩,
  ⟨some 11, some (8, false), .call false 28 [(.tmp 10)]⟩,
  ⟨some 12, some (8, false), .bin .neq .plain (.tmp 11) (.lit (.d (.int .i64 0)))⟩,
  ⟨some 13, none, .pick (.tmp 8) (.lit (.d (.bool true))) (.tmp 12)⟩])
 (.cond (.tmp 13) (.seq (.ops [⟨some 4, none, .mv (.lit (.d (.bool false)))⟩])
 .ret) .skip))
 (.seq (.draw [⟨some 14, none, .mv (.tmp 0)⟩,
  ⟨some 15, none, .faddr 0 (.tmp 3)⟩,
  ⟨some 16, none, .faddr 0 (.tmp 15)⟩,
  ⟨some 17, none, .load false 1 (.tmp 16)⟩,
  ⟨some 18, none, .nilchk (.tmp 14)⟩,
  ⟨some 19, none, .faddr 1 (.tmp 18)⟩,
  ⟨some 20, none, .iaddr (some 8) 1 (.tmp 19) (.tmp 17)⟩,
  ⟨some 5, none, .mv (.tmp 20)⟩] [[], [], [1], [2], [0], [4], [5, 3], [6, 0, 1, 2, 3, 4, 5, 6]] [(0, []), (1, []), (2, []), (3, []), (4, []), (5, []), (6, []), (7, [])] [0, 0, 2, 6, 1, 17, 63, 127])
 (.seq (.seq (.draw [⟨some 21, none, .mv (.tmp 5)⟩,
  ⟨some 22, none, .nilchk (.tmp 21)⟩,
  ⟨some 23, none, .load false 1 (.tmp 22)⟩,
  ⟨some 24, none, .len .sl (.tmp 23)⟩,
  ⟨some 25, none, .bin .gtr .plain (.tmp 24) (.lit (.d (.int .i64 0)))⟩,
  ⟨some 26, none, .mv (.tmp 25)⟩,
  ⟨some 27, some (26, true), .mv (.tmp 5)⟩,
  ⟨some 28, some (26, true), .nilchk (.tmp 27)⟩,
  ⟨some 29, some (26, true), .load false 1 (.tmp 28)⟩,
  ⟨some 30, some (26, true), .iaddr none 9 (.tmp 29) (.lit (.d (.int .i64 0)))⟩,
  ⟨some 31, some (26, true), .faddr 0 (.tmp 30)⟩,
  ⟨some 32, some (26, true), .faddr 1 (.tmp 31)⟩,
  ⟨some 33, some (26, true), .load false 1 (.tmp 32)⟩,
  ⟨some 34, some (26, true), .faddr 0 (.tmp 3)⟩,
  ⟨some 35, some (26, true), .faddr 1 (.tmp 34)⟩,
  ⟨some 36, some (26, true), .load false 1 (.tmp 35)⟩,
  ⟨some 37, some (26, true), .bin .geq .plain (.tmp 33) (.tmp 36)⟩,
  ⟨some 38, none, .pick (.tmp 26) (.tmp 37) (.lit (.d (.bool false)))⟩] [[], [0], [1], [2], [3], [4], [5], [6, 5], [7, 5], [8, 5], [9, 5], [10, 5], [11, 5], [5], [13, 5], [14, 5], [12, 15, 5], [5, 16]] [(0, []), (1, []), (2, []), (3, []), (4, []), (5, []), (6, []), (7, []), (8, []), (9, []), (10, []), (11, []), (12, []), (13, []), (14, []), (15, []), (16, []), (17, [])] [0, 1, 3, 7, 15, 31, 63, 127, 255, 511, 1023, 2047, 4095, 63, 8255, 24639, 65535, 131071])
 (.cond (.tmp 38) (.seq (.ops [⟨some 4, none, .mv (.lit (.d (.bool false)))⟩])
 .ret) .skip))
 (.seq (.ops [⟨some 39, none, .mv (.tmp 5)⟩,
  ⟨some 40, none, .load true 9 (.tmp 3)⟩,
  ⟨some 41, none, .mkslice false 9 1 [(.d (.int .i64 0)), (.d (.int .i64 0)), (.d (.int .i64 0)), (.d (.str [])), (.d (.str [])), (.d (.int .i64 0)), (.exact []), (.d (.int .i64 0)), (.d (.int .i64 0))] [(0, 9, (.tmp 40))]⟩,
  ⟨some 42, none, .call false 29 [(.tmp 41)]⟩,
  ⟨some 43, none, .nilchk (.tmp 39)⟩,
  ⟨none, none, .store 1 (.tmp 43) (.tmp 42)⟩])
 (.seq (.ops [⟨some 4, none, .mv (.lit (.d (.bool true)))⟩])
 .ret))))))⟩
theorem isA_pool_Pool_Put : isF Try.prog n_pool_Pool_Put A_pool_Pool_Put := ⟨Try.f10, _, Try.func10, by decide +kernel, rfl, by kernel_rfl, by kernel_rfl, by decide, by kernel_rfl, rfl, by kernel_rfl⟩
end Go.Proofs.Ytfnnejokhikefaa

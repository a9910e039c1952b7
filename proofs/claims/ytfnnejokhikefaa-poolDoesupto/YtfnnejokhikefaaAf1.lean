/- Resolved forms, each with the theorem that it is its function's. Printed by program. -/
import Derived.Test.YtfnnejokhikefaaNm
import Derived.KernelRfl
set_option linter.all false
set_option maxRecDepth 100000
set_option linter.unusedVariables false
namespace Go.Proofs.Ytfnnejokhikefaa
open Go.AW
/-- bulla/bullalaw18.PoolDoes -/
def A_l18_PoolDoes : AF := ⟨1, 153, [(.tmp 2)],
 (.seq (.ops [⟨some 2, none, .mv (.lit (.d (.bool false)))⟩])
 (.seq (.ops [⟨some 14, none, .call false 8 []⟩,
  ⟨some 15, none, .build [(.exact [])] []⟩,
  ⟨some 16, none, .boxi (.tmp 15)⟩,
  ⟨some 3, none, .mv (.tmp 14)⟩,
  ⟨some 4, none, .mv (.tmp 16)⟩])
 (.seq (.seq (.ops [⟨some 17, none, .call false 9 []⟩,
  ⟨some 18, none, .un .not (.tmp 17)⟩,
  ⟨some 19, none, .mv (.tmp 18)⟩,
  ⟨some 20, some (19, false), .mv (.tmp 3)⟩,
  ⟨some 21, some (19, false), .bin .eql .ptr (.tmp 20) (.lit (.d .nilp))⟩,
  ⟨some 22, none, .pick (.tmp 19) (.lit (.d (.bool true))) (.tmp 21)⟩])
 (.cond (.tmp 22) (.seq (.ops [⟨some 2, none, .mv (.lit (.d (.bool false)))⟩])
 .ret) .skip))
 (.seq (.seq (.ops [⟨some 23, none, .mv (.tmp 0)⟩,
  ⟨some 24, none, .len .sl (.tmp 23)⟩,
  ⟨some 25, none, .mv (.lit (.d (.int .i64 0)))⟩])
 (.block 0 (.loop [3, 25] [2, 6, 7, 8, 9, 10, 11, 12, 13, 26, 27, 28, 29, 30, 31, 32, 33, 34, 35, 36, 37, 38, 39, 40, 41, 42, 43, 44, 45, 46, 47, 48, 49, 50, 51, 52, 53, 54, 55, 56, 57, 58, 59, 60, 61, 62, 63, 64, 65, 66, 67, 68, 69, 70, 71, 72, 73, 74, 75, 76, 77, 78, 79, 80, 81, 82, 83, 84, 85, 86, 87, 88, 89, 90, 91, 92, 93, 94, 95, 96, 97, 98, 99, 100, 101, 102, 103, 104, 105, 106, 107, 108, 109, 110, 111, 112, 113, 114, 115, 116, 117, 118, 119, 120, 121, 122, 123, 124, 125, 126, 127, 128, 129, 130, 131, 132, 133, 134, 135, 136, 137, 138, 139, 140, 141, 142, 143, 144] (.seq (.ops [⟨some 26, none, .bin .lss .plain (.tmp 25) (.tmp 24)⟩])
 (.seq (.cond (.tmp 26) .skip (.exit 0))
 (.seq (.block 1 (.seq (.ops [⟨some 27, none, .iaddr none 13 (.tmp 23) (.tmp 25)⟩,
  ⟨some 28, none, .load true 13 (.tmp 27)⟩,
  ⟨some 6, none, .alloc [(.d (.int .i64 0)), (.d (.int .i64 0)), (.d (.int .i64 0)), (.d (.int .i64 0)), (.d (.str [])), (.d (.str [])), (.d (.int .i64 0)), (.exact []), (.d (.int .i64 0)), (.d (.int .i64 0)), (.d (.int .i64 0)), (.d (.int .i64 0)), (.exact [])]⟩,
  ⟨none, none, .store 13 (.tmp 6) (.tmp 28)⟩])
 (.seq (.seq (.ops [⟨some 29, none, .faddr 0 (.tmp 6)⟩,
  ⟨some 30, none, .load false 1 (.tmp 29)⟩])
 (.block 2 (.seq (.ops [⟨some 45, none, .bin .eql .plain (.tmp 30) (.lit (.d (.int .i64 0)))⟩,
  ⟨some 44, none, .mv (.tmp 45)⟩])
 (.cond (.tmp 44) (.seq (.draw [⟨some 46, none, .mv (.tmp 3)⟩,
  ⟨some 47, none, .faddr 1 (.tmp 6)⟩,
  ⟨some 48, none, .load true 9 (.tmp 47)⟩,
  ⟨some 49, none, .call false 10 [(.tmp 46), (.tmp 48)]⟩,
  ⟨some 50, none, .mv (.tmp 4)⟩,
  ⟨some 51, none, .faddr 1 (.tmp 6)⟩,
  ⟨some 52, none, .load true 9 (.tmp 51)⟩,
  ⟨some 53, none, .call false 19 [(.tmp 50), (.tmp 52)]⟩,
  ⟨some 54, none, .bin .neq .bool (.tmp 49) (.tmp 53)⟩] [[], [], [1], [0, 2], [], [], [5], [4, 6, 3], [3, 7]] [(0, []), (1, []), (2, []), (4, []), (5, []), (6, []), (3, [51]), (7, []), (8, [])] [0, 0, 2, 7, 0, 0, 32, 127, 255])
 (.cond (.tmp 54) (.seq (.ops [⟨some 2, none, .mv (.lit (.d (.bool false)))⟩])
 .ret) .skip)) (.seq (.ops [⟨some 56, none, .bin .eql .plain (.tmp 30) (.lit (.d (.int .i64 1)))⟩,
  ⟨some 55, none, .mv (.tmp 56)⟩])
 (.cond (.tmp 55) (.seq (.draw [⟨some 57, none, .mv (.tmp 3)⟩,
  ⟨some 58, none, .faddr 10 (.tmp 6)⟩,
  ⟨some 59, none, .load false 1 (.tmp 58)⟩,
  ⟨some 60, none, .faddr 11 (.tmp 6)⟩,
  ⟨some 61, none, .load false 1 (.tmp 60)⟩,
  ⟨some 62, none, .call false 15 [(.tmp 57), (.tmp 59), (.tmp 61)]⟩,
  ⟨some 63, none, .mv (.tmp 4)⟩,
  ⟨some 64, none, .faddr 10 (.tmp 6)⟩,
  ⟨some 65, none, .load false 1 (.tmp 64)⟩,
  ⟨some 66, none, .faddr 11 (.tmp 6)⟩,
  ⟨some 67, none, .load false 1 (.tmp 66)⟩,
  ⟨some 68, none, .call false 20 [(.tmp 63), (.tmp 65), (.tmp 67)]⟩,
  ⟨some 69, none, .bin .neq .bool (.tmp 62) (.tmp 68)⟩] [[], [], [1], [], [3], [0, 2, 4], [], [], [7], [], [9], [6, 8, 10, 5], [5, 11]] [(0, []), (1, []), (2, []), (3, []), (4, []), (6, []), (7, []), (8, []), (9, []), (10, []), (5, [64, 66]), (11, []), (12, [])] [0, 0, 2, 0, 8, 31, 0, 0, 128, 0, 512, 2047, 4095])
 (.cond (.tmp 69) (.seq (.ops [⟨some 2, none, .mv (.lit (.d (.bool false)))⟩])
 .ret) .skip)) (.seq (.ops [⟨some 71, none, .bin .eql .plain (.tmp 30) (.lit (.d (.int .i64 2)))⟩,
  ⟨some 70, none, .mv (.tmp 71)⟩])
 (.cond (.tmp 70) (.seq (.ops [⟨some 72, none, .mv (.tmp 3)⟩,
  ⟨some 73, none, .call false 21 [(.tmp 72)]⟩,
  ⟨some 7, none, .mv (.tmp 73)⟩])
 (.seq (.seq (.ops [⟨some 74, none, .mv (.tmp 7)⟩,
  ⟨some 75, none, .bin .eql .ptr (.tmp 74) (.lit (.d .nilp))⟩])
 (.cond (.tmp 75) (.seq (.ops [⟨some 2, none, .mv (.lit (.d (.bool false)))⟩])
 .ret) .skip))
 (.seq (.ops [⟨some 76, none, .mv (.tmp 3)⟩,
  ⟨some 77, none, .faddr 1 (.tmp 6)⟩,
  ⟨some 78, none, .load true 9 (.tmp 77)⟩,
  ⟨some 79, none, .call false 10 [(.tmp 76), (.tmp 78)]⟩])
 (.seq (.ops [⟨some 80, none, .mv (.tmp 3)⟩,
  ⟨some 81, none, .faddr 10 (.tmp 6)⟩,
  ⟨some 82, none, .load false 1 (.tmp 81)⟩,
  ⟨some 83, none, .faddr 11 (.tmp 6)⟩,
  ⟨some 84, none, .load false 1 (.tmp 83)⟩,
  ⟨some 85, none, .call false 15 [(.tmp 80), (.tmp 82), (.tmp 84)]⟩])
 (.ops [⟨some 86, none, .mv (.tmp 7)⟩,
  ⟨some 3, none, .mv (.tmp 86)⟩]))))) (.seq (.ops [⟨some 32, none, .mv (.tmp 3)⟩,
  ⟨some 33, none, .call false 22 [(.tmp 32)]⟩,
  ⟨some 34, none, .call false 17 [(.tmp 33)]⟩,
  ⟨some 31, none, .mv (.tmp 34)⟩,
  ⟨some 35, none, .extract (.tmp 31) 0⟩,
  ⟨some 36, none, .extract (.tmp 31) 1⟩,
  ⟨some 8, none, .mv (.tmp 35)⟩,
  ⟨some 9, none, .mv (.tmp 36)⟩])
 (.seq (.seq (.ops [⟨some 37, none, .mv (.tmp 8)⟩,
  ⟨some 38, none, .bin .eql .ptr (.tmp 37) (.lit (.d .nilp))⟩,
  ⟨some 39, none, .mv (.tmp 38)⟩,
  ⟨some 40, some (39, false), .mv (.tmp 9)⟩,
  ⟨some 41, some (39, false), .bin .neq .plain (.tmp 40) (.lit (.d (.int .i64 0)))⟩,
  ⟨some 42, none, .pick (.tmp 39) (.lit (.d (.bool true))) (.tmp 41)⟩])
 (.cond (.tmp 42) (.seq (.ops [⟨some 2, none, .mv (.lit (.d (.bool false)))⟩])
 .ret) .skip))
 (.ops [⟨some 43, none, .mv (.tmp 8)⟩,
  ⟨some 3, none, .mv (.tmp 43)⟩])))))))))))
 (.seq (.ops [⟨some 88, none, .mv (.tmp 3)⟩,
  ⟨some 89, none, .faddr 10 (.tmp 6)⟩,
  ⟨some 90, none, .load false 1 (.tmp 89)⟩,
  ⟨some 91, none, .call false 16 [(.tmp 88), (.tmp 90)]⟩,
  ⟨some 87, none, .mv (.tmp 91)⟩,
  ⟨some 92, none, .extract (.tmp 87) 0⟩,
  ⟨some 93, none, .extract (.tmp 87) 1⟩,
  ⟨some 10, none, .alloc [(.d (.int .i64 0)), (.d (.int .i64 0)), (.d (.int .i64 0)), (.d (.str [])), (.d (.str [])), (.d (.int .i64 0)), (.exact []), (.d (.int .i64 0)), (.d (.int .i64 0))]⟩,
  ⟨none, none, .store 9 (.tmp 10) (.tmp 92)⟩,
  ⟨some 11, none, .mv (.tmp 93)⟩])
 (.seq (.ops [⟨some 95, none, .mv (.tmp 4)⟩,
  ⟨some 96, none, .faddr 10 (.tmp 6)⟩,
  ⟨some 97, none, .load false 1 (.tmp 96)⟩,
  ⟨some 98, none, .call false 23 [(.tmp 95), (.tmp 97)]⟩,
  ⟨some 94, none, .mv (.tmp 98)⟩,
  ⟨some 99, none, .extract (.tmp 94) 0⟩,
  ⟨some 100, none, .extract (.tmp 94) 1⟩,
  ⟨some 12, none, .alloc [(.d (.int .i64 0)), (.d (.int .i64 0)), (.d (.int .i64 0)), (.d (.str [])), (.d (.str [])), (.d (.int .i64 0)), (.exact []), (.d (.int .i64 0)), (.d (.int .i64 0))]⟩,
  ⟨none, none, .store 9 (.tmp 12) (.tmp 99)⟩,
  ⟨some 13, none, .mv (.tmp 100)⟩])
 (.seq (.draw [⟨some 101, none, .mv (.tmp 11)⟩,
  ⟨some 102, none, .mv (.tmp 13)⟩,
  ⟨some 103, none, .bin .neq .bool (.tmp 101) (.tmp 102)⟩,
  ⟨some 104, none, .mv (.tmp 103)⟩,
  ⟨some 105, some (104, false), .load true 9 (.tmp 10)⟩,
  ⟨some 106, some (104, false), .mkslice false 9 1 [(.d (.int .i64 0)), (.d (.int .i64 0)), (.d (.int .i64 0)), (.d (.str [])), (.d (.str [])), (.d (.int .i64 0)), (.exact []), (.d (.int .i64 0)), (.d (.int .i64 0))] [(0, 9, (.tmp 105))]⟩,
  ⟨some 107, some (104, false), .load true 9 (.tmp 12)⟩,
  ⟨some 108, some (104, false), .mkslice false 9 1 [(.d (.int .i64 0)), (.d (.int .i64 0)), (.d (.int .i64 0)), (.d (.str [])), (.d (.str [])), (.d (.int .i64 0)), (.exact []), (.d (.int .i64 0)), (.d (.int .i64 0))] [(0, 9, (.tmp 107))]⟩,
  ⟨some 109, some (104, false), .call false 14 [(.tmp 106), (.tmp 108)]⟩,
  ⟨some 110, some (104, false), .un .not (.tmp 109)⟩,
  ⟨some 111, none, .pick (.tmp 104) (.lit (.d (.bool true))) (.tmp 110)⟩,
  ⟨some 112, none, .mv (.tmp 111)⟩,
  ⟨some 113, some (112, false), .mv (.tmp 3)⟩,
  ⟨some 114, some (112, false), .call false 24 [(.tmp 113)]⟩,
  ⟨some 115, some (112, false), .mv (.tmp 4)⟩,
  ⟨some 116, some (112, false), .nilchk (.tmp 115)⟩,
  ⟨some 117, some (112, false), .faddr 0 (.tmp 116)⟩,
  ⟨some 118, some (112, false), .load false 1 (.tmp 117)⟩,
  ⟨some 119, some (112, false), .len .sl (.tmp 118)⟩,
  ⟨some 120, some (112, false), .bin .neq .plain (.tmp 114) (.tmp 119)⟩,
  ⟨some 121, none, .pick (.tmp 112) (.lit (.d (.bool true))) (.tmp 120)⟩,
  ⟨some 122, none, .mv (.tmp 121)⟩,
  ⟨some 123, some (122, false), .mv (.tmp 3)⟩,
  ⟨some 124, some (122, false), .call false 13 [(.tmp 123)]⟩,
  ⟨some 125, some (122, false), .mv (.tmp 4)⟩,
  ⟨some 126, some (122, false), .nilchk (.tmp 125)⟩,
  ⟨some 127, some (122, false), .faddr 0 (.tmp 126)⟩,
  ⟨some 128, some (122, false), .load false 1 (.tmp 127)⟩,
  ⟨some 129, some (122, false), .call false 14 [(.tmp 124), (.tmp 128)]⟩,
  ⟨some 130, some (122, false), .un .not (.tmp 129)⟩,
  ⟨some 131, none, .pick (.tmp 122) (.lit (.d (.bool true))) (.tmp 130)⟩,
  ⟨some 132, none, .mv (.tmp 131)⟩,
  ⟨some 133, some (132, false), .mv (.tmp 3)⟩,
  ⟨some 134, some (132, false), .faddr 12 (.tmp 6)⟩,
  ⟨some 135, some (132, false), .load false 1 (.tmp 134)⟩,
  ⟨some 136, some (132, false), .call false 11 [(.tmp 133), (.tmp 135)]⟩,
  ⟨some 137, some (132, false), .mv (.tmp 4)⟩,
  ⟨some 138, some (132, false), .faddr 12 (.tmp 6)⟩,
  ⟨some 139, some (132, false), .load false 1 (.tmp 138)⟩,
  ⟨some 140, some (132, false), .call false 25 [(.tmp 137), (.tmp 139)]⟩,
  ⟨some 141, some (132, false), .call false 14 [(.tmp 136), (.tmp 140)]⟩,
  ⟨some 142, some (132, false), .un .not (.tmp 141)⟩,
  ⟨some 143, none, .pick (.tmp 132) (.lit (.d (.bool true))) (.tmp 142)⟩] [[], [], [0, 1], [2], [3], [4, 3], [3], [6, 3], [5, 7, 3, 3], [8, 3], [3, 9], [10, 8], [11], [12, 11, 11], [11], [14, 11], [15, 11], [16, 11], [17, 11], [13, 18, 11], [11, 19], [20, 13], [21], [22, 21, 21], [21], [24, 21], [25, 21], [26, 21], [23, 27, 23, 21], [28, 21], [21, 29], [30, 28], [31], [31], [33, 31], [32, 34, 31, 31], [31], [31], [37, 31], [36, 38, 35, 31], [35, 39, 39, 31], [40, 31], [31, 41]] [(0, []), (1, []), (2, []), (3, []), (4, []), (5, []), (6, []), (7, []), (8, []), (9, []), (10, []), (11, []), (12, []), (14, []), (15, []), (16, []), (17, []), (18, []), (13, [117]), (19, []), (20, []), (21, []), (22, []), (24, []), (25, []), (26, []), (27, []), (23, [127]), (28, []), (29, []), (30, []), (31, []), (32, []), (33, []), (34, []), (36, []), (37, []), (38, []), (35, [138]), (39, []), (40, []), (41, []), (42, [])] [0, 0, 3, 7, 15, 31, 15, 79, 255, 511, 1023, 2047, 4095, 8191, 4095, 20479, 53247, 118783, 249855, 524287, 1048575, 2097151, 4194303, 8388607, 4194303, 20971519, 54525951, 121634815, 268435455, 536870911, 1073741823, 2147483647, 4294967295, 4294967295, 12884901887, 34359738367, 4294967295, 4294967295, 141733920767, 549755813887, 1099511627775, 2199023255551, 4398046511103])
 (.cond (.tmp 143) (.seq (.ops [⟨some 2, none, .mv (.lit (.d (.bool false)))⟩])
 .ret) .skip)))))))
 (.ops [⟨some 144, none, .bin .add .plain (.tmp 25) (.lit (.d (.int .i64 1)))⟩,
  ⟨some 25, none, .mv (.tmp 144)⟩])))))))
 (.seq (.draw [⟨some 145, none, .mv (.tmp 3)⟩,
  ⟨some 146, none, .call false 22 [(.tmp 145)]⟩,
  ⟨some 147, none, .field false 0 1 (.tmp 146)⟩,
  ⟨some 148, none, .mv (.tmp 4)⟩,
  ⟨some 149, none, .nilchk (.tmp 148)⟩,
  ⟨some 150, none, .faddr 0 (.tmp 149)⟩,
  ⟨some 151, none, .load false 1 (.tmp 150)⟩,
  ⟨some 152, none, .call false 14 [(.tmp 147), (.tmp 151)]⟩,
  ⟨some 2, none, .mv (.tmp 152)⟩] [[], [0], [1], [], [3], [4], [5], [2, 6, 1], [7, 7, 0, 1, 2, 3, 4, 5, 6, 7]] [(0, []), (3, []), (4, []), (5, []), (6, []), (1, [150]), (2, []), (7, []), (8, [])] [0, 1, 3, 0, 8, 24, 56, 127, 255])
 .ret)))))⟩
theorem isA_l18_PoolDoes : isF Try.prog n_l18_PoolDoes A_l18_PoolDoes := ⟨Try.f6, _, Try.func6, by decide +kernel, rfl, by kernel_rfl, by kernel_rfl, by decide, by kernel_rfl, rfl, by kernel_rfl⟩
/-- bulla/pool.New -/
def A_pool_New : AF := ⟨0, 3, [(.tmp 0)],
 (.seq (.ops [⟨some 0, none, .mv (.lit (.d .nilp))⟩])
 (.seq (.ops [⟨some 1, none, .build [(.d (.bool false)), (.exact []), (.exact []), (.exact []), (.exact []), (.exact []), (.exact []), (.exact []), (.exact [])] [(0, 1, (.lit (.d (.bool true))))]⟩,
  ⟨some 2, none, .boxi (.tmp 1)⟩,
  ⟨some 0, none, .mv (.tmp 2)⟩])
 .ret))⟩
theorem isA_pool_New : isF Try.prog n_pool_New A_pool_New := ⟨Try.f8, _, Try.func8, by decide +kernel, rfl, by kernel_rfl, by kernel_rfl, by decide, by kernel_rfl, rfl, by kernel_rfl⟩
/-- bulla/bullalaw18.begun -/
def A_l18_begun : AF := ⟨0, 55, [(.tmp 0)],
 (.seq (.ops [⟨some 0, none, .mv (.lit (.d (.bool false)))⟩])
 (.seq (.ops [⟨some 2, none, .call false 8 []⟩,
  ⟨some 1, none, .mv (.tmp 2)⟩])
 (.seq (.ops [⟨some 3, none, .mv (.tmp 1)⟩,
  ⟨some 4, none, .bin .neq .ptr (.tmp 3) (.lit (.d .nilp))⟩,
  ⟨some 5, none, .mv (.tmp 4)⟩,
  ⟨some 6, some (5, true), .mv (.tmp 1)⟩,
  ⟨some 7, some (5, true), .call false 26 [(.lit (.d (.int .i64 2))), (.lit (.d (.int .i64 5)))]⟩,
  ⟨some 8, some (5, true), .call false 10 [(.tmp 6), (.tmp 7)]⟩,
  ⟨some 9, none, .pick (.tmp 5) (.tmp 8) (.lit (.d (.bool false)))⟩,
  ⟨some 10, none, .mv (.tmp 9)⟩,
  ⟨some 11, some (10, true), .mv (.tmp 1)⟩,
  ⟨some 12, some (10, true), .call false 26 [(.lit (.d (.int .i64 2))), (.lit (.d (.int .i64 4)))]⟩,
  ⟨some 13, some (10, true), .call false 10 [(.tmp 11), (.tmp 12)]⟩,
  ⟨some 14, some (10, true), .un .not (.tmp 13)⟩,
  ⟨some 15, none, .pick (.tmp 10) (.tmp 14) (.lit (.d (.bool false)))⟩,
  ⟨some 16, none, .mv (.tmp 15)⟩,
  ⟨some 17, some (16, true), .mv (.tmp 1)⟩,
  ⟨some 18, some (16, true), .call false 26 [(.lit (.d (.int .i64 2))), (.lit (.d (.int .i64 7)))]⟩,
  ⟨some 19, some (16, true), .call false 10 [(.tmp 17), (.tmp 18)]⟩,
  ⟨some 20, none, .pick (.tmp 16) (.tmp 19) (.lit (.d (.bool false)))⟩,
  ⟨some 21, none, .mv (.tmp 20)⟩,
  ⟨some 22, some (21, true), .mv (.tmp 1)⟩,
  ⟨some 23, some (21, true), .call false 24 [(.tmp 22)]⟩,
  ⟨some 24, some (21, true), .bin .eql .plain (.tmp 23) (.lit (.d (.int .i64 1)))⟩,
  ⟨some 25, none, .pick (.tmp 21) (.tmp 24) (.lit (.d (.bool false)))⟩,
  ⟨some 26, none, .mv (.tmp 25)⟩,
  ⟨some 27, some (26, true), .mv (.tmp 1)⟩,
  ⟨some 28, some (26, true), .call false 11 [(.tmp 27), (.lit (.exact []))]⟩,
  ⟨some 29, some (26, true), .len .sl (.tmp 28)⟩,
  ⟨some 30, some (26, true), .bin .eql .plain (.tmp 29) (.lit (.d (.int .i64 1)))⟩,
  ⟨some 31, none, .pick (.tmp 26) (.tmp 30) (.lit (.d (.bool false)))⟩,
  ⟨some 32, none, .mv (.tmp 31)⟩,
  ⟨some 33, some (32, true), .mv (.tmp 1)⟩,
  ⟨some 34, some (32, true), .call false 26 [(.lit (.d (.int .i64 2))), (.lit (.d (.int .i64 7)))]⟩,
  ⟨some 35, some (32, true), .mkslice false 9 1 [(.d (.int .i64 0)), (.d (.int .i64 0)), (.d (.int .i64 0)), (.d (.str [])), (.d (.str [])), (.d (.int .i64 0)), (.exact []), (.d (.int .i64 0)), (.d (.int .i64 0))] [(0, 9, (.tmp 34))]⟩,
  ⟨some 36, some (32, true), .mkslice false 1 1 [(.exact [])] [(0, 1, (.tmp 35))]⟩,
  ⟨some 37, some (32, true), .call false 11 [(.tmp 33), (.tmp 36)]⟩,
  ⟨some 38, some (32, true), .len .sl (.tmp 37)⟩,
  ⟨some 39, some (32, true), .bin .eql .plain (.tmp 38) (.lit (.d (.int .i64 0)))⟩,
  ⟨some 40, none, .pick (.tmp 32) (.tmp 39) (.lit (.d (.bool false)))⟩,
  ⟨some 41, none, .mv (.tmp 40)⟩,
  ⟨some 42, some (41, true), .mv (.tmp 1)⟩,
  ⟨some 43, some (41, true), .call false 15 [(.tmp 42), (.lit (.d (.int .i64 2))), (.lit (.d (.int .i64 6)))]⟩,
  ⟨some 44, some (41, true), .un .not (.tmp 43)⟩,
  ⟨some 45, none, .pick (.tmp 41) (.tmp 44) (.lit (.d (.bool false)))⟩,
  ⟨some 46, none, .mv (.tmp 45)⟩,
  ⟨some 47, some (46, true), .mv (.tmp 1)⟩,
  ⟨some 48, some (46, true), .call false 15 [(.tmp 47), (.lit (.d (.int .i64 2))), (.lit (.d (.int .i64 7)))]⟩,
  ⟨some 49, none, .pick (.tmp 46) (.tmp 48) (.lit (.d (.bool false)))⟩,
  ⟨some 50, none, .mv (.tmp 49)⟩,
  ⟨some 51, some (50, true), .mv (.tmp 1)⟩,
  ⟨some 52, some (50, true), .call false 24 [(.tmp 51)]⟩,
  ⟨some 53, some (50, true), .bin .eql .plain (.tmp 52) (.lit (.d (.int .i64 0)))⟩,
  ⟨some 54, none, .pick (.tmp 50) (.tmp 53) (.lit (.d (.bool false)))⟩,
  ⟨some 0, none, .mv (.tmp 54)⟩])
 .ret)))⟩
theorem isA_l18_begun : isF Try.prog n_l18_begun A_l18_begun := ⟨Try.f9, _, Try.func9, by decide +kernel, rfl, by kernel_rfl, by kernel_rfl, by decide, by kernel_rfl, rfl, by kernel_rfl⟩
/-- (*bulla/pool.Pool).Put -/
def A_pool_Pool_Put : AF := ⟨2, 44, [(.tmp 4)],
 (.seq (.ops [⟨some 3, none, .boxi (.tmp 1)⟩,
  ⟨some 4, none, .mv (.lit (.d (.bool false)))⟩])
 (.seq (.seq (.ops [⟨some 6, none, .mv (.tmp 0)⟩,
  ⟨some 7, none, .call false 27 [(.tmp 6)]⟩,
  ⟨some 8, none, .mv (.tmp 7)⟩,
  ⟨some 9, some (8, false), .load true 9 (.tmp 3)⟩,
  ⟨some 10, some (8, false), .mkslice false 9 1 [(.d (.int .i64 0)), (.d (.int .i64 0)), (.d (.int .i64 0)), (.d (.str [])), (.d (.str [])), (.d (.int .i64 0)), (.exact []), (.d (.int .i64 0)), (.d (.int .i64 0))] [(0, 9, (.tmp 9))]⟩,
  ⟨some 11, some (8, false), .call false 28 [(.tmp 10)]⟩,
  ⟨some 12, some (8, false), .bin .neq .plain (.tmp 11) (.lit (.d (.int .i64 0)))⟩,
  ⟨some 13, none, .pick (.tmp 8) (.lit (.d (.bool true))) (.tmp 12)⟩])
 (.cond (.tmp 13) (.seq (.ops [⟨some 4, none, .mv (.lit (.d (.bool false)))⟩])
 .ret) .skip))
 (.seq (.draw [⟨some 14, none, .mv (.tmp 0)⟩,
  ⟨some 15, none, .faddr 0 (.tmp 3)⟩,
  ⟨some 16, none, .faddr 0 (.tmp 15)⟩,
  ⟨some 17, none, .load false 1 (.tmp 16)⟩,
  ⟨some 18, none, .nilchk (.tmp 14)⟩,
  ⟨some 19, none, .faddr 1 (.tmp 18)⟩,
  ⟨some 20, none, .iaddr (some 8) 1 (.tmp 19) (.tmp 17)⟩,
  ⟨some 5, none, .mv (.tmp 20)⟩] [[], [], [1], [2], [0], [4], [5, 3], [6, 0, 1, 2, 3, 4, 5, 6]] [(0, []), (1, []), (2, []), (3, []), (4, []), (5, []), (6, []), (7, [])] [0, 0, 2, 6, 1, 17, 63, 127])
 (.seq (.seq (.draw [⟨some 21, none, .mv (.tmp 5)⟩,
  ⟨some 22, none, .nilchk (.tmp 21)⟩,
  ⟨some 23, none, .load false 1 (.tmp 22)⟩,
  ⟨some 24, none, .len .sl (.tmp 23)⟩,
  ⟨some 25, none, .bin .gtr .plain (.tmp 24) (.lit (.d (.int .i64 0)))⟩,
  ⟨some 26, none, .mv (.tmp 25)⟩,
  ⟨some 27, some (26, true), .mv (.tmp 5)⟩,
  ⟨some 28, some (26, true), .nilchk (.tmp 27)⟩,
  ⟨some 29, some (26, true), .load false 1 (.tmp 28)⟩,
  ⟨some 30, some (26, true), .iaddr none 9 (.tmp 29) (.lit (.d (.int .i64 0)))⟩,
  ⟨some 31, some (26, true), .faddr 0 (.tmp 30)⟩,
  ⟨some 32, some (26, true), .faddr 1 (.tmp 31)⟩,
  ⟨some 33, some (26, true), .load false 1 (.tmp 32)⟩,
  ⟨some 34, some (26, true), .faddr 0 (.tmp 3)⟩,
  ⟨some 35, some (26, true), .faddr 1 (.tmp 34)⟩,
  ⟨some 36, some (26, true), .load false 1 (.tmp 35)⟩,
  ⟨some 37, some (26, true), .bin .geq .plain (.tmp 33) (.tmp 36)⟩,
  ⟨some 38, none, .pick (.tmp 26) (.tmp 37) (.lit (.d (.bool false)))⟩] [[], [0], [1], [2], [3], [4], [5], [6, 5], [7, 5], [8, 5], [9, 5], [10, 5], [11, 5], [5], [13, 5], [14, 5], [12, 15, 5], [5, 16]] [(0, []), (1, []), (2, []), (3, []), (4, []), (5, []), (6, []), (7, []), (8, []), (9, []), (10, []), (11, []), (12, []), (13, []), (14, []), (15, []), (16, []), (17, [])] [0, 1, 3, 7, 15, 31, 63, 127, 255, 511, 1023, 2047, 4095, 63, 8255, 24639, 65535, 131071])
 (.cond (.tmp 38) (.seq (.ops [⟨some 4, none, .mv (.lit (.d (.bool false)))⟩])
 .ret) .skip))
 (.seq (.ops [⟨some 39, none, .mv (.tmp 5)⟩,
  ⟨some 40, none, .load true 9 (.tmp 3)⟩,
  ⟨some 41, none, .mkslice false 9 1 [(.d (.int .i64 0)), (.d (.int .i64 0)), (.d (.int .i64 0)), (.d (.str [])), (.d (.str [])), (.d (.int .i64 0)), (.exact []), (.d (.int .i64 0)), (.d (.int .i64 0))] [(0, 9, (.tmp 40))]⟩,
  ⟨some 42, none, .call false 29 [(.tmp 41)]⟩,
  ⟨some 43, none, .nilchk (.tmp 39)⟩,
  ⟨none, none, .store 1 (.tmp 43) (.tmp 42)⟩])
 (.seq (.ops [⟨some 4, none, .mv (.lit (.d (.bool true)))⟩])
 .ret))))))⟩
theorem isA_pool_Pool_Put : isF Try.prog n_pool_Pool_Put A_pool_Pool_Put := ⟨Try.f10, _, Try.func10, by decide +kernel, rfl, by kernel_rfl, by kernel_rfl, by decide, by kernel_rfl, rfl, by kernel_rfl⟩
end Go.Proofs.Ytfnnejokhikefaa

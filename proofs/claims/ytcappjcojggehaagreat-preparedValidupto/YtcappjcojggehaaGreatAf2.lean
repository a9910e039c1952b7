/- Resolved forms, each with the theorem that it is its function's. Printed by program. -/
import Derived.Test.YtcappjcojggehaaGreatNm
import Derived.KernelRfl
set_option linter.all false
set_option maxRecDepth 100000
set_option linter.unusedVariables false
namespace Go.Proofs.YtcappjcojggehaaGreat
open Go.AW
/-- bulla/prepared.Valid -/
def zdq : AF := ⟨4, 139, [(.tmp 8)],
 (.seq (.ops [⟨some 7, none, .boxi (.tmp 3)⟩,
  ⟨some 8, none, .mv (.lit (.d (.bool false)))⟩])
 (.seq (.seq (.ops [⟨some 15, none, .mv (.tmp 0)⟩,
  ⟨some 16, none, .call false 47 [(.tmp 15)]⟩,
  ⟨some 17, none, .bin .eql .ptr (.tmp 16) (.lit (.d .nilp))⟩,
  ⟨some 18, none, .mv (.tmp 17)⟩,
  ⟨some 19, some (18, false), .mv (.tmp 1)⟩,
  ⟨some 20, some (18, false), .call false 48 [(.tmp 19)]⟩,
  ⟨some 21, some (18, false), .bin .eql .ptr (.tmp 20) (.lit (.d .nilp))⟩,
  ⟨some 22, none, .pick (.tmp 18) (.lit (.d (.bool true))) (.tmp 21)⟩,
  ⟨some 23, none, .mv (.tmp 22)⟩,
  ⟨some 24, some (23, false), .mv (.tmp 2)⟩,
  ⟨some 25, some (23, false), .call false 49 [(.tmp 24)]⟩,
  ⟨some 26, some (23, false), .bin .neq .plain (.tmp 25) (.lit (.d (.int .i64 0)))⟩,
  ⟨some 27, none, .pick (.tmp 23) (.lit (.d (.bool true))) (.tmp 26)⟩,
  ⟨some 28, none, .mv (.tmp 27)⟩,
  ⟨some 29, some (28, false), .faddr 0 (.tmp 7)⟩,
  ⟨some 30, some (28, false), .load false 1 (.tmp 29)⟩,
  ⟨some 31, some (28, false), .bin .lss .plain (.tmp 30) (.lit (.d (.int .i64 0)))⟩,
  ⟨some 32, none, .pick (.tmp 28) (.lit (.d (.bool true))) (.tmp 31)⟩,
  ⟨some 33, none, .mv (.tmp 32)⟩,
  ⟨some 34, some (33, false), .faddr 0 (.tmp 7)⟩,
  ⟨some 35, some (33, false), .load false 1 (.tmp 34)⟩,
  ⟨some 36, some (33, false), .bin .gtr .plain (.tmp 35) (.lit (.d (.int .i64 9007199254740992)))⟩,
  ⟨some 37, none, .pick (.tmp 33) (.lit (.d (.bool true))) (.tmp 36)⟩,
  ⟨some 38, none, .mv (.tmp 37)⟩,
  ⟨some 39, some (38, false), .faddr 1 (.tmp 7)⟩,
  ⟨some 40, some (38, false), .load false 1 (.tmp 39)⟩,
  ⟨some 41, some (38, false), .bin .lss .plain (.tmp 40) (.lit (.d (.int .i64 1)))⟩,
  ⟨some 42, none, .pick (.tmp 38) (.lit (.d (.bool true))) (.tmp 41)⟩,
  ⟨some 43, none, .mv (.tmp 42)⟩,
  ⟨some 44, some (43, false), .faddr 1 (.tmp 7)⟩,
  ⟨some 45, some (43, false), .load false 1 (.tmp 44)⟩,
  ⟨some 46, some (43, false), .bin .gtr .plain (.tmp 45) (.lit (.d (.int .i64 9007199254740992)))⟩,
  ⟨some 47, none, .pick (.tmp 43) (.lit (.d (.bool true))) (.tmp 46)⟩,
  ⟨some 48, none, .mv (.tmp 47)⟩,
  ⟨some 49, some (48, false), .mv (.tmp 0)⟩,
  ⟨some 50, some (48, false), .mv (.tmp 1)⟩,
  ⟨some 51, some (48, false), .faddr 6 (.tmp 7)⟩,
  ⟨some 52, some (48, false), .load false 1 (.tmp 51)⟩,
  ⟨some 53, some (48, false), .call false 50 [(.tmp 49), (.tmp 50), (.tmp 52)]⟩,
  ⟨some 54, some (48, false), .un .not (.tmp 53)⟩,
  ⟨some 55, none, .pick (.tmp 48) (.lit (.d (.bool true))) (.tmp 54)⟩])
 (.cond (.tmp 55) (.seq (.ops [⟨some 8, none, .mv (.lit (.d (.bool false)))⟩])
 .ret) .skip))
 (.seq (.ops [⟨some 57, none, .mv (.tmp 0)⟩,
  ⟨some 58, none, .faddr 6 (.tmp 7)⟩,
  ⟨some 59, none, .load false 1 (.tmp 58)⟩,
  ⟨some 60, none, .call false 52 [(.lit (.exact [])), (.tmp 59)]⟩,
  ⟨some 61, none, .call false 51 [(.tmp 57), (.tmp 60)]⟩,
  ⟨some 56, none, .mv (.tmp 61)⟩,
  ⟨some 62, none, .extract (.tmp 56) 0⟩,
  ⟨some 63, none, .extract (.tmp 56) 1⟩,
  ⟨some 9, none, .mv (.tmp 62)⟩,
  ⟨some 10, none, .mv (.tmp 63)⟩])
 (.seq (.ops [⟨some 64, none, .mv (.tmp 2)⟩,
  ⟨some 65, none, .faddr 0 (.tmp 7)⟩,
  ⟨some 66, none, .load false 1 (.tmp 65)⟩,
  ⟨some 67, none, .call false 53 [(.tmp 64), (.tmp 66)]⟩,
  ⟨some 11, none, .mv (.tmp 67)⟩])
 (.seq (.seq (.ops [⟨some 68, none, .mv (.tmp 10)⟩,
  ⟨some 69, none, .un .not (.tmp 68)⟩,
  ⟨some 70, none, .mv (.tmp 69)⟩,
  ⟨some 71, some (70, false), .mv (.tmp 9)⟩,
  ⟨some 72, some (70, false), .faddr 2 (.tmp 7)⟩,
  ⟨some 73, some (70, false), .load false 1 (.tmp 72)⟩,
  ⟨some 74, some (70, false), .bin .neq .plain (.tmp 71) (.tmp 73)⟩,
  ⟨some 75, none, .pick (.tmp 70) (.lit (.d (.bool true))) (.tmp 74)⟩,
  ⟨some 76, none, .mv (.tmp 75)⟩,
  ⟨some 77, some (76, false), .mv (.tmp 0)⟩,
  ⟨some 78, some (76, false), .mv (.tmp 1)⟩,
  ⟨some 79, some (76, false), .faddr 3 (.tmp 7)⟩,
  ⟨some 80, some (76, false), .load true 2 (.tmp 79)⟩,
  ⟨some 81, some (76, false), .mv (.tmp 11)⟩,
  ⟨some 82, some (76, false), .faddr 0 (.tmp 7)⟩,
  ⟨some 83, some (76, false), .load false 1 (.tmp 82)⟩,
  ⟨some 84, some (76, false), .faddr 1 (.tmp 7)⟩,
  ⟨some 85, some (76, false), .load false 1 (.tmp 84)⟩,
  ⟨some 86, some (76, false), .mv (.tmp 9)⟩,
  ⟨some 87, some (76, false), .call false 54 [(.tmp 77), (.tmp 78), (.tmp 80), (.tmp 81), (.lit (.d (.int .i64 2))), (.tmp 83), (.tmp 85), (.tmp 86)]⟩,
  ⟨some 88, some (76, false), .un .not (.tmp 87)⟩,
  ⟨some 89, none, .pick (.tmp 76) (.lit (.d (.bool true))) (.tmp 88)⟩,
  ⟨some 90, none, .mv (.tmp 89)⟩,
  ⟨some 91, some (90, false), .faddr 5 (.tmp 7)⟩,
  ⟨some 92, some (90, false), .load false 1 (.tmp 91)⟩,
  ⟨some 93, some (90, false), .len .sl (.tmp 92)⟩,
  ⟨some 94, some (90, false), .mv (.tmp 2)⟩,
  ⟨some 95, some (90, false), .bin .mul .plain (.lit (.d (.int .i64 2))) (.tmp 94)⟩,
  ⟨some 96, some (90, false), .bin .neq .plain (.tmp 93) (.tmp 95)⟩,
  ⟨some 97, none, .pick (.tmp 90) (.lit (.d (.bool true))) (.tmp 96)⟩])
 (.cond (.tmp 97) (.seq (.ops [⟨some 8, none, .mv (.lit (.d (.bool false)))⟩])
 .ret) .skip))
 (.seq (.ops [⟨some 12, none, .mv (.lit (.d (.int .i64 (-1))))⟩])
 (.seq (.seq (.ops [⟨some 98, none, .faddr 5 (.tmp 7)⟩,
  ⟨some 99, none, .load false 1 (.tmp 98)⟩,
  ⟨some 100, none, .len .sl (.tmp 99)⟩,
  ⟨some 101, none, .mv (.lit (.d (.int .i64 0)))⟩])
 (.block 0 (.loop [12, 101] [8, 14, 102, 103, 104, 105, 106, 107, 108, 109, 110, 111, 112, 113, 114, 115, 116, 117, 118, 119, 120, 121, 122, 123, 124, 125, 126, 127, 128, 129, 130, 131, 132, 133, 134, 135, 136, 137, 138] (.seq (.ops [⟨some 102, none, .bin .lss .plain (.tmp 101) (.tmp 100)⟩])
 (.seq (.cond (.tmp 102) .skip (.exit 0))
 (.seq (.block 1 (.seq (.ops [⟨some 103, none, .iaddr none 2 (.tmp 99) (.tmp 101)⟩,
  ⟨some 104, none, .load true 2 (.tmp 103)⟩,
  ⟨some 14, none, .alloc [(.d (.int .i64 0)), (.d (.int .i64 0))]⟩,
  ⟨none, none, .store 2 (.tmp 14) (.tmp 104)⟩])
 (.seq (.seq (.draw [⟨some 105, none, .faddr 0 (.tmp 14)⟩,
  ⟨some 106, none, .load false 1 (.tmp 105)⟩,
  ⟨some 107, none, .mv (.tmp 12)⟩,
  ⟨some 108, none, .bin .leq .plain (.tmp 106) (.tmp 107)⟩,
  ⟨some 109, none, .mv (.tmp 108)⟩,
  ⟨some 110, some (109, false), .faddr 0 (.tmp 14)⟩,
  ⟨some 111, some (109, false), .load false 1 (.tmp 110)⟩,
  ⟨some 112, some (109, false), .mv (.tmp 2)⟩,
  ⟨some 113, some (109, false), .call false 55 [(.tmp 112)]⟩,
  ⟨some 114, some (109, false), .bin .geq .plain (.tmp 111) (.tmp 113)⟩,
  ⟨some 115, none, .pick (.tmp 109) (.lit (.d (.bool true))) (.tmp 114)⟩,
  ⟨some 116, none, .mv (.tmp 115)⟩,
  ⟨some 117, some (116, false), .faddr 0 (.tmp 14)⟩,
  ⟨some 118, some (116, false), .load false 1 (.tmp 117)⟩,
  ⟨some 119, some (116, false), .mv (.tmp 11)⟩,
  ⟨some 120, some (116, false), .bin .eql .plain (.tmp 118) (.tmp 119)⟩,
  ⟨some 121, none, .pick (.tmp 116) (.lit (.d (.bool true))) (.tmp 120)⟩,
  ⟨some 122, none, .mv (.tmp 121)⟩,
  ⟨some 123, some (122, false), .mv (.tmp 0)⟩,
  ⟨some 124, some (122, false), .mv (.tmp 1)⟩,
  ⟨some 125, some (122, false), .load true 2 (.tmp 14)⟩,
  ⟨some 126, some (122, false), .faddr 0 (.tmp 14)⟩,
  ⟨some 127, some (122, false), .load false 1 (.tmp 126)⟩,
  ⟨some 128, some (122, false), .faddr 0 (.tmp 7)⟩,
  ⟨some 129, some (122, false), .load false 1 (.tmp 128)⟩,
  ⟨some 130, some (122, false), .faddr 1 (.tmp 7)⟩,
  ⟨some 131, some (122, false), .load false 1 (.tmp 130)⟩,
  ⟨some 132, some (122, false), .mv (.tmp 9)⟩,
  ⟨some 133, some (122, false), .call false 54 [(.tmp 123), (.tmp 124), (.tmp 125), (.tmp 127), (.lit (.d (.int .i64 3))), (.tmp 129), (.tmp 131), (.tmp 132)]⟩,
  ⟨some 134, some (122, false), .un .not (.tmp 133)⟩,
  ⟨some 135, none, .pick (.tmp 122) (.lit (.d (.bool true))) (.tmp 134)⟩] [[], [0], [], [1, 2], [3], [4], [5, 4], [4], [7, 4, 4], [6, 8, 4], [4, 9], [10, 8], [11], [12, 11], [11], [13, 14, 11], [11, 15], [16, 11], [17], [17], [17], [17], [21, 17], [17], [23, 17], [17], [25, 17], [17], [18, 19, 20, 22, 24, 26, 27, 17, 17], [28, 17], [17, 29]] [(0, []), (1, []), (2, []), (3, []), (4, []), (5, []), (6, []), (7, []), (8, [110]), (9, []), (10, []), (11, []), (12, []), (13, []), (14, []), (15, []), (16, []), (17, []), (18, []), (19, []), (20, []), (21, []), (22, []), (23, []), (24, []), (25, []), (26, []), (27, []), (28, []), (29, []), (30, [])] [0, 1, 0, 7, 15, 31, 63, 31, 159, 511, 1023, 2047, 4095, 8191, 4095, 32767, 65535, 131071, 262143, 262143, 262143, 262143, 2359295, 262143, 8650751, 262143, 33816575, 262143, 268435455, 536870911, 1073741823])
 (.cond (.tmp 135) (.seq (.ops [⟨some 8, none, .mv (.lit (.d (.bool false)))⟩])
 .ret) .skip))
 (.ops [⟨some 136, none, .faddr 0 (.tmp 14)⟩,
  ⟨some 137, none, .load false 1 (.tmp 136)⟩,
  ⟨some 12, none, .mv (.tmp 137)⟩]))))
 (.ops [⟨some 138, none, .bin .add .plain (.tmp 101) (.lit (.d (.int .i64 1)))⟩,
  ⟨some 101, none, .mv (.tmp 138)⟩])))))))
 (.seq (.ops [⟨some 8, none, .mv (.lit (.d (.bool true)))⟩])
 .ret))))))))⟩
theorem ziA : isF Tryz.prog zaV zdq := ⟨Tryz.f16, _, Tryz.func16, by decide +kernel, rfl, by kernel_rfl, by kernel_rfl, by decide, by kernel_rfl, rfl, by kernel_rfl⟩
/-- bulla/bullaref15.Valid -/
def zhV : AF := ⟨4, 133, [(.tmp 8)],
 (.seq (.ops [⟨some 7, none, .boxi (.tmp 3)⟩,
  ⟨some 8, none, .mv (.lit (.d (.bool false)))⟩])
 (.seq (.seq (.ops [⟨some 15, none, .mv (.tmp 2)⟩,
  ⟨some 16, none, .call false 9 [(.tmp 15)]⟩,
  ⟨some 17, none, .bin .neq .plain (.tmp 16) (.lit (.d (.int .i64 0)))⟩,
  ⟨some 18, none, .mv (.tmp 17)⟩,
  ⟨some 19, some (18, false), .faddr 0 (.tmp 7)⟩,
  ⟨some 20, some (18, false), .load false 1 (.tmp 19)⟩,
  ⟨some 21, some (18, false), .bin .lss .plain (.tmp 20) (.lit (.d (.int .i64 0)))⟩,
  ⟨some 22, none, .pick (.tmp 18) (.lit (.d (.bool true))) (.tmp 21)⟩,
  ⟨some 23, none, .mv (.tmp 22)⟩,
  ⟨some 24, some (23, false), .faddr 0 (.tmp 7)⟩,
  ⟨some 25, some (23, false), .load false 1 (.tmp 24)⟩,
  ⟨some 26, some (23, false), .bin .gtr .plain (.tmp 25) (.lit (.d (.int .i64 9007199254740992)))⟩,
  ⟨some 27, none, .pick (.tmp 23) (.lit (.d (.bool true))) (.tmp 26)⟩,
  ⟨some 28, none, .mv (.tmp 27)⟩,
  ⟨some 29, some (28, false), .faddr 1 (.tmp 7)⟩,
  ⟨some 30, some (28, false), .load false 1 (.tmp 29)⟩,
  ⟨some 31, some (28, false), .bin .lss .plain (.tmp 30) (.lit (.d (.int .i64 1)))⟩,
  ⟨some 32, none, .pick (.tmp 28) (.lit (.d (.bool true))) (.tmp 31)⟩,
  ⟨some 33, none, .mv (.tmp 32)⟩,
  ⟨some 34, some (33, false), .faddr 1 (.tmp 7)⟩,
  ⟨some 35, some (33, false), .load false 1 (.tmp 34)⟩,
  ⟨some 36, some (33, false), .bin .gtr .plain (.tmp 35) (.lit (.d (.int .i64 9007199254740992)))⟩,
  ⟨some 37, none, .pick (.tmp 33) (.lit (.d (.bool true))) (.tmp 36)⟩,
  ⟨some 38, none, .mv (.tmp 37)⟩,
  ⟨some 39, some (38, false), .mv (.tmp 0)⟩,
  ⟨some 40, some (38, false), .mv (.tmp 1)⟩,
  ⟨some 41, some (38, false), .faddr 6 (.tmp 7)⟩,
  ⟨some 42, some (38, false), .load false 1 (.tmp 41)⟩,
  ⟨some 43, some (38, false), .call false 56 [(.tmp 39), (.tmp 40), (.tmp 42)]⟩,
  ⟨some 44, some (38, false), .un .not (.tmp 43)⟩,
  ⟨some 45, none, .pick (.tmp 38) (.lit (.d (.bool true))) (.tmp 44)⟩,
  ⟨some 46, none, .mv (.tmp 45)⟩,
  ⟨some 47, some (46, false), .faddr 5 (.tmp 7)⟩,
  ⟨some 48, some (46, false), .load false 1 (.tmp 47)⟩,
  ⟨some 49, some (46, false), .len .sl (.tmp 48)⟩,
  ⟨some 50, some (46, false), .mv (.tmp 2)⟩,
  ⟨some 51, some (46, false), .bin .mul .plain (.lit (.d (.int .i64 2))) (.tmp 50)⟩,
  ⟨some 52, some (46, false), .bin .neq .plain (.tmp 49) (.tmp 51)⟩,
  ⟨some 53, none, .pick (.tmp 46) (.lit (.d (.bool true))) (.tmp 52)⟩])
 (.cond (.tmp 53) (.seq (.ops [⟨some 8, none, .mv (.lit (.d (.bool false)))⟩])
 .ret) .skip))
 (.seq (.ops [⟨some 55, none, .mv (.tmp 0)⟩,
  ⟨some 56, none, .faddr 6 (.tmp 7)⟩,
  ⟨some 57, none, .load false 1 (.tmp 56)⟩,
  ⟨some 58, none, .call false 58 [(.lit (.exact [])), (.tmp 57)]⟩,
  ⟨some 59, none, .call false 57 [(.tmp 55), (.tmp 58)]⟩,
  ⟨some 54, none, .mv (.tmp 59)⟩,
  ⟨some 60, none, .extract (.tmp 54) 0⟩,
  ⟨some 61, none, .extract (.tmp 54) 1⟩,
  ⟨some 9, none, .mv (.tmp 60)⟩,
  ⟨some 10, none, .mv (.tmp 61)⟩])
 (.seq (.ops [⟨some 62, none, .mv (.tmp 2)⟩,
  ⟨some 63, none, .faddr 0 (.tmp 7)⟩,
  ⟨some 64, none, .load false 1 (.tmp 63)⟩,
  ⟨some 65, none, .call false 59 [(.tmp 62), (.tmp 64)]⟩,
  ⟨some 11, none, .mv (.tmp 65)⟩])
 (.seq (.seq (.ops [⟨some 66, none, .mv (.tmp 10)⟩,
  ⟨some 67, none, .un .not (.tmp 66)⟩,
  ⟨some 68, none, .mv (.tmp 67)⟩,
  ⟨some 69, some (68, false), .mv (.tmp 9)⟩,
  ⟨some 70, some (68, false), .faddr 2 (.tmp 7)⟩,
  ⟨some 71, some (68, false), .load false 1 (.tmp 70)⟩,
  ⟨some 72, some (68, false), .bin .neq .plain (.tmp 69) (.tmp 71)⟩,
  ⟨some 73, none, .pick (.tmp 68) (.lit (.d (.bool true))) (.tmp 72)⟩,
  ⟨some 74, none, .mv (.tmp 73)⟩,
  ⟨some 75, some (74, false), .mv (.tmp 0)⟩,
  ⟨some 76, some (74, false), .mv (.tmp 1)⟩,
  ⟨some 77, some (74, false), .faddr 3 (.tmp 7)⟩,
  ⟨some 78, some (74, false), .load true 2 (.tmp 77)⟩,
  ⟨some 79, some (74, false), .mv (.tmp 11)⟩,
  ⟨some 80, some (74, false), .faddr 0 (.tmp 7)⟩,
  ⟨some 81, some (74, false), .load false 1 (.tmp 80)⟩,
  ⟨some 82, some (74, false), .faddr 1 (.tmp 7)⟩,
  ⟨some 83, some (74, false), .load false 1 (.tmp 82)⟩,
  ⟨some 84, some (74, false), .mv (.tmp 9)⟩,
  ⟨some 85, some (74, false), .call false 60 [(.tmp 75), (.tmp 76), (.tmp 78), (.tmp 79), (.lit (.d (.int .i64 2))), (.tmp 81), (.tmp 83), (.tmp 84)]⟩,
  ⟨some 86, some (74, false), .un .not (.tmp 85)⟩,
  ⟨some 87, none, .pick (.tmp 74) (.lit (.d (.bool true))) (.tmp 86)⟩])
 (.cond (.tmp 87) (.seq (.ops [⟨some 8, none, .mv (.lit (.d (.bool false)))⟩])
 .ret) .skip))
 (.seq (.ops [⟨some 12, none, .mv (.lit (.d (.int .i64 (-1))))⟩])
 (.seq (.seq (.ops [⟨some 13, none, .mv (.lit (.d (.int .i64 0)))⟩])
 (.block 0 (.loop [12, 13] [8, 14, 88, 89, 90, 91, 92, 93, 94, 95, 96, 97, 98, 99, 100, 101, 102, 103, 104, 105, 106, 107, 108, 109, 110, 111, 112, 113, 114, 115, 116, 117, 118, 119, 120, 121, 122, 123, 124, 125, 126, 127, 128, 129, 130, 131, 132] (.seq (.seq (.ops [⟨some 88, none, .mv (.tmp 13)⟩,
  ⟨some 89, none, .faddr 5 (.tmp 7)⟩,
  ⟨some 90, none, .load false 1 (.tmp 89)⟩,
  ⟨some 91, none, .len .sl (.tmp 90)⟩,
  ⟨some 92, none, .bin .lss .plain (.tmp 88) (.tmp 91)⟩])
 (.cond (.tmp 92) .skip (.exit 0)))
 (.seq (.block 1 (.seq (.ops [⟨some 95, none, .faddr 5 (.tmp 7)⟩,
  ⟨some 96, none, .load false 1 (.tmp 95)⟩,
  ⟨some 97, none, .mv (.tmp 13)⟩,
  ⟨some 98, none, .iaddr none 2 (.tmp 96) (.tmp 97)⟩,
  ⟨some 99, none, .faddr 0 (.tmp 98)⟩,
  ⟨some 100, none, .load false 1 (.tmp 99)⟩,
  ⟨some 14, none, .mv (.tmp 100)⟩])
 (.seq (.seq (.draw [⟨some 101, none, .mv (.tmp 14)⟩,
  ⟨some 102, none, .mv (.tmp 12)⟩,
  ⟨some 103, none, .bin .leq .plain (.tmp 101) (.tmp 102)⟩,
  ⟨some 104, none, .mv (.tmp 103)⟩,
  ⟨some 105, some (104, false), .mv (.tmp 14)⟩,
  ⟨some 106, some (104, false), .mv (.tmp 2)⟩,
  ⟨some 107, some (104, false), .call false 41 [(.tmp 106)]⟩,
  ⟨some 108, some (104, false), .bin .geq .plain (.tmp 105) (.tmp 107)⟩,
  ⟨some 109, none, .pick (.tmp 104) (.lit (.d (.bool true))) (.tmp 108)⟩,
  ⟨some 110, none, .mv (.tmp 109)⟩,
  ⟨some 111, some (110, false), .mv (.tmp 14)⟩,
  ⟨some 112, some (110, false), .mv (.tmp 11)⟩,
  ⟨some 113, some (110, false), .bin .eql .plain (.tmp 111) (.tmp 112)⟩,
  ⟨some 114, none, .pick (.tmp 110) (.lit (.d (.bool true))) (.tmp 113)⟩,
  ⟨some 115, none, .mv (.tmp 114)⟩,
  ⟨some 116, some (115, false), .mv (.tmp 0)⟩,
  ⟨some 117, some (115, false), .mv (.tmp 1)⟩,
  ⟨some 118, some (115, false), .faddr 5 (.tmp 7)⟩,
  ⟨some 119, some (115, false), .load false 1 (.tmp 118)⟩,
  ⟨some 120, some (115, false), .mv (.tmp 13)⟩,
  ⟨some 121, some (115, false), .iaddr none 2 (.tmp 119) (.tmp 120)⟩,
  ⟨some 122, some (115, false), .load true 2 (.tmp 121)⟩,
  ⟨some 123, some (115, false), .mv (.tmp 14)⟩,
  ⟨some 124, some (115, false), .faddr 0 (.tmp 7)⟩,
  ⟨some 125, some (115, false), .load false 1 (.tmp 124)⟩,
  ⟨some 126, some (115, false), .faddr 1 (.tmp 7)⟩,
  ⟨some 127, some (115, false), .load false 1 (.tmp 126)⟩,
  ⟨some 128, some (115, false), .mv (.tmp 9)⟩,
  ⟨some 129, some (115, false), .call false 60 [(.tmp 116), (.tmp 117), (.tmp 122), (.tmp 123), (.lit (.d (.int .i64 3))), (.tmp 125), (.tmp 127), (.tmp 128)]⟩,
  ⟨some 130, some (115, false), .un .not (.tmp 129)⟩,
  ⟨some 131, none, .pick (.tmp 115) (.lit (.d (.bool true))) (.tmp 130)⟩] [[], [], [0, 1], [2], [3], [3], [5, 3, 3], [4, 6, 3], [3, 7], [8, 6], [9], [9], [10, 11, 9], [9, 12], [13, 9], [14], [14], [14], [17, 14], [14], [18, 19, 14], [20, 14], [14], [14], [23, 14], [14], [25, 14], [14], [15, 16, 21, 22, 24, 26, 27, 14, 14], [28, 14], [14, 29]] [(0, []), (1, []), (2, []), (3, []), (4, []), (5, []), (6, []), (7, []), (8, []), (9, []), (10, []), (11, []), (12, []), (13, []), (14, []), (15, []), (16, []), (17, []), (18, []), (19, []), (20, []), (21, []), (22, []), (23, []), (24, []), (25, []), (26, []), (27, []), (28, []), (29, []), (30, [])] [0, 0, 3, 7, 15, 15, 47, 127, 255, 511, 1023, 1023, 4095, 8191, 16383, 32767, 32767, 32767, 163839, 32767, 950271, 1998847, 32767, 32767, 8421375, 32767, 33587199, 32767, 268435455, 536870911, 1073741823])
 (.cond (.tmp 131) (.seq (.ops [⟨some 8, none, .mv (.lit (.d (.bool false)))⟩])
 .ret) .skip))
 (.ops [⟨some 132, none, .mv (.tmp 14)⟩,
  ⟨some 12, none, .mv (.tmp 132)⟩]))))
 (.ops [⟨some 93, none, .mv (.tmp 13)⟩,
  ⟨some 94, none, .bin .add .plain (.tmp 93) (.lit (.d (.int .i64 1)))⟩,
  ⟨some 13, none, .mv (.tmp 94)⟩]))))))
 (.seq (.ops [⟨some 8, none, .mv (.lit (.d (.bool true)))⟩])
 .ret))))))))⟩
theorem znY : isF Tryz.prog zff zhV := ⟨Tryz.f17, _, Tryz.func17, by decide +kernel, rfl, by kernel_rfl, by kernel_rfl, by decide, by kernel_rfl, rfl, by kernel_rfl⟩
/-- bulla/prepared.Above -/
def zdr : AF := ⟨6, 66, [(.tmp 12)],
 (.seq (.ops [⟨some 12, none, .mv (.lit (.d (.bool false)))⟩])
 (.seq (.ops [⟨some 16, none, .mv (.tmp 4)⟩,
  ⟨some 13, none, .mv (.tmp 16)⟩])
 (.seq (.seq (.ops [⟨some 17, none, .mv (.tmp 5)⟩,
  ⟨some 18, none, .len .sl (.tmp 17)⟩,
  ⟨some 19, none, .mv (.lit (.d (.int .i64 0)))⟩])
 (.block 0 (.loop [13, 19] [12, 15, 20, 21, 22, 23, 24, 25, 26, 27, 28, 29, 30, 31, 32, 33, 34, 35, 36, 37, 38, 39, 40, 41, 42, 43, 44, 45, 46, 47, 48, 49, 50, 51, 52, 53, 54, 55, 56, 57, 58, 59, 60, 61, 62, 63, 64, 65] (.seq (.ops [⟨some 20, none, .bin .lss .plain (.tmp 19) (.tmp 18)⟩])
 (.seq (.cond (.tmp 20) .skip (.exit 0))
 (.seq (.block 1 (.seq (.ops [⟨some 21, none, .iaddr none 7 (.tmp 17) (.tmp 19)⟩,
  ⟨some 22, none, .load true 7 (.tmp 21)⟩,
  ⟨some 15, none, .alloc [(.d (.int .i64 0)), (.d (.int .i64 0)), (.d (.int .i64 0)), (.d (.int .i64 0)), (.d (.int .i64 0)), (.exact []), (.exact [])]⟩,
  ⟨none, none, .store 7 (.tmp 15) (.tmp 22)⟩])
 (.seq (.seq (.ops [⟨some 23, none, .mv (.tmp 0)⟩,
  ⟨some 24, none, .mv (.tmp 1)⟩,
  ⟨some 25, none, .mv (.tmp 2)⟩,
  ⟨some 26, none, .load true 7 (.tmp 15)⟩,
  ⟨some 27, none, .call false 16 [(.tmp 23), (.tmp 24), (.tmp 25), (.tmp 26)]⟩,
  ⟨some 28, none, .un .not (.tmp 27)⟩,
  ⟨some 29, none, .mv (.tmp 28)⟩,
  ⟨some 30, some (29, false), .faddr 0 (.tmp 15)⟩,
  ⟨some 31, some (29, false), .load false 1 (.tmp 30)⟩,
  ⟨some 32, some (29, false), .mv (.tmp 3)⟩,
  ⟨some 33, some (29, false), .bin .geq .plain (.tmp 31) (.tmp 32)⟩,
  ⟨some 34, none, .pick (.tmp 29) (.lit (.d (.bool true))) (.tmp 33)⟩,
  ⟨some 35, none, .mv (.tmp 34)⟩,
  ⟨some 36, some (35, false), .faddr 1 (.tmp 15)⟩,
  ⟨some 37, some (35, false), .load false 1 (.tmp 36)⟩,
  ⟨some 38, some (35, false), .mv (.tmp 13)⟩,
  ⟨some 39, some (35, false), .bin .leq .plain (.tmp 37) (.tmp 38)⟩,
  ⟨some 40, none, .pick (.tmp 35) (.lit (.d (.bool true))) (.tmp 39)⟩,
  ⟨some 41, none, .mv (.tmp 40)⟩,
  ⟨some 42, some (41, false), .mv (.tmp 4)⟩,
  ⟨some 43, some (41, false), .bin .lss .plain (.tmp 42) (.lit (.d (.int .i64 0)))⟩,
  ⟨some 44, some (41, false), .mv (.tmp 43)⟩,
  ⟨some 45, some (44, true), .faddr 1 (.tmp 15)⟩,
  ⟨some 46, some (44, true), .load false 1 (.tmp 45)⟩,
  ⟨some 47, some (44, true), .mv (.tmp 4)⟩,
  ⟨some 48, some (44, true), .bin .add .plain (.lit (.d (.int .i64 8))) (.tmp 47)⟩,
  ⟨some 49, some (44, true), .bin .gtr .plain (.tmp 46) (.tmp 48)⟩,
  ⟨some 50, some (41, false), .pick (.tmp 44) (.tmp 49) (.lit (.d (.bool false)))⟩,
  ⟨some 51, none, .pick (.tmp 41) (.lit (.d (.bool true))) (.tmp 50)⟩,
  ⟨some 52, none, .mv (.tmp 51)⟩,
  ⟨some 53, some (52, false), .mv (.tmp 4)⟩,
  ⟨some 54, some (52, false), .bin .geq .plain (.tmp 53) (.lit (.d (.int .i64 0)))⟩,
  ⟨some 55, some (52, false), .mv (.tmp 54)⟩,
  ⟨some 56, some (55, true), .faddr 1 (.tmp 15)⟩,
  ⟨some 57, some (55, true), .load false 1 (.tmp 56)⟩,
  ⟨some 58, some (55, true), .mv (.tmp 4)⟩,
  ⟨some 59, some (55, true), .bin .sub .plain (.tmp 57) (.tmp 58)⟩,
  ⟨some 60, some (55, true), .bin .gtr .plain (.tmp 59) (.lit (.d (.int .i64 8)))⟩,
  ⟨some 61, some (52, false), .pick (.tmp 55) (.tmp 60) (.lit (.d (.bool false)))⟩,
  ⟨some 62, none, .pick (.tmp 52) (.lit (.d (.bool true))) (.tmp 61)⟩])
 (.cond (.tmp 62) (.seq (.ops [⟨some 12, none, .mv (.lit (.d (.bool false)))⟩])
 .ret) .skip))
 (.ops [⟨some 63, none, .faddr 1 (.tmp 15)⟩,
  ⟨some 64, none, .load false 1 (.tmp 63)⟩,
  ⟨some 13, none, .mv (.tmp 64)⟩]))))
 (.ops [⟨some 65, none, .bin .add .plain (.tmp 19) (.lit (.d (.int .i64 1)))⟩,
  ⟨some 19, none, .mv (.tmp 65)⟩])))))))
 (.seq (.ops [⟨some 12, none, .mv (.lit (.d (.bool true)))⟩])
 .ret))))⟩
theorem ziB : isF Tryz.prog zdh zdr := ⟨Tryz.f18, _, Tryz.func18, by decide +kernel, rfl, by kernel_rfl, by kernel_rfl, by decide, by kernel_rfl, rfl, by kernel_rfl⟩
/-- bulla/bullaref15.Above -/
def zhW : AF := ⟨6, 73, [(.tmp 12)],
 (.seq (.ops [⟨some 12, none, .mv (.lit (.d (.bool false)))⟩])
 (.seq (.ops [⟨some 15, none, .mv (.tmp 4)⟩,
  ⟨some 13, none, .mv (.tmp 15)⟩])
 (.seq (.seq (.ops [⟨some 14, none, .mv (.lit (.d (.int .i64 0)))⟩])
 (.block 0 (.loop [13, 14] [12, 16, 17, 18, 19, 20, 21, 22, 23, 24, 25, 26, 27, 28, 29, 30, 31, 32, 33, 34, 35, 36, 37, 38, 39, 40, 41, 42, 43, 44, 45, 46, 47, 48, 49, 50, 51, 52, 53, 54, 55, 56, 57, 58, 59, 60, 61, 62, 63, 64, 65, 66, 67, 68, 69, 70, 71, 72] (.seq (.seq (.ops [⟨some 16, none, .mv (.tmp 14)⟩,
  ⟨some 17, none, .mv (.tmp 5)⟩,
  ⟨some 18, none, .len .sl (.tmp 17)⟩,
  ⟨some 19, none, .bin .lss .plain (.tmp 16) (.tmp 18)⟩])
 (.cond (.tmp 19) .skip (.exit 0)))
 (.seq (.block 1 (.seq (.seq (.ops [⟨some 22, none, .mv (.tmp 0)⟩,
  ⟨some 23, none, .mv (.tmp 1)⟩,
  ⟨some 24, none, .mv (.tmp 2)⟩,
  ⟨some 25, none, .mv (.tmp 5)⟩,
  ⟨some 26, none, .mv (.tmp 14)⟩,
  ⟨some 27, none, .iaddr none 7 (.tmp 25) (.tmp 26)⟩,
  ⟨some 28, none, .load true 7 (.tmp 27)⟩,
  ⟨some 29, none, .call false 17 [(.tmp 22), (.tmp 23), (.tmp 24), (.tmp 28)]⟩,
  ⟨some 30, none, .un .not (.tmp 29)⟩,
  ⟨some 31, none, .mv (.tmp 30)⟩,
  ⟨some 32, some (31, false), .mv (.tmp 5)⟩,
  ⟨some 33, some (31, false), .mv (.tmp 14)⟩,
  ⟨some 34, some (31, false), .iaddr none 7 (.tmp 32) (.tmp 33)⟩,
  ⟨some 35, some (31, false), .faddr 0 (.tmp 34)⟩,
  ⟨some 36, some (31, false), .load false 1 (.tmp 35)⟩,
  ⟨some 37, some (31, false), .mv (.tmp 3)⟩,
  ⟨some 38, some (31, false), .bin .geq .plain (.tmp 36) (.tmp 37)⟩,
  ⟨some 39, none, .pick (.tmp 31) (.lit (.d (.bool true))) (.tmp 38)⟩,
  ⟨some 40, none, .mv (.tmp 39)⟩,
  ⟨some 41, some (40, false), .mv (.tmp 5)⟩,
  ⟨some 42, some (40, false), .mv (.tmp 14)⟩,
  ⟨some 43, some (40, false), .iaddr none 7 (.tmp 41) (.tmp 42)⟩,
  ⟨some 44, some (40, false), .faddr 1 (.tmp 43)⟩,
  ⟨some 45, some (40, false), .load false 1 (.tmp 44)⟩,
  ⟨some 46, some (40, false), .mv (.tmp 13)⟩,
  ⟨some 47, some (40, false), .bin .leq .plain (.tmp 45) (.tmp 46)⟩,
  ⟨some 48, none, .pick (.tmp 40) (.lit (.d (.bool true))) (.tmp 47)⟩,
  ⟨some 49, none, .mv (.tmp 48)⟩,
  ⟨some 50, some (49, false), .mv (.tmp 5)⟩,
  ⟨some 51, some (49, false), .mv (.tmp 14)⟩,
  ⟨some 52, some (49, false), .iaddr none 7 (.tmp 50) (.tmp 51)⟩,
  ⟨some 53, some (49, false), .faddr 1 (.tmp 52)⟩,
  ⟨some 54, some (49, false), .load false 1 (.tmp 53)⟩,
  ⟨some 55, some (49, false), .mv (.tmp 4)⟩,
  ⟨some 56, some (49, false), .bin .leq .plain (.tmp 54) (.tmp 55)⟩,
  ⟨some 57, none, .pick (.tmp 49) (.lit (.d (.bool true))) (.tmp 56)⟩,
  ⟨some 58, none, .mv (.tmp 57)⟩,
  ⟨some 59, some (58, false), .mv (.tmp 5)⟩,
  ⟨some 60, some (58, false), .mv (.tmp 14)⟩,
  ⟨some 61, some (58, false), .iaddr none 7 (.tmp 59) (.tmp 60)⟩,
  ⟨some 62, some (58, false), .faddr 1 (.tmp 61)⟩,
  ⟨some 63, some (58, false), .load false 1 (.tmp 62)⟩,
  ⟨some 64, some (58, false), .bin .sub .plain (.tmp 63) (.lit (.d (.int .i64 8)))⟩,
  ⟨some 65, some (58, false), .mv (.tmp 4)⟩,
  ⟨some 66, some (58, false), .bin .gtr .plain (.tmp 64) (.tmp 65)⟩,
  ⟨some 67, none, .pick (.tmp 58) (.lit (.d (.bool true))) (.tmp 66)⟩])
 (.cond (.tmp 67) (.seq (.ops [⟨some 12, none, .mv (.lit (.d (.bool false)))⟩])
 .ret) .skip))
 (.ops [⟨some 68, none, .mv (.tmp 5)⟩,
  ⟨some 69, none, .mv (.tmp 14)⟩,
  ⟨some 70, none, .iaddr none 7 (.tmp 68) (.tmp 69)⟩,
  ⟨some 71, none, .faddr 1 (.tmp 70)⟩,
  ⟨some 72, none, .load false 1 (.tmp 71)⟩,
  ⟨some 13, none, .mv (.tmp 72)⟩])))
 (.ops [⟨some 20, none, .mv (.tmp 14)⟩,
  ⟨some 21, none, .bin .add .plain (.tmp 20) (.lit (.d (.int .i64 1)))⟩,
  ⟨some 14, none, .mv (.tmp 21)⟩]))))))
 (.seq (.ops [⟨some 12, none, .mv (.lit (.d (.bool true)))⟩])
 .ret))))⟩
theorem znZ : isF Tryz.prog zhE zhW := ⟨Tryz.f19, _, Tryz.func19, by decide +kernel, rfl, by kernel_rfl, by kernel_rfl, by decide, by kernel_rfl, rfl, by kernel_rfl⟩
/-- (*bulla/ideal.Table).Len -/
def zcW : AF := ⟨1, 10, [(.tmp 2)],
 (.seq (.ops [⟨some 2, none, .mv (.lit (.d (.int .i64 0)))⟩])
 (.seq (.seq (.ops [⟨some 3, none, .mv (.tmp 0)⟩,
  ⟨some 4, none, .call false 61 [(.tmp 3)]⟩])
 (.cond (.tmp 4) (.seq (.ops [⟨some 2, none, .mv (.lit (.d (.int .i64 0)))⟩])
 .ret) .skip))
 (.seq (.ops [⟨some 5, none, .mv (.tmp 0)⟩,
  ⟨some 6, none, .nilchk (.tmp 5)⟩,
  ⟨some 7, none, .faddr 0 (.tmp 6)⟩,
  ⟨some 8, none, .load false 1 (.tmp 7)⟩,
  ⟨some 9, none, .len .sl (.tmp 8)⟩,
  ⟨some 2, none, .mv (.tmp 9)⟩])
 .ret)))⟩
theorem zhN : isF Tryz.prog zcQ zcW := ⟨Tryz.f20, _, Tryz.func20, by decide +kernel, rfl, by kernel_rfl, by kernel_rfl, by decide, by kernel_rfl, rfl, by kernel_rfl⟩
/-- (*bulla/ideal.Ledger).Len -/
def zcF : AF := ⟨1, 10, [(.tmp 2)],
 (.seq (.ops [⟨some 2, none, .mv (.lit (.d (.int .i64 0)))⟩])
 (.seq (.seq (.ops [⟨some 3, none, .mv (.tmp 0)⟩,
  ⟨some 4, none, .call false 62 [(.tmp 3)]⟩])
 (.cond (.tmp 4) (.seq (.ops [⟨some 2, none, .mv (.lit (.d (.int .i64 0)))⟩])
 .ret) .skip))
 (.seq (.ops [⟨some 5, none, .mv (.tmp 0)⟩,
  ⟨some 6, none, .nilchk (.tmp 5)⟩,
  ⟨some 7, none, .faddr 0 (.tmp 6)⟩,
  ⟨some 8, none, .load false 1 (.tmp 7)⟩,
  ⟨some 9, none, .len .sl (.tmp 8)⟩,
  ⟨some 2, none, .mv (.tmp 9)⟩])
 .ret)))⟩
theorem zhg : isF Tryz.prog zcw zcF := ⟨Tryz.f21, _, Tryz.func21, by decide +kernel, rfl, by kernel_rfl, by kernel_rfl, by decide, by kernel_rfl, rfl, by kernel_rfl⟩
/-- (*bulla/prepared.Held).Put -/
def zcg : AF := ⟨2, 45, [(.tmp 4)],
 (.seq (.ops [⟨some 3, none, .boxi (.tmp 1)⟩,
  ⟨some 4, none, .mv (.lit (.d (.bool false)))⟩])
 (.seq (.seq (.ops [⟨some 7, none, .mv (.tmp 0)⟩,
  ⟨some 8, none, .call false 63 [(.tmp 7)]⟩,
  ⟨some 9, none, .mv (.tmp 8)⟩,
  ⟨some 10, some (9, false), .faddr 1 (.tmp 3)⟩,
  ⟨some 11, some (9, false), .load false 1 (.tmp 10)⟩,
  ⟨some 12, some (9, false), .bin .lss .plain (.tmp 11) (.lit (.d (.int .i64 1)))⟩,
  ⟨some 13, none, .pick (.tmp 9) (.lit (.d (.bool true))) (.tmp 12)⟩,
  ⟨some 14, none, .mv (.tmp 13)⟩,
  ⟨some 15, some (14, false), .faddr 1 (.tmp 3)⟩,
  ⟨some 16, some (14, false), .load false 1 (.tmp 15)⟩,
  ⟨some 17, some (14, false), .bin .gtr .plain (.tmp 16) (.lit (.d (.int .i64 9007199254740992)))⟩,
  ⟨some 18, none, .pick (.tmp 14) (.lit (.d (.bool true))) (.tmp 17)⟩])
 (.cond (.tmp 18) (.seq (.ops [⟨some 4, none, .mv (.lit (.d (.bool false)))⟩])
 .ret) .skip))
 (.seq (.seq (.draw [⟨some 20, none, .mv (.tmp 0)⟩,
  ⟨some 21, none, .nilchk (.tmp 20)⟩,
  ⟨some 22, none, .faddr 0 (.tmp 21)⟩,
  ⟨some 23, none, .load false 1 (.tmp 22)⟩,
  ⟨some 24, none, .faddr 1 (.tmp 3)⟩,
  ⟨some 25, none, .load false 1 (.tmp 24)⟩,
  ⟨some 26, none, .mget .int true (.agg [(.d (.int .i64 0)), (.d (.int .i64 0)), (.d (.int .i64 0)), (.d (.int .i64 0)), (.d (.int .i64 0)), (.exact []), (.exact [])]) (.tmp 23) (.tmp 25)⟩,
  ⟨some 19, none, .mv (.tmp 26)⟩,
  ⟨some 27, none, .extract (.tmp 19) 0⟩,
  ⟨some 28, none, .extract (.tmp 19) 1⟩,
  ⟨some 5, none, .alloc [(.d (.int .i64 0)), (.d (.int .i64 0)), (.d (.int .i64 0)), (.d (.int .i64 0)), (.d (.int .i64 0)), (.exact []), (.exact [])]⟩,
  ⟨none, none, .store 7 (.tmp 5) (.tmp 27)⟩,
  ⟨some 6, none, .mv (.tmp 28)⟩] [[], [0], [1], [2], [], [4], [3, 5], [6], [7], [7], [], [10, 8, 0, 1, 2, 3, 4, 5, 6, 7, 8, 10], [9, 11, 0, 1, 2, 3, 4, 5, 6, 7, 8, 9, 10, 11]] [(0, []), (1, []), (2, []), (3, []), (4, []), (5, []), (6, []), (7, []), (8, []), (9, []), (10, [22, 24, 23]), (11, []), (12, [])] [0, 1, 3, 7, 0, 16, 63, 127, 255, 255, 0, 1535, 4095])
 (.seq (.ops [⟨some 29, none, .mv (.tmp 6)⟩,
  ⟨some 30, none, .mv (.tmp 29)⟩,
  ⟨some 31, some (30, true), .faddr 0 (.tmp 5)⟩,
  ⟨some 32, some (30, true), .load false 1 (.tmp 31)⟩,
  ⟨some 33, some (30, true), .faddr 0 (.tmp 3)⟩,
  ⟨some 34, some (30, true), .load false 1 (.tmp 33)⟩,
  ⟨some 35, some (30, true), .bin .geq .plain (.tmp 32) (.tmp 34)⟩,
  ⟨some 36, none, .pick (.tmp 30) (.tmp 35) (.lit (.d (.bool false)))⟩])
 (.cond (.tmp 36) (.seq (.ops [⟨some 4, none, .mv (.lit (.d (.bool false)))⟩])
 .ret) .skip)))
 (.seq (.draw [⟨some 37, none, .mv (.tmp 0)⟩,
  ⟨some 38, none, .nilchk (.tmp 37)⟩,
  ⟨some 39, none, .faddr 0 (.tmp 38)⟩,
  ⟨some 40, none, .load false 1 (.tmp 39)⟩,
  ⟨some 41, none, .faddr 1 (.tmp 3)⟩,
  ⟨some 42, none, .load false 1 (.tmp 41)⟩,
  ⟨some 43, none, .load true 7 (.tmp 3)⟩,
  ⟨some 44, none, .call false 64 [(.tmp 43)]⟩,
  ⟨none, none, .mset .int (.tmp 40) (.tmp 42) (.tmp 44)⟩] [[], [0], [1], [2], [], [4], [], [6], [3, 5, 7, 7, 0, 1, 2, 3, 4, 5, 6, 7]] [(0, []), (1, []), (2, []), (3, []), (4, []), (5, []), (6, []), (7, [39, 41]), (8, [])] [0, 1, 3, 7, 0, 16, 0, 64, 255])
 (.seq (.ops [⟨some 4, none, .mv (.lit (.d (.bool true)))⟩])
 .ret)))))⟩
theorem zgj : isF Tryz.prog zbo zcg := ⟨Tryz.f24, _, Tryz.func24, by decide +kernel, rfl, by kernel_rfl, by kernel_rfl, by decide, by kernel_rfl, rfl, by kernel_rfl⟩
/-- (*bulla/prepared.Held).Len -/
def zch : AF := ⟨1, 10, [(.tmp 2)],
 (.seq (.ops [⟨some 2, none, .mv (.lit (.d (.int .i64 0)))⟩])
 (.seq (.seq (.ops [⟨some 3, none, .mv (.tmp 0)⟩,
  ⟨some 4, none, .call false 63 [(.tmp 3)]⟩])
 (.cond (.tmp 4) (.seq (.ops [⟨some 2, none, .mv (.lit (.d (.int .i64 0)))⟩])
 .ret) .skip))
 (.seq (.ops [⟨some 5, none, .mv (.tmp 0)⟩,
  ⟨some 6, none, .nilchk (.tmp 5)⟩,
  ⟨some 7, none, .faddr 0 (.tmp 6)⟩,
  ⟨some 8, none, .load false 1 (.tmp 7)⟩,
  ⟨some 9, none, .len .map (.tmp 8)⟩,
  ⟨some 2, none, .mv (.tmp 9)⟩])
 .ret)))⟩
theorem zgk : isF Tryz.prog zcb zch := ⟨Tryz.f26, _, Tryz.func26, by decide +kernel, rfl, by kernel_rfl, by kernel_rfl, by decide, by kernel_rfl, rfl, by kernel_rfl⟩
/-- bulla/ideal.NewLedger -/
def zcX : AF := ⟨0, 4, [(.tmp 0)],
 (.seq (.ops [⟨some 0, none, .mv (.lit (.d .nilp))⟩])
 (.seq (.ops [⟨some 1, none, .mkmap⟩,
  ⟨some 2, none, .build [(.exact []), (.d .nilmap)] [(1, 1, (.tmp 1))]⟩,
  ⟨some 3, none, .boxi (.tmp 2)⟩,
  ⟨some 0, none, .mv (.tmp 3)⟩])
 .ret))⟩
theorem zhO : isF Tryz.prog zbL zcX := ⟨Tryz.f28, _, Tryz.func28, by decide +kernel, rfl, by kernel_rfl, by kernel_rfl, by decide, by kernel_rfl, rfl, by kernel_rfl⟩
/-- bulla/ideal.NewTable -/
def zdu : AF := ⟨0, 4, [(.tmp 0)],
 (.seq (.ops [⟨some 0, none, .mv (.lit (.d .nilp))⟩])
 (.seq (.ops [⟨some 1, none, .mkmap⟩,
  ⟨some 2, none, .build [(.exact []), (.d .nilmap)] [(1, 1, (.tmp 1))]⟩,
  ⟨some 3, none, .boxi (.tmp 2)⟩,
  ⟨some 0, none, .mv (.tmp 3)⟩])
 .ret))⟩
theorem ziE : isF Tryz.prog zbX zdu := ⟨Tryz.f29, _, Tryz.func29, by decide +kernel, rfl, by kernel_rfl, by kernel_rfl, by decide, by kernel_rfl, rfl, by kernel_rfl⟩
/-- bulla/prepared.New -/
def zeC : AF := ⟨0, 4, [(.tmp 0)],
 (.seq (.ops [⟨some 0, none, .mv (.lit (.d .nilp))⟩])
 (.seq (.ops [⟨some 1, none, .mkmap⟩,
  ⟨some 2, none, .build [(.d .nilmap)] [(0, 1, (.tmp 1))]⟩,
  ⟨some 3, none, .boxi (.tmp 2)⟩,
  ⟨some 0, none, .mv (.tmp 3)⟩])
 .ret))⟩
theorem zkU : isF Tryz.prog zew zeC := ⟨Tryz.f30, _, Tryz.func30, by decide +kernel, rfl, by kernel_rfl, by kernel_rfl, by decide, by kernel_rfl, rfl, by kernel_rfl⟩
/-- bulla/bullaref12.Brokers -/
def zfx : AF := ⟨1, 9, [(.tmp 2)],
 (.seq (.ops [⟨some 2, none, .mv (.lit (.d (.int .i64 0)))⟩])
 (.seq (.seq (.ops [⟨some 3, none, .mv (.tmp 0)⟩,
  ⟨some 4, none, .call false 9 [(.tmp 3)]⟩,
  ⟨some 5, none, .bin .neq .plain (.tmp 4) (.lit (.d (.int .i64 0)))⟩])
 (.cond (.tmp 5) (.seq (.ops [⟨some 2, none, .mv (.lit (.d (.int .i64 0)))⟩])
 .ret) .skip))
 (.seq (.ops [⟨some 6, none, .mv (.tmp 0)⟩,
  ⟨some 7, none, .bin .mul .plain (.lit (.d (.int .i64 3))) (.tmp 6)⟩,
  ⟨some 8, none, .bin .add .plain (.tmp 7) (.lit (.d (.int .i64 1)))⟩,
  ⟨some 2, none, .mv (.tmp 8)⟩])
 .ret)))⟩
theorem zlE : isF Tryz.prog zdF zfx := ⟨Tryz.f41, _, Tryz.func41, by decide +kernel, rfl, by kernel_rfl, by kernel_rfl, by decide, by kernel_rfl, rfl, by kernel_rfl⟩
/-- bulla/bullaref08.Seal -/
def zjW : AF := ⟨3, 38, [(.cell 6 true 9), (.tmp 7)],
 (.seq (.ops [⟨some 5, none, .boxi (.tmp 2)⟩,
  ⟨some 6, none, .alloc [(.d (.int .i64 0)), (.d (.int .i64 0)), (.d (.int .i64 0)), (.d (.str [])), (.d (.str [])), (.d (.int .i64 0)), (.exact []), (.d (.int .i64 0)), (.d (.int .i64 0))]⟩,
  ⟨some 7, none, .mv (.lit (.d (.int .i64 0)))⟩])
 (.seq (.ops [⟨some 12, none, .load true 7 (.tmp 5)⟩,
  ⟨some 13, none, .call false 72 [(.tmp 12)]⟩,
  ⟨some 11, none, .mv (.tmp 13)⟩,
  ⟨some 14, none, .extract (.tmp 11) 0⟩,
  ⟨some 15, none, .extract (.tmp 11) 1⟩,
  ⟨some 8, none, .mv (.tmp 14)⟩,
  ⟨some 9, none, .mv (.tmp 15)⟩])
 (.seq (.seq (.ops [⟨some 16, none, .mv (.tmp 9)⟩,
  ⟨some 17, none, .bin .neq .plain (.tmp 16) (.lit (.d (.int .i64 0)))⟩])
 (.cond (.tmp 17) (.seq (.ops [⟨some 18, none, .build [(.d (.int .i64 0)), (.d (.int .i64 0)), (.d (.int .i64 0)), (.d (.str [])), (.d (.str [])), (.d (.int .i64 0)), (.exact []), (.d (.int .i64 0)), (.d (.int .i64 0))] []⟩,
  ⟨some 19, none, .mv (.tmp 9)⟩,
  ⟨none, none, .store 9 (.tmp 6) (.tmp 18)⟩,
  ⟨some 7, none, .mv (.tmp 19)⟩])
 .ret) .skip))
 (.seq (.ops [⟨some 21, none, .mv (.tmp 1)⟩,
  ⟨some 22, none, .faddr 0 (.tmp 5)⟩,
  ⟨some 23, none, .load false 1 (.tmp 22)⟩,
  ⟨some 24, none, .call false 74 [(.tmp 23)]⟩,
  ⟨some 25, none, .mv (.tmp 0)⟩,
  ⟨some 26, none, .mv (.tmp 8)⟩,
  ⟨some 27, none, .call false 75 [(.tmp 25), (.tmp 26)]⟩,
  ⟨some 28, none, .call false 73 [(.tmp 21), (.tmp 24), (.tmp 27)]⟩,
  ⟨some 20, none, .mv (.tmp 28)⟩,
  ⟨some 29, none, .extract (.tmp 20) 0⟩,
  ⟨some 30, none, .extract (.tmp 20) 1⟩,
  ⟨some 10, none, .alloc [(.d (.int .i64 0)), (.d (.int .i64 0))]⟩,
  ⟨none, none, .store 2 (.tmp 10) (.tmp 29)⟩,
  ⟨some 9, none, .mv (.tmp 30)⟩])
 (.seq (.seq (.ops [⟨some 31, none, .mv (.tmp 9)⟩,
  ⟨some 32, none, .bin .neq .plain (.tmp 31) (.lit (.d (.int .i64 0)))⟩])
 (.cond (.tmp 32) (.seq (.ops [⟨some 33, none, .build [(.d (.int .i64 0)), (.d (.int .i64 0)), (.d (.int .i64 0)), (.d (.str [])), (.d (.str [])), (.d (.int .i64 0)), (.exact []), (.d (.int .i64 0)), (.d (.int .i64 0))] []⟩,
  ⟨some 34, none, .mv (.tmp 9)⟩,
  ⟨none, none, .store 9 (.tmp 6) (.tmp 33)⟩,
  ⟨some 7, none, .mv (.tmp 34)⟩])
 .ret) .skip))
 (.seq (.ops [⟨some 35, none, .load true 7 (.tmp 5)⟩,
  ⟨some 36, none, .load true 2 (.tmp 10)⟩,
  ⟨some 37, none, .build [(.d (.int .i64 0)), (.d (.int .i64 0)), (.d (.int .i64 0)), (.d (.str [])), (.d (.str [])), (.d (.int .i64 0)), (.exact []), (.d (.int .i64 0)), (.d (.int .i64 0))] [(0, 7, (.tmp 35)), (7, 2, (.tmp 36))]⟩,
  ⟨none, none, .store 9 (.tmp 6) (.tmp 37)⟩,
  ⟨some 7, none, .mv (.lit (.d (.int .i64 0)))⟩])
 .ret))))))⟩
theorem isA_r08_Seal : isF Tryz.prog zgR zjW := ⟨Tryz.f42, _, Tryz.func42, by decide +kernel, rfl, by kernel_rfl, by kernel_rfl, by decide, by kernel_rfl, rfl, by kernel_rfl⟩
/-- bulla/bullaref08.Digest -/
def zgG : AF := ⟨2, 20, [(.tmp 4), (.tmp 5)],
 (.seq (.ops [⟨some 4, none, .mv (.lit (.d (.int .i64 0)))⟩,
  ⟨some 5, none, .mv (.lit (.d (.int .i64 0)))⟩])
 (.seq (.seq (.ops [⟨some 8, none, .mv (.tmp 1)⟩,
  ⟨some 9, none, .call false 76 [(.tmp 8)]⟩,
  ⟨some 6, none, .mv (.tmp 9)⟩])
 (.seq (.ops [⟨some 10, none, .mv (.tmp 6)⟩,
  ⟨some 11, none, .bin .neq .plain (.tmp 10) (.lit (.d (.int .i64 0)))⟩])
 (.cond (.tmp 11) (.seq (.ops [⟨some 12, none, .mv (.tmp 6)⟩,
  ⟨some 4, none, .mv (.lit (.d (.int .i64 0)))⟩,
  ⟨some 5, none, .mv (.tmp 12)⟩])
 .ret) .skip)))
 (.seq (.ops [⟨some 13, none, .mv (.tmp 0)⟩,
  ⟨some 14, none, .mv (.tmp 1)⟩,
  ⟨some 15, none, .call false 58 [(.lit (.exact [])), (.tmp 14)]⟩,
  ⟨some 16, none, .call false 75 [(.tmp 13), (.tmp 15)]⟩,
  ⟨some 7, none, .mv (.tmp 16)⟩])
 (.seq (.seq (.ops [⟨some 17, none, .mv (.tmp 7)⟩,
  ⟨some 18, none, .bin .eql .plain (.tmp 17) (.lit (.d (.int .i64 0)))⟩])
 (.cond (.tmp 18) (.seq (.ops [⟨some 4, none, .mv (.lit (.d (.int .i64 0)))⟩,
  ⟨some 5, none, .mv (.lit (.d (.int .i64 6)))⟩])
 .ret) .skip))
 (.seq (.ops [⟨some 19, none, .mv (.tmp 7)⟩,
  ⟨some 4, none, .mv (.tmp 19)⟩,
  ⟨some 5, none, .mv (.lit (.d (.int .i64 0)))⟩])
 .ret)))))⟩
theorem zmC : isF Tryz.prog zgc zgG := ⟨Tryz.f43, _, Tryz.func43, by decide +kernel, rfl, by kernel_rfl, by kernel_rfl, by decide, by kernel_rfl, rfl, by kernel_rfl⟩
/-- bulla/bullaref11.Vote -/
def zjV : AF := ⟨7, 34, [(.cell 14 true 2), (.tmp 15)],
 (.seq (.ops [⟨some 14, none, .alloc [(.d (.int .i64 0)), (.d (.int .i64 0))]⟩,
  ⟨some 15, none, .mv (.lit (.d (.int .i64 0)))⟩])
 (.seq (.seq (.ops [⟨some 16, none, .mv (.tmp 3)⟩,
  ⟨some 17, none, .mv (.tmp 4)⟩,
  ⟨some 18, none, .mv (.tmp 5)⟩,
  ⟨some 19, none, .mv (.tmp 6)⟩,
  ⟨some 20, none, .call false 77 [(.tmp 16), (.tmp 17), (.tmp 18), (.tmp 19)]⟩,
  ⟨some 21, none, .un .not (.tmp 20)⟩])
 (.cond (.tmp 21) (.seq (.ops [⟨some 22, none, .build [(.d (.int .i64 0)), (.d (.int .i64 0))] []⟩,
  ⟨none, none, .store 2 (.tmp 14) (.tmp 22)⟩,
  ⟨some 15, none, .mv (.lit (.d (.int .i64 1)))⟩])
 .ret) .skip))
 (.seq (.ops [⟨some 23, none, .mv (.tmp 0)⟩,
  ⟨some 24, none, .mv (.tmp 1)⟩,
  ⟨some 25, none, .mv (.tmp 2)⟩,
  ⟨some 26, none, .mv (.tmp 3)⟩,
  ⟨some 27, none, .mv (.tmp 4)⟩,
  ⟨some 28, none, .mv (.tmp 5)⟩,
  ⟨some 29, none, .mv (.tmp 6)⟩,
  ⟨some 30, none, .call false 79 [(.tmp 26), (.tmp 27), (.tmp 28), (.tmp 29)]⟩,
  ⟨some 31, none, .call false 78 [(.tmp 23), (.tmp 24), (.tmp 25), (.tmp 30)]⟩,
  ⟨some 32, none, .extract (.tmp 31) 0⟩,
  ⟨some 33, none, .extract (.tmp 31) 1⟩,
  ⟨none, none, .store 2 (.tmp 14) (.tmp 32)⟩,
  ⟨some 15, none, .mv (.tmp 33)⟩])
 .ret)))⟩
theorem isA_r11_Vote : isF Tryz.prog zgQ zjV := ⟨Tryz.f44, _, Tryz.func44, by decide +kernel, rfl, by kernel_rfl, by kernel_rfl, by decide, by kernel_rfl, rfl, by kernel_rfl⟩
/-- (*bulla/ideal.Table).Sum -/
def zcV : AF := ⟨2, 52, [(.tmp 4)],
 (.seq (.ops [⟨some 4, none, .mv (.lit (.d (.int .i64 0)))⟩])
 (.seq (.seq (.ops [⟨some 8, none, .mv (.tmp 0)⟩,
  ⟨some 9, none, .call false 61 [(.tmp 8)]⟩])
 (.cond (.tmp 9) (.seq (.ops [⟨some 4, none, .mv (.lit (.d (.int .i64 0)))⟩])
 .ret) .skip))
 (.seq (.seq (.draw [⟨some 11, none, .mv (.tmp 0)⟩,
  ⟨some 12, none, .nilchk (.tmp 11)⟩,
  ⟨some 13, none, .faddr 1 (.tmp 12)⟩,
  ⟨some 14, none, .load false 1 (.tmp 13)⟩,
  ⟨some 15, none, .mv (.tmp 1)⟩,
  ⟨some 16, none, .conv .toStr (.tmp 15)⟩,
  ⟨some 17, none, .mget .str true (.d (.int .i64 0)) (.tmp 14) (.tmp 16)⟩,
  ⟨some 10, none, .mv (.tmp 17)⟩,
  ⟨some 18, none, .extract (.tmp 10) 0⟩,
  ⟨some 19, none, .extract (.tmp 10) 1⟩,
  ⟨some 5, none, .mv (.tmp 18)⟩,
  ⟨some 6, none, .mv (.tmp 19)⟩] [[], [0], [1], [2], [], [4], [3, 5], [6], [7], [7], [8, 0, 1, 2, 3, 4, 5, 6, 7, 8], [9, 10, 0, 1, 2, 3, 4, 5, 6, 7, 8, 9, 10]] [(0, []), (1, []), (2, []), (3, []), (4, []), (5, []), (6, []), (7, []), (8, []), (9, []), (10, []), (11, [])] [0, 1, 3, 7, 0, 16, 63, 127, 255, 255, 511, 2047])
 (.seq (.ops [⟨some 20, none, .mv (.tmp 6)⟩])
 (.cond (.tmp 20) (.seq (.ops [⟨some 21, none, .mv (.tmp 5)⟩,
  ⟨some 4, none, .mv (.tmp 21)⟩])
 .ret) .skip)))
 (.seq (.seq (.ops [⟨some 22, none, .mv (.tmp 0)⟩,
  ⟨some 23, none, .nilchk (.tmp 22)⟩,
  ⟨some 24, none, .faddr 0 (.tmp 23)⟩,
  ⟨some 25, none, .load false 1 (.tmp 24)⟩,
  ⟨some 26, none, .len .sl (.tmp 25)⟩,
  ⟨some 27, none, .bin .geq .plain (.tmp 26) (.lit (.d (.int .i64 1048576)))⟩])
 (.cond (.tmp 27) (.seq (.ops [⟨some 4, none, .mv (.lit (.d (.int .i64 0)))⟩])
 .ret) .skip))
 (.seq (.draw [⟨some 28, none, .mv (.tmp 0)⟩,
  ⟨some 29, none, .mv (.tmp 0)⟩,
  ⟨some 30, none, .nilchk (.tmp 29)⟩,
  ⟨some 31, none, .faddr 0 (.tmp 30)⟩,
  ⟨some 32, none, .load false 1 (.tmp 31)⟩,
  ⟨some 33, none, .mv (.tmp 1)⟩,
  ⟨some 34, none, .call false 80 [(.tmp 33)]⟩,
  ⟨some 35, none, .mkslice false 1 1 [(.exact [])] [(0, 1, (.tmp 34))]⟩,
  ⟨some 36, none, .append false 1 24 [(.exact [])] (.tmp 32) (.tmp 35)⟩,
  ⟨some 37, none, .nilchk (.tmp 28)⟩,
  ⟨some 38, none, .faddr 0 (.tmp 37)⟩,
  ⟨none, none, .store 1 (.tmp 38) (.tmp 36)⟩] [[], [], [1], [2], [3], [], [5], [6], [4, 7, 6], [0, 0, 1, 2, 3, 4, 5, 6, 7, 8], [9, 0, 1, 2, 3, 4, 5, 6, 7, 8], [10, 8, 8, 0, 1, 2, 3, 4, 5, 6, 7, 8]] [(0, []), (1, []), (2, []), (3, []), (4, []), (5, []), (6, [31]), (7, []), (8, []), (9, []), (10, []), (11, [])] [0, 0, 2, 6, 14, 0, 32, 96, 254, 511, 1023, 2047])
 (.seq (.ops [⟨some 39, none, .mv (.tmp 0)⟩,
  ⟨some 40, none, .nilchk (.tmp 39)⟩,
  ⟨some 41, none, .faddr 0 (.tmp 40)⟩,
  ⟨some 42, none, .load false 1 (.tmp 41)⟩,
  ⟨some 43, none, .len .sl (.tmp 42)⟩,
  ⟨some 7, none, .mv (.tmp 43)⟩])
 (.seq (.draw [⟨some 44, none, .mv (.tmp 0)⟩,
  ⟨some 45, none, .nilchk (.tmp 44)⟩,
  ⟨some 46, none, .faddr 1 (.tmp 45)⟩,
  ⟨some 47, none, .load false 1 (.tmp 46)⟩,
  ⟨some 48, none, .mv (.tmp 1)⟩,
  ⟨some 49, none, .conv .toStr (.tmp 48)⟩,
  ⟨some 50, none, .mv (.tmp 7)⟩,
  ⟨none, none, .mset .str (.tmp 47) (.tmp 49) (.tmp 50)⟩] [[], [0], [1], [2], [], [4], [], [3, 5, 6, 0, 1, 2, 3, 4, 5, 6]] [(0, []), (1, []), (2, []), (3, []), (4, []), (5, []), (6, []), (7, [])] [0, 1, 3, 7, 0, 16, 0, 127])
 (.seq (.ops [⟨some 51, none, .mv (.tmp 7)⟩,
  ⟨some 4, none, .mv (.tmp 51)⟩])
 .ret))))))))⟩
theorem zhM : isF Tryz.prog zbK zcV := ⟨Tryz.f45, _, Tryz.func45, by decide +kernel, rfl, by kernel_rfl, by kernel_rfl, by decide, by kernel_rfl, rfl, by kernel_rfl⟩
/-- (*bulla/ideal.Ledger).Sign -/
def zcl : AF := ⟨3, 51, [(.cell 6 true 2), (.tmp 7)],
 (.seq (.ops [⟨some 6, none, .alloc [(.d (.int .i64 0)), (.d (.int .i64 0))]⟩,
  ⟨some 7, none, .mv (.lit (.d (.int .i64 0)))⟩])
 (.seq (.block 0 (.seq (.ops [⟨some 10, none, .mv (.tmp 0)⟩,
  ⟨some 11, none, .call false 62 [(.tmp 10)]⟩,
  ⟨some 9, none, .mv (.tmp 11)⟩])
 (.cond (.tmp 9) (.seq (.ops [⟨some 12, none, .build [(.d (.int .i64 0)), (.d (.int .i64 0))] []⟩,
  ⟨none, none, .store 2 (.tmp 6) (.tmp 12)⟩,
  ⟨some 7, none, .mv (.lit (.d (.int .i64 2)))⟩])
 .ret) (.seq (.ops [⟨some 14, none, .mv (.tmp 1)⟩,
  ⟨some 15, none, .bin .lss .plain (.tmp 14) (.lit (.d (.int .i64 0)))⟩,
  ⟨some 16, none, .mv (.tmp 15)⟩,
  ⟨some 17, some (16, false), .mv (.tmp 1)⟩,
  ⟨some 18, some (16, false), .bin .geq .plain (.tmp 17) (.lit (.d (.int .i64 21)))⟩,
  ⟨some 19, none, .pick (.tmp 16) (.lit (.d (.bool true))) (.tmp 18)⟩,
  ⟨some 13, none, .mv (.tmp 19)⟩])
 (.cond (.tmp 13) (.seq (.ops [⟨some 20, none, .build [(.d (.int .i64 0)), (.d (.int .i64 0))] []⟩,
  ⟨none, none, .store 2 (.tmp 6) (.tmp 20)⟩,
  ⟨some 7, none, .mv (.lit (.d (.int .i64 20)))⟩])
 .ret) (.seq (.ops [⟨some 22, none, .mv (.tmp 2)⟩,
  ⟨some 23, none, .bin .lss .plain (.tmp 22) (.lit (.d (.int .i64 1)))⟩,
  ⟨some 21, none, .mv (.tmp 23)⟩])
 (.cond (.tmp 21) (.seq (.ops [⟨some 24, none, .build [(.d (.int .i64 0)), (.d (.int .i64 0))] []⟩,
  ⟨none, none, .store 2 (.tmp 6) (.tmp 24)⟩,
  ⟨some 7, none, .mv (.lit (.d (.int .i64 1)))⟩])
 .ret) .skip)))))))
 (.seq (.ops [⟨some 25, none, .mv (.tmp 1)⟩,
  ⟨some 26, none, .mv (.tmp 2)⟩,
  ⟨some 27, none, .build [(.d (.int .i64 0)), (.d (.int .i64 0))] [(0, 1, (.tmp 25)), (1, 1, (.tmp 26))]⟩,
  ⟨some 8, none, .alloc [(.d (.int .i64 0)), (.d (.int .i64 0))]⟩,
  ⟨none, none, .store 2 (.tmp 8) (.tmp 27)⟩])
 (.seq (.seq (.draw [⟨some 28, none, .mv (.tmp 0)⟩,
  ⟨some 29, none, .nilchk (.tmp 28)⟩,
  ⟨some 30, none, .faddr 1 (.tmp 29)⟩,
  ⟨some 31, none, .load false 1 (.tmp 30)⟩,
  ⟨some 32, none, .load true 2 (.tmp 8)⟩,
  ⟨some 33, none, .mget (.ints 2) false (.d (.bool false)) (.tmp 31) (.tmp 32)⟩,
  ⟨some 34, none, .un .not (.tmp 33)⟩] [[], [0], [1], [2], [], [3, 4], [5]] [(0, []), (1, []), (2, []), (3, []), (4, []), (5, []), (6, [])] [0, 1, 3, 7, 0, 31, 63])
 (.cond (.tmp 34) (.seq (.draw [⟨some 35, none, .mv (.tmp 0)⟩,
  ⟨some 36, none, .nilchk (.tmp 35)⟩,
  ⟨some 37, none, .faddr 1 (.tmp 36)⟩,
  ⟨some 38, none, .load false 1 (.tmp 37)⟩,
  ⟨some 39, none, .load true 2 (.tmp 8)⟩,
  ⟨none, none, .mset (.ints 2) (.tmp 38) (.tmp 39) (.lit (.d (.bool true)))⟩] [[], [0], [1], [2], [], [3, 4, 0, 1, 2, 3, 4]] [(0, []), (1, []), (2, []), (3, []), (4, []), (5, [])] [0, 1, 3, 7, 0, 31])
 (.draw [⟨some 40, none, .mv (.tmp 0)⟩,
  ⟨some 41, none, .mv (.tmp 0)⟩,
  ⟨some 42, none, .nilchk (.tmp 41)⟩,
  ⟨some 43, none, .faddr 0 (.tmp 42)⟩,
  ⟨some 44, none, .load false 1 (.tmp 43)⟩,
  ⟨some 45, none, .load true 2 (.tmp 8)⟩,
  ⟨some 46, none, .mkslice false 2 1 [(.d (.int .i64 0)), (.d (.int .i64 0))] [(0, 2, (.tmp 45))]⟩,
  ⟨some 47, none, .append false 2 16 [(.d (.int .i64 0)), (.d (.int .i64 0))] (.tmp 44) (.tmp 46)⟩,
  ⟨some 48, none, .nilchk (.tmp 40)⟩,
  ⟨some 49, none, .faddr 0 (.tmp 48)⟩,
  ⟨none, none, .store 1 (.tmp 49) (.tmp 47)⟩] [[], [], [1], [2], [3], [], [5], [4, 6], [0, 0, 1, 2, 3, 4, 5, 6, 7], [8, 0, 1, 2, 3, 4, 5, 6, 7], [9, 7, 7, 0, 1, 2, 3, 4, 5, 6, 7]] [(0, []), (1, []), (2, []), (3, []), (4, []), (5, []), (6, []), (7, []), (8, []), (9, []), (10, [])] [0, 0, 2, 6, 14, 0, 32, 126, 255, 511, 1023])) .skip))
 (.seq (.ops [⟨some 50, none, .load true 2 (.tmp 8)⟩,
  ⟨none, none, .store 2 (.tmp 6) (.tmp 50)⟩,
  ⟨some 7, none, .mv (.lit (.d (.int .i64 0)))⟩])
 .ret)))))⟩
theorem zgo : isF Tryz.prog zbq zcl := ⟨Tryz.f46, _, Tryz.func46, by decide +kernel, rfl, by kernel_rfl, by kernel_rfl, by decide, by kernel_rfl, rfl, by kernel_rfl⟩
/-- (*bulla/ideal.Table).Clone -/
def zcj : AF := ⟨1, 16, [(.tmp 2)],
 (.seq (.ops [⟨some 2, none, .mv (.lit (.d .nilp))⟩])
 (.seq (.seq (.ops [⟨some 5, none, .mv (.tmp 0)⟩,
  ⟨some 6, none, .call false 61 [(.tmp 5)]⟩])
 (.cond (.tmp 6) (.seq (.ops [⟨some 2, none, .mv (.lit (.d .nilp))⟩])
 .ret) .skip))
 (.seq (.ops [⟨some 8, none, .mv (.tmp 0)⟩,
  ⟨some 9, none, .nilchk (.tmp 8)⟩,
  ⟨some 10, none, .faddr 0 (.tmp 9)⟩,
  ⟨some 11, none, .load false 1 (.tmp 10)⟩,
  ⟨some 12, none, .call false 81 [(.tmp 11)]⟩,
  ⟨some 7, none, .mv (.tmp 12)⟩,
  ⟨some 13, none, .extract (.tmp 7) 0⟩,
  ⟨some 14, none, .extract (.tmp 7) 1⟩,
  ⟨some 3, none, .mv (.tmp 13)⟩,
  ⟨some 4, none, .mv (.tmp 14)⟩])
 (.seq (.ops [⟨some 15, none, .mv (.tmp 3)⟩,
  ⟨some 2, none, .mv (.tmp 15)⟩])
 .ret))))⟩
theorem zgm : isF Tryz.prog zbp zcj := ⟨Tryz.f47, _, Tryz.func47, by decide +kernel, rfl, by kernel_rfl, by kernel_rfl, by decide, by kernel_rfl, rfl, by kernel_rfl⟩
/-- (*bulla/ideal.Ledger).Clone -/
def zbS : AF := ⟨1, 26, [(.tmp 2)],
 (.seq (.ops [⟨some 2, none, .mv (.lit (.d .nilp))⟩])
 (.seq (.seq (.ops [⟨some 6, none, .mv (.tmp 0)⟩,
  ⟨some 7, none, .call false 62 [(.tmp 6)]⟩])
 (.cond (.tmp 7) (.seq (.ops [⟨some 2, none, .mv (.lit (.d .nilp))⟩])
 .ret) .skip))
 (.seq (.ops [⟨some 8, none, .call false 28 []⟩,
  ⟨some 3, none, .mv (.tmp 8)⟩])
 (.seq (.seq (.ops [⟨some 9, none, .mv (.tmp 0)⟩,
  ⟨some 10, none, .nilchk (.tmp 9)⟩,
  ⟨some 11, none, .faddr 0 (.tmp 10)⟩,
  ⟨some 12, none, .load false 1 (.tmp 11)⟩,
  ⟨some 13, none, .len .sl (.tmp 12)⟩,
  ⟨some 14, none, .mv (.lit (.d (.int .i64 0)))⟩])
 (.block 0 (.loop [14] [5, 15, 16, 17, 18, 19, 20, 21, 22, 23, 24] (.seq (.ops [⟨some 15, none, .bin .lss .plain (.tmp 14) (.tmp 13)⟩])
 (.seq (.cond (.tmp 15) .skip (.exit 0))
 (.seq (.block 1 (.seq (.ops [⟨some 16, none, .iaddr none 2 (.tmp 12) (.tmp 14)⟩,
  ⟨some 17, none, .load true 2 (.tmp 16)⟩,
  ⟨some 5, none, .alloc [(.d (.int .i64 0)), (.d (.int .i64 0))]⟩,
  ⟨none, none, .store 2 (.tmp 5) (.tmp 17)⟩])
 (.ops [⟨some 18, none, .mv (.tmp 3)⟩,
  ⟨some 19, none, .faddr 0 (.tmp 5)⟩,
  ⟨some 20, none, .load false 1 (.tmp 19)⟩,
  ⟨some 21, none, .faddr 1 (.tmp 5)⟩,
  ⟨some 22, none, .load false 1 (.tmp 21)⟩,
  ⟨some 23, none, .call false 46 [(.tmp 18), (.tmp 20), (.tmp 22)]⟩])))
 (.ops [⟨some 24, none, .bin .add .plain (.tmp 14) (.lit (.d (.int .i64 1)))⟩,
  ⟨some 14, none, .mv (.tmp 24)⟩])))))))
 (.seq (.ops [⟨some 25, none, .mv (.tmp 3)⟩,
  ⟨some 2, none, .mv (.tmp 25)⟩])
 .ret)))))⟩
theorem zfW : isF Tryz.prog zbe zbS := ⟨Tryz.f48, _, Tryz.func48, by decide +kernel, rfl, by kernel_rfl, by kernel_rfl, by decide, by kernel_rfl, rfl, by kernel_rfl⟩
/-- bulla/quorum.Check -/
def zeB : AF := ⟨1, 9, [(.tmp 2)],
 (.seq (.ops [⟨some 2, none, .mv (.lit (.d (.int .i64 0)))⟩])
 (.seq (.seq (.ops [⟨some 3, none, .mv (.tmp 0)⟩,
  ⟨some 4, none, .bin .lss .plain (.tmp 3) (.lit (.d (.int .i64 1)))⟩,
  ⟨some 5, none, .mv (.tmp 4)⟩,
  ⟨some 6, some (5, false), .mv (.tmp 0)⟩,
  ⟨some 7, some (5, false), .bin .gtr .plain (.tmp 6) (.lit (.d (.int .i64 4)))⟩,
  ⟨some 8, none, .pick (.tmp 5) (.lit (.d (.bool true))) (.tmp 7)⟩])
 (.cond (.tmp 8) (.seq (.ops [⟨some 2, none, .mv (.lit (.d (.int .i64 120)))⟩])
 .ret) .skip))
 (.seq (.ops [⟨some 2, none, .mv (.lit (.d (.int .i64 0)))⟩])
 .ret)))⟩
theorem zkT : isF Tryz.prog zbT zeB := ⟨Tryz.f49, _, Tryz.func49, by decide +kernel, rfl, by kernel_rfl, by kernel_rfl, by decide, by kernel_rfl, rfl, by kernel_rfl⟩
/-- bulla/request.ValidBatch -/
def zbP : AF := ⟨3, 16, [(.tmp 6)],
 (.seq (.ops [⟨some 3, none, .boxi (.tmp 0)⟩,
  ⟨some 4, none, .boxi (.tmp 1)⟩,
  ⟨some 6, none, .mv (.lit (.d (.bool false)))⟩])
 (.seq (.ops [⟨some 7, none, .mv (.tmp 2)⟩,
  ⟨some 8, none, .call false 82 [(.tmp 7)]⟩,
  ⟨some 9, none, .bin .eql .plain (.tmp 8) (.lit (.d (.int .i64 0)))⟩,
  ⟨some 10, none, .mv (.tmp 9)⟩,
  ⟨some 11, some (10, true), .mv (.tmp 2)⟩,
  ⟨some 12, some (10, true), .mkfn (.func 84) [] [(.tmp 3), (.tmp 4)]⟩,
  ⟨some 13, some (10, true), .call false 83 [(.tmp 11), (.tmp 12)]⟩,
  ⟨some 14, some (10, true), .un .not (.tmp 13)⟩,
  ⟨some 15, none, .pick (.tmp 10) (.tmp 14) (.lit (.d (.bool false)))⟩,
  ⟨some 6, none, .mv (.tmp 15)⟩])
 .ret))⟩
theorem zfT : isF Tryz.prog zbO zbP := ⟨Tryz.f50, _, Tryz.func50, by decide +kernel, rfl, by kernel_rfl, by kernel_rfl, by decide, by kernel_rfl, rfl, by kernel_rfl⟩
end Go.Proofs.YtcappjcojggehaaGreat

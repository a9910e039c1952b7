/- Resolved forms, each with the theorem that it is its function's. Printed by program. -/
import Derived.Test.YtcappjcojggehaaNm
import Derived.KernelRfl
set_option linter.all false
set_option maxRecDepth 100000
set_option linter.unusedVariables false
namespace Go.Proofs.Ytcappjcojggehaa
open Go.AW
/-- bulla/bullalaw15.PreparedLatest -/
def zbO : AF := ⟨1, 89, [(.tmp 2)],
 (.seq (.ops [⟨some 2, none, .mv (.lit (.d (.bool false)))⟩])
 (.seq (.seq (.ops [⟨some 11, none, .call false 4 []⟩,
  ⟨some 12, none, .un .not (.tmp 11)⟩])
 (.cond (.tmp 12) (.seq (.ops [⟨some 2, none, .mv (.lit (.d (.bool false)))⟩])
 .ret) .skip))
 (.seq (.ops [⟨some 13, none, .call false 5 []⟩,
  ⟨some 3, none, .mv (.tmp 13)⟩])
 (.seq (.ops [⟨some 14, none, .mkmap⟩,
  ⟨some 4, none, .mv (.tmp 14)⟩])
 (.seq (.seq (.ops [⟨some 15, none, .mv (.tmp 0)⟩,
  ⟨some 16, none, .len .sl (.tmp 15)⟩,
  ⟨some 17, none, .mv (.lit (.d (.int .i64 0)))⟩])
 (.block 0 (.loop [17] [2, 6, 7, 8, 9, 10, 18, 19, 20, 21, 22, 23, 24, 25, 26, 27, 28, 29, 30, 31, 32, 33, 34, 35, 36, 37, 38, 39, 40, 41, 42, 43, 44, 45, 46, 47, 48, 49, 50, 51, 52, 53, 54, 55, 56, 57, 58, 59, 60, 61, 62, 63, 64, 65, 66, 67, 68, 69, 70, 71, 72, 73, 74, 75, 76, 77, 78, 79, 80, 81, 82, 83] (.seq (.ops [⟨some 18, none, .bin .lss .plain (.tmp 17) (.tmp 16)⟩])
 (.seq (.cond (.tmp 18) .skip (.exit 0))
 (.seq (.block 1 (.seq (.ops [⟨some 19, none, .iaddr none 7 (.tmp 15) (.tmp 17)⟩,
  ⟨some 20, none, .load true 7 (.tmp 19)⟩,
  ⟨some 6, none, .alloc [(.d (.int .i64 0)), (.d (.int .i64 0)), (.d (.int .i64 0)), (.d (.int .i64 0)), (.d (.int .i64 0)), (.exact []), (.exact [])]⟩,
  ⟨none, none, .store 7 (.tmp 6) (.tmp 20)⟩])
 (.seq (.ops [⟨some 21, none, .mv (.tmp 3)⟩,
  ⟨some 22, none, .load true 7 (.tmp 6)⟩,
  ⟨some 23, none, .call false 6 [(.tmp 21), (.tmp 22)]⟩])
 (.seq (.seq (.ops [⟨some 25, none, .mv (.tmp 4)⟩,
  ⟨some 26, none, .faddr 1 (.tmp 6)⟩,
  ⟨some 27, none, .load false 1 (.tmp 26)⟩,
  ⟨some 28, none, .mget .int true (.d (.int .i64 0)) (.tmp 25) (.tmp 27)⟩,
  ⟨some 24, none, .mv (.tmp 28)⟩,
  ⟨some 29, none, .extract (.tmp 24) 0⟩,
  ⟨some 30, none, .extract (.tmp 24) 1⟩,
  ⟨some 7, none, .mv (.tmp 29)⟩,
  ⟨some 8, none, .mv (.tmp 30)⟩])
 (.seq (.ops [⟨some 31, none, .faddr 1 (.tmp 6)⟩,
  ⟨some 32, none, .load false 1 (.tmp 31)⟩,
  ⟨some 33, none, .bin .geq .plain (.tmp 32) (.lit (.d (.int .i64 1)))⟩,
  ⟨some 34, none, .mv (.tmp 33)⟩,
  ⟨some 35, some (34, true), .faddr 1 (.tmp 6)⟩,
  ⟨some 36, some (34, true), .load false 1 (.tmp 35)⟩,
  ⟨some 37, some (34, true), .bin .leq .plain (.tmp 36) (.lit (.d (.int .i64 9007199254740992)))⟩,
  ⟨some 38, none, .pick (.tmp 34) (.tmp 37) (.lit (.d (.bool false)))⟩,
  ⟨some 39, none, .mv (.tmp 38)⟩,
  ⟨some 40, some (39, true), .mv (.tmp 8)⟩,
  ⟨some 41, some (39, true), .un .not (.tmp 40)⟩,
  ⟨some 42, some (39, true), .mv (.tmp 41)⟩,
  ⟨some 43, some (42, false), .faddr 0 (.tmp 6)⟩,
  ⟨some 44, some (42, false), .load false 1 (.tmp 43)⟩,
  ⟨some 45, some (42, false), .mv (.tmp 7)⟩,
  ⟨some 46, some (42, false), .bin .gtr .plain (.tmp 44) (.tmp 45)⟩,
  ⟨some 47, some (39, true), .pick (.tmp 42) (.lit (.d (.bool true))) (.tmp 46)⟩,
  ⟨some 48, none, .pick (.tmp 39) (.tmp 47) (.lit (.d (.bool false)))⟩])
 (.cond (.tmp 48) (.ops [⟨some 49, none, .mv (.tmp 4)⟩,
  ⟨some 50, none, .faddr 1 (.tmp 6)⟩,
  ⟨some 51, none, .load false 1 (.tmp 50)⟩,
  ⟨some 52, none, .faddr 0 (.tmp 6)⟩,
  ⟨some 53, none, .load false 1 (.tmp 52)⟩,
  ⟨none, none, .mset .int (.tmp 49) (.tmp 51) (.tmp 53)⟩]) .skip)))
 (.seq (.ops [⟨some 55, none, .mv (.tmp 3)⟩,
  ⟨some 56, none, .faddr 1 (.tmp 6)⟩,
  ⟨some 57, none, .load false 1 (.tmp 56)⟩,
  ⟨some 58, none, .call false 7 [(.tmp 55), (.tmp 57)]⟩,
  ⟨some 54, none, .mv (.tmp 58)⟩,
  ⟨some 59, none, .extract (.tmp 54) 0⟩,
  ⟨some 60, none, .extract (.tmp 54) 1⟩,
  ⟨some 9, none, .alloc [(.d (.int .i64 0)), (.d (.int .i64 0)), (.d (.int .i64 0)), (.d (.int .i64 0)), (.d (.int .i64 0)), (.exact []), (.exact [])]⟩,
  ⟨none, none, .store 7 (.tmp 9) (.tmp 59)⟩,
  ⟨some 10, none, .mv (.tmp 60)⟩])
 (.seq (.ops [⟨some 61, none, .mv (.tmp 10)⟩,
  ⟨some 62, none, .faddr 1 (.tmp 6)⟩,
  ⟨some 63, none, .load false 1 (.tmp 62)⟩,
  ⟨some 64, none, .bin .geq .plain (.tmp 63) (.lit (.d (.int .i64 1)))⟩,
  ⟨some 65, none, .mv (.tmp 64)⟩,
  ⟨some 66, some (65, true), .faddr 1 (.tmp 6)⟩,
  ⟨some 67, some (65, true), .load false 1 (.tmp 66)⟩,
  ⟨some 68, some (65, true), .bin .leq .plain (.tmp 67) (.lit (.d (.int .i64 9007199254740992)))⟩,
  ⟨some 69, none, .pick (.tmp 65) (.tmp 68) (.lit (.d (.bool false)))⟩,
  ⟨some 70, none, .bin .neq .bool (.tmp 61) (.tmp 69)⟩,
  ⟨some 71, none, .mv (.tmp 70)⟩,
  ⟨some 72, some (71, false), .mv (.tmp 10)⟩,
  ⟨some 73, some (71, false), .mv (.tmp 72)⟩,
  ⟨some 74, some (73, true), .faddr 0 (.tmp 9)⟩,
  ⟨some 75, some (73, true), .load false 1 (.tmp 74)⟩,
  ⟨some 76, some (73, true), .mv (.tmp 4)⟩,
  ⟨some 77, some (73, true), .faddr 1 (.tmp 6)⟩,
  ⟨some 78, some (73, true), .load false 1 (.tmp 77)⟩,
  ⟨some 79, some (73, true), .mget .int false (.d (.int .i64 0)) (.tmp 76) (.tmp 78)⟩,
  ⟨some 80, some (73, true), .bin .neq .plain (.tmp 75) (.tmp 79)⟩,
  ⟨some 81, some (71, false), .pick (.tmp 73) (.tmp 80) (.lit (.d (.bool false)))⟩,
  ⟨some 82, none, .pick (.tmp 71) (.lit (.d (.bool true))) (.tmp 81)⟩])
 (.cond (.tmp 82) (.seq (.ops [⟨some 2, none, .mv (.lit (.d (.bool false)))⟩])
 .ret) .skip)))))))
 (.ops [⟨some 83, none, .bin .add .plain (.tmp 17) (.lit (.d (.int .i64 1)))⟩,
  ⟨some 17, none, .mv (.tmp 83)⟩])))))))
 (.seq (.ops [⟨some 84, none, .mv (.tmp 3)⟩,
  ⟨some 85, none, .call false 8 [(.tmp 84)]⟩,
  ⟨some 86, none, .mv (.tmp 4)⟩,
  ⟨some 87, none, .len .map (.tmp 86)⟩,
  ⟨some 88, none, .bin .eql .plain (.tmp 85) (.tmp 87)⟩,
  ⟨some 2, none, .mv (.tmp 88)⟩])
 .ret))))))⟩
theorem zfw : isF Try.prog zbK zbO := ⟨Try.f3, _, Try.func3, by decide +kernel, rfl, by kernel_rfl, by kernel_rfl, by decide, by kernel_rfl, rfl, by kernel_rfl⟩
/-- bulla/bullalaw15.live -/
def zjl : AF := ⟨0, 65, [(.tmp 0)],
 (.seq (.ops [⟨some 0, none, .mv (.lit (.d (.bool false)))⟩])
 (.seq (.ops [⟨some 6, none, .build [(.d (.int .i64 0)), (.d (.int .i64 0)), (.d (.int .i64 0)), (.d (.int .i64 0)), (.d (.int .u8 0))] [(0, 1, (.lit (.d (.int .i64 0)))), (1, 1, (.lit (.d (.int .i64 2)))), (3, 1, (.lit (.d (.int .i64 1))))]⟩,
  ⟨some 7, none, .build [(.d (.int .i64 0)), (.d (.int .i64 0)), (.d (.int .i64 0)), (.d (.int .i64 0)), (.d (.int .u8 0))] [(0, 1, (.lit (.d (.int .i64 1)))), (1, 1, (.lit (.d (.int .i64 3)))), (3, 1, (.lit (.d (.int .i64 1))))]⟩,
  ⟨some 8, none, .build [(.d (.int .i64 0)), (.d (.int .i64 0)), (.d (.int .i64 0)), (.d (.int .i64 0)), (.d (.int .u8 0))] [(0, 1, (.lit (.d (.int .i64 3)))), (1, 1, (.lit (.d (.int .i64 3)))), (3, 1, (.lit (.d (.int .i64 1))))]⟩,
  ⟨some 9, none, .mkslice false 5 3 [(.d (.int .i64 0)), (.d (.int .i64 0)), (.d (.int .i64 0)), (.d (.int .i64 0)), (.d (.int .u8 0))] [(0, 5, (.tmp 6)), (5, 5, (.tmp 7)), (10, 5, (.tmp 8))]⟩,
  ⟨some 10, none, .build [(.d (.int .i64 0)), (.exact []), (.exact []), (.exact []), (.d (.int .i64 0)), (.d (.int .i64 0))] [(0, 1, (.lit (.d (.int .i64 1)))), (2, 1, (.tmp 9))]⟩,
  ⟨some 1, none, .alloc [(.d (.int .i64 0)), (.exact []), (.exact []), (.exact []), (.d (.int .i64 0)), (.d (.int .i64 0))]⟩,
  ⟨none, none, .store 6 (.tmp 1) (.tmp 10)⟩])
 (.seq (.ops [⟨some 11, none, .load true 6 (.tmp 1)⟩,
  ⟨some 12, none, .call false 9 [(.tmp 11)]⟩,
  ⟨some 2, none, .mv (.tmp 12)⟩])
 (.seq (.ops [⟨some 13, none, .mv (.tmp 2)⟩,
  ⟨some 14, none, .mkslice false 1 2 [(.d (.int .u8 0))] [(0, 1, (.lit (.d (.int .u8 2)))), (1, 1, (.lit (.d (.int .u8 3))))]⟩,
  ⟨some 15, none, .build [(.d (.int .i64 0)), (.d (.int .i64 0)), (.d (.int .u8 0)), (.d (.int .i64 0)), (.d (.int .u8 0)), (.exact [])] [(1, 1, (.lit (.d (.int .i64 1)))), (4, 1, (.lit (.d (.int .u8 1)))), (5, 1, (.tmp 14))]⟩,
  ⟨some 16, none, .call false 10 [(.tmp 13), (.tmp 15)]⟩,
  ⟨some 3, none, .alloc [(.d (.int .i64 0)), (.d (.int .i64 0)), (.d (.int .i64 0)), (.d (.int .i64 0)), (.d (.int .i64 0)), (.exact []), (.exact [])]⟩,
  ⟨none, none, .store 7 (.tmp 3) (.tmp 16)⟩])
 (.seq (.ops [⟨some 17, none, .mv (.tmp 2)⟩,
  ⟨some 18, none, .mkslice false 1 1 [(.d (.int .u8 0))] [(0, 1, (.lit (.d (.int .u8 2))))]⟩,
  ⟨some 19, none, .build [(.d (.int .i64 0)), (.d (.int .i64 0)), (.d (.int .u8 0)), (.d (.int .i64 0)), (.d (.int .u8 0)), (.exact [])] [(1, 1, (.lit (.d (.int .i64 1)))), (4, 1, (.lit (.d (.int .u8 1)))), (5, 1, (.tmp 18))]⟩,
  ⟨some 20, none, .call false 10 [(.tmp 17), (.tmp 19)]⟩,
  ⟨some 4, none, .alloc [(.d (.int .i64 0)), (.d (.int .i64 0)), (.d (.int .i64 0)), (.d (.int .i64 0)), (.d (.int .i64 0)), (.exact []), (.exact [])]⟩,
  ⟨none, none, .store 7 (.tmp 4) (.tmp 20)⟩])
 (.seq (.ops [⟨some 21, none, .call false 5 []⟩,
  ⟨some 5, none, .mv (.tmp 21)⟩])
 (.seq (.draw [⟨some 22, none, .mv (.tmp 2)⟩,
  ⟨some 23, none, .nilchk (.tmp 22)⟩,
  ⟨some 24, none, .faddr 0 (.tmp 23)⟩,
  ⟨some 25, none, .load false 1 (.tmp 24)⟩,
  ⟨some 26, none, .mv (.tmp 2)⟩,
  ⟨some 27, none, .nilchk (.tmp 26)⟩,
  ⟨some 28, none, .faddr 1 (.tmp 27)⟩,
  ⟨some 29, none, .load false 1 (.tmp 28)⟩,
  ⟨some 30, none, .load true 7 (.tmp 3)⟩,
  ⟨some 31, none, .call false 11 [(.tmp 25), (.tmp 29), (.lit (.d (.int .i64 1))), (.tmp 30)]⟩,
  ⟨some 32, none, .mv (.tmp 31)⟩,
  ⟨some 33, some (32, true), .mv (.tmp 2)⟩,
  ⟨some 34, some (32, true), .nilchk (.tmp 33)⟩,
  ⟨some 35, some (32, true), .faddr 0 (.tmp 34)⟩,
  ⟨some 36, some (32, true), .load false 1 (.tmp 35)⟩,
  ⟨some 37, some (32, true), .mv (.tmp 2)⟩,
  ⟨some 38, some (32, true), .nilchk (.tmp 37)⟩,
  ⟨some 39, some (32, true), .faddr 1 (.tmp 38)⟩,
  ⟨some 40, some (32, true), .load false 1 (.tmp 39)⟩,
  ⟨some 41, some (32, true), .load true 7 (.tmp 4)⟩,
  ⟨some 42, some (32, true), .call false 11 [(.tmp 36), (.tmp 40), (.lit (.d (.int .i64 1))), (.tmp 41)]⟩,
  ⟨some 43, some (32, true), .un .not (.tmp 42)⟩,
  ⟨some 44, none, .pick (.tmp 32) (.tmp 43) (.lit (.d (.bool false)))⟩,
  ⟨some 45, none, .mv (.tmp 44)⟩,
  ⟨some 46, some (45, true), .mv (.tmp 5)⟩,
  ⟨some 47, some (45, true), .bin .neq .ptr (.tmp 46) (.lit (.d .nilp))⟩,
  ⟨some 48, none, .pick (.tmp 45) (.tmp 47) (.lit (.d (.bool false)))⟩,
  ⟨some 49, none, .mv (.tmp 48)⟩,
  ⟨some 50, some (49, true), .mv (.tmp 5)⟩,
  ⟨some 51, some (49, true), .load true 7 (.tmp 3)⟩,
  ⟨some 52, some (49, true), .call false 6 [(.tmp 50), (.tmp 51)]⟩,
  ⟨some 53, none, .pick (.tmp 49) (.tmp 52) (.lit (.d (.bool false)))⟩,
  ⟨some 54, none, .mv (.tmp 53)⟩,
  ⟨some 55, some (54, true), .mv (.tmp 5)⟩,
  ⟨some 56, some (54, true), .load true 7 (.tmp 3)⟩,
  ⟨some 57, some (54, true), .call false 6 [(.tmp 55), (.tmp 56)]⟩,
  ⟨some 58, some (54, true), .un .not (.tmp 57)⟩,
  ⟨some 59, none, .pick (.tmp 54) (.tmp 58) (.lit (.d (.bool false)))⟩,
  ⟨some 60, none, .mv (.tmp 59)⟩,
  ⟨some 61, some (60, true), .mv (.tmp 5)⟩,
  ⟨some 62, some (60, true), .call false 8 [(.tmp 61)]⟩,
  ⟨some 63, some (60, true), .bin .eql .plain (.tmp 62) (.lit (.d (.int .i64 1)))⟩,
  ⟨some 64, none, .pick (.tmp 60) (.tmp 63) (.lit (.d (.bool false)))⟩,
  ⟨some 0, none, .mv (.tmp 64)⟩] [[], [0], [1], [2], [], [4], [5], [6], [], [3, 7, 8], [9, 9], [10], [11, 10], [12, 10], [13, 10], [10], [15, 10], [16, 10], [17, 10], [10], [14, 18, 19, 10, 10], [20, 10], [10, 21], [22, 20], [23], [24, 23], [23, 25], [26, 23], [27], [27], [28, 29, 27, 27], [27, 30], [31, 30], [32], [32], [33, 34, 32, 32], [35, 32], [32, 36], [37, 35], [38], [39, 38, 38], [40, 38], [38, 41], [42, 40, 0, 1, 2, 3, 4, 5, 6, 7, 8, 9, 10, 11, 12, 13, 14, 15, 16, 17, 18, 19, 20, 21, 22, 23, 24, 25, 26, 27, 28, 29, 30, 31, 32, 33, 34, 35, 36, 37, 38, 39, 40, 41, 42]] [(0, []), (1, []), (2, []), (3, []), (4, []), (5, []), (6, []), (7, []), (8, []), (9, []), (10, []), (11, []), (12, []), (13, []), (14, []), (15, []), (16, []), (17, []), (18, []), (19, []), (20, []), (21, []), (22, []), (23, []), (24, []), (25, []), (26, []), (27, []), (28, []), (29, []), (30, []), (31, []), (32, []), (33, []), (34, []), (35, []), (36, []), (37, []), (38, []), (39, []), (40, []), (41, []), (42, []), (43, [])] [0, 1, 3, 7, 0, 16, 48, 112, 0, 511, 1023, 2047, 4095, 8191, 16383, 2047, 34815, 100351, 231423, 2047, 1048575, 2097151, 4194303, 8388607, 16777215, 33554431, 67108863, 134217727, 268435455, 268435455, 1073741823, 2147483647, 4294967295, 8589934591, 8589934591, 34359738367, 68719476735, 137438953471, 274877906943, 549755813887, 1099511627775, 2199023255551, 4398046511103, 8796093022207])
 .ret)))))))⟩
theorem isA_l15_live : isF Try.prog ziC zjl := ⟨Try.f4, _, Try.func4, by decide +kernel, rfl, by kernel_rfl, by kernel_rfl, by decide, by kernel_rfl, rfl, by kernel_rfl⟩
/-- bulla/prepared.New -/
def zem : AF := ⟨0, 4, [(.tmp 0)],
 (.seq (.ops [⟨some 0, none, .mv (.lit (.d .nilp))⟩])
 (.seq (.ops [⟨some 1, none, .mkmap⟩,
  ⟨some 2, none, .build [(.d .nilmap)] [(0, 1, (.tmp 1))]⟩,
  ⟨some 3, none, .boxi (.tmp 2)⟩,
  ⟨some 0, none, .mv (.tmp 3)⟩])
 .ret))⟩
theorem zkc : isF Try.prog zcP zem := ⟨Try.f5, _, Try.func5, by decide +kernel, rfl, by kernel_rfl, by kernel_rfl, by decide, by kernel_rfl, rfl, by kernel_rfl⟩
/-- (*bulla/prepared.Held).Put -/
def zch : AF := ⟨2, 45, [(.tmp 4)],
 (.seq (.ops [⟨some 3, none, .boxi (.tmp 1)⟩,
  ⟨some 4, none, .mv (.lit (.d (.bool false)))⟩])
 (.seq (.seq (.ops [⟨some 7, none, .mv (.tmp 0)⟩,
  ⟨some 8, none, .call false 12 [(.tmp 7)]⟩,
  ⟨some 9, none, .mv (.tmp 8)⟩,
  ⟨some 10, some (9, false), .faddr 1 (.tmp 3)⟩,
  ⟨some 11, some (9, false), .load false 1 (.tmp 10)⟩,
  ⟨some 12, some (9, false), .bin .lss .plain (.tmp 11) (.lit (.d (.int .i64 1)))⟩,
  ⟨some 13, none, .pick (.tmp 9) (.lit (.d (.bool true))) (.tmp 12)⟩,
  ⟨some 14, none, .mv (.tmp 13)⟩,
  ⟨some 15, some (14, false), .faddr 1 (.tmp 3)⟩,
  ⟨some 16, some (14, false), .load false 1 (.tmp 15)⟩,
  ⟨some 17, some (14, false), .bin .gtr .plain (.tmp 16) (.lit (.d (.int .i64 9007199254740992)))⟩,
  ⟨some 18, none, .pick (.tmp 14) (.lit (.d (.bool true))) (.tmp 17)⟩])
 (.cond (.tmp 18) (.seq (.ops [⟨some 4, none, .mv (.lit (.d (.bool false)))⟩])
 .ret) .skip))
 (.seq (.seq (.draw [⟨some 20, none, .mv (.tmp 0)⟩,
  ⟨some 21, none, .nilchk (.tmp 20)⟩,
  ⟨some 22, none, .faddr 0 (.tmp 21)⟩,
  ⟨some 23, none, .load false 1 (.tmp 22)⟩,
  ⟨some 24, none, .faddr 1 (.tmp 3)⟩,
  ⟨some 25, none, .load false 1 (.tmp 24)⟩,
  ⟨some 26, none, .mget .int true (.agg [(.d (.int .i64 0)), (.d (.int .i64 0)), (.d (.int .i64 0)), (.d (.int .i64 0)), (.d (.int .i64 0)), (.exact []), (.exact [])]) (.tmp 23) (.tmp 25)⟩,
  ⟨some 19, none, .mv (.tmp 26)⟩,
  ⟨some 27, none, .extract (.tmp 19) 0⟩,
  ⟨some 28, none, .extract (.tmp 19) 1⟩,
  ⟨some 5, none, .alloc [(.d (.int .i64 0)), (.d (.int .i64 0)), (.d (.int .i64 0)), (.d (.int .i64 0)), (.d (.int .i64 0)), (.exact []), (.exact [])]⟩,
  ⟨none, none, .store 7 (.tmp 5) (.tmp 27)⟩,
  ⟨some 6, none, .mv (.tmp 28)⟩] [[], [0], [1], [2], [], [4], [3, 5], [6], [7], [7], [], [10, 8, 0, 1, 2, 3, 4, 5, 6, 7, 8, 10], [9, 11, 0, 1, 2, 3, 4, 5, 6, 7, 8, 9, 10, 11]] [(0, []), (1, []), (2, []), (3, []), (4, []), (5, []), (6, []), (7, []), (8, []), (9, []), (10, [22, 24, 23]), (11, []), (12, [])] [0, 1, 3, 7, 0, 16, 63, 127, 255, 255, 0, 1535, 4095])
 (.seq (.ops [⟨some 29, none, .mv (.tmp 6)⟩,
  ⟨some 30, none, .mv (.tmp 29)⟩,
  ⟨some 31, some (30, true), .faddr 0 (.tmp 5)⟩,
  ⟨some 32, some (30, true), .load false 1 (.tmp 31)⟩,
  ⟨some 33, some (30, true), .faddr 0 (.tmp 3)⟩,
  ⟨some 34, some (30, true), .load false 1 (.tmp 33)⟩,
  ⟨some 35, some (30, true), .bin .geq .plain (.tmp 32) (.tmp 34)⟩,
  ⟨some 36, none, .pick (.tmp 30) (.tmp 35) (.lit (.d (.bool false)))⟩])
 (.cond (.tmp 36) (.seq (.ops [⟨some 4, none, .mv (.lit (.d (.bool false)))⟩])
 .ret) .skip)))
 (.seq (.draw [⟨some 37, none, .mv (.tmp 0)⟩,
  ⟨some 38, none, .nilchk (.tmp 37)⟩,
  ⟨some 39, none, .faddr 0 (.tmp 38)⟩,
  ⟨some 40, none, .load false 1 (.tmp 39)⟩,
  ⟨some 41, none, .faddr 1 (.tmp 3)⟩,
  ⟨some 42, none, .load false 1 (.tmp 41)⟩,
  ⟨some 43, none, .load true 7 (.tmp 3)⟩,
  ⟨some 44, none, .call false 13 [(.tmp 43)]⟩,
  ⟨none, none, .mset .int (.tmp 40) (.tmp 42) (.tmp 44)⟩] [[], [0], [1], [2], [], [4], [], [6], [3, 5, 7, 7, 0, 1, 2, 3, 4, 5, 6, 7]] [(0, []), (1, []), (2, []), (3, []), (4, []), (5, []), (6, []), (7, [39, 41]), (8, [])] [0, 1, 3, 7, 0, 16, 0, 64, 255])
 (.seq (.ops [⟨some 4, none, .mv (.lit (.d (.bool true)))⟩])
 .ret)))))⟩
theorem zfM : isF Try.prog zaO zch := ⟨Try.f6, _, Try.func6, by decide +kernel, rfl, by kernel_rfl, by kernel_rfl, by decide, by kernel_rfl, rfl, by kernel_rfl⟩
/-- (*bulla/prepared.Held).Get -/
def zcj : AF := ⟨2, 23, [(.cell 4 true 7), (.tmp 5)],
 (.seq (.ops [⟨some 4, none, .alloc [(.d (.int .i64 0)), (.d (.int .i64 0)), (.d (.int .i64 0)), (.d (.int .i64 0)), (.d (.int .i64 0)), (.exact []), (.exact [])]⟩,
  ⟨some 5, none, .mv (.lit (.d (.bool false)))⟩])
 (.seq (.seq (.ops [⟨some 8, none, .mv (.tmp 0)⟩,
  ⟨some 9, none, .call false 12 [(.tmp 8)]⟩])
 (.cond (.tmp 9) (.seq (.ops [⟨some 10, none, .build [(.d (.int .i64 0)), (.d (.int .i64 0)), (.d (.int .i64 0)), (.d (.int .i64 0)), (.d (.int .i64 0)), (.exact []), (.exact [])] []⟩,
  ⟨none, none, .store 7 (.tmp 4) (.tmp 10)⟩,
  ⟨some 5, none, .mv (.lit (.d (.bool false)))⟩])
 .ret) .skip))
 (.seq (.ops [⟨some 12, none, .mv (.tmp 0)⟩,
  ⟨some 13, none, .nilchk (.tmp 12)⟩,
  ⟨some 14, none, .faddr 0 (.tmp 13)⟩,
  ⟨some 15, none, .load false 1 (.tmp 14)⟩,
  ⟨some 16, none, .mv (.tmp 1)⟩,
  ⟨some 17, none, .mget .int true (.agg [(.d (.int .i64 0)), (.d (.int .i64 0)), (.d (.int .i64 0)), (.d (.int .i64 0)), (.d (.int .i64 0)), (.exact []), (.exact [])]) (.tmp 15) (.tmp 16)⟩,
  ⟨some 11, none, .mv (.tmp 17)⟩,
  ⟨some 18, none, .extract (.tmp 11) 0⟩,
  ⟨some 19, none, .extract (.tmp 11) 1⟩,
  ⟨some 6, none, .alloc [(.d (.int .i64 0)), (.d (.int .i64 0)), (.d (.int .i64 0)), (.d (.int .i64 0)), (.d (.int .i64 0)), (.exact []), (.exact [])]⟩,
  ⟨none, none, .store 7 (.tmp 6) (.tmp 18)⟩,
  ⟨some 7, none, .mv (.tmp 19)⟩])
 (.seq (.ops [⟨some 20, none, .load true 7 (.tmp 6)⟩,
  ⟨some 21, none, .call false 13 [(.tmp 20)]⟩,
  ⟨some 22, none, .mv (.tmp 7)⟩,
  ⟨none, none, .store 7 (.tmp 4) (.tmp 21)⟩,
  ⟨some 5, none, .mv (.tmp 22)⟩])
 .ret))))⟩
theorem zfO : isF Try.prog zcd zcj := ⟨Try.f7, _, Try.func7, by decide +kernel, rfl, by kernel_rfl, by kernel_rfl, by decide, by kernel_rfl, rfl, by kernel_rfl⟩
/-- (*bulla/prepared.Held).Len -/
def zci : AF := ⟨1, 10, [(.tmp 2)],
 (.seq (.ops [⟨some 2, none, .mv (.lit (.d (.int .i64 0)))⟩])
 (.seq (.seq (.ops [⟨some 3, none, .mv (.tmp 0)⟩,
  ⟨some 4, none, .call false 12 [(.tmp 3)]⟩])
 (.cond (.tmp 4) (.seq (.ops [⟨some 2, none, .mv (.lit (.d (.int .i64 0)))⟩])
 .ret) .skip))
 (.seq (.ops [⟨some 5, none, .mv (.tmp 0)⟩,
  ⟨some 6, none, .nilchk (.tmp 5)⟩,
  ⟨some 7, none, .faddr 0 (.tmp 6)⟩,
  ⟨some 8, none, .load false 1 (.tmp 7)⟩,
  ⟨some 9, none, .len .map (.tmp 8)⟩,
  ⟨some 2, none, .mv (.tmp 9)⟩])
 .ret)))⟩
theorem zfN : isF Try.prog zbo zci := ⟨Try.f8, _, Try.func8, by decide +kernel, rfl, by kernel_rfl, by kernel_rfl, by decide, by kernel_rfl, rfl, by kernel_rfl⟩
/-- (bulla/bullalaw15.Case).begun -/
def zdf : AF := ⟨1, 196, [(.tmp 2)],
 (.seq (.ops [⟨some 1, none, .boxi (.tmp 0)⟩,
  ⟨some 2, none, .mv (.lit (.d .nilp))⟩])
 (.seq (.ops [⟨some 22, none, .call false 14 []⟩,
  ⟨some 23, none, .call false 15 []⟩,
  ⟨some 24, none, .build [(.exact [])] []⟩,
  ⟨some 25, none, .boxi (.tmp 24)⟩,
  ⟨some 26, none, .build [(.exact [])] []⟩,
  ⟨some 27, none, .boxi (.tmp 26)⟩,
  ⟨some 28, none, .build [(.d .nilp), (.d .nilp), (.d .nilp), (.d .nilp), (.exact []), (.exact []), (.exact [])] [(0, 1, (.tmp 22)), (1, 1, (.tmp 23)), (2, 1, (.tmp 25)), (3, 1, (.tmp 27))]⟩,
  ⟨some 29, none, .boxi (.tmp 28)⟩,
  ⟨some 3, none, .mv (.tmp 29)⟩])
 (.seq (.seq (.ops [⟨some 30, none, .mkslice false 1 1 [(.exact [])] [(0, 1, (.lit (.exact [])))]⟩,
  ⟨some 31, none, .faddr 1 (.tmp 1)⟩,
  ⟨some 32, none, .load false 1 (.tmp 31)⟩,
  ⟨some 33, none, .append false 1 24 [(.exact [])] (.tmp 30) (.tmp 32)⟩,
  ⟨some 34, none, .len .sl (.tmp 33)⟩,
  ⟨some 35, none, .mv (.lit (.d (.int .i64 0)))⟩])
 (.block 0 (.loop [35] [5, 6, 8, 9, 10, 11, 12, 36, 37, 38, 39, 40, 41, 42, 43, 44, 45, 46, 47, 48, 49, 50, 51, 52, 53, 54, 55, 56, 57, 58, 59, 60, 61, 62, 63, 64, 65, 66, 67, 68, 69, 70, 71, 72, 73, 74, 75, 76, 77, 78, 79, 80, 81, 82, 83, 84, 85, 86, 87, 88, 89, 90, 91, 92, 93, 94] (.seq (.ops [⟨some 36, none, .bin .lss .plain (.tmp 35) (.tmp 34)⟩])
 (.seq (.cond (.tmp 36) .skip (.exit 0))
 (.seq (.block 1 (.seq (.ops [⟨some 37, none, .iaddr none 1 (.tmp 33) (.tmp 35)⟩,
  ⟨some 38, none, .load false 1 (.tmp 37)⟩,
  ⟨some 5, none, .mv (.tmp 38)⟩])
 (.seq (.ops [⟨some 6, none, .mv (.lit (.exact []))⟩])
 (.seq (.seq (.ops [⟨some 39, none, .mv (.tmp 5)⟩,
  ⟨some 40, none, .len .sl (.tmp 39)⟩,
  ⟨some 41, none, .mv (.lit (.d (.int .i64 0)))⟩])
 (.block 2 (.loop [6, 41] [8, 9, 10, 42, 43, 44, 45, 46, 47, 48, 49, 50, 51, 52, 53, 54, 55, 56, 57, 58, 59, 60, 61, 62, 63, 64] (.seq (.ops [⟨some 42, none, .bin .lss .plain (.tmp 41) (.tmp 40)⟩])
 (.seq (.cond (.tmp 42) .skip (.exit 2))
 (.seq (.block 3 (.seq (.ops [⟨some 43, none, .iaddr none 7 (.tmp 39) (.tmp 41)⟩,
  ⟨some 44, none, .load true 7 (.tmp 43)⟩,
  ⟨some 8, none, .alloc [(.d (.int .i64 0)), (.d (.int .i64 0)), (.d (.int .i64 0)), (.d (.str [])), (.d (.str [])), (.d (.int .i64 0)), (.exact [])]⟩,
  ⟨none, none, .store 7 (.tmp 8) (.tmp 44)⟩])
 (.seq (.draw [⟨some 46, none, .mv (.tmp 3)⟩,
  ⟨some 47, none, .nilchk (.tmp 46)⟩,
  ⟨some 48, none, .faddr 2 (.tmp 47)⟩,
  ⟨some 49, none, .load false 1 (.tmp 48)⟩,
  ⟨some 50, none, .mv (.tmp 3)⟩,
  ⟨some 51, none, .nilchk (.tmp 50)⟩,
  ⟨some 52, none, .faddr 3 (.tmp 51)⟩,
  ⟨some 53, none, .load false 1 (.tmp 52)⟩,
  ⟨some 54, none, .load true 7 (.tmp 8)⟩,
  ⟨some 55, none, .call false 16 [(.tmp 49), (.tmp 53), (.tmp 54)]⟩,
  ⟨some 45, none, .mv (.tmp 55)⟩,
  ⟨some 56, none, .extract (.tmp 45) 0⟩,
  ⟨some 57, none, .extract (.tmp 45) 1⟩,
  ⟨some 9, none, .alloc [(.d (.int .i64 0)), (.d (.int .i64 0)), (.d (.int .i64 0)), (.d (.str [])), (.d (.str [])), (.d (.int .i64 0)), (.exact []), (.d (.int .i64 0)), (.d (.int .i64 0))]⟩,
  ⟨none, none, .store 9 (.tmp 9) (.tmp 56)⟩,
  ⟨some 10, none, .mv (.tmp 57)⟩] [[], [0], [1], [2], [], [4], [5], [6], [], [3, 7, 8], [9], [10], [10], [], [13, 11, 9, 0, 1, 2, 3, 4, 5, 6, 7, 8, 9, 10, 11, 13], [12, 14, 0, 1, 2, 3, 4, 5, 6, 7, 8, 9, 10, 11, 12, 13, 14]] [(0, []), (1, []), (2, []), (3, []), (4, []), (5, []), (6, []), (7, []), (8, []), (9, []), (10, []), (11, []), (12, []), (13, []), (14, []), (15, []), (13, [48, 52, 8]), (9, []), (10, []), (11, []), (12, []), (14, []), (15, [])] [9, 13, 9, 0, 1, 3, 7, 0, 16, 48, 112, 0, 511, 1023, 2047, 2047, 1023, 12287, 32767, 0, 1, 3, 7, 0, 16, 48, 112, 0, 8703, 9215, 10239, 10239, 0, 12287, 32767])
 (.seq (.ops [⟨some 58, none, .mv (.tmp 10)⟩,
  ⟨some 59, none, .bin .eql .plain (.tmp 58) (.lit (.d (.int .i64 0)))⟩])
 (.cond (.tmp 59) (.ops [⟨some 60, none, .mv (.tmp 6)⟩,
  ⟨some 61, none, .load true 9 (.tmp 9)⟩,
  ⟨some 62, none, .mkslice false 9 1 [(.d (.int .i64 0)), (.d (.int .i64 0)), (.d (.int .i64 0)), (.d (.str [])), (.d (.str [])), (.d (.int .i64 0)), (.exact []), (.d (.int .i64 0)), (.d (.int .i64 0))] [(0, 9, (.tmp 61))]⟩,
  ⟨some 63, none, .append false 9 104 [(.d (.int .i64 0)), (.d (.int .i64 0)), (.d (.int .i64 0)), (.d (.str [])), (.d (.str [])), (.d (.int .i64 0)), (.exact []), (.d (.int .i64 0)), (.d (.int .i64 0))] (.tmp 60) (.tmp 62)⟩,
  ⟨some 6, none, .mv (.tmp 63)⟩]) .skip)))))
 (.ops [⟨some 64, none, .bin .add .plain (.tmp 41) (.lit (.d (.int .i64 1)))⟩,
  ⟨some 41, none, .mv (.tmp 64)⟩])))))))
 (.seq (.ops [⟨some 66, none, .mv (.tmp 3)⟩,
  ⟨some 67, none, .nilchk (.tmp 66)⟩,
  ⟨some 68, none, .faddr 2 (.tmp 67)⟩,
  ⟨some 69, none, .load false 1 (.tmp 68)⟩,
  ⟨some 70, none, .mv (.tmp 6)⟩,
  ⟨some 71, none, .call false 17 [(.tmp 69), (.tmp 70)]⟩,
  ⟨some 65, none, .mv (.tmp 71)⟩,
  ⟨some 72, none, .extract (.tmp 65) 0⟩,
  ⟨some 73, none, .extract (.tmp 65) 1⟩,
  ⟨some 11, none, .mv (.tmp 72)⟩,
  ⟨some 12, none, .mv (.tmp 73)⟩])
 (.draw [⟨some 74, none, .mv (.tmp 3)⟩,
  ⟨some 75, none, .mv (.tmp 3)⟩,
  ⟨some 76, none, .mv (.tmp 3)⟩,
  ⟨some 77, none, .nilchk (.tmp 76)⟩,
  ⟨some 78, none, .faddr 4 (.tmp 77)⟩,
  ⟨some 79, none, .load false 1 (.tmp 78)⟩,
  ⟨some 80, none, .mv (.tmp 6)⟩,
  ⟨some 81, none, .mkslice false 1 1 [(.exact [])] [(0, 1, (.tmp 80))]⟩,
  ⟨some 82, none, .append false 1 24 [(.exact [])] (.tmp 79) (.tmp 81)⟩,
  ⟨some 83, none, .mv (.tmp 3)⟩,
  ⟨some 84, none, .nilchk (.tmp 83)⟩,
  ⟨some 85, none, .faddr 5 (.tmp 84)⟩,
  ⟨some 86, none, .load false 1 (.tmp 85)⟩,
  ⟨some 87, none, .mv (.tmp 11)⟩,
  ⟨some 88, none, .mkslice false 1 1 [(.d (.int .i64 0))] [(0, 1, (.tmp 87))]⟩,
  ⟨some 89, none, .append false 1 8 [(.d (.int .i64 0))] (.tmp 86) (.tmp 88)⟩,
  ⟨some 90, none, .nilchk (.tmp 74)⟩,
  ⟨some 91, none, .faddr 4 (.tmp 90)⟩,
  ⟨none, none, .store 1 (.tmp 91) (.tmp 82)⟩,
  ⟨some 92, none, .nilchk (.tmp 75)⟩,
  ⟨some 93, none, .faddr 5 (.tmp 92)⟩,
  ⟨none, none, .store 1 (.tmp 93) (.tmp 89)⟩] [[], [], [], [2], [3], [4], [], [6], [5, 7], [], [9], [10], [11], [], [13], [12, 14, 8], [0, 0, 2, 3, 4, 5, 6, 7, 8, 12, 15], [16, 0, 2, 3, 4, 5, 6, 7, 8, 12, 15], [17, 8, 15, 0, 2, 3, 4, 5, 6, 7, 8, 12, 15], [1, 0, 1, 2, 3, 4, 5, 6, 7, 8, 9, 10, 11, 12, 13, 14, 15, 16, 17, 18], [19, 0, 1, 2, 3, 4, 5, 6, 7, 8, 9, 10, 11, 12, 13, 14, 15, 16, 17, 18], [20, 15, 18, 0, 1, 2, 3, 4, 5, 6, 7, 8, 9, 10, 11, 12, 13, 14, 15, 16, 17, 18]] [(0, []), (1, []), (2, []), (3, []), (4, []), (5, []), (6, []), (7, []), (9, []), (10, []), (11, []), (12, []), (13, []), (14, []), (8, [85]), (15, []), (16, []), (17, []), (18, []), (19, []), (20, []), (21, [])] [0, 0, 0, 4, 12, 28, 0, 64, 252, 0, 512, 1536, 3584, 0, 8192, 32764, 65533, 131069, 262141, 524287, 1048575, 2097151]))))))
 (.ops [⟨some 94, none, .bin .add .plain (.tmp 35) (.lit (.d (.int .i64 1)))⟩,
  ⟨some 35, none, .mv (.tmp 94)⟩])))))))
 (.seq (.ops [⟨some 95, none, .mv (.tmp 3)⟩,
  ⟨some 96, none, .build [(.d (.int .i64 0)), (.d (.int .i64 0))] []⟩,
  ⟨some 97, none, .mkslice false 2 1 [(.d (.int .i64 0)), (.d (.int .i64 0))] [(0, 2, (.tmp 96))]⟩,
  ⟨some 98, none, .nilchk (.tmp 95)⟩,
  ⟨some 99, none, .faddr 6 (.tmp 98)⟩,
  ⟨none, none, .store 1 (.tmp 99) (.tmp 97)⟩])
 (.seq (.seq (.ops [⟨some 100, none, .faddr 2 (.tmp 1)⟩,
  ⟨some 101, none, .load false 1 (.tmp 100)⟩,
  ⟨some 102, none, .len .sl (.tmp 101)⟩,
  ⟨some 103, none, .mv (.lit (.d (.int .i64 0)))⟩])
 (.block 4 (.loop [103] [14, 15, 16, 17, 104, 105, 106, 107, 108, 109, 110, 111, 112, 113, 114, 115, 116, 117, 118, 119, 120, 121, 122, 123, 124, 125, 126, 127, 128, 129, 130, 131, 132, 133, 134, 135, 136, 137, 138, 139, 140, 141, 142, 143, 144, 145, 146, 147, 148, 149, 150, 151, 152, 153] (.seq (.ops [⟨some 104, none, .bin .lss .plain (.tmp 103) (.tmp 102)⟩])
 (.seq (.cond (.tmp 104) .skip (.exit 4))
 (.seq (.block 5 (.seq (.ops [⟨some 105, none, .iaddr none 5 (.tmp 101) (.tmp 103)⟩,
  ⟨some 106, none, .load true 5 (.tmp 105)⟩,
  ⟨some 14, none, .alloc [(.d (.int .i64 0)), (.d (.int .i64 0)), (.d (.int .i64 0)), (.d (.int .i64 0)), (.d (.int .u8 0))]⟩,
  ⟨none, none, .store 5 (.tmp 14) (.tmp 106)⟩])
 (.seq (.draw [⟨some 107, none, .mv (.tmp 3)⟩,
  ⟨some 108, none, .nilchk (.tmp 107)⟩,
  ⟨some 109, none, .faddr 5 (.tmp 108)⟩,
  ⟨some 110, none, .load false 1 (.tmp 109)⟩,
  ⟨some 111, none, .faddr 4 (.tmp 14)⟩,
  ⟨some 112, none, .load false 1 (.tmp 111)⟩,
  ⟨some 113, none, .conv (.int .i64) (.tmp 112)⟩,
  ⟨some 114, none, .mv (.tmp 3)⟩,
  ⟨some 115, none, .nilchk (.tmp 114)⟩,
  ⟨some 116, none, .faddr 5 (.tmp 115)⟩,
  ⟨some 117, none, .load false 1 (.tmp 116)⟩,
  ⟨some 118, none, .len .sl (.tmp 117)⟩,
  ⟨some 119, none, .bin .rem .plain (.tmp 113) (.tmp 118)⟩,
  ⟨some 120, none, .iaddr none 1 (.tmp 110) (.tmp 119)⟩,
  ⟨some 121, none, .load false 1 (.tmp 120)⟩,
  ⟨some 15, none, .mv (.tmp 121)⟩] [[], [0], [1], [2], [], [4], [5], [], [7], [8], [9], [10], [6, 11], [3, 12], [13], [14, 0, 1, 2, 3, 4, 5, 6, 7, 8, 9, 10, 11, 12, 13, 14]] [(0, []), (1, []), (2, []), (3, []), (4, []), (5, []), (6, []), (7, []), (8, []), (9, []), (10, []), (11, []), (12, []), (13, []), (14, []), (15, [])] [0, 1, 3, 7, 0, 16, 48, 0, 128, 384, 896, 1920, 4080, 8191, 16383, 32767])
 (.seq (.draw [⟨some 123, none, .mv (.tmp 3)⟩,
  ⟨some 124, none, .nilchk (.tmp 123)⟩,
  ⟨some 125, none, .faddr 2 (.tmp 124)⟩,
  ⟨some 126, none, .load false 1 (.tmp 125)⟩,
  ⟨some 127, none, .mv (.tmp 3)⟩,
  ⟨some 128, none, .nilchk (.tmp 127)⟩,
  ⟨some 129, none, .faddr 3 (.tmp 128)⟩,
  ⟨some 130, none, .load false 1 (.tmp 129)⟩,
  ⟨some 131, none, .faddr 0 (.tmp 14)⟩,
  ⟨some 132, none, .load false 1 (.tmp 131)⟩,
  ⟨some 133, none, .faddr 1 (.tmp 14)⟩,
  ⟨some 134, none, .load false 1 (.tmp 133)⟩,
  ⟨some 135, none, .faddr 2 (.tmp 14)⟩,
  ⟨some 136, none, .load false 1 (.tmp 135)⟩,
  ⟨some 137, none, .faddr 3 (.tmp 14)⟩,
  ⟨some 138, none, .load false 1 (.tmp 137)⟩,
  ⟨some 139, none, .mv (.tmp 15)⟩,
  ⟨some 140, none, .call false 18 [(.tmp 126), (.tmp 130), (.tmp 132), (.tmp 134), (.tmp 136), (.tmp 138), (.tmp 139)]⟩,
  ⟨some 122, none, .mv (.tmp 140)⟩,
  ⟨some 141, none, .extract (.tmp 122) 0⟩,
  ⟨some 142, none, .extract (.tmp 122) 1⟩,
  ⟨some 16, none, .alloc [(.d (.int .i64 0)), (.d (.int .i64 0))]⟩,
  ⟨none, none, .store 2 (.tmp 16) (.tmp 141)⟩,
  ⟨some 17, none, .mv (.tmp 142)⟩] [[], [0], [1], [2], [], [4], [5], [6], [], [8], [], [10], [], [12], [], [14], [], [3, 7, 9, 11, 13, 15, 16], [17], [18], [18], [], [21, 19, 17, 0, 1, 2, 3, 4, 5, 6, 7, 8, 9, 10, 11, 12, 13, 14, 15, 16, 17, 18, 19, 21], [20, 22, 0, 1, 2, 3, 4, 5, 6, 7, 8, 9, 10, 11, 12, 13, 14, 15, 16, 17, 18, 19, 20, 21, 22]] [(0, []), (1, []), (2, []), (3, []), (4, []), (5, []), (6, []), (7, []), (8, []), (9, []), (10, []), (11, []), (12, []), (13, []), (14, []), (15, []), (16, []), (17, []), (18, []), (19, []), (20, []), (21, []), (22, []), (23, []), (21, [125, 129, 131, 133, 135, 137]), (17, []), (18, []), (19, []), (20, []), (22, []), (23, [])] [17, 21, 17, 0, 1, 3, 7, 0, 16, 48, 112, 0, 256, 0, 1024, 0, 4096, 0, 16384, 0, 131071, 262143, 524287, 524287, 262143, 3145727, 8388607, 0, 1, 3, 7, 0, 16, 48, 112, 0, 256, 0, 1024, 0, 4096, 0, 16384, 0, 2228223, 2359295, 2621439, 2621439, 0, 3145727, 8388607])
 (.draw [⟨some 143, none, .mv (.tmp 3)⟩,
  ⟨some 144, none, .mv (.tmp 3)⟩,
  ⟨some 145, none, .nilchk (.tmp 144)⟩,
  ⟨some 146, none, .faddr 6 (.tmp 145)⟩,
  ⟨some 147, none, .load false 1 (.tmp 146)⟩,
  ⟨some 148, none, .load true 2 (.tmp 16)⟩,
  ⟨some 149, none, .mkslice false 2 1 [(.d (.int .i64 0)), (.d (.int .i64 0))] [(0, 2, (.tmp 148))]⟩,
  ⟨some 150, none, .append false 2 16 [(.d (.int .i64 0)), (.d (.int .i64 0))] (.tmp 147) (.tmp 149)⟩,
  ⟨some 151, none, .nilchk (.tmp 143)⟩,
  ⟨some 152, none, .faddr 6 (.tmp 151)⟩,
  ⟨none, none, .store 1 (.tmp 152) (.tmp 150)⟩] [[], [], [1], [2], [3], [], [5], [4, 6], [0, 0, 1, 2, 3, 4, 5, 6, 7], [8, 0, 1, 2, 3, 4, 5, 6, 7], [9, 7, 7, 0, 1, 2, 3, 4, 5, 6, 7]] [(0, []), (1, []), (2, []), (3, []), (4, []), (5, []), (6, []), (7, []), (8, []), (9, []), (10, [])] [0, 0, 2, 6, 14, 0, 32, 126, 255, 511, 1023])))))
 (.ops [⟨some 153, none, .bin .add .plain (.tmp 103) (.lit (.d (.int .i64 1)))⟩,
  ⟨some 103, none, .mv (.tmp 153)⟩])))))))
 (.seq (.seq (.ops [⟨some 154, none, .mv (.tmp 3)⟩,
  ⟨some 155, none, .nilchk (.tmp 154)⟩,
  ⟨some 156, none, .faddr 2 (.tmp 155)⟩,
  ⟨some 157, none, .load false 1 (.tmp 156)⟩,
  ⟨some 158, none, .nilchk (.tmp 157)⟩,
  ⟨some 159, none, .faddr 0 (.tmp 158)⟩,
  ⟨some 160, none, .load false 1 (.tmp 159)⟩,
  ⟨some 161, none, .len .sl (.tmp 160)⟩,
  ⟨some 162, none, .mv (.lit (.d (.int .i64 0)))⟩])
 (.block 6 (.loop [162] [19, 163, 164, 165, 166, 167, 168, 169, 170, 171, 172] (.seq (.ops [⟨some 163, none, .bin .lss .plain (.tmp 162) (.tmp 161)⟩])
 (.seq (.cond (.tmp 163) .skip (.exit 6))
 (.seq (.block 7 (.seq (.ops [⟨some 164, none, .iaddr none 1 (.tmp 160) (.tmp 162)⟩,
  ⟨some 165, none, .load false 1 (.tmp 164)⟩,
  ⟨some 19, none, .mv (.tmp 165)⟩])
 (.ops [⟨some 166, none, .mv (.tmp 3)⟩,
  ⟨some 167, none, .nilchk (.tmp 166)⟩,
  ⟨some 168, none, .faddr 0 (.tmp 167)⟩,
  ⟨some 169, none, .load false 1 (.tmp 168)⟩,
  ⟨some 170, none, .mv (.tmp 19)⟩,
  ⟨some 171, none, .call false 19 [(.tmp 169), (.tmp 170)]⟩])))
 (.ops [⟨some 172, none, .bin .add .plain (.tmp 162) (.lit (.d (.int .i64 1)))⟩,
  ⟨some 162, none, .mv (.tmp 172)⟩])))))))
 (.seq (.seq (.ops [⟨some 173, none, .mv (.tmp 3)⟩,
  ⟨some 174, none, .nilchk (.tmp 173)⟩,
  ⟨some 175, none, .faddr 3 (.tmp 174)⟩,
  ⟨some 176, none, .load false 1 (.tmp 175)⟩,
  ⟨some 177, none, .nilchk (.tmp 176)⟩,
  ⟨some 178, none, .faddr 0 (.tmp 177)⟩,
  ⟨some 179, none, .load false 1 (.tmp 178)⟩,
  ⟨some 180, none, .len .sl (.tmp 179)⟩,
  ⟨some 181, none, .mv (.lit (.d (.int .i64 0)))⟩])
 (.block 8 (.loop [181] [21, 182, 183, 184, 185, 186, 187, 188, 189, 190, 191, 192, 193, 194] (.seq (.ops [⟨some 182, none, .bin .lss .plain (.tmp 181) (.tmp 180)⟩])
 (.seq (.cond (.tmp 182) .skip (.exit 8))
 (.seq (.block 9 (.seq (.ops [⟨some 183, none, .iaddr none 2 (.tmp 179) (.tmp 181)⟩,
  ⟨some 184, none, .load true 2 (.tmp 183)⟩,
  ⟨some 21, none, .alloc [(.d (.int .i64 0)), (.d (.int .i64 0))]⟩,
  ⟨none, none, .store 2 (.tmp 21) (.tmp 184)⟩])
 (.draw [⟨some 185, none, .mv (.tmp 3)⟩,
  ⟨some 186, none, .nilchk (.tmp 185)⟩,
  ⟨some 187, none, .faddr 1 (.tmp 186)⟩,
  ⟨some 188, none, .load false 1 (.tmp 187)⟩,
  ⟨some 189, none, .faddr 0 (.tmp 21)⟩,
  ⟨some 190, none, .load false 1 (.tmp 189)⟩,
  ⟨some 191, none, .faddr 1 (.tmp 21)⟩,
  ⟨some 192, none, .load false 1 (.tmp 191)⟩,
  ⟨some 193, none, .call false 20 [(.tmp 188), (.tmp 190), (.tmp 192)]⟩] [[], [0], [1], [2], [], [4], [], [6], [3, 5, 7]] [(0, []), (1, []), (2, []), (3, []), (4, []), (5, []), (6, []), (7, []), (8, [])] [0, 1, 3, 7, 0, 16, 0, 64, 255])))
 (.ops [⟨some 194, none, .bin .add .plain (.tmp 181) (.lit (.d (.int .i64 1)))⟩,
  ⟨some 181, none, .mv (.tmp 194)⟩])))))))
 (.seq (.ops [⟨some 195, none, .mv (.tmp 3)⟩,
  ⟨some 2, none, .mv (.tmp 195)⟩])
 .ret))))))))⟩
theorem zhT : isF Try.prog zcV zdf := ⟨Try.f9, _, Try.func9, by decide +kernel, rfl, by kernel_rfl, by kernel_rfl, by decide, by kernel_rfl, rfl, by kernel_rfl⟩
/-- (*bulla/bullalaw15.stage).made -/
def zde : AF := ⟨2, 86, [(.cell 4 true 7)],
 (.seq (.ops [⟨some 3, none, .boxi (.tmp 1)⟩,
  ⟨some 4, none, .alloc [(.d (.int .i64 0)), (.d (.int .i64 0)), (.d (.int .i64 0)), (.d (.int .i64 0)), (.d (.int .i64 0)), (.exact []), (.exact [])]⟩])
 (.seq (.draw [⟨some 9, none, .faddr 2 (.tmp 3)⟩,
  ⟨some 10, none, .load false 1 (.tmp 9)⟩,
  ⟨some 11, none, .conv (.int .i64) (.tmp 10)⟩,
  ⟨some 12, none, .mv (.tmp 0)⟩,
  ⟨some 13, none, .nilchk (.tmp 12)⟩,
  ⟨some 14, none, .faddr 4 (.tmp 13)⟩,
  ⟨some 15, none, .load false 1 (.tmp 14)⟩,
  ⟨some 16, none, .len .sl (.tmp 15)⟩,
  ⟨some 17, none, .bin .rem .plain (.tmp 11) (.tmp 16)⟩,
  ⟨some 5, none, .mv (.tmp 17)⟩] [[], [0], [1], [], [3], [4], [5], [6], [2, 7], [8, 0, 1, 2, 3, 4, 5, 6, 7, 8]] [(0, []), (1, []), (2, []), (3, []), (4, []), (5, []), (6, []), (7, []), (8, []), (9, [])] [0, 1, 3, 0, 8, 24, 56, 120, 255, 511])
 (.seq (.draw [⟨some 18, none, .faddr 0 (.tmp 3)⟩,
  ⟨some 19, none, .load false 1 (.tmp 18)⟩,
  ⟨some 20, none, .faddr 1 (.tmp 3)⟩,
  ⟨some 21, none, .load false 1 (.tmp 20)⟩,
  ⟨some 22, none, .faddr 3 (.tmp 3)⟩,
  ⟨some 23, none, .load false 1 (.tmp 22)⟩,
  ⟨some 24, none, .mv (.tmp 0)⟩,
  ⟨some 25, none, .nilchk (.tmp 24)⟩,
  ⟨some 26, none, .faddr 4 (.tmp 25)⟩,
  ⟨some 27, none, .load false 1 (.tmp 26)⟩,
  ⟨some 28, none, .mv (.tmp 5)⟩,
  ⟨some 29, none, .iaddr none 1 (.tmp 27) (.tmp 28)⟩,
  ⟨some 30, none, .load false 1 (.tmp 29)⟩,
  ⟨some 31, none, .mv (.tmp 0)⟩,
  ⟨some 32, none, .nilchk (.tmp 31)⟩,
  ⟨some 33, none, .faddr 6 (.tmp 32)⟩,
  ⟨some 34, none, .load false 1 (.tmp 33)⟩,
  ⟨some 35, none, .faddr 4 (.tmp 3)⟩,
  ⟨some 36, none, .load false 1 (.tmp 35)⟩,
  ⟨some 37, none, .conv (.int .i64) (.tmp 36)⟩,
  ⟨some 38, none, .mv (.tmp 0)⟩,
  ⟨some 39, none, .nilchk (.tmp 38)⟩,
  ⟨some 40, none, .faddr 6 (.tmp 39)⟩,
  ⟨some 41, none, .load false 1 (.tmp 40)⟩,
  ⟨some 42, none, .len .sl (.tmp 41)⟩,
  ⟨some 43, none, .bin .rem .plain (.tmp 37) (.tmp 42)⟩,
  ⟨some 44, none, .iaddr none 2 (.tmp 34) (.tmp 43)⟩,
  ⟨some 45, none, .load true 2 (.tmp 44)⟩,
  ⟨some 46, none, .build [(.d (.int .i64 0)), (.d (.int .i64 0)), (.d (.int .i64 0)), (.d (.int .i64 0)), (.d (.int .i64 0)), (.exact []), (.exact [])] [(0, 1, (.tmp 19)), (1, 1, (.tmp 21)), (2, 1, (.tmp 23)), (6, 1, (.tmp 30)), (3, 2, (.tmp 45))]⟩,
  ⟨some 6, none, .alloc [(.d (.int .i64 0)), (.d (.int .i64 0)), (.d (.int .i64 0)), (.d (.int .i64 0)), (.d (.int .i64 0)), (.exact []), (.exact [])]⟩,
  ⟨none, none, .store 7 (.tmp 6) (.tmp 46)⟩] [[], [0], [], [2], [], [4], [], [6], [7], [8], [], [9, 10], [11], [], [13], [14], [15], [], [17], [18], [], [20], [21], [22], [23], [19, 24], [16, 25], [26], [1, 3, 5, 12, 27], [], [29, 28, 0, 1, 2, 3, 4, 5, 6, 7, 8, 9, 10, 11, 12, 13, 14, 15, 16, 17, 18, 19, 20, 21, 22, 23, 24, 25, 26, 27, 28, 29]] [(0, []), (1, []), (2, []), (3, []), (4, []), (5, []), (6, []), (7, []), (8, []), (9, []), (10, []), (11, []), (12, []), (13, []), (14, []), (15, []), (16, []), (17, []), (18, []), (19, []), (20, []), (21, []), (22, []), (23, []), (24, []), (25, []), (26, []), (27, []), (28, []), (29, [18, 20, 22, 26, 29, 33, 35, 40, 44]), (30, [])] [0, 1, 0, 4, 0, 16, 0, 64, 192, 448, 0, 1984, 4032, 0, 8192, 24576, 57344, 0, 131072, 393216, 0, 1048576, 3145728, 7340032, 15728640, 33423360, 67100672, 134209536, 268435455, 0, 1073741823])
 (.seq (.seq (.ops [⟨some 47, none, .faddr 2 (.tmp 6)⟩,
  ⟨some 48, none, .load false 1 (.tmp 47)⟩,
  ⟨some 49, none, .bin .eql .plain (.tmp 48) (.lit (.d (.int .i64 0)))⟩])
 (.cond (.tmp 49) (.ops [⟨some 50, none, .mv (.tmp 0)⟩,
  ⟨some 51, none, .nilchk (.tmp 50)⟩,
  ⟨some 52, none, .faddr 5 (.tmp 51)⟩,
  ⟨some 53, none, .load false 1 (.tmp 52)⟩,
  ⟨some 54, none, .mv (.tmp 5)⟩,
  ⟨some 55, none, .iaddr none 1 (.tmp 53) (.tmp 54)⟩,
  ⟨some 56, none, .load false 1 (.tmp 55)⟩,
  ⟨some 57, none, .faddr 2 (.tmp 6)⟩,
  ⟨none, none, .store 1 (.tmp 57) (.tmp 56)⟩]) .skip))
 (.seq (.seq (.ops [⟨some 58, none, .faddr 5 (.tmp 3)⟩,
  ⟨some 59, none, .load false 1 (.tmp 58)⟩,
  ⟨some 60, none, .len .sl (.tmp 59)⟩,
  ⟨some 61, none, .mv (.lit (.d (.int .i64 0)))⟩])
 (.block 0 (.loop [61] [8, 62, 63, 64, 65, 66, 67, 68, 69, 70, 71, 72, 73, 74, 75, 76, 77, 78, 79, 80, 81, 82, 83, 84] (.seq (.ops [⟨some 62, none, .bin .lss .plain (.tmp 61) (.tmp 60)⟩])
 (.seq (.cond (.tmp 62) .skip (.exit 0))
 (.seq (.block 1 (.seq (.ops [⟨some 63, none, .iaddr none 1 (.tmp 59) (.tmp 61)⟩,
  ⟨some 64, none, .load false 1 (.tmp 63)⟩,
  ⟨some 8, none, .mv (.tmp 64)⟩])
 (.draw [⟨some 65, none, .faddr 5 (.tmp 6)⟩,
  ⟨some 66, none, .load false 1 (.tmp 65)⟩,
  ⟨some 67, none, .mv (.tmp 0)⟩,
  ⟨some 68, none, .nilchk (.tmp 67)⟩,
  ⟨some 69, none, .faddr 6 (.tmp 68)⟩,
  ⟨some 70, none, .load false 1 (.tmp 69)⟩,
  ⟨some 71, none, .mv (.tmp 8)⟩,
  ⟨some 72, none, .conv (.int .i64) (.tmp 71)⟩,
  ⟨some 73, none, .mv (.tmp 0)⟩,
  ⟨some 74, none, .nilchk (.tmp 73)⟩,
  ⟨some 75, none, .faddr 6 (.tmp 74)⟩,
  ⟨some 76, none, .load false 1 (.tmp 75)⟩,
  ⟨some 77, none, .len .sl (.tmp 76)⟩,
  ⟨some 78, none, .bin .rem .plain (.tmp 72) (.tmp 77)⟩,
  ⟨some 79, none, .iaddr none 2 (.tmp 70) (.tmp 78)⟩,
  ⟨some 80, none, .load true 2 (.tmp 79)⟩,
  ⟨some 81, none, .mkslice false 2 1 [(.d (.int .i64 0)), (.d (.int .i64 0))] [(0, 2, (.tmp 80))]⟩,
  ⟨some 82, none, .append false 2 16 [(.d (.int .i64 0)), (.d (.int .i64 0))] (.tmp 66) (.tmp 81)⟩,
  ⟨some 83, none, .faddr 5 (.tmp 6)⟩,
  ⟨none, none, .store 1 (.tmp 83) (.tmp 82)⟩] [[], [0], [], [2], [3], [4], [], [6], [], [8], [9], [10], [11], [7, 12], [5, 13], [14], [15], [1, 16], [0, 1, 2, 3, 4, 5, 6, 7, 8, 9, 10, 11, 12, 13, 14, 15, 16, 17], [18, 17, 17, 0, 1, 2, 3, 4, 5, 6, 7, 8, 9, 10, 11, 12, 13, 14, 15, 16, 17]] [(0, []), (1, []), (2, []), (3, []), (4, []), (5, []), (6, []), (7, []), (8, []), (9, []), (10, []), (11, []), (12, []), (13, []), (14, []), (15, []), (16, []), (17, []), (18, []), (19, [])] [0, 1, 0, 4, 12, 28, 0, 64, 0, 256, 768, 1792, 3840, 8128, 16380, 32764, 65532, 131071, 262143, 524287])))
 (.ops [⟨some 84, none, .bin .add .plain (.tmp 61) (.lit (.d (.int .i64 1)))⟩,
  ⟨some 61, none, .mv (.tmp 84)⟩])))))))
 (.seq (.ops [⟨some 85, none, .load true 7 (.tmp 6)⟩,
  ⟨none, none, .store 7 (.tmp 4) (.tmp 85)⟩])
 .ret))))))⟩
theorem zhS : isF Try.prog zbX zde := ⟨Try.f10, _, Try.func10, by decide +kernel, rfl, by kernel_rfl, by kernel_rfl, by decide, by kernel_rfl, rfl, by kernel_rfl⟩
/-- bulla/prepared.Valid -/
def zdd : AF := ⟨4, 139, [(.tmp 8)],
 (.seq (.ops [⟨some 7, none, .boxi (.tmp 3)⟩,
  ⟨some 8, none, .mv (.lit (.d (.bool false)))⟩])
 (.seq (.seq (.ops [⟨some 15, none, .mv (.tmp 0)⟩,
  ⟨some 16, none, .call false 21 [(.tmp 15)]⟩,
  ⟨some 17, none, .bin .eql .ptr (.tmp 16) (.lit (.d .nilp))⟩,
  ⟨some 18, none, .mv (.tmp 17)⟩,
  ⟨some 19, some (18, false), .mv (.tmp 1)⟩,
  ⟨some 20, some (18, false), .call false 22 [(.tmp 19)]⟩,
  ⟨some 21, some (18, false), .bin .eql .ptr (.tmp 20) (.lit (.d .nilp))⟩,
  ⟨some 22, none, .pick (.tmp 18) (.lit (.d (.bool true))) (.tmp 21)⟩,
  ⟨some 23, none, .mv (.tmp 22)⟩,
  ⟨some 24, some (23, false), .mv (.tmp 2)⟩,
  ⟨some 25, some (23, false), .call false 23 [(.tmp 24)]⟩,
  ⟨some 26, some (23, false), .bin .neq .plain (.tmp 25) (.lit (.d (.int .i64 0)))⟩,
  ⟨some 27, none, .pick (.tmp 23) (.lit (.d (.bool true))) (.tmp 26)⟩,
  ⟨some 28, none, .mv (.tmp 27)⟩,
  ⟨some 29, some (28, false), .faddr 0 (.tmp 7)⟩,
  ⟨some 30, some (28, false), .load false 1 (.tmp 29)⟩,
  ⟨some 31, some (28, false), .bin .lss .plain (.tmp 30) (.lit (.d (.int .i64 0)))⟩,
  ⟨some 32, none, .pick (.tmp 28) (.lit (.d (.bool true))) (.tmp 31)⟩,
  ⟨some 33, none, .mv (.tmp 32)⟩,
  ⟨some 34, some (33, false), .faddr 0 (.tmp 7)⟩,
  ⟨some 35, some (33, false), .load false 1 (.tmp 34)⟩,
  ⟨some 36, some (33, false), .bin .gtr .plain (.tmp 35) (.lit (.d (.int .i64 9007199254740992)))⟩,
  ⟨some 37, none, .pick (.tmp 33) (.lit (.d (.bool true))) (.tmp 36)⟩,
  ⟨some 38, none, .mv (.tmp 37)⟩,
  ⟨some 39, some (38, false), .faddr 1 (.tmp 7)⟩,
  ⟨some 40, some (38, false), .load false 1 (.tmp 39)⟩,
  ⟨some 41, some (38, false), .bin .lss .plain (.tmp 40) (.lit (.d (.int .i64 1)))⟩,
  ⟨some 42, none, .pick (.tmp 38) (.lit (.d (.bool true))) (.tmp 41)⟩,
  ⟨some 43, none, .mv (.tmp 42)⟩,
  ⟨some 44, some (43, false), .faddr 1 (.tmp 7)⟩,
  ⟨some 45, some (43, false), .load false 1 (.tmp 44)⟩,
  ⟨some 46, some (43, false), .bin .gtr .plain (.tmp 45) (.lit (.d (.int .i64 9007199254740992)))⟩,
  ⟨some 47, none, .pick (.tmp 43) (.lit (.d (.bool true))) (.tmp 46)⟩,
  ⟨some 48, none, .mv (.tmp 47)⟩,
  ⟨some 49, some (48, false), .mv (.tmp 0)⟩,
  ⟨some 50, some (48, false), .mv (.tmp 1)⟩,
  ⟨some 51, some (48, false), .faddr 6 (.tmp 7)⟩,
  ⟨some 52, some (48, false), .load false 1 (.tmp 51)⟩,
  ⟨some 53, some (48, false), .call false 24 [(.tmp 49), (.tmp 50), (.tmp 52)]⟩,
  ⟨some 54, some (48, false), .un .not (.tmp 53)⟩,
  ⟨some 55, none, .pick (.tmp 48) (.lit (.d (.bool true))) (.tmp 54)⟩])
 (.cond (.tmp 55) (.seq (.ops [⟨some 8, none, .mv (.lit (.d (.bool false)))⟩])
 .ret) .skip))
 (.seq (.ops [⟨some 57, none, .mv (.tmp 0)⟩,
  ⟨some 58, none, .faddr 6 (.tmp 7)⟩,
  ⟨some 59, none, .load false 1 (.tmp 58)⟩,
  ⟨some 60, none, .call false 26 [(.lit (.exact [])), (.tmp 59)]⟩,
  ⟨some 61, none, .call false 25 [(.tmp 57), (.tmp 60)]⟩,
  ⟨some 56, none, .mv (.tmp 61)⟩,
  ⟨some 62, none, .extract (.tmp 56) 0⟩,
  ⟨some 63, none, .extract (.tmp 56) 1⟩,
  ⟨some 9, none, .mv (.tmp 62)⟩,
  ⟨some 10, none, .mv (.tmp 63)⟩])
 (.seq (.ops [⟨some 64, none, .mv (.tmp 2)⟩,
  ⟨some 65, none, .faddr 0 (.tmp 7)⟩,
  ⟨some 66, none, .load false 1 (.tmp 65)⟩,
  ⟨some 67, none, .call false 27 [(.tmp 64), (.tmp 66)]⟩,
  ⟨some 11, none, .mv (.tmp 67)⟩])
 (.seq (.seq (.ops [⟨some 68, none, .mv (.tmp 10)⟩,
  ⟨some 69, none, .un .not (.tmp 68)⟩,
  ⟨some 70, none, .mv (.tmp 69)⟩,
  ⟨some 71, some (70, false), .mv (.tmp 9)⟩,
  ⟨some 72, some (70, false), .faddr 2 (.tmp 7)⟩,
  ⟨some 73, some (70, false), .load false 1 (.tmp 72)⟩,
  ⟨some 74, some (70, false), .bin .neq .plain (.tmp 71) (.tmp 73)⟩,
  ⟨some 75, none, .pick (.tmp 70) (.lit (.d (.bool true))) (.tmp 74)⟩,
  ⟨some 76, none, .mv (.tmp 75)⟩,
  ⟨some 77, some (76, false), .mv (.tmp 0)⟩,
  ⟨some 78, some (76, false), .mv (.tmp 1)⟩,
  ⟨some 79, some (76, false), .faddr 3 (.tmp 7)⟩,
  ⟨some 80, some (76, false), .load true 2 (.tmp 79)⟩,
  ⟨some 81, some (76, false), .mv (.tmp 11)⟩,
  ⟨some 82, some (76, false), .faddr 0 (.tmp 7)⟩,
  ⟨some 83, some (76, false), .load false 1 (.tmp 82)⟩,
  ⟨some 84, some (76, false), .faddr 1 (.tmp 7)⟩,
  ⟨some 85, some (76, false), .load false 1 (.tmp 84)⟩,
  ⟨some 86, some (76, false), .mv (.tmp 9)⟩,
  ⟨some 87, some (76, false), .call false 28 [(.tmp 77), (.tmp 78), (.tmp 80), (.tmp 81), (.lit (.d (.int .i64 2))), (.tmp 83), (.tmp 85), (.tmp 86)]⟩,
  ⟨some 88, some (76, false), .un .not (.tmp 87)⟩,
  ⟨some 89, none, .pick (.tmp 76) (.lit (.d (.bool true))) (.tmp 88)⟩,
  ⟨some 90, none, .mv (.tmp 89)⟩,
  ⟨some 91, some (90, false), .faddr 5 (.tmp 7)⟩,
  ⟨some 92, some (90, false), .load false 1 (.tmp 91)⟩,
  ⟨some 93, some (90, false), .len .sl (.tmp 92)⟩,
  ⟨some 94, some (90, false), .mv (.tmp 2)⟩,
  ⟨some 95, some (90, false), .bin .mul .plain (.lit (.d (.int .i64 2))) (.tmp 94)⟩,
  ⟨some 96, some (90, false), .bin .neq .plain (.tmp 93) (.tmp 95)⟩,
  ⟨some 97, none, .pick (.tmp 90) (.lit (.d (.bool true))) (.tmp 96)⟩])
 (.cond (.tmp 97) (.seq (.ops [⟨some 8, none, .mv (.lit (.d (.bool false)))⟩])
 .ret) .skip))
 (.seq (.ops [⟨some 12, none, .mv (.lit (.d (.int .i64 (-1))))⟩])
 (.seq (.seq (.ops [⟨some 98, none, .faddr 5 (.tmp 7)⟩,
  ⟨some 99, none, .load false 1 (.tmp 98)⟩,
  ⟨some 100, none, .len .sl (.tmp 99)⟩,
  ⟨some 101, none, .mv (.lit (.d (.int .i64 0)))⟩])
 (.block 0 (.loop [12, 101] [8, 14, 102, 103, 104, 105, 106, 107, 108, 109, 110, 111, 112, 113, 114, 115, 116, 117, 118, 119, 120, 121, 122, 123, 124, 125, 126, 127, 128, 129, 130, 131, 132, 133, 134, 135, 136, 137, 138] (.seq (.ops [⟨some 102, none, .bin .lss .plain (.tmp 101) (.tmp 100)⟩])
 (.seq (.cond (.tmp 102) .skip (.exit 0))
 (.seq (.block 1 (.seq (.ops [⟨some 103, none, .iaddr none 2 (.tmp 99) (.tmp 101)⟩,
  ⟨some 104, none, .load true 2 (.tmp 103)⟩,
  ⟨some 14, none, .alloc [(.d (.int .i64 0)), (.d (.int .i64 0))]⟩,
  ⟨none, none, .store 2 (.tmp 14) (.tmp 104)⟩])
 (.seq (.seq (.draw [⟨some 105, none, .faddr 0 (.tmp 14)⟩,
  ⟨some 106, none, .load false 1 (.tmp 105)⟩,
  ⟨some 107, none, .mv (.tmp 12)⟩,
  ⟨some 108, none, .bin .leq .plain (.tmp 106) (.tmp 107)⟩,
  ⟨some 109, none, .mv (.tmp 108)⟩,
  ⟨some 110, some (109, false), .faddr 0 (.tmp 14)⟩,
  ⟨some 111, some (109, false), .load false 1 (.tmp 110)⟩,
  ⟨some 112, some (109, false), .mv (.tmp 2)⟩,
  ⟨some 113, some (109, false), .call false 29 [(.tmp 112)]⟩,
  ⟨some 114, some (109, false), .bin .geq .plain (.tmp 111) (.tmp 113)⟩,
  ⟨some 115, none, .pick (.tmp 109) (.lit (.d (.bool true))) (.tmp 114)⟩,
  ⟨some 116, none, .mv (.tmp 115)⟩,
  ⟨some 117, some (116, false), .faddr 0 (.tmp 14)⟩,
  ⟨some 118, some (116, false), .load false 1 (.tmp 117)⟩,
  ⟨some 119, some (116, false), .mv (.tmp 11)⟩,
  ⟨some 120, some (116, false), .bin .eql .plain (.tmp 118) (.tmp 119)⟩,
  ⟨some 121, none, .pick (.tmp 116) (.lit (.d (.bool true))) (.tmp 120)⟩,
  ⟨some 122, none, .mv (.tmp 121)⟩,
  ⟨some 123, some (122, false), .mv (.tmp 0)⟩,
  ⟨some 124, some (122, false), .mv (.tmp 1)⟩,
  ⟨some 125, some (122, false), .load true 2 (.tmp 14)⟩,
  ⟨some 126, some (122, false), .faddr 0 (.tmp 14)⟩,
  ⟨some 127, some (122, false), .load false 1 (.tmp 126)⟩,
  ⟨some 128, some (122, false), .faddr 0 (.tmp 7)⟩,
  ⟨some 129, some (122, false), .load false 1 (.tmp 128)⟩,
  ⟨some 130, some (122, false), .faddr 1 (.tmp 7)⟩,
  ⟨some 131, some (122, false), .load false 1 (.tmp 130)⟩,
  ⟨some 132, some (122, false), .mv (.tmp 9)⟩,
  ⟨some 133, some (122, false), .call false 28 [(.tmp 123), (.tmp 124), (.tmp 125), (.tmp 127), (.lit (.d (.int .i64 3))), (.tmp 129), (.tmp 131), (.tmp 132)]⟩,
  ⟨some 134, some (122, false), .un .not (.tmp 133)⟩,
  ⟨some 135, none, .pick (.tmp 122) (.lit (.d (.bool true))) (.tmp 134)⟩] [[], [0], [], [1, 2], [3], [4], [5, 4], [4], [7, 4, 4], [6, 8, 4], [4, 9], [10, 8], [11], [12, 11], [11], [13, 14, 11], [11, 15], [16, 11], [17], [17], [17], [17], [21, 17], [17], [23, 17], [17], [25, 17], [17], [18, 19, 20, 22, 24, 26, 27, 17, 17], [28, 17], [17, 29]] [(0, []), (1, []), (2, []), (3, []), (4, []), (5, []), (6, []), (7, []), (8, [110]), (9, []), (10, []), (11, []), (12, []), (13, []), (14, []), (15, []), (16, []), (17, []), (18, []), (19, []), (20, []), (21, []), (22, []), (23, []), (24, []), (25, []), (26, []), (27, []), (28, []), (29, []), (30, [])] [0, 1, 0, 7, 15, 31, 63, 31, 159, 511, 1023, 2047, 4095, 8191, 4095, 32767, 65535, 131071, 262143, 262143, 262143, 262143, 2359295, 262143, 8650751, 262143, 33816575, 262143, 268435455, 536870911, 1073741823])
 (.cond (.tmp 135) (.seq (.ops [⟨some 8, none, .mv (.lit (.d (.bool false)))⟩])
 .ret) .skip))
 (.ops [⟨some 136, none, .faddr 0 (.tmp 14)⟩,
  ⟨some 137, none, .load false 1 (.tmp 136)⟩,
  ⟨some 12, none, .mv (.tmp 137)⟩]))))
 (.ops [⟨some 138, none, .bin .add .plain (.tmp 101) (.lit (.d (.int .i64 1)))⟩,
  ⟨some 101, none, .mv (.tmp 138)⟩])))))))
 (.seq (.ops [⟨some 8, none, .mv (.lit (.d (.bool true)))⟩])
 .ret))))))))⟩
theorem zhR : isF Try.prog zbW zdd := ⟨Try.f11, _, Try.func11, by decide +kernel, rfl, by kernel_rfl, by kernel_rfl, by decide, by kernel_rfl, rfl, by kernel_rfl⟩
/-- (*bulla/prepared.Held).none -/
def zbN : AF := ⟨1, 12, [(.tmp 2)],
 (.seq (.ops [⟨some 2, none, .mv (.lit (.d (.bool false)))⟩])
 (.seq (.ops [⟨some 3, none, .mv (.tmp 0)⟩,
  ⟨some 4, none, .bin .eql .ptr (.tmp 3) (.lit (.d .nilp))⟩,
  ⟨some 5, none, .mv (.tmp 4)⟩,
  ⟨some 6, some (5, false), .mv (.tmp 0)⟩,
  ⟨some 7, some (5, false), .nilchk (.tmp 6)⟩,
  ⟨some 8, some (5, false), .faddr 0 (.tmp 7)⟩,
  ⟨some 9, some (5, false), .load false 1 (.tmp 8)⟩,
  ⟨some 10, some (5, false), .bin .eql .map (.tmp 9) (.lit (.d .nilmap))⟩,
  ⟨some 11, none, .pick (.tmp 5) (.lit (.d (.bool true))) (.tmp 10)⟩,
  ⟨some 2, none, .mv (.tmp 11)⟩])
 .ret))⟩
theorem zfv : isF Try.prog zaM zbN := ⟨Try.f12, _, Try.func12, by decide +kernel, rfl, by kernel_rfl, by kernel_rfl, by decide, by kernel_rfl, rfl, by kernel_rfl⟩
/-- bulla/prepared.clone -/
def zdc : AF := ⟨1, 12, [(.cell 2 true 7)],
 (.seq (.ops [⟨some 1, none, .boxi (.tmp 0)⟩,
  ⟨some 2, none, .alloc [(.d (.int .i64 0)), (.d (.int .i64 0)), (.d (.int .i64 0)), (.d (.int .i64 0)), (.d (.int .i64 0)), (.exact []), (.exact [])]⟩])
 (.seq (.ops [⟨some 3, none, .faddr 5 (.tmp 1)⟩,
  ⟨some 4, none, .load false 1 (.tmp 3)⟩,
  ⟨some 5, none, .call false 30 [(.tmp 4)]⟩,
  ⟨some 6, none, .faddr 5 (.tmp 1)⟩,
  ⟨none, none, .store 1 (.tmp 6) (.tmp 5)⟩])
 (.seq (.ops [⟨some 7, none, .faddr 6 (.tmp 1)⟩,
  ⟨some 8, none, .load false 1 (.tmp 7)⟩,
  ⟨some 9, none, .call false 31 [(.tmp 8)]⟩,
  ⟨some 10, none, .faddr 6 (.tmp 1)⟩,
  ⟨none, none, .store 1 (.tmp 10) (.tmp 9)⟩])
 (.seq (.ops [⟨some 11, none, .load true 7 (.tmp 1)⟩,
  ⟨none, none, .store 7 (.tmp 2) (.tmp 11)⟩])
 .ret))))⟩
theorem zhQ : isF Try.prog zbV zdc := ⟨Try.f13, _, Try.func13, by decide +kernel, rfl, by kernel_rfl, by kernel_rfl, by decide, by kernel_rfl, rfl, by kernel_rfl⟩
/-- bulla/ideal.NewTable -/
def zdg : AF := ⟨0, 4, [(.tmp 0)],
 (.seq (.ops [⟨some 0, none, .mv (.lit (.d .nilp))⟩])
 (.seq (.ops [⟨some 1, none, .mkmap⟩,
  ⟨some 2, none, .build [(.exact []), (.d .nilmap)] [(1, 1, (.tmp 1))]⟩,
  ⟨some 3, none, .boxi (.tmp 2)⟩,
  ⟨some 0, none, .mv (.tmp 3)⟩])
 .ret))⟩
theorem zhU : isF Try.prog zbY zdg := ⟨Try.f14, _, Try.func14, by decide +kernel, rfl, by kernel_rfl, by kernel_rfl, by decide, by kernel_rfl, rfl, by kernel_rfl⟩
/-- bulla/ideal.NewLedger -/
def zcM : AF := ⟨0, 4, [(.tmp 0)],
 (.seq (.ops [⟨some 0, none, .mv (.lit (.d .nilp))⟩])
 (.seq (.ops [⟨some 1, none, .mkmap⟩,
  ⟨some 2, none, .build [(.exact []), (.d .nilmap)] [(1, 1, (.tmp 1))]⟩,
  ⟨some 3, none, .boxi (.tmp 2)⟩,
  ⟨some 0, none, .mv (.tmp 3)⟩])
 .ret))⟩
theorem zhm : isF Try.prog zbG zcM := ⟨Try.f15, _, Try.func15, by decide +kernel, rfl, by kernel_rfl, by kernel_rfl, by decide, by kernel_rfl, rfl, by kernel_rfl⟩
/-- bulla/bullaref08.Seal -/
def zje : AF := ⟨3, 38, [(.cell 6 true 9), (.tmp 7)],
 (.seq (.ops [⟨some 5, none, .boxi (.tmp 2)⟩,
  ⟨some 6, none, .alloc [(.d (.int .i64 0)), (.d (.int .i64 0)), (.d (.int .i64 0)), (.d (.str [])), (.d (.str [])), (.d (.int .i64 0)), (.exact []), (.d (.int .i64 0)), (.d (.int .i64 0))]⟩,
  ⟨some 7, none, .mv (.lit (.d (.int .i64 0)))⟩])
 (.seq (.ops [⟨some 12, none, .load true 7 (.tmp 5)⟩,
  ⟨some 13, none, .call false 32 [(.tmp 12)]⟩,
  ⟨some 11, none, .mv (.tmp 13)⟩,
  ⟨some 14, none, .extract (.tmp 11) 0⟩,
  ⟨some 15, none, .extract (.tmp 11) 1⟩,
  ⟨some 8, none, .mv (.tmp 14)⟩,
  ⟨some 9, none, .mv (.tmp 15)⟩])
 (.seq (.seq (.ops [⟨some 16, none, .mv (.tmp 9)⟩,
  ⟨some 17, none, .bin .neq .plain (.tmp 16) (.lit (.d (.int .i64 0)))⟩])
 (.cond (.tmp 17) (.seq (.ops [⟨some 18, none, .build [(.d (.int .i64 0)), (.d (.int .i64 0)), (.d (.int .i64 0)), (.d (.str [])), (.d (.str [])), (.d (.int .i64 0)), (.exact []), (.d (.int .i64 0)), (.d (.int .i64 0))] []⟩,
  ⟨some 19, none, .mv (.tmp 9)⟩,
  ⟨none, none, .store 9 (.tmp 6) (.tmp 18)⟩,
  ⟨some 7, none, .mv (.tmp 19)⟩])
 .ret) .skip))
 (.seq (.ops [⟨some 21, none, .mv (.tmp 1)⟩,
  ⟨some 22, none, .faddr 0 (.tmp 5)⟩,
  ⟨some 23, none, .load false 1 (.tmp 22)⟩,
  ⟨some 24, none, .call false 34 [(.tmp 23)]⟩,
  ⟨some 25, none, .mv (.tmp 0)⟩,
  ⟨some 26, none, .mv (.tmp 8)⟩,
  ⟨some 27, none, .call false 35 [(.tmp 25), (.tmp 26)]⟩,
  ⟨some 28, none, .call false 33 [(.tmp 21), (.tmp 24), (.tmp 27)]⟩,
  ⟨some 20, none, .mv (.tmp 28)⟩,
  ⟨some 29, none, .extract (.tmp 20) 0⟩,
  ⟨some 30, none, .extract (.tmp 20) 1⟩,
  ⟨some 10, none, .alloc [(.d (.int .i64 0)), (.d (.int .i64 0))]⟩,
  ⟨none, none, .store 2 (.tmp 10) (.tmp 29)⟩,
  ⟨some 9, none, .mv (.tmp 30)⟩])
 (.seq (.seq (.ops [⟨some 31, none, .mv (.tmp 9)⟩,
  ⟨some 32, none, .bin .neq .plain (.tmp 31) (.lit (.d (.int .i64 0)))⟩])
 (.cond (.tmp 32) (.seq (.ops [⟨some 33, none, .build [(.d (.int .i64 0)), (.d (.int .i64 0)), (.d (.int .i64 0)), (.d (.str [])), (.d (.str [])), (.d (.int .i64 0)), (.exact []), (.d (.int .i64 0)), (.d (.int .i64 0))] []⟩,
  ⟨some 34, none, .mv (.tmp 9)⟩,
  ⟨none, none, .store 9 (.tmp 6) (.tmp 33)⟩,
  ⟨some 7, none, .mv (.tmp 34)⟩])
 .ret) .skip))
 (.seq (.ops [⟨some 35, none, .load true 7 (.tmp 5)⟩,
  ⟨some 36, none, .load true 2 (.tmp 10)⟩,
  ⟨some 37, none, .build [(.d (.int .i64 0)), (.d (.int .i64 0)), (.d (.int .i64 0)), (.d (.str [])), (.d (.str [])), (.d (.int .i64 0)), (.exact []), (.d (.int .i64 0)), (.d (.int .i64 0))] [(0, 7, (.tmp 35)), (7, 2, (.tmp 36))]⟩,
  ⟨none, none, .store 9 (.tmp 6) (.tmp 37)⟩,
  ⟨some 7, none, .mv (.lit (.d (.int .i64 0)))⟩])
 .ret))))))⟩
theorem isA_r08_Seal : isF Try.prog zgs zje := ⟨Try.f16, _, Try.func16, by decide +kernel, rfl, by kernel_rfl, by kernel_rfl, by decide, by kernel_rfl, rfl, by kernel_rfl⟩
end Go.Proofs.Ytcappjcojggehaa

/- Resolved forms, each with the theorem that it is its function's. Printed by program. -/
import Derived.Test.YtndpnfbcnmebjaaNm
import Derived.KernelRfl
set_option linter.all false
set_option maxRecDepth 100000
set_option linter.unusedVariables false
namespace Go.Proofs.Ytndpnfbcnmebjaa
open Go.AW
/-- bulla/bullalaw16.NewviewSelects -/
def A_l16_NewviewSelects : AF := ⟨3, 45, [(.tmp 6)],
 (.seq (.ops [⟨some 6, none, .mv (.lit (.d (.bool false)))⟩])
 (.seq (.ops [⟨some 14, none, .mv (.tmp 0)⟩,
  ⟨some 15, none, .mv (.tmp 1)⟩,
  ⟨some 16, none, .mv (.tmp 2)⟩,
  ⟨some 17, none, .call 6 [(.tmp 14), (.tmp 15), (.tmp 16)]⟩,
  ⟨some 13, none, .mv (.tmp 17)⟩,
  ⟨some 18, none, .extract (.tmp 13) 0⟩,
  ⟨some 19, none, .extract (.tmp 13) 1⟩,
  ⟨some 20, none, .extract (.tmp 13) 2⟩,
  ⟨some 7, none, .alloc [(.d (.int .i64 0)), (.d (.int .i64 0)), (.exact [])]⟩,
  ⟨none, none, .store 3 (.tmp 7) (.tmp 18)⟩,
  ⟨some 8, none, .mv (.tmp 19)⟩,
  ⟨some 9, none, .mv (.tmp 20)⟩])
 (.seq (.ops [⟨some 22, none, .mv (.tmp 0)⟩,
  ⟨some 23, none, .mv (.tmp 1)⟩,
  ⟨some 24, none, .mv (.tmp 2)⟩,
  ⟨some 25, none, .call 7 [(.tmp 22), (.tmp 23), (.tmp 24)]⟩,
  ⟨some 21, none, .mv (.tmp 25)⟩,
  ⟨some 26, none, .extract (.tmp 21) 0⟩,
  ⟨some 27, none, .extract (.tmp 21) 1⟩,
  ⟨some 28, none, .extract (.tmp 21) 2⟩,
  ⟨some 10, none, .alloc [(.d (.int .i64 0)), (.d (.int .i64 0)), (.exact [])]⟩,
  ⟨none, none, .store 3 (.tmp 10) (.tmp 26)⟩,
  ⟨some 11, none, .mv (.tmp 27)⟩,
  ⟨some 12, none, .mv (.tmp 28)⟩])
 (.seq (.ops [⟨some 29, none, .call 8 []⟩,
  ⟨some 30, none, .mv (.tmp 29)⟩,
  ⟨some 31, some (30, true), .load true 3 (.tmp 7)⟩,
  ⟨some 32, some (30, true), .load true 3 (.tmp 10)⟩,
  ⟨some 33, some (30, true), .call 9 [(.tmp 31), (.tmp 32)]⟩,
  ⟨some 34, none, .pick (.tmp 30) (.tmp 33) (.lit (.d (.bool false)))⟩,
  ⟨some 35, none, .mv (.tmp 34)⟩,
  ⟨some 36, some (35, true), .mv (.tmp 8)⟩,
  ⟨some 37, some (35, true), .mv (.tmp 11)⟩,
  ⟨some 38, some (35, true), .call 10 [(.tmp 36), (.tmp 37)]⟩,
  ⟨some 39, none, .pick (.tmp 35) (.tmp 38) (.lit (.d (.bool false)))⟩,
  ⟨some 40, none, .mv (.tmp 39)⟩,
  ⟨some 41, some (40, true), .mv (.tmp 9)⟩,
  ⟨some 42, some (40, true), .mv (.tmp 12)⟩,
  ⟨some 43, some (40, true), .bin .eql .plain (.tmp 41) (.tmp 42)⟩,
  ⟨some 44, none, .pick (.tmp 40) (.tmp 43) (.lit (.d (.bool false)))⟩,
  ⟨some 6, none, .mv (.tmp 44)⟩])
 .ret))))⟩
theorem isA_l16_NewviewSelects : isF Try.prog n_l16_NewviewSelects A_l16_NewviewSelects := ⟨Try.f3, _, Try.func3, by decide +kernel, rfl, by kernel_rfl, by kernel_rfl, by decide, by kernel_rfl, rfl, by kernel_rfl⟩
/-- bulla/bullalaw16.NewviewGaps -/
def A_l16_NewviewGaps : AF := ⟨3, 58, [(.tmp 6)],
 (.seq (.ops [⟨some 6, none, .mv (.lit (.d (.bool false)))⟩])
 (.seq (.ops [⟨some 13, none, .mv (.tmp 0)⟩,
  ⟨some 14, none, .mv (.tmp 1)⟩,
  ⟨some 15, none, .mv (.tmp 2)⟩,
  ⟨some 16, none, .call 6 [(.tmp 13), (.tmp 14), (.tmp 15)]⟩,
  ⟨some 12, none, .mv (.tmp 16)⟩,
  ⟨some 17, none, .extract (.tmp 12) 0⟩,
  ⟨some 18, none, .extract (.tmp 12) 1⟩,
  ⟨some 19, none, .extract (.tmp 12) 2⟩,
  ⟨some 7, none, .alloc [(.d (.int .i64 0)), (.d (.int .i64 0)), (.exact [])]⟩,
  ⟨none, none, .store 3 (.tmp 7) (.tmp 17)⟩,
  ⟨some 8, none, .mv (.tmp 18)⟩,
  ⟨some 9, none, .mv (.tmp 19)⟩])
 (.seq (.seq (.ops [⟨some 20, none, .call 8 []⟩,
  ⟨some 21, none, .un .not (.tmp 20)⟩,
  ⟨some 22, none, .mv (.tmp 21)⟩,
  ⟨some 23, some (22, false), .mv (.tmp 9)⟩,
  ⟨some 24, some (22, false), .bin .neq .plain (.tmp 23) (.lit (.d (.int .i64 0)))⟩,
  ⟨some 25, none, .pick (.tmp 22) (.lit (.d (.bool true))) (.tmp 24)⟩])
 (.cond (.tmp 25) (.seq (.ops [⟨some 26, none, .call 8 []⟩,
  ⟨some 6, none, .mv (.tmp 26)⟩])
 .ret) .skip))
 (.seq (.seq (.ops [⟨some 27, none, .mv (.tmp 8)⟩,
  ⟨some 28, none, .len .sl (.tmp 27)⟩,
  ⟨some 29, none, .mv (.lit (.d (.int .i64 0)))⟩])
 (.block 0 (.loop [29] [6, 10, 11, 30, 31, 32, 33, 34, 35, 36, 37, 38, 39, 40, 41, 42, 43, 44, 45, 46, 47, 48, 49, 50, 51, 52, 53, 54] (.seq (.ops [⟨some 30, none, .bin .lss .plain (.tmp 29) (.tmp 28)⟩])
 (.seq (.cond (.tmp 30) .skip (.exit 0))
 (.seq (.block 1 (.seq (.ops [⟨some 31, none, .mv (.tmp 29)⟩,
  ⟨some 32, none, .iaddr none 5 (.tmp 27) (.tmp 29)⟩,
  ⟨some 33, none, .load true 5 (.tmp 32)⟩,
  ⟨some 11, none, .alloc [(.d (.int .i64 0)), (.d (.int .i64 0)), (.exact []), (.d (.int .i64 0)), (.d (.int .i64 0))]⟩,
  ⟨some 10, none, .mv (.tmp 31)⟩,
  ⟨none, none, .store 5 (.tmp 11) (.tmp 33)⟩])
 (.seq (.ops [⟨some 34, none, .faddr 1 (.tmp 11)⟩,
  ⟨some 35, none, .load false 1 (.tmp 34)⟩,
  ⟨some 36, none, .faddr 0 (.tmp 7)⟩,
  ⟨some 37, none, .load false 1 (.tmp 36)⟩,
  ⟨some 38, none, .bin .sub .plain (.tmp 35) (.tmp 37)⟩,
  ⟨some 39, none, .mv (.tmp 10)⟩,
  ⟨some 40, none, .bin .add .plain (.tmp 39) (.lit (.d (.int .i64 1)))⟩,
  ⟨some 41, none, .bin .neq .plain (.tmp 38) (.tmp 40)⟩,
  ⟨some 42, none, .mv (.tmp 41)⟩,
  ⟨some 43, some (42, false), .faddr 0 (.tmp 11)⟩,
  ⟨some 44, some (42, false), .load false 1 (.tmp 43)⟩,
  ⟨some 45, some (42, false), .mv (.tmp 1)⟩,
  ⟨some 46, some (42, false), .bin .neq .plain (.tmp 44) (.tmp 45)⟩,
  ⟨some 47, none, .pick (.tmp 42) (.lit (.d (.bool true))) (.tmp 46)⟩,
  ⟨some 48, none, .mv (.tmp 47)⟩,
  ⟨some 49, some (48, false), .faddr 3 (.tmp 11)⟩,
  ⟨some 50, some (48, false), .load true 2 (.tmp 49)⟩,
  ⟨some 51, some (48, false), .build [(.d (.int .i64 0)), (.d (.int .i64 0))] []⟩,
  ⟨some 52, some (48, false), .bin .neq (.ints 2) (.tmp 50) (.tmp 51)⟩,
  ⟨some 53, none, .pick (.tmp 48) (.lit (.d (.bool true))) (.tmp 52)⟩])
 (.cond (.tmp 53) (.seq (.ops [⟨some 6, none, .mv (.lit (.d (.bool false)))⟩])
 .ret) .skip))))
 (.ops [⟨some 54, none, .bin .add .plain (.tmp 29) (.lit (.d (.int .i64 1)))⟩,
  ⟨some 29, none, .mv (.tmp 54)⟩])))))))
 (.seq (.ops [⟨some 55, none, .mv (.tmp 8)⟩,
  ⟨some 56, none, .len .sl (.tmp 55)⟩,
  ⟨some 57, none, .bin .leq .plain (.tmp 56) (.lit (.d (.int .i64 8)))⟩,
  ⟨some 6, none, .mv (.tmp 57)⟩])
 .ret)))))⟩
theorem isA_l16_NewviewGaps : isF Try.prog n_l16_NewviewGaps A_l16_NewviewGaps := ⟨Try.f4, _, Try.func4, by decide +kernel, rfl, by kernel_rfl, by kernel_rfl, by decide, by kernel_rfl, rfl, by kernel_rfl⟩
/-- bulla/bullalaw16.NewviewKeeps -/
def A_l16_NewviewKeeps : AF := ⟨6, 209, [(.tmp 12)],
 (.seq (.ops [⟨some 11, none, .boxi (.tmp 5)⟩,
  ⟨some 12, none, .mv (.lit (.d (.bool false)))⟩])
 (.seq (.seq (.ops [⟨some 28, none, .call 8 []⟩,
  ⟨some 29, none, .un .not (.tmp 28)⟩,
  ⟨some 30, none, .mv (.tmp 29)⟩,
  ⟨some 31, some (30, false), .mv (.tmp 0)⟩,
  ⟨some 32, some (30, false), .call 11 [(.tmp 31)]⟩,
  ⟨some 33, some (30, false), .bin .neq .plain (.tmp 32) (.lit (.d (.int .i64 0)))⟩,
  ⟨some 34, none, .pick (.tmp 30) (.lit (.d (.bool true))) (.tmp 33)⟩,
  ⟨some 35, none, .mv (.tmp 34)⟩,
  ⟨some 36, some (35, false), .mv (.tmp 3)⟩,
  ⟨some 37, some (35, false), .call 12 [(.tmp 36)]⟩,
  ⟨some 38, some (35, false), .mv (.tmp 0)⟩,
  ⟨some 39, some (35, false), .bin .gtr .plain (.tmp 37) (.tmp 38)⟩,
  ⟨some 40, none, .pick (.tmp 35) (.lit (.d (.bool true))) (.tmp 39)⟩,
  ⟨some 41, none, .mv (.tmp 40)⟩,
  ⟨some 42, some (41, false), .mv (.tmp 2)⟩,
  ⟨some 43, some (41, false), .len .sl (.tmp 42)⟩,
  ⟨some 44, some (41, false), .mv (.tmp 0)⟩,
  ⟨some 45, some (41, false), .call 13 [(.tmp 44)]⟩,
  ⟨some 46, some (41, false), .bin .gtr .plain (.tmp 43) (.tmp 45)⟩,
  ⟨some 47, none, .pick (.tmp 41) (.lit (.d (.bool true))) (.tmp 46)⟩])
 (.cond (.tmp 47) (.seq (.ops [⟨some 48, none, .call 8 []⟩,
  ⟨some 12, none, .mv (.tmp 48)⟩])
 .ret) .skip))
 (.seq (.ops [⟨some 13, none, .mv (.lit (.d (.int .i64 0)))⟩])
 (.seq (.seq (.ops [⟨some 49, none, .mv (.tmp 2)⟩,
  ⟨some 50, none, .len .sl (.tmp 49)⟩,
  ⟨some 51, none, .mv (.lit (.d (.int .i64 0)))⟩])
 (.block 0 (.loop [13, 51] [12, 15, 17, 18, 19, 20, 52, 53, 54, 55, 56, 57, 58, 59, 60, 61, 62, 63, 64, 65, 66, 67, 68, 69, 70, 71, 72, 73, 74, 75, 76, 77, 78, 79, 80, 81, 82, 83, 84, 85, 86, 87, 88, 89, 90, 91, 92, 93, 94, 95, 96, 97, 98, 99, 100, 101, 102, 103, 104, 105, 106, 107, 108, 109, 110, 111, 112, 113, 114, 115, 116, 117, 118, 119, 120, 121, 122, 123, 124, 125, 126, 127, 128, 129, 130, 131, 132, 133, 134, 135] (.seq (.ops [⟨some 52, none, .bin .lss .plain (.tmp 51) (.tmp 50)⟩])
 (.seq (.cond (.tmp 52) .skip (.exit 0))
 (.seq (.block 1 (.seq (.ops [⟨some 53, none, .iaddr none 8 (.tmp 49) (.tmp 51)⟩,
  ⟨some 54, none, .load true 8 (.tmp 53)⟩,
  ⟨some 15, none, .alloc [(.d (.int .i64 0)), (.d (.int .i64 0)), (.d (.int .i64 0)), (.d (.int .i64 0)), (.exact []), (.exact []), (.d (.int .i64 0)), (.d (.int .i64 0))]⟩,
  ⟨none, none, .store 8 (.tmp 15) (.tmp 54)⟩])
 (.seq (.seq (.ops [⟨some 55, none, .faddr 5 (.tmp 15)⟩,
  ⟨some 56, none, .load false 1 (.tmp 55)⟩,
  ⟨some 57, none, .len .sl (.tmp 56)⟩,
  ⟨some 58, none, .mv (.lit (.d (.int .i64 0)))⟩])
 (.block 2 (.loop [58] [12, 17, 18, 59, 60, 61, 62, 63, 64, 65, 66, 67, 68, 69, 70, 71, 72, 73, 74, 75, 76, 77, 78, 79, 80, 81, 82, 83, 84, 85, 86, 87, 88, 89, 90, 91, 92, 93, 94, 95, 96, 97, 98, 99, 100, 101, 102, 103, 104, 105, 106, 107, 108, 109, 110] (.seq (.ops [⟨some 59, none, .bin .lss .plain (.tmp 58) (.tmp 57)⟩])
 (.seq (.cond (.tmp 59) .skip (.exit 2))
 (.seq (.block 3 (.seq (.ops [⟨some 60, none, .iaddr none 7 (.tmp 56) (.tmp 58)⟩,
  ⟨some 61, none, .load true 7 (.tmp 60)⟩,
  ⟨some 17, none, .alloc [(.d (.int .i64 0)), (.d (.int .i64 0)), (.d (.int .i64 0)), (.d (.int .i64 0)), (.d (.int .i64 0)), (.exact []), (.exact [])]⟩,
  ⟨none, none, .store 7 (.tmp 17) (.tmp 61)⟩])
 (.seq (.ops [⟨some 62, none, .faddr 6 (.tmp 11)⟩,
  ⟨some 63, none, .load false 1 (.tmp 62)⟩,
  ⟨some 64, none, .faddr 6 (.tmp 17)⟩,
  ⟨some 65, none, .load false 1 (.tmp 64)⟩,
  ⟨some 66, none, .call 14 [(.tmp 63), (.tmp 65)]⟩,
  ⟨some 18, none, .mv (.tmp 66)⟩])
 (.seq (.seq (.ops [⟨some 67, none, .mv (.tmp 3)⟩,
  ⟨some 68, none, .faddr 1 (.tmp 15)⟩,
  ⟨some 69, none, .load false 1 (.tmp 68)⟩,
  ⟨some 70, none, .call 15 [(.tmp 67), (.tmp 69)]⟩])
 (.cond (.tmp 70) (.seq (.seq (.ops [⟨some 71, none, .faddr 1 (.tmp 17)⟩,
  ⟨some 72, none, .load false 1 (.tmp 71)⟩,
  ⟨some 73, none, .faddr 1 (.tmp 11)⟩,
  ⟨some 74, none, .load false 1 (.tmp 73)⟩,
  ⟨some 75, none, .bin .eql .plain (.tmp 72) (.tmp 74)⟩,
  ⟨some 76, none, .mv (.tmp 75)⟩,
  ⟨some 77, some (76, true), .faddr 0 (.tmp 17)⟩,
  ⟨some 78, some (76, true), .load false 1 (.tmp 77)⟩,
  ⟨some 79, some (76, true), .faddr 0 (.tmp 11)⟩,
  ⟨some 80, some (76, true), .load false 1 (.tmp 79)⟩,
  ⟨some 81, some (76, true), .bin .gtr .plain (.tmp 78) (.tmp 80)⟩,
  ⟨some 82, some (76, true), .mv (.tmp 81)⟩,
  ⟨some 83, some (82, false), .faddr 0 (.tmp 17)⟩,
  ⟨some 84, some (82, false), .load false 1 (.tmp 83)⟩,
  ⟨some 85, some (82, false), .faddr 0 (.tmp 11)⟩,
  ⟨some 86, some (82, false), .load false 1 (.tmp 85)⟩,
  ⟨some 87, some (82, false), .bin .eql .plain (.tmp 84) (.tmp 86)⟩,
  ⟨some 88, some (82, false), .mv (.tmp 87)⟩,
  ⟨some 89, some (88, true), .mv (.tmp 18)⟩,
  ⟨some 90, some (88, true), .un .not (.tmp 89)⟩,
  ⟨some 91, some (82, false), .pick (.tmp 88) (.tmp 90) (.lit (.d (.bool false)))⟩,
  ⟨some 92, some (76, true), .pick (.tmp 82) (.lit (.d (.bool true))) (.tmp 91)⟩,
  ⟨some 93, none, .pick (.tmp 76) (.tmp 92) (.lit (.d (.bool false)))⟩])
 (.cond (.tmp 93) (.seq (.ops [⟨some 12, none, .mv (.lit (.d (.bool true)))⟩])
 .ret) .skip))
 (.exit 3)) .skip))
 (.seq (.ops [⟨some 94, none, .faddr 1 (.tmp 17)⟩,
  ⟨some 95, none, .load false 1 (.tmp 94)⟩,
  ⟨some 96, none, .faddr 1 (.tmp 11)⟩,
  ⟨some 97, none, .load false 1 (.tmp 96)⟩,
  ⟨some 98, none, .bin .eql .plain (.tmp 95) (.tmp 97)⟩,
  ⟨some 99, none, .mv (.tmp 98)⟩,
  ⟨some 100, some (99, true), .faddr 0 (.tmp 17)⟩,
  ⟨some 101, some (99, true), .load false 1 (.tmp 100)⟩,
  ⟨some 102, some (99, true), .faddr 0 (.tmp 11)⟩,
  ⟨some 103, some (99, true), .load false 1 (.tmp 102)⟩,
  ⟨some 104, some (99, true), .bin .geq .plain (.tmp 101) (.tmp 103)⟩,
  ⟨some 105, none, .pick (.tmp 99) (.tmp 104) (.lit (.d (.bool false)))⟩,
  ⟨some 106, none, .mv (.tmp 105)⟩,
  ⟨some 107, some (106, true), .mv (.tmp 18)⟩,
  ⟨some 108, some (106, true), .un .not (.tmp 107)⟩,
  ⟨some 109, none, .pick (.tmp 106) (.tmp 108) (.lit (.d (.bool false)))⟩])
 (.cond (.tmp 109) (.seq (.ops [⟨some 12, none, .mv (.lit (.d (.bool true)))⟩])
 .ret) .skip))))))
 (.ops [⟨some 110, none, .bin .add .plain (.tmp 58) (.lit (.d (.int .i64 1)))⟩,
  ⟨some 58, none, .mv (.tmp 110)⟩])))))))
 (.seq (.ops [⟨some 112, none, .load true 8 (.tmp 15)⟩,
  ⟨some 113, none, .faddr 1 (.tmp 11)⟩,
  ⟨some 114, none, .load false 1 (.tmp 113)⟩,
  ⟨some 115, none, .call 16 [(.tmp 112), (.tmp 114)]⟩,
  ⟨some 111, none, .mv (.tmp 115)⟩,
  ⟨some 116, none, .extract (.tmp 111) 0⟩,
  ⟨some 117, none, .extract (.tmp 111) 1⟩,
  ⟨some 19, none, .alloc [(.d (.int .i64 0)), (.d (.int .i64 0)), (.d (.int .i64 0)), (.d (.int .i64 0)), (.d (.int .i64 0)), (.exact []), (.exact [])]⟩,
  ⟨none, none, .store 7 (.tmp 19) (.tmp 116)⟩,
  ⟨some 20, none, .mv (.tmp 117)⟩])
 (.seq (.ops [⟨some 118, none, .mv (.tmp 20)⟩,
  ⟨some 119, none, .mv (.tmp 118)⟩,
  ⟨some 120, some (119, true), .mv (.tmp 3)⟩,
  ⟨some 121, some (119, true), .faddr 1 (.tmp 15)⟩,
  ⟨some 122, some (119, true), .load false 1 (.tmp 121)⟩,
  ⟨some 123, some (119, true), .call 15 [(.tmp 120), (.tmp 122)]⟩,
  ⟨some 124, some (119, true), .un .not (.tmp 123)⟩,
  ⟨some 125, none, .pick (.tmp 119) (.tmp 124) (.lit (.d (.bool false)))⟩,
  ⟨some 126, none, .mv (.tmp 125)⟩,
  ⟨some 127, some (126, true), .faddr 0 (.tmp 19)⟩,
  ⟨some 128, some (126, true), .load false 1 (.tmp 127)⟩,
  ⟨some 129, some (126, true), .faddr 0 (.tmp 11)⟩,
  ⟨some 130, some (126, true), .load false 1 (.tmp 129)⟩,
  ⟨some 131, some (126, true), .bin .geq .plain (.tmp 128) (.tmp 130)⟩,
  ⟨some 132, none, .pick (.tmp 126) (.tmp 131) (.lit (.d (.bool false)))⟩])
 (.cond (.tmp 132) (.ops [⟨some 133, none, .mv (.tmp 13)⟩,
  ⟨some 134, none, .bin .add .plain (.tmp 133) (.lit (.d (.int .i64 1)))⟩,
  ⟨some 13, none, .mv (.tmp 134)⟩]) .skip))))))
 (.ops [⟨some 135, none, .bin .add .plain (.tmp 51) (.lit (.d (.int .i64 1)))⟩,
  ⟨some 51, none, .mv (.tmp 135)⟩])))))))
 (.seq (.seq (.ops [⟨some 136, none, .mv (.tmp 13)⟩,
  ⟨some 137, none, .mv (.tmp 0)⟩,
  ⟨some 138, none, .call 17 [(.tmp 137)]⟩,
  ⟨some 139, none, .bin .lss .plain (.tmp 136) (.tmp 138)⟩,
  ⟨some 140, none, .mv (.tmp 139)⟩,
  ⟨some 141, some (140, false), .mv (.tmp 2)⟩,
  ⟨some 142, some (140, false), .len .sl (.tmp 141)⟩,
  ⟨some 143, some (140, false), .mv (.tmp 13)⟩,
  ⟨some 144, some (140, false), .bin .sub .plain (.tmp 142) (.tmp 143)⟩,
  ⟨some 145, some (140, false), .mv (.tmp 0)⟩,
  ⟨some 146, some (140, false), .call 18 [(.tmp 145)]⟩,
  ⟨some 147, some (140, false), .bin .geq .plain (.tmp 144) (.tmp 146)⟩,
  ⟨some 148, none, .pick (.tmp 140) (.lit (.d (.bool true))) (.tmp 147)⟩])
 (.cond (.tmp 148) (.seq (.ops [⟨some 12, none, .mv (.lit (.d (.bool true)))⟩])
 .ret) .skip))
 (.seq (.ops [⟨some 21, none, .mv (.lit (.exact []))⟩])
 (.seq (.seq (.ops [⟨some 149, none, .mv (.tmp 2)⟩,
  ⟨some 150, none, .len .sl (.tmp 149)⟩,
  ⟨some 151, none, .mv (.lit (.d (.int .i64 0)))⟩])
 (.block 4 (.loop [21, 151] [23, 152, 153, 154, 155, 156, 157, 158, 159, 160, 161, 162, 163] (.seq (.ops [⟨some 152, none, .bin .lss .plain (.tmp 151) (.tmp 150)⟩])
 (.seq (.cond (.tmp 152) .skip (.exit 4))
 (.seq (.block 5 (.seq (.ops [⟨some 153, none, .iaddr none 8 (.tmp 149) (.tmp 151)⟩,
  ⟨some 154, none, .load true 8 (.tmp 153)⟩,
  ⟨some 23, none, .alloc [(.d (.int .i64 0)), (.d (.int .i64 0)), (.d (.int .i64 0)), (.d (.int .i64 0)), (.exact []), (.exact []), (.d (.int .i64 0)), (.d (.int .i64 0))]⟩,
  ⟨none, none, .store 8 (.tmp 23) (.tmp 154)⟩])
 (.seq (.ops [⟨some 155, none, .mv (.tmp 4)⟩,
  ⟨some 156, none, .faddr 1 (.tmp 23)⟩,
  ⟨some 157, none, .load false 1 (.tmp 156)⟩,
  ⟨some 158, none, .call 15 [(.tmp 155), (.tmp 157)]⟩])
 (.cond (.tmp 158) (.ops [⟨some 159, none, .mv (.tmp 21)⟩,
  ⟨some 160, none, .load true 8 (.tmp 23)⟩,
  ⟨some 161, none, .mkslice false 8 1 [(.d (.int .i64 0)), (.d (.int .i64 0)), (.d (.int .i64 0)), (.d (.int .i64 0)), (.exact []), (.exact []), (.d (.int .i64 0)), (.d (.int .i64 0))] [(0, 8, (.tmp 160))]⟩,
  ⟨some 162, none, .append 8 96 [(.d (.int .i64 0)), (.d (.int .i64 0)), (.d (.int .i64 0)), (.d (.int .i64 0)), (.exact []), (.exact []), (.d (.int .i64 0)), (.d (.int .i64 0))] (.tmp 159) (.tmp 161)⟩,
  ⟨some 21, none, .mv (.tmp 162)⟩]) .skip))))
 (.ops [⟨some 163, none, .bin .add .plain (.tmp 151) (.lit (.d (.int .i64 1)))⟩,
  ⟨some 151, none, .mv (.tmp 163)⟩])))))))
 (.seq (.ops [⟨some 165, none, .mv (.tmp 0)⟩,
  ⟨some 166, none, .mv (.tmp 1)⟩,
  ⟨some 167, none, .mv (.tmp 21)⟩,
  ⟨some 168, none, .call 6 [(.tmp 165), (.tmp 166), (.tmp 167)]⟩,
  ⟨some 164, none, .mv (.tmp 168)⟩,
  ⟨some 169, none, .extract (.tmp 164) 0⟩,
  ⟨some 170, none, .extract (.tmp 164) 1⟩,
  ⟨some 171, none, .extract (.tmp 164) 2⟩,
  ⟨some 24, none, .alloc [(.d (.int .i64 0)), (.d (.int .i64 0)), (.exact [])]⟩,
  ⟨none, none, .store 3 (.tmp 24) (.tmp 169)⟩,
  ⟨some 25, none, .mv (.tmp 170)⟩,
  ⟨some 26, none, .mv (.tmp 171)⟩])
 (.seq (.seq (.ops [⟨some 172, none, .mv (.tmp 26)⟩,
  ⟨some 173, none, .bin .neq .plain (.tmp 172) (.lit (.d (.int .i64 0)))⟩,
  ⟨some 174, none, .mv (.tmp 173)⟩,
  ⟨some 175, some (174, false), .faddr 0 (.tmp 24)⟩,
  ⟨some 176, some (174, false), .load false 1 (.tmp 175)⟩,
  ⟨some 177, some (174, false), .bin .lss .plain (.tmp 176) (.lit (.d (.int .i64 0)))⟩,
  ⟨some 178, none, .pick (.tmp 174) (.lit (.d (.bool true))) (.tmp 177)⟩,
  ⟨some 179, none, .mv (.tmp 178)⟩,
  ⟨some 180, some (179, false), .faddr 0 (.tmp 24)⟩,
  ⟨some 181, some (179, false), .load false 1 (.tmp 180)⟩,
  ⟨some 182, some (179, false), .faddr 1 (.tmp 11)⟩,
  ⟨some 183, some (179, false), .load false 1 (.tmp 182)⟩,
  ⟨some 184, some (179, false), .bin .geq .plain (.tmp 181) (.tmp 183)⟩,
  ⟨some 185, none, .pick (.tmp 179) (.lit (.d (.bool true))) (.tmp 184)⟩,
  ⟨some 186, none, .mv (.tmp 185)⟩,
  ⟨some 187, some (186, false), .faddr 1 (.tmp 11)⟩,
  ⟨some 188, some (186, false), .load false 1 (.tmp 187)⟩,
  ⟨some 189, some (186, false), .faddr 0 (.tmp 24)⟩,
  ⟨some 190, some (186, false), .load false 1 (.tmp 189)⟩,
  ⟨some 191, some (186, false), .bin .sub .plain (.tmp 188) (.tmp 190)⟩,
  ⟨some 192, some (186, false), .bin .gtr .plain (.tmp 191) (.lit (.d (.int .i64 8)))⟩,
  ⟨some 193, none, .pick (.tmp 186) (.lit (.d (.bool true))) (.tmp 192)⟩])
 (.cond (.tmp 193) (.seq (.ops [⟨some 12, none, .mv (.lit (.d (.bool true)))⟩])
 .ret) .skip))
 (.seq (.ops [⟨some 194, none, .mv (.tmp 25)⟩,
  ⟨some 195, none, .mkfn (.func 20) [] [(.tmp 11)]⟩,
  ⟨some 196, none, .call 19 [(.tmp 194), (.tmp 195)]⟩,
  ⟨some 27, none, .mv (.tmp 196)⟩])
 (.seq (.draw [⟨some 197, none, .mv (.tmp 27)⟩,
  ⟨some 198, none, .bin .geq .plain (.tmp 197) (.lit (.d (.int .i64 0)))⟩,
  ⟨some 199, none, .mv (.tmp 198)⟩,
  ⟨some 200, some (199, true), .mv (.tmp 25)⟩,
  ⟨some 201, some (199, true), .mv (.tmp 27)⟩,
  ⟨some 202, some (199, true), .iaddr none 5 (.tmp 200) (.tmp 201)⟩,
  ⟨some 203, some (199, true), .faddr 2 (.tmp 202)⟩,
  ⟨some 204, some (199, true), .load false 1 (.tmp 203)⟩,
  ⟨some 205, some (199, true), .faddr 6 (.tmp 11)⟩,
  ⟨some 206, some (199, true), .load false 1 (.tmp 205)⟩,
  ⟨some 207, some (199, true), .call 14 [(.tmp 204), (.tmp 206)]⟩,
  ⟨some 208, none, .pick (.tmp 199) (.tmp 207) (.lit (.d (.bool false)))⟩,
  ⟨some 12, none, .mv (.tmp 208)⟩] [[], [0], [1], [2], [2], [3, 4, 2], [5, 2], [6, 2], [2], [8, 2], [7, 9, 2, 2], [2, 10], [11, 10, 0, 1, 2, 3, 4, 5, 6, 7, 8, 9, 10, 11]] [(0, []), (1, []), (2, []), (3, []), (4, []), (5, []), (6, []), (7, []), (8, []), (9, []), (10, []), (11, []), (12, [])] [0, 1, 3, 7, 7, 31, 63, 127, 7, 263, 1023, 2047, 4095])
 .ret)))))))))))⟩
theorem isA_l16_NewviewKeeps : isF Try.prog n_l16_NewviewKeeps A_l16_NewviewKeeps := ⟨Try.f5, _, Try.func5, by decide +kernel, rfl, by kernel_rfl, by kernel_rfl, by decide, by kernel_rfl, rfl, by kernel_rfl⟩
/-- bulla/newview.Select -/
def A_newview_Select : AF := ⟨3, 123, [(.cell 6 true 3), (.tmp 7), (.tmp 8)],
 (.seq (.ops [⟨some 6, none, .alloc [(.d (.int .i64 0)), (.d (.int .i64 0)), (.exact [])]⟩,
  ⟨some 7, none, .mv (.lit (.exact []))⟩,
  ⟨some 8, none, .mv (.lit (.d (.int .i64 0)))⟩])
 (.seq (.seq (.ops [⟨some 22, none, .mv (.tmp 0)⟩,
  ⟨some 23, none, .mv (.tmp 1)⟩,
  ⟨some 24, none, .mv (.tmp 2)⟩,
  ⟨some 25, none, .call 21 [(.tmp 22), (.tmp 23), (.tmp 24)]⟩,
  ⟨some 9, none, .mv (.tmp 25)⟩])
 (.seq (.ops [⟨some 26, none, .mv (.tmp 9)⟩,
  ⟨some 27, none, .bin .neq .plain (.tmp 26) (.lit (.d (.int .i64 0)))⟩])
 (.cond (.tmp 27) (.seq (.ops [⟨some 28, none, .build [(.d (.int .i64 0)), (.d (.int .i64 0)), (.exact [])] []⟩,
  ⟨some 29, none, .mv (.tmp 9)⟩,
  ⟨none, none, .store 3 (.tmp 6) (.tmp 28)⟩,
  ⟨some 7, none, .mv (.lit (.exact []))⟩,
  ⟨some 8, none, .mv (.tmp 29)⟩])
 .ret) .skip)))
 (.seq (.ops [⟨some 30, none, .mv (.tmp 2)⟩,
  ⟨some 31, none, .iaddr none 8 (.tmp 30) (.lit (.d (.int .i64 0)))⟩,
  ⟨some 32, none, .faddr 2 (.tmp 31)⟩,
  ⟨some 33, none, .load true 3 (.tmp 32)⟩,
  ⟨some 10, none, .alloc [(.d (.int .i64 0)), (.d (.int .i64 0)), (.exact [])]⟩,
  ⟨none, none, .store 3 (.tmp 10) (.tmp 33)⟩])
 (.seq (.ops [⟨some 34, none, .mkmap⟩,
  ⟨some 11, none, .mv (.tmp 34)⟩])
 (.seq (.ops [⟨some 12, none, .mv (.lit (.d (.int .i64 0)))⟩])
 (.seq (.seq (.ops [⟨some 35, none, .mv (.tmp 2)⟩,
  ⟨some 36, none, .len .sl (.tmp 35)⟩,
  ⟨some 37, none, .mv (.lit (.d (.int .i64 0)))⟩])
 (.block 0 (.loop [12, 37] [14, 16, 17, 18, 38, 39, 40, 41, 42, 43, 44, 45, 46, 47, 48, 49, 50, 51, 52, 53, 54, 55, 56, 57, 58, 59, 60, 61, 62, 63, 64, 65, 66, 67, 68, 69, 70, 71, 72, 73, 74, 75, 76, 77, 78, 79, 80, 81] (.seq (.ops [⟨some 38, none, .bin .lss .plain (.tmp 37) (.tmp 36)⟩])
 (.seq (.cond (.tmp 38) .skip (.exit 0))
 (.seq (.block 1 (.seq (.ops [⟨some 39, none, .iaddr none 8 (.tmp 35) (.tmp 37)⟩,
  ⟨some 40, none, .load true 8 (.tmp 39)⟩,
  ⟨some 14, none, .alloc [(.d (.int .i64 0)), (.d (.int .i64 0)), (.d (.int .i64 0)), (.d (.int .i64 0)), (.exact []), (.exact []), (.d (.int .i64 0)), (.d (.int .i64 0))]⟩,
  ⟨none, none, .store 8 (.tmp 14) (.tmp 40)⟩])
 (.seq (.seq (.ops [⟨some 41, none, .faddr 2 (.tmp 14)⟩,
  ⟨some 42, none, .faddr 0 (.tmp 41)⟩,
  ⟨some 43, none, .load false 1 (.tmp 42)⟩,
  ⟨some 44, none, .faddr 0 (.tmp 10)⟩,
  ⟨some 45, none, .load false 1 (.tmp 44)⟩,
  ⟨some 46, none, .bin .gtr .plain (.tmp 43) (.tmp 45)⟩])
 (.cond (.tmp 46) (.ops [⟨some 47, none, .faddr 2 (.tmp 14)⟩,
  ⟨some 48, none, .load true 3 (.tmp 47)⟩,
  ⟨none, none, .store 3 (.tmp 10) (.tmp 48)⟩]) .skip))
 (.seq (.ops [⟨some 49, none, .faddr 5 (.tmp 14)⟩,
  ⟨some 50, none, .load false 1 (.tmp 49)⟩,
  ⟨some 51, none, .len .sl (.tmp 50)⟩,
  ⟨some 52, none, .mv (.lit (.d (.int .i64 0)))⟩])
 (.block 2 (.loop [12, 52] [16, 17, 18, 53, 54, 55, 56, 57, 58, 59, 60, 61, 62, 63, 64, 65, 66, 67, 68, 69, 70, 71, 72, 73, 74, 75, 76, 77, 78, 79, 80] (.seq (.ops [⟨some 53, none, .bin .lss .plain (.tmp 52) (.tmp 51)⟩])
 (.seq (.cond (.tmp 53) .skip (.exit 2))
 (.seq (.block 3 (.seq (.ops [⟨some 54, none, .iaddr none 7 (.tmp 50) (.tmp 52)⟩,
  ⟨some 55, none, .load true 7 (.tmp 54)⟩,
  ⟨some 16, none, .alloc [(.d (.int .i64 0)), (.d (.int .i64 0)), (.d (.int .i64 0)), (.d (.int .i64 0)), (.d (.int .i64 0)), (.exact []), (.exact [])]⟩,
  ⟨none, none, .store 7 (.tmp 16) (.tmp 55)⟩])
 (.seq (.seq (.ops [⟨some 57, none, .mv (.tmp 11)⟩,
  ⟨some 58, none, .faddr 1 (.tmp 16)⟩,
  ⟨some 59, none, .load false 1 (.tmp 58)⟩,
  ⟨some 60, none, .mget .int true (.agg [(.d (.int .i64 0)), (.d (.int .i64 0)), (.d (.int .i64 0)), (.d (.int .i64 0)), (.d (.int .i64 0)), (.exact []), (.exact [])]) (.tmp 57) (.tmp 59)⟩,
  ⟨some 56, none, .mv (.tmp 60)⟩,
  ⟨some 61, none, .extract (.tmp 56) 0⟩,
  ⟨some 62, none, .extract (.tmp 56) 1⟩,
  ⟨some 17, none, .alloc [(.d (.int .i64 0)), (.d (.int .i64 0)), (.d (.int .i64 0)), (.d (.int .i64 0)), (.d (.int .i64 0)), (.exact []), (.exact [])]⟩,
  ⟨none, none, .store 7 (.tmp 17) (.tmp 61)⟩,
  ⟨some 18, none, .mv (.tmp 62)⟩])
 (.seq (.ops [⟨some 63, none, .mv (.tmp 18)⟩,
  ⟨some 64, none, .un .not (.tmp 63)⟩,
  ⟨some 65, none, .mv (.tmp 64)⟩,
  ⟨some 66, some (65, false), .faddr 0 (.tmp 16)⟩,
  ⟨some 67, some (65, false), .load false 1 (.tmp 66)⟩,
  ⟨some 68, some (65, false), .faddr 0 (.tmp 17)⟩,
  ⟨some 69, some (65, false), .load false 1 (.tmp 68)⟩,
  ⟨some 70, some (65, false), .bin .gtr .plain (.tmp 67) (.tmp 69)⟩,
  ⟨some 71, none, .pick (.tmp 65) (.lit (.d (.bool true))) (.tmp 70)⟩])
 (.cond (.tmp 71) (.ops [⟨some 72, none, .mv (.tmp 11)⟩,
  ⟨some 73, none, .faddr 1 (.tmp 16)⟩,
  ⟨some 74, none, .load false 1 (.tmp 73)⟩,
  ⟨some 75, none, .load true 7 (.tmp 16)⟩,
  ⟨none, none, .mset .int (.tmp 72) (.tmp 74) (.tmp 75)⟩]) .skip)))
 (.ops [⟨some 76, none, .mv (.tmp 12)⟩,
  ⟨some 77, none, .faddr 1 (.tmp 16)⟩,
  ⟨some 78, none, .load false 1 (.tmp 77)⟩,
  ⟨some 79, none, .maxi [(.tmp 76), (.tmp 78)]⟩,
  ⟨some 12, none, .mv (.tmp 79)⟩]))))
 (.ops [⟨some 80, none, .bin .add .plain (.tmp 52) (.lit (.d (.int .i64 1)))⟩,
  ⟨some 52, none, .mv (.tmp 80)⟩]))))))))))
 (.ops [⟨some 81, none, .bin .add .plain (.tmp 37) (.lit (.d (.int .i64 1)))⟩,
  ⟨some 37, none, .mv (.tmp 81)⟩])))))))
 (.seq (.ops [⟨some 82, none, .faddr 2 (.tmp 10)⟩,
  ⟨some 83, none, .load false 1 (.tmp 82)⟩,
  ⟨some 84, none, .append 2 16 [(.d (.int .i64 0)), (.d (.int .i64 0))] (.lit (.exact [])) (.tmp 83)⟩,
  ⟨some 85, none, .faddr 2 (.tmp 10)⟩,
  ⟨none, none, .store 1 (.tmp 85) (.tmp 84)⟩])
 (.seq (.seq (.ops [⟨some 86, none, .faddr 0 (.tmp 10)⟩,
  ⟨some 87, none, .load false 1 (.tmp 86)⟩,
  ⟨some 88, none, .bin .lss .plain (.tmp 87) (.lit (.d (.int .i64 0)))⟩,
  ⟨some 89, none, .mv (.tmp 88)⟩,
  ⟨some 90, some (89, false), .mv (.tmp 12)⟩,
  ⟨some 91, some (89, false), .faddr 0 (.tmp 10)⟩,
  ⟨some 92, some (89, false), .load false 1 (.tmp 91)⟩,
  ⟨some 93, some (89, false), .bin .leq .plain (.tmp 90) (.tmp 92)⟩,
  ⟨some 94, none, .pick (.tmp 89) (.lit (.d (.bool true))) (.tmp 93)⟩])
 (.cond (.tmp 94) (.seq (.ops [⟨some 95, none, .load true 3 (.tmp 10)⟩,
  ⟨none, none, .store 3 (.tmp 6) (.tmp 95)⟩,
  ⟨some 7, none, .mv (.lit (.exact []))⟩,
  ⟨some 8, none, .mv (.lit (.d (.int .i64 0)))⟩])
 .ret) .skip))
 (.seq (.ops [⟨some 19, none, .mv (.lit (.exact []))⟩])
 (.seq (.seq (.ops [⟨some 96, none, .mv (.tmp 12)⟩,
  ⟨some 97, none, .faddr 0 (.tmp 10)⟩,
  ⟨some 98, none, .load false 1 (.tmp 97)⟩,
  ⟨some 99, none, .bin .sub .plain (.tmp 96) (.tmp 98)⟩,
  ⟨some 100, none, .mini [(.tmp 99), (.lit (.d (.int .i64 8)))]⟩,
  ⟨some 101, none, .mv (.lit (.d (.int .i64 0)))⟩])
 (.block 4 (.loop [19, 101] [20, 21, 102, 103, 104, 105, 106, 107, 108, 109, 110, 111, 112, 113, 114, 115, 116, 117, 118, 119, 120] (.seq (.ops [⟨some 102, none, .bin .lss .plain (.tmp 101) (.tmp 100)⟩])
 (.seq (.cond (.tmp 102) .skip (.exit 4))
 (.seq (.block 5 (.seq (.ops [⟨some 103, none, .mv (.tmp 101)⟩,
  ⟨some 20, none, .mv (.tmp 103)⟩])
 (.seq (.ops [⟨some 104, none, .faddr 0 (.tmp 10)⟩,
  ⟨some 105, none, .load false 1 (.tmp 104)⟩,
  ⟨some 106, none, .mv (.tmp 20)⟩,
  ⟨some 107, none, .bin .add .plain (.tmp 105) (.tmp 106)⟩,
  ⟨some 108, none, .bin .add .plain (.tmp 107) (.lit (.d (.int .i64 1)))⟩,
  ⟨some 21, none, .mv (.tmp 108)⟩])
 (.ops [⟨some 109, none, .mv (.tmp 19)⟩,
  ⟨some 110, none, .mv (.tmp 1)⟩,
  ⟨some 111, none, .mv (.tmp 21)⟩,
  ⟨some 112, none, .mv (.tmp 11)⟩,
  ⟨some 113, none, .mv (.tmp 21)⟩,
  ⟨some 114, none, .mget .int false (.agg [(.d (.int .i64 0)), (.d (.int .i64 0)), (.d (.int .i64 0)), (.d (.int .i64 0)), (.d (.int .i64 0)), (.exact []), (.exact [])]) (.tmp 112) (.tmp 113)⟩,
  ⟨some 115, none, .field false 6 1 (.tmp 114)⟩,
  ⟨some 116, none, .call 22 [(.tmp 115)]⟩,
  ⟨some 117, none, .build [(.d (.int .i64 0)), (.d (.int .i64 0)), (.exact []), (.d (.int .i64 0)), (.d (.int .i64 0))] [(0, 1, (.tmp 110)), (1, 1, (.tmp 111)), (2, 1, (.tmp 116))]⟩,
  ⟨some 118, none, .mkslice false 5 1 [(.d (.int .i64 0)), (.d (.int .i64 0)), (.exact []), (.d (.int .i64 0)), (.d (.int .i64 0))] [(0, 5, (.tmp 117))]⟩,
  ⟨some 119, none, .append 5 56 [(.d (.int .i64 0)), (.d (.int .i64 0)), (.exact []), (.d (.int .i64 0)), (.d (.int .i64 0))] (.tmp 109) (.tmp 118)⟩,
  ⟨some 19, none, .mv (.tmp 119)⟩]))))
 (.ops [⟨some 120, none, .bin .add .plain (.tmp 101) (.lit (.d (.int .i64 1)))⟩,
  ⟨some 101, none, .mv (.tmp 120)⟩])))))))
 (.seq (.ops [⟨some 121, none, .load true 3 (.tmp 10)⟩,
  ⟨some 122, none, .mv (.tmp 19)⟩,
  ⟨none, none, .store 3 (.tmp 6) (.tmp 121)⟩,
  ⟨some 7, none, .mv (.tmp 122)⟩,
  ⟨some 8, none, .mv (.lit (.d (.int .i64 0)))⟩])
 .ret)))))))))))⟩
theorem isA_newview_Select : isF Try.prog n_newview_Select A_newview_Select := ⟨Try.f6, _, Try.func6, by decide +kernel, rfl, by kernel_rfl, by kernel_rfl, by decide, by kernel_rfl, rfl, by kernel_rfl⟩
/-- bulla/bullaref16.Select -/
def A_r16_Select : AF := ⟨3, 161, [(.cell 6 true 3), (.tmp 7), (.tmp 8)],
 (.seq (.ops [⟨some 6, none, .alloc [(.d (.int .i64 0)), (.d (.int .i64 0)), (.exact [])]⟩,
  ⟨some 7, none, .mv (.lit (.exact []))⟩,
  ⟨some 8, none, .mv (.lit (.d (.int .i64 0)))⟩])
 (.seq (.seq (.ops [⟨some 18, none, .mv (.tmp 0)⟩,
  ⟨some 19, none, .call 11 [(.tmp 18)]⟩,
  ⟨some 9, none, .mv (.tmp 19)⟩])
 (.seq (.ops [⟨some 20, none, .mv (.tmp 9)⟩,
  ⟨some 21, none, .bin .neq .plain (.tmp 20) (.lit (.d (.int .i64 0)))⟩])
 (.cond (.tmp 21) (.seq (.ops [⟨some 22, none, .build [(.d (.int .i64 0)), (.d (.int .i64 0)), (.exact [])] []⟩,
  ⟨some 23, none, .mv (.tmp 9)⟩,
  ⟨none, none, .store 3 (.tmp 6) (.tmp 22)⟩,
  ⟨some 7, none, .mv (.lit (.exact []))⟩,
  ⟨some 8, none, .mv (.tmp 23)⟩])
 .ret) .skip)))
 (.seq (.seq (.ops [⟨some 24, none, .mv (.tmp 1)⟩,
  ⟨some 25, none, .bin .lss .plain (.tmp 24) (.lit (.d (.int .i64 1)))⟩,
  ⟨some 26, none, .mv (.tmp 25)⟩,
  ⟨some 27, some (26, false), .mv (.tmp 1)⟩,
  ⟨some 28, some (26, false), .bin .gtr .plain (.tmp 27) (.lit (.d (.int .i64 9007199254740992)))⟩,
  ⟨some 29, none, .pick (.tmp 26) (.lit (.d (.bool true))) (.tmp 28)⟩])
 (.cond (.tmp 29) (.seq (.ops [⟨some 30, none, .build [(.d (.int .i64 0)), (.d (.int .i64 0)), (.exact [])] []⟩,
  ⟨none, none, .store 3 (.tmp 6) (.tmp 30)⟩,
  ⟨some 7, none, .mv (.lit (.exact []))⟩,
  ⟨some 8, none, .mv (.lit (.d (.int .i64 1)))⟩])
 .ret) .skip))
 (.seq (.seq (.ops [⟨some 10, none, .mv (.lit (.d (.int .i64 0)))⟩])
 (.block 0 (.loop [10] [7, 8, 31, 32, 33, 34, 35, 36, 37, 38, 39, 40, 41, 42, 43, 44, 45, 46, 47, 48, 49, 50, 51, 52, 53, 54, 55, 56, 57, 58, 59, 60, 61, 62, 63, 64, 65, 66, 67, 68, 69, 70, 71] (.seq (.seq (.ops [⟨some 31, none, .mv (.tmp 10)⟩,
  ⟨some 32, none, .mv (.tmp 2)⟩,
  ⟨some 33, none, .len .sl (.tmp 32)⟩,
  ⟨some 34, none, .bin .lss .plain (.tmp 31) (.tmp 33)⟩])
 (.cond (.tmp 34) .skip (.exit 0)))
 (.seq (.block 1 (.seq (.draw [⟨some 37, none, .mv (.tmp 2)⟩,
  ⟨some 38, none, .mv (.tmp 10)⟩,
  ⟨some 39, none, .iaddr none 8 (.tmp 37) (.tmp 38)⟩,
  ⟨some 40, none, .faddr 1 (.tmp 39)⟩,
  ⟨some 41, none, .load false 1 (.tmp 40)⟩,
  ⟨some 42, none, .bin .lss .plain (.tmp 41) (.lit (.d (.int .i64 0)))⟩,
  ⟨some 43, none, .mv (.tmp 42)⟩,
  ⟨some 44, some (43, false), .mv (.tmp 2)⟩,
  ⟨some 45, some (43, false), .mv (.tmp 10)⟩,
  ⟨some 46, some (43, false), .iaddr none 8 (.tmp 44) (.tmp 45)⟩,
  ⟨some 47, some (43, false), .faddr 1 (.tmp 46)⟩,
  ⟨some 48, some (43, false), .load false 1 (.tmp 47)⟩,
  ⟨some 49, some (43, false), .mv (.tmp 0)⟩,
  ⟨some 50, some (43, false), .call 13 [(.tmp 49)]⟩,
  ⟨some 51, some (43, false), .bin .geq .plain (.tmp 48) (.tmp 50)⟩,
  ⟨some 52, none, .pick (.tmp 43) (.lit (.d (.bool true))) (.tmp 51)⟩,
  ⟨some 53, none, .mv (.tmp 52)⟩,
  ⟨some 54, some (53, false), .mv (.tmp 10)⟩,
  ⟨some 55, some (53, false), .bin .gtr .plain (.tmp 54) (.lit (.d (.int .i64 0)))⟩,
  ⟨some 56, some (53, false), .mv (.tmp 55)⟩,
  ⟨some 57, some (56, true), .mv (.tmp 2)⟩,
  ⟨some 58, some (56, true), .mv (.tmp 10)⟩,
  ⟨some 59, some (56, true), .iaddr none 8 (.tmp 57) (.tmp 58)⟩,
  ⟨some 60, some (56, true), .faddr 1 (.tmp 59)⟩,
  ⟨some 61, some (56, true), .load false 1 (.tmp 60)⟩,
  ⟨some 62, some (56, true), .mv (.tmp 2)⟩,
  ⟨some 63, some (56, true), .mv (.tmp 10)⟩,
  ⟨some 64, some (56, true), .bin .sub .plain (.tmp 63) (.lit (.d (.int .i64 1)))⟩,
  ⟨some 65, some (56, true), .iaddr none 8 (.tmp 62) (.tmp 64)⟩,
  ⟨some 66, some (56, true), .faddr 1 (.tmp 65)⟩,
  ⟨some 67, some (56, true), .load false 1 (.tmp 66)⟩,
  ⟨some 68, some (56, true), .bin .leq .plain (.tmp 61) (.tmp 67)⟩,
  ⟨some 69, some (53, false), .pick (.tmp 56) (.tmp 68) (.lit (.d (.bool false)))⟩,
  ⟨some 70, none, .pick (.tmp 53) (.lit (.d (.bool true))) (.tmp 69)⟩] [[], [], [0, 1], [2], [3], [4], [5], [6], [6], [7, 8, 6], [9, 6], [10, 6], [6], [12, 6, 6], [11, 13, 6], [6, 14], [15, 13], [16], [17, 16], [18, 16, 16], [19], [19], [20, 21, 19], [22, 19], [23, 19], [19], [19], [26, 19], [25, 27, 19], [28, 19], [29, 19], [24, 30, 19], [19, 31, 16], [16, 32]] [(0, []), (1, []), (2, []), (3, []), (4, []), (5, []), (6, []), (7, []), (8, []), (9, []), (10, []), (11, []), (12, []), (13, [47]), (14, []), (15, []), (16, []), (17, []), (18, []), (19, []), (20, []), (21, []), (22, []), (23, []), (24, []), (25, []), (26, []), (27, []), (28, []), (29, []), (30, []), (31, []), (32, []), (33, [])] [0, 0, 3, 7, 15, 31, 63, 127, 127, 511, 1023, 2047, 127, 4223, 16383, 32767, 65535, 131071, 262143, 524287, 1048575, 1048575, 4194303, 8388607, 16777215, 1048575, 1048575, 68157439, 235929599, 504365055, 1041235967, 2147483647, 4294967295, 8589934591])
 (.cond (.tmp 70) (.seq (.ops [⟨some 71, none, .build [(.d (.int .i64 0)), (.d (.int .i64 0)), (.exact [])] []⟩,
  ⟨none, none, .store 3 (.tmp 6) (.tmp 71)⟩,
  ⟨some 7, none, .mv (.lit (.exact []))⟩,
  ⟨some 8, none, .mv (.lit (.d (.int .i64 1)))⟩])
 .ret) .skip)))
 (.ops [⟨some 35, none, .mv (.tmp 10)⟩,
  ⟨some 36, none, .bin .add .plain (.tmp 35) (.lit (.d (.int .i64 1)))⟩,
  ⟨some 10, none, .mv (.tmp 36)⟩]))))))
 (.seq (.seq (.ops [⟨some 72, none, .mv (.tmp 2)⟩,
  ⟨some 73, none, .len .sl (.tmp 72)⟩,
  ⟨some 74, none, .mv (.tmp 0)⟩,
  ⟨some 75, none, .call 18 [(.tmp 74)]⟩,
  ⟨some 76, none, .bin .lss .plain (.tmp 73) (.tmp 75)⟩])
 (.cond (.tmp 76) (.seq (.ops [⟨some 77, none, .build [(.d (.int .i64 0)), (.d (.int .i64 0)), (.exact [])] []⟩,
  ⟨none, none, .store 3 (.tmp 6) (.tmp 77)⟩,
  ⟨some 7, none, .mv (.lit (.exact []))⟩,
  ⟨some 8, none, .mv (.lit (.d (.int .i64 160)))⟩])
 .ret) .skip))
 (.seq (.ops [⟨some 78, none, .mv (.tmp 2)⟩,
  ⟨some 79, none, .iaddr none 8 (.tmp 78) (.lit (.d (.int .i64 0)))⟩,
  ⟨some 80, none, .faddr 2 (.tmp 79)⟩,
  ⟨some 81, none, .load true 3 (.tmp 80)⟩,
  ⟨some 11, none, .alloc [(.d (.int .i64 0)), (.d (.int .i64 0)), (.exact [])]⟩,
  ⟨none, none, .store 3 (.tmp 11) (.tmp 81)⟩])
 (.seq (.ops [⟨some 12, none, .mv (.lit (.d (.int .i64 0)))⟩])
 (.seq (.seq (.ops [⟨some 13, none, .mv (.lit (.d (.int .i64 0)))⟩])
 (.block 2 (.loop [12, 13] [14, 82, 83, 84, 85, 86, 87, 88, 89, 90, 91, 92, 93, 94, 95, 96, 97, 98, 99, 100, 101, 102, 103, 104, 105, 106, 107, 108, 109, 110, 111, 112, 113, 114, 115, 116, 117, 118, 119, 120, 121, 122] (.seq (.seq (.ops [⟨some 82, none, .mv (.tmp 13)⟩,
  ⟨some 83, none, .mv (.tmp 2)⟩,
  ⟨some 84, none, .len .sl (.tmp 83)⟩,
  ⟨some 85, none, .bin .lss .plain (.tmp 82) (.tmp 84)⟩])
 (.cond (.tmp 85) .skip (.exit 2)))
 (.seq (.block 3 (.seq (.seq (.draw [⟨some 88, none, .mv (.tmp 2)⟩,
  ⟨some 89, none, .mv (.tmp 13)⟩,
  ⟨some 90, none, .iaddr none 8 (.tmp 88) (.tmp 89)⟩,
  ⟨some 91, none, .faddr 2 (.tmp 90)⟩,
  ⟨some 92, none, .faddr 0 (.tmp 91)⟩,
  ⟨some 93, none, .load false 1 (.tmp 92)⟩,
  ⟨some 94, none, .faddr 0 (.tmp 11)⟩,
  ⟨some 95, none, .load false 1 (.tmp 94)⟩,
  ⟨some 96, none, .bin .gtr .plain (.tmp 93) (.tmp 95)⟩] [[], [], [0, 1], [2], [3], [4], [], [6], [5, 7]] [(0, []), (1, []), (2, []), (3, []), (4, []), (5, []), (6, []), (7, []), (8, [])] [0, 0, 3, 7, 15, 31, 0, 64, 255])
 (.cond (.tmp 96) (.ops [⟨some 97, none, .mv (.tmp 2)⟩,
  ⟨some 98, none, .mv (.tmp 13)⟩,
  ⟨some 99, none, .iaddr none 8 (.tmp 97) (.tmp 98)⟩,
  ⟨some 100, none, .faddr 2 (.tmp 99)⟩,
  ⟨some 101, none, .load true 3 (.tmp 100)⟩,
  ⟨none, none, .store 3 (.tmp 11) (.tmp 101)⟩]) .skip))
 (.seq (.ops [⟨some 14, none, .mv (.lit (.d (.int .i64 0)))⟩])
 (.block 4 (.loop [12, 14] [102, 103, 104, 105, 106, 107, 108, 109, 110, 111, 112, 113, 114, 115, 116, 117, 118, 119, 120, 121, 122] (.seq (.seq (.ops [⟨some 102, none, .mv (.tmp 14)⟩,
  ⟨some 103, none, .mv (.tmp 2)⟩,
  ⟨some 104, none, .mv (.tmp 13)⟩,
  ⟨some 105, none, .iaddr none 8 (.tmp 103) (.tmp 104)⟩,
  ⟨some 106, none, .faddr 5 (.tmp 105)⟩,
  ⟨some 107, none, .load false 1 (.tmp 106)⟩,
  ⟨some 108, none, .len .sl (.tmp 107)⟩,
  ⟨some 109, none, .bin .lss .plain (.tmp 102) (.tmp 108)⟩])
 (.cond (.tmp 109) .skip (.exit 4)))
 (.seq (.block 5 (.ops [⟨some 112, none, .mv (.tmp 12)⟩,
  ⟨some 113, none, .mv (.tmp 2)⟩,
  ⟨some 114, none, .mv (.tmp 13)⟩,
  ⟨some 115, none, .iaddr none 8 (.tmp 113) (.tmp 114)⟩,
  ⟨some 116, none, .faddr 5 (.tmp 115)⟩,
  ⟨some 117, none, .load false 1 (.tmp 116)⟩,
  ⟨some 118, none, .mv (.tmp 14)⟩,
  ⟨some 119, none, .iaddr none 7 (.tmp 117) (.tmp 118)⟩,
  ⟨some 120, none, .faddr 1 (.tmp 119)⟩,
  ⟨some 121, none, .load false 1 (.tmp 120)⟩,
  ⟨some 122, none, .maxi [(.tmp 112), (.tmp 121)]⟩,
  ⟨some 12, none, .mv (.tmp 122)⟩]))
 (.ops [⟨some 110, none, .mv (.tmp 14)⟩,
  ⟨some 111, none, .bin .add .plain (.tmp 110) (.lit (.d (.int .i64 1)))⟩,
  ⟨some 14, none, .mv (.tmp 111)⟩]))))))))
 (.ops [⟨some 86, none, .mv (.tmp 13)⟩,
  ⟨some 87, none, .bin .add .plain (.tmp 86) (.lit (.d (.int .i64 1)))⟩,
  ⟨some 13, none, .mv (.tmp 87)⟩]))))))
 (.seq (.ops [⟨some 15, none, .mv (.lit (.exact []))⟩])
 (.seq (.seq (.ops [⟨some 123, none, .faddr 0 (.tmp 11)⟩,
  ⟨some 124, none, .load false 1 (.tmp 123)⟩,
  ⟨some 125, none, .bin .lss .plain (.tmp 124) (.lit (.d (.int .i64 0)))⟩,
  ⟨some 126, none, .mv (.tmp 125)⟩,
  ⟨some 127, some (126, false), .mv (.tmp 12)⟩,
  ⟨some 128, some (126, false), .faddr 0 (.tmp 11)⟩,
  ⟨some 129, some (126, false), .load false 1 (.tmp 128)⟩,
  ⟨some 130, some (126, false), .bin .leq .plain (.tmp 127) (.tmp 129)⟩,
  ⟨some 131, none, .pick (.tmp 126) (.lit (.d (.bool true))) (.tmp 130)⟩])
 (.cond (.tmp 131) (.seq (.ops [⟨some 132, none, .load true 3 (.tmp 11)⟩,
  ⟨none, none, .store 3 (.tmp 6) (.tmp 132)⟩,
  ⟨some 7, none, .mv (.lit (.exact []))⟩,
  ⟨some 8, none, .mv (.lit (.d (.int .i64 0)))⟩])
 .ret) .skip))
 (.seq (.seq (.ops [⟨some 16, none, .mv (.lit (.d (.int .i64 0)))⟩])
 (.block 6 (.loop [15, 16] [17, 133, 134, 135, 136, 137, 138, 139, 140, 141, 142, 143, 144, 145, 146, 147, 148, 149, 150, 151, 152, 153, 154, 155, 156, 157, 158] (.seq (.seq (.ops [⟨some 133, none, .mv (.tmp 16)⟩,
  ⟨some 134, none, .bin .lss .plain (.tmp 133) (.lit (.d (.int .i64 8)))⟩,
  ⟨some 135, none, .mv (.tmp 134)⟩,
  ⟨some 136, some (135, true), .mv (.tmp 16)⟩,
  ⟨some 137, some (135, true), .mv (.tmp 12)⟩,
  ⟨some 138, some (135, true), .faddr 0 (.tmp 11)⟩,
  ⟨some 139, some (135, true), .load false 1 (.tmp 138)⟩,
  ⟨some 140, some (135, true), .bin .sub .plain (.tmp 137) (.tmp 139)⟩,
  ⟨some 141, some (135, true), .bin .lss .plain (.tmp 136) (.tmp 140)⟩,
  ⟨some 142, none, .pick (.tmp 135) (.tmp 141) (.lit (.d (.bool false)))⟩])
 (.cond (.tmp 142) .skip (.exit 6)))
 (.seq (.block 7 (.seq (.ops [⟨some 145, none, .faddr 0 (.tmp 11)⟩,
  ⟨some 146, none, .load false 1 (.tmp 145)⟩,
  ⟨some 147, none, .mv (.tmp 16)⟩,
  ⟨some 148, none, .bin .add .plain (.tmp 146) (.tmp 147)⟩,
  ⟨some 149, none, .bin .add .plain (.tmp 148) (.lit (.d (.int .i64 1)))⟩,
  ⟨some 17, none, .mv (.tmp 149)⟩])
 (.ops [⟨some 150, none, .mv (.tmp 15)⟩,
  ⟨some 151, none, .mv (.tmp 1)⟩,
  ⟨some 152, none, .mv (.tmp 17)⟩,
  ⟨some 153, none, .mv (.tmp 2)⟩,
  ⟨some 154, none, .mv (.tmp 17)⟩,
  ⟨some 155, none, .call 23 [(.tmp 153), (.tmp 154)]⟩,
  ⟨some 156, none, .build [(.d (.int .i64 0)), (.d (.int .i64 0)), (.exact []), (.d (.int .i64 0)), (.d (.int .i64 0))] [(0, 1, (.tmp 151)), (1, 1, (.tmp 152)), (2, 1, (.tmp 155))]⟩,
  ⟨some 157, none, .mkslice false 5 1 [(.d (.int .i64 0)), (.d (.int .i64 0)), (.exact []), (.d (.int .i64 0)), (.d (.int .i64 0))] [(0, 5, (.tmp 156))]⟩,
  ⟨some 158, none, .append 5 56 [(.d (.int .i64 0)), (.d (.int .i64 0)), (.exact []), (.d (.int .i64 0)), (.d (.int .i64 0))] (.tmp 150) (.tmp 157)⟩,
  ⟨some 15, none, .mv (.tmp 158)⟩])))
 (.ops [⟨some 143, none, .mv (.tmp 16)⟩,
  ⟨some 144, none, .bin .add .plain (.tmp 143) (.lit (.d (.int .i64 1)))⟩,
  ⟨some 16, none, .mv (.tmp 144)⟩]))))))
 (.seq (.ops [⟨some 159, none, .load true 3 (.tmp 11)⟩,
  ⟨some 160, none, .mv (.tmp 15)⟩,
  ⟨none, none, .store 3 (.tmp 6) (.tmp 159)⟩,
  ⟨some 7, none, .mv (.tmp 160)⟩,
  ⟨some 8, none, .mv (.lit (.d (.int .i64 0)))⟩])
 .ret))))))))))))⟩
theorem isA_r16_Select : isF Try.prog n_r16_Select A_r16_Select := ⟨Try.f7, _, Try.func7, by decide +kernel, rfl, by kernel_rfl, by kernel_rfl, by decide, by kernel_rfl, rfl, by kernel_rfl⟩
/-- bulla/bullalaw16.begun -/
def A_l16_begun : AF := ⟨0, 72, [(.tmp 0)],
 (.seq (.ops [⟨some 0, none, .mv (.lit (.d (.bool false)))⟩])
 (.seq (.ops [⟨some 6, none, .build [(.d (.int .i64 0)), (.d (.int .i64 0)), (.d (.int .i64 0)), (.d (.str [])), (.d (.str [])), (.d (.int .i64 0)), (.exact [])] [(0, 1, (.lit (.d (.int .i64 1)))), (1, 1, (.lit (.d (.int .i64 1))))]⟩,
  ⟨some 7, none, .build [(.d (.int .i64 0)), (.d (.int .i64 0))] [(0, 1, (.lit (.d (.int .i64 14)))), (1, 1, (.lit (.d (.int .i64 1))))]⟩,
  ⟨some 8, none, .build [(.d (.int .i64 0)), (.d (.int .i64 0)), (.d (.int .i64 0)), (.d (.str [])), (.d (.str [])), (.d (.int .i64 0)), (.exact []), (.d (.int .i64 0)), (.d (.int .i64 0))] [(0, 7, (.tmp 6)), (7, 2, (.tmp 7))]⟩,
  ⟨some 9, none, .mkslice false 9 1 [(.d (.int .i64 0)), (.d (.int .i64 0)), (.d (.int .i64 0)), (.d (.str [])), (.d (.str [])), (.d (.int .i64 0)), (.exact []), (.d (.int .i64 0)), (.d (.int .i64 0))] [(0, 9, (.tmp 8))]⟩,
  ⟨some 1, none, .mv (.tmp 9)⟩])
 (.seq (.ops [⟨some 10, none, .mv (.tmp 1)⟩,
  ⟨some 11, none, .build [(.d (.int .i64 0)), (.d (.int .i64 0)), (.d (.int .i64 0)), (.d (.int .i64 0)), (.d (.int .i64 0)), (.exact []), (.exact [])] [(1, 1, (.lit (.d (.int .i64 1)))), (6, 1, (.tmp 10))]⟩,
  ⟨some 12, none, .build [(.d (.int .i64 0)), (.d (.int .i64 0)), (.d (.int .i64 0)), (.d (.int .i64 0)), (.d (.int .i64 0)), (.exact []), (.exact [])] [(1, 1, (.lit (.d (.int .i64 3))))]⟩,
  ⟨some 13, none, .mkslice false 7 2 [(.d (.int .i64 0)), (.d (.int .i64 0)), (.d (.int .i64 0)), (.d (.int .i64 0)), (.d (.int .i64 0)), (.exact []), (.exact [])] [(0, 7, (.tmp 11)), (7, 7, (.tmp 12))]⟩,
  ⟨some 14, none, .build [(.d (.int .i64 0)), (.d (.int .i64 0)), (.d (.int .i64 0)), (.d (.int .i64 0)), (.exact []), (.exact []), (.d (.int .i64 0)), (.d (.int .i64 0))] [(1, 1, (.lit (.d (.int .i64 0)))), (5, 1, (.tmp 13))]⟩,
  ⟨some 15, none, .build [(.d (.int .i64 0)), (.d (.int .i64 0)), (.d (.int .i64 0)), (.d (.int .i64 0)), (.exact []), (.exact []), (.d (.int .i64 0)), (.d (.int .i64 0))] [(1, 1, (.lit (.d (.int .i64 1))))]⟩,
  ⟨some 16, none, .mv (.tmp 1)⟩,
  ⟨some 17, none, .build [(.d (.int .i64 0)), (.d (.int .i64 0)), (.d (.int .i64 0)), (.d (.int .i64 0)), (.d (.int .i64 0)), (.exact []), (.exact [])] [(0, 1, (.lit (.d (.int .i64 1)))), (1, 1, (.lit (.d (.int .i64 3)))), (6, 1, (.tmp 16))]⟩,
  ⟨some 18, none, .mkslice false 7 1 [(.d (.int .i64 0)), (.d (.int .i64 0)), (.d (.int .i64 0)), (.d (.int .i64 0)), (.d (.int .i64 0)), (.exact []), (.exact [])] [(0, 7, (.tmp 17))]⟩,
  ⟨some 19, none, .build [(.d (.int .i64 0)), (.d (.int .i64 0)), (.d (.int .i64 0)), (.d (.int .i64 0)), (.exact []), (.exact []), (.d (.int .i64 0)), (.d (.int .i64 0))] [(1, 1, (.lit (.d (.int .i64 3)))), (5, 1, (.tmp 18))]⟩,
  ⟨some 20, none, .mkslice false 8 3 [(.d (.int .i64 0)), (.d (.int .i64 0)), (.d (.int .i64 0)), (.d (.int .i64 0)), (.exact []), (.exact []), (.d (.int .i64 0)), (.d (.int .i64 0))] [(0, 8, (.tmp 14)), (8, 8, (.tmp 15)), (16, 8, (.tmp 19))]⟩,
  ⟨some 2, none, .mv (.tmp 20)⟩])
 (.seq (.ops [⟨some 22, none, .mv (.tmp 2)⟩,
  ⟨some 23, none, .call 6 [(.lit (.d (.int .i64 1))), (.lit (.d (.int .i64 2))), (.tmp 22)]⟩,
  ⟨some 21, none, .mv (.tmp 23)⟩,
  ⟨some 24, none, .extract (.tmp 21) 0⟩,
  ⟨some 25, none, .extract (.tmp 21) 1⟩,
  ⟨some 26, none, .extract (.tmp 21) 2⟩,
  ⟨some 3, none, .alloc [(.d (.int .i64 0)), (.d (.int .i64 0)), (.exact [])]⟩,
  ⟨none, none, .store 3 (.tmp 3) (.tmp 24)⟩,
  ⟨some 4, none, .mv (.tmp 25)⟩,
  ⟨some 5, none, .mv (.tmp 26)⟩])
 (.seq (.ops [⟨some 27, none, .mv (.tmp 5)⟩,
  ⟨some 28, none, .bin .eql .plain (.tmp 27) (.lit (.d (.int .i64 0)))⟩,
  ⟨some 29, none, .mv (.tmp 28)⟩,
  ⟨some 30, some (29, true), .mv (.tmp 4)⟩,
  ⟨some 31, some (29, true), .len .sl (.tmp 30)⟩,
  ⟨some 32, some (29, true), .bin .eql .plain (.tmp 31) (.lit (.d (.int .i64 3)))⟩,
  ⟨some 33, none, .pick (.tmp 29) (.tmp 32) (.lit (.d (.bool false)))⟩,
  ⟨some 34, none, .mv (.tmp 33)⟩,
  ⟨some 35, some (34, true), .mv (.tmp 4)⟩,
  ⟨some 36, some (34, true), .iaddr none 5 (.tmp 35) (.lit (.d (.int .i64 0)))⟩,
  ⟨some 37, some (34, true), .faddr 2 (.tmp 36)⟩,
  ⟨some 38, some (34, true), .load false 1 (.tmp 37)⟩,
  ⟨some 39, some (34, true), .len .sl (.tmp 38)⟩,
  ⟨some 40, some (34, true), .bin .eql .plain (.tmp 39) (.lit (.d (.int .i64 1)))⟩,
  ⟨some 41, none, .pick (.tmp 34) (.tmp 40) (.lit (.d (.bool false)))⟩,
  ⟨some 42, none, .mv (.tmp 41)⟩,
  ⟨some 43, some (42, true), .mv (.tmp 4)⟩,
  ⟨some 44, some (42, true), .iaddr none 5 (.tmp 43) (.lit (.d (.int .i64 1)))⟩,
  ⟨some 45, some (42, true), .faddr 2 (.tmp 44)⟩,
  ⟨some 46, some (42, true), .load false 1 (.tmp 45)⟩,
  ⟨some 47, some (42, true), .len .sl (.tmp 46)⟩,
  ⟨some 48, some (42, true), .bin .eql .plain (.tmp 47) (.lit (.d (.int .i64 0)))⟩,
  ⟨some 49, none, .pick (.tmp 42) (.tmp 48) (.lit (.d (.bool false)))⟩,
  ⟨some 50, none, .mv (.tmp 49)⟩,
  ⟨some 51, some (50, true), .mv (.tmp 4)⟩,
  ⟨some 52, some (50, true), .iaddr none 5 (.tmp 51) (.lit (.d (.int .i64 2)))⟩,
  ⟨some 53, some (50, true), .faddr 2 (.tmp 52)⟩,
  ⟨some 54, some (50, true), .load false 1 (.tmp 53)⟩,
  ⟨some 55, some (50, true), .len .sl (.tmp 54)⟩,
  ⟨some 56, some (50, true), .bin .eql .plain (.tmp 55) (.lit (.d (.int .i64 1)))⟩,
  ⟨some 57, none, .pick (.tmp 50) (.tmp 56) (.lit (.d (.bool false)))⟩,
  ⟨some 58, none, .mv (.tmp 57)⟩,
  ⟨some 59, some (58, true), .mv (.tmp 4)⟩,
  ⟨some 60, some (58, true), .iaddr none 5 (.tmp 59) (.lit (.d (.int .i64 2)))⟩,
  ⟨some 61, some (58, true), .faddr 1 (.tmp 60)⟩,
  ⟨some 62, some (58, true), .load false 1 (.tmp 61)⟩,
  ⟨some 63, some (58, true), .bin .eql .plain (.tmp 62) (.lit (.d (.int .i64 3)))⟩,
  ⟨some 64, none, .pick (.tmp 58) (.tmp 63) (.lit (.d (.bool false)))⟩,
  ⟨some 65, none, .mv (.tmp 64)⟩,
  ⟨some 66, some (65, true), .mv (.tmp 4)⟩,
  ⟨some 67, some (65, true), .iaddr none 5 (.tmp 66) (.lit (.d (.int .i64 2)))⟩,
  ⟨some 68, some (65, true), .faddr 0 (.tmp 67)⟩,
  ⟨some 69, some (65, true), .load false 1 (.tmp 68)⟩,
  ⟨some 70, some (65, true), .bin .eql .plain (.tmp 69) (.lit (.d (.int .i64 2)))⟩,
  ⟨some 71, none, .pick (.tmp 65) (.tmp 70) (.lit (.d (.bool false)))⟩,
  ⟨some 0, none, .mv (.tmp 71)⟩])
 .ret)))))⟩
theorem isA_l16_begun : isF Try.prog n_l16_begun A_l16_begun := ⟨Try.f8, _, Try.func8, by decide +kernel, rfl, by kernel_rfl, by kernel_rfl, by decide, by kernel_rfl, rfl, by kernel_rfl⟩
/-- bulla/bullaref10.SameCert -/
def A_r10_SameCert : AF := ⟨2, 24, [(.tmp 4)],
 (.seq (.ops [⟨some 2, none, .boxi (.tmp 0)⟩,
  ⟨some 3, none, .boxi (.tmp 1)⟩,
  ⟨some 4, none, .mv (.lit (.d (.bool false)))⟩])
 (.seq (.ops [⟨some 5, none, .faddr 0 (.tmp 2)⟩,
  ⟨some 6, none, .load false 1 (.tmp 5)⟩,
  ⟨some 7, none, .faddr 0 (.tmp 3)⟩,
  ⟨some 8, none, .load false 1 (.tmp 7)⟩,
  ⟨some 9, none, .bin .eql .plain (.tmp 6) (.tmp 8)⟩,
  ⟨some 10, none, .mv (.tmp 9)⟩,
  ⟨some 11, some (10, true), .faddr 1 (.tmp 2)⟩,
  ⟨some 12, some (10, true), .load false 1 (.tmp 11)⟩,
  ⟨some 13, some (10, true), .faddr 1 (.tmp 3)⟩,
  ⟨some 14, some (10, true), .load false 1 (.tmp 13)⟩,
  ⟨some 15, some (10, true), .bin .eql .plain (.tmp 12) (.tmp 14)⟩,
  ⟨some 16, none, .pick (.tmp 10) (.tmp 15) (.lit (.d (.bool false)))⟩,
  ⟨some 17, none, .mv (.tmp 16)⟩,
  ⟨some 18, some (17, true), .faddr 2 (.tmp 2)⟩,
  ⟨some 19, some (17, true), .load false 1 (.tmp 18)⟩,
  ⟨some 20, some (17, true), .faddr 2 (.tmp 3)⟩,
  ⟨some 21, some (17, true), .load false 1 (.tmp 20)⟩,
  ⟨some 22, some (17, true), .call 24 [(.tmp 19), (.tmp 21)]⟩,
  ⟨some 23, none, .pick (.tmp 17) (.tmp 22) (.lit (.d (.bool false)))⟩,
  ⟨some 4, none, .mv (.tmp 23)⟩])
 .ret))⟩
theorem isA_r10_SameCert : isF Try.prog n_r10_SameCert A_r10_SameCert := ⟨Try.f9, _, Try.func9, by decide +kernel, rfl, by kernel_rfl, by kernel_rfl, by decide, by kernel_rfl, rfl, by kernel_rfl⟩
/-- bulla/bullaref10.SameEntries -/
def A_r10_SameEntries : AF := ⟨2, 68, [(.tmp 4)],
 (.seq (.ops [⟨some 4, none, .mv (.lit (.d (.bool false)))⟩])
 (.seq (.seq (.ops [⟨some 6, none, .mv (.tmp 0)⟩,
  ⟨some 7, none, .len .sl (.tmp 6)⟩,
  ⟨some 8, none, .mv (.tmp 1)⟩,
  ⟨some 9, none, .len .sl (.tmp 8)⟩,
  ⟨some 10, none, .bin .neq .plain (.tmp 7) (.tmp 9)⟩])
 (.cond (.tmp 10) (.seq (.ops [⟨some 4, none, .mv (.lit (.d (.bool false)))⟩])
 .ret) .skip))
 (.seq (.seq (.ops [⟨some 5, none, .mv (.lit (.d (.int .i64 0)))⟩])
 (.block 0 (.loop [5] [4, 11, 12, 13, 14, 15, 16, 17, 18, 19, 20, 21, 22, 23, 24, 25, 26, 27, 28, 29, 30, 31, 32, 33, 34, 35, 36, 37, 38, 39, 40, 41, 42, 43, 44, 45, 46, 47, 48, 49, 50, 51, 52, 53, 54, 55, 56, 57, 58, 59, 60, 61, 62, 63, 64, 65, 66, 67] (.seq (.seq (.ops [⟨some 11, none, .mv (.tmp 5)⟩,
  ⟨some 12, none, .mv (.tmp 0)⟩,
  ⟨some 13, none, .len .sl (.tmp 12)⟩,
  ⟨some 14, none, .bin .lss .plain (.tmp 11) (.tmp 13)⟩])
 (.cond (.tmp 14) .skip (.exit 0)))
 (.seq (.block 1 (.seq (.draw [⟨some 17, none, .mv (.tmp 0)⟩,
  ⟨some 18, none, .mv (.tmp 5)⟩,
  ⟨some 19, none, .iaddr none 5 (.tmp 17) (.tmp 18)⟩,
  ⟨some 20, none, .faddr 0 (.tmp 19)⟩,
  ⟨some 21, none, .load false 1 (.tmp 20)⟩,
  ⟨some 22, none, .mv (.tmp 1)⟩,
  ⟨some 23, none, .mv (.tmp 5)⟩,
  ⟨some 24, none, .iaddr none 5 (.tmp 22) (.tmp 23)⟩,
  ⟨some 25, none, .faddr 0 (.tmp 24)⟩,
  ⟨some 26, none, .load false 1 (.tmp 25)⟩,
  ⟨some 27, none, .bin .neq .plain (.tmp 21) (.tmp 26)⟩,
  ⟨some 28, none, .mv (.tmp 27)⟩,
  ⟨some 29, some (28, false), .mv (.tmp 0)⟩,
  ⟨some 30, some (28, false), .mv (.tmp 5)⟩,
  ⟨some 31, some (28, false), .iaddr none 5 (.tmp 29) (.tmp 30)⟩,
  ⟨some 32, some (28, false), .faddr 1 (.tmp 31)⟩,
  ⟨some 33, some (28, false), .load false 1 (.tmp 32)⟩,
  ⟨some 34, some (28, false), .mv (.tmp 1)⟩,
  ⟨some 35, some (28, false), .mv (.tmp 5)⟩,
  ⟨some 36, some (28, false), .iaddr none 5 (.tmp 34) (.tmp 35)⟩,
  ⟨some 37, some (28, false), .faddr 1 (.tmp 36)⟩,
  ⟨some 38, some (28, false), .load false 1 (.tmp 37)⟩,
  ⟨some 39, some (28, false), .bin .neq .plain (.tmp 33) (.tmp 38)⟩,
  ⟨some 40, none, .pick (.tmp 28) (.lit (.d (.bool true))) (.tmp 39)⟩,
  ⟨some 41, none, .mv (.tmp 40)⟩,
  ⟨some 42, some (41, false), .mv (.tmp 0)⟩,
  ⟨some 43, some (41, false), .mv (.tmp 5)⟩,
  ⟨some 44, some (41, false), .iaddr none 5 (.tmp 42) (.tmp 43)⟩,
  ⟨some 45, some (41, false), .faddr 3 (.tmp 44)⟩,
  ⟨some 46, some (41, false), .load true 2 (.tmp 45)⟩,
  ⟨some 47, some (41, false), .mv (.tmp 1)⟩,
  ⟨some 48, some (41, false), .mv (.tmp 5)⟩,
  ⟨some 49, some (41, false), .iaddr none 5 (.tmp 47) (.tmp 48)⟩,
  ⟨some 50, some (41, false), .faddr 3 (.tmp 49)⟩,
  ⟨some 51, some (41, false), .load true 2 (.tmp 50)⟩,
  ⟨some 52, some (41, false), .bin .neq (.ints 2) (.tmp 46) (.tmp 51)⟩,
  ⟨some 53, none, .pick (.tmp 41) (.lit (.d (.bool true))) (.tmp 52)⟩,
  ⟨some 54, none, .mv (.tmp 53)⟩,
  ⟨some 55, some (54, false), .mv (.tmp 0)⟩,
  ⟨some 56, some (54, false), .mv (.tmp 5)⟩,
  ⟨some 57, some (54, false), .iaddr none 5 (.tmp 55) (.tmp 56)⟩,
  ⟨some 58, some (54, false), .faddr 2 (.tmp 57)⟩,
  ⟨some 59, some (54, false), .load false 1 (.tmp 58)⟩,
  ⟨some 60, some (54, false), .mv (.tmp 1)⟩,
  ⟨some 61, some (54, false), .mv (.tmp 5)⟩,
  ⟨some 62, some (54, false), .iaddr none 5 (.tmp 60) (.tmp 61)⟩,
  ⟨some 63, some (54, false), .faddr 2 (.tmp 62)⟩,
  ⟨some 64, some (54, false), .load false 1 (.tmp 63)⟩,
  ⟨some 65, some (54, false), .call 14 [(.tmp 59), (.tmp 64)]⟩,
  ⟨some 66, some (54, false), .un .not (.tmp 65)⟩,
  ⟨some 67, none, .pick (.tmp 54) (.lit (.d (.bool true))) (.tmp 66)⟩] [[], [], [0, 1], [2], [3], [], [], [5, 6], [7], [8], [4, 9], [10], [11], [11], [12, 13, 11], [14, 11], [15, 11], [11], [11], [17, 18, 11], [19, 11], [20, 11], [16, 21, 11], [11, 22], [23, 11], [24], [24], [25, 26, 24], [27, 24], [28, 24], [24], [24], [30, 31, 24], [32, 24], [33, 24], [29, 34, 24], [24, 35], [36, 24], [37], [37], [38, 39, 37], [40, 37], [41, 37], [37], [37], [43, 44, 37], [45, 37], [46, 37], [42, 47, 37, 37], [48, 37], [37, 49]] [(0, []), (1, []), (2, []), (3, []), (4, []), (5, []), (6, []), (7, []), (8, []), (9, []), (10, []), (11, []), (12, []), (13, []), (14, []), (15, []), (16, []), (17, []), (18, []), (19, []), (20, []), (21, []), (22, []), (23, []), (24, []), (25, []), (26, []), (27, []), (28, []), (29, []), (30, []), (31, []), (32, []), (33, []), (34, []), (35, []), (36, []), (37, []), (38, []), (39, []), (40, []), (41, []), (42, []), (43, []), (44, []), (45, []), (46, []), (47, []), (48, []), (49, []), (50, [])] [0, 0, 3, 7, 15, 0, 0, 96, 224, 480, 1023, 2047, 4095, 4095, 16383, 32767, 65535, 4095, 4095, 397311, 921599, 1970175, 4194303, 8388607, 16777215, 33554431, 33554431, 134217727, 268435455, 536870911, 33554431, 33554431, 3254779903, 7549747199, 16139681791, 34359738367, 68719476735, 137438953471, 274877906943, 274877906943, 1099511627775, 2199023255551, 4398046511103, 274877906943, 274877906943, 26663156973567, 61847529062399, 132216273240063, 281474976710655, 562949953421311, 1125899906842623])
 (.cond (.tmp 67) (.seq (.ops [⟨some 4, none, .mv (.lit (.d (.bool false)))⟩])
 .ret) .skip)))
 (.ops [⟨some 15, none, .mv (.tmp 5)⟩,
  ⟨some 16, none, .bin .add .plain (.tmp 15) (.lit (.d (.int .i64 1)))⟩,
  ⟨some 5, none, .mv (.tmp 16)⟩]))))))
 (.seq (.ops [⟨some 4, none, .mv (.lit (.d (.bool true)))⟩])
 .ret))))⟩
theorem isA_r10_SameEntries : isF Try.prog n_r10_SameEntries A_r10_SameEntries := ⟨Try.f10, _, Try.func10, by decide +kernel, rfl, by kernel_rfl, by kernel_rfl, by decide, by kernel_rfl, rfl, by kernel_rfl⟩
/-- bulla/bullaref12.Check -/
def A_r12_Check : AF := ⟨1, 9, [(.tmp 2)],
 (.seq (.ops [⟨some 2, none, .mv (.lit (.d (.int .i64 0)))⟩])
 (.seq (.seq (.ops [⟨some 3, none, .mv (.tmp 0)⟩,
  ⟨some 4, none, .bin .lss .plain (.tmp 3) (.lit (.d (.int .i64 1)))⟩,
  ⟨some 5, none, .mv (.tmp 4)⟩,
  ⟨some 6, some (5, false), .mv (.tmp 0)⟩,
  ⟨some 7, some (5, false), .bin .gtr .plain (.tmp 6) (.lit (.d (.int .i64 4)))⟩,
  ⟨some 8, none, .pick (.tmp 5) (.lit (.d (.bool true))) (.tmp 7)⟩])
 (.cond (.tmp 8) (.seq (.ops [⟨some 2, none, .mv (.lit (.d (.int .i64 120)))⟩])
 .ret) .skip))
 (.seq (.ops [⟨some 2, none, .mv (.lit (.d (.int .i64 0)))⟩])
 .ret)))⟩
theorem isA_r12_Check : isF Try.prog n_r12_Check A_r12_Check := ⟨Try.f11, _, Try.func11, by decide +kernel, rfl, by kernel_rfl, by kernel_rfl, by decide, by kernel_rfl, rfl, by kernel_rfl⟩
/-- bulla/bullaref12.Many -/
def A_r12_Many : AF := ⟨1, 6, [(.tmp 2)],
 (.seq (.ops [⟨some 2, none, .mv (.lit (.d (.int .i64 0)))⟩])
 (.seq (.ops [⟨some 3, none, .mv (.tmp 0)⟩,
  ⟨some 4, none, .call 25 [(.tmp 3)]⟩,
  ⟨some 5, none, .len .sl (.tmp 4)⟩,
  ⟨some 2, none, .mv (.tmp 5)⟩])
 .ret))⟩
theorem isA_r12_Many : isF Try.prog n_r12_Many A_r12_Many := ⟨Try.f12, _, Try.func12, by decide +kernel, rfl, by kernel_rfl, by kernel_rfl, by decide, by kernel_rfl, rfl, by kernel_rfl⟩
/-- bulla/bullaref12.Brokers -/
def A_r12_Brokers : AF := ⟨1, 9, [(.tmp 2)],
 (.seq (.ops [⟨some 2, none, .mv (.lit (.d (.int .i64 0)))⟩])
 (.seq (.seq (.ops [⟨some 3, none, .mv (.tmp 0)⟩,
  ⟨some 4, none, .call 11 [(.tmp 3)]⟩,
  ⟨some 5, none, .bin .neq .plain (.tmp 4) (.lit (.d (.int .i64 0)))⟩])
 (.cond (.tmp 5) (.seq (.ops [⟨some 2, none, .mv (.lit (.d (.int .i64 0)))⟩])
 .ret) .skip))
 (.seq (.ops [⟨some 6, none, .mv (.tmp 0)⟩,
  ⟨some 7, none, .bin .mul .plain (.lit (.d (.int .i64 3))) (.tmp 6)⟩,
  ⟨some 8, none, .bin .add .plain (.tmp 7) (.lit (.d (.int .i64 1)))⟩,
  ⟨some 2, none, .mv (.tmp 8)⟩])
 .ret)))⟩
theorem isA_r12_Brokers : isF Try.prog n_r12_Brokers A_r12_Brokers := ⟨Try.f13, _, Try.func13, by decide +kernel, rfl, by kernel_rfl, by kernel_rfl, by decide, by kernel_rfl, rfl, by kernel_rfl⟩
end Go.Proofs.Ytndpnfbcnmebjaa

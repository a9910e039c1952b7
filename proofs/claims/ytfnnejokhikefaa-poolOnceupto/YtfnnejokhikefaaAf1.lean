/- Resolved forms, each with the theorem that it is its function's. Printed by program. -/
import Derived.Test.YtfnnejokhikefaaNm
import Derived.KernelRfl
set_option linter.all false
set_option maxRecDepth 100000
set_option linter.unusedVariables false
namespace Go.Proofs.Ytfnnejokhikefaa
open Go.AW
/-- bulla/bullalaw18.PoolOnce -/
def A_l18_PoolOnce : AF := ⟨2, 141, [(.tmp 4)],
 (.seq (.ops [⟨some 4, none, .mv (.lit (.d (.bool false)))⟩])
 (.seq (.ops [⟨some 22, none, .call false 8 []⟩,
  ⟨some 5, none, .mv (.tmp 22)⟩])
 (.seq (.seq (.ops [⟨some 23, none, .call false 9 []⟩,
  ⟨some 24, none, .un .not (.tmp 23)⟩,
  ⟨some 25, none, .mv (.tmp 24)⟩,
  ⟨some 26, some (25, false), .mv (.tmp 5)⟩,
  ⟨some 27, some (25, false), .bin .eql .ptr (.tmp 26) (.lit (.d .nilp))⟩,
  ⟨some 28, none, .pick (.tmp 25) (.lit (.d (.bool true))) (.tmp 27)⟩])
 (.cond (.tmp 28) (.seq (.ops [⟨some 4, none, .mv (.lit (.d (.bool false)))⟩])
 .ret) .skip))
 (.seq (.seq (.ops [⟨some 29, none, .mv (.tmp 0)⟩,
  ⟨some 30, none, .len .sl (.tmp 29)⟩,
  ⟨some 31, none, .mv (.lit (.d (.int .i64 0)))⟩])
 (.block 0 (.loop [31] [7, 32, 33, 34, 35, 36, 37, 38, 39] (.seq (.ops [⟨some 32, none, .bin .lss .plain (.tmp 31) (.tmp 30)⟩])
 (.seq (.cond (.tmp 32) .skip (.exit 0))
 (.seq (.block 1 (.seq (.ops [⟨some 33, none, .iaddr none 13 (.tmp 29) (.tmp 31)⟩,
  ⟨some 34, none, .load true 13 (.tmp 33)⟩,
  ⟨some 7, none, .alloc [(.d (.int .i64 0)), (.d (.int .i64 0)), (.d (.int .i64 0)), (.d (.int .i64 0)), (.d (.str [])), (.d (.str [])), (.d (.int .i64 0)), (.exact []), (.d (.int .i64 0)), (.d (.int .i64 0)), (.d (.int .i64 0)), (.d (.int .i64 0)), (.exact [])]⟩,
  ⟨none, none, .store 13 (.tmp 7) (.tmp 34)⟩])
 (.ops [⟨some 35, none, .mv (.tmp 5)⟩,
  ⟨some 36, none, .faddr 1 (.tmp 7)⟩,
  ⟨some 37, none, .load true 9 (.tmp 36)⟩,
  ⟨some 38, none, .call false 10 [(.tmp 35), (.tmp 37)]⟩])))
 (.ops [⟨some 39, none, .bin .add .plain (.tmp 31) (.lit (.d (.int .i64 1)))⟩,
  ⟨some 31, none, .mv (.tmp 39)⟩])))))))
 (.seq (.ops [⟨some 40, none, .mv (.tmp 5)⟩,
  ⟨some 41, none, .mv (.tmp 1)⟩,
  ⟨some 42, none, .call false 11 [(.tmp 40), (.tmp 41)]⟩,
  ⟨some 8, none, .mv (.tmp 42)⟩])
 (.seq (.seq (.ops [⟨some 43, none, .mv (.tmp 8)⟩,
  ⟨some 44, none, .call false 12 [(.tmp 43)]⟩,
  ⟨some 45, none, .bin .neq .plain (.tmp 44) (.lit (.d (.int .i64 0)))⟩])
 (.cond (.tmp 45) (.seq (.ops [⟨some 4, none, .mv (.lit (.d (.bool false)))⟩])
 .ret) .skip))
 (.seq (.ops [⟨some 9, none, .mv (.lit (.d (.int .i64 (-1))))⟩])
 (.seq (.seq (.ops [⟨some 46, none, .mv (.tmp 8)⟩,
  ⟨some 47, none, .len .sl (.tmp 46)⟩,
  ⟨some 48, none, .mv (.lit (.d (.int .i64 0)))⟩])
 (.block 2 (.loop [9, 48] [4, 11, 49, 50, 51, 52, 53, 54, 55, 56, 57, 58, 59, 60] (.seq (.ops [⟨some 49, none, .bin .lss .plain (.tmp 48) (.tmp 47)⟩])
 (.seq (.cond (.tmp 49) .skip (.exit 2))
 (.seq (.block 3 (.seq (.ops [⟨some 50, none, .iaddr none 9 (.tmp 46) (.tmp 48)⟩,
  ⟨some 51, none, .load true 9 (.tmp 50)⟩,
  ⟨some 11, none, .alloc [(.d (.int .i64 0)), (.d (.int .i64 0)), (.d (.int .i64 0)), (.d (.str [])), (.d (.str [])), (.d (.int .i64 0)), (.exact []), (.d (.int .i64 0)), (.d (.int .i64 0))]⟩,
  ⟨none, none, .store 9 (.tmp 11) (.tmp 51)⟩])
 (.seq (.seq (.ops [⟨some 52, none, .faddr 0 (.tmp 11)⟩,
  ⟨some 53, none, .faddr 0 (.tmp 52)⟩,
  ⟨some 54, none, .load false 1 (.tmp 53)⟩,
  ⟨some 55, none, .mv (.tmp 9)⟩,
  ⟨some 56, none, .bin .leq .plain (.tmp 54) (.tmp 55)⟩])
 (.cond (.tmp 56) (.seq (.ops [⟨some 4, none, .mv (.lit (.d (.bool false)))⟩])
 .ret) .skip))
 (.ops [⟨some 57, none, .faddr 0 (.tmp 11)⟩,
  ⟨some 58, none, .faddr 0 (.tmp 57)⟩,
  ⟨some 59, none, .load false 1 (.tmp 58)⟩,
  ⟨some 9, none, .mv (.tmp 59)⟩]))))
 (.ops [⟨some 60, none, .bin .add .plain (.tmp 48) (.lit (.d (.int .i64 1)))⟩,
  ⟨some 48, none, .mv (.tmp 60)⟩])))))))
 (.seq (.seq (.ops [⟨some 61, none, .mv (.tmp 5)⟩,
  ⟨some 62, none, .call false 13 [(.tmp 61)]⟩,
  ⟨some 63, none, .len .sl (.tmp 62)⟩,
  ⟨some 64, none, .mv (.lit (.d (.int .i64 0)))⟩])
 (.block 4 (.loop [64] [4, 13, 14, 16, 18, 19, 21, 65, 66, 67, 68, 69, 70, 71, 72, 73, 74, 75, 76, 77, 78, 79, 80, 81, 82, 83, 84, 85, 86, 87, 88, 89, 90, 91, 92, 93, 94, 95, 96, 97, 98, 99, 100, 101, 102, 103, 104, 105, 106, 107, 108, 109, 110, 111, 112, 113, 114, 115, 116, 117, 118, 119, 120, 121, 122, 123, 124, 125, 126, 127, 128, 129, 130, 131, 132, 133, 134, 135, 136, 137, 138, 139, 140] (.seq (.ops [⟨some 65, none, .bin .lss .plain (.tmp 64) (.tmp 63)⟩])
 (.seq (.cond (.tmp 65) .skip (.exit 4))
 (.seq (.block 5 (.seq (.ops [⟨some 66, none, .iaddr none 9 (.tmp 62) (.tmp 64)⟩,
  ⟨some 67, none, .load true 9 (.tmp 66)⟩,
  ⟨some 13, none, .alloc [(.d (.int .i64 0)), (.d (.int .i64 0)), (.d (.int .i64 0)), (.d (.str [])), (.d (.str [])), (.d (.int .i64 0)), (.exact []), (.d (.int .i64 0)), (.d (.int .i64 0))]⟩,
  ⟨none, none, .store 9 (.tmp 13) (.tmp 67)⟩])
 (.seq (.ops [⟨some 14, none, .mv (.lit (.d (.bool false)))⟩])
 (.seq (.seq (.ops [⟨some 68, none, .mv (.tmp 1)⟩,
  ⟨some 69, none, .len .sl (.tmp 68)⟩,
  ⟨some 70, none, .mv (.lit (.d (.int .i64 0)))⟩])
 (.block 6 (.loop [14, 70] [16, 18, 71, 72, 73, 74, 75, 76, 77, 78, 79, 80, 81, 82, 83, 84, 85, 86, 87, 88, 89, 90, 91, 92, 93, 94, 95, 96, 97, 98, 99, 100] (.seq (.ops [⟨some 71, none, .bin .lss .plain (.tmp 70) (.tmp 69)⟩])
 (.seq (.cond (.tmp 71) .skip (.exit 6))
 (.seq (.block 7 (.seq (.ops [⟨some 72, none, .iaddr none 1 (.tmp 68) (.tmp 70)⟩,
  ⟨some 73, none, .load false 1 (.tmp 72)⟩,
  ⟨some 16, none, .mv (.tmp 73)⟩])
 (.seq (.ops [⟨some 74, none, .mv (.tmp 16)⟩,
  ⟨some 75, none, .len .sl (.tmp 74)⟩,
  ⟨some 76, none, .mv (.lit (.d (.int .i64 0)))⟩])
 (.block 8 (.loop [14, 76] [18, 77, 78, 79, 80, 81, 82, 83, 84, 85, 86, 87, 88, 89, 90, 91, 92, 93, 94, 95, 96, 97, 98, 99] (.seq (.ops [⟨some 77, none, .bin .lss .plain (.tmp 76) (.tmp 75)⟩])
 (.seq (.cond (.tmp 77) .skip (.exit 8))
 (.seq (.block 9 (.seq (.ops [⟨some 78, none, .iaddr none 9 (.tmp 74) (.tmp 76)⟩,
  ⟨some 79, none, .load true 9 (.tmp 78)⟩,
  ⟨some 18, none, .alloc [(.d (.int .i64 0)), (.d (.int .i64 0)), (.d (.int .i64 0)), (.d (.str [])), (.d (.str [])), (.d (.int .i64 0)), (.exact []), (.d (.int .i64 0)), (.d (.int .i64 0))]⟩,
  ⟨none, none, .store 9 (.tmp 18) (.tmp 79)⟩])
 (.ops [⟨some 80, none, .mv (.tmp 14)⟩,
  ⟨some 81, none, .mv (.tmp 80)⟩,
  ⟨some 82, some (81, false), .faddr 0 (.tmp 18)⟩,
  ⟨some 83, some (81, false), .faddr 0 (.tmp 82)⟩,
  ⟨some 84, some (81, false), .load false 1 (.tmp 83)⟩,
  ⟨some 85, some (81, false), .faddr 0 (.tmp 13)⟩,
  ⟨some 86, some (81, false), .faddr 0 (.tmp 85)⟩,
  ⟨some 87, some (81, false), .load false 1 (.tmp 86)⟩,
  ⟨some 88, some (81, false), .bin .eql .plain (.tmp 84) (.tmp 87)⟩,
  ⟨some 89, some (81, false), .mv (.tmp 88)⟩,
  ⟨some 90, some (89, true), .faddr 0 (.tmp 18)⟩,
  ⟨some 91, some (89, true), .faddr 1 (.tmp 90)⟩,
  ⟨some 92, some (89, true), .load false 1 (.tmp 91)⟩,
  ⟨some 93, some (89, true), .faddr 0 (.tmp 13)⟩,
  ⟨some 94, some (89, true), .faddr 1 (.tmp 93)⟩,
  ⟨some 95, some (89, true), .load false 1 (.tmp 94)⟩,
  ⟨some 96, some (89, true), .bin .eql .plain (.tmp 92) (.tmp 95)⟩,
  ⟨some 97, some (81, false), .pick (.tmp 89) (.tmp 96) (.lit (.d (.bool false)))⟩,
  ⟨some 98, none, .pick (.tmp 81) (.lit (.d (.bool true))) (.tmp 97)⟩,
  ⟨some 14, none, .mv (.tmp 98)⟩])))
 (.ops [⟨some 99, none, .bin .add .plain (.tmp 76) (.lit (.d (.int .i64 1)))⟩,
  ⟨some 76, none, .mv (.tmp 99)⟩])))))))))
 (.ops [⟨some 100, none, .bin .add .plain (.tmp 70) (.lit (.d (.int .i64 1)))⟩,
  ⟨some 70, none, .mv (.tmp 100)⟩])))))))
 (.seq (.ops [⟨some 19, none, .mv (.lit (.d (.bool false)))⟩])
 (.seq (.seq (.ops [⟨some 101, none, .mv (.tmp 8)⟩,
  ⟨some 102, none, .len .sl (.tmp 101)⟩,
  ⟨some 103, none, .mv (.lit (.d (.int .i64 0)))⟩])
 (.block 10 (.loop [19, 103] [21, 104, 105, 106, 107, 108, 109, 110, 111, 112, 113, 114, 115] (.seq (.ops [⟨some 104, none, .bin .lss .plain (.tmp 103) (.tmp 102)⟩])
 (.seq (.cond (.tmp 104) .skip (.exit 10))
 (.seq (.block 11 (.seq (.ops [⟨some 105, none, .iaddr none 9 (.tmp 101) (.tmp 103)⟩,
  ⟨some 106, none, .load true 9 (.tmp 105)⟩,
  ⟨some 21, none, .alloc [(.d (.int .i64 0)), (.d (.int .i64 0)), (.d (.int .i64 0)), (.d (.str [])), (.d (.str [])), (.d (.int .i64 0)), (.exact []), (.d (.int .i64 0)), (.d (.int .i64 0))]⟩,
  ⟨none, none, .store 9 (.tmp 21) (.tmp 106)⟩])
 (.ops [⟨some 107, none, .mv (.tmp 19)⟩,
  ⟨some 108, none, .mv (.tmp 107)⟩,
  ⟨some 109, some (108, false), .load true 9 (.tmp 21)⟩,
  ⟨some 110, some (108, false), .mkslice false 9 1 [(.d (.int .i64 0)), (.d (.int .i64 0)), (.d (.int .i64 0)), (.d (.str [])), (.d (.str [])), (.d (.int .i64 0)), (.exact []), (.d (.int .i64 0)), (.d (.int .i64 0))] [(0, 9, (.tmp 109))]⟩,
  ⟨some 111, some (108, false), .load true 9 (.tmp 13)⟩,
  ⟨some 112, some (108, false), .mkslice false 9 1 [(.d (.int .i64 0)), (.d (.int .i64 0)), (.d (.int .i64 0)), (.d (.str [])), (.d (.str [])), (.d (.int .i64 0)), (.exact []), (.d (.int .i64 0)), (.d (.int .i64 0))] [(0, 9, (.tmp 111))]⟩,
  ⟨some 113, some (108, false), .call false 14 [(.tmp 110), (.tmp 112)]⟩,
  ⟨some 114, none, .pick (.tmp 108) (.lit (.d (.bool true))) (.tmp 113)⟩,
  ⟨some 19, none, .mv (.tmp 114)⟩])))
 (.ops [⟨some 115, none, .bin .add .plain (.tmp 103) (.lit (.d (.int .i64 1)))⟩,
  ⟨some 103, none, .mv (.tmp 115)⟩])))))))
 (.seq (.ops [⟨some 116, none, .mv (.tmp 14)⟩,
  ⟨some 117, none, .mv (.tmp 116)⟩,
  ⟨some 118, some (117, true), .mv (.tmp 19)⟩,
  ⟨some 119, none, .pick (.tmp 117) (.tmp 118) (.lit (.d (.bool false)))⟩,
  ⟨some 120, none, .mv (.tmp 119)⟩,
  ⟨some 121, some (120, false), .mv (.tmp 14)⟩,
  ⟨some 122, some (120, false), .un .not (.tmp 121)⟩,
  ⟨some 123, some (120, false), .mv (.tmp 122)⟩,
  ⟨some 124, some (123, true), .mv (.tmp 19)⟩,
  ⟨some 125, some (123, true), .un .not (.tmp 124)⟩,
  ⟨some 126, some (120, false), .pick (.tmp 123) (.tmp 125) (.lit (.d (.bool false)))⟩,
  ⟨some 127, some (120, false), .mv (.tmp 126)⟩,
  ⟨some 128, some (127, true), .mv (.tmp 8)⟩,
  ⟨some 129, some (127, true), .len .sl (.tmp 128)⟩,
  ⟨some 130, some (127, true), .bin .lss .plain (.tmp 129) (.lit (.d (.int .i64 4)))⟩,
  ⟨some 131, some (127, true), .mv (.tmp 130)⟩,
  ⟨some 132, some (131, false), .faddr 0 (.tmp 13)⟩,
  ⟨some 133, some (131, false), .faddr 0 (.tmp 132)⟩,
  ⟨some 134, some (131, false), .load false 1 (.tmp 133)⟩,
  ⟨some 135, some (131, false), .mv (.tmp 9)⟩,
  ⟨some 136, some (131, false), .bin .lss .plain (.tmp 134) (.tmp 135)⟩,
  ⟨some 137, some (127, true), .pick (.tmp 131) (.lit (.d (.bool true))) (.tmp 136)⟩,
  ⟨some 138, some (120, false), .pick (.tmp 127) (.tmp 137) (.lit (.d (.bool false)))⟩,
  ⟨some 139, none, .pick (.tmp 120) (.lit (.d (.bool true))) (.tmp 138)⟩])
 (.cond (.tmp 139) (.seq (.ops [⟨some 4, none, .mv (.lit (.d (.bool false)))⟩])
 .ret) .skip))))))))
 (.ops [⟨some 140, none, .bin .add .plain (.tmp 64) (.lit (.d (.int .i64 1)))⟩,
  ⟨some 64, none, .mv (.tmp 140)⟩])))))))
 (.seq (.ops [⟨some 4, none, .mv (.lit (.d (.bool true)))⟩])
 .ret))))))))))⟩
theorem isA_l18_PoolOnce : isF Try.prog n_l18_PoolOnce A_l18_PoolOnce := ⟨Try.f3, _, Try.func3, by decide +kernel, rfl, by kernel_rfl, by kernel_rfl, by decide, by kernel_rfl, rfl, by kernel_rfl⟩
/-- bulla/pool.New -/
def A_pool_New : AF := ⟨0, 3, [(.tmp 0)],
 (.seq (.ops [⟨some 0, none, .mv (.lit (.d .nilp))⟩])
 (.seq (.ops [⟨some 1, none, .build [(.d (.bool false)), (.exact []), (.exact []), (.exact []), (.exact []), (.exact []), (.exact []), (.exact []), (.exact [])] [(0, 1, (.lit (.d (.bool true))))]⟩,
  ⟨some 2, none, .boxi (.tmp 1)⟩,
  ⟨some 0, none, .mv (.tmp 2)⟩])
 .ret))⟩
theorem isA_pool_New : isF Try.prog n_pool_New A_pool_New := ⟨Try.f8, _, Try.func8, by decide +kernel, rfl, by kernel_rfl, by kernel_rfl, by decide, by kernel_rfl, rfl, by kernel_rfl⟩
/-- bulla/bullalaw18.begun -/
def A_l18_begun : AF := ⟨0, 55, [(.tmp 0)],
 (.seq (.ops [⟨some 0, none, .mv (.lit (.d (.bool false)))⟩])
 (.seq (.ops [⟨some 2, none, .call false 8 []⟩,
  ⟨some 1, none, .mv (.tmp 2)⟩])
 (.seq (.ops [⟨some 3, none, .mv (.tmp 1)⟩,
  ⟨some 4, none, .bin .neq .ptr (.tmp 3) (.lit (.d .nilp))⟩,
  ⟨some 5, none, .mv (.tmp 4)⟩,
  ⟨some 6, some (5, true), .mv (.tmp 1)⟩,
  ⟨some 7, some (5, true), .call false 26 [(.lit (.d (.int .i64 2))), (.lit (.d (.int .i64 5)))]⟩,
  ⟨some 8, some (5, true), .call false 10 [(.tmp 6), (.tmp 7)]⟩,
  ⟨some 9, none, .pick (.tmp 5) (.tmp 8) (.lit (.d (.bool false)))⟩,
  ⟨some 10, none, .mv (.tmp 9)⟩,
  ⟨some 11, some (10, true), .mv (.tmp 1)⟩,
  ⟨some 12, some (10, true), .call false 26 [(.lit (.d (.int .i64 2))), (.lit (.d (.int .i64 4)))]⟩,
  ⟨some 13, some (10, true), .call false 10 [(.tmp 11), (.tmp 12)]⟩,
  ⟨some 14, some (10, true), .un .not (.tmp 13)⟩,
  ⟨some 15, none, .pick (.tmp 10) (.tmp 14) (.lit (.d (.bool false)))⟩,
  ⟨some 16, none, .mv (.tmp 15)⟩,
  ⟨some 17, some (16, true), .mv (.tmp 1)⟩,
  ⟨some 18, some (16, true), .call false 26 [(.lit (.d (.int .i64 2))), (.lit (.d (.int .i64 7)))]⟩,
  ⟨some 19, some (16, true), .call false 10 [(.tmp 17), (.tmp 18)]⟩,
  ⟨some 20, none, .pick (.tmp 16) (.tmp 19) (.lit (.d (.bool false)))⟩,
  ⟨some 21, none, .mv (.tmp 20)⟩,
  ⟨some 22, some (21, true), .mv (.tmp 1)⟩,
  ⟨some 23, some (21, true), .call false 24 [(.tmp 22)]⟩,
  ⟨some 24, some (21, true), .bin .eql .plain (.tmp 23) (.lit (.d (.int .i64 1)))⟩,
  ⟨some 25, none, .pick (.tmp 21) (.tmp 24) (.lit (.d (.bool false)))⟩,
  ⟨some 26, none, .mv (.tmp 25)⟩,
  ⟨some 27, some (26, true), .mv (.tmp 1)⟩,
  ⟨some 28, some (26, true), .call false 11 [(.tmp 27), (.lit (.exact []))]⟩,
  ⟨some 29, some (26, true), .len .sl (.tmp 28)⟩,
  ⟨some 30, some (26, true), .bin .eql .plain (.tmp 29) (.lit (.d (.int .i64 1)))⟩,
  ⟨some 31, none, .pick (.tmp 26) (.tmp 30) (.lit (.d (.bool false)))⟩,
  ⟨some 32, none, .mv (.tmp 31)⟩,
  ⟨some 33, some (32, true), .mv (.tmp 1)⟩,
  ⟨some 34, some (32, true), .call false 26 [(.lit (.d (.int .i64 2))), (.lit (.d (.int .i64 7)))]⟩,
  ⟨some 35, some (32, true), .mkslice false 9 1 [(.d (.int .i64 0)), (.d (.int .i64 0)), (.d (.int .i64 0)), (.d (.str [])), (.d (.str [])), (.d (.int .i64 0)), (.exact []), (.d (.int .i64 0)), (.d (.int .i64 0))] [(0, 9, (.tmp 34))]⟩,
  ⟨some 36, some (32, true), .mkslice false 1 1 [(.exact [])] [(0, 1, (.tmp 35))]⟩,
  ⟨some 37, some (32, true), .call false 11 [(.tmp 33), (.tmp 36)]⟩,
  ⟨some 38, some (32, true), .len .sl (.tmp 37)⟩,
  ⟨some 39, some (32, true), .bin .eql .plain (.tmp 38) (.lit (.d (.int .i64 0)))⟩,
  ⟨some 40, none, .pick (.tmp 32) (.tmp 39) (.lit (.d (.bool false)))⟩,
  ⟨some 41, none, .mv (.tmp 40)⟩,
  ⟨some 42, some (41, true), .mv (.tmp 1)⟩,
  ⟨some 43, some (41, true), .call false 15 [(.tmp 42), (.lit (.d (.int .i64 2))), (.lit (.d (.int .i64 6)))]⟩,
  ⟨some 44, some (41, true), .un .not (.tmp 43)⟩,
  ⟨some 45, none, .pick (.tmp 41) (.tmp 44) (.lit (.d (.bool false)))⟩,
  ⟨some 46, none, .mv (.tmp 45)⟩,
  ⟨some 47, some (46, true), .mv (.tmp 1)⟩,
  ⟨some 48, some (46, true), .call false 15 [(.tmp 47), (.lit (.d (.int .i64 2))), (.lit (.d (.int .i64 7)))]⟩,
  ⟨some 49, none, .pick (.tmp 46) (.tmp 48) (.lit (.d (.bool false)))⟩,
  ⟨some 50, none, .mv (.tmp 49)⟩,
  ⟨some 51, some (50, true), .mv (.tmp 1)⟩,
  ⟨some 52, some (50, true), .call false 24 [(.tmp 51)]⟩,
  ⟨some 53, some (50, true), .bin .eql .plain (.tmp 52) (.lit (.d (.int .i64 0)))⟩,
  ⟨some 54, none, .pick (.tmp 50) (.tmp 53) (.lit (.d (.bool false)))⟩,
  ⟨some 0, none, .mv (.tmp 54)⟩])
 .ret)))⟩
theorem isA_l18_begun : isF Try.prog n_l18_begun A_l18_begun := ⟨Try.f9, _, Try.func9, by decide +kernel, rfl, by kernel_rfl, by kernel_rfl, by decide, by kernel_rfl, rfl, by kernel_rfl⟩
/-- (*bulla/pool.Pool).Put -/
def A_pool_Pool_Put : AF := ⟨2, 44, [(.tmp 4)],
 (.seq (.ops [⟨some 3, none, .boxi (.tmp 1)⟩,
  ⟨some 4, none, .mv (.lit (.d (.bool false)))⟩])
 (.seq (.seq (.ops [⟨some 6, none, .mv (.tmp 0)⟩,
  ⟨some 7, none, .call false 27 [(.tmp 6)]⟩,
  ⟨some 8, none, .mv (.tmp 7)⟩,
  ⟨some 9, some (8, false), .load true 9 (.tmp 3)⟩,
  ⟨some 10, some (8, false), .mkslice false 9 1 [(.d (.int .i64 0)), (.d (.int .i64 0)), (.d (.int .i64 0)), (.d (.str [])), (.d (.str [])), (.d (.int .i64 0)), (.exact []), (.d (.int .i64 0)), (.d (.int .i64 0))] [(0, 9, (.tmp 9))]⟩,
  ⟨some 11, some (8, false), .call false 28 [(.tmp 10)]⟩,
  ⟨some 12, some (8, false), .bin .neq .plain (.tmp 11) (.lit (.d (.int .i64 0)))⟩,
  ⟨some 13, none, .pick (.tmp 8) (.lit (.d (.bool true))) (.tmp 12)⟩])
 (.cond (.tmp 13) (.seq (.ops [⟨some 4, none, .mv (.lit (.d (.bool false)))⟩])
 .ret) .skip))
 (.seq (.draw [⟨some 14, none, .mv (.tmp 0)⟩,
  ⟨some 15, none, .faddr 0 (.tmp 3)⟩,
  ⟨some 16, none, .faddr 0 (.tmp 15)⟩,
  ⟨some 17, none, .load false 1 (.tmp 16)⟩,
  ⟨some 18, none, .nilchk (.tmp 14)⟩,
  ⟨some 19, none, .faddr 1 (.tmp 18)⟩,
  ⟨some 20, none, .iaddr (some 8) 1 (.tmp 19) (.tmp 17)⟩,
  ⟨some 5, none, .mv (.tmp 20)⟩] [[], [], [1], [2], [0], [4], [5, 3], [6, 0, 1, 2, 3, 4, 5, 6]] [(0, []), (1, []), (2, []), (3, []), (4, []), (5, []), (6, []), (7, [])] [0, 0, 2, 6, 1, 17, 63, 127])
 (.seq (.seq (.draw [⟨some 21, none, .mv (.tmp 5)⟩,
  ⟨some 22, none, .nilchk (.tmp 21)⟩,
  ⟨some 23, none, .load false 1 (.tmp 22)⟩,
  ⟨some 24, none, .len .sl (.tmp 23)⟩,
  ⟨some 25, none, .bin .gtr .plain (.tmp 24) (.lit (.d (.int .i64 0)))⟩,
  ⟨some 26, none, .mv (.tmp 25)⟩,
  ⟨some 27, some (26, true), .mv (.tmp 5)⟩,
  ⟨some 28, some (26, true), .nilchk (.tmp 27)⟩,
  ⟨some 29, some (26, true), .load false 1 (.tmp 28)⟩,
  ⟨some 30, some (26, true), .iaddr none 9 (.tmp 29) (.lit (.d (.int .i64 0)))⟩,
  ⟨some 31, some (26, true), .faddr 0 (.tmp 30)⟩,
  ⟨some 32, some (26, true), .faddr 1 (.tmp 31)⟩,
  ⟨some 33, some (26, true), .load false 1 (.tmp 32)⟩,
  ⟨some 34, some (26, true), .faddr 0 (.tmp 3)⟩,
  ⟨some 35, some (26, true), .faddr 1 (.tmp 34)⟩,
  ⟨some 36, some (26, true), .load false 1 (.tmp 35)⟩,
  ⟨some 37, some (26, true), .bin .geq .plain (.tmp 33) (.tmp 36)⟩,
  ⟨some 38, none, .pick (.tmp 26) (.tmp 37) (.lit (.d (.bool false)))⟩] [[], [0], [1], [2], [3], [4], [5], [6, 5], [7, 5], [8, 5], [9, 5], [10, 5], [11, 5], [5], [13, 5], [14, 5], [12, 15, 5], [5, 16]] [(0, []), (1, []), (2, []), (3, []), (4, []), (5, []), (6, []), (7, []), (8, []), (9, []), (10, []), (11, []), (12, []), (13, []), (14, []), (15, []), (16, []), (17, [])] [0, 1, 3, 7, 15, 31, 63, 127, 255, 511, 1023, 2047, 4095, 63, 8255, 24639, 65535, 131071])
 (.cond (.tmp 38) (.seq (.ops [⟨some 4, none, .mv (.lit (.d (.bool false)))⟩])
 .ret) .skip))
 (.seq (.ops [⟨some 39, none, .mv (.tmp 5)⟩,
  ⟨some 40, none, .load true 9 (.tmp 3)⟩,
  ⟨some 41, none, .mkslice false 9 1 [(.d (.int .i64 0)), (.d (.int .i64 0)), (.d (.int .i64 0)), (.d (.str [])), (.d (.str [])), (.d (.int .i64 0)), (.exact []), (.d (.int .i64 0)), (.d (.int .i64 0))] [(0, 9, (.tmp 40))]⟩,
  ⟨some 42, none, .call false 29 [(.tmp 41)]⟩,
  ⟨some 43, none, .nilchk (.tmp 39)⟩,
  ⟨none, none, .store 1 (.tmp 43) (.tmp 42)⟩])
 (.seq (.ops [⟨some 4, none, .mv (.lit (.d (.bool true)))⟩])
 .ret))))))⟩
theorem isA_pool_Pool_Put : isF Try.prog n_pool_Pool_Put A_pool_Pool_Put := ⟨Try.f10, _, Try.func10, by decide +kernel, rfl, by kernel_rfl, by kernel_rfl, by decide, by kernel_rfl, rfl, by kernel_rfl⟩
end Go.Proofs.Ytfnnejokhikefaa

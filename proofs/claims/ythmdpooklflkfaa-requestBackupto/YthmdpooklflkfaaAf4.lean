/- Resolved forms, each with the theorem that it is its function's. Printed by program. -/
import Derived.Test.YthmdpooklflkfaaNm
import Derived.KernelRfl
set_option linter.all false
set_option maxRecDepth 100000
set_option linter.unusedVariables false
namespace Go.Proofs.Ythmdpooklflkfaa
open Go.AW
/-- bulla/request.known -/
def A_request_known : AF := ⟨1, 11, [(.tmp 2)],
 (.seq (.ops [⟨some 2, none, .mv (.lit (.d (.bool false)))⟩])
 (.seq (.ops [⟨some 3, none, .mv (.tmp 0)⟩,
  ⟨some 4, none, .call false 103 [(.tmp 3)]⟩,
  ⟨some 5, none, .bin .gtr .plain (.tmp 4) (.lit (.d (.int .i64 0)))⟩,
  ⟨some 6, none, .mv (.tmp 5)⟩,
  ⟨some 7, some (6, false), .mv (.tmp 0)⟩,
  ⟨some 8, some (6, false), .call false 104 [(.tmp 7)]⟩,
  ⟨some 9, some (6, false), .bin .neq .ptr (.tmp 8) (.lit (.d .nilp))⟩,
  ⟨some 10, none, .pick (.tmp 6) (.lit (.d (.bool true))) (.tmp 9)⟩,
  ⟨some 2, none, .mv (.tmp 10)⟩])
 .ret))⟩
theorem isA_request_known : isF Try.prog n_request_known A_request_known := ⟨Try.f70, _, Try.func70, by decide +kernel, rfl, by kernel_rfl, by kernel_rfl, by decide, by kernel_rfl, rfl, by kernel_rfl⟩
/-- (*bulla/codec.Reader).Num -/
def A_codec_Reader_Num : AF := ⟨2, 72, [(.tmp 4)],
 (.seq (.ops [⟨some 4, none, .mv (.lit (.d (.int .u64 0)))⟩])
 (.seq (.seq (.ops [⟨some 8, none, .mv (.tmp 0)⟩,
  ⟨some 9, none, .call false 87 [(.tmp 8)]⟩])
 (.cond (.tmp 9) (.seq (.ops [⟨some 4, none, .mv (.lit (.d (.int .u64 0)))⟩])
 .ret) .skip))
 (.seq (.ops [⟨some 5, none, .mv (.lit (.d (.int .u64 0)))⟩])
 (.seq (.seq (.ops [⟨some 10, none, .mv (.lit (.d (.int .i64 0)))⟩])
 (.block 0 (.loop [5, 10] [4, 6, 7, 11, 12, 13, 14, 15, 16, 17, 18, 19, 20, 21, 22, 23, 24, 25, 26, 27, 28, 29, 30, 31, 32, 33, 34, 35, 36, 37, 38, 39, 40, 41, 42, 43, 44, 45, 46, 47, 48, 49, 50, 51, 52, 53, 54, 55, 56, 57, 58, 59, 60, 61, 62, 63, 64, 65, 66, 67, 68, 69] (.seq (.ops [⟨some 11, none, .bin .lss .plain (.tmp 10) (.lit (.d (.int .i64 10)))⟩])
 (.seq (.cond (.tmp 11) .skip (.exit 0))
 (.seq (.block 1 (.seq (.ops [⟨some 12, none, .mv (.tmp 10)⟩,
  ⟨some 6, none, .mv (.tmp 12)⟩])
 (.seq (.seq (.ops [⟨some 13, none, .mv (.tmp 6)⟩,
  ⟨some 14, none, .mv (.tmp 0)⟩,
  ⟨some 15, none, .nilchk (.tmp 14)⟩,
  ⟨some 16, none, .faddr 0 (.tmp 15)⟩,
  ⟨some 17, none, .load false 1 (.tmp 16)⟩,
  ⟨some 18, none, .len .sl (.tmp 17)⟩,
  ⟨some 19, none, .bin .geq .plain (.tmp 13) (.tmp 18)⟩])
 (.cond (.tmp 19) (.seq (.ops [⟨some 20, none, .mv (.tmp 0)⟩,
  ⟨some 21, none, .call false 84 [(.tmp 20), (.lit (.d (.int .i64 10)))]⟩])
 (.seq (.ops [⟨some 4, none, .mv (.lit (.d (.int .u64 0)))⟩])
 .ret)) .skip))
 (.seq (.ops [⟨some 22, none, .mv (.tmp 0)⟩,
  ⟨some 23, none, .nilchk (.tmp 22)⟩,
  ⟨some 24, none, .faddr 0 (.tmp 23)⟩,
  ⟨some 25, none, .load false 1 (.tmp 24)⟩,
  ⟨some 26, none, .mv (.tmp 6)⟩,
  ⟨some 27, none, .iaddr none 1 (.tmp 25) (.tmp 26)⟩,
  ⟨some 28, none, .load false 1 (.tmp 27)⟩,
  ⟨some 7, none, .mv (.tmp 28)⟩])
 (.seq (.ops [⟨some 29, none, .mv (.tmp 5)⟩,
  ⟨some 30, none, .mv (.tmp 7)⟩,
  ⟨some 31, none, .bin .and .plain (.tmp 30) (.lit (.d (.int .u8 127)))⟩,
  ⟨some 32, none, .conv (.int .u64) (.tmp 31)⟩,
  ⟨some 33, none, .mv (.tmp 6)⟩,
  ⟨some 34, none, .bin .mul .plain (.lit (.d (.int .i64 7))) (.tmp 33)⟩,
  ⟨some 35, none, .bin .shl .plain (.tmp 32) (.tmp 34)⟩,
  ⟨some 36, none, .bin .or .plain (.tmp 29) (.tmp 35)⟩,
  ⟨some 5, none, .mv (.tmp 36)⟩])
 (.seq (.seq (.ops [⟨some 37, none, .mv (.tmp 7)⟩,
  ⟨some 38, none, .bin .gtr .plain (.tmp 37) (.lit (.d (.int .u8 127)))⟩])
 (.cond (.tmp 38) (.exit 1) .skip))
 (.seq (.seq (.ops [⟨some 39, none, .mv (.tmp 6)⟩,
  ⟨some 40, none, .bin .gtr .plain (.tmp 39) (.lit (.d (.int .i64 0)))⟩,
  ⟨some 41, none, .mv (.tmp 40)⟩,
  ⟨some 42, some (41, true), .mv (.tmp 7)⟩,
  ⟨some 43, some (41, true), .bin .eql .plain (.tmp 42) (.lit (.d (.int .u8 0)))⟩,
  ⟨some 44, none, .pick (.tmp 41) (.tmp 43) (.lit (.d (.bool false)))⟩,
  ⟨some 45, none, .mv (.tmp 44)⟩,
  ⟨some 46, some (45, false), .mv (.tmp 6)⟩,
  ⟨some 47, some (45, false), .bin .eql .plain (.tmp 46) (.lit (.d (.int .i64 9)))⟩,
  ⟨some 48, some (45, false), .mv (.tmp 47)⟩,
  ⟨some 49, some (48, true), .mv (.tmp 7)⟩,
  ⟨some 50, some (48, true), .bin .gtr .plain (.tmp 49) (.lit (.d (.int .u8 1)))⟩,
  ⟨some 51, some (45, false), .pick (.tmp 48) (.tmp 50) (.lit (.d (.bool false)))⟩,
  ⟨some 52, none, .pick (.tmp 45) (.lit (.d (.bool true))) (.tmp 51)⟩,
  ⟨some 53, none, .mv (.tmp 52)⟩,
  ⟨some 54, some (53, false), .mv (.tmp 5)⟩,
  ⟨some 55, some (53, false), .mv (.tmp 1)⟩,
  ⟨some 56, some (53, false), .bin .gtr .plain (.tmp 54) (.tmp 55)⟩,
  ⟨some 57, none, .pick (.tmp 53) (.lit (.d (.bool true))) (.tmp 56)⟩])
 (.cond (.tmp 57) (.exit 0) .skip))
 (.seq (.ops [⟨some 58, none, .mv (.tmp 0)⟩,
  ⟨some 59, none, .mv (.tmp 0)⟩,
  ⟨some 60, none, .nilchk (.tmp 59)⟩,
  ⟨some 61, none, .faddr 0 (.tmp 60)⟩,
  ⟨some 62, none, .load false 1 (.tmp 61)⟩,
  ⟨some 63, none, .mv (.tmp 6)⟩,
  ⟨some 64, none, .bin .add .plain (.tmp 63) (.lit (.d (.int .i64 1)))⟩,
  ⟨some 65, none, .slc (.sl 1) (.tmp 62) (some (.tmp 64)) none none⟩,
  ⟨some 66, none, .nilchk (.tmp 58)⟩,
  ⟨some 67, none, .faddr 0 (.tmp 66)⟩,
  ⟨none, none, .store 1 (.tmp 67) (.tmp 65)⟩])
 (.seq (.ops [⟨some 68, none, .mv (.tmp 5)⟩,
  ⟨some 4, none, .mv (.tmp 68)⟩])
 .ret)))))))))
 (.ops [⟨some 69, none, .bin .add .plain (.tmp 10) (.lit (.d (.int .i64 1)))⟩,
  ⟨some 10, none, .mv (.tmp 69)⟩])))))))
 (.seq (.ops [⟨some 70, none, .mv (.tmp 0)⟩,
  ⟨some 71, none, .call false 84 [(.tmp 70), (.lit (.d (.int .i64 11)))]⟩])
 (.seq (.ops [⟨some 4, none, .mv (.lit (.d (.int .u64 0)))⟩])
 .ret))))))⟩
theorem isA_codec_Reader_Num : isF Try.prog n_codec_Reader_Num A_codec_Reader_Num := ⟨Try.f77, _, Try.func77, by decide +kernel, rfl, by kernel_rfl, by kernel_rfl, by decide, by kernel_rfl, rfl, by kernel_rfl⟩
/-- bulla/op.Take -/
def A_op_Take : AF := ⟨1, 59, [(.cell 2 true 5)],
 (.seq (.ops [⟨some 2, none, .alloc [(.d (.int .i64 0)), (.d (.str [])), (.d (.str [])), (.d (.int .i64 0)), (.exact [])]⟩])
 (.seq (.ops [⟨some 4, none, .mv (.tmp 0)⟩,
  ⟨some 5, none, .call false 77 [(.tmp 4), (.lit (.d (.int .u64 4)))]⟩,
  ⟨some 6, none, .conv (.int .i64) (.tmp 5)⟩,
  ⟨some 7, none, .build [(.d (.int .i64 0)), (.d (.str [])), (.d (.str [])), (.d (.int .i64 0)), (.exact [])] [(0, 1, (.tmp 6))]⟩,
  ⟨some 3, none, .alloc [(.d (.int .i64 0)), (.d (.str [])), (.d (.str [])), (.d (.int .i64 0)), (.exact [])]⟩,
  ⟨none, none, .store 5 (.tmp 3) (.tmp 7)⟩])
 (.seq (.seq (.ops [⟨some 8, none, .faddr 0 (.tmp 3)⟩,
  ⟨some 9, none, .load false 1 (.tmp 8)⟩,
  ⟨some 10, none, .bin .neq .plain (.tmp 9) (.lit (.d (.int .i64 0)))⟩])
 (.cond (.tmp 10) (.ops [⟨some 11, none, .mv (.tmp 0)⟩,
  ⟨some 12, none, .call false 83 [(.tmp 11), (.lit (.d (.int .i64 64)))]⟩,
  ⟨some 13, none, .conv .toStr (.tmp 12)⟩,
  ⟨some 14, none, .faddr 1 (.tmp 3)⟩,
  ⟨none, none, .store 1 (.tmp 14) (.tmp 13)⟩]) .skip))
 (.seq (.seq (.ops [⟨some 15, none, .faddr 0 (.tmp 3)⟩,
  ⟨some 16, none, .load false 1 (.tmp 15)⟩])
 (.block 0 (.seq (.ops [⟨some 18, none, .bin .eql .plain (.tmp 16) (.lit (.d (.int .i64 2)))⟩,
  ⟨some 17, none, .mv (.tmp 18)⟩])
 (.cond (.tmp 17) (.seq (.ops [⟨some 19, none, .mv (.tmp 0)⟩,
  ⟨some 20, none, .call false 77 [(.tmp 19), (.lit (.d (.int .u64 4)))]⟩,
  ⟨some 21, none, .mv (.lit (.d (.int .u64 0)))⟩])
 (.block 1 (.loop [21] [22, 23, 24, 25, 26, 27, 28, 29, 30] (.seq (.ops [⟨some 22, none, .bin .lss .plain (.tmp 21) (.tmp 20)⟩])
 (.seq (.cond (.tmp 22) .skip (.exit 1))
 (.seq (.block 2 (.draw [⟨some 23, none, .faddr 4 (.tmp 3)⟩,
  ⟨some 24, none, .load false 1 (.tmp 23)⟩,
  ⟨some 25, none, .mv (.tmp 0)⟩,
  ⟨some 26, none, .call false 83 [(.tmp 25), (.lit (.d (.int .i64 64)))]⟩,
  ⟨some 27, none, .mkslice false 1 1 [(.exact [])] [(0, 1, (.tmp 26))]⟩,
  ⟨some 28, none, .append false 1 24 [(.exact [])] (.tmp 24) (.tmp 27)⟩,
  ⟨some 29, none, .faddr 4 (.tmp 3)⟩,
  ⟨none, none, .store 1 (.tmp 29) (.tmp 28)⟩] [[], [0], [], [2], [3], [1, 4, 3], [0, 1, 2, 3, 4, 5], [6, 5, 5, 0, 1, 2, 3, 4, 5]] [(0, []), (1, []), (2, []), (3, [23]), (4, []), (5, []), (6, []), (7, [])] [0, 1, 0, 4, 12, 31, 63, 127]))
 (.ops [⟨some 30, none, .bin .add .plain (.tmp 21) (.lit (.d (.int .u64 1)))⟩,
  ⟨some 21, none, .mv (.tmp 30)⟩]))))))) (.seq (.ops [⟨some 32, none, .bin .eql .plain (.tmp 16) (.lit (.d (.int .i64 3)))⟩,
  ⟨some 31, none, .mv (.tmp 32)⟩])
 (.cond (.tmp 31) (.seq (.ops [⟨some 33, none, .mv (.tmp 0)⟩,
  ⟨some 34, none, .call false 83 [(.tmp 33), (.lit (.d (.int .i64 64)))]⟩,
  ⟨some 35, none, .conv .toStr (.tmp 34)⟩,
  ⟨some 36, none, .faddr 2 (.tmp 3)⟩,
  ⟨none, none, .store 1 (.tmp 36) (.tmp 35)⟩])
 (.ops [⟨some 37, none, .mv (.tmp 0)⟩,
  ⟨some 38, none, .call false 77 [(.tmp 37), (.lit (.d (.int .u64 9007199254740992)))]⟩,
  ⟨some 39, none, .conv (.int .i64) (.tmp 38)⟩,
  ⟨some 40, none, .faddr 3 (.tmp 3)⟩,
  ⟨none, none, .store 1 (.tmp 40) (.tmp 39)⟩])) (.seq (.ops [⟨some 42, none, .bin .eql .plain (.tmp 16) (.lit (.d (.int .i64 4)))⟩,
  ⟨some 41, none, .mv (.tmp 42)⟩])
 (.cond (.tmp 41) (.ops [⟨some 43, none, .mv (.tmp 0)⟩,
  ⟨some 44, none, .call false 77 [(.tmp 43), (.lit (.d (.int .u64 9007199254740992)))]⟩,
  ⟨some 45, none, .conv (.int .i64) (.tmp 44)⟩,
  ⟨some 46, none, .faddr 3 (.tmp 3)⟩,
  ⟨none, none, .store 1 (.tmp 46) (.tmp 45)⟩]) .skip))))))))
 (.seq (.seq (.ops [⟨some 47, none, .mv (.tmp 0)⟩,
  ⟨some 48, none, .call false 46 [(.tmp 47)]⟩,
  ⟨some 49, none, .bin .eql .plain (.tmp 48) (.lit (.d (.int .i64 0)))⟩])
 (.cond (.tmp 49) (.ops [⟨some 50, none, .mv (.tmp 0)⟩,
  ⟨some 51, none, .load true 5 (.tmp 3)⟩,
  ⟨some 52, none, .call false 52 [(.tmp 51)]⟩,
  ⟨some 53, none, .call false 84 [(.tmp 50), (.tmp 52)]⟩]) .skip))
 (.seq (.seq (.ops [⟨some 54, none, .mv (.tmp 0)⟩,
  ⟨some 55, none, .call false 46 [(.tmp 54)]⟩,
  ⟨some 56, none, .bin .neq .plain (.tmp 55) (.lit (.d (.int .i64 0)))⟩])
 (.cond (.tmp 56) (.seq (.ops [⟨some 57, none, .build [(.d (.int .i64 0)), (.d (.str [])), (.d (.str [])), (.d (.int .i64 0)), (.exact [])] []⟩,
  ⟨none, none, .store 5 (.tmp 2) (.tmp 57)⟩])
 .ret) .skip))
 (.seq (.ops [⟨some 58, none, .load true 5 (.tmp 3)⟩,
  ⟨none, none, .store 5 (.tmp 2) (.tmp 58)⟩])
 .ret)))))))⟩
theorem isA_op_Take : isF Try.prog n_op_Take A_op_Take := ⟨Try.f78, _, Try.func78, by decide +kernel, rfl, by kernel_rfl, by kernel_rfl, by decide, by kernel_rfl, rfl, by kernel_rfl⟩
/-- bulla/bullaref06.Same -/
def A_r06_Same : AF := ⟨2, 61, [(.tmp 4)],
 (.seq (.ops [⟨some 2, none, .boxi (.tmp 0)⟩,
  ⟨some 3, none, .boxi (.tmp 1)⟩,
  ⟨some 4, none, .mv (.lit (.d (.bool false)))⟩])
 (.seq (.seq (.ops [⟨some 6, none, .faddr 0 (.tmp 2)⟩,
  ⟨some 7, none, .load false 1 (.tmp 6)⟩,
  ⟨some 8, none, .faddr 0 (.tmp 3)⟩,
  ⟨some 9, none, .load false 1 (.tmp 8)⟩,
  ⟨some 10, none, .bin .neq .plain (.tmp 7) (.tmp 9)⟩,
  ⟨some 11, none, .mv (.tmp 10)⟩,
  ⟨some 12, some (11, false), .faddr 1 (.tmp 2)⟩,
  ⟨some 13, some (11, false), .load false 1 (.tmp 12)⟩,
  ⟨some 14, some (11, false), .faddr 1 (.tmp 3)⟩,
  ⟨some 15, some (11, false), .load false 1 (.tmp 14)⟩,
  ⟨some 16, some (11, false), .bin .neq .plain (.tmp 13) (.tmp 15)⟩,
  ⟨some 17, none, .pick (.tmp 11) (.lit (.d (.bool true))) (.tmp 16)⟩,
  ⟨some 18, none, .mv (.tmp 17)⟩,
  ⟨some 19, some (18, false), .faddr 2 (.tmp 2)⟩,
  ⟨some 20, some (18, false), .load false 1 (.tmp 19)⟩,
  ⟨some 21, some (18, false), .faddr 2 (.tmp 3)⟩,
  ⟨some 22, some (18, false), .load false 1 (.tmp 21)⟩,
  ⟨some 23, some (18, false), .bin .neq .plain (.tmp 20) (.tmp 22)⟩,
  ⟨some 24, none, .pick (.tmp 18) (.lit (.d (.bool true))) (.tmp 23)⟩,
  ⟨some 25, none, .mv (.tmp 24)⟩,
  ⟨some 26, some (25, false), .faddr 3 (.tmp 2)⟩,
  ⟨some 27, some (25, false), .load false 1 (.tmp 26)⟩,
  ⟨some 28, some (25, false), .faddr 3 (.tmp 3)⟩,
  ⟨some 29, some (25, false), .load false 1 (.tmp 28)⟩,
  ⟨some 30, some (25, false), .bin .neq .plain (.tmp 27) (.tmp 29)⟩,
  ⟨some 31, none, .pick (.tmp 25) (.lit (.d (.bool true))) (.tmp 30)⟩,
  ⟨some 32, none, .mv (.tmp 31)⟩,
  ⟨some 33, some (32, false), .faddr 4 (.tmp 2)⟩,
  ⟨some 34, some (32, false), .load false 1 (.tmp 33)⟩,
  ⟨some 35, some (32, false), .len .sl (.tmp 34)⟩,
  ⟨some 36, some (32, false), .faddr 4 (.tmp 3)⟩,
  ⟨some 37, some (32, false), .load false 1 (.tmp 36)⟩,
  ⟨some 38, some (32, false), .len .sl (.tmp 37)⟩,
  ⟨some 39, some (32, false), .bin .neq .plain (.tmp 35) (.tmp 38)⟩,
  ⟨some 40, none, .pick (.tmp 32) (.lit (.d (.bool true))) (.tmp 39)⟩])
 (.cond (.tmp 40) (.seq (.ops [⟨some 4, none, .mv (.lit (.d (.bool false)))⟩])
 .ret) .skip))
 (.seq (.seq (.ops [⟨some 5, none, .mv (.lit (.d (.int .i64 0)))⟩])
 (.block 0 (.loop [5] [4, 41, 42, 43, 44, 45, 46, 47, 48, 49, 50, 51, 52, 53, 54, 55, 56, 57, 58, 59, 60] (.seq (.seq (.ops [⟨some 41, none, .mv (.tmp 5)⟩,
  ⟨some 42, none, .faddr 4 (.tmp 2)⟩,
  ⟨some 43, none, .load false 1 (.tmp 42)⟩,
  ⟨some 44, none, .len .sl (.tmp 43)⟩,
  ⟨some 45, none, .bin .lss .plain (.tmp 41) (.tmp 44)⟩])
 (.cond (.tmp 45) .skip (.exit 0)))
 (.seq (.block 1 (.seq (.draw [⟨some 48, none, .faddr 4 (.tmp 2)⟩,
  ⟨some 49, none, .load false 1 (.tmp 48)⟩,
  ⟨some 50, none, .mv (.tmp 5)⟩,
  ⟨some 51, none, .iaddr none 1 (.tmp 49) (.tmp 50)⟩,
  ⟨some 52, none, .load false 1 (.tmp 51)⟩,
  ⟨some 53, none, .conv .toStr (.tmp 52)⟩,
  ⟨some 54, none, .faddr 4 (.tmp 3)⟩,
  ⟨some 55, none, .load false 1 (.tmp 54)⟩,
  ⟨some 56, none, .mv (.tmp 5)⟩,
  ⟨some 57, none, .iaddr none 1 (.tmp 55) (.tmp 56)⟩,
  ⟨some 58, none, .load false 1 (.tmp 57)⟩,
  ⟨some 59, none, .conv .toStr (.tmp 58)⟩,
  ⟨some 60, none, .bin .neq .plain (.tmp 53) (.tmp 59)⟩] [[], [0], [], [1, 2], [3], [4], [], [6], [], [7, 8], [9], [10], [5, 11]] [(0, []), (1, []), (2, []), (3, []), (4, []), (5, []), (6, []), (7, []), (8, []), (9, []), (10, []), (11, []), (12, [])] [0, 1, 0, 7, 15, 31, 0, 64, 0, 448, 960, 1984, 4095])
 (.cond (.tmp 60) (.seq (.ops [⟨some 4, none, .mv (.lit (.d (.bool false)))⟩])
 .ret) .skip)))
 (.ops [⟨some 46, none, .mv (.tmp 5)⟩,
  ⟨some 47, none, .bin .add .plain (.tmp 46) (.lit (.d (.int .i64 1)))⟩,
  ⟨some 5, none, .mv (.tmp 47)⟩]))))))
 (.seq (.ops [⟨some 4, none, .mv (.lit (.d (.bool true)))⟩])
 .ret))))⟩
theorem isA_r06_Same : isF Try.prog n_r06_Same A_r06_Same := ⟨Try.f82, _, Try.func82, by decide +kernel, rfl, by kernel_rfl, by kernel_rfl, by decide, by kernel_rfl, rfl, by kernel_rfl⟩
/-- (*bulla/codec.Reader).Bytes -/
def A_codec_Reader_Bytes : AF := ⟨2, 13, [(.tmp 4)],
 (.seq (.ops [⟨some 4, none, .mv (.lit (.exact []))⟩])
 (.seq (.ops [⟨some 5, none, .mv (.tmp 0)⟩,
  ⟨some 6, none, .mv (.tmp 0)⟩,
  ⟨some 7, none, .mv (.tmp 1)⟩,
  ⟨some 8, none, .maxi [(.lit (.d (.int .i64 0))), (.tmp 7)]⟩,
  ⟨some 9, none, .conv (.int .u64) (.tmp 8)⟩,
  ⟨some 10, none, .call false 77 [(.tmp 6), (.tmp 9)]⟩,
  ⟨some 11, none, .conv (.int .i64) (.tmp 10)⟩,
  ⟨some 12, none, .call false 107 [(.tmp 5), (.tmp 11)]⟩,
  ⟨some 4, none, .mv (.tmp 12)⟩])
 .ret))⟩
theorem isA_codec_Reader_Bytes : isF Try.prog n_codec_Reader_Bytes A_codec_Reader_Bytes := ⟨Try.f83, _, Try.func83, by decide +kernel, rfl, by kernel_rfl, by kernel_rfl, by decide, by kernel_rfl, rfl, by kernel_rfl⟩
/-- (*bulla/codec.Reader).Fail -/
def A_codec_Reader_Fail : AF := ⟨2, 11, [],
 (.seq (.ops [⟨some 4, none, .mv (.tmp 0)⟩,
  ⟨some 5, none, .call false 87 [(.tmp 4)]⟩,
  ⟨some 6, none, .un .not (.tmp 5)⟩])
 (.cond (.tmp 6) (.ops [⟨some 7, none, .mv (.tmp 0)⟩,
  ⟨some 8, none, .mv (.tmp 1)⟩,
  ⟨some 9, none, .nilchk (.tmp 7)⟩,
  ⟨some 10, none, .faddr 1 (.tmp 9)⟩,
  ⟨none, none, .store 1 (.tmp 10) (.tmp 8)⟩]) .skip))⟩
theorem isA_codec_Reader_Fail : isF Try.prog n_codec_Reader_Fail A_codec_Reader_Fail := ⟨Try.f84, _, Try.func84, by decide +kernel, rfl, by kernel_rfl, by kernel_rfl, by decide, by kernel_rfl, rfl, by kernel_rfl⟩
/-- (*bulla/codec.Reader).stuck -/
def A_codec_Reader_stuck : AF := ⟨1, 19, [(.tmp 2)],
 (.seq (.ops [⟨some 2, none, .mv (.lit (.d (.bool false)))⟩])
 (.seq (.ops [⟨some 3, none, .mv (.tmp 0)⟩,
  ⟨some 4, none, .bin .eql .ptr (.tmp 3) (.lit (.d .nilp))⟩,
  ⟨some 5, none, .mv (.tmp 4)⟩,
  ⟨some 6, some (5, false), .mv (.tmp 0)⟩,
  ⟨some 7, some (5, false), .nilchk (.tmp 6)⟩,
  ⟨some 8, some (5, false), .faddr 2 (.tmp 7)⟩,
  ⟨some 9, some (5, false), .load false 1 (.tmp 8)⟩,
  ⟨some 10, some (5, false), .un .not (.tmp 9)⟩,
  ⟨some 11, none, .pick (.tmp 5) (.lit (.d (.bool true))) (.tmp 10)⟩,
  ⟨some 12, none, .mv (.tmp 11)⟩,
  ⟨some 13, some (12, false), .mv (.tmp 0)⟩,
  ⟨some 14, some (12, false), .nilchk (.tmp 13)⟩,
  ⟨some 15, some (12, false), .faddr 1 (.tmp 14)⟩,
  ⟨some 16, some (12, false), .load false 1 (.tmp 15)⟩,
  ⟨some 17, some (12, false), .bin .neq .plain (.tmp 16) (.lit (.d (.int .i64 0)))⟩,
  ⟨some 18, none, .pick (.tmp 12) (.lit (.d (.bool true))) (.tmp 17)⟩,
  ⟨some 2, none, .mv (.tmp 18)⟩])
 .ret))⟩
theorem isA_codec_Reader_stuck : isF Try.prog n_codec_Reader_stuck A_codec_Reader_stuck := ⟨Try.f87, _, Try.func87, by decide +kernel, rfl, by kernel_rfl, by kernel_rfl, by decide, by kernel_rfl, rfl, by kernel_rfl⟩
/-- bulla/op.only -/
def A_op_only : AF := ⟨1, 46, [(.cell 2 true 5), (.tmp 3)],
 (.seq (.ops [⟨some 1, none, .boxi (.tmp 0)⟩,
  ⟨some 2, none, .alloc [(.d (.int .i64 0)), (.d (.str [])), (.d (.str [])), (.d (.int .i64 0)), (.exact [])]⟩,
  ⟨some 3, none, .mv (.lit (.d (.bool false)))⟩])
 (.seq (.ops [⟨some 5, none, .faddr 0 (.tmp 1)⟩,
  ⟨some 6, none, .load false 1 (.tmp 5)⟩,
  ⟨some 7, none, .build [(.d (.int .i64 0)), (.d (.str [])), (.d (.str [])), (.d (.int .i64 0)), (.exact [])] [(0, 1, (.tmp 6))]⟩,
  ⟨some 4, none, .alloc [(.d (.int .i64 0)), (.d (.str [])), (.d (.str [])), (.d (.int .i64 0)), (.exact [])]⟩,
  ⟨none, none, .store 5 (.tmp 4) (.tmp 7)⟩])
 (.seq (.seq (.ops [⟨some 8, none, .faddr 0 (.tmp 1)⟩,
  ⟨some 9, none, .load false 1 (.tmp 8)⟩])
 (.block 0 (.seq (.ops [⟨some 12, none, .bin .eql .plain (.tmp 9) (.lit (.d (.int .i64 0)))⟩,
  ⟨some 11, none, .mv (.tmp 12)⟩])
 (.cond (.tmp 11) .skip (.seq (.ops [⟨some 14, none, .bin .eql .plain (.tmp 9) (.lit (.d (.int .i64 1)))⟩,
  ⟨some 13, none, .mv (.tmp 14)⟩])
 (.cond (.tmp 13) (.ops [⟨some 15, none, .faddr 1 (.tmp 1)⟩,
  ⟨some 16, none, .load false 1 (.tmp 15)⟩,
  ⟨some 17, none, .faddr 1 (.tmp 4)⟩,
  ⟨none, none, .store 1 (.tmp 17) (.tmp 16)⟩]) (.seq (.ops [⟨some 19, none, .bin .eql .plain (.tmp 9) (.lit (.d (.int .i64 2)))⟩,
  ⟨some 18, none, .mv (.tmp 19)⟩])
 (.cond (.tmp 18) (.draw [⟨some 20, none, .faddr 1 (.tmp 1)⟩,
  ⟨some 21, none, .load false 1 (.tmp 20)⟩,
  ⟨some 22, none, .faddr 4 (.tmp 1)⟩,
  ⟨some 23, none, .load false 1 (.tmp 22)⟩,
  ⟨some 24, none, .faddr 1 (.tmp 4)⟩,
  ⟨none, none, .store 1 (.tmp 24) (.tmp 21)⟩,
  ⟨some 25, none, .faddr 4 (.tmp 4)⟩,
  ⟨none, none, .store 1 (.tmp 25) (.tmp 23)⟩] [[], [0], [], [2], [0, 1], [4, 1, 0, 1], [0, 1, 2, 3, 4, 5], [6, 3, 5, 0, 1, 2, 3, 4, 5]] [(0, []), (1, []), (2, []), (3, []), (4, []), (5, [22]), (6, []), (7, [])] [0, 1, 0, 4, 3, 19, 63, 127]) (.seq (.ops [⟨some 27, none, .bin .eql .plain (.tmp 9) (.lit (.d (.int .i64 3)))⟩,
  ⟨some 26, none, .mv (.tmp 27)⟩])
 (.cond (.tmp 26) (.draw [⟨some 28, none, .faddr 1 (.tmp 1)⟩,
  ⟨some 29, none, .load false 1 (.tmp 28)⟩,
  ⟨some 30, none, .faddr 2 (.tmp 1)⟩,
  ⟨some 31, none, .load false 1 (.tmp 30)⟩,
  ⟨some 32, none, .faddr 3 (.tmp 1)⟩,
  ⟨some 33, none, .load false 1 (.tmp 32)⟩,
  ⟨some 34, none, .faddr 1 (.tmp 4)⟩,
  ⟨none, none, .store 1 (.tmp 34) (.tmp 29)⟩,
  ⟨some 35, none, .faddr 2 (.tmp 4)⟩,
  ⟨none, none, .store 1 (.tmp 35) (.tmp 31)⟩,
  ⟨some 36, none, .faddr 3 (.tmp 4)⟩,
  ⟨none, none, .store 1 (.tmp 36) (.tmp 33)⟩] [[], [0], [], [2], [], [4], [0, 1], [6, 1, 0, 1], [0, 1, 2, 3, 6, 7], [8, 3, 7, 0, 1, 2, 3, 6, 7], [0, 1, 2, 3, 4, 5, 6, 7, 8, 9], [10, 5, 9, 0, 1, 2, 3, 4, 5, 6, 7, 8, 9]] [(0, []), (1, []), (2, []), (3, []), (4, []), (5, []), (6, []), (7, [30, 32]), (8, []), (9, [32]), (10, []), (11, [])] [0, 1, 0, 4, 0, 16, 3, 67, 207, 463, 1023, 2047]) (.seq (.ops [⟨some 38, none, .bin .eql .plain (.tmp 9) (.lit (.d (.int .i64 4)))⟩,
  ⟨some 37, none, .mv (.tmp 38)⟩])
 (.cond (.tmp 37) (.draw [⟨some 39, none, .faddr 1 (.tmp 1)⟩,
  ⟨some 40, none, .load false 1 (.tmp 39)⟩,
  ⟨some 41, none, .faddr 3 (.tmp 1)⟩,
  ⟨some 42, none, .load false 1 (.tmp 41)⟩,
  ⟨some 43, none, .faddr 1 (.tmp 4)⟩,
  ⟨none, none, .store 1 (.tmp 43) (.tmp 40)⟩,
  ⟨some 44, none, .faddr 3 (.tmp 4)⟩,
  ⟨none, none, .store 1 (.tmp 44) (.tmp 42)⟩] [[], [0], [], [2], [0, 1], [4, 1, 0, 1], [0, 1, 2, 3, 4, 5], [6, 3, 5, 0, 1, 2, 3, 4, 5]] [(0, []), (1, []), (2, []), (3, []), (4, []), (5, [41]), (6, []), (7, [])] [0, 1, 0, 4, 3, 19, 63, 127]) (.seq (.ops [⟨some 10, none, .load true 5 (.tmp 4)⟩,
  ⟨none, none, .store 5 (.tmp 2) (.tmp 10)⟩,
  ⟨some 3, none, .mv (.lit (.d (.bool false)))⟩])
 .ret)))))))))))))
 (.seq (.ops [⟨some 45, none, .load true 5 (.tmp 4)⟩,
  ⟨none, none, .store 5 (.tmp 2) (.tmp 45)⟩,
  ⟨some 3, none, .mv (.lit (.d (.bool true)))⟩])
 .ret))))⟩
theorem isA_op_only : isF Try.prog n_op_only A_op_only := ⟨Try.f88, _, Try.func88, by decide +kernel, rfl, by kernel_rfl, by kernel_rfl, by decide, by kernel_rfl, rfl, by kernel_rfl⟩
/-- bulla/op.Check$1 -/
def A_op_Check_1 : AF := ⟨1, 6, [(.tmp 2)],
 (.seq (.ops [⟨some 2, none, .mv (.lit (.d (.bool false)))⟩])
 (.seq (.ops [⟨some 3, none, .mv (.tmp 0)⟩,
  ⟨some 4, none, .len .sl (.tmp 3)⟩,
  ⟨some 5, none, .bin .gtr .plain (.tmp 4) (.lit (.d (.int .i64 64)))⟩,
  ⟨some 2, none, .mv (.tmp 5)⟩])
 .ret))⟩
theorem isA_op_Check_1 : isF Try.prog n_op_Check_1 A_op_Check_1 := ⟨Try.f89, _, Try.func89, by decide +kernel, rfl, by kernel_rfl, by kernel_rfl, by decide, by kernel_rfl, rfl, by kernel_rfl⟩
/-- bulla/op.Name -/
def A_op_Name : AF := ⟨1, 6, [(.tmp 2)],
 (.seq (.ops [⟨some 2, none, .mv (.lit (.d (.bool false)))⟩])
 (.seq (.ops [⟨some 3, none, .mv (.tmp 0)⟩,
  ⟨some 4, none, .call false 109 [(.tmp 3)]⟩,
  ⟨some 5, none, .bin .gtr .plain (.tmp 4) (.lit (.d (.int .i64 0)))⟩,
  ⟨some 2, none, .mv (.tmp 5)⟩])
 .ret))⟩
theorem isA_op_Name : isF Try.prog n_op_Name A_op_Name := ⟨Try.f90, _, Try.func90, by decide +kernel, rfl, by kernel_rfl, by kernel_rfl, by decide, by kernel_rfl, rfl, by kernel_rfl⟩
/-- slices.ContainsFunc[[]bulla/api.Record,bulla/api.Record] -/
def A_slices_ContainsFunc_api_Record_api_Record : AF := ⟨2, 9, [(.tmp 4)],
 (.seq (.ops [⟨some 4, none, .mv (.lit (.d (.bool false)))⟩])
 (.seq (.ops [⟨some 5, none, .mv (.tmp 0)⟩,
  ⟨some 6, none, .mv (.tmp 1)⟩,
  ⟨some 7, none, .call false 110 [(.tmp 5), (.tmp 6)]⟩,
  ⟨some 8, none, .bin .geq .plain (.tmp 7) (.lit (.d (.int .i64 0)))⟩,
  ⟨some 4, none, .mv (.tmp 8)⟩])
 .ret))⟩
theorem isA_slices_ContainsFunc_api_Record_api_Record : isF Try.prog n_slices_ContainsFunc_api_Record_api_Record A_slices_ContainsFunc_api_Record_api_Record := ⟨Try.f91, _, Try.func91, by decide +kernel, rfl, by kernel_rfl, by kernel_rfl, by decide, by kernel_rfl, rfl, by kernel_rfl⟩
/-- bulla/bullaref06.fields -/
def A_r06_fields : AF := ⟨1, 15, [(.tmp 2), (.tmp 3), (.tmp 4), (.tmp 5)],
 (.seq (.ops [⟨some 2, none, .mv (.lit (.d (.bool false)))⟩,
  ⟨some 3, none, .mv (.lit (.d (.bool false)))⟩,
  ⟨some 4, none, .mv (.lit (.d (.bool false)))⟩,
  ⟨some 5, none, .mv (.lit (.d (.bool false)))⟩])
 (.seq (.ops [⟨some 6, none, .mv (.tmp 0)⟩])
 (.block 0 (.seq (.ops [⟨some 8, none, .bin .eql .plain (.tmp 6) (.lit (.d (.int .i64 1)))⟩,
  ⟨some 7, none, .mv (.tmp 8)⟩])
 (.cond (.tmp 7) (.seq (.ops [⟨some 2, none, .mv (.lit (.d (.bool true)))⟩,
  ⟨some 3, none, .mv (.lit (.d (.bool false)))⟩,
  ⟨some 4, none, .mv (.lit (.d (.bool false)))⟩,
  ⟨some 5, none, .mv (.lit (.d (.bool false)))⟩])
 .ret) (.seq (.ops [⟨some 10, none, .bin .eql .plain (.tmp 6) (.lit (.d (.int .i64 2)))⟩,
  ⟨some 9, none, .mv (.tmp 10)⟩])
 (.cond (.tmp 9) (.seq (.ops [⟨some 2, none, .mv (.lit (.d (.bool true)))⟩,
  ⟨some 3, none, .mv (.lit (.d (.bool false)))⟩,
  ⟨some 4, none, .mv (.lit (.d (.bool false)))⟩,
  ⟨some 5, none, .mv (.lit (.d (.bool true)))⟩])
 .ret) (.seq (.ops [⟨some 12, none, .bin .eql .plain (.tmp 6) (.lit (.d (.int .i64 3)))⟩,
  ⟨some 11, none, .mv (.tmp 12)⟩])
 (.cond (.tmp 11) (.seq (.ops [⟨some 2, none, .mv (.lit (.d (.bool true)))⟩,
  ⟨some 3, none, .mv (.lit (.d (.bool true)))⟩,
  ⟨some 4, none, .mv (.lit (.d (.bool true)))⟩,
  ⟨some 5, none, .mv (.lit (.d (.bool false)))⟩])
 .ret) (.seq (.ops [⟨some 14, none, .bin .eql .plain (.tmp 6) (.lit (.d (.int .i64 4)))⟩,
  ⟨some 13, none, .mv (.tmp 14)⟩])
 (.cond (.tmp 13) (.seq (.ops [⟨some 2, none, .mv (.lit (.d (.bool true)))⟩,
  ⟨some 3, none, .mv (.lit (.d (.bool false)))⟩,
  ⟨some 4, none, .mv (.lit (.d (.bool true)))⟩,
  ⟨some 5, none, .mv (.lit (.d (.bool false)))⟩])
 .ret) (.seq (.ops [⟨some 2, none, .mv (.lit (.d (.bool false)))⟩,
  ⟨some 3, none, .mv (.lit (.d (.bool false)))⟩,
  ⟨some 4, none, .mv (.lit (.d (.bool false)))⟩,
  ⟨some 5, none, .mv (.lit (.d (.bool false)))⟩])
 .ret))))))))))))⟩
theorem isA_r06_fields : isF Try.prog n_r06_fields A_r06_fields := ⟨Try.f92, _, Try.func92, by decide +kernel, rfl, by kernel_rfl, by kernel_rfl, by decide, by kernel_rfl, rfl, by kernel_rfl⟩
/-- bulla/bullaref06.Name -/
def A_r06_Name : AF := ⟨1, 6, [(.tmp 2)],
 (.seq (.ops [⟨some 2, none, .mv (.lit (.d (.bool false)))⟩])
 (.seq (.ops [⟨some 3, none, .mv (.tmp 0)⟩,
  ⟨some 4, none, .call false 111 [(.tmp 3)]⟩,
  ⟨some 5, none, .bin .gtr .plain (.tmp 4) (.lit (.d (.int .i64 0)))⟩,
  ⟨some 2, none, .mv (.tmp 5)⟩])
 .ret))⟩
theorem isA_r06_Name : isF Try.prog n_r06_Name A_r06_Name := ⟨Try.f93, _, Try.func93, by decide +kernel, rfl, by kernel_rfl, by kernel_rfl, by decide, by kernel_rfl, rfl, by kernel_rfl⟩
/-- slices.EqualFunc[[]bulla/api.Record,[]bulla/api.Record,bulla/api.Record,bulla/api.Record] -/
def A_slices_EqualFunc_api_Record_api_Record_api_Record_api_Record : AF := ⟨3, 32, [(.tmp 6)],
 (.seq (.ops [⟨some 6, none, .mv (.lit (.d (.bool false)))⟩])
 (.seq (.seq (.ops [⟨some 10, none, .mv (.tmp 0)⟩,
  ⟨some 11, none, .len .sl (.tmp 10)⟩,
  ⟨some 12, none, .mv (.tmp 1)⟩,
  ⟨some 13, none, .len .sl (.tmp 12)⟩,
  ⟨some 14, none, .bin .neq .plain (.tmp 11) (.tmp 13)⟩])
 (.cond (.tmp 14) (.seq (.ops [⟨some 6, none, .mv (.lit (.d (.bool false)))⟩])
 .ret) .skip))
 (.seq (.seq (.ops [⟨some 15, none, .mv (.tmp 0)⟩,
  ⟨some 16, none, .len .sl (.tmp 15)⟩,
  ⟨some 17, none, .mv (.lit (.d (.int .i64 0)))⟩])
 (.block 0 (.loop [17] [6, 7, 8, 9, 18, 19, 20, 21, 22, 23, 24, 25, 26, 27, 28, 29, 30, 31] (.seq (.ops [⟨some 18, none, .bin .lss .plain (.tmp 17) (.tmp 16)⟩])
 (.seq (.cond (.tmp 18) .skip (.exit 0))
 (.seq (.block 1 (.seq (.ops [⟨some 19, none, .mv (.tmp 17)⟩,
  ⟨some 20, none, .iaddr none 1 (.tmp 15) (.tmp 17)⟩,
  ⟨some 21, none, .load false 1 (.tmp 20)⟩,
  ⟨some 7, none, .mv (.tmp 19)⟩,
  ⟨some 8, none, .mv (.tmp 21)⟩])
 (.seq (.ops [⟨some 22, none, .mv (.tmp 1)⟩,
  ⟨some 23, none, .mv (.tmp 7)⟩,
  ⟨some 24, none, .iaddr none 1 (.tmp 22) (.tmp 23)⟩,
  ⟨some 25, none, .load false 1 (.tmp 24)⟩,
  ⟨some 9, none, .mv (.tmp 25)⟩])
 (.seq (.ops [⟨some 26, none, .mv (.tmp 2)⟩,
  ⟨some 27, none, .mv (.tmp 8)⟩,
  ⟨some 28, none, .mv (.tmp 9)⟩,
  ⟨some 29, none, .callv (.tmp 26) [(.tmp 27), (.tmp 28)]⟩,
  ⟨some 30, none, .un .not (.tmp 29)⟩])
 (.cond (.tmp 30) (.seq (.ops [⟨some 6, none, .mv (.lit (.d (.bool false)))⟩])
 .ret) .skip)))))
 (.ops [⟨some 31, none, .bin .add .plain (.tmp 17) (.lit (.d (.int .i64 1)))⟩,
  ⟨some 17, none, .mv (.tmp 31)⟩])))))))
 (.seq (.ops [⟨some 6, none, .mv (.lit (.d (.bool true)))⟩])
 .ret))))⟩
theorem isA_slices_EqualFunc_api_Record_api_Record_api_Record_api_Record : isF Try.prog n_slices_EqualFunc_api_Record_api_Record_api_Record_api_Record A_slices_EqualFunc_api_Record_api_Record_api_Record_api_Record := ⟨Try.f94, _, Try.func94, by decide +kernel, rfl, by kernel_rfl, by kernel_rfl, by decide, by kernel_rfl, rfl, by kernel_rfl⟩
/-- bulla/op.Same$1 -/
def A_op_Same_1 : AF := ⟨2, 8, [(.tmp 4)],
 (.seq (.ops [⟨some 4, none, .mv (.lit (.d (.bool false)))⟩])
 (.seq (.ops [⟨some 5, none, .mv (.tmp 0)⟩,
  ⟨some 6, none, .mv (.tmp 1)⟩,
  ⟨some 7, none, .call false 24 [(.tmp 5), (.tmp 6)]⟩,
  ⟨some 4, none, .mv (.tmp 7)⟩])
 .ret))⟩
theorem isA_op_Same_1 : isF Try.prog n_op_Same_1 A_op_Same_1 := ⟨Try.f95, _, Try.func95, by decide +kernel, rfl, by kernel_rfl, by kernel_rfl, by decide, by kernel_rfl, rfl, by kernel_rfl⟩
/-- bulla/codec.PutBytes -/
def A_codec_PutBytes : AF := ⟨2, 12, [(.tmp 4)],
 (.seq (.ops [⟨some 4, none, .mv (.lit (.exact []))⟩])
 (.seq (.ops [⟨some 5, none, .mv (.tmp 0)⟩,
  ⟨some 6, none, .mv (.tmp 1)⟩,
  ⟨some 7, none, .len .sl (.tmp 6)⟩,
  ⟨some 8, none, .conv (.int .u64) (.tmp 7)⟩,
  ⟨some 9, none, .call false 59 [(.tmp 5), (.tmp 8)]⟩,
  ⟨some 10, none, .mv (.tmp 1)⟩,
  ⟨some 11, none, .append false 1 1 [(.d (.int .u8 0))] (.tmp 9) (.tmp 10)⟩,
  ⟨some 4, none, .mv (.tmp 11)⟩])
 .ret))⟩
theorem isA_codec_PutBytes : isF Try.prog n_codec_PutBytes A_codec_PutBytes := ⟨Try.f96, _, Try.func96, by decide +kernel, rfl, by kernel_rfl, by kernel_rfl, by decide, by kernel_rfl, rfl, by kernel_rfl⟩
/-- bulla/codec.form -/
def A_codec_form : AF := ⟨1, 24, [(.cell 2 true 10), (.tmp 3)],
 (.seq (.ops [⟨some 2, none, .alloc [(.d (.int .u8 0)), (.d (.int .u8 0)), (.d (.int .u8 0)), (.d (.int .u8 0)), (.d (.int .u8 0)), (.d (.int .u8 0)), (.d (.int .u8 0)), (.d (.int .u8 0)), (.d (.int .u8 0)), (.d (.int .u8 0))]⟩,
  ⟨some 3, none, .mv (.lit (.d (.int .i64 0)))⟩])
 (.seq (.ops [⟨some 4, none, .alloc [(.d (.int .u8 0)), (.d (.int .u8 0)), (.d (.int .u8 0)), (.d (.int .u8 0)), (.d (.int .u8 0)), (.d (.int .u8 0)), (.d (.int .u8 0)), (.d (.int .u8 0)), (.d (.int .u8 0)), (.d (.int .u8 0))]⟩])
 (.seq (.ops [⟨some 5, none, .mv (.lit (.d (.int .i64 0)))⟩])
 (.seq (.block 0 (.loop [0, 5] [6, 7, 8, 9, 10, 11, 12, 13, 14, 15, 16] (.seq (.seq (.ops [⟨some 6, none, .mv (.tmp 0)⟩,
  ⟨some 7, none, .bin .gtr .plain (.tmp 6) (.lit (.d (.int .u64 127)))⟩])
 (.cond (.tmp 7) .skip (.exit 0)))
 (.block 1 (.seq (.ops [⟨some 8, none, .mv (.tmp 5)⟩,
  ⟨some 9, none, .mv (.tmp 0)⟩,
  ⟨some 10, none, .conv (.int .u8) (.tmp 9)⟩,
  ⟨some 11, none, .bin .or .plain (.tmp 10) (.lit (.d (.int .u8 128)))⟩,
  ⟨some 12, none, .iaddr (some 10) 1 (.tmp 4) (.tmp 8)⟩,
  ⟨none, none, .store 1 (.tmp 12) (.tmp 11)⟩])
 (.seq (.ops [⟨some 13, none, .mv (.tmp 0)⟩,
  ⟨some 14, none, .bin .shr .plain (.tmp 13) (.lit (.d (.int .u64 7)))⟩,
  ⟨some 0, none, .mv (.tmp 14)⟩])
 (.ops [⟨some 15, none, .mv (.tmp 5)⟩,
  ⟨some 16, none, .bin .add .plain (.tmp 15) (.lit (.d (.int .i64 1)))⟩,
  ⟨some 5, none, .mv (.tmp 16)⟩])))))))
 (.seq (.ops [⟨some 17, none, .mv (.tmp 5)⟩,
  ⟨some 18, none, .mv (.tmp 0)⟩,
  ⟨some 19, none, .conv (.int .u8) (.tmp 18)⟩,
  ⟨some 20, none, .iaddr (some 10) 1 (.tmp 4) (.tmp 17)⟩,
  ⟨none, none, .store 1 (.tmp 20) (.tmp 19)⟩])
 (.seq (.ops [⟨some 21, none, .load true 10 (.tmp 4)⟩,
  ⟨some 22, none, .mv (.tmp 5)⟩,
  ⟨some 23, none, .bin .add .plain (.tmp 22) (.lit (.d (.int .i64 1)))⟩,
  ⟨none, none, .store 10 (.tmp 2) (.tmp 21)⟩,
  ⟨some 3, none, .mv (.tmp 23)⟩])
 .ret))))))⟩
theorem isA_codec_form : isF Try.prog n_codec_form A_codec_form := ⟨Try.f97, _, Try.func97, by decide +kernel, rfl, by kernel_rfl, by kernel_rfl, by decide, by kernel_rfl, rfl, by kernel_rfl⟩
/-- slices.Clip[[]byte,byte] -/
def A_slices_Clip_byte_byte : AF := ⟨1, 9, [(.tmp 2)],
 (.seq (.ops [⟨some 2, none, .mv (.lit (.exact []))⟩])
 (.seq (.ops [⟨some 3, none, .mv (.tmp 0)⟩,
  ⟨some 4, none, .mv (.tmp 0)⟩,
  ⟨some 5, none, .len .sl (.tmp 4)⟩,
  ⟨some 6, none, .mv (.tmp 0)⟩,
  ⟨some 7, none, .len .sl (.tmp 6)⟩,
  ⟨some 8, none, .slc (.sl 1) (.tmp 3) none (some (.tmp 5)) (some (.tmp 7))⟩,
  ⟨some 2, none, .mv (.tmp 8)⟩])
 .ret))⟩
theorem isA_slices_Clip_byte_byte : isF Try.prog n_slices_Clip_byte_byte A_slices_Clip_byte_byte := ⟨Try.f98, _, Try.func98, by decide +kernel, rfl, by kernel_rfl, by kernel_rfl, by decide, by kernel_rfl, rfl, by kernel_rfl⟩
/-- (*bulla/ideal.Ledger).Len -/
def A_ideal_Ledger_Len : AF := ⟨1, 10, [(.tmp 2)],
 (.seq (.ops [⟨some 2, none, .mv (.lit (.d (.int .i64 0)))⟩])
 (.seq (.seq (.ops [⟨some 3, none, .mv (.tmp 0)⟩,
  ⟨some 4, none, .call false 101 [(.tmp 3)]⟩])
 (.cond (.tmp 4) (.seq (.ops [⟨some 2, none, .mv (.lit (.d (.int .i64 0)))⟩])
 .ret) .skip))
 (.seq (.ops [⟨some 5, none, .mv (.tmp 0)⟩,
  ⟨some 6, none, .nilchk (.tmp 5)⟩,
  ⟨some 7, none, .faddr 0 (.tmp 6)⟩,
  ⟨some 8, none, .load false 1 (.tmp 7)⟩,
  ⟨some 9, none, .len .sl (.tmp 8)⟩,
  ⟨some 2, none, .mv (.tmp 9)⟩])
 .ret)))⟩
theorem isA_ideal_Ledger_Len : isF Try.prog n_ideal_Ledger_Len A_ideal_Ledger_Len := ⟨Try.f99, _, Try.func99, by decide +kernel, rfl, by kernel_rfl, by kernel_rfl, by decide, by kernel_rfl, rfl, by kernel_rfl⟩
end Go.Proofs.Ythmdpooklflkfaa

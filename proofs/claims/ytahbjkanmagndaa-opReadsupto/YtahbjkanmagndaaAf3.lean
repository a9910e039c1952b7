/- Resolved forms, each with the theorem that it is its function's. Printed by program. -/
import Derived.Test.YtahbjkanmagndaaNm
import Derived.KernelRfl
set_option linter.all false
set_option maxRecDepth 100000
set_option linter.unusedVariables false
namespace Go.Proofs.Ytahbjkanmagndaa
open Go.AW
/-- (*bulla/codec.Reader).stuck -/
def A_codec_Reader_stuck : AF := ⟨1, 19, [(.tmp 2)],
 (.seq (.ops [⟨some 2, none, .mv (.lit (.d (.bool false)))⟩])
 (.seq (.ops [⟨some 3, none, .mv (.tmp 0)⟩,
  ⟨some 4, none, .bin .eql .ptr (.tmp 3) (.lit (.d .nilp))⟩,
  ⟨some 5, none, .mv (.tmp 4)⟩,
  ⟨some 6, some (5, false), .mv (.tmp 0)⟩,
  ⟨some 7, some (5, false), .nilchk (.tmp 6)⟩,
  ⟨some 8, some (5, false), .faddr 2 (.tmp 7)⟩,
  ⟨some 9, some (5, false), .load false 1 (.tmp 8)⟩,
  ⟨some 10, some (5, false), .un .not (.tmp 9)⟩,
  ⟨some 11, none, .pick (.tmp 5) (.lit (.d (.bool true))) (.tmp 10)⟩,
  ⟨some 12, none, .mv (.tmp 11)⟩,
  ⟨some 13, some (12, false), .mv (.tmp 0)⟩,
  ⟨some 14, some (12, false), .nilchk (.tmp 13)⟩,
  ⟨some 15, some (12, false), .faddr 1 (.tmp 14)⟩,
  ⟨some 16, some (12, false), .load false 1 (.tmp 15)⟩,
  ⟨some 17, some (12, false), .bin .neq .plain (.tmp 16) (.lit (.d (.int .i64 0)))⟩,
  ⟨some 18, none, .pick (.tmp 12) (.lit (.d (.bool true))) (.tmp 17)⟩,
  ⟨some 2, none, .mv (.tmp 18)⟩])
 .ret))⟩
theorem isA_codec_Reader_stuck : isF Try.prog n_codec_Reader_stuck A_codec_Reader_stuck := ⟨Try.f54, _, Try.func54, by decide +kernel, rfl, by kernel_rfl, by kernel_rfl, by decide, by kernel_rfl, rfl, by kernel_rfl⟩
/-- (*bulla/bullaref01.Reader).Done -/
def A_r01_Reader_Done : AF := ⟨1, 20, [(.tmp 2)],
 (.seq (.ops [⟨some 2, none, .mv (.lit (.d (.int .i64 0)))⟩])
 (.seq (.seq (.ops [⟨some 3, none, .mv (.tmp 0)⟩,
  ⟨some 4, none, .nilchk (.tmp 3)⟩,
  ⟨some 5, none, .faddr 1 (.tmp 4)⟩,
  ⟨some 6, none, .load false 1 (.tmp 5)⟩,
  ⟨some 7, none, .bin .eql .plain (.tmp 6) (.lit (.d (.int .i64 0)))⟩,
  ⟨some 8, none, .mv (.tmp 7)⟩,
  ⟨some 9, some (8, true), .mv (.tmp 0)⟩,
  ⟨some 10, some (8, true), .nilchk (.tmp 9)⟩,
  ⟨some 11, some (8, true), .faddr 0 (.tmp 10)⟩,
  ⟨some 12, some (8, true), .load false 1 (.tmp 11)⟩,
  ⟨some 13, some (8, true), .len .sl (.tmp 12)⟩,
  ⟨some 14, some (8, true), .bin .gtr .plain (.tmp 13) (.lit (.d (.int .i64 0)))⟩,
  ⟨some 15, none, .pick (.tmp 8) (.tmp 14) (.lit (.d (.bool false)))⟩])
 (.cond (.tmp 15) (.seq (.ops [⟨some 2, none, .mv (.lit (.d (.int .i64 12)))⟩])
 .ret) .skip))
 (.seq (.ops [⟨some 16, none, .mv (.tmp 0)⟩,
  ⟨some 17, none, .nilchk (.tmp 16)⟩,
  ⟨some 18, none, .faddr 1 (.tmp 17)⟩,
  ⟨some 19, none, .load false 1 (.tmp 18)⟩,
  ⟨some 2, none, .mv (.tmp 19)⟩])
 .ret)))⟩
theorem isA_r01_Reader_Done : isF Try.prog n_r01_Reader_Done A_r01_Reader_Done := ⟨Try.f55, _, Try.func55, by decide +kernel, rfl, by kernel_rfl, by kernel_rfl, by decide, by kernel_rfl, rfl, by kernel_rfl⟩
/-- (*bulla/bullaref01.Reader).Num -/
def A_r01_Reader_Num : AF := ⟨2, 87, [(.tmp 4)],
 (.seq (.ops [⟨some 4, none, .mv (.lit (.d (.int .u64 0)))⟩])
 (.seq (.ops [⟨some 5, none, .mv (.lit (.d (.int .u64 0)))⟩,
  ⟨some 6, none, .mv (.lit (.d (.int .u64 1)))⟩])
 (.seq (.ops [⟨some 7, none, .mv (.lit (.d (.int .i64 0)))⟩])
 (.block 0 (.loop [5, 6, 7] [4, 8, 9, 10, 11, 12, 13, 14, 15, 16, 17, 18, 19, 20, 21, 22, 23, 24, 25, 26, 27, 28, 29, 30, 31, 32, 33, 34, 35, 36, 37, 38, 39, 40, 41, 42, 43, 44, 45, 46, 47, 48, 49, 50, 51, 52, 53, 54, 55, 56, 57, 58, 59, 60, 61, 62, 63, 64, 65, 66, 67, 68, 69, 70, 71, 72, 73, 74, 75, 76, 77, 78, 79, 80, 81, 82, 83, 84, 85, 86] (.seq (.block 1 (.seq (.seq (.ops [⟨some 11, none, .mv (.tmp 7)⟩,
  ⟨some 12, none, .mv (.tmp 0)⟩,
  ⟨some 13, none, .nilchk (.tmp 12)⟩,
  ⟨some 14, none, .faddr 0 (.tmp 13)⟩,
  ⟨some 15, none, .load false 1 (.tmp 14)⟩,
  ⟨some 16, none, .len .sl (.tmp 15)⟩,
  ⟨some 17, none, .bin .eql .plain (.tmp 11) (.tmp 16)⟩])
 (.cond (.tmp 17) (.ops [⟨some 18, none, .mv (.tmp 0)⟩,
  ⟨some 19, none, .call 58 [(.tmp 18), (.lit (.d (.int .i64 10)))]⟩]) (.seq (.ops [⟨some 20, none, .mv (.tmp 7)⟩,
  ⟨some 21, none, .bin .eql .plain (.tmp 20) (.lit (.d (.int .i64 9)))⟩,
  ⟨some 22, none, .mv (.tmp 21)⟩,
  ⟨some 23, some (22, true), .mv (.tmp 0)⟩,
  ⟨some 24, some (22, true), .nilchk (.tmp 23)⟩,
  ⟨some 25, some (22, true), .faddr 0 (.tmp 24)⟩,
  ⟨some 26, some (22, true), .load false 1 (.tmp 25)⟩,
  ⟨some 27, some (22, true), .mv (.tmp 7)⟩,
  ⟨some 28, some (22, true), .iaddr none 1 (.tmp 26) (.tmp 27)⟩,
  ⟨some 29, some (22, true), .load false 1 (.tmp 28)⟩,
  ⟨some 30, some (22, true), .bin .gtr .plain (.tmp 29) (.lit (.d (.int .u8 1)))⟩,
  ⟨some 31, none, .pick (.tmp 22) (.tmp 30) (.lit (.d (.bool false)))⟩])
 (.cond (.tmp 31) (.ops [⟨some 32, none, .mv (.tmp 0)⟩,
  ⟨some 33, none, .call 58 [(.tmp 32), (.lit (.d (.int .i64 11)))]⟩]) .skip))))
 (.seq (.seq (.ops [⟨some 34, none, .mv (.tmp 0)⟩,
  ⟨some 35, none, .nilchk (.tmp 34)⟩,
  ⟨some 36, none, .faddr 1 (.tmp 35)⟩,
  ⟨some 37, none, .load false 1 (.tmp 36)⟩,
  ⟨some 38, none, .bin .neq .plain (.tmp 37) (.lit (.d (.int .i64 0)))⟩])
 (.cond (.tmp 38) (.seq (.ops [⟨some 4, none, .mv (.lit (.d (.int .u64 0)))⟩])
 .ret) .skip))
 (.seq (.ops [⟨some 39, none, .mv (.tmp 0)⟩,
  ⟨some 40, none, .nilchk (.tmp 39)⟩,
  ⟨some 41, none, .faddr 0 (.tmp 40)⟩,
  ⟨some 42, none, .load false 1 (.tmp 41)⟩,
  ⟨some 43, none, .mv (.tmp 7)⟩,
  ⟨some 44, none, .iaddr none 1 (.tmp 42) (.tmp 43)⟩,
  ⟨some 45, none, .load false 1 (.tmp 44)⟩,
  ⟨some 46, none, .bin .rem .plain (.tmp 45) (.lit (.d (.int .u8 128)))⟩,
  ⟨some 47, none, .conv (.int .u64) (.tmp 46)⟩,
  ⟨some 8, none, .mv (.tmp 47)⟩])
 (.seq (.ops [⟨some 48, none, .mv (.tmp 5)⟩,
  ⟨some 49, none, .mv (.tmp 8)⟩,
  ⟨some 50, none, .mv (.tmp 6)⟩,
  ⟨some 51, none, .bin .mul .plain (.tmp 49) (.tmp 50)⟩,
  ⟨some 52, none, .bin .add .plain (.tmp 48) (.tmp 51)⟩,
  ⟨some 5, none, .mv (.tmp 52)⟩])
 (.seq (.ops [⟨some 53, none, .mv (.tmp 6)⟩,
  ⟨some 54, none, .bin .mul .plain (.tmp 53) (.lit (.d (.int .u64 128)))⟩,
  ⟨some 6, none, .mv (.tmp 54)⟩])
 (.seq (.ops [⟨some 55, none, .mv (.tmp 0)⟩,
  ⟨some 56, none, .nilchk (.tmp 55)⟩,
  ⟨some 57, none, .faddr 0 (.tmp 56)⟩,
  ⟨some 58, none, .load false 1 (.tmp 57)⟩,
  ⟨some 59, none, .mv (.tmp 7)⟩,
  ⟨some 60, none, .iaddr none 1 (.tmp 58) (.tmp 59)⟩,
  ⟨some 61, none, .load false 1 (.tmp 60)⟩,
  ⟨some 62, none, .bin .lss .plain (.tmp 61) (.lit (.d (.int .u8 128)))⟩])
 (.cond (.tmp 62) (.seq (.seq (.ops [⟨some 63, none, .mv (.tmp 7)⟩,
  ⟨some 64, none, .bin .gtr .plain (.tmp 63) (.lit (.d (.int .i64 0)))⟩,
  ⟨some 65, none, .mv (.tmp 64)⟩,
  ⟨some 66, some (65, true), .mv (.tmp 8)⟩,
  ⟨some 67, some (65, true), .bin .eql .plain (.tmp 66) (.lit (.d (.int .u64 0)))⟩,
  ⟨some 68, none, .pick (.tmp 65) (.tmp 67) (.lit (.d (.bool false)))⟩,
  ⟨some 69, none, .mv (.tmp 68)⟩,
  ⟨some 70, some (69, false), .mv (.tmp 5)⟩,
  ⟨some 71, some (69, false), .mv (.tmp 1)⟩,
  ⟨some 72, some (69, false), .bin .gtr .plain (.tmp 70) (.tmp 71)⟩,
  ⟨some 73, none, .pick (.tmp 69) (.lit (.d (.bool true))) (.tmp 72)⟩])
 (.cond (.tmp 73) (.seq (.ops [⟨some 74, none, .mv (.tmp 0)⟩,
  ⟨some 75, none, .call 58 [(.tmp 74), (.lit (.d (.int .i64 11)))]⟩])
 (.seq (.ops [⟨some 4, none, .mv (.lit (.d (.int .u64 0)))⟩])
 .ret)) .skip))
 (.seq (.ops [⟨some 76, none, .mv (.tmp 0)⟩,
  ⟨some 77, none, .mv (.tmp 0)⟩,
  ⟨some 78, none, .nilchk (.tmp 77)⟩,
  ⟨some 79, none, .faddr 0 (.tmp 78)⟩,
  ⟨some 80, none, .load false 1 (.tmp 79)⟩,
  ⟨some 81, none, .mv (.tmp 7)⟩,
  ⟨some 82, none, .bin .add .plain (.tmp 81) (.lit (.d (.int .i64 1)))⟩,
  ⟨some 83, none, .slc (.sl 1) (.tmp 80) (some (.tmp 82)) none none⟩,
  ⟨some 84, none, .nilchk (.tmp 76)⟩,
  ⟨some 85, none, .faddr 0 (.tmp 84)⟩,
  ⟨none, none, .store 1 (.tmp 85) (.tmp 83)⟩])
 (.seq (.ops [⟨some 86, none, .mv (.tmp 5)⟩,
  ⟨some 4, none, .mv (.tmp 86)⟩])
 .ret))) .skip))))))))
 (.ops [⟨some 9, none, .mv (.tmp 7)⟩,
  ⟨some 10, none, .bin .add .plain (.tmp 9) (.lit (.d (.int .i64 1)))⟩,
  ⟨some 7, none, .mv (.tmp 10)⟩])))))))⟩
theorem isA_r01_Reader_Num : isF Try.prog n_r01_Reader_Num A_r01_Reader_Num := ⟨Try.f56, _, Try.func56, by decide +kernel, rfl, by kernel_rfl, by kernel_rfl, by decide, by kernel_rfl, rfl, by kernel_rfl⟩
/-- (*bulla/bullaref01.Reader).Bytes -/
def A_r01_Reader_Bytes : AF := ⟨2, 15, [(.tmp 4)],
 (.seq (.ops [⟨some 4, none, .mv (.lit (.exact []))⟩])
 (.seq (.ops [⟨some 6, none, .mv (.tmp 0)⟩,
  ⟨some 7, none, .mv (.tmp 1)⟩,
  ⟨some 8, none, .maxi [(.tmp 7), (.lit (.d (.int .i64 0)))]⟩,
  ⟨some 9, none, .conv (.int .u64) (.tmp 8)⟩,
  ⟨some 10, none, .call 56 [(.tmp 6), (.tmp 9)]⟩,
  ⟨some 5, none, .mv (.tmp 10)⟩])
 (.seq (.ops [⟨some 11, none, .mv (.tmp 0)⟩,
  ⟨some 12, none, .mv (.tmp 5)⟩,
  ⟨some 13, none, .conv (.int .i64) (.tmp 12)⟩,
  ⟨some 14, none, .call 64 [(.tmp 11), (.tmp 13)]⟩,
  ⟨some 4, none, .mv (.tmp 14)⟩])
 .ret)))⟩
theorem isA_r01_Reader_Bytes : isF Try.prog n_r01_Reader_Bytes A_r01_Reader_Bytes := ⟨Try.f57, _, Try.func57, by decide +kernel, rfl, by kernel_rfl, by kernel_rfl, by decide, by kernel_rfl, rfl, by kernel_rfl⟩
/-- (*bulla/bullaref01.Reader).Fail -/
def A_r01_Reader_Fail : AF := ⟨2, 21, [],
 (.seq (.seq (.ops [⟨some 4, none, .mv (.tmp 0)⟩,
  ⟨some 5, none, .nilchk (.tmp 4)⟩,
  ⟨some 6, none, .faddr 1 (.tmp 5)⟩,
  ⟨some 7, none, .load false 1 (.tmp 6)⟩,
  ⟨some 8, none, .bin .eql .plain (.tmp 7) (.lit (.d (.int .i64 0)))⟩])
 (.cond (.tmp 8) (.ops [⟨some 9, none, .mv (.tmp 0)⟩,
  ⟨some 10, none, .mv (.tmp 1)⟩,
  ⟨some 11, none, .nilchk (.tmp 9)⟩,
  ⟨some 12, none, .faddr 1 (.tmp 11)⟩,
  ⟨none, none, .store 1 (.tmp 12) (.tmp 10)⟩]) .skip))
 (.seq (.ops [⟨some 13, none, .mv (.tmp 0)⟩,
  ⟨some 14, none, .nilchk (.tmp 13)⟩,
  ⟨some 15, none, .faddr 1 (.tmp 14)⟩,
  ⟨some 16, none, .load false 1 (.tmp 15)⟩,
  ⟨some 17, none, .bin .neq .plain (.tmp 16) (.lit (.d (.int .i64 0)))⟩])
 (.cond (.tmp 17) (.ops [⟨some 18, none, .mv (.tmp 0)⟩,
  ⟨some 19, none, .nilchk (.tmp 18)⟩,
  ⟨some 20, none, .faddr 0 (.tmp 19)⟩,
  ⟨none, none, .store 1 (.tmp 20) (.lit (.exact []))⟩]) .skip)))⟩
theorem isA_r01_Reader_Fail : isF Try.prog n_r01_Reader_Fail A_r01_Reader_Fail := ⟨Try.f58, _, Try.func58, by decide +kernel, rfl, by kernel_rfl, by kernel_rfl, by decide, by kernel_rfl, rfl, by kernel_rfl⟩
/-- bulla/bullaref06.size -/
def A_r06_size : AF := ⟨1, 27, [(.tmp 2)],
 (.seq (.ops [⟨some 2, none, .mv (.lit (.d (.int .i64 0)))⟩])
 (.seq (.block 0 (.seq (.ops [⟨some 4, none, .mv (.tmp 0)⟩,
  ⟨some 5, none, .bin .lss .plain (.tmp 4) (.lit (.d (.int .u8 128)))⟩,
  ⟨some 3, none, .mv (.tmp 5)⟩])
 (.cond (.tmp 3) (.seq (.ops [⟨some 2, none, .mv (.lit (.d (.int .i64 1)))⟩])
 .ret) (.seq (.ops [⟨some 7, none, .mv (.tmp 0)⟩,
  ⟨some 8, none, .bin .geq .plain (.tmp 7) (.lit (.d (.int .u8 194)))⟩,
  ⟨some 9, none, .mv (.tmp 8)⟩,
  ⟨some 10, some (9, true), .mv (.tmp 0)⟩,
  ⟨some 11, some (9, true), .bin .lss .plain (.tmp 10) (.lit (.d (.int .u8 224)))⟩,
  ⟨some 12, none, .pick (.tmp 9) (.tmp 11) (.lit (.d (.bool false)))⟩,
  ⟨some 6, none, .mv (.tmp 12)⟩])
 (.cond (.tmp 6) (.seq (.ops [⟨some 2, none, .mv (.lit (.d (.int .i64 2)))⟩])
 .ret) (.seq (.ops [⟨some 14, none, .mv (.tmp 0)⟩,
  ⟨some 15, none, .bin .geq .plain (.tmp 14) (.lit (.d (.int .u8 224)))⟩,
  ⟨some 16, none, .mv (.tmp 15)⟩,
  ⟨some 17, some (16, true), .mv (.tmp 0)⟩,
  ⟨some 18, some (16, true), .bin .lss .plain (.tmp 17) (.lit (.d (.int .u8 240)))⟩,
  ⟨some 19, none, .pick (.tmp 16) (.tmp 18) (.lit (.d (.bool false)))⟩,
  ⟨some 13, none, .mv (.tmp 19)⟩])
 (.cond (.tmp 13) (.seq (.ops [⟨some 2, none, .mv (.lit (.d (.int .i64 3)))⟩])
 .ret) (.seq (.ops [⟨some 21, none, .mv (.tmp 0)⟩,
  ⟨some 22, none, .bin .geq .plain (.tmp 21) (.lit (.d (.int .u8 240)))⟩,
  ⟨some 23, none, .mv (.tmp 22)⟩,
  ⟨some 24, some (23, true), .mv (.tmp 0)⟩,
  ⟨some 25, some (23, true), .bin .lss .plain (.tmp 24) (.lit (.d (.int .u8 245)))⟩,
  ⟨some 26, none, .pick (.tmp 23) (.tmp 25) (.lit (.d (.bool false)))⟩,
  ⟨some 20, none, .mv (.tmp 26)⟩])
 (.cond (.tmp 20) (.seq (.ops [⟨some 2, none, .mv (.lit (.d (.int .i64 4)))⟩])
 .ret) .skip)))))))))
 (.seq (.ops [⟨some 2, none, .mv (.lit (.d (.int .i64 0)))⟩])
 .ret)))⟩
theorem isA_r06_size : isF Try.prog n_r06_size A_r06_size := ⟨Try.f59, _, Try.func59, by decide +kernel, rfl, by kernel_rfl, by kernel_rfl, by decide, by kernel_rfl, rfl, by kernel_rfl⟩
/-- slices.IndexFunc[[]bulla/api.Record,bulla/api.Record] -/
def A_slices_IndexFunc_api_Record_api_Record : AF := ⟨2, 19, [(.tmp 4)],
 (.seq (.ops [⟨some 4, none, .mv (.lit (.d (.int .i64 0)))⟩])
 (.seq (.seq (.ops [⟨some 6, none, .mv (.tmp 0)⟩,
  ⟨some 7, none, .len .sl (.tmp 6)⟩,
  ⟨some 8, none, .mv (.lit (.d (.int .i64 0)))⟩])
 (.block 0 (.loop [8] [4, 5, 9, 10, 11, 12, 13, 14, 15, 16, 17, 18] (.seq (.ops [⟨some 9, none, .bin .lss .plain (.tmp 8) (.tmp 7)⟩])
 (.seq (.cond (.tmp 9) .skip (.exit 0))
 (.seq (.block 1 (.seq (.ops [⟨some 10, none, .mv (.tmp 8)⟩,
  ⟨some 5, none, .mv (.tmp 10)⟩])
 (.seq (.ops [⟨some 11, none, .mv (.tmp 1)⟩,
  ⟨some 12, none, .mv (.tmp 0)⟩,
  ⟨some 13, none, .mv (.tmp 5)⟩,
  ⟨some 14, none, .iaddr none 1 (.tmp 12) (.tmp 13)⟩,
  ⟨some 15, none, .load false 1 (.tmp 14)⟩,
  ⟨some 16, none, .callv (.tmp 11) [(.tmp 15)]⟩])
 (.cond (.tmp 16) (.seq (.ops [⟨some 17, none, .mv (.tmp 5)⟩,
  ⟨some 4, none, .mv (.tmp 17)⟩])
 .ret) .skip))))
 (.ops [⟨some 18, none, .bin .add .plain (.tmp 8) (.lit (.d (.int .i64 1)))⟩,
  ⟨some 8, none, .mv (.tmp 18)⟩])))))))
 (.seq (.ops [⟨some 4, none, .mv (.lit (.d (.int .i64 (-1))))⟩])
 .ret)))⟩
theorem isA_slices_IndexFunc_api_Record_api_Record : isF Try.prog n_slices_IndexFunc_api_Record_api_Record A_slices_IndexFunc_api_Record_api_Record := ⟨Try.f60, _, Try.func60, by decide +kernel, rfl, by kernel_rfl, by kernel_rfl, by decide, by kernel_rfl, rfl, by kernel_rfl⟩
/-- bulla/codec.form -/
def A_codec_form : AF := ⟨1, 24, [(.cell 2 true 10), (.tmp 3)],
 (.seq (.ops [⟨some 2, none, .alloc [(.d (.int .u8 0)), (.d (.int .u8 0)), (.d (.int .u8 0)), (.d (.int .u8 0)), (.d (.int .u8 0)), (.d (.int .u8 0)), (.d (.int .u8 0)), (.d (.int .u8 0)), (.d (.int .u8 0)), (.d (.int .u8 0))]⟩,
  ⟨some 3, none, .mv (.lit (.d (.int .i64 0)))⟩])
 (.seq (.ops [⟨some 4, none, .alloc [(.d (.int .u8 0)), (.d (.int .u8 0)), (.d (.int .u8 0)), (.d (.int .u8 0)), (.d (.int .u8 0)), (.d (.int .u8 0)), (.d (.int .u8 0)), (.d (.int .u8 0)), (.d (.int .u8 0)), (.d (.int .u8 0))]⟩])
 (.seq (.ops [⟨some 5, none, .mv (.lit (.d (.int .i64 0)))⟩])
 (.seq (.block 0 (.loop [0, 5] [6, 7, 8, 9, 10, 11, 12, 13, 14, 15, 16] (.seq (.seq (.ops [⟨some 6, none, .mv (.tmp 0)⟩,
  ⟨some 7, none, .bin .gtr .plain (.tmp 6) (.lit (.d (.int .u64 127)))⟩])
 (.cond (.tmp 7) .skip (.exit 0)))
 (.block 1 (.seq (.ops [⟨some 8, none, .mv (.tmp 5)⟩,
  ⟨some 9, none, .mv (.tmp 0)⟩,
  ⟨some 10, none, .conv (.int .u8) (.tmp 9)⟩,
  ⟨some 11, none, .bin .or .plain (.tmp 10) (.lit (.d (.int .u8 128)))⟩,
  ⟨some 12, none, .iaddr (some 10) 1 (.tmp 4) (.tmp 8)⟩,
  ⟨none, none, .store 1 (.tmp 12) (.tmp 11)⟩])
 (.seq (.ops [⟨some 13, none, .mv (.tmp 0)⟩,
  ⟨some 14, none, .bin .shr .plain (.tmp 13) (.lit (.d (.int .u64 7)))⟩,
  ⟨some 0, none, .mv (.tmp 14)⟩])
 (.ops [⟨some 15, none, .mv (.tmp 5)⟩,
  ⟨some 16, none, .bin .add .plain (.tmp 15) (.lit (.d (.int .i64 1)))⟩,
  ⟨some 5, none, .mv (.tmp 16)⟩])))))))
 (.seq (.ops [⟨some 17, none, .mv (.tmp 5)⟩,
  ⟨some 18, none, .mv (.tmp 0)⟩,
  ⟨some 19, none, .conv (.int .u8) (.tmp 18)⟩,
  ⟨some 20, none, .iaddr (some 10) 1 (.tmp 4) (.tmp 17)⟩,
  ⟨none, none, .store 1 (.tmp 20) (.tmp 19)⟩])
 (.seq (.ops [⟨some 21, none, .load true 10 (.tmp 4)⟩,
  ⟨some 22, none, .mv (.tmp 5)⟩,
  ⟨some 23, none, .bin .add .plain (.tmp 22) (.lit (.d (.int .i64 1)))⟩,
  ⟨none, none, .store 10 (.tmp 2) (.tmp 21)⟩,
  ⟨some 3, none, .mv (.tmp 23)⟩])
 .ret))))))⟩
theorem isA_codec_form : isF Try.prog n_codec_form A_codec_form := ⟨Try.f61, _, Try.func61, by decide +kernel, rfl, by kernel_rfl, by kernel_rfl, by decide, by kernel_rfl, rfl, by kernel_rfl⟩
/-- slices.Clip[[]byte,byte] -/
def A_slices_Clip_byte_byte : AF := ⟨1, 9, [(.tmp 2)],
 (.seq (.ops [⟨some 2, none, .mv (.lit (.exact []))⟩])
 (.seq (.ops [⟨some 3, none, .mv (.tmp 0)⟩,
  ⟨some 4, none, .mv (.tmp 0)⟩,
  ⟨some 5, none, .len .sl (.tmp 4)⟩,
  ⟨some 6, none, .mv (.tmp 0)⟩,
  ⟨some 7, none, .len .sl (.tmp 6)⟩,
  ⟨some 8, none, .slc (.sl 1) (.tmp 3) none (some (.tmp 5)) (some (.tmp 7))⟩,
  ⟨some 2, none, .mv (.tmp 8)⟩])
 .ret))⟩
theorem isA_slices_Clip_byte_byte : isF Try.prog n_slices_Clip_byte_byte A_slices_Clip_byte_byte := ⟨Try.f62, _, Try.func62, by decide +kernel, rfl, by kernel_rfl, by kernel_rfl, by decide, by kernel_rfl, rfl, by kernel_rfl⟩
/-- (*bulla/codec.Reader).Take -/
def A_codec_Reader_Take : AF := ⟨2, 43, [(.tmp 4)],
 (.seq (.ops [⟨some 4, none, .mv (.lit (.exact []))⟩])
 (.seq (.seq (.ops [⟨some 6, none, .mv (.tmp 1)⟩,
  ⟨some 7, none, .bin .lss .plain (.tmp 6) (.lit (.d (.int .i64 0)))⟩])
 (.cond (.tmp 7) (.ops [⟨some 8, none, .mv (.tmp 0)⟩,
  ⟨some 9, none, .call 53 [(.tmp 8), (.lit (.d (.int .i64 1)))]⟩]) .skip))
 (.seq (.seq (.ops [⟨some 10, none, .mv (.tmp 0)⟩,
  ⟨some 11, none, .call 54 [(.tmp 10)]⟩,
  ⟨some 12, none, .un .not (.tmp 11)⟩,
  ⟨some 13, none, .mv (.tmp 12)⟩,
  ⟨some 14, some (13, true), .mv (.tmp 1)⟩,
  ⟨some 15, some (13, true), .mv (.tmp 0)⟩,
  ⟨some 16, some (13, true), .nilchk (.tmp 15)⟩,
  ⟨some 17, some (13, true), .faddr 0 (.tmp 16)⟩,
  ⟨some 18, some (13, true), .load false 1 (.tmp 17)⟩,
  ⟨some 19, some (13, true), .len .sl (.tmp 18)⟩,
  ⟨some 20, some (13, true), .bin .gtr .plain (.tmp 14) (.tmp 19)⟩,
  ⟨some 21, none, .pick (.tmp 13) (.tmp 20) (.lit (.d (.bool false)))⟩])
 (.cond (.tmp 21) (.ops [⟨some 22, none, .mv (.tmp 0)⟩,
  ⟨some 23, none, .call 53 [(.tmp 22), (.lit (.d (.int .i64 10)))]⟩]) .skip))
 (.seq (.seq (.ops [⟨some 24, none, .mv (.tmp 0)⟩,
  ⟨some 25, none, .call 54 [(.tmp 24)]⟩])
 (.cond (.tmp 25) (.seq (.ops [⟨some 4, none, .mv (.lit (.exact []))⟩])
 .ret) .skip))
 (.seq (.ops [⟨some 26, none, .mv (.tmp 0)⟩,
  ⟨some 27, none, .nilchk (.tmp 26)⟩,
  ⟨some 28, none, .faddr 0 (.tmp 27)⟩,
  ⟨some 29, none, .load false 1 (.tmp 28)⟩,
  ⟨some 30, none, .mv (.tmp 1)⟩,
  ⟨some 31, none, .slc (.sl 1) (.tmp 29) none (some (.tmp 30)) none⟩,
  ⟨some 32, none, .call 22 [(.tmp 31)]⟩,
  ⟨some 5, none, .mv (.tmp 32)⟩])
 (.seq (.ops [⟨some 33, none, .mv (.tmp 0)⟩,
  ⟨some 34, none, .mv (.tmp 0)⟩,
  ⟨some 35, none, .nilchk (.tmp 34)⟩,
  ⟨some 36, none, .faddr 0 (.tmp 35)⟩,
  ⟨some 37, none, .load false 1 (.tmp 36)⟩,
  ⟨some 38, none, .mv (.tmp 1)⟩,
  ⟨some 39, none, .slc (.sl 1) (.tmp 37) (some (.tmp 38)) none none⟩,
  ⟨some 40, none, .nilchk (.tmp 33)⟩,
  ⟨some 41, none, .faddr 0 (.tmp 40)⟩,
  ⟨none, none, .store 1 (.tmp 41) (.tmp 39)⟩])
 (.seq (.ops [⟨some 42, none, .mv (.tmp 5)⟩,
  ⟨some 4, none, .mv (.tmp 42)⟩])
 .ret)))))))⟩
theorem isA_codec_Reader_Take : isF Try.prog n_codec_Reader_Take A_codec_Reader_Take := ⟨Try.f63, _, Try.func63, by decide +kernel, rfl, by kernel_rfl, by kernel_rfl, by decide, by kernel_rfl, rfl, by kernel_rfl⟩
/-- (*bulla/bullaref01.Reader).Take -/
def A_r01_Reader_Take : AF := ⟨2, 49, [(.tmp 4)],
 (.seq (.ops [⟨some 4, none, .mv (.lit (.exact []))⟩])
 (.seq (.seq (.ops [⟨some 6, none, .mv (.tmp 1)⟩,
  ⟨some 7, none, .bin .lss .plain (.tmp 6) (.lit (.d (.int .i64 0)))⟩])
 (.cond (.tmp 7) (.ops [⟨some 8, none, .mv (.tmp 0)⟩,
  ⟨some 9, none, .call 58 [(.tmp 8), (.lit (.d (.int .i64 1)))]⟩]) .skip))
 (.seq (.seq (.ops [⟨some 10, none, .mv (.tmp 0)⟩,
  ⟨some 11, none, .nilchk (.tmp 10)⟩,
  ⟨some 12, none, .faddr 1 (.tmp 11)⟩,
  ⟨some 13, none, .load false 1 (.tmp 12)⟩,
  ⟨some 14, none, .bin .eql .plain (.tmp 13) (.lit (.d (.int .i64 0)))⟩,
  ⟨some 15, none, .mv (.tmp 14)⟩,
  ⟨some 16, some (15, true), .mv (.tmp 1)⟩,
  ⟨some 17, some (15, true), .mv (.tmp 0)⟩,
  ⟨some 18, some (15, true), .nilchk (.tmp 17)⟩,
  ⟨some 19, some (15, true), .faddr 0 (.tmp 18)⟩,
  ⟨some 20, some (15, true), .load false 1 (.tmp 19)⟩,
  ⟨some 21, some (15, true), .len .sl (.tmp 20)⟩,
  ⟨some 22, some (15, true), .bin .gtr .plain (.tmp 16) (.tmp 21)⟩,
  ⟨some 23, none, .pick (.tmp 15) (.tmp 22) (.lit (.d (.bool false)))⟩])
 (.cond (.tmp 23) (.ops [⟨some 24, none, .mv (.tmp 0)⟩,
  ⟨some 25, none, .call 58 [(.tmp 24), (.lit (.d (.int .i64 10)))]⟩]) .skip))
 (.seq (.seq (.ops [⟨some 26, none, .mv (.tmp 0)⟩,
  ⟨some 27, none, .nilchk (.tmp 26)⟩,
  ⟨some 28, none, .faddr 1 (.tmp 27)⟩,
  ⟨some 29, none, .load false 1 (.tmp 28)⟩,
  ⟨some 30, none, .bin .neq .plain (.tmp 29) (.lit (.d (.int .i64 0)))⟩])
 (.cond (.tmp 30) (.seq (.ops [⟨some 4, none, .mv (.lit (.exact []))⟩])
 .ret) .skip))
 (.seq (.ops [⟨some 5, none, .mv (.lit (.exact []))⟩])
 (.seq (.ops [⟨some 31, none, .mv (.tmp 5)⟩,
  ⟨some 32, none, .mv (.tmp 0)⟩,
  ⟨some 33, none, .nilchk (.tmp 32)⟩,
  ⟨some 34, none, .faddr 0 (.tmp 33)⟩,
  ⟨some 35, none, .load false 1 (.tmp 34)⟩,
  ⟨some 36, none, .mv (.tmp 1)⟩,
  ⟨some 37, none, .slc (.sl 1) (.tmp 35) none (some (.tmp 36)) none⟩,
  ⟨some 38, none, .append 1 1 [(.d (.int .u8 0))] (.tmp 31) (.tmp 37)⟩,
  ⟨some 5, none, .mv (.tmp 38)⟩])
 (.seq (.ops [⟨some 39, none, .mv (.tmp 0)⟩,
  ⟨some 40, none, .mv (.tmp 0)⟩,
  ⟨some 41, none, .nilchk (.tmp 40)⟩,
  ⟨some 42, none, .faddr 0 (.tmp 41)⟩,
  ⟨some 43, none, .load false 1 (.tmp 42)⟩,
  ⟨some 44, none, .mv (.tmp 1)⟩,
  ⟨some 45, none, .slc (.sl 1) (.tmp 43) (some (.tmp 44)) none none⟩,
  ⟨some 46, none, .nilchk (.tmp 39)⟩,
  ⟨some 47, none, .faddr 0 (.tmp 46)⟩,
  ⟨none, none, .store 1 (.tmp 47) (.tmp 45)⟩])
 (.seq (.ops [⟨some 48, none, .mv (.tmp 5)⟩,
  ⟨some 4, none, .mv (.tmp 48)⟩])
 .ret))))))))⟩
theorem isA_r01_Reader_Take : isF Try.prog n_r01_Reader_Take A_r01_Reader_Take := ⟨Try.f64, _, Try.func64, by decide +kernel, rfl, by kernel_rfl, by kernel_rfl, by decide, by kernel_rfl, rfl, by kernel_rfl⟩
end Go.Proofs.Ytahbjkanmagndaa

/- Resolved forms, each with the theorem that it is its function's. Printed by program. -/
import Derived.Test.YthmdpooklflkfaaNm
import Derived.KernelRfl
set_option linter.all false
set_option maxRecDepth 100000
set_option linter.unusedVariables false
namespace Go.Proofs.Ythmdpooklflkfaa
open Go.AW
/-- slices.ContainsFunc[[]bulla/api.Record,bulla/api.Record] -/
def A_slices_ContainsFunc_api_Record_api_Record : AF := ⟨2, 9, [(.tmp 4)],
 (.seq (.ops [⟨some 4, none, .mv (.lit (.d (.bool false)))⟩])
 (.seq (.ops [⟨some 5, none, .mv (.tmp 0)⟩,
  ⟨some 6, none, .mv (.tmp 1)⟩,
  ⟨some 7, none, .call false 110 [(.tmp 5), (.tmp 6)]⟩,
  ⟨some 8, none, .bin .geq .plain (.tmp 7) (.lit (.d (.int .i64 0)))⟩,
  ⟨some 4, none, .mv (.tmp 8)⟩])
 .ret))⟩
theorem isA_slices_ContainsFunc_api_Record_api_Record : isF Try.prog n_slices_ContainsFunc_api_Record_api_Record A_slices_ContainsFunc_api_Record_api_Record := ⟨Try.f91, _, Try.func91, by decide +kernel, rfl, by kernel_rfl, by kernel_rfl, by decide, by kernel_rfl, rfl, by kernel_rfl⟩
/-- bulla/bullaref06.fields -/
def A_r06_fields : AF := ⟨1, 15, [(.tmp 2), (.tmp 3), (.tmp 4), (.tmp 5)],
 (.seq (.ops [⟨some 2, none, .mv (.lit (.d (.bool false)))⟩,
  ⟨some 3, none, .mv (.lit (.d (.bool false)))⟩,
  ⟨some 4, none, .mv (.lit (.d (.bool false)))⟩,
  ⟨some 5, none, .mv (.lit (.d (.bool false)))⟩])
 (.seq (.ops [⟨some 6, none, .mv (.tmp 0)⟩])
 (.block 0 (.seq (.ops [⟨some 8, none, .bin .eql .plain (.tmp 6) (.lit (.d (.int .i64 1)))⟩,
  ⟨some 7, none, .mv (.tmp 8)⟩])
 (.cond (.tmp 7) (.seq (.ops [⟨some 2, none, .mv (.lit (.d (.bool true)))⟩,
  ⟨some 3, none, .mv (.lit (.d (.bool false)))⟩,
  ⟨some 4, none, .mv (.lit (.d (.bool false)))⟩,
  ⟨some 5, none, .mv (.lit (.d (.bool false)))⟩])
 .ret) (.seq (.ops [⟨some 10, none, .bin .eql .plain (.tmp 6) (.lit (.d (.int .i64 2)))⟩,
  ⟨some 9, none, .mv (.tmp 10)⟩])
 (.cond (.tmp 9) (.seq (.ops [⟨some 2, none, .mv (.lit (.d (.bool true)))⟩,
  ⟨some 3, none, .mv (.lit (.d (.bool false)))⟩,
  ⟨some 4, none, .mv (.lit (.d (.bool false)))⟩,
  ⟨some 5, none, .mv (.lit (.d (.bool true)))⟩])
 .ret) (.seq (.ops [⟨some 12, none, .bin .eql .plain (.tmp 6) (.lit (.d (.int .i64 3)))⟩,
  ⟨some 11, none, .mv (.tmp 12)⟩])
 (.cond (.tmp 11) (.seq (.ops [⟨some 2, none, .mv (.lit (.d (.bool true)))⟩,
  ⟨some 3, none, .mv (.lit (.d (.bool true)))⟩,
  ⟨some 4, none, .mv (.lit (.d (.bool true)))⟩,
  ⟨some 5, none, .mv (.lit (.d (.bool false)))⟩])
 .ret) (.seq (.ops [⟨some 14, none, .bin .eql .plain (.tmp 6) (.lit (.d (.int .i64 4)))⟩,
  ⟨some 13, none, .mv (.tmp 14)⟩])
 (.cond (.tmp 13) (.seq (.ops [⟨some 2, none, .mv (.lit (.d (.bool true)))⟩,
  ⟨some 3, none, .mv (.lit (.d (.bool false)))⟩,
  ⟨some 4, none, .mv (.lit (.d (.bool true)))⟩,
  ⟨some 5, none, .mv (.lit (.d (.bool false)))⟩])
 .ret) (.seq (.ops [⟨some 2, none, .mv (.lit (.d (.bool false)))⟩,
  ⟨some 3, none, .mv (.lit (.d (.bool false)))⟩,
  ⟨some 4, none, .mv (.lit (.d (.bool false)))⟩,
  ⟨some 5, none, .mv (.lit (.d (.bool false)))⟩])
 .ret))))))))))))⟩
theorem isA_r06_fields : isF Try.prog n_r06_fields A_r06_fields := ⟨Try.f92, _, Try.func92, by decide +kernel, rfl, by kernel_rfl, by kernel_rfl, by decide, by kernel_rfl, rfl, by kernel_rfl⟩
/-- bulla/bullaref06.Name -/
def A_r06_Name : AF := ⟨1, 6, [(.tmp 2)],
 (.seq (.ops [⟨some 2, none, .mv (.lit (.d (.bool false)))⟩])
 (.seq (.ops [⟨some 3, none, .mv (.tmp 0)⟩,
  ⟨some 4, none, .call false 111 [(.tmp 3)]⟩,
  ⟨some 5, none, .bin .gtr .plain (.tmp 4) (.lit (.d (.int .i64 0)))⟩,
  ⟨some 2, none, .mv (.tmp 5)⟩])
 .ret))⟩
theorem isA_r06_Name : isF Try.prog n_r06_Name A_r06_Name := ⟨Try.f93, _, Try.func93, by decide +kernel, rfl, by kernel_rfl, by kernel_rfl, by decide, by kernel_rfl, rfl, by kernel_rfl⟩
/-- slices.EqualFunc[[]bulla/api.Record,[]bulla/api.Record,bulla/api.Record,bulla/api.Record] -/
def A_slices_EqualFunc_api_Record_api_Record_api_Record_api_Record : AF := ⟨3, 32, [(.tmp 6)],
 (.seq (.ops [⟨some 6, none, .mv (.lit (.d (.bool false)))⟩])
 (.seq (.seq (.ops [⟨some 10, none, .mv (.tmp 0)⟩,
  ⟨some 11, none, .len .sl (.tmp 10)⟩,
  ⟨some 12, none, .mv (.tmp 1)⟩,
  ⟨some 13, none, .len .sl (.tmp 12)⟩,
  ⟨some 14, none, .bin .neq .plain (.tmp 11) (.tmp 13)⟩])
 (.cond (.tmp 14) (.seq (.ops [⟨some 6, none, .mv (.lit (.d (.bool false)))⟩])
 .ret) .skip))
 (.seq (.seq (.ops [⟨some 15, none, .mv (.tmp 0)⟩,
  ⟨some 16, none, .len .sl (.tmp 15)⟩,
  ⟨some 17, none, .mv (.lit (.d (.int .i64 0)))⟩])
 (.block 0 (.loop [17] [6, 7, 8, 9, 18, 19, 20, 21, 22, 23, 24, 25, 26, 27, 28, 29, 30, 31] (.seq (.ops [⟨some 18, none, .bin .lss .plain (.tmp 17) (.tmp 16)⟩])
 (.seq (.cond (.tmp 18) .skip (.exit 0))
 (.seq (.block 1 (.seq (.ops [⟨some 19, none, .mv (.tmp 17)⟩,
  ⟨some 20, none, .iaddr none 1 (.tmp 15) (.tmp 17)⟩,
  ⟨some 21, none, .load false 1 (.tmp 20)⟩,
  ⟨some 7, none, .mv (.tmp 19)⟩,
  ⟨some 8, none, .mv (.tmp 21)⟩])
 (.seq (.ops [⟨some 22, none, .mv (.tmp 1)⟩,
  ⟨some 23, none, .mv (.tmp 7)⟩,
  ⟨some 24, none, .iaddr none 1 (.tmp 22) (.tmp 23)⟩,
  ⟨some 25, none, .load false 1 (.tmp 24)⟩,
  ⟨some 9, none, .mv (.tmp 25)⟩])
 (.seq (.ops [⟨some 26, none, .mv (.tmp 2)⟩,
  ⟨some 27, none, .mv (.tmp 8)⟩,
  ⟨some 28, none, .mv (.tmp 9)⟩,
  ⟨some 29, none, .callv (.tmp 26) [(.tmp 27), (.tmp 28)]⟩,
  ⟨some 30, none, .un .not (.tmp 29)⟩])
 (.cond (.tmp 30) (.seq (.ops [⟨some 6, none, .mv (.lit (.d (.bool false)))⟩])
 .ret) .skip)))))
 (.ops [⟨some 31, none, .bin .add .plain (.tmp 17) (.lit (.d (.int .i64 1)))⟩,
  ⟨some 17, none, .mv (.tmp 31)⟩])))))))
 (.seq (.ops [⟨some 6, none, .mv (.lit (.d (.bool true)))⟩])
 .ret))))⟩
theorem isA_slices_EqualFunc_api_Record_api_Record_api_Record_api_Record : isF Try.prog n_slices_EqualFunc_api_Record_api_Record_api_Record_api_Record A_slices_EqualFunc_api_Record_api_Record_api_Record_api_Record := ⟨Try.f94, _, Try.func94, by decide +kernel, rfl, by kernel_rfl, by kernel_rfl, by decide, by kernel_rfl, rfl, by kernel_rfl⟩
/-- bulla/op.Same$1 -/
def A_op_Same_1 : AF := ⟨2, 8, [(.tmp 4)],
 (.seq (.ops [⟨some 4, none, .mv (.lit (.d (.bool false)))⟩])
 (.seq (.ops [⟨some 5, none, .mv (.tmp 0)⟩,
  ⟨some 6, none, .mv (.tmp 1)⟩,
  ⟨some 7, none, .call false 24 [(.tmp 5), (.tmp 6)]⟩,
  ⟨some 4, none, .mv (.tmp 7)⟩])
 .ret))⟩
theorem isA_op_Same_1 : isF Try.prog n_op_Same_1 A_op_Same_1 := ⟨Try.f95, _, Try.func95, by decide +kernel, rfl, by kernel_rfl, by kernel_rfl, by decide, by kernel_rfl, rfl, by kernel_rfl⟩
/-- bulla/codec.PutBytes -/
def A_codec_PutBytes : AF := ⟨2, 12, [(.tmp 4)],
 (.seq (.ops [⟨some 4, none, .mv (.lit (.exact []))⟩])
 (.seq (.ops [⟨some 5, none, .mv (.tmp 0)⟩,
  ⟨some 6, none, .mv (.tmp 1)⟩,
  ⟨some 7, none, .len .sl (.tmp 6)⟩,
  ⟨some 8, none, .conv (.int .u64) (.tmp 7)⟩,
  ⟨some 9, none, .call false 59 [(.tmp 5), (.tmp 8)]⟩,
  ⟨some 10, none, .mv (.tmp 1)⟩,
  ⟨some 11, none, .append false 1 1 [(.d (.int .u8 0))] (.tmp 9) (.tmp 10)⟩,
  ⟨some 4, none, .mv (.tmp 11)⟩])
 .ret))⟩
theorem isA_codec_PutBytes : isF Try.prog n_codec_PutBytes A_codec_PutBytes := ⟨Try.f96, _, Try.func96, by decide +kernel, rfl, by kernel_rfl, by kernel_rfl, by decide, by kernel_rfl, rfl, by kernel_rfl⟩
/-- bulla/codec.form -/
def A_codec_form : AF := ⟨1, 24, [(.cell 2 true 10), (.tmp 3)],
 (.seq (.ops [⟨some 2, none, .alloc [(.d (.int .u8 0)), (.d (.int .u8 0)), (.d (.int .u8 0)), (.d (.int .u8 0)), (.d (.int .u8 0)), (.d (.int .u8 0)), (.d (.int .u8 0)), (.d (.int .u8 0)), (.d (.int .u8 0)), (.d (.int .u8 0))]⟩,
  ⟨some 3, none, .mv (.lit (.d (.int .i64 0)))⟩])
 (.seq (.ops [⟨some 4, none, .alloc [(.d (.int .u8 0)), (.d (.int .u8 0)), (.d (.int .u8 0)), (.d (.int .u8 0)), (.d (.int .u8 0)), (.d (.int .u8 0)), (.d (.int .u8 0)), (.d (.int .u8 0)), (.d (.int .u8 0)), (.d (.int .u8 0))]⟩])
 (.seq (.ops [⟨some 5, none, .mv (.lit (.d (.int .i64 0)))⟩])
 (.seq (.block 0 (.loop [0, 5] [6, 7, 8, 9, 10, 11, 12, 13, 14, 15, 16] (.seq (.seq (.ops [⟨some 6, none, .mv (.tmp 0)⟩,
  ⟨some 7, none, .bin .gtr .plain (.tmp 6) (.lit (.d (.int .u64 127)))⟩])
 (.cond (.tmp 7) .skip (.exit 0)))
 (.block 1 (.seq (.ops [⟨some 8, none, .mv (.tmp 5)⟩,
  ⟨some 9, none, .mv (.tmp 0)⟩,
  ⟨some 10, none, .conv (.int .u8) (.tmp 9)⟩,
  ⟨some 11, none, .bin .or .plain (.tmp 10) (.lit (.d (.int .u8 128)))⟩,
  ⟨some 12, none, .iaddr (some 10) 1 (.tmp 4) (.tmp 8)⟩,
  ⟨none, none, .store 1 (.tmp 12) (.tmp 11)⟩])
 (.seq (.ops [⟨some 13, none, .mv (.tmp 0)⟩,
  ⟨some 14, none, .bin .shr .plain (.tmp 13) (.lit (.d (.int .u64 7)))⟩,
  ⟨some 0, none, .mv (.tmp 14)⟩])
 (.ops [⟨some 15, none, .mv (.tmp 5)⟩,
  ⟨some 16, none, .bin .add .plain (.tmp 15) (.lit (.d (.int .i64 1)))⟩,
  ⟨some 5, none, .mv (.tmp 16)⟩])))))))
 (.seq (.ops [⟨some 17, none, .mv (.tmp 5)⟩,
  ⟨some 18, none, .mv (.tmp 0)⟩,
  ⟨some 19, none, .conv (.int .u8) (.tmp 18)⟩,
  ⟨some 20, none, .iaddr (some 10) 1 (.tmp 4) (.tmp 17)⟩,
  ⟨none, none, .store 1 (.tmp 20) (.tmp 19)⟩])
 (.seq (.ops [⟨some 21, none, .load true 10 (.tmp 4)⟩,
  ⟨some 22, none, .mv (.tmp 5)⟩,
  ⟨some 23, none, .bin .add .plain (.tmp 22) (.lit (.d (.int .i64 1)))⟩,
  ⟨none, none, .store 10 (.tmp 2) (.tmp 21)⟩,
  ⟨some 3, none, .mv (.tmp 23)⟩])
 .ret))))))⟩
theorem isA_codec_form : isF Try.prog n_codec_form A_codec_form := ⟨Try.f97, _, Try.func97, by decide +kernel, rfl, by kernel_rfl, by kernel_rfl, by decide, by kernel_rfl, rfl, by kernel_rfl⟩
/-- slices.Clip[[]byte,byte] -/
def A_slices_Clip_byte_byte : AF := ⟨1, 9, [(.tmp 2)],
 (.seq (.ops [⟨some 2, none, .mv (.lit (.exact []))⟩])
 (.seq (.ops [⟨some 3, none, .mv (.tmp 0)⟩,
  ⟨some 4, none, .mv (.tmp 0)⟩,
  ⟨some 5, none, .len .sl (.tmp 4)⟩,
  ⟨some 6, none, .mv (.tmp 0)⟩,
  ⟨some 7, none, .len .sl (.tmp 6)⟩,
  ⟨some 8, none, .slc (.sl 1) (.tmp 3) none (some (.tmp 5)) (some (.tmp 7))⟩,
  ⟨some 2, none, .mv (.tmp 8)⟩])
 .ret))⟩
theorem isA_slices_Clip_byte_byte : isF Try.prog n_slices_Clip_byte_byte A_slices_Clip_byte_byte := ⟨Try.f98, _, Try.func98, by decide +kernel, rfl, by kernel_rfl, by kernel_rfl, by decide, by kernel_rfl, rfl, by kernel_rfl⟩
/-- (*bulla/ideal.Ledger).Len -/
def A_ideal_Ledger_Len : AF := ⟨1, 10, [(.tmp 2)],
 (.seq (.ops [⟨some 2, none, .mv (.lit (.d (.int .i64 0)))⟩])
 (.seq (.seq (.ops [⟨some 3, none, .mv (.tmp 0)⟩,
  ⟨some 4, none, .call false 101 [(.tmp 3)]⟩])
 (.cond (.tmp 4) (.seq (.ops [⟨some 2, none, .mv (.lit (.d (.int .i64 0)))⟩])
 .ret) .skip))
 (.seq (.ops [⟨some 5, none, .mv (.tmp 0)⟩,
  ⟨some 6, none, .nilchk (.tmp 5)⟩,
  ⟨some 7, none, .faddr 0 (.tmp 6)⟩,
  ⟨some 8, none, .load false 1 (.tmp 7)⟩,
  ⟨some 9, none, .len .sl (.tmp 8)⟩,
  ⟨some 2, none, .mv (.tmp 9)⟩])
 .ret)))⟩
theorem isA_ideal_Ledger_Len : isF Try.prog n_ideal_Ledger_Len A_ideal_Ledger_Len := ⟨Try.f99, _, Try.func99, by decide +kernel, rfl, by kernel_rfl, by kernel_rfl, by decide, by kernel_rfl, rfl, by kernel_rfl⟩
/-- (*bulla/ideal.Ledger).Clone -/
def A_ideal_Ledger_Clone : AF := ⟨1, 26, [(.tmp 2)],
 (.seq (.ops [⟨some 2, none, .mv (.lit (.d .nilp))⟩])
 (.seq (.seq (.ops [⟨some 6, none, .mv (.tmp 0)⟩,
  ⟨some 7, none, .call false 101 [(.tmp 6)]⟩])
 (.cond (.tmp 7) (.seq (.ops [⟨some 2, none, .mv (.lit (.d .nilp))⟩])
 .ret) .skip))
 (.seq (.ops [⟨some 8, none, .call false 30 []⟩,
  ⟨some 3, none, .mv (.tmp 8)⟩])
 (.seq (.seq (.ops [⟨some 9, none, .mv (.tmp 0)⟩,
  ⟨some 10, none, .nilchk (.tmp 9)⟩,
  ⟨some 11, none, .faddr 0 (.tmp 10)⟩,
  ⟨some 12, none, .load false 1 (.tmp 11)⟩,
  ⟨some 13, none, .len .sl (.tmp 12)⟩,
  ⟨some 14, none, .mv (.lit (.d (.int .i64 0)))⟩])
 (.block 0 (.loop [14] [5, 15, 16, 17, 18, 19, 20, 21, 22, 23, 24] (.seq (.ops [⟨some 15, none, .bin .lss .plain (.tmp 14) (.tmp 13)⟩])
 (.seq (.cond (.tmp 15) .skip (.exit 0))
 (.seq (.block 1 (.seq (.ops [⟨some 16, none, .iaddr none 2 (.tmp 12) (.tmp 14)⟩,
  ⟨some 17, none, .load true 2 (.tmp 16)⟩,
  ⟨some 5, none, .alloc [(.d (.int .i64 0)), (.d (.int .i64 0))]⟩,
  ⟨none, none, .store 2 (.tmp 5) (.tmp 17)⟩])
 (.ops [⟨some 18, none, .mv (.tmp 3)⟩,
  ⟨some 19, none, .faddr 0 (.tmp 5)⟩,
  ⟨some 20, none, .load false 1 (.tmp 19)⟩,
  ⟨some 21, none, .faddr 1 (.tmp 5)⟩,
  ⟨some 22, none, .load false 1 (.tmp 21)⟩,
  ⟨some 23, none, .call false 66 [(.tmp 18), (.tmp 20), (.tmp 22)]⟩])))
 (.ops [⟨some 24, none, .bin .add .plain (.tmp 14) (.lit (.d (.int .i64 1)))⟩,
  ⟨some 14, none, .mv (.tmp 24)⟩])))))))
 (.seq (.ops [⟨some 25, none, .mv (.tmp 3)⟩,
  ⟨some 2, none, .mv (.tmp 25)⟩])
 .ret)))))⟩
theorem isA_ideal_Ledger_Clone : isF Try.prog n_ideal_Ledger_Clone A_ideal_Ledger_Clone := ⟨Try.f100, _, Try.func100, by decide +kernel, rfl, by kernel_rfl, by kernel_rfl, by decide, by kernel_rfl, rfl, by kernel_rfl⟩
/-- (*bulla/ideal.Ledger).none -/
def A_ideal_Ledger_none : AF := ⟨1, 12, [(.tmp 2)],
 (.seq (.ops [⟨some 2, none, .mv (.lit (.d (.bool false)))⟩])
 (.seq (.ops [⟨some 3, none, .mv (.tmp 0)⟩,
  ⟨some 4, none, .bin .eql .ptr (.tmp 3) (.lit (.d .nilp))⟩,
  ⟨some 5, none, .mv (.tmp 4)⟩,
  ⟨some 6, some (5, false), .mv (.tmp 0)⟩,
  ⟨some 7, some (5, false), .nilchk (.tmp 6)⟩,
  ⟨some 8, some (5, false), .faddr 1 (.tmp 7)⟩,
  ⟨some 9, some (5, false), .load false 1 (.tmp 8)⟩,
  ⟨some 10, some (5, false), .bin .eql .map (.tmp 9) (.lit (.d .nilmap))⟩,
  ⟨some 11, none, .pick (.tmp 5) (.lit (.d (.bool true))) (.tmp 10)⟩,
  ⟨some 2, none, .mv (.tmp 11)⟩])
 .ret))⟩
theorem isA_ideal_Ledger_none : isF Try.prog n_ideal_Ledger_none A_ideal_Ledger_none := ⟨Try.f101, _, Try.func101, by decide +kernel, rfl, by kernel_rfl, by kernel_rfl, by decide, by kernel_rfl, rfl, by kernel_rfl⟩
/-- (*bulla/ideal.Table).none -/
def A_ideal_Table_none : AF := ⟨1, 12, [(.tmp 2)],
 (.seq (.ops [⟨some 2, none, .mv (.lit (.d (.bool false)))⟩])
 (.seq (.ops [⟨some 3, none, .mv (.tmp 0)⟩,
  ⟨some 4, none, .bin .eql .ptr (.tmp 3) (.lit (.d .nilp))⟩,
  ⟨some 5, none, .mv (.tmp 4)⟩,
  ⟨some 6, some (5, false), .mv (.tmp 0)⟩,
  ⟨some 7, some (5, false), .nilchk (.tmp 6)⟩,
  ⟨some 8, some (5, false), .faddr 1 (.tmp 7)⟩,
  ⟨some 9, some (5, false), .load false 1 (.tmp 8)⟩,
  ⟨some 10, some (5, false), .bin .eql .map (.tmp 9) (.lit (.d .nilmap))⟩,
  ⟨some 11, none, .pick (.tmp 5) (.lit (.d (.bool true))) (.tmp 10)⟩,
  ⟨some 2, none, .mv (.tmp 11)⟩])
 .ret))⟩
theorem isA_ideal_Table_none : isF Try.prog n_ideal_Table_none A_ideal_Table_none := ⟨Try.f102, _, Try.func102, by decide +kernel, rfl, by kernel_rfl, by kernel_rfl, by decide, by kernel_rfl, rfl, by kernel_rfl⟩
/-- (*bulla/ideal.Table).Len -/
def A_ideal_Table_Len : AF := ⟨1, 10, [(.tmp 2)],
 (.seq (.ops [⟨some 2, none, .mv (.lit (.d (.int .i64 0)))⟩])
 (.seq (.seq (.ops [⟨some 3, none, .mv (.tmp 0)⟩,
  ⟨some 4, none, .call false 102 [(.tmp 3)]⟩])
 (.cond (.tmp 4) (.seq (.ops [⟨some 2, none, .mv (.lit (.d (.int .i64 0)))⟩])
 .ret) .skip))
 (.seq (.ops [⟨some 5, none, .mv (.tmp 0)⟩,
  ⟨some 6, none, .nilchk (.tmp 5)⟩,
  ⟨some 7, none, .faddr 0 (.tmp 6)⟩,
  ⟨some 8, none, .load false 1 (.tmp 7)⟩,
  ⟨some 9, none, .len .sl (.tmp 8)⟩,
  ⟨some 2, none, .mv (.tmp 9)⟩])
 .ret)))⟩
theorem isA_ideal_Table_Len : isF Try.prog n_ideal_Table_Len A_ideal_Table_Len := ⟨Try.f103, _, Try.func103, by decide +kernel, rfl, by kernel_rfl, by kernel_rfl, by decide, by kernel_rfl, rfl, by kernel_rfl⟩
/-- (*bulla/ideal.Table).Clone -/
def A_ideal_Table_Clone : AF := ⟨1, 16, [(.tmp 2)],
 (.seq (.ops [⟨some 2, none, .mv (.lit (.d .nilp))⟩])
 (.seq (.seq (.ops [⟨some 5, none, .mv (.tmp 0)⟩,
  ⟨some 6, none, .call false 102 [(.tmp 5)]⟩])
 (.cond (.tmp 6) (.seq (.ops [⟨some 2, none, .mv (.lit (.d .nilp))⟩])
 .ret) .skip))
 (.seq (.ops [⟨some 8, none, .mv (.tmp 0)⟩,
  ⟨some 9, none, .nilchk (.tmp 8)⟩,
  ⟨some 10, none, .faddr 0 (.tmp 9)⟩,
  ⟨some 11, none, .load false 1 (.tmp 10)⟩,
  ⟨some 12, none, .call false 112 [(.tmp 11)]⟩,
  ⟨some 7, none, .mv (.tmp 12)⟩,
  ⟨some 13, none, .extract (.tmp 7) 0⟩,
  ⟨some 14, none, .extract (.tmp 7) 1⟩,
  ⟨some 3, none, .mv (.tmp 13)⟩,
  ⟨some 4, none, .mv (.tmp 14)⟩])
 (.seq (.ops [⟨some 15, none, .mv (.tmp 3)⟩,
  ⟨some 2, none, .mv (.tmp 15)⟩])
 .ret))))⟩
theorem isA_ideal_Table_Clone : isF Try.prog n_ideal_Table_Clone A_ideal_Table_Clone := ⟨Try.f104, _, Try.func104, by decide +kernel, rfl, by kernel_rfl, by kernel_rfl, by decide, by kernel_rfl, rfl, by kernel_rfl⟩
/-- bulla/op.Runes -/
def A_op_Runes : AF := ⟨1, 34, [(.tmp 2)],
 (.seq (.ops [⟨some 2, none, .mv (.lit (.d (.int .i64 0)))⟩])
 (.seq (.ops [⟨some 3, none, .mv (.lit (.d (.int .i64 0)))⟩])
 (.seq (.seq (.ops [⟨some 6, none, .mv (.tmp 0)⟩,
  ⟨some 7, none, .rangeS (.tmp 6)⟩])
 (.block 0 (.loop [3] [2, 5, 8, 9, 10, 11, 12, 13, 14, 15, 16, 17, 18, 19, 20, 21, 22, 23, 24, 25, 26, 27, 28, 29, 30] (.seq (.ops [⟨some 8, none, .nextS (.tmp 7)⟩,
  ⟨some 9, none, .extract (.tmp 8) 0⟩])
 (.seq (.cond (.tmp 9) .skip (.exit 0))
 (.block 1 (.seq (.ops [⟨some 10, none, .extract (.tmp 8) 2⟩,
  ⟨some 5, none, .mv (.tmp 10)⟩])
 (.seq (.seq (.ops [⟨some 11, none, .mv (.tmp 5)⟩,
  ⟨some 12, none, .bin .lss .plain (.tmp 11) (.lit (.d (.int .i32 33)))⟩,
  ⟨some 13, none, .mv (.tmp 12)⟩,
  ⟨some 14, some (13, false), .mv (.tmp 5)⟩,
  ⟨some 15, some (13, false), .bin .geq .plain (.tmp 14) (.lit (.d (.int .i32 127)))⟩,
  ⟨some 16, some (13, false), .mv (.tmp 15)⟩,
  ⟨some 17, some (16, true), .mv (.tmp 5)⟩,
  ⟨some 18, some (16, true), .bin .leq .plain (.tmp 17) (.lit (.d (.int .i32 159)))⟩,
  ⟨some 19, some (13, false), .pick (.tmp 16) (.tmp 18) (.lit (.d (.bool false)))⟩,
  ⟨some 20, none, .pick (.tmp 13) (.lit (.d (.bool true))) (.tmp 19)⟩,
  ⟨some 21, none, .mv (.tmp 20)⟩,
  ⟨some 22, some (21, false), .mv (.tmp 5)⟩,
  ⟨some 23, some (21, false), .bin .eql .plain (.tmp 22) (.lit (.d (.int .i32 47)))⟩,
  ⟨some 24, none, .pick (.tmp 21) (.lit (.d (.bool true))) (.tmp 23)⟩,
  ⟨some 25, none, .mv (.tmp 24)⟩,
  ⟨some 26, some (25, false), .mv (.tmp 5)⟩,
  ⟨some 27, some (25, false), .bin .eql .plain (.tmp 26) (.lit (.d (.int .i32 65533)))⟩,
  ⟨some 28, none, .pick (.tmp 25) (.lit (.d (.bool true))) (.tmp 27)⟩])
 (.cond (.tmp 28) (.seq (.ops [⟨some 2, none, .mv (.lit (.d (.int .i64 0)))⟩])
 .ret) .skip))
 (.ops [⟨some 29, none, .mv (.tmp 3)⟩,
  ⟨some 30, none, .bin .add .plain (.tmp 29) (.lit (.d (.int .i64 1)))⟩,
  ⟨some 3, none, .mv (.tmp 30)⟩])))))))))
 (.seq (.seq (.ops [⟨some 31, none, .mv (.tmp 3)⟩,
  ⟨some 32, none, .bin .gtr .plain (.tmp 31) (.lit (.d (.int .i64 16)))⟩])
 (.cond (.tmp 32) (.seq (.ops [⟨some 2, none, .mv (.lit (.d (.int .i64 0)))⟩])
 .ret) .skip))
 (.seq (.ops [⟨some 33, none, .mv (.tmp 3)⟩,
  ⟨some 2, none, .mv (.tmp 33)⟩])
 .ret)))))⟩
theorem isA_op_Runes : isF Try.prog n_op_Runes A_op_Runes := ⟨Try.f109, _, Try.func109, by decide +kernel, rfl, by kernel_rfl, by kernel_rfl, by decide, by kernel_rfl, rfl, by kernel_rfl⟩
/-- slices.IndexFunc[[]bulla/api.Record,bulla/api.Record] -/
def A_slices_IndexFunc_api_Record_api_Record : AF := ⟨2, 19, [(.tmp 4)],
 (.seq (.ops [⟨some 4, none, .mv (.lit (.d (.int .i64 0)))⟩])
 (.seq (.seq (.ops [⟨some 6, none, .mv (.tmp 0)⟩,
  ⟨some 7, none, .len .sl (.tmp 6)⟩,
  ⟨some 8, none, .mv (.lit (.d (.int .i64 0)))⟩])
 (.block 0 (.loop [8] [4, 5, 9, 10, 11, 12, 13, 14, 15, 16, 17, 18] (.seq (.ops [⟨some 9, none, .bin .lss .plain (.tmp 8) (.tmp 7)⟩])
 (.seq (.cond (.tmp 9) .skip (.exit 0))
 (.seq (.block 1 (.seq (.ops [⟨some 10, none, .mv (.tmp 8)⟩,
  ⟨some 5, none, .mv (.tmp 10)⟩])
 (.seq (.ops [⟨some 11, none, .mv (.tmp 1)⟩,
  ⟨some 12, none, .mv (.tmp 0)⟩,
  ⟨some 13, none, .mv (.tmp 5)⟩,
  ⟨some 14, none, .iaddr none 1 (.tmp 12) (.tmp 13)⟩,
  ⟨some 15, none, .load false 1 (.tmp 14)⟩,
  ⟨some 16, none, .callv (.tmp 11) [(.tmp 15)]⟩])
 (.cond (.tmp 16) (.seq (.ops [⟨some 17, none, .mv (.tmp 5)⟩,
  ⟨some 4, none, .mv (.tmp 17)⟩])
 .ret) .skip))))
 (.ops [⟨some 18, none, .bin .add .plain (.tmp 8) (.lit (.d (.int .i64 1)))⟩,
  ⟨some 8, none, .mv (.tmp 18)⟩])))))))
 (.seq (.ops [⟨some 4, none, .mv (.lit (.d (.int .i64 (-1))))⟩])
 .ret)))⟩
theorem isA_slices_IndexFunc_api_Record_api_Record : isF Try.prog n_slices_IndexFunc_api_Record_api_Record A_slices_IndexFunc_api_Record_api_Record := ⟨Try.f110, _, Try.func110, by decide +kernel, rfl, by kernel_rfl, by kernel_rfl, by decide, by kernel_rfl, rfl, by kernel_rfl⟩
/-- bulla/bullaref06.Runes -/
def A_r06_Runes : AF := ⟨1, 46, [(.tmp 2)],
 (.seq (.ops [⟨some 2, none, .mv (.lit (.d (.int .i64 0)))⟩])
 (.seq (.ops [⟨some 3, none, .mv (.lit (.d (.int .i64 0)))⟩])
 (.seq (.block 0 (.loop [0, 3] [2, 4, 5, 6, 7, 8, 9, 10, 11, 12, 13, 14, 15, 16, 17, 18, 19, 20, 21, 22, 23, 24, 25, 26, 27, 28, 29, 30, 31, 32, 33, 34, 35, 36, 37, 38, 39, 40, 41, 42, 43, 44] (.seq (.seq (.ops [⟨some 6, none, .mv (.tmp 0)⟩,
  ⟨some 7, none, .len .str (.tmp 6)⟩,
  ⟨some 8, none, .bin .gtr .plain (.tmp 7) (.lit (.d (.int .i64 0)))⟩])
 (.cond (.tmp 8) .skip (.exit 0)))
 (.block 1 (.seq (.ops [⟨some 10, none, .mv (.tmp 0)⟩,
  ⟨some 11, none, .call false 113 [(.tmp 10)]⟩,
  ⟨some 9, none, .mv (.tmp 11)⟩,
  ⟨some 12, none, .extract (.tmp 9) 0⟩,
  ⟨some 13, none, .extract (.tmp 9) 1⟩,
  ⟨some 4, none, .mv (.tmp 12)⟩,
  ⟨some 5, none, .mv (.tmp 13)⟩])
 (.seq (.seq (.ops [⟨some 14, none, .mv (.tmp 5)⟩,
  ⟨some 15, none, .bin .eql .plain (.tmp 14) (.lit (.d (.int .i64 0)))⟩,
  ⟨some 16, none, .mv (.tmp 15)⟩,
  ⟨some 17, some (16, false), .mv (.tmp 4)⟩,
  ⟨some 18, some (16, false), .bin .lss .plain (.tmp 17) (.lit (.d (.int .i64 33)))⟩,
  ⟨some 19, none, .pick (.tmp 16) (.lit (.d (.bool true))) (.tmp 18)⟩,
  ⟨some 20, none, .mv (.tmp 19)⟩,
  ⟨some 21, some (20, false), .mv (.tmp 4)⟩,
  ⟨some 22, some (20, false), .bin .geq .plain (.tmp 21) (.lit (.d (.int .i64 127)))⟩,
  ⟨some 23, some (20, false), .mv (.tmp 22)⟩,
  ⟨some 24, some (23, true), .mv (.tmp 4)⟩,
  ⟨some 25, some (23, true), .bin .lss .plain (.tmp 24) (.lit (.d (.int .i64 160)))⟩,
  ⟨some 26, some (20, false), .pick (.tmp 23) (.tmp 25) (.lit (.d (.bool false)))⟩,
  ⟨some 27, none, .pick (.tmp 20) (.lit (.d (.bool true))) (.tmp 26)⟩,
  ⟨some 28, none, .mv (.tmp 27)⟩,
  ⟨some 29, some (28, false), .mv (.tmp 4)⟩,
  ⟨some 30, some (28, false), .bin .eql .plain (.tmp 29) (.lit (.d (.int .i64 47)))⟩,
  ⟨some 31, none, .pick (.tmp 28) (.lit (.d (.bool true))) (.tmp 30)⟩,
  ⟨some 32, none, .mv (.tmp 31)⟩,
  ⟨some 33, some (32, false), .mv (.tmp 4)⟩,
  ⟨some 34, some (32, false), .bin .eql .plain (.tmp 33) (.lit (.d (.int .i64 65533)))⟩,
  ⟨some 35, none, .pick (.tmp 32) (.lit (.d (.bool true))) (.tmp 34)⟩,
  ⟨some 36, none, .mv (.tmp 35)⟩,
  ⟨some 37, some (36, false), .mv (.tmp 3)⟩,
  ⟨some 38, some (36, false), .bin .geq .plain (.tmp 37) (.lit (.d (.int .i64 16)))⟩,
  ⟨some 39, none, .pick (.tmp 36) (.lit (.d (.bool true))) (.tmp 38)⟩])
 (.cond (.tmp 39) (.seq (.ops [⟨some 2, none, .mv (.lit (.d (.int .i64 0)))⟩])
 .ret) .skip))
 (.seq (.ops [⟨some 40, none, .mv (.tmp 3)⟩,
  ⟨some 41, none, .bin .add .plain (.tmp 40) (.lit (.d (.int .i64 1)))⟩,
  ⟨some 3, none, .mv (.tmp 41)⟩])
 (.ops [⟨some 42, none, .mv (.tmp 0)⟩,
  ⟨some 43, none, .mv (.tmp 5)⟩,
  ⟨some 44, none, .slc .str (.tmp 42) (some (.tmp 43)) none none⟩,
  ⟨some 0, none, .mv (.tmp 44)⟩]))))))))
 (.seq (.ops [⟨some 45, none, .mv (.tmp 3)⟩,
  ⟨some 2, none, .mv (.tmp 45)⟩])
 .ret))))⟩
theorem isA_r06_Runes : isF Try.prog n_r06_Runes A_r06_Runes := ⟨Try.f111, _, Try.func111, by decide +kernel, rfl, by kernel_rfl, by kernel_rfl, by decide, by kernel_rfl, rfl, by kernel_rfl⟩
/-- bulla/ideal.From -/
def A_ideal_From : AF := ⟨1, 31, [(.tmp 2), (.tmp 3)],
 (.seq (.ops [⟨some 2, none, .mv (.lit (.d .nilp))⟩,
  ⟨some 3, none, .mv (.lit (.d (.int .i64 0)))⟩])
 (.seq (.seq (.ops [⟨some 9, none, .mv (.tmp 0)⟩,
  ⟨some 10, none, .len .sl (.tmp 9)⟩,
  ⟨some 11, none, .bin .gtr .plain (.tmp 10) (.lit (.d (.int .i64 1048576)))⟩])
 (.cond (.tmp 11) (.seq (.ops [⟨some 2, none, .mv (.lit (.d .nilp))⟩,
  ⟨some 3, none, .mv (.lit (.d (.int .i64 3)))⟩])
 .ret) .skip))
 (.seq (.ops [⟨some 12, none, .call false 29 []⟩,
  ⟨some 4, none, .mv (.tmp 12)⟩])
 (.seq (.seq (.ops [⟨some 13, none, .mv (.tmp 0)⟩,
  ⟨some 14, none, .len .sl (.tmp 13)⟩,
  ⟨some 15, none, .mv (.lit (.d (.int .i64 0)))⟩])
 (.block 0 (.loop [15] [2, 3, 6, 7, 8, 16, 17, 18, 19, 20, 21, 22, 23, 24, 25, 26, 27, 28, 29] (.seq (.ops [⟨some 16, none, .bin .lss .plain (.tmp 15) (.tmp 14)⟩])
 (.seq (.cond (.tmp 16) .skip (.exit 0))
 (.seq (.block 1 (.seq (.ops [⟨some 17, none, .iaddr none 1 (.tmp 13) (.tmp 15)⟩,
  ⟨some 18, none, .load false 1 (.tmp 17)⟩,
  ⟨some 6, none, .mv (.tmp 18)⟩])
 (.seq (.seq (.ops [⟨some 20, none, .mv (.tmp 4)⟩,
  ⟨some 21, none, .mv (.tmp 6)⟩,
  ⟨some 22, none, .call false 68 [(.tmp 20), (.tmp 21)]⟩,
  ⟨some 19, none, .mv (.tmp 22)⟩,
  ⟨some 23, none, .extract (.tmp 19) 0⟩,
  ⟨some 24, none, .extract (.tmp 19) 1⟩,
  ⟨some 7, none, .mv (.tmp 23)⟩,
  ⟨some 8, none, .mv (.tmp 24)⟩])
 (.seq (.ops [⟨some 25, none, .mv (.tmp 8)⟩])
 (.cond (.tmp 25) (.seq (.ops [⟨some 2, none, .mv (.lit (.d .nilp))⟩,
  ⟨some 3, none, .mv (.lit (.d (.int .i64 5)))⟩])
 .ret) .skip)))
 (.ops [⟨some 26, none, .mv (.tmp 4)⟩,
  ⟨some 27, none, .mv (.tmp 6)⟩,
  ⟨some 28, none, .call false 67 [(.tmp 26), (.tmp 27)]⟩]))))
 (.ops [⟨some 29, none, .bin .add .plain (.tmp 15) (.lit (.d (.int .i64 1)))⟩,
  ⟨some 15, none, .mv (.tmp 29)⟩])))))))
 (.seq (.ops [⟨some 30, none, .mv (.tmp 4)⟩,
  ⟨some 2, none, .mv (.tmp 30)⟩,
  ⟨some 3, none, .mv (.lit (.d (.int .i64 0)))⟩])
 .ret)))))⟩
theorem isA_ideal_From : isF Try.prog n_ideal_From A_ideal_From := ⟨Try.f112, _, Try.func112, by decide +kernel, rfl, by kernel_rfl, by kernel_rfl, by decide, by kernel_rfl, rfl, by kernel_rfl⟩
/-- bulla/bullaref06.rune1 -/
def A_r06_rune1 : AF := ⟨1, 76, [(.tmp 2), (.tmp 3)],
 (.seq (.ops [⟨some 2, none, .mv (.lit (.d (.int .i64 0)))⟩,
  ⟨some 3, none, .mv (.lit (.d (.int .i64 0)))⟩])
 (.seq (.ops [⟨some 8, none, .mv (.tmp 0)⟩,
  ⟨some 9, none, .idxS (.tmp 8) (.lit (.d (.int .i64 0)))⟩,
  ⟨some 10, none, .call false 114 [(.tmp 9)]⟩,
  ⟨some 4, none, .mv (.tmp 10)⟩])
 (.seq (.seq (.ops [⟨some 11, none, .mv (.tmp 4)⟩,
  ⟨some 12, none, .bin .eql .plain (.tmp 11) (.lit (.d (.int .i64 0)))⟩,
  ⟨some 13, none, .mv (.tmp 12)⟩,
  ⟨some 14, some (13, false), .mv (.tmp 4)⟩,
  ⟨some 15, some (13, false), .mv (.tmp 0)⟩,
  ⟨some 16, some (13, false), .len .str (.tmp 15)⟩,
  ⟨some 17, some (13, false), .bin .gtr .plain (.tmp 14) (.tmp 16)⟩,
  ⟨some 18, none, .pick (.tmp 13) (.lit (.d (.bool true))) (.tmp 17)⟩])
 (.cond (.tmp 18) (.seq (.ops [⟨some 2, none, .mv (.lit (.d (.int .i64 0)))⟩,
  ⟨some 3, none, .mv (.lit (.d (.int .i64 0)))⟩])
 .ret) .skip))
 (.seq (.seq (.ops [⟨some 19, none, .mv (.tmp 4)⟩,
  ⟨some 20, none, .bin .eql .plain (.tmp 19) (.lit (.d (.int .i64 1)))⟩])
 (.cond (.tmp 20) (.seq (.ops [⟨some 21, none, .mv (.tmp 0)⟩,
  ⟨some 22, none, .idxS (.tmp 21) (.lit (.d (.int .i64 0)))⟩,
  ⟨some 23, none, .conv (.int .i64) (.tmp 22)⟩,
  ⟨some 2, none, .mv (.tmp 23)⟩,
  ⟨some 3, none, .mv (.lit (.d (.int .i64 1)))⟩])
 .ret) .skip))
 (.seq (.draw [⟨some 24, none, .mv (.tmp 0)⟩,
  ⟨some 25, none, .idxS (.tmp 24) (.lit (.d (.int .i64 0)))⟩,
  ⟨some 26, none, .conv (.int .i64) (.tmp 25)⟩,
  ⟨some 27, none, .mv (.tmp 4)⟩,
  ⟨some 28, none, .bin .sub .plain (.lit (.d (.int .i64 7))) (.tmp 27)⟩,
  ⟨some 29, none, .bin .shl .plain (.lit (.d (.int .i64 1))) (.tmp 28)⟩,
  ⟨some 30, none, .bin .sub .plain (.tmp 29) (.lit (.d (.int .i64 1)))⟩,
  ⟨some 31, none, .bin .and .plain (.tmp 26) (.tmp 30)⟩,
  ⟨some 5, none, .mv (.tmp 31)⟩] [[], [0], [1], [], [3], [4], [5], [2, 6], [7, 0, 1, 2, 3, 4, 5, 6, 7]] [(0, []), (1, []), (2, []), (3, []), (4, []), (5, []), (6, []), (7, []), (8, [])] [0, 1, 3, 0, 8, 24, 56, 127, 255])
 (.seq (.seq (.ops [⟨some 6, none, .mv (.lit (.d (.int .i64 1)))⟩])
 (.block 0 (.loop [5, 6] [2, 3, 32, 33, 34, 35, 36, 37, 38, 39, 40, 41, 42, 43, 44, 45, 46, 47, 48, 49, 50, 51, 52, 53, 54] (.seq (.seq (.ops [⟨some 32, none, .mv (.tmp 6)⟩,
  ⟨some 33, none, .mv (.tmp 4)⟩,
  ⟨some 34, none, .bin .lss .plain (.tmp 32) (.tmp 33)⟩])
 (.cond (.tmp 34) .skip (.exit 0)))
 (.seq (.block 1 (.seq (.seq (.ops [⟨some 37, none, .mv (.tmp 0)⟩,
  ⟨some 38, none, .mv (.tmp 6)⟩,
  ⟨some 39, none, .idxS (.tmp 37) (.tmp 38)⟩,
  ⟨some 40, none, .bin .lss .plain (.tmp 39) (.lit (.d (.int .u8 128)))⟩,
  ⟨some 41, none, .mv (.tmp 40)⟩,
  ⟨some 42, some (41, false), .mv (.tmp 0)⟩,
  ⟨some 43, some (41, false), .mv (.tmp 6)⟩,
  ⟨some 44, some (41, false), .idxS (.tmp 42) (.tmp 43)⟩,
  ⟨some 45, some (41, false), .bin .geq .plain (.tmp 44) (.lit (.d (.int .u8 192)))⟩,
  ⟨some 46, none, .pick (.tmp 41) (.lit (.d (.bool true))) (.tmp 45)⟩])
 (.cond (.tmp 46) (.seq (.ops [⟨some 2, none, .mv (.lit (.d (.int .i64 0)))⟩,
  ⟨some 3, none, .mv (.lit (.d (.int .i64 0)))⟩])
 .ret) .skip))
 (.ops [⟨some 47, none, .mv (.tmp 5)⟩,
  ⟨some 48, none, .bin .mul .plain (.tmp 47) (.lit (.d (.int .i64 64)))⟩,
  ⟨some 49, none, .mv (.tmp 0)⟩,
  ⟨some 50, none, .mv (.tmp 6)⟩,
  ⟨some 51, none, .idxS (.tmp 49) (.tmp 50)⟩,
  ⟨some 52, none, .conv (.int .i64) (.tmp 51)⟩,
  ⟨some 53, none, .bin .rem .plain (.tmp 52) (.lit (.d (.int .i64 64)))⟩,
  ⟨some 54, none, .bin .add .plain (.tmp 48) (.tmp 53)⟩,
  ⟨some 5, none, .mv (.tmp 54)⟩])))
 (.ops [⟨some 35, none, .mv (.tmp 6)⟩,
  ⟨some 36, none, .bin .add .plain (.tmp 35) (.lit (.d (.int .i64 1)))⟩,
  ⟨some 6, none, .mv (.tmp 36)⟩]))))))
 (.seq (.ops [⟨some 55, none, .mkslice false 1 5 [(.d (.int .i64 0))] [(0, 1, (.lit (.d (.int .i64 0)))), (1, 1, (.lit (.d (.int .i64 0)))), (2, 1, (.lit (.d (.int .i64 128)))), (3, 1, (.lit (.d (.int .i64 2048)))), (4, 1, (.lit (.d (.int .i64 65536))))]⟩,
  ⟨some 56, none, .mv (.tmp 4)⟩,
  ⟨some 57, none, .iaddr none 1 (.tmp 55) (.tmp 56)⟩,
  ⟨some 58, none, .load false 1 (.tmp 57)⟩,
  ⟨some 7, none, .mv (.tmp 58)⟩])
 (.seq (.seq (.ops [⟨some 59, none, .mv (.tmp 5)⟩,
  ⟨some 60, none, .mv (.tmp 7)⟩,
  ⟨some 61, none, .bin .lss .plain (.tmp 59) (.tmp 60)⟩,
  ⟨some 62, none, .mv (.tmp 61)⟩,
  ⟨some 63, some (62, false), .mv (.tmp 5)⟩,
  ⟨some 64, some (62, false), .bin .gtr .plain (.tmp 63) (.lit (.d (.int .i64 1114111)))⟩,
  ⟨some 65, none, .pick (.tmp 62) (.lit (.d (.bool true))) (.tmp 64)⟩,
  ⟨some 66, none, .mv (.tmp 65)⟩,
  ⟨some 67, some (66, false), .mv (.tmp 5)⟩,
  ⟨some 68, some (66, false), .bin .geq .plain (.tmp 67) (.lit (.d (.int .i64 55296)))⟩,
  ⟨some 69, some (66, false), .mv (.tmp 68)⟩,
  ⟨some 70, some (69, true), .mv (.tmp 5)⟩,
  ⟨some 71, some (69, true), .bin .lss .plain (.tmp 70) (.lit (.d (.int .i64 57344)))⟩,
  ⟨some 72, some (66, false), .pick (.tmp 69) (.tmp 71) (.lit (.d (.bool false)))⟩,
  ⟨some 73, none, .pick (.tmp 66) (.lit (.d (.bool true))) (.tmp 72)⟩])
 (.cond (.tmp 73) (.seq (.ops [⟨some 2, none, .mv (.lit (.d (.int .i64 0)))⟩,
  ⟨some 3, none, .mv (.lit (.d (.int .i64 0)))⟩])
 .ret) .skip))
 (.seq (.ops [⟨some 74, none, .mv (.tmp 5)⟩,
  ⟨some 75, none, .mv (.tmp 4)⟩,
  ⟨some 2, none, .mv (.tmp 74)⟩,
  ⟨some 3, none, .mv (.tmp 75)⟩])
 .ret)))))))))⟩
theorem isA_r06_rune1 : isF Try.prog n_r06_rune1 A_r06_rune1 := ⟨Try.f113, _, Try.func113, by decide +kernel, rfl, by kernel_rfl, by kernel_rfl, by decide, by kernel_rfl, rfl, by kernel_rfl⟩
/-- bulla/bullaref06.size -/
def A_r06_size : AF := ⟨1, 27, [(.tmp 2)],
 (.seq (.ops [⟨some 2, none, .mv (.lit (.d (.int .i64 0)))⟩])
 (.seq (.block 0 (.seq (.ops [⟨some 4, none, .mv (.tmp 0)⟩,
  ⟨some 5, none, .bin .lss .plain (.tmp 4) (.lit (.d (.int .u8 128)))⟩,
  ⟨some 3, none, .mv (.tmp 5)⟩])
 (.cond (.tmp 3) (.seq (.ops [⟨some 2, none, .mv (.lit (.d (.int .i64 1)))⟩])
 .ret) (.seq (.ops [⟨some 7, none, .mv (.tmp 0)⟩,
  ⟨some 8, none, .bin .geq .plain (.tmp 7) (.lit (.d (.int .u8 194)))⟩,
  ⟨some 9, none, .mv (.tmp 8)⟩,
  ⟨some 10, some (9, true), .mv (.tmp 0)⟩,
  ⟨some 11, some (9, true), .bin .lss .plain (.tmp 10) (.lit (.d (.int .u8 224)))⟩,
  ⟨some 12, none, .pick (.tmp 9) (.tmp 11) (.lit (.d (.bool false)))⟩,
  ⟨some 6, none, .mv (.tmp 12)⟩])
 (.cond (.tmp 6) (.seq (.ops [⟨some 2, none, .mv (.lit (.d (.int .i64 2)))⟩])
 .ret) (.seq (.ops [⟨some 14, none, .mv (.tmp 0)⟩,
  ⟨some 15, none, .bin .geq .plain (.tmp 14) (.lit (.d (.int .u8 224)))⟩,
  ⟨some 16, none, .mv (.tmp 15)⟩,
  ⟨some 17, some (16, true), .mv (.tmp 0)⟩,
  ⟨some 18, some (16, true), .bin .lss .plain (.tmp 17) (.lit (.d (.int .u8 240)))⟩,
  ⟨some 19, none, .pick (.tmp 16) (.tmp 18) (.lit (.d (.bool false)))⟩,
  ⟨some 13, none, .mv (.tmp 19)⟩])
 (.cond (.tmp 13) (.seq (.ops [⟨some 2, none, .mv (.lit (.d (.int .i64 3)))⟩])
 .ret) (.seq (.ops [⟨some 21, none, .mv (.tmp 0)⟩,
  ⟨some 22, none, .bin .geq .plain (.tmp 21) (.lit (.d (.int .u8 240)))⟩,
  ⟨some 23, none, .mv (.tmp 22)⟩,
  ⟨some 24, some (23, true), .mv (.tmp 0)⟩,
  ⟨some 25, some (23, true), .bin .lss .plain (.tmp 24) (.lit (.d (.int .u8 245)))⟩,
  ⟨some 26, none, .pick (.tmp 23) (.tmp 25) (.lit (.d (.bool false)))⟩,
  ⟨some 20, none, .mv (.tmp 26)⟩])
 (.cond (.tmp 20) (.seq (.ops [⟨some 2, none, .mv (.lit (.d (.int .i64 4)))⟩])
 .ret) .skip)))))))))
 (.seq (.ops [⟨some 2, none, .mv (.lit (.d (.int .i64 0)))⟩])
 .ret)))⟩
theorem isA_r06_size : isF Try.prog n_r06_size A_r06_size := ⟨Try.f114, _, Try.func114, by decide +kernel, rfl, by kernel_rfl, by kernel_rfl, by decide, by kernel_rfl, rfl, by kernel_rfl⟩
end Go.Proofs.Ythmdpooklflkfaa

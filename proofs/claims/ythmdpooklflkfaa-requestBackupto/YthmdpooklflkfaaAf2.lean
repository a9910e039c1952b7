/- Resolved forms, each with the theorem that it is its function's. Printed by program. -/
import Derived.Test.YthmdpooklflkfaaNm
import Derived.KernelRfl
set_option linter.all false
set_option maxRecDepth 100000
set_option linter.unusedVariables false
namespace Go.Proofs.Ythmdpooklflkfaa
open Go.AW
/-- bulla/bullaref08.Same -/
def A_r08_Same : AF := ⟨2, 42, [(.tmp 4)],
 (.seq (.ops [⟨some 4, none, .mv (.lit (.d (.bool false)))⟩])
 (.seq (.seq (.ops [⟨some 6, none, .mv (.tmp 0)⟩,
  ⟨some 7, none, .len .sl (.tmp 6)⟩,
  ⟨some 8, none, .mv (.tmp 1)⟩,
  ⟨some 9, none, .len .sl (.tmp 8)⟩,
  ⟨some 10, none, .bin .neq .plain (.tmp 7) (.tmp 9)⟩])
 (.cond (.tmp 10) (.seq (.ops [⟨some 4, none, .mv (.lit (.d (.bool false)))⟩])
 .ret) .skip))
 (.seq (.seq (.ops [⟨some 5, none, .mv (.lit (.d (.int .i64 0)))⟩])
 (.block 0 (.loop [5] [4, 11, 12, 13, 14, 15, 16, 17, 18, 19, 20, 21, 22, 23, 24, 25, 26, 27, 28, 29, 30, 31, 32, 33, 34, 35, 36, 37, 38, 39, 40, 41] (.seq (.seq (.ops [⟨some 11, none, .mv (.tmp 5)⟩,
  ⟨some 12, none, .mv (.tmp 0)⟩,
  ⟨some 13, none, .len .sl (.tmp 12)⟩,
  ⟨some 14, none, .bin .lss .plain (.tmp 11) (.tmp 13)⟩])
 (.cond (.tmp 14) .skip (.exit 0)))
 (.seq (.block 1 (.seq (.draw [⟨some 17, none, .mv (.tmp 0)⟩,
  ⟨some 18, none, .mv (.tmp 5)⟩,
  ⟨some 19, none, .iaddr none 9 (.tmp 17) (.tmp 18)⟩,
  ⟨some 20, none, .faddr 7 (.tmp 19)⟩,
  ⟨some 21, none, .load true 2 (.tmp 20)⟩,
  ⟨some 22, none, .mv (.tmp 1)⟩,
  ⟨some 23, none, .mv (.tmp 5)⟩,
  ⟨some 24, none, .iaddr none 9 (.tmp 22) (.tmp 23)⟩,
  ⟨some 25, none, .faddr 7 (.tmp 24)⟩,
  ⟨some 26, none, .load true 2 (.tmp 25)⟩,
  ⟨some 27, none, .bin .neq (.ints 2) (.tmp 21) (.tmp 26)⟩,
  ⟨some 28, none, .mv (.tmp 27)⟩,
  ⟨some 29, some (28, false), .mv (.tmp 0)⟩,
  ⟨some 30, some (28, false), .mv (.tmp 5)⟩,
  ⟨some 31, some (28, false), .iaddr none 9 (.tmp 29) (.tmp 30)⟩,
  ⟨some 32, some (28, false), .faddr 0 (.tmp 31)⟩,
  ⟨some 33, some (28, false), .load true 7 (.tmp 32)⟩,
  ⟨some 34, some (28, false), .mv (.tmp 1)⟩,
  ⟨some 35, some (28, false), .mv (.tmp 5)⟩,
  ⟨some 36, some (28, false), .iaddr none 9 (.tmp 34) (.tmp 35)⟩,
  ⟨some 37, some (28, false), .faddr 0 (.tmp 36)⟩,
  ⟨some 38, some (28, false), .load true 7 (.tmp 37)⟩,
  ⟨some 39, some (28, false), .call false 41 [(.tmp 33), (.tmp 38)]⟩,
  ⟨some 40, some (28, false), .un .not (.tmp 39)⟩,
  ⟨some 41, none, .pick (.tmp 28) (.lit (.d (.bool true))) (.tmp 40)⟩] [[], [], [0, 1], [2], [3], [], [], [5, 6], [7], [8], [4, 9], [10], [11], [11], [12, 13, 11], [14, 11], [15, 11], [11], [11], [17, 18, 11], [19, 11], [20, 11], [16, 21, 11, 11], [22, 11], [11, 23]] [(0, []), (1, []), (2, []), (3, []), (4, []), (5, []), (6, []), (7, []), (8, []), (9, []), (10, []), (11, []), (12, []), (13, []), (14, []), (15, []), (16, []), (17, []), (18, []), (19, []), (20, []), (21, []), (22, []), (23, []), (24, [])] [0, 0, 3, 7, 15, 0, 0, 96, 224, 480, 1023, 2047, 4095, 4095, 16383, 32767, 65535, 4095, 4095, 397311, 921599, 1970175, 4194303, 8388607, 16777215])
 (.cond (.tmp 41) (.seq (.ops [⟨some 4, none, .mv (.lit (.d (.bool false)))⟩])
 .ret) .skip)))
 (.ops [⟨some 15, none, .mv (.tmp 5)⟩,
  ⟨some 16, none, .bin .add .plain (.tmp 15) (.lit (.d (.int .i64 1)))⟩,
  ⟨some 5, none, .mv (.tmp 16)⟩]))))))
 (.seq (.ops [⟨some 4, none, .mv (.lit (.d (.bool true)))⟩])
 .ret))))⟩
theorem isA_r08_Same : isF Try.prog n_r08_Same A_r08_Same := ⟨Try.f19, _, Try.func19, by decide +kernel, rfl, by kernel_rfl, by kernel_rfl, by decide, by kernel_rfl, rfl, by kernel_rfl⟩
/-- bulla/request.Bytes -/
def A_request_Bytes : AF := ⟨1, 21, [(.tmp 2), (.tmp 3)],
 (.seq (.ops [⟨some 1, none, .boxi (.tmp 0)⟩,
  ⟨some 2, none, .mv (.lit (.exact []))⟩,
  ⟨some 3, none, .mv (.lit (.d (.int .i64 0)))⟩])
 (.seq (.seq (.ops [⟨some 5, none, .load true 7 (.tmp 1)⟩,
  ⟨some 6, none, .call false 10 [(.tmp 5)]⟩,
  ⟨some 4, none, .mv (.tmp 6)⟩])
 (.seq (.ops [⟨some 7, none, .mv (.tmp 4)⟩,
  ⟨some 8, none, .bin .neq .plain (.tmp 7) (.lit (.d (.int .i64 0)))⟩])
 (.cond (.tmp 8) (.seq (.ops [⟨some 9, none, .mv (.tmp 4)⟩,
  ⟨some 2, none, .mv (.lit (.exact []))⟩,
  ⟨some 3, none, .mv (.tmp 9)⟩])
 .ret) .skip)))
 (.seq (.draw [⟨some 10, none, .faddr 0 (.tmp 1)⟩,
  ⟨some 11, none, .load false 1 (.tmp 10)⟩,
  ⟨some 12, none, .conv (.int .u64) (.tmp 11)⟩,
  ⟨some 13, none, .call false 59 [(.lit (.exact [])), (.tmp 12)]⟩,
  ⟨some 14, none, .faddr 1 (.tmp 1)⟩,
  ⟨some 15, none, .load false 1 (.tmp 14)⟩,
  ⟨some 16, none, .conv (.int .u64) (.tmp 15)⟩,
  ⟨some 17, none, .call false 59 [(.tmp 13), (.tmp 16)]⟩,
  ⟨some 18, none, .faddr 2 (.tmp 1)⟩,
  ⟨some 19, none, .load true 5 (.tmp 18)⟩,
  ⟨some 20, none, .call false 58 [(.tmp 17), (.tmp 19)]⟩,
  ⟨some 2, none, .mv (.tmp 20)⟩,
  ⟨some 3, none, .mv (.lit (.d (.int .i64 0)))⟩] [[], [0], [1], [2], [], [4], [5], [3, 6, 3], [], [8], [7, 9, 7], [10, 10, 0, 1, 2, 3, 4, 5, 6, 7, 8, 9, 10], [11, 0, 1, 2, 3, 4, 5, 6, 7, 8, 9, 10, 11]] [(0, []), (1, []), (2, []), (4, []), (5, []), (6, []), (8, []), (9, []), (3, [14, 18]), (7, [18]), (10, []), (11, []), (12, [])] [0, 1, 3, 7, 0, 16, 48, 127, 0, 256, 1023, 2047, 4095])
 .ret)))⟩
theorem isA_request_Bytes : isF Try.prog n_request_Bytes A_request_Bytes := ⟨Try.f21, _, Try.func21, by decide +kernel, rfl, by kernel_rfl, by kernel_rfl, by decide, by kernel_rfl, rfl, by kernel_rfl⟩
/-- slices.Clone[[]byte,byte] -/
def A_slices_Clone_byte_byte : AF := ⟨1, 8, [(.tmp 2)],
 (.seq (.ops [⟨some 2, none, .mv (.lit (.exact []))⟩])
 (.seq (.seq (.ops [⟨some 3, none, .mv (.tmp 0)⟩,
  ⟨some 4, none, .isnil false (.tmp 3)⟩])
 (.cond (.tmp 4) (.seq (.ops [⟨some 2, none, .mv (.lit (.exact []))⟩])
 .ret) .skip))
 (.seq (.ops [⟨some 5, none, .mkslice false 1 0 [(.d (.int .u8 0))] []⟩,
  ⟨some 6, none, .mv (.tmp 0)⟩,
  ⟨some 7, none, .append false 1 1 [(.d (.int .u8 0))] (.tmp 5) (.tmp 6)⟩,
  ⟨some 2, none, .mv (.tmp 7)⟩])
 .ret)))⟩
theorem isA_slices_Clone_byte_byte : isF Try.prog n_slices_Clone_byte_byte A_slices_Clone_byte_byte := ⟨Try.f23, _, Try.func23, by decide +kernel, rfl, by kernel_rfl, by kernel_rfl, by decide, by kernel_rfl, rfl, by kernel_rfl⟩
/-- bytes.Equal -/
def A_bytes_Equal : AF := ⟨2, 10, [(.tmp 4)],
 (.seq (.ops [⟨some 4, none, .mv (.lit (.d (.bool false)))⟩])
 (.seq (.ops [⟨some 5, none, .mv (.tmp 0)⟩,
  ⟨some 6, none, .conv .toStr (.tmp 5)⟩,
  ⟨some 7, none, .mv (.tmp 1)⟩,
  ⟨some 8, none, .conv .toStr (.tmp 7)⟩,
  ⟨some 9, none, .bin .eql .plain (.tmp 6) (.tmp 8)⟩,
  ⟨some 4, none, .mv (.tmp 9)⟩])
 .ret))⟩
theorem isA_bytes_Equal : isF Try.prog n_bytes_Equal A_bytes_Equal := ⟨Try.f24, _, Try.func24, by decide +kernel, rfl, by kernel_rfl, by kernel_rfl, by decide, by kernel_rfl, rfl, by kernel_rfl⟩
/-- bulla/request.PutSign -/
def A_request_PutSign : AF := ⟨2, 19, [(.tmp 4)],
 (.seq (.ops [⟨some 3, none, .boxi (.tmp 1)⟩,
  ⟨some 4, none, .mv (.lit (.exact []))⟩])
 (.seq (.seq (.ops [⟨some 5, none, .load true 2 (.tmp 3)⟩,
  ⟨some 6, none, .call false 12 [(.tmp 5)]⟩,
  ⟨some 7, none, .bin .neq .plain (.tmp 6) (.lit (.d (.int .i64 0)))⟩])
 (.cond (.tmp 7) (.seq (.ops [⟨some 8, none, .mv (.tmp 0)⟩,
  ⟨some 9, none, .call false 62 [(.tmp 8)]⟩,
  ⟨some 4, none, .mv (.tmp 9)⟩])
 .ret) .skip))
 (.seq (.draw [⟨some 10, none, .mv (.tmp 0)⟩,
  ⟨some 11, none, .faddr 0 (.tmp 3)⟩,
  ⟨some 12, none, .load false 1 (.tmp 11)⟩,
  ⟨some 13, none, .conv (.int .u64) (.tmp 12)⟩,
  ⟨some 14, none, .call false 59 [(.tmp 10), (.tmp 13)]⟩,
  ⟨some 15, none, .faddr 1 (.tmp 3)⟩,
  ⟨some 16, none, .load false 1 (.tmp 15)⟩,
  ⟨some 17, none, .conv (.int .u64) (.tmp 16)⟩,
  ⟨some 18, none, .call false 59 [(.tmp 14), (.tmp 17)]⟩,
  ⟨some 4, none, .mv (.tmp 18)⟩] [[], [], [1], [2], [0, 3], [], [5], [6], [4, 7, 4], [8, 8, 0, 1, 2, 3, 4, 5, 6, 7, 8]] [(0, []), (1, []), (2, []), (3, []), (5, []), (6, []), (7, []), (4, [15]), (8, []), (9, [])] [0, 0, 2, 6, 15, 0, 32, 96, 255, 511])
 .ret)))⟩
theorem isA_request_PutSign : isF Try.prog n_request_PutSign A_request_PutSign := ⟨Try.f25, _, Try.func25, by decide +kernel, rfl, by kernel_rfl, by kernel_rfl, by decide, by kernel_rfl, rfl, by kernel_rfl⟩
/-- bulla/request.PutBatch -/
def A_request_PutBatch : AF := ⟨2, 16, [(.tmp 4)],
 (.seq (.ops [⟨some 4, none, .mv (.lit (.exact []))⟩])
 (.seq (.seq (.ops [⟨some 6, none, .mv (.tmp 1)⟩,
  ⟨some 7, none, .call false 14 [(.tmp 6)]⟩,
  ⟨some 8, none, .bin .neq .plain (.tmp 7) (.lit (.d (.int .i64 0)))⟩])
 (.cond (.tmp 8) (.seq (.ops [⟨some 9, none, .mv (.tmp 0)⟩,
  ⟨some 10, none, .call false 62 [(.tmp 9)]⟩,
  ⟨some 4, none, .mv (.tmp 10)⟩])
 .ret) .skip))
 (.seq (.ops [⟨some 11, none, .mv (.tmp 1)⟩,
  ⟨some 12, none, .mkfn (.func 63) [(.tmp 11)] []⟩,
  ⟨some 5, none, .mv (.tmp 12)⟩])
 (.seq (.ops [⟨some 13, none, .mv (.tmp 5)⟩,
  ⟨some 14, none, .mv (.tmp 0)⟩,
  ⟨some 15, none, .callv (.tmp 13) [(.tmp 14)]⟩,
  ⟨some 4, none, .mv (.tmp 15)⟩])
 .ret))))⟩
theorem isA_request_PutBatch : isF Try.prog n_request_PutBatch A_request_PutBatch := ⟨Try.f27, _, Try.func27, by decide +kernel, rfl, by kernel_rfl, by kernel_rfl, by decide, by kernel_rfl, rfl, by kernel_rfl⟩
/-- bulla/ideal.NewTable -/
def A_ideal_NewTable : AF := ⟨0, 4, [(.tmp 0)],
 (.seq (.ops [⟨some 0, none, .mv (.lit (.d .nilp))⟩])
 (.seq (.ops [⟨some 1, none, .mkmap⟩,
  ⟨some 2, none, .build [(.exact []), (.d .nilmap)] [(1, 1, (.tmp 1))]⟩,
  ⟨some 3, none, .boxi (.tmp 2)⟩,
  ⟨some 0, none, .mv (.tmp 3)⟩])
 .ret))⟩
theorem isA_ideal_NewTable : isF Try.prog n_ideal_NewTable A_ideal_NewTable := ⟨Try.f29, _, Try.func29, by decide +kernel, rfl, by kernel_rfl, by kernel_rfl, by decide, by kernel_rfl, rfl, by kernel_rfl⟩
/-- bulla/ideal.NewLedger -/
def A_ideal_NewLedger : AF := ⟨0, 4, [(.tmp 0)],
 (.seq (.ops [⟨some 0, none, .mv (.lit (.d .nilp))⟩])
 (.seq (.ops [⟨some 1, none, .mkmap⟩,
  ⟨some 2, none, .build [(.exact []), (.d .nilmap)] [(1, 1, (.tmp 1))]⟩,
  ⟨some 3, none, .boxi (.tmp 2)⟩,
  ⟨some 0, none, .mv (.tmp 3)⟩])
 .ret))⟩
theorem isA_ideal_NewLedger : isF Try.prog n_ideal_NewLedger A_ideal_NewLedger := ⟨Try.f30, _, Try.func30, by decide +kernel, rfl, by kernel_rfl, by kernel_rfl, by decide, by kernel_rfl, rfl, by kernel_rfl⟩
/-- bulla/request.Seal -/
def A_request_Seal : AF := ⟨3, 47, [(.cell 6 true 9), (.tmp 7)],
 (.seq (.ops [⟨some 5, none, .boxi (.tmp 2)⟩,
  ⟨some 6, none, .alloc [(.d (.int .i64 0)), (.d (.int .i64 0)), (.d (.int .i64 0)), (.d (.str [])), (.d (.str [])), (.d (.int .i64 0)), (.exact []), (.d (.int .i64 0)), (.d (.int .i64 0))]⟩,
  ⟨some 7, none, .mv (.lit (.d (.int .i64 0)))⟩])
 (.seq (.ops [⟨some 12, none, .load true 7 (.tmp 5)⟩,
  ⟨some 13, none, .call false 21 [(.tmp 12)]⟩,
  ⟨some 11, none, .mv (.tmp 13)⟩,
  ⟨some 14, none, .extract (.tmp 11) 0⟩,
  ⟨some 15, none, .extract (.tmp 11) 1⟩,
  ⟨some 8, none, .mv (.tmp 14)⟩,
  ⟨some 9, none, .mv (.tmp 15)⟩])
 (.seq (.seq (.ops [⟨some 16, none, .mv (.tmp 9)⟩,
  ⟨some 17, none, .bin .neq .plain (.tmp 16) (.lit (.d (.int .i64 0)))⟩])
 (.cond (.tmp 17) (.seq (.ops [⟨some 18, none, .build [(.d (.int .i64 0)), (.d (.int .i64 0)), (.d (.int .i64 0)), (.d (.str [])), (.d (.str [])), (.d (.int .i64 0)), (.exact []), (.d (.int .i64 0)), (.d (.int .i64 0))] []⟩,
  ⟨some 19, none, .mv (.tmp 9)⟩,
  ⟨none, none, .store 9 (.tmp 6) (.tmp 18)⟩,
  ⟨some 7, none, .mv (.tmp 19)⟩])
 .ret) .skip))
 (.seq (.seq (.ops [⟨some 20, none, .mv (.tmp 0)⟩,
  ⟨some 21, none, .mv (.tmp 1)⟩,
  ⟨some 22, none, .call false 65 [(.tmp 20), (.tmp 21)]⟩,
  ⟨some 23, none, .un .not (.tmp 22)⟩])
 (.cond (.tmp 23) (.seq (.ops [⟨some 24, none, .build [(.d (.int .i64 0)), (.d (.int .i64 0)), (.d (.int .i64 0)), (.d (.str [])), (.d (.str [])), (.d (.int .i64 0)), (.exact []), (.d (.int .i64 0)), (.d (.int .i64 0))] []⟩,
  ⟨none, none, .store 9 (.tmp 6) (.tmp 24)⟩,
  ⟨some 7, none, .mv (.lit (.d (.int .i64 2)))⟩])
 .ret) .skip))
 (.seq (.ops [⟨some 26, none, .mv (.tmp 1)⟩,
  ⟨some 27, none, .faddr 0 (.tmp 5)⟩,
  ⟨some 28, none, .load false 1 (.tmp 27)⟩,
  ⟨some 29, none, .call false 16 [(.tmp 28)]⟩,
  ⟨some 30, none, .mv (.tmp 0)⟩,
  ⟨some 31, none, .mv (.tmp 8)⟩,
  ⟨some 32, none, .call false 67 [(.tmp 30), (.tmp 31)]⟩,
  ⟨some 33, none, .call false 66 [(.tmp 26), (.tmp 29), (.tmp 32)]⟩,
  ⟨some 25, none, .mv (.tmp 33)⟩,
  ⟨some 34, none, .extract (.tmp 25) 0⟩,
  ⟨some 35, none, .extract (.tmp 25) 1⟩,
  ⟨some 10, none, .alloc [(.d (.int .i64 0)), (.d (.int .i64 0))]⟩,
  ⟨none, none, .store 2 (.tmp 10) (.tmp 34)⟩,
  ⟨some 9, none, .mv (.tmp 35)⟩])
 (.seq (.seq (.ops [⟨some 36, none, .mv (.tmp 9)⟩,
  ⟨some 37, none, .bin .neq .plain (.tmp 36) (.lit (.d (.int .i64 0)))⟩])
 (.cond (.tmp 37) (.seq (.ops [⟨some 38, none, .build [(.d (.int .i64 0)), (.d (.int .i64 0)), (.d (.int .i64 0)), (.d (.str [])), (.d (.str [])), (.d (.int .i64 0)), (.exact []), (.d (.int .i64 0)), (.d (.int .i64 0))] []⟩,
  ⟨some 39, none, .mv (.tmp 9)⟩,
  ⟨none, none, .store 9 (.tmp 6) (.tmp 38)⟩,
  ⟨some 7, none, .mv (.tmp 39)⟩])
 .ret) .skip))
 (.seq (.ops [⟨some 40, none, .faddr 2 (.tmp 5)⟩,
  ⟨some 41, none, .load true 5 (.tmp 40)⟩,
  ⟨some 42, none, .call false 57 [(.tmp 41)]⟩,
  ⟨some 43, none, .faddr 2 (.tmp 5)⟩,
  ⟨none, none, .store 5 (.tmp 43) (.tmp 42)⟩])
 (.seq (.ops [⟨some 44, none, .load true 7 (.tmp 5)⟩,
  ⟨some 45, none, .load true 2 (.tmp 10)⟩,
  ⟨some 46, none, .build [(.d (.int .i64 0)), (.d (.int .i64 0)), (.d (.int .i64 0)), (.d (.str [])), (.d (.str [])), (.d (.int .i64 0)), (.exact []), (.d (.int .i64 0)), (.d (.int .i64 0))] [(0, 7, (.tmp 44)), (7, 2, (.tmp 45))]⟩,
  ⟨none, none, .store 9 (.tmp 6) (.tmp 46)⟩,
  ⟨some 7, none, .mv (.lit (.d (.int .i64 0)))⟩])
 .ret))))))))⟩
theorem isA_request_Seal : isF Try.prog n_request_Seal A_request_Seal := ⟨Try.f31, _, Try.func31, by decide +kernel, rfl, by kernel_rfl, by kernel_rfl, by decide, by kernel_rfl, rfl, by kernel_rfl⟩
/-- bulla/request.Valid -/
def A_request_Valid : AF := ⟨3, 43, [(.tmp 6)],
 (.seq (.ops [⟨some 5, none, .boxi (.tmp 2)⟩,
  ⟨some 6, none, .mv (.lit (.d (.bool false)))⟩])
 (.seq (.ops [⟨some 12, none, .faddr 0 (.tmp 5)⟩,
  ⟨some 13, none, .load true 7 (.tmp 12)⟩,
  ⟨some 14, none, .call false 21 [(.tmp 13)]⟩,
  ⟨some 11, none, .mv (.tmp 14)⟩,
  ⟨some 15, none, .extract (.tmp 11) 0⟩,
  ⟨some 16, none, .extract (.tmp 11) 1⟩,
  ⟨some 7, none, .mv (.tmp 15)⟩,
  ⟨some 8, none, .mv (.tmp 16)⟩])
 (.seq (.seq (.ops [⟨some 17, none, .mv (.tmp 8)⟩,
  ⟨some 18, none, .bin .neq .plain (.tmp 17) (.lit (.d (.int .i64 0)))⟩])
 (.cond (.tmp 18) (.seq (.ops [⟨some 6, none, .mv (.lit (.d (.bool false)))⟩])
 .ret) .skip))
 (.seq (.ops [⟨some 20, none, .mv (.tmp 0)⟩,
  ⟨some 21, none, .mv (.tmp 7)⟩,
  ⟨some 22, none, .call false 68 [(.tmp 20), (.tmp 21)]⟩,
  ⟨some 19, none, .mv (.tmp 22)⟩,
  ⟨some 23, none, .extract (.tmp 19) 0⟩,
  ⟨some 24, none, .extract (.tmp 19) 1⟩,
  ⟨some 9, none, .mv (.tmp 23)⟩,
  ⟨some 10, none, .mv (.tmp 24)⟩])
 (.seq (.draw [⟨some 25, none, .mv (.tmp 10)⟩,
  ⟨some 26, none, .mv (.tmp 25)⟩,
  ⟨some 27, some (26, true), .faddr 7 (.tmp 5)⟩,
  ⟨some 28, some (26, true), .load true 2 (.tmp 27)⟩,
  ⟨some 29, some (26, true), .faddr 0 (.tmp 5)⟩,
  ⟨some 30, some (26, true), .faddr 0 (.tmp 29)⟩,
  ⟨some 31, some (26, true), .load false 1 (.tmp 30)⟩,
  ⟨some 32, some (26, true), .call false 16 [(.tmp 31)]⟩,
  ⟨some 33, some (26, true), .mv (.tmp 9)⟩,
  ⟨some 34, some (26, true), .build [(.d (.int .i64 0)), (.d (.int .i64 0))] [(0, 1, (.tmp 32)), (1, 1, (.tmp 33))]⟩,
  ⟨some 35, some (26, true), .bin .eql (.ints 2) (.tmp 28) (.tmp 34)⟩,
  ⟨some 36, none, .pick (.tmp 26) (.tmp 35) (.lit (.d (.bool false)))⟩,
  ⟨some 37, none, .mv (.tmp 36)⟩,
  ⟨some 38, some (37, true), .mv (.tmp 1)⟩,
  ⟨some 39, some (37, true), .faddr 7 (.tmp 5)⟩,
  ⟨some 40, some (37, true), .load true 2 (.tmp 39)⟩,
  ⟨some 41, some (37, true), .call false 69 [(.tmp 38), (.tmp 40)]⟩,
  ⟨some 42, none, .pick (.tmp 37) (.tmp 41) (.lit (.d (.bool false)))⟩,
  ⟨some 6, none, .mv (.tmp 42)⟩] [[], [0], [1], [2, 1], [1], [4, 1], [5, 1], [6, 1, 1], [1], [7, 8, 1], [3, 9, 1], [1, 10], [11, 7], [12], [12], [14, 12], [13, 15, 12, 12], [12, 16], [17, 16, 0, 1, 2, 3, 4, 5, 6, 7, 8, 9, 10, 11, 12, 13, 14, 15, 16, 17]] [(0, []), (1, []), (2, []), (3, []), (4, []), (5, []), (6, []), (8, []), (7, [27]), (9, []), (10, []), (11, []), (12, []), (13, []), (14, []), (15, []), (16, []), (17, []), (18, [])] [0, 1, 3, 7, 3, 19, 51, 115, 3, 499, 1023, 2047, 4095, 8191, 8191, 24575, 65535, 131071, 262143])
 .ret)))))⟩
theorem isA_request_Valid : isF Try.prog n_request_Valid A_request_Valid := ⟨Try.f32, _, Try.func32, by decide +kernel, rfl, by kernel_rfl, by kernel_rfl, by decide, by kernel_rfl, rfl, by kernel_rfl⟩
/-- bulla/request.Parse -/
def A_request_Parse : AF := ⟨1, 31, [(.cell 2 true 7), (.tmp 3)],
 (.seq (.ops [⟨some 2, none, .alloc [(.d (.int .i64 0)), (.d (.int .i64 0)), (.d (.int .i64 0)), (.d (.str [])), (.d (.str [])), (.d (.int .i64 0)), (.exact [])]⟩,
  ⟨some 3, none, .mv (.lit (.d (.int .i64 0)))⟩])
 (.seq (.ops [⟨some 7, none, .mv (.tmp 0)⟩,
  ⟨some 8, none, .call false 42 [(.tmp 7)]⟩,
  ⟨some 4, none, .mv (.tmp 8)⟩])
 (.seq (.ops [⟨some 9, none, .mv (.tmp 4)⟩,
  ⟨some 10, none, .call false 77 [(.tmp 9), (.lit (.d (.int .u64 7)))]⟩,
  ⟨some 11, none, .conv (.int .i64) (.tmp 10)⟩,
  ⟨some 12, none, .build [(.d (.int .i64 0)), (.d (.int .i64 0)), (.d (.int .i64 0)), (.d (.str [])), (.d (.str [])), (.d (.int .i64 0)), (.exact [])] [(0, 1, (.tmp 11))]⟩,
  ⟨some 5, none, .alloc [(.d (.int .i64 0)), (.d (.int .i64 0)), (.d (.int .i64 0)), (.d (.str [])), (.d (.str [])), (.d (.int .i64 0)), (.exact [])]⟩,
  ⟨none, none, .store 7 (.tmp 5) (.tmp 12)⟩])
 (.seq (.ops [⟨some 13, none, .mv (.tmp 4)⟩,
  ⟨some 14, none, .call false 77 [(.tmp 13), (.lit (.d (.int .u64 9007199254740992)))]⟩,
  ⟨some 15, none, .conv (.int .i64) (.tmp 14)⟩,
  ⟨some 16, none, .faddr 1 (.tmp 5)⟩,
  ⟨none, none, .store 1 (.tmp 16) (.tmp 15)⟩])
 (.seq (.ops [⟨some 17, none, .mv (.tmp 4)⟩,
  ⟨some 18, none, .call false 78 [(.tmp 17)]⟩,
  ⟨some 19, none, .faddr 2 (.tmp 5)⟩,
  ⟨none, none, .store 5 (.tmp 19) (.tmp 18)⟩])
 (.seq (.seq (.ops [⟨some 20, none, .mv (.tmp 4)⟩,
  ⟨some 21, none, .call false 50 [(.tmp 20)]⟩,
  ⟨some 6, none, .mv (.tmp 21)⟩])
 (.seq (.ops [⟨some 22, none, .mv (.tmp 6)⟩,
  ⟨some 23, none, .bin .neq .plain (.tmp 22) (.lit (.d (.int .i64 0)))⟩])
 (.cond (.tmp 23) (.seq (.ops [⟨some 24, none, .build [(.d (.int .i64 0)), (.d (.int .i64 0)), (.d (.int .i64 0)), (.d (.str [])), (.d (.str [])), (.d (.int .i64 0)), (.exact [])] []⟩,
  ⟨some 25, none, .mv (.tmp 6)⟩,
  ⟨none, none, .store 7 (.tmp 2) (.tmp 24)⟩,
  ⟨some 3, none, .mv (.tmp 25)⟩])
 .ret) .skip)))
 (.seq (.seq (.ops [⟨some 26, none, .faddr 1 (.tmp 5)⟩,
  ⟨some 27, none, .load false 1 (.tmp 26)⟩,
  ⟨some 28, none, .bin .eql .plain (.tmp 27) (.lit (.d (.int .i64 0)))⟩])
 (.cond (.tmp 28) (.seq (.ops [⟨some 29, none, .build [(.d (.int .i64 0)), (.d (.int .i64 0)), (.d (.int .i64 0)), (.d (.str [])), (.d (.str [])), (.d (.int .i64 0)), (.exact [])] []⟩,
  ⟨none, none, .store 7 (.tmp 2) (.tmp 29)⟩,
  ⟨some 3, none, .mv (.lit (.d (.int .i64 80)))⟩])
 .ret) .skip))
 (.seq (.ops [⟨some 30, none, .load true 7 (.tmp 5)⟩,
  ⟨none, none, .store 7 (.tmp 2) (.tmp 30)⟩,
  ⟨some 3, none, .mv (.lit (.d (.int .i64 0)))⟩])
 .ret))))))))⟩
theorem isA_request_Parse : isF Try.prog n_request_Parse A_request_Parse := ⟨Try.f39, _, Try.func39, by decide +kernel, rfl, by kernel_rfl, by kernel_rfl, by decide, by kernel_rfl, rfl, by kernel_rfl⟩
/-- bulla/bullaref08.SameRequest -/
def A_r08_SameRequest : AF := ⟨2, 24, [(.tmp 4)],
 (.seq (.ops [⟨some 2, none, .boxi (.tmp 0)⟩,
  ⟨some 3, none, .boxi (.tmp 1)⟩,
  ⟨some 4, none, .mv (.lit (.d (.bool false)))⟩])
 (.seq (.ops [⟨some 5, none, .faddr 0 (.tmp 2)⟩,
  ⟨some 6, none, .load false 1 (.tmp 5)⟩,
  ⟨some 7, none, .faddr 0 (.tmp 3)⟩,
  ⟨some 8, none, .load false 1 (.tmp 7)⟩,
  ⟨some 9, none, .bin .eql .plain (.tmp 6) (.tmp 8)⟩,
  ⟨some 10, none, .mv (.tmp 9)⟩,
  ⟨some 11, some (10, true), .faddr 1 (.tmp 2)⟩,
  ⟨some 12, some (10, true), .load false 1 (.tmp 11)⟩,
  ⟨some 13, some (10, true), .faddr 1 (.tmp 3)⟩,
  ⟨some 14, some (10, true), .load false 1 (.tmp 13)⟩,
  ⟨some 15, some (10, true), .bin .eql .plain (.tmp 12) (.tmp 14)⟩,
  ⟨some 16, none, .pick (.tmp 10) (.tmp 15) (.lit (.d (.bool false)))⟩,
  ⟨some 17, none, .mv (.tmp 16)⟩,
  ⟨some 18, some (17, true), .faddr 2 (.tmp 2)⟩,
  ⟨some 19, some (17, true), .load true 5 (.tmp 18)⟩,
  ⟨some 20, some (17, true), .faddr 2 (.tmp 3)⟩,
  ⟨some 21, some (17, true), .load true 5 (.tmp 20)⟩,
  ⟨some 22, some (17, true), .call false 82 [(.tmp 19), (.tmp 21)]⟩,
  ⟨some 23, none, .pick (.tmp 17) (.tmp 22) (.lit (.d (.bool false)))⟩,
  ⟨some 4, none, .mv (.tmp 23)⟩])
 .ret))⟩
theorem isA_r08_SameRequest : isF Try.prog n_r08_SameRequest A_r08_SameRequest := ⟨Try.f41, _, Try.func41, by decide +kernel, rfl, by kernel_rfl, by kernel_rfl, by decide, by kernel_rfl, rfl, by kernel_rfl⟩
/-- bulla/codec.Read -/
def A_codec_Read : AF := ⟨1, 7, [(.tmp 2)],
 (.seq (.ops [⟨some 2, none, .mv (.lit (.d .nilp))⟩])
 (.seq (.ops [⟨some 3, none, .mv (.tmp 0)⟩,
  ⟨some 4, none, .call false 23 [(.tmp 3)]⟩,
  ⟨some 5, none, .build [(.exact []), (.d (.int .i64 0)), (.d (.bool false))] [(0, 1, (.tmp 4)), (2, 1, (.lit (.d (.bool true))))]⟩,
  ⟨some 6, none, .boxi (.tmp 5)⟩,
  ⟨some 2, none, .mv (.tmp 6)⟩])
 .ret))⟩
theorem isA_codec_Read : isF Try.prog n_codec_Read A_codec_Read := ⟨Try.f42, _, Try.func42, by decide +kernel, rfl, by kernel_rfl, by kernel_rfl, by decide, by kernel_rfl, rfl, by kernel_rfl⟩
/-- bulla/request.TakeBatch -/
def A_request_TakeBatch : AF := ⟨1, 43, [(.tmp 2)],
 (.seq (.ops [⟨some 2, none, .mv (.lit (.exact []))⟩])
 (.seq (.ops [⟨some 3, none, .mv (.lit (.exact []))⟩])
 (.seq (.seq (.ops [⟨some 7, none, .mv (.tmp 0)⟩,
  ⟨some 8, none, .call false 77 [(.tmp 7), (.lit (.d (.int .u64 4)))]⟩,
  ⟨some 9, none, .mv (.lit (.d (.int .u64 0)))⟩])
 (.block 0 (.loop [3, 9] [2, 4, 5, 6, 10, 11, 12, 13, 14, 15, 16, 17, 18, 19, 20, 21, 22, 23, 24, 25, 26, 27, 28, 29, 30, 31] (.seq (.ops [⟨some 10, none, .bin .lss .plain (.tmp 9) (.tmp 8)⟩])
 (.seq (.cond (.tmp 10) .skip (.exit 0))
 (.seq (.block 1 (.seq (.ops [⟨some 11, none, .mv (.tmp 0)⟩,
  ⟨some 12, none, .call false 83 [(.tmp 11), (.lit (.d (.int .i64 1024)))]⟩,
  ⟨some 4, none, .mv (.tmp 12)⟩])
 (.seq (.seq (.ops [⟨some 13, none, .mv (.tmp 0)⟩,
  ⟨some 14, none, .call false 46 [(.tmp 13)]⟩,
  ⟨some 15, none, .bin .neq .plain (.tmp 14) (.lit (.d (.int .i64 0)))⟩])
 (.cond (.tmp 15) (.seq (.ops [⟨some 2, none, .mv (.lit (.exact []))⟩])
 .ret) .skip))
 (.seq (.ops [⟨some 17, none, .mv (.tmp 4)⟩,
  ⟨some 18, none, .call false 39 [(.tmp 17)]⟩,
  ⟨some 16, none, .mv (.tmp 18)⟩,
  ⟨some 19, none, .extract (.tmp 16) 0⟩,
  ⟨some 20, none, .extract (.tmp 16) 1⟩,
  ⟨some 5, none, .alloc [(.d (.int .i64 0)), (.d (.int .i64 0)), (.d (.int .i64 0)), (.d (.str [])), (.d (.str [])), (.d (.int .i64 0)), (.exact [])]⟩,
  ⟨none, none, .store 7 (.tmp 5) (.tmp 19)⟩,
  ⟨some 6, none, .mv (.tmp 20)⟩])
 (.seq (.ops [⟨some 21, none, .mv (.tmp 0)⟩,
  ⟨some 22, none, .mv (.tmp 6)⟩,
  ⟨some 23, none, .call false 84 [(.tmp 21), (.tmp 22)]⟩])
 (.draw [⟨some 24, none, .mv (.tmp 3)⟩,
  ⟨some 25, none, .load true 7 (.tmp 5)⟩,
  ⟨some 26, none, .mv (.tmp 0)⟩,
  ⟨some 27, none, .call false 47 [(.tmp 26)]⟩,
  ⟨some 28, none, .build [(.d (.int .i64 0)), (.d (.int .i64 0)), (.d (.int .i64 0)), (.d (.str [])), (.d (.str [])), (.d (.int .i64 0)), (.exact []), (.d (.int .i64 0)), (.d (.int .i64 0))] [(0, 7, (.tmp 25)), (7, 2, (.tmp 27))]⟩,
  ⟨some 29, none, .mkslice false 9 1 [(.d (.int .i64 0)), (.d (.int .i64 0)), (.d (.int .i64 0)), (.d (.str [])), (.d (.str [])), (.d (.int .i64 0)), (.exact []), (.d (.int .i64 0)), (.d (.int .i64 0))] [(0, 9, (.tmp 28))]⟩,
  ⟨some 30, none, .append false 9 104 [(.d (.int .i64 0)), (.d (.int .i64 0)), (.d (.int .i64 0)), (.d (.str [])), (.d (.str [])), (.d (.int .i64 0)), (.exact []), (.d (.int .i64 0)), (.d (.int .i64 0))] (.tmp 24) (.tmp 29)⟩,
  ⟨some 3, none, .mv (.tmp 30)⟩] [[], [], [], [2], [1, 3], [4], [0, 5, 3], [6, 6, 0, 1, 2, 3, 4, 5, 6]] [(0, []), (1, []), (2, []), (3, [5]), (4, []), (5, []), (6, []), (7, [])] [0, 0, 0, 4, 14, 30, 63, 127]))))))
 (.ops [⟨some 31, none, .bin .add .plain (.tmp 9) (.lit (.d (.int .u64 1)))⟩,
  ⟨some 9, none, .mv (.tmp 31)⟩])))))))
 (.seq (.seq (.ops [⟨some 32, none, .mv (.tmp 0)⟩,
  ⟨some 33, none, .call false 46 [(.tmp 32)]⟩,
  ⟨some 34, none, .bin .eql .plain (.tmp 33) (.lit (.d (.int .i64 0)))⟩])
 (.cond (.tmp 34) (.ops [⟨some 35, none, .mv (.tmp 0)⟩,
  ⟨some 36, none, .mv (.tmp 3)⟩,
  ⟨some 37, none, .call false 14 [(.tmp 36)]⟩,
  ⟨some 38, none, .call false 84 [(.tmp 35), (.tmp 37)]⟩]) .skip))
 (.seq (.seq (.ops [⟨some 39, none, .mv (.tmp 0)⟩,
  ⟨some 40, none, .call false 46 [(.tmp 39)]⟩,
  ⟨some 41, none, .bin .neq .plain (.tmp 40) (.lit (.d (.int .i64 0)))⟩])
 (.cond (.tmp 41) (.seq (.ops [⟨some 2, none, .mv (.lit (.exact []))⟩])
 .ret) .skip))
 (.seq (.ops [⟨some 42, none, .mv (.tmp 3)⟩,
  ⟨some 2, none, .mv (.tmp 42)⟩])
 .ret))))))⟩
theorem isA_request_TakeBatch : isF Try.prog n_request_TakeBatch A_request_TakeBatch := ⟨Try.f44, _, Try.func44, by decide +kernel, rfl, by kernel_rfl, by kernel_rfl, by decide, by kernel_rfl, rfl, by kernel_rfl⟩
/-- (*bulla/codec.Reader).Err -/
def A_codec_Reader_Err : AF := ⟨1, 16, [(.tmp 2)],
 (.seq (.ops [⟨some 2, none, .mv (.lit (.d (.int .i64 0)))⟩])
 (.seq (.seq (.ops [⟨some 3, none, .mv (.tmp 0)⟩,
  ⟨some 4, none, .bin .eql .ptr (.tmp 3) (.lit (.d .nilp))⟩,
  ⟨some 5, none, .mv (.tmp 4)⟩,
  ⟨some 6, some (5, false), .mv (.tmp 0)⟩,
  ⟨some 7, some (5, false), .nilchk (.tmp 6)⟩,
  ⟨some 8, some (5, false), .faddr 2 (.tmp 7)⟩,
  ⟨some 9, some (5, false), .load false 1 (.tmp 8)⟩,
  ⟨some 10, some (5, false), .un .not (.tmp 9)⟩,
  ⟨some 11, none, .pick (.tmp 5) (.lit (.d (.bool true))) (.tmp 10)⟩])
 (.cond (.tmp 11) (.seq (.ops [⟨some 2, none, .mv (.lit (.d (.int .i64 2)))⟩])
 .ret) .skip))
 (.seq (.ops [⟨some 12, none, .mv (.tmp 0)⟩,
  ⟨some 13, none, .nilchk (.tmp 12)⟩,
  ⟨some 14, none, .faddr 1 (.tmp 13)⟩,
  ⟨some 15, none, .load false 1 (.tmp 14)⟩,
  ⟨some 2, none, .mv (.tmp 15)⟩])
 .ret)))⟩
theorem isA_codec_Reader_Err : isF Try.prog n_codec_Reader_Err A_codec_Reader_Err := ⟨Try.f46, _, Try.func46, by decide +kernel, rfl, by kernel_rfl, by kernel_rfl, by decide, by kernel_rfl, rfl, by kernel_rfl⟩
end Go.Proofs.Ythmdpooklflkfaa

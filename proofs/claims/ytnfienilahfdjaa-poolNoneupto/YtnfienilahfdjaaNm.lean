/- The functions' numbers. Printed by program. -/
import Derived.Test.YtnfienilahfdjaaAwFun
import Derived.Test.YtnfienilahfdjaaAwTell
import Derived.Test.YtnfienilahfdjaaProg
set_option linter.all false
namespace Go.Proofs.Ytnfienilahfdjaa
abbrev n_l18_PoolNone : FuncId := 3
abbrev n_l18_begun : FuncId := 4
abbrev n_pool_Pool_Of : FuncId := 5
abbrev n_pool_Pool_Len : FuncId := 6
abbrev n_pool_Pool_Clone : FuncId := 7
abbrev n_pool_Pool_Put : FuncId := 8
abbrev n_pool_Pool_Done : FuncId := 9
abbrev n_pool_Pool_Waiting : FuncId := 10
abbrev n_pool_Pool_Pick : FuncId := 11
abbrev n_pool_Pool_Plain : FuncId := 12
abbrev n_pool_New : FuncId := 13
abbrev n_l18_signed : FuncId := 14
abbrev n_pool_Pool_none : FuncId := 15
abbrev n_pool_is : FuncId := 16
abbrev n_request_Clone : FuncId := 17
abbrev n_pool_From : FuncId := 18
abbrev n_request_CheckBatch : FuncId := 19
abbrev n_slices_Concat_api_Batch_api_Signed : FuncId := 20
abbrev n_pool_Pool_Pick_1 : FuncId := 21
abbrev n_slices_ContainsFunc_api_Batch_api_Signed : FuncId := 22
abbrev n_pool_Pool_Pick_1_1 : FuncId := 23
abbrev n_slices_ContainsFunc_api_Batch_api_Batch : FuncId := 24
abbrev n_op_Clone : FuncId := 25
abbrev n_request_Check : FuncId := 26
abbrev n_request_CheckSign : FuncId := 27
abbrev n_slices_Grow_api_Batch_api_Signed : FuncId := 28
abbrev n_slices_IndexFunc_api_Batch_api_Signed : FuncId := 29
abbrev n_slices_IndexFunc_api_Batch_api_Batch : FuncId := 30
abbrev n_bytes_Clone : FuncId := 31
abbrev n_op_Check : FuncId := 32
abbrev n_op_only : FuncId := 33
abbrev n_op_Check_1 : FuncId := 34
abbrev n_op_Same : FuncId := 35
abbrev n_op_Name : FuncId := 36
abbrev n_slices_ContainsFunc_api_Record_api_Record : FuncId := 37
abbrev n_slices_EqualFunc_api_Record_api_Record_api_Record_api_Record : FuncId := 38
abbrev n_op_Same_1 : FuncId := 39
abbrev n_bytes_Equal : FuncId := 40
abbrev n_op_Runes : FuncId := 41
abbrev n_slices_IndexFunc_api_Record_api_Record : FuncId := 42
def zl0 : List Go.AW.AV := [Go.AW.bF, Go.AW.eN, Go.AW.eN, Go.AW.eN, Go.AW.eN, Go.AW.eN, Go.AW.eN, Go.AW.eN, Go.AW.eN]
def zl1 : List Go.AW.AV := [Go.AW.iN 0, Go.AW.iN 0, Go.AW.iN 0, (.d (.str [])), (.d (.str [])), Go.AW.iN 0, Go.AW.eN, Go.AW.iN 0, Go.AW.iN 0]
def zl2 : List Go.AW.AV := [Go.AW.iN 0, (.d (.str [])), (.d (.str [])), Go.AW.iN 0, Go.AW.eN]
def zl3 : List Go.AW.AV := [Go.AW.iN 0, Go.AW.iN 0, Go.AW.iN 0, (.d (.str [])), (.d (.str [])), Go.AW.iN 0, Go.AW.eN]
end Go.Proofs.Ytnfienilahfdjaa

/- The functions' numbers. Printed by program. -/
import Derived.Test.YtfnnejokhikefaaAwRun
import Derived.Test.YtfnnejokhikefaaProg
set_option linter.all false
namespace Go.Proofs.Ytfnnejokhikefaa
/-- bulla/bullalaw18.PoolLatest -/
abbrev n_l18_PoolLatest : FuncId := 4
/-- bulla/pool.New -/
abbrev n_pool_New : FuncId := 8
/-- bulla/bullalaw18.begun -/
abbrev n_l18_begun : FuncId := 9
/-- (*bulla/pool.Pool).Put -/
abbrev n_pool_Pool_Put : FuncId := 10
/-- (*bulla/pool.Pool).Pick -/
abbrev n_pool_Pool_Pick : FuncId := 11
/-- bulla/bullaref08.CheckBatch -/
abbrev n_r08_CheckBatch : FuncId := 12
/-- (*bulla/pool.Pool).Waiting -/
abbrev n_pool_Pool_Waiting : FuncId := 13
/-- (*bulla/pool.Pool).Done -/
abbrev n_pool_Pool_Done : FuncId := 15
/-- (*bulla/pool.Pool).Of -/
abbrev n_pool_Pool_Of : FuncId := 16
/-- (*bulla/pool.Pool).Len -/
abbrev n_pool_Pool_Len : FuncId := 24
/-- bulla/bullalaw18.signed -/
abbrev n_l18_signed : FuncId := 26
/-- (*bulla/pool.Pool).none -/
abbrev n_pool_Pool_none : FuncId := 27
/-- bulla/request.CheckBatch -/
abbrev n_request_CheckBatch : FuncId := 28
/-- bulla/request.Clone -/
abbrev n_request_Clone : FuncId := 29
/-- (*bulla/pool.Pool).Pick$1 -/
abbrev n_pool_Pool_Pick_1 : FuncId := 30
/-- slices.ContainsFunc[bulla/api.Batch,bulla/api.Signed] -/
abbrev n_slices_ContainsFunc_api_Batch_api_Signed : FuncId := 31
/-- (*bulla/pool.Pool).Pick$1$1 -/
abbrev n_pool_Pool_Pick_1_1 : FuncId := 32
/-- slices.ContainsFunc[[]bulla/api.Batch,bulla/api.Batch] -/
abbrev n_slices_ContainsFunc_api_Batch_api_Batch : FuncId := 33
/-- bulla/bullaref08.Check -/
abbrev n_r08_Check : FuncId := 34
/-- bulla/bullaref08.CheckSign -/
abbrev n_r08_CheckSign : FuncId := 35
/-- slices.Concat[bulla/api.Batch,bulla/api.Signed] -/
abbrev n_slices_Concat_api_Batch_api_Signed : FuncId := 36
/-- bulla/pool.is -/
abbrev n_pool_is : FuncId := 38
/-- bulla/request.Check -/
abbrev n_request_Check : FuncId := 42
/-- bulla/request.CheckSign -/
abbrev n_request_CheckSign : FuncId := 43
/-- bulla/op.Clone -/
abbrev n_op_Clone : FuncId := 44
/-- slices.IndexFunc[bulla/api.Batch,bulla/api.Signed] -/
abbrev n_slices_IndexFunc_api_Batch_api_Signed : FuncId := 45
/-- slices.IndexFunc[[]bulla/api.Batch,bulla/api.Batch] -/
abbrev n_slices_IndexFunc_api_Batch_api_Batch : FuncId := 46
/-- bulla/bullaref08.Key -/
abbrev n_r08_Key : FuncId := 47
/-- bulla/bullaref06.Check -/
abbrev n_r06_Check : FuncId := 48
/-- slices.Grow[bulla/api.Batch,bulla/api.Signed] -/
abbrev n_slices_Grow_api_Batch_api_Signed : FuncId := 49
/-- bulla/op.Check -/
abbrev n_op_Check : FuncId := 51
/-- bytes.Clone -/
abbrev n_bytes_Clone : FuncId := 52
/-- bulla/bullaref06.fields -/
abbrev n_r06_fields : FuncId := 53
/-- bulla/bullaref06.Name -/
abbrev n_r06_Name : FuncId := 54
/-- bulla/op.only -/
abbrev n_op_only : FuncId := 55
/-- bulla/op.Check$1 -/
abbrev n_op_Check_1 : FuncId := 56
/-- bulla/op.Same -/
abbrev n_op_Same : FuncId := 57
/-- bulla/op.Name -/
abbrev n_op_Name : FuncId := 58
/-- slices.ContainsFunc[[]bulla/api.Record,bulla/api.Record] -/
abbrev n_slices_ContainsFunc_api_Record_api_Record : FuncId := 59
/-- bulla/bullaref06.Runes -/
abbrev n_r06_Runes : FuncId := 60
/-- slices.EqualFunc[[]bulla/api.Record,[]bulla/api.Record,bulla/api.Record,bulla/api.Record] -/
abbrev n_slices_EqualFunc_api_Record_api_Record_api_Record_api_Record : FuncId := 61
/-- bulla/op.Same$1 -/
abbrev n_op_Same_1 : FuncId := 62
/-- bytes.Equal -/
abbrev n_bytes_Equal : FuncId := 63
/-- bulla/op.Runes -/
abbrev n_op_Runes : FuncId := 64
/-- slices.IndexFunc[[]bulla/api.Record,bulla/api.Record] -/
abbrev n_slices_IndexFunc_api_Record_api_Record : FuncId := 65
/-- bulla/bullaref06.rune1 -/
abbrev n_r06_rune1 : FuncId := 66
/-- bulla/bullaref06.size -/
abbrev n_r06_size : FuncId := 67
end Go.Proofs.Ytfnnejokhikefaa

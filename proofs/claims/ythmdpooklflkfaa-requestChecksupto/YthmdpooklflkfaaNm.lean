/- The functions' numbers. Printed by program. -/
import Derived.Test.YthmdpooklflkfaaAwRun
import Derived.Test.YthmdpooklflkfaaProg
set_option linter.all false
namespace Go.Proofs.Ythmdpooklflkfaa
/-- bulla/bullalaw08.RequestChecks -/
abbrev n_l08_RequestChecks : FuncId := 3
/-- bulla/bullalaw08.begun -/
abbrev n_l08_begun : FuncId := 9
/-- bulla/request.Check -/
abbrev n_request_Check : FuncId := 10
/-- bulla/bullaref08.Check -/
abbrev n_r08_Check : FuncId := 11
/-- bulla/request.CheckSign -/
abbrev n_request_CheckSign : FuncId := 12
/-- bulla/bullaref08.CheckSign -/
abbrev n_r08_CheckSign : FuncId := 13
/-- bulla/request.CheckBatch -/
abbrev n_request_CheckBatch : FuncId := 14
/-- bulla/bullaref08.CheckBatch -/
abbrev n_r08_CheckBatch : FuncId := 15
/-- bulla/request.Key -/
abbrev n_request_Key : FuncId := 16
/-- bulla/bullaref08.Key -/
abbrev n_r08_Key : FuncId := 17
/-- bulla/request.Same -/
abbrev n_request_Same : FuncId := 18
/-- bulla/bullaref08.Same -/
abbrev n_r08_Same : FuncId := 19
/-- bulla/request.Clone -/
abbrev n_request_Clone : FuncId := 20
/-- bulla/request.Bytes -/
abbrev n_request_Bytes : FuncId := 21
/-- bytes.Equal -/
abbrev n_bytes_Equal : FuncId := 24
/-- bulla/ideal.NewTable -/
abbrev n_ideal_NewTable : FuncId := 29
/-- bulla/ideal.NewLedger -/
abbrev n_ideal_NewLedger : FuncId := 30
/-- bulla/request.Seal -/
abbrev n_request_Seal : FuncId := 31
/-- bulla/request.Valid -/
abbrev n_request_Valid : FuncId := 32
/-- bulla/bullaref08.SameRequest -/
abbrev n_r08_SameRequest : FuncId := 41
/-- bulla/bullalaw08.create -/
abbrev n_l08_create : FuncId := 51
/-- bulla/op.Check -/
abbrev n_op_Check : FuncId := 52
/-- bulla/bullaref06.Check -/
abbrev n_r06_Check : FuncId := 53
/-- slices.EqualFunc[bulla/api.Batch,bulla/api.Batch,bulla/api.Signed,bulla/api.Signed] -/
abbrev n_slices_EqualFunc_api_Batch_api_Batch_api_Signed_api_Signed : FuncId := 54
/-- bulla/request.Same$1 -/
abbrev n_request_Same_1 : FuncId := 55
/-- bulla/op.Same -/
abbrev n_op_Same : FuncId := 56
/-- bulla/op.Clone -/
abbrev n_op_Clone : FuncId := 57
/-- bulla/op.Put -/
abbrev n_op_Put : FuncId := 58
/-- bulla/codec.PutNum -/
abbrev n_codec_PutNum : FuncId := 59
/-- bytes.Clone -/
abbrev n_bytes_Clone : FuncId := 62
/-- bulla/request.made -/
abbrev n_request_made : FuncId := 65
/-- (*bulla/ideal.Ledger).Sign -/
abbrev n_ideal_Ledger_Sign : FuncId := 66
/-- (*bulla/ideal.Table).Sum -/
abbrev n_ideal_Table_Sum : FuncId := 67
/-- (*bulla/ideal.Table).Look -/
abbrev n_ideal_Table_Look : FuncId := 68
/-- (*bulla/ideal.Ledger).Signed -/
abbrev n_ideal_Ledger_Signed : FuncId := 69
/-- bulla/request.known -/
abbrev n_request_known : FuncId := 70
/-- bulla/bullaref06.Same -/
abbrev n_r06_Same : FuncId := 82
/-- bulla/op.only -/
abbrev n_op_only : FuncId := 88
/-- bulla/op.Check$1 -/
abbrev n_op_Check_1 : FuncId := 89
/-- bulla/op.Name -/
abbrev n_op_Name : FuncId := 90
/-- slices.ContainsFunc[[]bulla/api.Record,bulla/api.Record] -/
abbrev n_slices_ContainsFunc_api_Record_api_Record : FuncId := 91
/-- bulla/bullaref06.fields -/
abbrev n_r06_fields : FuncId := 92
/-- bulla/bullaref06.Name -/
abbrev n_r06_Name : FuncId := 93
/-- slices.EqualFunc[[]bulla/api.Record,[]bulla/api.Record,bulla/api.Record,bulla/api.Record] -/
abbrev n_slices_EqualFunc_api_Record_api_Record_api_Record_api_Record : FuncId := 94
/-- bulla/op.Same$1 -/
abbrev n_op_Same_1 : FuncId := 95
/-- bulla/codec.PutBytes -/
abbrev n_codec_PutBytes : FuncId := 96
/-- bulla/codec.form -/
abbrev n_codec_form : FuncId := 97
/-- slices.Clip[[]byte,byte] -/
abbrev n_slices_Clip_byte_byte : FuncId := 98
/-- (*bulla/ideal.Ledger).Len -/
abbrev n_ideal_Ledger_Len : FuncId := 99
/-- (*bulla/ideal.Ledger).Clone -/
abbrev n_ideal_Ledger_Clone : FuncId := 100
/-- (*bulla/ideal.Ledger).none -/
abbrev n_ideal_Ledger_none : FuncId := 101
/-- (*bulla/ideal.Table).none -/
abbrev n_ideal_Table_none : FuncId := 102
/-- (*bulla/ideal.Table).Len -/
abbrev n_ideal_Table_Len : FuncId := 103
/-- (*bulla/ideal.Table).Clone -/
abbrev n_ideal_Table_Clone : FuncId := 104
/-- bulla/op.Runes -/
abbrev n_op_Runes : FuncId := 109
/-- slices.IndexFunc[[]bulla/api.Record,bulla/api.Record] -/
abbrev n_slices_IndexFunc_api_Record_api_Record : FuncId := 110
/-- bulla/bullaref06.Runes -/
abbrev n_r06_Runes : FuncId := 111
/-- bulla/ideal.From -/
abbrev n_ideal_From : FuncId := 112
/-- bulla/bullaref06.rune1 -/
abbrev n_r06_rune1 : FuncId := 113
/-- bulla/bullaref06.size -/
abbrev n_r06_size : FuncId := 114
end Go.Proofs.Ythmdpooklflkfaa

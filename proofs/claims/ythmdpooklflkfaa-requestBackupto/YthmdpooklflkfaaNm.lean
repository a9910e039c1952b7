/- The functions' numbers. Printed by program. -/
import Derived.Test.YthmdpooklflkfaaAwRun
import Derived.Test.YthmdpooklflkfaaProg
set_option linter.all false
namespace Go.Proofs.Ythmdpooklflkfaa
/-- bulla/bullalaw08.RequestBack -/
abbrev n_l08_RequestBack : FuncId := 8
/-- bulla/bullalaw08.begun -/
abbrev n_l08_begun : FuncId := 9
/-- bulla/request.Check -/
abbrev n_request_Check : FuncId := 10
/-- bulla/request.CheckSign -/
abbrev n_request_CheckSign : FuncId := 12
/-- bulla/request.CheckBatch -/
abbrev n_request_CheckBatch : FuncId := 14
/-- bulla/request.Key -/
abbrev n_request_Key : FuncId := 16
/-- bulla/bullaref08.Same -/
abbrev n_r08_Same : FuncId := 19
/-- bulla/request.Bytes -/
abbrev n_request_Bytes : FuncId := 21
/-- slices.Clone[[]byte,byte] -/
abbrev n_slices_Clone_byte_byte : FuncId := 23
/-- bytes.Equal -/
abbrev n_bytes_Equal : FuncId := 24
/-- bulla/request.PutSign -/
abbrev n_request_PutSign : FuncId := 25
/-- bulla/request.PutBatch -/
abbrev n_request_PutBatch : FuncId := 27
/-- bulla/ideal.NewTable -/
abbrev n_ideal_NewTable : FuncId := 29
/-- bulla/ideal.NewLedger -/
abbrev n_ideal_NewLedger : FuncId := 30
/-- bulla/request.Seal -/
abbrev n_request_Seal : FuncId := 31
/-- bulla/request.Valid -/
abbrev n_request_Valid : FuncId := 32
/-- bulla/request.Parse -/
abbrev n_request_Parse : FuncId := 39
/-- bulla/bullaref08.SameRequest -/
abbrev n_r08_SameRequest : FuncId := 41
/-- bulla/codec.Read -/
abbrev n_codec_Read : FuncId := 42
/-- bulla/request.TakeBatch -/
abbrev n_request_TakeBatch : FuncId := 44
/-- (*bulla/codec.Reader).Err -/
abbrev n_codec_Reader_Err : FuncId := 46
/-- bulla/request.TakeSign -/
abbrev n_request_TakeSign : FuncId := 47
/-- (*bulla/codec.Reader).Left -/
abbrev n_codec_Reader_Left : FuncId := 49
/-- (*bulla/codec.Reader).Done -/
abbrev n_codec_Reader_Done : FuncId := 50
/-- bulla/bullalaw08.create -/
abbrev n_l08_create : FuncId := 51
/-- bulla/op.Check -/
abbrev n_op_Check : FuncId := 52
/-- bulla/bullaref06.Check -/
abbrev n_r06_Check : FuncId := 53
/-- bulla/op.Same -/
abbrev n_op_Same : FuncId := 56
/-- bulla/op.Clone -/
abbrev n_op_Clone : FuncId := 57
/-- bulla/op.Put -/
abbrev n_op_Put : FuncId := 58
/-- bulla/codec.PutNum -/
abbrev n_codec_PutNum : FuncId := 59
/-- bytes.Clone -/
abbrev n_bytes_Clone : FuncId := 62
/-- (bulla/request.parts).put -/
abbrev n_request_parts_put : FuncId := 63
/-- bulla/request.made -/
abbrev n_request_made : FuncId := 65
/-- (*bulla/ideal.Ledger).Sign -/
abbrev n_ideal_Ledger_Sign : FuncId := 66
/-- (*bulla/ideal.Table).Sum -/
abbrev n_ideal_Table_Sum : FuncId := 67
/-- (*bulla/ideal.Table).Look -/
abbrev n_ideal_Table_Look : FuncId := 68
/-- (*bulla/ideal.Ledger).Signed -/
abbrev n_ideal_Ledger_Signed : FuncId := 69
/-- bulla/request.known -/
abbrev n_request_known : FuncId := 70
/-- (*bulla/codec.Reader).Num -/
abbrev n_codec_Reader_Num : FuncId := 77
/-- bulla/op.Take -/
abbrev n_op_Take : FuncId := 78
/-- bulla/bullaref06.Same -/
abbrev n_r06_Same : FuncId := 82
/-- (*bulla/codec.Reader).Bytes -/
abbrev n_codec_Reader_Bytes : FuncId := 83
/-- (*bulla/codec.Reader).Fail -/
abbrev n_codec_Reader_Fail : FuncId := 84
/-- (*bulla/codec.Reader).stuck -/
abbrev n_codec_Reader_stuck : FuncId := 87
/-- bulla/op.only -/
abbrev n_op_only : FuncId := 88
/-- bulla/op.Check$1 -/
abbrev n_op_Check_1 : FuncId := 89
/-- bulla/op.Name -/
abbrev n_op_Name : FuncId := 90
/-- slices.ContainsFunc[[]bulla/api.Record,bulla/api.Record] -/
abbrev n_slices_ContainsFunc_api_Record_api_Record : FuncId := 91
/-- bulla/bullaref06.fields -/
abbrev n_r06_fields : FuncId := 92
/-- bulla/bullaref06.Name -/
abbrev n_r06_Name : FuncId := 93
/-- slices.EqualFunc[[]bulla/api.Record,[]bulla/api.Record,bulla/api.Record,bulla/api.Record] -/
abbrev n_slices_EqualFunc_api_Record_api_Record_api_Record_api_Record : FuncId := 94
/-- bulla/op.Same$1 -/
abbrev n_op_Same_1 : FuncId := 95
/-- bulla/codec.PutBytes -/
abbrev n_codec_PutBytes : FuncId := 96
/-- bulla/codec.form -/
abbrev n_codec_form : FuncId := 97
/-- slices.Clip[[]byte,byte] -/
abbrev n_slices_Clip_byte_byte : FuncId := 98
/-- (*bulla/ideal.Ledger).Len -/
abbrev n_ideal_Ledger_Len : FuncId := 99
/-- (*bulla/ideal.Ledger).Clone -/
abbrev n_ideal_Ledger_Clone : FuncId := 100
/-- (*bulla/ideal.Ledger).none -/
abbrev n_ideal_Ledger_none : FuncId := 101
/-- (*bulla/ideal.Table).none -/
abbrev n_ideal_Table_none : FuncId := 102
/-- (*bulla/ideal.Table).Len -/
abbrev n_ideal_Table_Len : FuncId := 103
/-- (*bulla/ideal.Table).Clone -/
abbrev n_ideal_Table_Clone : FuncId := 104
/-- (*bulla/codec.Reader).Take -/
abbrev n_codec_Reader_Take : FuncId := 107
/-- bulla/op.Runes -/
abbrev n_op_Runes : FuncId := 109
/-- slices.IndexFunc[[]bulla/api.Record,bulla/api.Record] -/
abbrev n_slices_IndexFunc_api_Record_api_Record : FuncId := 110
/-- bulla/bullaref06.Runes -/
abbrev n_r06_Runes : FuncId := 111
/-- bulla/ideal.From -/
abbrev n_ideal_From : FuncId := 112
/-- bulla/bullaref06.rune1 -/
abbrev n_r06_rune1 : FuncId := 113
/-- bulla/bullaref06.size -/
abbrev n_r06_size : FuncId := 114
end Go.Proofs.Ythmdpooklflkfaa

/- The functions' numbers. Printed by program. -/
import Derived.Test.YtahbjkanmagndaaAwRun
import Derived.Test.YtahbjkanmagndaaProg
set_option linter.all false
namespace Go.Proofs.Ytahbjkanmagndaa
/-- bulla/bullalaw06.OpChecks -/
abbrev n_l06_OpChecks : FuncId := 5
/-- bulla/bullalaw06.begun -/
abbrev n_l06_begun : FuncId := 9
/-- bulla/op.Name -/
abbrev n_op_Name : FuncId := 10
/-- bulla/bullaref06.Name -/
abbrev n_r06_Name : FuncId := 11
/-- bulla/op.Runes -/
abbrev n_op_Runes : FuncId := 12
/-- bulla/bullaref06.Runes -/
abbrev n_r06_Runes : FuncId := 13
/-- bulla/op.Bytes -/
abbrev n_op_Bytes : FuncId := 14
/-- bulla/bullaref06.Same -/
abbrev n_r06_Same : FuncId := 15
/-- bulla/op.Check -/
abbrev n_op_Check : FuncId := 17
/-- bulla/bullaref06.Check -/
abbrev n_r06_Check : FuncId := 18
/-- bulla/op.Same -/
abbrev n_op_Same : FuncId := 19
/-- bulla/op.Clone -/
abbrev n_op_Clone : FuncId := 20
/-- bytes.Equal -/
abbrev n_bytes_Equal : FuncId := 23
/-- bulla/op.Put -/
abbrev n_op_Put : FuncId := 24
/-- bulla/bullaref06.rune1 -/
abbrev n_r06_rune1 : FuncId := 38
/-- bulla/op.only -/
abbrev n_op_only : FuncId := 39
/-- bulla/op.Check$1 -/
abbrev n_op_Check_1 : FuncId := 40
/-- slices.ContainsFunc[[]bulla/api.Record,bulla/api.Record] -/
abbrev n_slices_ContainsFunc_api_Record_api_Record : FuncId := 41
/-- bulla/bullaref06.fields -/
abbrev n_r06_fields : FuncId := 42
/-- slices.EqualFunc[[]bulla/api.Record,[]bulla/api.Record,bulla/api.Record,bulla/api.Record] -/
abbrev n_slices_EqualFunc_api_Record_api_Record_api_Record_api_Record : FuncId := 43
/-- bulla/op.Same$1 -/
abbrev n_op_Same_1 : FuncId := 44
/-- bytes.Clone -/
abbrev n_bytes_Clone : FuncId := 45
/-- bulla/codec.PutNum -/
abbrev n_codec_PutNum : FuncId := 46
/-- bulla/codec.PutBytes -/
abbrev n_codec_PutBytes : FuncId := 47
/-- bulla/bullaref06.size -/
abbrev n_r06_size : FuncId := 59
/-- slices.IndexFunc[[]bulla/api.Record,bulla/api.Record] -/
abbrev n_slices_IndexFunc_api_Record_api_Record : FuncId := 60
/-- bulla/codec.form -/
abbrev n_codec_form : FuncId := 61
/-- slices.Clip[[]byte,byte] -/
abbrev n_slices_Clip_byte_byte : FuncId := 62
end Go.Proofs.Ytahbjkanmagndaa

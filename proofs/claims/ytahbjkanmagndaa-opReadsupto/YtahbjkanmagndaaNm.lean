/- The functions' numbers. Printed by program. -/
import Derived.Test.YtahbjkanmagndaaAwDraw
import Derived.Test.YtahbjkanmagndaaProg
set_option linter.all false
namespace Go.Proofs.Ytahbjkanmagndaa
/-- bulla/bullalaw06.OpNames -/
abbrev n_l06_OpNames : FuncId := 3
/-- bulla/bullalaw06.OpApart -/
abbrev n_l06_OpApart : FuncId := 4
/-- bulla/bullalaw06.OpChecks -/
abbrev n_l06_OpChecks : FuncId := 5
/-- bulla/bullalaw06.OpBytes -/
abbrev n_l06_OpBytes : FuncId := 6
/-- bulla/bullalaw06.OpBack -/
abbrev n_l06_OpBack : FuncId := 7
/-- bulla/bullalaw06.OpReads -/
abbrev n_l06_OpReads : FuncId := 8
/-- bulla/bullalaw06.begun -/
abbrev n_l06_begun : FuncId := 9
/-- bulla/op.Name -/
abbrev n_op_Name : FuncId := 10
/-- bulla/bullaref06.Name -/
abbrev n_r06_Name : FuncId := 11
/-- bulla/op.Runes -/
abbrev n_op_Runes : FuncId := 12
/-- bulla/bullaref06.Runes -/
abbrev n_r06_Runes : FuncId := 13
/-- bulla/op.Bytes -/
abbrev n_op_Bytes : FuncId := 14
/-- bulla/bullaref06.Same -/
abbrev n_r06_Same : FuncId := 15
/-- bytes.HasPrefix -/
abbrev n_bytes_HasPrefix : FuncId := 16
/-- bulla/op.Check -/
abbrev n_op_Check : FuncId := 17
/-- bulla/bullaref06.Check -/
abbrev n_r06_Check : FuncId := 18
/-- bulla/op.Same -/
abbrev n_op_Same : FuncId := 19
/-- bulla/op.Clone -/
abbrev n_op_Clone : FuncId := 20
/-- bulla/bullaref06.Bytes -/
abbrev n_r06_Bytes : FuncId := 21
/-- slices.Clone[[]byte,byte] -/
abbrev n_slices_Clone_byte_byte : FuncId := 22
/-- bytes.Equal -/
abbrev n_bytes_Equal : FuncId := 23
/-- bulla/op.Put -/
abbrev n_op_Put : FuncId := 24
/-- bulla/bullaref06.Put -/
abbrev n_r06_Put : FuncId := 25
/-- bulla/op.PutResult -/
abbrev n_op_PutResult : FuncId := 26
/-- bulla/bullaref06.PutResult -/
abbrev n_r06_PutResult : FuncId := 27
/-- bulla/op.Parse -/
abbrev n_op_Parse : FuncId := 28
/-- bulla/codec.Read -/
abbrev n_codec_Read : FuncId := 29
/-- bulla/op.Take -/
abbrev n_op_Take : FuncId := 30
/-- (*bulla/codec.Reader).Err -/
abbrev n_codec_Reader_Err : FuncId := 31
/-- (*bulla/codec.Reader).Left -/
abbrev n_codec_Reader_Left : FuncId := 32
/-- bulla/bullaref06.Parse -/
abbrev n_r06_Parse : FuncId := 33
/-- bulla/bullaref01.Read -/
abbrev n_r01_Read : FuncId := 34
/-- bulla/bullaref06.Take -/
abbrev n_r06_Take : FuncId := 35
/-- bulla/op.TakeResult -/
abbrev n_op_TakeResult : FuncId := 36
/-- bulla/bullaref06.TakeResult -/
abbrev n_r06_TakeResult : FuncId := 37
/-- bulla/bullaref06.rune1 -/
abbrev n_r06_rune1 : FuncId := 38
/-- bulla/op.only -/
abbrev n_op_only : FuncId := 39
/-- bulla/op.Check$1 -/
abbrev n_op_Check_1 : FuncId := 40
/-- slices.ContainsFunc[[]bulla/api.Record,bulla/api.Record] -/
abbrev n_slices_ContainsFunc_api_Record_api_Record : FuncId := 41
/-- bulla/bullaref06.fields -/
abbrev n_r06_fields : FuncId := 42
/-- slices.EqualFunc[[]bulla/api.Record,[]bulla/api.Record,bulla/api.Record,bulla/api.Record] -/
abbrev n_slices_EqualFunc_api_Record_api_Record_api_Record_api_Record : FuncId := 43
/-- bulla/op.Same$1 -/
abbrev n_op_Same_1 : FuncId := 44
/-- bytes.Clone -/
abbrev n_bytes_Clone : FuncId := 45
/-- bulla/codec.PutNum -/
abbrev n_codec_PutNum : FuncId := 46
/-- bulla/codec.PutBytes -/
abbrev n_codec_PutBytes : FuncId := 47
/-- bulla/bullaref01.PutNum -/
abbrev n_r01_PutNum : FuncId := 48
/-- bulla/bullaref01.PutBytes -/
abbrev n_r01_PutBytes : FuncId := 49
/-- (*bulla/codec.Reader).Done -/
abbrev n_codec_Reader_Done : FuncId := 50
/-- (*bulla/codec.Reader).Num -/
abbrev n_codec_Reader_Num : FuncId := 51
/-- (*bulla/codec.Reader).Bytes -/
abbrev n_codec_Reader_Bytes : FuncId := 52
/-- (*bulla/codec.Reader).Fail -/
abbrev n_codec_Reader_Fail : FuncId := 53
/-- (*bulla/codec.Reader).stuck -/
abbrev n_codec_Reader_stuck : FuncId := 54
/-- (*bulla/bullaref01.Reader).Done -/
abbrev n_r01_Reader_Done : FuncId := 55
/-- (*bulla/bullaref01.Reader).Num -/
abbrev n_r01_Reader_Num : FuncId := 56
/-- (*bulla/bullaref01.Reader).Bytes -/
abbrev n_r01_Reader_Bytes : FuncId := 57
/-- (*bulla/bullaref01.Reader).Fail -/
abbrev n_r01_Reader_Fail : FuncId := 58
/-- bulla/bullaref06.size -/
abbrev n_r06_size : FuncId := 59
/-- slices.IndexFunc[[]bulla/api.Record,bulla/api.Record] -/
abbrev n_slices_IndexFunc_api_Record_api_Record : FuncId := 60
/-- bulla/codec.form -/
abbrev n_codec_form : FuncId := 61
/-- slices.Clip[[]byte,byte] -/
abbrev n_slices_Clip_byte_byte : FuncId := 62
/-- (*bulla/codec.Reader).Take -/
abbrev n_codec_Reader_Take : FuncId := 63
/-- (*bulla/bullaref01.Reader).Take -/
abbrev n_r01_Reader_Take : FuncId := 64
end Go.Proofs.Ytahbjkanmagndaa

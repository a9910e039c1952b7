/- The functions' numbers. Printed by program. -/
import Derived.Test.YtaocmalhjfakdaaAwFun
import Derived.Test.YtaocmalhjfakdaaAwTell
import Derived.Test.YtaocmalhjfakdaaProg
set_option linter.all false
namespace Go.Proofs.Ytaocmalhjfakdaa
abbrev n_l07_TopicsStays : FuncId := 3
abbrev n_l07_live : FuncId := 8
abbrev n_topics_New : FuncId := 9
abbrev n_topics_Topics_Apply : FuncId := 10
abbrev n_topics_Topics_Bounds : FuncId := 11
abbrev n_topics_Topics_Get : FuncId := 12
abbrev n_l07_equal : FuncId := 13
abbrev n_bytes_Equal : FuncId := 15
abbrev n_topics_Topics_none : FuncId := 31
abbrev n_topics_Topics_does : FuncId := 32
abbrev n_topics_Topics_find : FuncId := 33
abbrev n_topics_topic_next : FuncId := 34
abbrev n_slices_Clone_api_Record_byte : FuncId := 35
abbrev n_op_Check : FuncId := 59
abbrev n_topics_Topics_create : FuncId := 60
abbrev n_topics_Topics_publish : FuncId := 61
abbrev n_topics_Topics_commit : FuncId := 62
abbrev n_topics_Topics_trim : FuncId := 63
abbrev n_op_Name : FuncId := 86
abbrev n_op_only : FuncId := 90
abbrev n_op_Check_1 : FuncId := 91
abbrev n_op_Same : FuncId := 92
abbrev n_slices_ContainsFunc_api_Record_api_Record : FuncId := 93
abbrev n_slices_Clone_api_Record_api_Record : FuncId := 94
abbrev n_op_Runes : FuncId := 102
abbrev n_slices_EqualFunc_api_Record_api_Record_api_Record_api_Record : FuncId := 103
abbrev n_op_Same_1 : FuncId := 104
abbrev n_slices_IndexFunc_api_Record_api_Record : FuncId := 105
@[reducible] def n_l07_TopicsOnce : FuncId := 4
@[reducible] def n_maps_Clone_map_string_int64_string_int64 : FuncId := 45
def zl0 : List Go.AW.AV := [Go.AW.iN 0, Go.AW.iN 0, Go.AW.iN 0, (.d (.str [])), (.d (.str [])), Go.AW.iN 0, Go.AW.eN]
def zl1 : List Go.AW.AV := [Go.AW.iN 0, (.d (.str [])), (.d (.str [])), Go.AW.iN 0, Go.AW.eN]
end Go.Proofs.Ytaocmalhjfakdaa

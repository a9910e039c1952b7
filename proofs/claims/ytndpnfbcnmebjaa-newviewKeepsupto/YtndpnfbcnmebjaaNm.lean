/- The functions' numbers. Printed by program. -/
import Derived.Test.YtndpnfbcnmebjaaAwDraw
import Derived.Test.YtndpnfbcnmebjaaProg
set_option linter.all false
namespace Go.Proofs.Ytndpnfbcnmebjaa
/-- bulla/bullalaw16.NewviewSelects -/
abbrev n_l16_NewviewSelects : FuncId := 3
/-- bulla/bullalaw16.NewviewGaps -/
abbrev n_l16_NewviewGaps : FuncId := 4
/-- bulla/bullalaw16.NewviewKeeps -/
abbrev n_l16_NewviewKeeps : FuncId := 5
/-- bulla/newview.Select -/
abbrev n_newview_Select : FuncId := 6
/-- bulla/bullaref16.Select -/
abbrev n_r16_Select : FuncId := 7
/-- bulla/bullalaw16.begun -/
abbrev n_l16_begun : FuncId := 8
/-- bulla/bullaref10.SameCert -/
abbrev n_r10_SameCert : FuncId := 9
/-- bulla/bullaref10.SameEntries -/
abbrev n_r10_SameEntries : FuncId := 10
/-- bulla/bullaref12.Check -/
abbrev n_r12_Check : FuncId := 11
/-- bulla/bullaref12.Many -/
abbrev n_r12_Many : FuncId := 12
/-- bulla/bullaref12.Brokers -/
abbrev n_r12_Brokers : FuncId := 13
/-- bulla/bullaref08.Same -/
abbrev n_r08_Same : FuncId := 14
/-- bulla/bullaref12.Has -/
abbrev n_r12_Has : FuncId := 15
/-- bulla/bullalaw16.tells -/
abbrev n_l16_tells : FuncId := 16
/-- bulla/bullaref12.Small -/
abbrev n_r12_Small : FuncId := 17
/-- bulla/bullaref12.Big -/
abbrev n_r12_Big : FuncId := 18
/-- slices.IndexFunc[[]bulla/api.Entry,bulla/api.Entry] -/
abbrev n_slices_IndexFunc_api_Entry_api_Entry : FuncId := 19
/-- bulla/bullalaw16.NewviewKeeps$1 -/
abbrev n_l16_NewviewKeeps_1 : FuncId := 20
/-- bulla/newview.may -/
abbrev n_newview_may : FuncId := 21
/-- bulla/request.Clone -/
abbrev n_request_Clone : FuncId := 22
/-- bulla/bullaref16.latest -/
abbrev n_r16_latest : FuncId := 23
/-- bulla/bullaref10.sameSigns -/
abbrev n_r10_sameSigns : FuncId := 24
/-- bulla/bullaref12.List -/
abbrev n_r12_List : FuncId := 25
/-- bulla/bullaref08.SameRequest -/
abbrev n_r08_SameRequest : FuncId := 26
/-- bulla/quorum.Check -/
abbrev n_quorum_Check : FuncId := 27
/-- bulla/quorum.Brokers -/
abbrev n_quorum_Brokers : FuncId := 28
/-- bulla/quorum.Big -/
abbrev n_quorum_Big : FuncId := 29
/-- bulla/op.Clone -/
abbrev n_op_Clone : FuncId := 30
/-- bulla/bullaref06.Same -/
abbrev n_r06_Same : FuncId := 31
/-- bulla/quorum.times -/
abbrev n_quorum_times : FuncId := 32
/-- bytes.Clone -/
abbrev n_bytes_Clone : FuncId := 33
end Go.Proofs.Ytndpnfbcnmebjaa

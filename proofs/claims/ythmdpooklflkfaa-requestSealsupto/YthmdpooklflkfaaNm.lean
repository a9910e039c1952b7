/- The functions' numbers. Printed by program. -/
import Derived.Test.YthmdpooklflkfaaAwFun
import Derived.Test.YthmdpooklflkfaaProg
set_option linter.all false
namespace Go.Proofs.Ythmdpooklflkfaa
/-- bulla/bullalaw08.RequestSeals -/
abbrev zcf : FuncId := 6
/-- bulla/bullalaw08.begun -/
abbrev zgd : FuncId := 9
/-- bulla/request.Check -/
abbrev zcc : FuncId := 10
/-- bulla/bullaref08.Check -/
abbrev zeh : FuncId := 11
/-- bulla/request.CheckSign -/
abbrev zba : FuncId := 12
/-- bulla/bullaref08.CheckSign -/
abbrev zcd : FuncId := 13
/-- bulla/request.CheckBatch -/
abbrev zaK : FuncId := 14
/-- bulla/bullaref08.CheckBatch -/
abbrev zbh : FuncId := 15
/-- bulla/request.Key -/
abbrev zcW : FuncId := 16
/-- bulla/bullaref08.Key -/
abbrev zdN : FuncId := 17
/-- bulla/bullaref08.Same -/
abbrev zhv : FuncId := 19
/-- bulla/request.Bytes -/
abbrev zbt : FuncId := 21
/-- bulla/bullaref08.Bytes -/
abbrev zda : FuncId := 22
/-- bytes.Equal -/
abbrev zek : FuncId := 24
/-- bulla/request.PutSign -/
abbrev zcs : FuncId := 25
/-- bulla/bullaref08.PutSign -/
abbrev zeg : FuncId := 26
/-- bulla/request.PutBatch -/
abbrev zcb : FuncId := 27
/-- bulla/bullaref08.PutBatch -/
abbrev zdC : FuncId := 28
/-- bulla/ideal.NewTable -/
abbrev zaP : FuncId := 29
/-- bulla/ideal.NewLedger -/
abbrev zaM : FuncId := 30
/-- bulla/request.Seal -/
abbrev zbK : FuncId := 31
/-- bulla/request.Valid -/
abbrev zaR : FuncId := 32
/-- bulla/request.Digest -/
abbrev zbM : FuncId := 33
/-- bulla/bullaref08.Seal -/
abbrev zhu : FuncId := 34
/-- bulla/bullaref08.Valid -/
abbrev zef : FuncId := 35
/-- bulla/request.ValidBatch -/
abbrev zbD : FuncId := 36
/-- bulla/bullaref08.ValidBatch -/
abbrev zcK : FuncId := 37
/-- bulla/bullaref08.Digest -/
abbrev zeL : FuncId := 38
/-- bulla/bullaref08.SameRequest -/
abbrev zct : FuncId := 41
/-- bulla/bullalaw08.create -/
abbrev zeM : FuncId := 51
/-- bulla/op.Check -/
abbrev zfw : FuncId := 52
/-- bulla/bullaref06.Check -/
abbrev zei : FuncId := 53
/-- bulla/op.Same -/
abbrev zjh : FuncId := 56
/-- bulla/op.Clone -/
abbrev zhA : FuncId := 57
/-- bulla/op.Put -/
abbrev zle : FuncId := 58
/-- bulla/codec.PutNum -/
abbrev zaq : FuncId := 59
/-- bulla/bullaref01.PutNum -/
abbrev zaD : FuncId := 60
/-- bulla/bullaref06.Put -/
abbrev zjf : FuncId := 61
/-- bytes.Clone -/
abbrev zbd : FuncId := 62
/-- (bulla/request.parts).put -/
abbrev zbP : FuncId := 63
/-- bulla/bullaref01.PutBytes -/
abbrev zbj : FuncId := 64
/-- bulla/request.made -/
abbrev zdB : FuncId := 65
/-- (*bulla/ideal.Ledger).Sign -/
abbrev zbc : FuncId := 66
/-- (*bulla/ideal.Table).Sum -/
abbrev zaS : FuncId := 67
/-- (*bulla/ideal.Table).Look -/
abbrev zbp : FuncId := 68
/-- (*bulla/ideal.Ledger).Signed -/
abbrev zbu : FuncId := 69
/-- bulla/request.known -/
abbrev zca : FuncId := 70
/-- (*bulla/bullaref02.Ledger).Sign -/
abbrev zcu : FuncId := 71
/-- (*bulla/bullaref02.Table).Sum -/
abbrev zce : FuncId := 72
/-- (*bulla/bullaref02.Table).Look -/
abbrev zbN : FuncId := 73
/-- (*bulla/bullaref02.Ledger).Signed -/
abbrev zbb : FuncId := 74
/-- slices.ContainsFunc[bulla/api.Batch,bulla/api.Signed] -/
abbrev zal : FuncId := 75
/-- bulla/request.ValidBatch$1 -/
abbrev zcp : FuncId := 76
/-- bulla/bullaref06.Same -/
abbrev zhx : FuncId := 82
/-- bulla/op.only -/
abbrev zjg : FuncId := 88
/-- bulla/op.Check$1 -/
abbrev zdq : FuncId := 89
/-- bulla/op.Name -/
abbrev zgN : FuncId := 90
/-- slices.ContainsFunc[[]bulla/api.Record,bulla/api.Record] -/
abbrev zaj : FuncId := 91
/-- bulla/bullaref06.fields -/
abbrev zdp : FuncId := 92
/-- bulla/bullaref06.Name -/
abbrev zfv : FuncId := 93
/-- slices.EqualFunc[[]bulla/api.Record,[]bulla/api.Record,bulla/api.Record,bulla/api.Record] -/
abbrev zZ : FuncId := 94
/-- bulla/op.Same$1 -/
abbrev zej : FuncId := 95
/-- bulla/codec.PutBytes -/
abbrev zaQ : FuncId := 96
/-- bulla/codec.form -/
abbrev zeO : FuncId := 97
/-- slices.Clip[[]byte,byte] -/
abbrev zaZ : FuncId := 98
/-- (*bulla/ideal.Ledger).Len -/
abbrev zcg : FuncId := 99
/-- (*bulla/ideal.Ledger).Clone -/
abbrev zbE : FuncId := 100
/-- (*bulla/ideal.Ledger).none -/
abbrev zaA : FuncId := 101
/-- (*bulla/ideal.Table).none -/
abbrev zaG : FuncId := 102
/-- (*bulla/ideal.Table).Len -/
abbrev zcv : FuncId := 103
/-- (*bulla/ideal.Table).Clone -/
abbrev zbQ : FuncId := 104
/-- bulla/bullaref02.Same -/
abbrev zhy : FuncId := 105
/-- slices.IndexFunc[bulla/api.Batch,bulla/api.Signed] -/
abbrev zao : FuncId := 106
/-- bulla/op.Runes -/
abbrev zhz : FuncId := 109
/-- slices.IndexFunc[[]bulla/api.Record,bulla/api.Record] -/
abbrev zaB : FuncId := 110
/-- bulla/bullaref06.Runes -/
abbrev zgc : FuncId := 111
/-- bulla/ideal.From -/
abbrev zeN : FuncId := 112
/-- bulla/bullaref06.rune1 -/
abbrev zgb : FuncId := 113
/-- bulla/bullaref06.size -/
abbrev zhw : FuncId := 114
end Go.Proofs.Ythmdpooklflkfaa

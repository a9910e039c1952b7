/- The functions' numbers. Printed by program. -/
import Derived.Test.YtcappjcojggehaaGreatAwRun
import Derived.Test.YtcappjcojggehaaGreatProg
set_option linter.all false
namespace Go.Proofs.YtcappjcojggehaaGreat
/-- bulla/bullalaw15.PreparedValid -/
abbrev zcc : FuncId := 4
/-- bulla/bullalaw15.live -/
abbrev zjp : FuncId := 8
/-- bulla/bullaref12.Check -/
abbrev zdM : FuncId := 9
/-- (bulla/bullalaw15.Case).begun -/
abbrev zbx : FuncId := 14
/-- (*bulla/bullalaw15.stage).made -/
abbrev zbw : FuncId := 15
/-- bulla/prepared.Valid -/
abbrev zaV : FuncId := 16
/-- bulla/bullaref15.Valid -/
abbrev zff : FuncId := 17
/-- bulla/prepared.Above -/
abbrev zdh : FuncId := 18
/-- bulla/bullaref15.Above -/
abbrev zhE : FuncId := 19
/-- (*bulla/ideal.Table).Len -/
abbrev zcQ : FuncId := 20
/-- (*bulla/ideal.Ledger).Len -/
abbrev zcw : FuncId := 21
/-- (*bulla/prepared.Held).Put -/
abbrev zbo : FuncId := 24
/-- (*bulla/prepared.Held).Len -/
abbrev zcb : FuncId := 26
/-- bulla/ideal.NewLedger -/
abbrev zbL : FuncId := 28
/-- bulla/ideal.NewTable -/
abbrev zbX : FuncId := 29
/-- bulla/prepared.New -/
abbrev zew : FuncId := 30
/-- bulla/bullaref12.Brokers -/
abbrev zdF : FuncId := 41
/-- bulla/bullaref08.Seal -/
abbrev zgR : FuncId := 42
/-- bulla/bullaref08.Digest -/
abbrev zgc : FuncId := 43
/-- bulla/bullaref11.Vote -/
abbrev zgQ : FuncId := 44
/-- (*bulla/ideal.Table).Sum -/
abbrev zbK : FuncId := 45
/-- (*bulla/ideal.Ledger).Sign -/
abbrev zbq : FuncId := 46
/-- (*bulla/ideal.Table).Clone -/
abbrev zbp : FuncId := 47
/-- (*bulla/ideal.Ledger).Clone -/
abbrev zbe : FuncId := 48
/-- bulla/quorum.Check -/
abbrev zbT : FuncId := 49
/-- bulla/request.ValidBatch -/
abbrev zbO : FuncId := 50
/-- (*bulla/ideal.Table).Look -/
abbrev zaM : FuncId := 51
/-- bulla/request.PutBatch -/
abbrev zcq : FuncId := 52
/-- bulla/quorum.Primary -/
abbrev zdf : FuncId := 53
/-- bulla/auth.ValidVote -/
abbrev zbY : FuncId := 54
/-- bulla/quorum.Brokers -/
abbrev zbW : FuncId := 55
/-- bulla/bullaref08.ValidBatch -/
abbrev zde : FuncId := 56
/-- (*bulla/bullaref02.Table).Look -/
abbrev zaU : FuncId := 57
/-- bulla/bullaref08.PutBatch -/
abbrev zda : FuncId := 58
/-- bulla/bullaref12.Primary -/
abbrev zfg : FuncId := 59
/-- bulla/bullaref11.ValidVote -/
abbrev zcu : FuncId := 60
/-- (*bulla/ideal.Table).none -/
abbrev zaL : FuncId := 61
/-- (*bulla/ideal.Ledger).none -/
abbrev zaG : FuncId := 62
/-- (*bulla/prepared.Held).none -/
abbrev zbd : FuncId := 63
/-- bulla/prepared.clone -/
abbrev zdg : FuncId := 64
/-- bulla/bullaref08.Bytes -/
abbrev zdN : FuncId := 72
/-- (*bulla/bullaref02.Ledger).Sign -/
abbrev zbJ : FuncId := 73
/-- bulla/bullaref08.Key -/
abbrev zeJ : FuncId := 74
/-- (*bulla/bullaref02.Table).Sum -/
abbrev zbG : FuncId := 75
/-- bulla/bullaref08.CheckBatch -/
abbrev zbv : FuncId := 76
/-- bulla/bullaref11.may -/
abbrev ziq : FuncId := 77
/-- bulla/bullaref11.sign -/
abbrev zjk : FuncId := 78
/-- bulla/bullaref11.VoteBytes -/
abbrev zct : FuncId := 79
/-- bytes.Clone -/
abbrev zbr : FuncId := 80
/-- bulla/ideal.From -/
abbrev zgd : FuncId := 81
/-- bulla/request.CheckBatch -/
abbrev zbc : FuncId := 82
/-- slices.ContainsFunc[bulla/api.Batch,bulla/api.Signed] -/
abbrev zam : FuncId := 83
/-- bulla/request.ValidBatch$1 -/
abbrev zcI : FuncId := 84
/-- bulla/request.Valid -/
abbrev zdK : FuncId := 85
/-- (bulla/request.parts).put -/
abbrev zca : FuncId := 86
/-- bulla/quorum.view -/
abbrev zfk : FuncId := 87
/-- bulla/auth.made -/
abbrev zhI : FuncId := 88
/-- bulla/auth.may -/
abbrev zjr : FuncId := 89
/-- bulla/auth.signed -/
abbrev zfn : FuncId := 90
/-- bulla/auth.VoteBytes -/
abbrev zdi : FuncId := 91
/-- bulla/quorum.times -/
abbrev zev : FuncId := 92
/-- bulla/bullaref08.Valid -/
abbrev zhF : FuncId := 93
/-- bulla/bullaref02.Same -/
abbrev zjm : FuncId := 94
/-- bulla/bullaref01.PutNum -/
abbrev zaB : FuncId := 95
/-- bulla/bullaref08.PutSign -/
abbrev zfh : FuncId := 96
/-- bulla/bullaref01.PutBytes -/
abbrev zbA : FuncId := 97
/-- bulla/bullaref11.signed -/
abbrev zgb : FuncId := 98
/-- slices.Clone[[]bulla/api.Sign,bulla/api.Sign] -/
abbrev zaD : FuncId := 99
/-- bulla/request.Clone -/
abbrev zdL : FuncId := 100
/-- bulla/op.Same -/
abbrev zly : FuncId := 106
/-- bulla/bullaref08.Check -/
abbrev zfi : FuncId := 108
/-- bulla/bullaref06.Put -/
abbrev zlw : FuncId := 109
/-- (*bulla/bullaref02.Ledger).Signed -/
abbrev zaS : FuncId := 110
/-- bulla/bullaref08.CheckSign -/
abbrev zcv : FuncId := 111
/-- bulla/bullaref11.num -/
abbrev zeI : FuncId := 112
/-- bulla/bullaref11.put -/
abbrev zeH : FuncId := 113
/-- bulla/request.Check -/
abbrev zcr : FuncId := 114
/-- bulla/request.CheckSign -/
abbrev zbn : FuncId := 115
/-- slices.IndexFunc[bulla/api.Batch,bulla/api.Signed] -/
abbrev zaq : FuncId := 116
/-- bulla/request.Bytes -/
abbrev zcs : FuncId := 117
/-- bulla/request.Key -/
abbrev zfe : FuncId := 118
/-- (*bulla/ideal.Ledger).Signed -/
abbrev zaY : FuncId := 119
/-- bulla/codec.PutNum -/
abbrev zao : FuncId := 120
/-- bulla/request.PutSign -/
abbrev zcP : FuncId := 121
/-- bulla/codec.PutBytes -/
abbrev zaW : FuncId := 122
/-- bulla/auth.put -/
abbrev zjq : FuncId := 123
/-- bulla/op.Clone -/
abbrev zjo : FuncId := 124
/-- slices.EqualFunc[[]bulla/api.Record,[]bulla/api.Record,bulla/api.Record,bulla/api.Record] -/
abbrev zX : FuncId := 128
/-- bulla/op.Same$1 -/
abbrev zfl : FuncId := 129
/-- bytes.Equal -/
abbrev zfm : FuncId := 130
/-- bulla/bullaref06.Check -/
abbrev zfj : FuncId := 132
/-- bulla/bullaref06.fields -/
abbrev zel : FuncId := 133
/-- bulla/op.Check -/
abbrev zgT : FuncId := 134
/-- bulla/op.Put -/
abbrev znV : FuncId := 135
/-- bulla/codec.form -/
abbrev zge : FuncId := 136
/-- slices.Clip[[]byte,byte] -/
abbrev zbm : FuncId := 137
/-- bulla/bullaref06.Name -/
abbrev zgS : FuncId := 141
/-- bulla/op.only -/
abbrev zlx : FuncId := 142
/-- bulla/op.Check$1 -/
abbrev zem : FuncId := 143
/-- bulla/op.Name -/
abbrev zir : FuncId := 144
/-- slices.ContainsFunc[[]bulla/api.Record,bulla/api.Record] -/
abbrev zak : FuncId := 145
/-- bulla/bullaref06.Runes -/
abbrev zhH : FuncId := 157
/-- bulla/op.Runes -/
abbrev zjn : FuncId := 158
/-- slices.IndexFunc[[]bulla/api.Record,bulla/api.Record] -/
abbrev zaH : FuncId := 159
/-- bulla/bullaref06.rune1 -/
abbrev zhG : FuncId := 166
/-- bulla/bullaref06.size -/
abbrev zjl : FuncId := 168
end Go.Proofs.YtcappjcojggehaaGreat

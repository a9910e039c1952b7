/- The functions' numbers. Printed by program. -/
import Derived.Test.YtcappjcojggehaaAwRun
import Derived.Test.YtcappjcojggehaaProg
set_option linter.all false
namespace Go.Proofs.Ytcappjcojggehaa
/-- bulla/bullalaw15.PreparedLatest -/
abbrev zbK : FuncId := 3
/-- bulla/bullalaw15.live -/
abbrev ziC : FuncId := 4
/-- bulla/prepared.New -/
abbrev zcP : FuncId := 5
/-- (*bulla/prepared.Held).Put -/
abbrev zaO : FuncId := 6
/-- (*bulla/prepared.Held).Get -/
abbrev zcd : FuncId := 7
/-- (*bulla/prepared.Held).Len -/
abbrev zbo : FuncId := 8
/-- (bulla/bullalaw15.Case).begun -/
abbrev zcV : FuncId := 9
/-- (*bulla/bullalaw15.stage).made -/
abbrev zbX : FuncId := 10
/-- bulla/prepared.Valid -/
abbrev zbW : FuncId := 11
/-- (*bulla/prepared.Held).none -/
abbrev zaM : FuncId := 12
/-- bulla/prepared.clone -/
abbrev zbV : FuncId := 13
/-- bulla/ideal.NewTable -/
abbrev zbY : FuncId := 14
/-- bulla/ideal.NewLedger -/
abbrev zbG : FuncId := 15
/-- bulla/bullaref08.Seal -/
abbrev zgs : FuncId := 16
/-- bulla/bullaref08.Digest -/
abbrev zfE : FuncId := 17
/-- bulla/bullaref11.Vote -/
abbrev zgr : FuncId := 18
/-- (*bulla/ideal.Table).Sum -/
abbrev zbF : FuncId := 19
/-- (*bulla/ideal.Ledger).Sign -/
abbrev zbq : FuncId := 20
/-- (*bulla/ideal.Table).Clone -/
abbrev zbp : FuncId := 21
/-- (*bulla/ideal.Ledger).Clone -/
abbrev zbd : FuncId := 22
/-- bulla/quorum.Check -/
abbrev zbQ : FuncId := 23
/-- bulla/request.ValidBatch -/
abbrev zbJ : FuncId := 24
/-- (*bulla/ideal.Table).Look -/
abbrev zaL : FuncId := 25
/-- bulla/request.PutBatch -/
abbrev zcr : FuncId := 26
/-- bulla/quorum.Primary -/
abbrev zcU : FuncId := 27
/-- bulla/auth.ValidVote -/
abbrev zbZ : FuncId := 28
/-- bulla/quorum.Brokers -/
abbrev zbU : FuncId := 29
/-- slices.Clone[[]bulla/api.Sign,bulla/api.Sign] -/
abbrev zaD : FuncId := 30
/-- bulla/request.Clone -/
abbrev zdz : FuncId := 31
/-- bulla/bullaref08.Bytes -/
abbrev zeN : FuncId := 32
/-- (*bulla/bullaref02.Ledger).Sign -/
abbrev zbE : FuncId := 33
/-- bulla/bullaref08.Key -/
abbrev zfD : FuncId := 34
/-- (*bulla/bullaref02.Table).Sum -/
abbrev zbB : FuncId := 35
/-- bulla/bullaref08.CheckBatch -/
abbrev zbT : FuncId := 36
/-- bulla/bullaref08.PutBatch -/
abbrev zef : FuncId := 37
/-- bulla/bullaref11.may -/
abbrev zkD : FuncId := 38
/-- bulla/bullaref11.sign -/
abbrev zix : FuncId := 39
/-- bulla/bullaref11.VoteBytes -/
abbrev zdA : FuncId := 40
/-- (*bulla/ideal.Table).none -/
abbrev zaW : FuncId := 41
/-- bytes.Clone -/
abbrev zbr : FuncId := 42
/-- (*bulla/ideal.Ledger).none -/
abbrev zaP : FuncId := 43
/-- bulla/ideal.From -/
abbrev zfF : FuncId := 44
/-- bulla/request.CheckBatch -/
abbrev zbc : FuncId := 45
/-- slices.ContainsFunc[bulla/api.Batch,bulla/api.Signed] -/
abbrev zal : FuncId := 46
/-- bulla/request.ValidBatch$1 -/
abbrev zcC : FuncId := 47
/-- bulla/request.Valid -/
abbrev zdy : FuncId := 48
/-- (bulla/request.parts).put -/
abbrev zcb : FuncId := 49
/-- bulla/quorum.view -/
abbrev zeP : FuncId := 50
/-- bulla/auth.made -/
abbrev zhh : FuncId := 51
/-- bulla/auth.may -/
abbrev ziE : FuncId := 52
/-- bulla/auth.signed -/
abbrev zeS : FuncId := 53
/-- bulla/auth.VoteBytes -/
abbrev zcW : FuncId := 54
/-- bulla/quorum.times -/
abbrev zeg : FuncId := 55
/-- bulla/op.Clone -/
abbrev ziB : FuncId := 56
/-- bulla/bullaref08.Check -/
abbrev zeM : FuncId := 57
/-- bulla/bullaref01.PutNum -/
abbrev zaB : FuncId := 58
/-- bulla/bullaref06.Put -/
abbrev zkE : FuncId := 59
/-- (*bulla/bullaref02.Ledger).Signed -/
abbrev zcc : FuncId := 60
/-- (*bulla/bullaref02.Table).Look -/
abbrev zcT : FuncId := 61
/-- bulla/bullaref08.CheckSign -/
abbrev zcu : FuncId := 62
/-- bulla/bullaref08.PutSign -/
abbrev zeL : FuncId := 63
/-- bulla/bullaref01.PutBytes -/
abbrev zbw : FuncId := 64
/-- bulla/bullaref11.num -/
abbrev zeq : FuncId := 65
/-- bulla/bullaref11.put -/
abbrev zep : FuncId := 66
/-- bulla/request.Check -/
abbrev zcs : FuncId := 67
/-- bulla/request.CheckSign -/
abbrev zbn : FuncId := 68
/-- slices.IndexFunc[bulla/api.Batch,bulla/api.Signed] -/
abbrev zaq : FuncId := 69
/-- bulla/request.Bytes -/
abbrev zct : FuncId := 70
/-- bulla/request.Key -/
abbrev zeK : FuncId := 71
/-- (*bulla/ideal.Ledger).Signed -/
abbrev zaX : FuncId := 72
/-- bulla/codec.PutNum -/
abbrev zan : FuncId := 73
/-- bulla/request.PutSign -/
abbrev zcF : FuncId := 74
/-- bulla/codec.PutBytes -/
abbrev zaT : FuncId := 75
/-- bulla/auth.put -/
abbrev ziD : FuncId := 76
/-- bulla/bullaref06.Check -/
abbrev zeO : FuncId := 77
/-- bulla/bullaref06.fields -/
abbrev zdW : FuncId := 78
/-- bulla/bullaref02.Same -/
abbrev ziz : FuncId := 79
/-- bulla/op.Check -/
abbrev zgu : FuncId := 80
/-- bulla/op.Put -/
abbrev zmN : FuncId := 81
/-- bulla/codec.form -/
abbrev zfG : FuncId := 82
/-- slices.Clip[[]byte,byte] -/
abbrev zbm : FuncId := 83
/-- bulla/bullaref06.Name -/
abbrev zgt : FuncId := 84
/-- bulla/op.only -/
abbrev zkF : FuncId := 85
/-- bulla/op.Check$1 -/
abbrev zdX : FuncId := 86
/-- bulla/op.Same -/
abbrev zkG : FuncId := 87
/-- bulla/op.Name -/
abbrev zhI : FuncId := 88
/-- slices.ContainsFunc[[]bulla/api.Record,bulla/api.Record] -/
abbrev zaj : FuncId := 89
/-- bulla/bullaref06.Runes -/
abbrev zhg : FuncId := 90
/-- slices.EqualFunc[[]bulla/api.Record,[]bulla/api.Record,bulla/api.Record,bulla/api.Record] -/
abbrev zZ : FuncId := 91
/-- bulla/op.Same$1 -/
abbrev zeQ : FuncId := 92
/-- bytes.Equal -/
abbrev zeR : FuncId := 93
/-- bulla/op.Runes -/
abbrev ziA : FuncId := 94
/-- slices.IndexFunc[[]bulla/api.Record,bulla/api.Record] -/
abbrev zaH : FuncId := 95
/-- bulla/bullaref06.rune1 -/
abbrev zhf : FuncId := 96
/-- bulla/bullaref06.size -/
abbrev ziy : FuncId := 97
end Go.Proofs.Ytcappjcojggehaa

/- The functions' numbers. Printed by program. -/
import Derived.Test.YtaocmalhjfakdaaAwFun
import Derived.Test.YtaocmalhjfakdaaAwTell
import Derived.Test.YtaocmalhjfakdaaProg
set_option linter.all false
namespace Go.Proofs.Ytaocmalhjfakdaa
abbrev zdn : FuncId := 6
abbrev zgQ : FuncId := 8
abbrev zdY : FuncId := 9
abbrev zq : FuncId := 10
abbrev zbt : FuncId := 11
abbrev zN : FuncId := 12
abbrev zaT : FuncId := 14
abbrev zbI : FuncId := 15
abbrev zbM : FuncId := 19
abbrev zbC : FuncId := 20
abbrev zaW : FuncId := 21
abbrev zeC : FuncId := 22
abbrev zaS : FuncId := 23
abbrev zaQ : FuncId := 24
abbrev zbs : FuncId := 25
abbrev zdo : FuncId := 26
abbrev zbN : FuncId := 27
abbrev zcE : FuncId := 28
abbrev zy : FuncId := 31
abbrev zap : FuncId := 32
abbrev zM : FuncId := 33
abbrev zw : FuncId := 34
abbrev ze : FuncId := 35
abbrev zaa : FuncId := 36
abbrev zaE : FuncId := 37
abbrev zbk : FuncId := 38
abbrev zco : FuncId := 46
abbrev zaD : FuncId := 47
abbrev zbu : FuncId := 48
abbrev zgR : FuncId := 49
abbrev zcU : FuncId := 50
abbrev ziv : FuncId := 51
abbrev zfx : FuncId := 59
abbrev zaO : FuncId := 60
abbrev zac : FuncId := 61
abbrev zaP : FuncId := 62
abbrev zba : FuncId := 63
abbrev zfb : FuncId := 64
abbrev zbl : FuncId := 65
abbrev zaU : FuncId := 66
abbrev zdZ : FuncId := 82
abbrev zgo : FuncId := 86
abbrev ziw : FuncId := 90
abbrev zea : FuncId := 91
abbrev zix : FuncId := 92
abbrev zO : FuncId := 93
abbrev zaf : FuncId := 94
abbrev zgP : FuncId := 102
abbrev zp : FuncId := 103
abbrev zeB : FuncId := 104
abbrev zaz : FuncId := 105
@[reducible] def zbo : FuncId := 45
def zl0 : List Go.AW.AV := [Go.AW.iN 0, (.d (.str [])), (.d (.str [])), Go.AW.iN 0, Go.AW.eN]
def zl1 : List Go.AW.AV := [Go.AW.iN 0, Go.AW.iN 0, Go.AW.iN 0, (.d (.str [])), (.d (.str [])), Go.AW.iN 0, Go.AW.eN]
end Go.Proofs.Ytaocmalhjfakdaa

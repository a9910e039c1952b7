/- The functions' numbers. Printed by program. -/
import Derived.Test.YtaocmalhjfakdaaAwFun
import Derived.Test.YtaocmalhjfakdaaAwTell
import Derived.Test.YtaocmalhjfakdaaProg
set_option linter.all false
namespace Go.Proofs.Ytaocmalhjfakdaa
abbrev zeg : FuncId := 7
abbrev zjj : FuncId := 8
abbrev zdN : FuncId := 9
abbrev zaa : FuncId := 10
abbrev zcL : FuncId := 12
abbrev zal : FuncId := 14
abbrev zck : FuncId := 15
abbrev zee : FuncId := 17
abbrev zcf : FuncId := 23
abbrev zbV : FuncId := 24
abbrev zbk : FuncId := 25
abbrev zeh : FuncId := 26
abbrev zfz : FuncId := 29
abbrev zeP : FuncId := 30
abbrev zav : FuncId := 31
abbrev zcs : FuncId := 32
abbrev zaW : FuncId := 33
abbrev zT : FuncId := 34
abbrev zL : FuncId := 35
abbrev zag : FuncId := 36
abbrev zbp : FuncId := 37
abbrev zcM : FuncId := 38
abbrev zbl : FuncId := 46
abbrev zE : FuncId := 47
abbrev zah : FuncId := 48
abbrev zdH : FuncId := 49
abbrev zgH : FuncId := 52
abbrev zU : FuncId := 53
abbrev zbA : FuncId := 54
abbrev zce : FuncId := 55
abbrev zcq : FuncId := 56
abbrev zcO : FuncId := 57
abbrev zef : FuncId := 58
abbrev zji : FuncId := 59
abbrev zbT : FuncId := 60
abbrev zbK : FuncId := 61
abbrev zbU : FuncId := 62
abbrev zcr : FuncId := 63
abbrev zgG : FuncId := 64
abbrev zbM : FuncId := 65
abbrev zbq : FuncId := 66
abbrev zbL : FuncId := 76
abbrev zbh : FuncId := 77
abbrev zm : FuncId := 78
abbrev zH : FuncId := 79
abbrev zdd : FuncId := 80
abbrev zfZ : FuncId := 81
abbrev zaV : FuncId := 83
abbrev zbr : FuncId := 84
abbrev zaX : FuncId := 85
abbrev zgF : FuncId := 86
abbrev zF : FuncId := 87
abbrev zde : FuncId := 88
abbrev zjg : FuncId := 89
abbrev zkG : FuncId := 90
abbrev zfq : FuncId := 91
abbrev zkH : FuncId := 92
abbrev zac : FuncId := 93
abbrev zay : FuncId := 94
abbrev zaK : FuncId := 97
abbrev zaH : FuncId := 100
abbrev zcN : FuncId := 101
abbrev zjh : FuncId := 102
abbrev zy : FuncId := 103
abbrev zfY : FuncId := 104
abbrev zaO : FuncId := 105
@[reducible] def n_maps_Clone_map_string_int64_string_int64 : FuncId := 45
def zl0 : List Go.AW.AV := [Go.AW.iN 0, Go.AW.iN 0, Go.AW.iN 0, (.d (.str [])), (.d (.str [])), Go.AW.iN 0, Go.AW.eN]
def zl1 : List Go.AW.AV := [Go.AW.iN 0, (.d (.str [])), (.d (.str [])), Go.AW.iN 0, Go.AW.eN]
end Go.Proofs.Ytaocmalhjfakdaa

/- The functions' numbers. Printed by program. -/
import Derived.Test.YtaocmalhjfakdaaAwFun
import Derived.Test.YtaocmalhjfakdaaAwTell
import Derived.Test.YtaocmalhjfakdaaProg
set_option linter.all false
namespace Go.Proofs.Ytaocmalhjfakdaa
abbrev zcU : FuncId := 4
abbrev zgE : FuncId := 8
abbrev zdO : FuncId := 9
abbrev zU : FuncId := 10
abbrev zbR : FuncId := 12
abbrev zaU : FuncId := 14
abbrev zca : FuncId := 15
abbrev zbF : FuncId := 23
abbrev zby : FuncId := 24
abbrev zam : FuncId := 31
abbrev zbM : FuncId := 32
abbrev zaF : FuncId := 33
abbrev zT : FuncId := 34
abbrev zy : FuncId := 35
abbrev zN : FuncId := 36
abbrev zaT : FuncId := 37
abbrev zbS : FuncId := 38
abbrev zaR : FuncId := 46
abbrev zr : FuncId := 47
abbrev zP : FuncId := 48
abbrev zgD : FuncId := 59
abbrev zbw : FuncId := 60
abbrev zbm : FuncId := 61
abbrev zbx : FuncId := 62
abbrev zbL : FuncId := 63
abbrev zeP : FuncId := 64
abbrev zbo : FuncId := 65
abbrev zaV : FuncId := 66
abbrev zbn : FuncId := 76
abbrev zaQ : FuncId := 77
abbrev zi : FuncId := 78
abbrev zu : FuncId := 79
abbrev zgc : FuncId := 86
abbrev zij : FuncId := 90
abbrev zdP : FuncId := 91
abbrev zik : FuncId := 92
abbrev zI : FuncId := 93
abbrev zae : FuncId := 94
abbrev zar : FuncId := 97
abbrev zgC : FuncId := 102
abbrev zm : FuncId := 103
abbrev zek : FuncId := 104
abbrev zax : FuncId := 105
@[reducible] def n_maps_Clone_map_string_int64_string_int64 : FuncId := 45
def zl0 : List Go.AW.AV := [Go.AW.iN 0, Go.AW.iN 0, Go.AW.iN 0, (.d (.str [])), (.d (.str [])), Go.AW.iN 0, Go.AW.eN]
def zl1 : List Go.AW.AV := [Go.AW.iN 0, (.d (.str [])), (.d (.str [])), Go.AW.iN 0, Go.AW.eN]
end Go.Proofs.Ytaocmalhjfakdaa

/- More words for walks: make; a row's cells of one value each. No Go in it. -/
import Derived.Test.YtepklobkppdliaaDoorVLib
namespace Go.Proofs.YtepklobkppdliaaDoor.Lib
open Go.RowKit Go.Proofs.YtepklobkppdliaaDoorW.PrintWords Go.Proofs.YtepklobkppdliaaDoorW.PrintLast
section
variable {P : Program} {ops : Array Oper} {rest : List Oper} {o : Oper} {a : Act} {Q : Exit → Act → World → Prop}
end
end Go.Proofs.YtepklobkppdliaaDoor.Lib

/- Words for the walk and for the pure half, as far as this claim comes to them. -/
import Derived.Test.YtjhodohmifemiaaVFnSavedCellsBytes
import Derived.ArgAppend
namespace Go.Proofs.YtjhodohmifemiaaW.PrintWords
open Go.RowKit Go.Proofs.YtjhodohmifemiaaW.PrintLast
namespace Kd
section
variable {P : Program} {ops : Array Oper} {rest : List Oper} {o o2 : Oper} {a : Act} {Q : Exit → Act → World → Prop}
end
end Kd
end Go.Proofs.YtjhodohmifemiaaW.PrintWords

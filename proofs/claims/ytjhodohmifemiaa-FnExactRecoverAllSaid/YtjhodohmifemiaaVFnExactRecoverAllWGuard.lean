/- Words for the walk and for the pure half, as far as this claim comes to them. -/
import Derived.Test.YtjhodohmifemiaaVFnExactRecoverAllWWords
namespace Go.Proofs.YtjhodohmifemiaaW.PrintWords
open Go.RowKit
section
variable {P : Program} {ops : Array Oper} {rest : List Oper} {o : Oper} {a : Act} {Q : Exit → Act → World → Prop} {W : World}
end
end Go.Proofs.YtjhodohmifemiaaW.PrintWords

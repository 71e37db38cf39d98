/- Words for the walk and for the pure half, as far as this claim comes to them. -/
import Derived.Test.YtjhodohmifemiaaVFnExactRecoverAllWInv
import Derived.Test.YtjhodohmifemiaaVFnExactRecoverAllWFootNe
namespace Go.Proofs.YtjhodohmifemiaaW.PrintWords
open Go.RowKit
end Go.Proofs.YtjhodohmifemiaaW.PrintWords
namespace Go.Proofs.YtjhodohmifemiaaW.PrintLast
section
variable {ops : Array Oper} {a : Act} {o og : Oper} {g : Nat} {t : Tmp} {u : Bool}
end
end Go.Proofs.YtjhodohmifemiaaW.PrintLast

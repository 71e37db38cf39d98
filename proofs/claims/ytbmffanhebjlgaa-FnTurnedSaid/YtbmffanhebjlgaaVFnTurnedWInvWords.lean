/- Words for the walk and for the pure half, as far as this claim comes to them. -/
import Derived.Test.YtbmffanhebjlgaaVFnTurnedWInv
import Derived.Test.YtbmffanhebjlgaaVFnTurnedWFootNe
namespace Go.Proofs.YtbmffanhebjlgaaW.PrintWords
open Go.RowKit
end Go.Proofs.YtbmffanhebjlgaaW.PrintWords
namespace Go.Proofs.YtbmffanhebjlgaaW.PrintLast
section
variable {ops : Array Oper} {a : Act} {o og : Oper} {g : Nat} {t : Tmp} {u : Bool}
end
end Go.Proofs.YtbmffanhebjlgaaW.PrintLast

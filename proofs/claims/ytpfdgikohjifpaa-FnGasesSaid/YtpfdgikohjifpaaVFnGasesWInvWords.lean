/- Words for the walk and for the pure half, as far as this claim comes to them. -/
import Derived.Test.YtpfdgikohjifpaaVFnGasesWInv
import Derived.Test.YtpfdgikohjifpaaVFnGasesWFootNe
namespace Go.Proofs.YtpfdgikohjifpaaW.PrintWords
open Go.RowKit
end Go.Proofs.YtpfdgikohjifpaaW.PrintWords
namespace Go.Proofs.YtpfdgikohjifpaaW.PrintLast
section
variable {ops : Array Oper} {a : Act} {o og : Oper} {g : Nat} {t : Tmp} {u : Bool}
end
end Go.Proofs.YtpfdgikohjifpaaW.PrintLast

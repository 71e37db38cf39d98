/- Words for the walk and for the pure half, as far as this claim comes to them. -/
import Derived.Test.YtmepkamfchfoiaaVFnExactBreedOnceWInv
import Derived.Test.YtmepkamfchfoiaaVFnExactBreedOnceWFootNe
namespace Go.Proofs.YtmepkamfchfoiaaW.PrintWords
open Go.RowKit
end Go.Proofs.YtmepkamfchfoiaaW.PrintWords
namespace Go.Proofs.YtmepkamfchfoiaaW.PrintLast
section
variable {ops : Array Oper} {a : Act} {o og : Oper} {g : Nat} {t : Tmp} {u : Bool}
end
end Go.Proofs.YtmepkamfchfoiaaW.PrintLast

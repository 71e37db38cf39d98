/- Words for the walk and for the pure half, as far as this claim comes to them. -/
import Derived.SizedLaws
import Derived.ChangeSlices
namespace Go.Proofs.YtmepkamfchfoiaaW.PrintWords
open Go.ChangeShapes Go.WideShapes
end Go.Proofs.YtmepkamfchfoiaaW.PrintWords

/- Words for the walk and for the pure half, as far as this claim comes to them. -/
import Derived.Test.YtpfdgikohjifpaaVFnGasesWWords
import Derived.Laws.StructEq
namespace Go.Proofs.YtpfdgikohjifpaaW.PrintWords
open Go.RowKit
section
variable {P : Program} {d : Nat} {xs ys : Array Value} {f : Field} {fs : List Field} {a b : Value} {r s : Bool} {w : World}
end
end Go.Proofs.YtpfdgikohjifpaaW.PrintWords

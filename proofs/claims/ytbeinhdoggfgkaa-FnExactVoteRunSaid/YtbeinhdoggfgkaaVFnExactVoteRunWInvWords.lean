/- Words for the walk and for the pure half, as far as this claim comes to them. -/
import Derived.Test.YtbeinhdoggfgkaaVFnExactVoteRunWInv
import Derived.Test.YtbeinhdoggfgkaaVFnExactVoteRunWFootNe
namespace Go.Proofs.YtbeinhdoggfgkaaW.PrintWords
open Go.RowKit
end Go.Proofs.YtbeinhdoggfgkaaW.PrintWords
namespace Go.Proofs.YtbeinhdoggfgkaaW.PrintLast
section
variable {ops : Array Oper} {a : Act} {o og : Oper} {g : Nat} {t : Tmp} {u : Bool}
end
end Go.Proofs.YtbeinhdoggfgkaaW.PrintLast

/- Words for the walk and for the pure half, as far as this claim comes to them. -/
import Derived.Test.YtbmffanhebjlgaaVFnTurnedWTab
namespace Go.Proofs.YtbmffanhebjlgaaW.PrintLast
section
variable {P : Program} {ops : Array Oper} {Q : Exit → Act → World → Prop} {md : Region.Mode} {T : Bool × List (List Nat × List Nat)} {B : List Nat} {O : List Nat} {b : Nat → Bool} {i j n : Nat}
end
end Go.Proofs.YtbmffanhebjlgaaW.PrintLast

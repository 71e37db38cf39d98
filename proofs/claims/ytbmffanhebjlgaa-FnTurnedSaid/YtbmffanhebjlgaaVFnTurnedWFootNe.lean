/- Words for the walk and for the pure half, as far as this claim comes to them. -/
import Derived.Test.YtbmffanhebjlgaaVFnTurnedWN
namespace Go.Proofs.YtbmffanhebjlgaaW.PrintWords
open Go.RowKit
namespace Kd
section
variable {α : Type} {d : Kd α} {W : World} {g n : Nat} {S ok : Nat → Prop} {A : Option Addr} {ad : Addr} {xs : List α}
end
end Kd
end Go.Proofs.YtbmffanhebjlgaaW.PrintWords

/- Words for the walk and for the pure half, as far as this claim comes to them. -/
import Derived.Test.YtjhodohmifemiaaVFnExactRecoverAllBytes
import Derived.Laws.BytesArg
namespace Go.Proofs.YtjhodohmifemiaaW.PrintWords
open Go.RowKit Go.Proofs.YtjhodohmifemiaaW.PrintLast
namespace Kd
section
variable {P : Program} {e base g n cap : Nat} {ok : Nat → Prop} {W : World} {v : Value} {A : Option Addr} {xs : List Int}
end
end Kd
end Go.Proofs.YtjhodohmifemiaaW.PrintWords

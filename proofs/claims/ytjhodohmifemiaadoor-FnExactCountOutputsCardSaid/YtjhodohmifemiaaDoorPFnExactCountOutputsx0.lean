-- Written by a program of this session (its own print).
import Derived.Test.YtjhodohmifemiaaDoorProg
import Derived.Below
import Derived.Deep.Draws
import Derived.Deep.AppendLies
import Derived.Maps.AppendAt
import Derived.OwnWalk
import Derived.Laws.BytesArg
import Derived.Laws.MakeOwn
import Derived.Laws.OwnMore
import Derived.Deep.OwnRows
import Derived.Tactics
import Derived.Lib.ConvBytes
import Derived.Laws.Slices
import Derived.WalkKit
import Derived.KernelRfl
import Derived.RowKit3
import Derived.Deep.LoopGhost
import Derived.Deep.QuietTactic
import Derived.BigQuiet
import Derived.WideLaws
import Derived.Deep.DeepCutAuto
import Derived.Deep.CutBlock
import Derived.Deep.RegionHeld3
import Derived.Laws.Rows
import Derived.Lib.AppendStr
import Derived.ArgAppend
import Derived.Laws.IdiomCopy
import Derived.OrdersHeld
import Derived.Laws.BitsLemmas
import Derived.RowKit
import Derived.Lib.SliceRun
import Derived.Test.YtjhodohmifemiaaDoorWWords
import Derived.Test.YtjhodohmifemiaaDoorWLast
import Derived.Test.YtjhodohmifemiaaDoorWTab
import Derived.Test.YtjhodohmifemiaaDoorWFour
import Derived.Test.YtjhodohmifemiaaDoorWQPut
import Derived.Test.YtjhodohmifemiaaDoorWApart
import Derived.Test.YtjhodohmifemiaaDoorWArr
import Derived.Test.YtjhodohmifemiaaDoorWZeros
import Derived.Test.YtjhodohmifemiaaDoorWFoot
import Derived.Test.YtjhodohmifemiaaDoorWKept
import Derived.Test.YtjhodohmifemiaaDoorWShare
import Derived.Test.YtjhodohmifemiaaDoorWN
import Derived.Test.YtjhodohmifemiaaDoorWFootNe
import Derived.Test.YtjhodohmifemiaaDoorWAt
import Derived.Test.YtjhodohmifemiaaDoorWEqStruct
import Derived.Test.YtjhodohmifemiaaDoorWRepsOne
import Derived.Test.YtjhodohmifemiaaDoorWInv
import Derived.Test.YtjhodohmifemiaaDoorWInvWords
import Derived.Test.YtjhodohmifemiaaDoorWGuard
import Derived.Test.YtjhodohmifemiaaDoorWNEv
import Derived.Test.YtjhodohmifemiaaDoorWMore
import Derived.Test.YtjhodohmifemiaaDoorCall
import Derived.Test.YtjhodohmifemiaaDoorBytes
import Derived.Test.YtjhodohmifemiaaDoorShelf2
namespace Go.Proofs.YtjhodohmifemiaaDoor.PFnExactCountOutputs
open Go.RowKit Go.Proofs.YtjhodohmifemiaaDoorW.PrintWords Go.Proofs.YtjhodohmifemiaaDoorW.PrintLast Go.Proofs.YtjhodohmifemiaaDoorW.PrintMore
attribute [local go_sem] max2_int min2_int max_two min_two max_three min_three max_four min_four   -- for this text's walks alone
set_option linter.unusedVariables false
set_option linter.unusedSimpArgs false



def errW : Option Int → Value
  | none => .nilIface
  | some c => .iface 0 (.int .i64 c)
theorem errW_none : errW none = .nilIface := rfl
theorem errW_some (c : Int) : errW (some c) = .iface 0 (.int .i64 c) := rfl

theorem info9 : (Tryd.prog.info? 9).map (fun i => (i.zero, i.size, i.bytes)) = some (some (.string ⟨#[]⟩), 1, 16) := by kernel_rfl
-- the values' own types

end Go.Proofs.YtjhodohmifemiaaDoor.PFnExactCountOutputs

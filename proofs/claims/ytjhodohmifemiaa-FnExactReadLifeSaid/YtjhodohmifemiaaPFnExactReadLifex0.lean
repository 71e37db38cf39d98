-- Written by a program of this session (its own print).
import Derived.Test.YtjhodohmifemiaaProg
import Derived.Below
import Derived.Deep.Draws
import Derived.Deep.AppendLies
import Derived.Maps.AppendAt
import Derived.OwnWalk
import Derived.Laws.BytesArg
import Derived.Laws.MakeOwn
import Derived.Laws.OwnMore
import Derived.Deep.OwnRows
import Derived.Tactics
import Derived.Lib.ConvBytes
import Derived.Laws.Slices
import Derived.WalkKit
import Derived.KernelRfl
import Derived.RowKit3
import Derived.Deep.LoopGhost
import Derived.Deep.QuietTactic
import Derived.BigQuiet
import Derived.WideLaws
import Derived.Deep.DeepCutAuto
import Derived.Deep.CutBlock
import Derived.Deep.RegionHeld3
import Derived.Laws.Rows
import Derived.Lib.AppendStr
import Derived.ArgAppend
import Derived.Laws.IdiomCopy
import Derived.OrdersHeld
import Derived.Laws.BitsLemmas
import Derived.RowKit
import Derived.Lib.SliceRun
import Derived.Test.YtjhodohmifemiaaWWords
import Derived.Test.YtjhodohmifemiaaWLast
import Derived.Test.YtjhodohmifemiaaWTab
import Derived.Test.YtjhodohmifemiaaWFour
import Derived.Test.YtjhodohmifemiaaWQPut
import Derived.Test.YtjhodohmifemiaaWApart
import Derived.Test.YtjhodohmifemiaaWArr
import Derived.Test.YtjhodohmifemiaaWZeros
import Derived.Test.YtjhodohmifemiaaWFoot
import Derived.Test.YtjhodohmifemiaaWKept
import Derived.Test.YtjhodohmifemiaaWShare
import Derived.Test.YtjhodohmifemiaaWN
import Derived.Test.YtjhodohmifemiaaWFootNe
import Derived.Test.YtjhodohmifemiaaWAt
import Derived.Test.YtjhodohmifemiaaWEqStruct
import Derived.Test.YtjhodohmifemiaaWRepsOne
import Derived.Test.YtjhodohmifemiaaWInv
import Derived.Test.YtjhodohmifemiaaWInvWords
import Derived.Test.YtjhodohmifemiaaWGuard
import Derived.Test.YtjhodohmifemiaaWNEv
import Derived.Test.YtjhodohmifemiaaWMore
import Derived.Test.YtjhodohmifemiaaCall
import Derived.Test.YtjhodohmifemiaaBytes
import Derived.Test.YtjhodohmifemiaaShelf
namespace Go.Proofs.Ytjhodohmifemiaa.PFnExactReadLife
open Go.RowKit Go.Proofs.YtjhodohmifemiaaW.PrintWords Go.Proofs.YtjhodohmifemiaaW.PrintLast Go.Proofs.YtjhodohmifemiaaW.PrintMore
attribute [local go_sem] max2_int min2_int max_two min_two max_three min_three max_four min_four   -- for this text's walks alone
set_option linter.unusedVariables false
set_option linter.unusedSimpArgs false



def errW : Option Int → Value
  | none => .nilIface
  | some c => .iface 0 (.int .i64 c)
theorem errW_none : errW none = .nilIface := rfl
theorem errW_some (c : Int) : errW (some c) = .iface 0 (.int .i64 c) := rfl

theorem info2 : (Try.prog.info? 2).map (fun i => (i.zero, i.size, i.bytes)) = some (some (.int .i64 0), 1, 8) := by kernel_rfl
theorem info5 : (Try.prog.info? 5).map (fun i => (i.zero, i.size, i.bytes)) = some (some (.int .u8 0), 1, 1) := by kernel_rfl
theorem info9 : (Try.prog.info? 9).map (fun i => (i.zero, i.size, i.bytes)) = some (some (.string ⟨#[]⟩), 1, 16) := by kernel_rfl
-- the values' own types

end Go.Proofs.Ytjhodohmifemiaa.PFnExactReadLife

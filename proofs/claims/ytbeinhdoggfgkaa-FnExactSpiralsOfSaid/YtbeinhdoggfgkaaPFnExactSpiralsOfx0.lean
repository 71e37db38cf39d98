-- Written by a program of this session (its own print).
import Derived.Test.YtbeinhdoggfgkaaProg
import Derived.Below
import Derived.Deep.Draws
import Derived.Deep.AppendLies
import Derived.Maps.AppendAt
import Derived.OwnWalk
import Derived.Laws.BytesArg
import Derived.Laws.MakeOwn
import Derived.Laws.OwnMore
import Derived.Deep.OwnRows
import Derived.Tactics
import Derived.Lib.ConvBytes
import Derived.Laws.Slices
import Derived.WalkKit
import Derived.KernelRfl
import Derived.RowKit3
import Derived.Deep.LoopGhost
import Derived.Deep.QuietTactic
import Derived.BigQuiet
import Derived.WideLaws
import Derived.Deep.DeepCutAuto
import Derived.Deep.CutBlock
import Derived.Deep.RegionHeld3
import Derived.Laws.Rows
import Derived.Lib.AppendStr
import Derived.ArgAppend
import Derived.Laws.IdiomCopy
import Derived.OrdersHeld
import Derived.Laws.BitsLemmas
import Derived.RowKit
import Derived.Lib.SliceRun
import Derived.Test.YtbeinhdoggfgkaaWWords
import Derived.Test.YtbeinhdoggfgkaaWLast
import Derived.Test.YtbeinhdoggfgkaaWTab
import Derived.Test.YtbeinhdoggfgkaaWFour
import Derived.Test.YtbeinhdoggfgkaaWQPut
import Derived.Test.YtbeinhdoggfgkaaWApart
import Derived.Test.YtbeinhdoggfgkaaWArr
import Derived.Test.YtbeinhdoggfgkaaWZeros
import Derived.Test.YtbeinhdoggfgkaaWFoot
import Derived.Test.YtbeinhdoggfgkaaWKept
import Derived.Test.YtbeinhdoggfgkaaWShare
import Derived.Test.YtbeinhdoggfgkaaWN
import Derived.Test.YtbeinhdoggfgkaaWFootNe
import Derived.Test.YtbeinhdoggfgkaaWAt
import Derived.Test.YtbeinhdoggfgkaaWEqStruct
import Derived.Test.YtbeinhdoggfgkaaWRepsOne
import Derived.Test.YtbeinhdoggfgkaaWInv
import Derived.Test.YtbeinhdoggfgkaaWInvWords
import Derived.Test.YtbeinhdoggfgkaaWGuard
import Derived.Test.YtbeinhdoggfgkaaWNEv
import Derived.Test.YtbeinhdoggfgkaaWMore
import Derived.Test.YtbeinhdoggfgkaaCall
import Derived.Test.YtbeinhdoggfgkaaBytes
namespace Go.Proofs.Ytbeinhdoggfgkaa.PFnExactSpiralsOf
open Go.RowKit Go.Proofs.YtbeinhdoggfgkaaW.PrintWords Go.Proofs.YtbeinhdoggfgkaaW.PrintLast Go.Proofs.YtbeinhdoggfgkaaW.PrintMore
attribute [local go_sem] max2_int min2_int max_two min_two max_three min_three max_four min_four   -- for this text's walks alone
set_option linter.unusedVariables false
set_option linter.unusedSimpArgs false



def errW : Option Int → Value
  | none => .nilIface
  | some c => .iface 0 (.int .i64 c)
theorem errW_none : errW none = .nilIface := rfl
theorem errW_some (c : Int) : errW (some c) = .iface 0 (.int .i64 c) := rfl

theorem info2 : (Try.prog.info? 2).map (fun i => (i.zero, i.size, i.bytes)) = some (some (.int .i64 0), 1, 8) := by kernel_rfl
-- the values' own types

end Go.Proofs.Ytbeinhdoggfgkaa.PFnExactSpiralsOf

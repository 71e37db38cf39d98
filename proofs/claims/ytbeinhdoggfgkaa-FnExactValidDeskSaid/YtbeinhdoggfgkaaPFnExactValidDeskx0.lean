-- Written by a program of this session (its own print).
import Derived.Test.YtbeinhdoggfgkaaProg
import Derived.Below
import Derived.Deep.Draws
import Derived.Deep.AppendLies
import Derived.Maps.AppendAt
import Derived.OwnWalk
import Derived.Laws.BytesArg
import Derived.Laws.MakeOwn
import Derived.Laws.OwnMore
import Derived.Deep.OwnRows
import Derived.Tactics
import Derived.Lib.ConvBytes
import Derived.Laws.Slices
import Derived.WalkKit
import Derived.KernelRfl
import Derived.RowKit3
import Derived.Deep.LoopGhost
import Derived.Deep.QuietTactic
import Derived.BigQuiet
import Derived.WideLaws
import Derived.Deep.DeepCutAuto
import Derived.Deep.CutBlock
import Derived.Deep.RegionHeld3
import Derived.Laws.Rows
import Derived.Lib.AppendStr
import Derived.ArgAppend
import Derived.Laws.IdiomCopy
import Derived.OrdersHeld
import Derived.Laws.BitsLemmas
import Derived.RowKit
import Derived.Lib.SliceRun
import Derived.Test.YtbeinhdoggfgkaaVFnExactValidDeskWWords
import Derived.Test.YtbeinhdoggfgkaaVFnExactValidDeskWLast
import Derived.Test.YtbeinhdoggfgkaaVFnExactValidDeskWTab
import Derived.Test.YtbeinhdoggfgkaaVFnExactValidDeskWFour
import Derived.Test.YtbeinhdoggfgkaaVFnExactValidDeskWQPut
import Derived.Test.YtbeinhdoggfgkaaVFnExactValidDeskWApart
import Derived.Test.YtbeinhdoggfgkaaVFnExactValidDeskWArr
import Derived.Test.YtbeinhdoggfgkaaVFnExactValidDeskWZeros
import Derived.Test.YtbeinhdoggfgkaaVFnExactValidDeskWFoot
import Derived.Test.YtbeinhdoggfgkaaVFnExactValidDeskWKept
import Derived.Test.YtbeinhdoggfgkaaVFnExactValidDeskWShare
import Derived.Test.YtbeinhdoggfgkaaVFnExactValidDeskWN
import Derived.Test.YtbeinhdoggfgkaaVFnExactValidDeskWFootNe
import Derived.Test.YtbeinhdoggfgkaaVFnExactValidDeskWAt
import Derived.Test.YtbeinhdoggfgkaaVFnExactValidDeskWEqStruct
import Derived.Test.YtbeinhdoggfgkaaVFnExactValidDeskWRepsOne
import Derived.Test.YtbeinhdoggfgkaaVFnExactValidDeskWInv
import Derived.Test.YtbeinhdoggfgkaaVFnExactValidDeskWInvWords
import Derived.Test.YtbeinhdoggfgkaaVFnExactValidDeskWGuard
import Derived.Test.YtbeinhdoggfgkaaVFnExactValidDeskWNEv
import Derived.Test.YtbeinhdoggfgkaaVFnExactValidDeskWMore
namespace Go.Proofs.Ytbeinhdoggfgkaa.PFnExactValidDesk
open Go.RowKit Go.Proofs.YtbeinhdoggfgkaaW.PrintWords Go.Proofs.YtbeinhdoggfgkaaW.PrintLast Go.Proofs.YtbeinhdoggfgkaaW.PrintMore
attribute [local go_sem] max2_int min2_int max_two min_two max_three min_three max_four min_four   -- for this text's walks alone
set_option linter.unusedVariables false
set_option linter.unusedSimpArgs false



def errW : Option Int → Value
  | none => .nilIface
  | some c => .iface 0 (.int .i64 c)
theorem errW_none : errW none = .nilIface := rfl
theorem errW_some (c : Int) : errW (some c) = .iface 0 (.int .i64 c) := rfl

theorem info2 : (Try.prog.info? 2).map (fun i => (i.zero, i.size, i.bytes)) = some (some (.int .i64 0), 1, 8) := by kernel_rfl
-- the values' own types

end Go.Proofs.Ytbeinhdoggfgkaa.PFnExactValidDesk

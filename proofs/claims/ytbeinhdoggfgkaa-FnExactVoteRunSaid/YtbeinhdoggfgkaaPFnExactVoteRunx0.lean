-- Written by a program of this session (its own print).
import Derived.Test.YtbeinhdoggfgkaaProg
import Derived.Below
import Derived.Deep.Draws
import Derived.Deep.AppendLies
import Derived.Maps.AppendAt
import Derived.OwnWalk
import Derived.Laws.BytesArg
import Derived.Laws.MakeOwn
import Derived.Laws.OwnMore
import Derived.Deep.OwnRows
import Derived.Tactics
import Derived.Lib.ConvBytes
import Derived.Laws.Slices
import Derived.WalkKit
import Derived.KernelRfl
import Derived.RowKit3
import Derived.Deep.LoopGhost
import Derived.Deep.QuietTactic
import Derived.BigQuiet
import Derived.WideLaws
import Derived.Deep.DeepCutAuto
import Derived.Deep.CutBlock
import Derived.Deep.RegionHeld3
import Derived.Laws.Rows
import Derived.Lib.AppendStr
import Derived.ArgAppend
import Derived.Laws.IdiomCopy
import Derived.OrdersHeld
import Derived.Laws.BitsLemmas
import Derived.RowKit
import Derived.Lib.SliceRun
import Derived.Test.YtbeinhdoggfgkaaVFnExactVoteRunWWords
import Derived.Test.YtbeinhdoggfgkaaVFnExactVoteRunWLast
import Derived.Test.YtbeinhdoggfgkaaVFnExactVoteRunWTab
import Derived.Test.YtbeinhdoggfgkaaVFnExactVoteRunWFour
import Derived.Test.YtbeinhdoggfgkaaVFnExactVoteRunWQPut
import Derived.Test.YtbeinhdoggfgkaaVFnExactVoteRunWApart
import Derived.Test.YtbeinhdoggfgkaaVFnExactVoteRunWArr
import Derived.Test.YtbeinhdoggfgkaaVFnExactVoteRunWZeros
import Derived.Test.YtbeinhdoggfgkaaVFnExactVoteRunWFoot
import Derived.Test.YtbeinhdoggfgkaaVFnExactVoteRunWKept
import Derived.Test.YtbeinhdoggfgkaaVFnExactVoteRunWShare
import Derived.Test.YtbeinhdoggfgkaaVFnExactVoteRunWN
import Derived.Test.YtbeinhdoggfgkaaVFnExactVoteRunWFootNe
import Derived.Test.YtbeinhdoggfgkaaVFnExactVoteRunWAt
import Derived.Test.YtbeinhdoggfgkaaVFnExactVoteRunWEqStruct
import Derived.Test.YtbeinhdoggfgkaaVFnExactVoteRunWRepsOne
import Derived.Test.YtbeinhdoggfgkaaVFnExactVoteRunWInv
import Derived.Test.YtbeinhdoggfgkaaVFnExactVoteRunWInvWords
import Derived.Test.YtbeinhdoggfgkaaVFnExactVoteRunWGuard
import Derived.Test.YtbeinhdoggfgkaaVFnExactVoteRunWNEv
import Derived.Test.YtbeinhdoggfgkaaVFnExactVoteRunWMore
import Derived.Test.YtbeinhdoggfgkaaVFnExactVoteRunCall
namespace Go.Proofs.Ytbeinhdoggfgkaa.PFnExactVoteRun
open Go.RowKit Go.Proofs.YtbeinhdoggfgkaaW.PrintWords Go.Proofs.YtbeinhdoggfgkaaW.PrintLast Go.Proofs.YtbeinhdoggfgkaaW.PrintMore
attribute [local go_sem] max2_int min2_int max_two min_two max_three min_three max_four min_four   -- for this text's walks alone
set_option linter.unusedVariables false
set_option linter.unusedSimpArgs false



def errW : Option Int → Value
  | none => .nilIface
  | some c => .iface 0 (.int .i64 c)
theorem errW_none : errW none = .nilIface := rfl
theorem errW_some (c : Int) : errW (some c) = .iface 0 (.int .i64 c) := rfl

theorem info2 : (Try.prog.info? 2).map (fun i => (i.zero, i.size, i.bytes)) = some (some (.int .i64 0), 1, 8) := by kernel_rfl
-- the values' own types

end Go.Proofs.Ytbeinhdoggfgkaa.PFnExactVoteRun

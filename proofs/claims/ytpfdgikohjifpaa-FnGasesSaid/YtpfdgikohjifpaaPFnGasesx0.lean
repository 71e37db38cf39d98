-- Written by a program of this session (its own print).
import Derived.Test.YtpfdgikohjifpaaProg
import Derived.Below
import Derived.Deep.Draws
import Derived.Deep.AppendLies
import Derived.Maps.AppendAt
import Derived.OwnWalk
import Derived.Laws.BytesArg
import Derived.Laws.MakeOwn
import Derived.Laws.OwnMore
import Derived.Deep.OwnRows
import Derived.Tactics
import Derived.Lib.ConvBytes
import Derived.Laws.Slices
import Derived.WalkKit
import Derived.KernelRfl
import Derived.RowKit3
import Derived.Deep.LoopGhost
import Derived.Deep.QuietTactic
import Derived.BigQuiet
import Derived.WideLaws
import Derived.Deep.DeepCutAuto
import Derived.Deep.CutBlock
import Derived.Deep.RegionHeld3
import Derived.Laws.Rows
import Derived.Lib.AppendStr
import Derived.ArgAppend
import Derived.Laws.IdiomCopy
import Derived.OrdersHeld
import Derived.Laws.BitsLemmas
import Derived.RowKit
import Derived.Lib.SliceRun
import Derived.Test.YtpfdgikohjifpaaVFnGasesWWords
import Derived.Test.YtpfdgikohjifpaaVFnGasesWLast
import Derived.Test.YtpfdgikohjifpaaVFnGasesWTab
import Derived.Test.YtpfdgikohjifpaaVFnGasesWFour
import Derived.Test.YtpfdgikohjifpaaVFnGasesWQPut
import Derived.Test.YtpfdgikohjifpaaVFnGasesWApart
import Derived.Test.YtpfdgikohjifpaaVFnGasesWArr
import Derived.Test.YtpfdgikohjifpaaVFnGasesWZeros
import Derived.Test.YtpfdgikohjifpaaVFnGasesWFoot
import Derived.Test.YtpfdgikohjifpaaVFnGasesWKept
import Derived.Test.YtpfdgikohjifpaaVFnGasesWShare
import Derived.Test.YtpfdgikohjifpaaVFnGasesWN
import Derived.Test.YtpfdgikohjifpaaVFnGasesWFootNe
import Derived.Test.YtpfdgikohjifpaaVFnGasesWAt
import Derived.Test.YtpfdgikohjifpaaVFnGasesWEqStruct
import Derived.Test.YtpfdgikohjifpaaVFnGasesWRepsOne
import Derived.Test.YtpfdgikohjifpaaVFnGasesWInv
import Derived.Test.YtpfdgikohjifpaaVFnGasesWInvWords
import Derived.Test.YtpfdgikohjifpaaVFnGasesWGuard
import Derived.Test.YtpfdgikohjifpaaVFnGasesWNEv
import Derived.Test.YtpfdgikohjifpaaVFnGasesWMore
import Derived.Test.YtpfdgikohjifpaaVFnGasesCall
import Derived.Test.YtpfdgikohjifpaaVFnGasesBytes
namespace Go.Proofs.Ytpfdgikohjifpaa.PFnGases
open Go.RowKit Go.Proofs.YtpfdgikohjifpaaW.PrintWords Go.Proofs.YtpfdgikohjifpaaW.PrintLast Go.Proofs.YtpfdgikohjifpaaW.PrintMore
attribute [local go_sem] max2_int min2_int max_two min_two max_three min_three max_four min_four   -- for this text's walks alone
set_option linter.unusedVariables false
set_option linter.unusedSimpArgs false



def errW : Option Int → Value
  | none => .nilIface
  | some c => .iface 0 (.int .i64 c)
theorem errW_none : errW none = .nilIface := rfl
theorem errW_some (c : Int) : errW (some c) = .iface 0 (.int .i64 c) := rfl

theorem info2 : (Try.prog.info? 2).map (fun i => (i.zero, i.size, i.bytes)) = some (some (.int .i64 0), 1, 8) := by kernel_rfl
theorem info4 : (Try.prog.info? 4).map (fun i => (i.zero, i.size, i.bytes)) = some (some (.bool false), 1, 1) := by kernel_rfl
theorem info67 : (Try.prog.info? 67).map (fun i => (i.zero, i.size, i.bytes)) = some (some (.agg #[(.int .i64 0), (.int .i64 0)]), 2, 16) := by kernel_rfl
-- the values' own types

end Go.Proofs.Ytpfdgikohjifpaa.PFnGases

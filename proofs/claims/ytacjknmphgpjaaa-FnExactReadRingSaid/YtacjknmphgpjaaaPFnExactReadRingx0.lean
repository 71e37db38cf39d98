-- Written by a program of this session (its own print).
import Derived.Test.YtacjknmphgpjaaaProg
import Derived.Below
import Derived.Deep.Draws
import Derived.Deep.AppendLies
import Derived.Maps.AppendAt
import Derived.OwnWalk
import Derived.Laws.BytesArg
import Derived.Laws.MakeOwn
import Derived.Laws.OwnMore
import Derived.Deep.OwnRows
import Derived.Tactics
import Derived.Lib.ConvBytes
import Derived.Laws.Slices
import Derived.WalkKit
import Derived.KernelRfl
import Derived.RowKit3
import Derived.Deep.LoopGhost
import Derived.Deep.QuietTactic
import Derived.BigQuiet
import Derived.WideLaws
import Derived.Deep.DeepCutAuto
import Derived.Deep.CutBlock
import Derived.Deep.RegionHeld3
import Derived.Laws.Rows
import Derived.Lib.AppendStr
import Derived.ArgAppend
import Derived.Laws.IdiomCopy
import Derived.OrdersHeld
import Derived.Laws.BitsLemmas
import Derived.RowKit
import Derived.Lib.SliceRun
import Derived.Test.YtacjknmphgpjaaaWWords
import Derived.Test.YtacjknmphgpjaaaWLast
import Derived.Test.YtacjknmphgpjaaaWTab
import Derived.Test.YtacjknmphgpjaaaWFour
import Derived.Test.YtacjknmphgpjaaaWQPut
import Derived.Test.YtacjknmphgpjaaaWApart
import Derived.Test.YtacjknmphgpjaaaWArr
import Derived.Test.YtacjknmphgpjaaaWZeros
import Derived.Test.YtacjknmphgpjaaaWFoot
import Derived.Test.YtacjknmphgpjaaaWKept
import Derived.Test.YtacjknmphgpjaaaWShare
import Derived.Test.YtacjknmphgpjaaaWN
import Derived.Test.YtacjknmphgpjaaaWFootNe
import Derived.Test.YtacjknmphgpjaaaWAt
import Derived.Test.YtacjknmphgpjaaaWEqStruct
import Derived.Test.YtacjknmphgpjaaaWRepsOne
import Derived.Test.YtacjknmphgpjaaaWInv
import Derived.Test.YtacjknmphgpjaaaWInvWords
import Derived.Test.YtacjknmphgpjaaaWGuard
import Derived.Test.YtacjknmphgpjaaaWNEv
import Derived.Test.YtacjknmphgpjaaaWMore
import Derived.Test.YtacjknmphgpjaaaCall
import Derived.Test.YtacjknmphgpjaaaBytes
namespace Go.Proofs.Ytacjknmphgpjaaa.PFnExactReadRing
open Go.RowKit Go.Proofs.YtacjknmphgpjaaaW.PrintWords Go.Proofs.YtacjknmphgpjaaaW.PrintLast Go.Proofs.YtacjknmphgpjaaaW.PrintMore
attribute [local go_sem] max2_int min2_int max_two min_two max_three min_three max_four min_four   -- for this text's walks alone
set_option linter.unusedVariables false
set_option linter.unusedSimpArgs false



def errW : Option Int → Value
  | none => .nilIface
  | some c => .iface 0 (.int .i64 c)
theorem errW_none : errW none = .nilIface := rfl
theorem errW_some (c : Int) : errW (some c) = .iface 0 (.int .i64 c) := rfl

theorem info2 : (Try.prog.info? 2).map (fun i => (i.zero, i.size, i.bytes)) = some (some (.int .i64 0), 1, 8) := by kernel_rfl
theorem info5 : (Try.prog.info? 5).map (fun i => (i.zero, i.size, i.bytes)) = some (some (.int .u8 0), 1, 1) := by kernel_rfl
-- the values' own types

end Go.Proofs.Ytacjknmphgpjaaa.PFnExactReadRing

/- The shelf's contract of strings.IndexByte, laid, beside what NAMEShelf3 tells. -/
import Derived.Test.YtnkmojmcdcjkmaaDoorShelf3
import Derived.Shelf.Small.Strs
namespace Go.Proofs.YtnkmojmcdcjkmaaDoor.Sh
open Go.Shelf Go.RowKit
def lays137_ren : Go.Shelf.Ren := ⟨fun | 137 => 75 | 217 => 94 | 266 => 108 | n => n, fun n => n, fun n => n⟩
theorem lays137 : Go.Proofs.Lays.n137 Tryd.prog lays137_ren := {
  mixed := (by kernel_rfl),
  f137 := Tryd.func75.trans (congrArg some (by kernel_rfl)),
  f217 := Tryd.func94.trans (congrArg some (by kernel_rfl)),
  f266 := Tryd.func108.trans (congrArg some (by kernel_rfl)),
  t3 := Tryd.underlying3,
  a3 := Tryd.isAgg3,
  z3 := Tryd.sizeOf3,
  v3 := Tryd.zeroValue3,
  t5 := Tryd.underlying5,
  a5 := Tryd.isAgg5,
  z5 := Tryd.sizeOf5,
  v5 := Tryd.zeroValue5,
  t9 := Tryd.underlying9,
  a9 := Tryd.isAgg9,
  z9 := Tryd.sizeOf9,
  v9 := Tryd.zeroValue9 }
end Go.Proofs.YtnkmojmcdcjkmaaDoor.Sh

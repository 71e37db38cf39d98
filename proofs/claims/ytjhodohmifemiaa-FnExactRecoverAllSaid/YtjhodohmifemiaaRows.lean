/-
  No cell of these rows narrows 'for every input' (looked for: loops, veiled, ifaces, maps, wideKeys, modest, calm, conditions, laid).
  DERIVED. THE GIVEN ROWS OF THIS SEAT. 10 by the template 'for every input the law returns true; each argument reads behind the call as it read before'; 0 by the template 'total and deterministic' (their statements: YtjhodohmifemiaaTotals.lean).
  GIVEN WITH THE SEED: the statements are not yours to turn. If you find one false, say at which input.
  Laid BY PROGRAM, IN A SANDBOX (cutbox-rows.mjs): the forced cells as the released guide's own fill.sh prints them over the translation 0fbc5be400527c3f… (all of the seat's roots in one cut). By AI agents, Wed Nov 11 2026. No macro, syntax, notation, axiom, sorry.
-/
import Derived.Test.YtjhodohmifemiaaChecked
import GoSem.Claim
import GoSem.ClaimJoined
import GoSem.ClaimMapViews
import Derived.JoinedTies
import Derived.KernelRfl
namespace Go.Proofs.Ytjhodohmifemiaa
/- THE CELL 'sum', in the pinned program and in every row, IS THE sha256 OF THE DUMP (.gsa) THAT YtjhodohmifemiaaProg.lean LOADS. Nothing in Lean hashes anything: it is a label: what it is worth is what the hold of that sum in a sandbox is worth. -/
noncomputable def Try.pinned : Pinned := { name := "ytjhodohmifemiaa", sum := "0fbc5be400527c3f007d6bc51afe0a736722becce92142c0b94b8e86d36dad42", checked := Try.checked }
namespace Rows
def none {H : Type} : Left H := { results := [], args := [] }

/-- 'laws.FnExactStreamGas': WHATEVER THE INPUT: true; the input reads as it did. -/
def fnExactStreamGasSpec : ChangeSpec := { name := "fnExactStreamGas", fn := fun _ => fun
  | [d] => { results := [.lit (.bool true)], args := [d] }
  | _ => none }
def fnExactStreamGasRow : OpenClaim := { program := "ytjhodohmifemiaa", sum := "0fbc5be400527c3f007d6bc51afe0a736722becce92142c0b94b8e86d36dad42", func := "loop.example/g01381/laws.FnExactStreamGas", spec := "fnExactStreamGas", unfollowed := true, recurses := true, apart := false }
def FnExactStreamGasSaid : Prop := fnExactStreamGasRow.holds Try.pinned (OpenSpec.ofChange fnExactStreamGasSpec)

/-- ITS FALSE NEIGHBOUR: 'it returns false'. Refute it at one input. -/
def fnExactStreamGasWrong : ChangeSpec := { name := "fnExactStreamGas", fn := fun _ => fun
  | [d] => { results := [.lit (.bool false)], args := [d] }
  | _ => none }
def FnExactStreamGasWrongFalsely : Prop := fnExactStreamGasRow.holds Try.pinned (OpenSpec.ofChange fnExactStreamGasWrong)

/-- 'laws.FnExactCollideGas': WHATEVER THE INPUT: true; the input reads as it did. -/
def fnExactCollideGasSpec : ChangeSpec := { name := "fnExactCollideGas", fn := fun _ => fun
  | [d1, d2] => { results := [.lit (.bool true)], args := [d1, d2] }
  | _ => none }
def fnExactCollideGasRow : OpenClaim := { program := "ytjhodohmifemiaa", sum := "0fbc5be400527c3f007d6bc51afe0a736722becce92142c0b94b8e86d36dad42", func := "loop.example/g01381/laws.FnExactCollideGas", spec := "fnExactCollideGas", unfollowed := true, recurses := true, apart := false }
def FnExactCollideGasSaid : Prop := fnExactCollideGasRow.holds Try.pinned (OpenSpec.ofChange fnExactCollideGasSpec)

/-- ITS FALSE NEIGHBOUR: 'it returns false'. Refute it at one input. -/
def fnExactCollideGasWrong : ChangeSpec := { name := "fnExactCollideGas", fn := fun _ => fun
  | [d1, d2] => { results := [.lit (.bool false)], args := [d1, d2] }
  | _ => none }
def FnExactCollideGasWrongFalsely : Prop := fnExactCollideGasRow.holds Try.pinned (OpenSpec.ofChange fnExactCollideGasWrong)

/-- 'laws.FnExactRunGas': WHATEVER THE INPUT: true; the input reads as it did. -/
def fnExactRunGasSpec : ChangeSpec := { name := "fnExactRunGas", fn := fun _ => fun
  | [d1, d2] => { results := [.lit (.bool true)], args := [d1, d2] }
  | _ => none }
def fnExactRunGasRow : OpenClaim := { program := "ytjhodohmifemiaa", sum := "0fbc5be400527c3f007d6bc51afe0a736722becce92142c0b94b8e86d36dad42", func := "loop.example/g01381/laws.FnExactRunGas", spec := "fnExactRunGas", unfollowed := true, recurses := true, apart := false }
def FnExactRunGasSaid : Prop := fnExactRunGasRow.holds Try.pinned (OpenSpec.ofChange fnExactRunGasSpec)

/-- ITS FALSE NEIGHBOUR: 'it returns false'. Refute it at one input. -/
def fnExactRunGasWrong : ChangeSpec := { name := "fnExactRunGas", fn := fun _ => fun
  | [d1, d2] => { results := [.lit (.bool false)], args := [d1, d2] }
  | _ => none }
def FnExactRunGasWrongFalsely : Prop := fnExactRunGasRow.holds Try.pinned (OpenSpec.ofChange fnExactRunGasWrong)

/-- 'laws.FnGases': WHATEVER THE INPUT: true; the input reads as it did. -/
def fnGasesSpec : ChangeSpec := { name := "fnGases", fn := fun _ => fun
  | [d1, d2] => { results := [.lit (.bool true)], args := [d1, d2] }
  | _ => none }
def fnGasesRow : OpenClaim := { program := "ytjhodohmifemiaa", sum := "0fbc5be400527c3f007d6bc51afe0a736722becce92142c0b94b8e86d36dad42", func := "loop.example/g01381/laws.FnGases", spec := "fnGases", unfollowed := true, recurses := true, apart := false }
def FnGasesSaid : Prop := fnGasesRow.holds Try.pinned (OpenSpec.ofChange fnGasesSpec)

/-- ITS FALSE NEIGHBOUR: 'it returns false'. Refute it at one input. -/
def fnGasesWrong : ChangeSpec := { name := "fnGases", fn := fun _ => fun
  | [d1, d2] => { results := [.lit (.bool false)], args := [d1, d2] }
  | _ => none }
def FnGasesWrongFalsely : Prop := fnGasesRow.holds Try.pinned (OpenSpec.ofChange fnGasesWrong)

/-- 'laws.FnExactReadLife': WHATEVER THE INPUT: true; the input reads as it did. -/
def fnExactReadLifeSpec : ChangeSpec := { name := "fnExactReadLife", fn := fun _ => fun
  | [d] => { results := [.lit (.bool true)], args := [d] }
  | _ => none }
def fnExactReadLifeRow : OpenClaim := { program := "ytjhodohmifemiaa", sum := "0fbc5be400527c3f007d6bc51afe0a736722becce92142c0b94b8e86d36dad42", func := "loop.example/g01381/laws.FnExactReadLife", spec := "fnExactReadLife", inPlace := ["internal/bytealg.IndexByteString", "internal/bytealg.IndexString"], named := ["internal/bytealg.MaxLen"], apart := false }
def FnExactReadLifeSaid : Prop := fnExactReadLifeRow.holds Try.pinned (OpenSpec.ofChange fnExactReadLifeSpec)

/-- ITS FALSE NEIGHBOUR: 'it returns false'. Refute it at one input. -/
def fnExactReadLifeWrong : ChangeSpec := { name := "fnExactReadLife", fn := fun _ => fun
  | [d] => { results := [.lit (.bool false)], args := [d] }
  | _ => none }
def FnExactReadLifeWrongFalsely : Prop := fnExactReadLifeRow.holds Try.pinned (OpenSpec.ofChange fnExactReadLifeWrong)

/-- 'laws.FnExactStoreSaved': WHATEVER THE INPUT: true; the input reads as it did. -/
def fnExactStoreSavedSpec : ChangeSpec := { name := "fnExactStoreSaved", fn := fun _ => fun
  | [d] => { results := [.lit (.bool true)], args := [d] }
  | _ => none }
def fnExactStoreSavedRow : OpenClaim := { program := "ytjhodohmifemiaa", sum := "0fbc5be400527c3f007d6bc51afe0a736722becce92142c0b94b8e86d36dad42", func := "loop.example/g01381/laws.FnExactStoreSaved", spec := "fnExactStoreSaved", apart := false }
def FnExactStoreSavedSaid : Prop := fnExactStoreSavedRow.holds Try.pinned (OpenSpec.ofChange fnExactStoreSavedSpec)

/-- ITS FALSE NEIGHBOUR: 'it returns false'. Refute it at one input. -/
def fnExactStoreSavedWrong : ChangeSpec := { name := "fnExactStoreSaved", fn := fun _ => fun
  | [d] => { results := [.lit (.bool false)], args := [d] }
  | _ => none }
def FnExactStoreSavedWrongFalsely : Prop := fnExactStoreSavedRow.holds Try.pinned (OpenSpec.ofChange fnExactStoreSavedWrong)

/-- 'laws.FnExactStoreAll': WHATEVER THE INPUT: true; the input reads as it did. -/
def fnExactStoreAllSpec : ChangeSpec := { name := "fnExactStoreAll", fn := fun _ => fun
  | [d] => { results := [.lit (.bool true)], args := [d] }
  | _ => none }
def fnExactStoreAllRow : OpenClaim := { program := "ytjhodohmifemiaa", sum := "0fbc5be400527c3f007d6bc51afe0a736722becce92142c0b94b8e86d36dad42", func := "loop.example/g01381/laws.FnExactStoreAll", spec := "fnExactStoreAll", apart := false }
def FnExactStoreAllSaid : Prop := fnExactStoreAllRow.holds Try.pinned (OpenSpec.ofChange fnExactStoreAllSpec)

/-- ITS FALSE NEIGHBOUR: 'it returns false'. Refute it at one input. -/
def fnExactStoreAllWrong : ChangeSpec := { name := "fnExactStoreAll", fn := fun _ => fun
  | [d] => { results := [.lit (.bool false)], args := [d] }
  | _ => none }
def FnExactStoreAllWrongFalsely : Prop := fnExactStoreAllRow.holds Try.pinned (OpenSpec.ofChange fnExactStoreAllWrong)

/-- 'laws.FnExactLoadSaved': WHATEVER THE INPUT: true; the input reads as it did. -/
def fnExactLoadSavedSpec : ChangeSpec := { name := "fnExactLoadSaved", fn := fun _ => fun
  | [d] => { results := [.lit (.bool true)], args := [d] }
  | _ => none }
def fnExactLoadSavedRow : OpenClaim := { program := "ytjhodohmifemiaa", sum := "0fbc5be400527c3f007d6bc51afe0a736722becce92142c0b94b8e86d36dad42", func := "loop.example/g01381/laws.FnExactLoadSaved", spec := "fnExactLoadSaved", inPlace := ["internal/abi.NoEscape", "internal/bytealg.MakeNoZero"], apart := false }
def FnExactLoadSavedSaid : Prop := fnExactLoadSavedRow.holds Try.pinned (OpenSpec.ofChange fnExactLoadSavedSpec)

/-- ITS FALSE NEIGHBOUR: 'it returns false'. Refute it at one input. -/
def fnExactLoadSavedWrong : ChangeSpec := { name := "fnExactLoadSaved", fn := fun _ => fun
  | [d] => { results := [.lit (.bool false)], args := [d] }
  | _ => none }
def FnExactLoadSavedWrongFalsely : Prop := fnExactLoadSavedRow.holds Try.pinned (OpenSpec.ofChange fnExactLoadSavedWrong)

/-- 'laws.FnExactRecoverAll': WHATEVER THE INPUT: true; the input reads as it did. -/
def fnExactRecoverAllSpec : ChangeSpec := { name := "fnExactRecoverAll", fn := fun _ => fun
  | [d] => { results := [.lit (.bool true)], args := [d] }
  | _ => none }
def fnExactRecoverAllRow : OpenClaim := { program := "ytjhodohmifemiaa", sum := "0fbc5be400527c3f007d6bc51afe0a736722becce92142c0b94b8e86d36dad42", func := "loop.example/g01381/laws.FnExactRecoverAll", spec := "fnExactRecoverAll", inPlace := ["internal/abi.NoEscape", "internal/bytealg.MakeNoZero"], apart := false }
def FnExactRecoverAllSaid : Prop := fnExactRecoverAllRow.holds Try.pinned (OpenSpec.ofChange fnExactRecoverAllSpec)

/-- ITS FALSE NEIGHBOUR: 'it returns false'. Refute it at one input. -/
def fnExactRecoverAllWrong : ChangeSpec := { name := "fnExactRecoverAll", fn := fun _ => fun
  | [d] => { results := [.lit (.bool false)], args := [d] }
  | _ => none }
def FnExactRecoverAllWrongFalsely : Prop := fnExactRecoverAllRow.holds Try.pinned (OpenSpec.ofChange fnExactRecoverAllWrong)

/-- 'laws.FnSavedCells': WHATEVER THE INPUT: true; the input reads as it did. -/
def fnSavedCellsSpec : ChangeSpec := { name := "fnSavedCells", fn := fun _ => fun
  | [d1, d2] => { results := [.lit (.bool true)], args := [d1, d2] }
  | _ => none }
def fnSavedCellsRow : OpenClaim := { program := "ytjhodohmifemiaa", sum := "0fbc5be400527c3f007d6bc51afe0a736722becce92142c0b94b8e86d36dad42", func := "loop.example/g01381/laws.FnSavedCells", spec := "fnSavedCells", inPlace := ["internal/abi.NoEscape", "internal/bytealg.MakeNoZero"], unfollowed := true, recurses := true, apart := false }
def FnSavedCellsSaid : Prop := fnSavedCellsRow.holds Try.pinned (OpenSpec.ofChange fnSavedCellsSpec)

/-- ITS FALSE NEIGHBOUR: 'it returns false'. Refute it at one input. -/
def fnSavedCellsWrong : ChangeSpec := { name := "fnSavedCells", fn := fun _ => fun
  | [d1, d2] => { results := [.lit (.bool false)], args := [d1, d2] }
  | _ => none }
def FnSavedCellsWrongFalsely : Prop := fnSavedCellsRow.holds Try.pinned (OpenSpec.ofChange fnSavedCellsWrong)

/- THE SECOND FORM. 'bulk': how many values and letters a reading holds, each counted each time it is reached (what is shared counts as often as it is met; a slice's spare places count too). A statement '..UptoSaid' is the law's where the arguments, and the package variables that the reading takes, are together of bulk at most 1048576: NARROWER than '..Said'. Prove '..Said' where nothing that the law and all that it calls make is longer than what came in: it says more and counts as full. Else prove '..UptoSaid'. A law counts once. -/
mutual
def uptoBulk {H : Type} : DataW H → Nat
  | .lit (.string bytes) => bytes.length + 1
  | .lit _ => 1
  | .nil => 1
  | .ptr d => uptoBulk d + 1
  | .slice elems spare => uptoBulkAll elems + uptoBulkAll spare + 1
  | .agg parts => uptoBulkAll parts + 1
  | .iface _ d => uptoBulk d + 1
  | .map entries => uptoBulkEntries entries + 1
  | .held _ => 1
def uptoBulkAll {H : Type} : List (DataW H) → Nat
  | [] => 0
  | d :: r => uptoBulk d + uptoBulkAll r
def uptoBulkEntries {H : Type} : List (Lit × DataW H) → Nat
  | [] => 0
  | x :: r => uptoBulkEntry x + uptoBulkEntries r
def uptoBulkEntry {H : Type} : Lit × DataW H → Nat
  | (.string bytes, d) => bytes.length + uptoBulk d + 1
  | (_, d) => uptoBulk d + 1
 end
def uptoSmall : (H : Type) → List (DataW H) → Bool := fun _ ds => decide (uptoBulkAll ds ≤ 1048576)
def OpenSpec.upto (s : _root_.Go.ChangeSpec) : _root_.Go.OpenSpec := { _root_.Go.OpenSpec.ofChange s with cond := some uptoSmall }

/-- 'laws.FnExactStreamGas', WHERE WHAT IT READS IS OF BULK AT MOST 1048576: true; the input reads as it did. -/
def fnExactStreamGasUptoRow : OpenClaim := { program := "ytjhodohmifemiaa", sum := "0fbc5be400527c3f007d6bc51afe0a736722becce92142c0b94b8e86d36dad42", func := "loop.example/g01381/laws.FnExactStreamGas", spec := "fnExactStreamGas", unfollowed := true, recurses := true, apart := false, narrowed := true }
def FnExactStreamGasUptoSaid : Prop := fnExactStreamGasUptoRow.holds Try.pinned (OpenSpec.upto fnExactStreamGasSpec)

/-- 'laws.FnExactCollideGas', WHERE WHAT IT READS IS OF BULK AT MOST 1048576: true; the input reads as it did. -/
def fnExactCollideGasUptoRow : OpenClaim := { program := "ytjhodohmifemiaa", sum := "0fbc5be400527c3f007d6bc51afe0a736722becce92142c0b94b8e86d36dad42", func := "loop.example/g01381/laws.FnExactCollideGas", spec := "fnExactCollideGas", unfollowed := true, recurses := true, apart := false, narrowed := true }
def FnExactCollideGasUptoSaid : Prop := fnExactCollideGasUptoRow.holds Try.pinned (OpenSpec.upto fnExactCollideGasSpec)

/-- 'laws.FnExactRunGas', WHERE WHAT IT READS IS OF BULK AT MOST 1048576: true; the input reads as it did. -/
def fnExactRunGasUptoRow : OpenClaim := { program := "ytjhodohmifemiaa", sum := "0fbc5be400527c3f007d6bc51afe0a736722becce92142c0b94b8e86d36dad42", func := "loop.example/g01381/laws.FnExactRunGas", spec := "fnExactRunGas", unfollowed := true, recurses := true, apart := false, narrowed := true }
def FnExactRunGasUptoSaid : Prop := fnExactRunGasUptoRow.holds Try.pinned (OpenSpec.upto fnExactRunGasSpec)

/-- 'laws.FnGases', WHERE WHAT IT READS IS OF BULK AT MOST 1048576: true; the input reads as it did. -/
def fnGasesUptoRow : OpenClaim := { program := "ytjhodohmifemiaa", sum := "0fbc5be400527c3f007d6bc51afe0a736722becce92142c0b94b8e86d36dad42", func := "loop.example/g01381/laws.FnGases", spec := "fnGases", unfollowed := true, recurses := true, apart := false, narrowed := true }
def FnGasesUptoSaid : Prop := fnGasesUptoRow.holds Try.pinned (OpenSpec.upto fnGasesSpec)

/-- 'laws.FnExactReadLife', WHERE WHAT IT READS IS OF BULK AT MOST 1048576: true; the input reads as it did. -/
def fnExactReadLifeUptoRow : OpenClaim := { program := "ytjhodohmifemiaa", sum := "0fbc5be400527c3f007d6bc51afe0a736722becce92142c0b94b8e86d36dad42", func := "loop.example/g01381/laws.FnExactReadLife", spec := "fnExactReadLife", inPlace := ["internal/bytealg.IndexByteString", "internal/bytealg.IndexString"], named := ["internal/bytealg.MaxLen"], apart := false, narrowed := true }
def FnExactReadLifeUptoSaid : Prop := fnExactReadLifeUptoRow.holds Try.pinned (OpenSpec.upto fnExactReadLifeSpec)

/-- 'laws.FnExactStoreSaved', WHERE WHAT IT READS IS OF BULK AT MOST 1048576: true; the input reads as it did. -/
def fnExactStoreSavedUptoRow : OpenClaim := { program := "ytjhodohmifemiaa", sum := "0fbc5be400527c3f007d6bc51afe0a736722becce92142c0b94b8e86d36dad42", func := "loop.example/g01381/laws.FnExactStoreSaved", spec := "fnExactStoreSaved", apart := false, narrowed := true }
def FnExactStoreSavedUptoSaid : Prop := fnExactStoreSavedUptoRow.holds Try.pinned (OpenSpec.upto fnExactStoreSavedSpec)

/-- 'laws.FnExactStoreAll', WHERE WHAT IT READS IS OF BULK AT MOST 1048576: true; the input reads as it did. -/
def fnExactStoreAllUptoRow : OpenClaim := { program := "ytjhodohmifemiaa", sum := "0fbc5be400527c3f007d6bc51afe0a736722becce92142c0b94b8e86d36dad42", func := "loop.example/g01381/laws.FnExactStoreAll", spec := "fnExactStoreAll", apart := false, narrowed := true }
def FnExactStoreAllUptoSaid : Prop := fnExactStoreAllUptoRow.holds Try.pinned (OpenSpec.upto fnExactStoreAllSpec)

/-- 'laws.FnExactLoadSaved', WHERE WHAT IT READS IS OF BULK AT MOST 1048576: true; the input reads as it did. -/
def fnExactLoadSavedUptoRow : OpenClaim := { program := "ytjhodohmifemiaa", sum := "0fbc5be400527c3f007d6bc51afe0a736722becce92142c0b94b8e86d36dad42", func := "loop.example/g01381/laws.FnExactLoadSaved", spec := "fnExactLoadSaved", inPlace := ["internal/abi.NoEscape", "internal/bytealg.MakeNoZero"], apart := false, narrowed := true }
def FnExactLoadSavedUptoSaid : Prop := fnExactLoadSavedUptoRow.holds Try.pinned (OpenSpec.upto fnExactLoadSavedSpec)

/-- 'laws.FnExactRecoverAll', WHERE WHAT IT READS IS OF BULK AT MOST 1048576: true; the input reads as it did. -/
def fnExactRecoverAllUptoRow : OpenClaim := { program := "ytjhodohmifemiaa", sum := "0fbc5be400527c3f007d6bc51afe0a736722becce92142c0b94b8e86d36dad42", func := "loop.example/g01381/laws.FnExactRecoverAll", spec := "fnExactRecoverAll", inPlace := ["internal/abi.NoEscape", "internal/bytealg.MakeNoZero"], apart := false, narrowed := true }
def FnExactRecoverAllUptoSaid : Prop := fnExactRecoverAllUptoRow.holds Try.pinned (OpenSpec.upto fnExactRecoverAllSpec)

/-- 'laws.FnSavedCells', WHERE WHAT IT READS IS OF BULK AT MOST 1048576: true; the input reads as it did. -/
def fnSavedCellsUptoRow : OpenClaim := { program := "ytjhodohmifemiaa", sum := "0fbc5be400527c3f007d6bc51afe0a736722becce92142c0b94b8e86d36dad42", func := "loop.example/g01381/laws.FnSavedCells", spec := "fnSavedCells", inPlace := ["internal/abi.NoEscape", "internal/bytealg.MakeNoZero"], unfollowed := true, recurses := true, apart := false, narrowed := true }
def FnSavedCellsUptoSaid : Prop := fnSavedCellsUptoRow.holds Try.pinned (OpenSpec.upto fnSavedCellsSpec)

end Rows
end Go.Proofs.Ytjhodohmifemiaa

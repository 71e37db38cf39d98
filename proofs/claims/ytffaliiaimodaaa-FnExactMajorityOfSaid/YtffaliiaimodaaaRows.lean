/-
  No cell of these rows narrows 'for every input' (looked for: loops, veiled, ifaces, maps, wideKeys, modest, calm, conditions, laid).
  DERIVED. THE GIVEN ROWS OF THIS SEAT. 4 by the template 'for every input the law returns true; each argument reads behind the call as it read before'; 0 by the template 'total and deterministic' (their statements: YtffaliiaimodaaaTotals.lean).
  GIVEN WITH THE SEED: the statements are not yours to turn. If you find one false, say at which input.
  Laid BY PROGRAM, IN A SANDBOX (cutbox-rows.mjs): the forced cells as the released guide's own fill.sh prints them over the translation a65444066c4f6f22… (all of the seat's roots in one cut). By AI agents, Wed Nov 11 2026. No macro, syntax, notation, axiom, sorry.
-/
import Derived.Test.YtffaliiaimodaaaChecked
import GoSem.Claim
import GoSem.ClaimJoined
import GoSem.ClaimMapViews
import Derived.JoinedTies
import Derived.KernelRfl
namespace Go.Proofs.Ytffaliiaimodaaa
/- THE CELL 'sum', in the pinned program and in every row, IS THE sha256 OF THE DUMP (.gsa) THAT YtffaliiaimodaaaProg.lean LOADS. Nothing in Lean hashes anything: it is a label: what it is worth is what the hold of that sum in a sandbox is worth. -/
noncomputable def Try.pinned : Pinned := { name := "ytffaliiaimodaaa", sum := "a65444066c4f6f2215320b37032be00a7b830de15594b6dae3a30e85545594bf", checked := Try.checked }
namespace Rows
def none {H : Type} : Left H := { results := [], args := [] }

/-- 'laws.FnExactRingText': WHATEVER THE INPUT: true; the input reads as it did. -/
def fnExactRingTextSpec : ChangeSpec := { name := "fnExactRingText", fn := fun _ => fun
  | [d] => { results := [.lit (.bool true)], args := [d] }
  | _ => none }
def fnExactRingTextRow : OpenClaim := { program := "ytffaliiaimodaaa", sum := "a65444066c4f6f2215320b37032be00a7b830de15594b6dae3a30e85545594bf", func := "loop.example/g01381/laws.FnExactRingText", spec := "fnExactRingText", apart := false }
def FnExactRingTextSaid : Prop := fnExactRingTextRow.holds Try.pinned (OpenSpec.ofChange fnExactRingTextSpec)

/-- ITS FALSE NEIGHBOUR: 'it returns false'. Refute it at one input. -/
def fnExactRingTextWrong : ChangeSpec := { name := "fnExactRingText", fn := fun _ => fun
  | [d] => { results := [.lit (.bool false)], args := [d] }
  | _ => none }
def FnExactRingTextWrongFalsely : Prop := fnExactRingTextRow.holds Try.pinned (OpenSpec.ofChange fnExactRingTextWrong)

/-- 'laws.FnExactMajorityOf': WHATEVER THE INPUT: true; the input reads as it did. -/
def fnExactMajorityOfSpec : ChangeSpec := { name := "fnExactMajorityOf", fn := fun _ => fun
  | [d] => { results := [.lit (.bool true)], args := [d] }
  | _ => none }
def fnExactMajorityOfRow : OpenClaim := { program := "ytffaliiaimodaaa", sum := "a65444066c4f6f2215320b37032be00a7b830de15594b6dae3a30e85545594bf", func := "loop.example/g01381/laws.FnExactMajorityOf", spec := "fnExactMajorityOf", apart := false }
def FnExactMajorityOfSaid : Prop := fnExactMajorityOfRow.holds Try.pinned (OpenSpec.ofChange fnExactMajorityOfSpec)

/-- ITS FALSE NEIGHBOUR: 'it returns false'. Refute it at one input. -/
def fnExactMajorityOfWrong : ChangeSpec := { name := "fnExactMajorityOf", fn := fun _ => fun
  | [d] => { results := [.lit (.bool false)], args := [d] }
  | _ => none }
def FnExactMajorityOfWrongFalsely : Prop := fnExactMajorityOfRow.holds Try.pinned (OpenSpec.ofChange fnExactMajorityOfWrong)

/-- 'laws.FnExactReadRing': WHATEVER THE INPUT: true; the input reads as it did. -/
def fnExactReadRingSpec : ChangeSpec := { name := "fnExactReadRing", fn := fun _ => fun
  | [d] => { results := [.lit (.bool true)], args := [d] }
  | _ => none }
def fnExactReadRingRow : OpenClaim := { program := "ytffaliiaimodaaa", sum := "a65444066c4f6f2215320b37032be00a7b830de15594b6dae3a30e85545594bf", func := "loop.example/g01381/laws.FnExactReadRing", spec := "fnExactReadRing", apart := false }
def FnExactReadRingSaid : Prop := fnExactReadRingRow.holds Try.pinned (OpenSpec.ofChange fnExactReadRingSpec)

/-- ITS FALSE NEIGHBOUR: 'it returns false'. Refute it at one input. -/
def fnExactReadRingWrong : ChangeSpec := { name := "fnExactReadRing", fn := fun _ => fun
  | [d] => { results := [.lit (.bool false)], args := [d] }
  | _ => none }
def FnExactReadRingWrongFalsely : Prop := fnExactReadRingRow.holds Try.pinned (OpenSpec.ofChange fnExactReadRingWrong)

/-- 'laws.FnExactLifeText': WHATEVER THE INPUT: true; the input reads as it did. -/
def fnExactLifeTextSpec : ChangeSpec := { name := "fnExactLifeText", fn := fun _ => fun
  | [d] => { results := [.lit (.bool true)], args := [d] }
  | _ => none }
def fnExactLifeTextRow : OpenClaim := { program := "ytffaliiaimodaaa", sum := "a65444066c4f6f2215320b37032be00a7b830de15594b6dae3a30e85545594bf", func := "loop.example/g01381/laws.FnExactLifeText", spec := "fnExactLifeText", apart := false }
def FnExactLifeTextSaid : Prop := fnExactLifeTextRow.holds Try.pinned (OpenSpec.ofChange fnExactLifeTextSpec)

/-- ITS FALSE NEIGHBOUR: 'it returns false'. Refute it at one input. -/
def fnExactLifeTextWrong : ChangeSpec := { name := "fnExactLifeText", fn := fun _ => fun
  | [d] => { results := [.lit (.bool false)], args := [d] }
  | _ => none }
def FnExactLifeTextWrongFalsely : Prop := fnExactLifeTextRow.holds Try.pinned (OpenSpec.ofChange fnExactLifeTextWrong)

/- THE SECOND FORM. 'bulk': how many values and letters a reading holds, each counted each time it is reached (what is shared counts as often as it is met; a slice's spare places count too). A statement '..UptoSaid' is the law's where the arguments, and the package variables that the reading takes, are together of bulk at most 1048576: NARROWER than '..Said'. Prove '..Said' where nothing that the law and all that it calls make is longer than what came in: it says more and counts as full. Else prove '..UptoSaid'. A law counts once. -/
mutual
def uptoBulk {H : Type} : DataW H → Nat
  | .lit (.string bytes) => bytes.length + 1
  | .lit _ => 1
  | .nil => 1
  | .ptr d => uptoBulk d + 1
  | .slice elems spare => uptoBulkAll elems + uptoBulkAll spare + 1
  | .agg parts => uptoBulkAll parts + 1
  | .iface _ d => uptoBulk d + 1
  | .map entries => uptoBulkEntries entries + 1
  | .held _ => 1
def uptoBulkAll {H : Type} : List (DataW H) → Nat
  | [] => 0
  | d :: r => uptoBulk d + uptoBulkAll r
def uptoBulkEntries {H : Type} : List (Lit × DataW H) → Nat
  | [] => 0
  | x :: r => uptoBulkEntry x + uptoBulkEntries r
def uptoBulkEntry {H : Type} : Lit × DataW H → Nat
  | (.string bytes, d) => bytes.length + uptoBulk d + 1
  | (_, d) => uptoBulk d + 1
 end
def uptoSmall : (H : Type) → List (DataW H) → Bool := fun _ ds => decide (uptoBulkAll ds ≤ 1048576)
def OpenSpec.upto (s : _root_.Go.ChangeSpec) : _root_.Go.OpenSpec := { _root_.Go.OpenSpec.ofChange s with cond := some uptoSmall }

/-- 'laws.FnExactRingText', WHERE WHAT IT READS IS OF BULK AT MOST 1048576: true; the input reads as it did. -/
def fnExactRingTextUptoRow : OpenClaim := { program := "ytffaliiaimodaaa", sum := "a65444066c4f6f2215320b37032be00a7b830de15594b6dae3a30e85545594bf", func := "loop.example/g01381/laws.FnExactRingText", spec := "fnExactRingText", apart := false, narrowed := true }
def FnExactRingTextUptoSaid : Prop := fnExactRingTextUptoRow.holds Try.pinned (OpenSpec.upto fnExactRingTextSpec)

/-- 'laws.FnExactMajorityOf', WHERE WHAT IT READS IS OF BULK AT MOST 1048576: true; the input reads as it did. -/
def fnExactMajorityOfUptoRow : OpenClaim := { program := "ytffaliiaimodaaa", sum := "a65444066c4f6f2215320b37032be00a7b830de15594b6dae3a30e85545594bf", func := "loop.example/g01381/laws.FnExactMajorityOf", spec := "fnExactMajorityOf", apart := false, narrowed := true }
def FnExactMajorityOfUptoSaid : Prop := fnExactMajorityOfUptoRow.holds Try.pinned (OpenSpec.upto fnExactMajorityOfSpec)

/-- 'laws.FnExactReadRing', WHERE WHAT IT READS IS OF BULK AT MOST 1048576: true; the input reads as it did. -/
def fnExactReadRingUptoRow : OpenClaim := { program := "ytffaliiaimodaaa", sum := "a65444066c4f6f2215320b37032be00a7b830de15594b6dae3a30e85545594bf", func := "loop.example/g01381/laws.FnExactReadRing", spec := "fnExactReadRing", apart := false, narrowed := true }
def FnExactReadRingUptoSaid : Prop := fnExactReadRingUptoRow.holds Try.pinned (OpenSpec.upto fnExactReadRingSpec)

/-- 'laws.FnExactLifeText', WHERE WHAT IT READS IS OF BULK AT MOST 1048576: true; the input reads as it did. -/
def fnExactLifeTextUptoRow : OpenClaim := { program := "ytffaliiaimodaaa", sum := "a65444066c4f6f2215320b37032be00a7b830de15594b6dae3a30e85545594bf", func := "loop.example/g01381/laws.FnExactLifeText", spec := "fnExactLifeText", apart := false, narrowed := true }
def FnExactLifeTextUptoSaid : Prop := fnExactLifeTextUptoRow.holds Try.pinned (OpenSpec.upto fnExactLifeTextSpec)

end Rows
end Go.Proofs.Ytffaliiaimodaaa

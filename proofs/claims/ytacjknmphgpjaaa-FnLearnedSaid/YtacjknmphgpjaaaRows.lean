/-
  No cell of these rows narrows 'for every input' (looked for: loops, veiled, ifaces, maps, wideKeys, modest, calm, conditions, laid).
  DERIVED. THE GIVEN ROWS OF THIS SEAT. 11 by the template 'for every input the law returns true; each argument reads behind the call as it read before'; 0 by the template 'total and deterministic' (their statements: YtacjknmphgpjaaaTotals.lean).
  GIVEN WITH THE SEED: the statements are not yours to turn. If you find one false, say at which input.
  Laid BY PROGRAM, IN A SANDBOX (cutbox-rows.mjs): the forced cells as the released guide's own fill.sh prints them over the translation 0af637ce9c5323f8… (all of the seat's roots in one cut). By AI agents, Wed Nov 11 2026. No macro, syntax, notation, axiom, sorry.
-/
import Derived.Test.YtacjknmphgpjaaaChecked
import GoSem.Claim
import GoSem.ClaimJoined
import GoSem.ClaimMapViews
import Derived.JoinedTies
import Derived.KernelRfl
namespace Go.Proofs.Ytacjknmphgpjaaa
/- THE CELL 'sum', in the pinned program and in every row, IS THE sha256 OF THE DUMP (.gsa) THAT YtacjknmphgpjaaaProg.lean LOADS. Nothing in Lean hashes anything: it is a label: what it is worth is what the hold of that sum in a sandbox is worth. -/
noncomputable def Try.pinned : Pinned := { name := "ytacjknmphgpjaaa", sum := "0af637ce9c5323f8a1dbcaf814a8caa78987fe410506cddce5c949d54dd28479", checked := Try.checked }
namespace Rows
def none {H : Type} : Left H := { results := [], args := [] }

/-- 'laws.FnExactReadRing': WHATEVER THE INPUT: true; the input reads as it did. -/
def fnExactReadRingSpec : ChangeSpec := { name := "fnExactReadRing", fn := fun _ => fun
  | [d] => { results := [.lit (.bool true)], args := [d] }
  | _ => none }
def fnExactReadRingRow : OpenClaim := { program := "ytacjknmphgpjaaa", sum := "0af637ce9c5323f8a1dbcaf814a8caa78987fe410506cddce5c949d54dd28479", func := "loop.example/g01381/laws.FnExactReadRing", spec := "fnExactReadRing", apart := false }
def FnExactReadRingSaid : Prop := fnExactReadRingRow.holds Try.pinned (OpenSpec.ofChange fnExactReadRingSpec)

/-- ITS FALSE NEIGHBOUR: 'it returns false'. Refute it at one input. -/
def fnExactReadRingWrong : ChangeSpec := { name := "fnExactReadRing", fn := fun _ => fun
  | [d] => { results := [.lit (.bool false)], args := [d] }
  | _ => none }
def FnExactReadRingWrongFalsely : Prop := fnExactReadRingRow.holds Try.pinned (OpenSpec.ofChange fnExactReadRingWrong)

/-- 'laws.FnExactLifeText': WHATEVER THE INPUT: true; the input reads as it did. -/
def fnExactLifeTextSpec : ChangeSpec := { name := "fnExactLifeText", fn := fun _ => fun
  | [d] => { results := [.lit (.bool true)], args := [d] }
  | _ => none }
def fnExactLifeTextRow : OpenClaim := { program := "ytacjknmphgpjaaa", sum := "0af637ce9c5323f8a1dbcaf814a8caa78987fe410506cddce5c949d54dd28479", func := "loop.example/g01381/laws.FnExactLifeText", spec := "fnExactLifeText", apart := false }
def FnExactLifeTextSaid : Prop := fnExactLifeTextRow.holds Try.pinned (OpenSpec.ofChange fnExactLifeTextSpec)

/-- ITS FALSE NEIGHBOUR: 'it returns false'. Refute it at one input. -/
def fnExactLifeTextWrong : ChangeSpec := { name := "fnExactLifeText", fn := fun _ => fun
  | [d] => { results := [.lit (.bool false)], args := [d] }
  | _ => none }
def FnExactLifeTextWrongFalsely : Prop := fnExactLifeTextRow.holds Try.pinned (OpenSpec.ofChange fnExactLifeTextWrong)

/-- 'laws.FnExactFillTable': WHATEVER THE INPUT: true; the input reads as it did. -/
def fnExactFillTableSpec : ChangeSpec := { name := "fnExactFillTable", fn := fun _ => fun
  | [d1, d2, d3, d4] => { results := [.lit (.bool true)], args := [d1, d2, d3, d4] }
  | _ => none }
def fnExactFillTableRow : OpenClaim := { program := "ytacjknmphgpjaaa", sum := "0af637ce9c5323f8a1dbcaf814a8caa78987fe410506cddce5c949d54dd28479", func := "loop.example/g01381/laws.FnExactFillTable", spec := "fnExactFillTable", apart := false }
def FnExactFillTableSaid : Prop := fnExactFillTableRow.holds Try.pinned (OpenSpec.ofChange fnExactFillTableSpec)

/-- ITS FALSE NEIGHBOUR: 'it returns false'. Refute it at one input. -/
def fnExactFillTableWrong : ChangeSpec := { name := "fnExactFillTable", fn := fun _ => fun
  | [d1, d2, d3, d4] => { results := [.lit (.bool false)], args := [d1, d2, d3, d4] }
  | _ => none }
def FnExactFillTableWrongFalsely : Prop := fnExactFillTableRow.holds Try.pinned (OpenSpec.ofChange fnExactFillTableWrong)

/-- 'laws.FnExactChangeRule': WHATEVER THE INPUT: true; the input reads as it did. -/
def fnExactChangeRuleSpec : ChangeSpec := { name := "fnExactChangeRule", fn := fun _ => fun
  | [d1, d2, d3] => { results := [.lit (.bool true)], args := [d1, d2, d3] }
  | _ => none }
def fnExactChangeRuleRow : OpenClaim := { program := "ytacjknmphgpjaaa", sum := "0af637ce9c5323f8a1dbcaf814a8caa78987fe410506cddce5c949d54dd28479", func := "loop.example/g01381/laws.FnExactChangeRule", spec := "fnExactChangeRule", apart := false }
def FnExactChangeRuleSaid : Prop := fnExactChangeRuleRow.holds Try.pinned (OpenSpec.ofChange fnExactChangeRuleSpec)

/-- ITS FALSE NEIGHBOUR: 'it returns false'. Refute it at one input. -/
def fnExactChangeRuleWrong : ChangeSpec := { name := "fnExactChangeRule", fn := fun _ => fun
  | [d1, d2, d3] => { results := [.lit (.bool false)], args := [d1, d2, d3] }
  | _ => none }
def FnExactChangeRuleWrongFalsely : Prop := fnExactChangeRuleRow.holds Try.pinned (OpenSpec.ofChange fnExactChangeRuleWrong)

/-- 'laws.FnExactCrossRules': WHATEVER THE INPUT: true; the input reads as it did. -/
def fnExactCrossRulesSpec : ChangeSpec := { name := "fnExactCrossRules", fn := fun _ => fun
  | [d1, d2, d3] => { results := [.lit (.bool true)], args := [d1, d2, d3] }
  | _ => none }
def fnExactCrossRulesRow : OpenClaim := { program := "ytacjknmphgpjaaa", sum := "0af637ce9c5323f8a1dbcaf814a8caa78987fe410506cddce5c949d54dd28479", func := "loop.example/g01381/laws.FnExactCrossRules", spec := "fnExactCrossRules", apart := false }
def FnExactCrossRulesSaid : Prop := fnExactCrossRulesRow.holds Try.pinned (OpenSpec.ofChange fnExactCrossRulesSpec)

/-- ITS FALSE NEIGHBOUR: 'it returns false'. Refute it at one input. -/
def fnExactCrossRulesWrong : ChangeSpec := { name := "fnExactCrossRules", fn := fun _ => fun
  | [d1, d2, d3] => { results := [.lit (.bool false)], args := [d1, d2, d3] }
  | _ => none }
def FnExactCrossRulesWrongFalsely : Prop := fnExactCrossRulesRow.holds Try.pinned (OpenSpec.ofChange fnExactCrossRulesWrong)

/-- 'laws.FnExactTaskCount': WHATEVER THE INPUT: true; the input reads as it did. -/
def fnExactTaskCountSpec : ChangeSpec := { name := "fnExactTaskCount", fn := fun _ => fun
  | [d1, d2, d3, d4, d5] => { results := [.lit (.bool true)], args := [d1, d2, d3, d4, d5] }
  | _ => none }
def fnExactTaskCountRow : OpenClaim := { program := "ytacjknmphgpjaaa", sum := "0af637ce9c5323f8a1dbcaf814a8caa78987fe410506cddce5c949d54dd28479", func := "loop.example/g01381/laws.FnExactTaskCount", spec := "fnExactTaskCount", apart := false }
def FnExactTaskCountSaid : Prop := fnExactTaskCountRow.holds Try.pinned (OpenSpec.ofChange fnExactTaskCountSpec)

/-- ITS FALSE NEIGHBOUR: 'it returns false'. Refute it at one input. -/
def fnExactTaskCountWrong : ChangeSpec := { name := "fnExactTaskCount", fn := fun _ => fun
  | [d1, d2, d3, d4, d5] => { results := [.lit (.bool false)], args := [d1, d2, d3, d4, d5] }
  | _ => none }
def FnExactTaskCountWrongFalsely : Prop := fnExactTaskCountRow.holds Try.pinned (OpenSpec.ofChange fnExactTaskCountWrong)

/-- 'laws.FnExactLeastReach': WHATEVER THE INPUT: true; the input reads as it did. -/
def fnExactLeastReachSpec : ChangeSpec := { name := "fnExactLeastReach", fn := fun _ => fun
  | [d1, d2, d3] => { results := [.lit (.bool true)], args := [d1, d2, d3] }
  | _ => none }
def fnExactLeastReachRow : OpenClaim := { program := "ytacjknmphgpjaaa", sum := "0af637ce9c5323f8a1dbcaf814a8caa78987fe410506cddce5c949d54dd28479", func := "loop.example/g01381/laws.FnExactLeastReach", spec := "fnExactLeastReach", apart := false }
def FnExactLeastReachSaid : Prop := fnExactLeastReachRow.holds Try.pinned (OpenSpec.ofChange fnExactLeastReachSpec)

/-- ITS FALSE NEIGHBOUR: 'it returns false'. Refute it at one input. -/
def fnExactLeastReachWrong : ChangeSpec := { name := "fnExactLeastReach", fn := fun _ => fun
  | [d1, d2, d3] => { results := [.lit (.bool false)], args := [d1, d2, d3] }
  | _ => none }
def FnExactLeastReachWrongFalsely : Prop := fnExactLeastReachRow.holds Try.pinned (OpenSpec.ofChange fnExactLeastReachWrong)

/-- 'laws.FnExactLearnTable': WHATEVER THE INPUT: true; the input reads as it did. -/
def fnExactLearnTableSpec : ChangeSpec := { name := "fnExactLearnTable", fn := fun _ => fun
  | [d1, d2, d3, d4] => { results := [.lit (.bool true)], args := [d1, d2, d3, d4] }
  | _ => none }
def fnExactLearnTableRow : OpenClaim := { program := "ytacjknmphgpjaaa", sum := "0af637ce9c5323f8a1dbcaf814a8caa78987fe410506cddce5c949d54dd28479", func := "loop.example/g01381/laws.FnExactLearnTable", spec := "fnExactLearnTable", apart := false }
def FnExactLearnTableSaid : Prop := fnExactLearnTableRow.holds Try.pinned (OpenSpec.ofChange fnExactLearnTableSpec)

/-- ITS FALSE NEIGHBOUR: 'it returns false'. Refute it at one input. -/
def fnExactLearnTableWrong : ChangeSpec := { name := "fnExactLearnTable", fn := fun _ => fun
  | [d1, d2, d3, d4] => { results := [.lit (.bool false)], args := [d1, d2, d3, d4] }
  | _ => none }
def FnExactLearnTableWrongFalsely : Prop := fnExactLearnTableRow.holds Try.pinned (OpenSpec.ofChange fnExactLearnTableWrong)

/-- 'laws.FnExactBreedOnce': WHATEVER THE INPUT: true; the input reads as it did. -/
def fnExactBreedOnceSpec : ChangeSpec := { name := "fnExactBreedOnce", fn := fun _ => fun
  | [d1, d2, d3, d4, d5, d6] => { results := [.lit (.bool true)], args := [d1, d2, d3, d4, d5, d6] }
  | _ => none }
def fnExactBreedOnceRow : OpenClaim := { program := "ytacjknmphgpjaaa", sum := "0af637ce9c5323f8a1dbcaf814a8caa78987fe410506cddce5c949d54dd28479", func := "loop.example/g01381/laws.FnExactBreedOnce", spec := "fnExactBreedOnce", unfollowed := true, recurses := true, apart := false }
def FnExactBreedOnceSaid : Prop := fnExactBreedOnceRow.holds Try.pinned (OpenSpec.ofChange fnExactBreedOnceSpec)

/-- ITS FALSE NEIGHBOUR: 'it returns false'. Refute it at one input. -/
def fnExactBreedOnceWrong : ChangeSpec := { name := "fnExactBreedOnce", fn := fun _ => fun
  | [d1, d2, d3, d4, d5, d6] => { results := [.lit (.bool false)], args := [d1, d2, d3, d4, d5, d6] }
  | _ => none }
def FnExactBreedOnceWrongFalsely : Prop := fnExactBreedOnceRow.holds Try.pinned (OpenSpec.ofChange fnExactBreedOnceWrong)

/-- 'laws.FnBred': WHATEVER THE INPUT: true; the input reads as it did. -/
def fnBredSpec : ChangeSpec := { name := "fnBred", fn := fun _ => fun
  | [d1, d2] => { results := [.lit (.bool true)], args := [d1, d2] }
  | _ => none }
def fnBredRow : OpenClaim := { program := "ytacjknmphgpjaaa", sum := "0af637ce9c5323f8a1dbcaf814a8caa78987fe410506cddce5c949d54dd28479", func := "loop.example/g01381/laws.FnBred", spec := "fnBred", unfollowed := true, recurses := true, apart := false }
def FnBredSaid : Prop := fnBredRow.holds Try.pinned (OpenSpec.ofChange fnBredSpec)

/-- ITS FALSE NEIGHBOUR: 'it returns false'. Refute it at one input. -/
def fnBredWrong : ChangeSpec := { name := "fnBred", fn := fun _ => fun
  | [d1, d2] => { results := [.lit (.bool false)], args := [d1, d2] }
  | _ => none }
def FnBredWrongFalsely : Prop := fnBredRow.holds Try.pinned (OpenSpec.ofChange fnBredWrong)

/-- 'laws.FnLearned': WHATEVER THE INPUT: true; the input reads as it did. -/
def fnLearnedSpec : ChangeSpec := { name := "fnLearned", fn := fun _ => fun
  | [d1, d2] => { results := [.lit (.bool true)], args := [d1, d2] }
  | _ => none }
def fnLearnedRow : OpenClaim := { program := "ytacjknmphgpjaaa", sum := "0af637ce9c5323f8a1dbcaf814a8caa78987fe410506cddce5c949d54dd28479", func := "loop.example/g01381/laws.FnLearned", spec := "fnLearned", apart := false }
def FnLearnedSaid : Prop := fnLearnedRow.holds Try.pinned (OpenSpec.ofChange fnLearnedSpec)

/-- ITS FALSE NEIGHBOUR: 'it returns false'. Refute it at one input. -/
def fnLearnedWrong : ChangeSpec := { name := "fnLearned", fn := fun _ => fun
  | [d1, d2] => { results := [.lit (.bool false)], args := [d1, d2] }
  | _ => none }
def FnLearnedWrongFalsely : Prop := fnLearnedRow.holds Try.pinned (OpenSpec.ofChange fnLearnedWrong)

/- THE SECOND FORM. 'bulk': how many values and letters a reading holds, each counted each time it is reached (what is shared counts as often as it is met; a slice's spare places count too). A statement '..UptoSaid' is the law's where the arguments, and the package variables that the reading takes, are together of bulk at most 1048576: NARROWER than '..Said'. Prove '..Said' where nothing that the law and all that it calls make is longer than what came in: it says more and counts as full. Else prove '..UptoSaid'. A law counts once. -/
mutual
def uptoBulk {H : Type} : DataW H → Nat
  | .lit (.string bytes) => bytes.length + 1
  | .lit _ => 1
  | .nil => 1
  | .ptr d => uptoBulk d + 1
  | .slice elems spare => uptoBulkAll elems + uptoBulkAll spare + 1
  | .agg parts => uptoBulkAll parts + 1
  | .iface _ d => uptoBulk d + 1
  | .map entries => uptoBulkEntries entries + 1
  | .held _ => 1
def uptoBulkAll {H : Type} : List (DataW H) → Nat
  | [] => 0
  | d :: r => uptoBulk d + uptoBulkAll r
def uptoBulkEntries {H : Type} : List (Lit × DataW H) → Nat
  | [] => 0
  | x :: r => uptoBulkEntry x + uptoBulkEntries r
def uptoBulkEntry {H : Type} : Lit × DataW H → Nat
  | (.string bytes, d) => bytes.length + uptoBulk d + 1
  | (_, d) => uptoBulk d + 1
 end
def uptoSmall : (H : Type) → List (DataW H) → Bool := fun _ ds => decide (uptoBulkAll ds ≤ 1048576)
def OpenSpec.upto (s : _root_.Go.ChangeSpec) : _root_.Go.OpenSpec := { _root_.Go.OpenSpec.ofChange s with cond := some uptoSmall }

/-- 'laws.FnExactReadRing', WHERE WHAT IT READS IS OF BULK AT MOST 1048576: true; the input reads as it did. -/
def fnExactReadRingUptoRow : OpenClaim := { program := "ytacjknmphgpjaaa", sum := "0af637ce9c5323f8a1dbcaf814a8caa78987fe410506cddce5c949d54dd28479", func := "loop.example/g01381/laws.FnExactReadRing", spec := "fnExactReadRing", apart := false, narrowed := true }
def FnExactReadRingUptoSaid : Prop := fnExactReadRingUptoRow.holds Try.pinned (OpenSpec.upto fnExactReadRingSpec)

/-- 'laws.FnExactLifeText', WHERE WHAT IT READS IS OF BULK AT MOST 1048576: true; the input reads as it did. -/
def fnExactLifeTextUptoRow : OpenClaim := { program := "ytacjknmphgpjaaa", sum := "0af637ce9c5323f8a1dbcaf814a8caa78987fe410506cddce5c949d54dd28479", func := "loop.example/g01381/laws.FnExactLifeText", spec := "fnExactLifeText", apart := false, narrowed := true }
def FnExactLifeTextUptoSaid : Prop := fnExactLifeTextUptoRow.holds Try.pinned (OpenSpec.upto fnExactLifeTextSpec)

/-- 'laws.FnExactFillTable', WHERE WHAT IT READS IS OF BULK AT MOST 1048576: true; the input reads as it did. -/
def fnExactFillTableUptoRow : OpenClaim := { program := "ytacjknmphgpjaaa", sum := "0af637ce9c5323f8a1dbcaf814a8caa78987fe410506cddce5c949d54dd28479", func := "loop.example/g01381/laws.FnExactFillTable", spec := "fnExactFillTable", apart := false, narrowed := true }
def FnExactFillTableUptoSaid : Prop := fnExactFillTableUptoRow.holds Try.pinned (OpenSpec.upto fnExactFillTableSpec)

/-- 'laws.FnExactChangeRule', WHERE WHAT IT READS IS OF BULK AT MOST 1048576: true; the input reads as it did. -/
def fnExactChangeRuleUptoRow : OpenClaim := { program := "ytacjknmphgpjaaa", sum := "0af637ce9c5323f8a1dbcaf814a8caa78987fe410506cddce5c949d54dd28479", func := "loop.example/g01381/laws.FnExactChangeRule", spec := "fnExactChangeRule", apart := false, narrowed := true }
def FnExactChangeRuleUptoSaid : Prop := fnExactChangeRuleUptoRow.holds Try.pinned (OpenSpec.upto fnExactChangeRuleSpec)

/-- 'laws.FnExactCrossRules', WHERE WHAT IT READS IS OF BULK AT MOST 1048576: true; the input reads as it did. -/
def fnExactCrossRulesUptoRow : OpenClaim := { program := "ytacjknmphgpjaaa", sum := "0af637ce9c5323f8a1dbcaf814a8caa78987fe410506cddce5c949d54dd28479", func := "loop.example/g01381/laws.FnExactCrossRules", spec := "fnExactCrossRules", apart := false, narrowed := true }
def FnExactCrossRulesUptoSaid : Prop := fnExactCrossRulesUptoRow.holds Try.pinned (OpenSpec.upto fnExactCrossRulesSpec)

/-- 'laws.FnExactTaskCount', WHERE WHAT IT READS IS OF BULK AT MOST 1048576: true; the input reads as it did. -/
def fnExactTaskCountUptoRow : OpenClaim := { program := "ytacjknmphgpjaaa", sum := "0af637ce9c5323f8a1dbcaf814a8caa78987fe410506cddce5c949d54dd28479", func := "loop.example/g01381/laws.FnExactTaskCount", spec := "fnExactTaskCount", apart := false, narrowed := true }
def FnExactTaskCountUptoSaid : Prop := fnExactTaskCountUptoRow.holds Try.pinned (OpenSpec.upto fnExactTaskCountSpec)

/-- 'laws.FnExactLeastReach', WHERE WHAT IT READS IS OF BULK AT MOST 1048576: true; the input reads as it did. -/
def fnExactLeastReachUptoRow : OpenClaim := { program := "ytacjknmphgpjaaa", sum := "0af637ce9c5323f8a1dbcaf814a8caa78987fe410506cddce5c949d54dd28479", func := "loop.example/g01381/laws.FnExactLeastReach", spec := "fnExactLeastReach", apart := false, narrowed := true }
def FnExactLeastReachUptoSaid : Prop := fnExactLeastReachUptoRow.holds Try.pinned (OpenSpec.upto fnExactLeastReachSpec)

/-- 'laws.FnExactLearnTable', WHERE WHAT IT READS IS OF BULK AT MOST 1048576: true; the input reads as it did. -/
def fnExactLearnTableUptoRow : OpenClaim := { program := "ytacjknmphgpjaaa", sum := "0af637ce9c5323f8a1dbcaf814a8caa78987fe410506cddce5c949d54dd28479", func := "loop.example/g01381/laws.FnExactLearnTable", spec := "fnExactLearnTable", apart := false, narrowed := true }
def FnExactLearnTableUptoSaid : Prop := fnExactLearnTableUptoRow.holds Try.pinned (OpenSpec.upto fnExactLearnTableSpec)

/-- 'laws.FnExactBreedOnce', WHERE WHAT IT READS IS OF BULK AT MOST 1048576: true; the input reads as it did. -/
def fnExactBreedOnceUptoRow : OpenClaim := { program := "ytacjknmphgpjaaa", sum := "0af637ce9c5323f8a1dbcaf814a8caa78987fe410506cddce5c949d54dd28479", func := "loop.example/g01381/laws.FnExactBreedOnce", spec := "fnExactBreedOnce", unfollowed := true, recurses := true, apart := false, narrowed := true }
def FnExactBreedOnceUptoSaid : Prop := fnExactBreedOnceUptoRow.holds Try.pinned (OpenSpec.upto fnExactBreedOnceSpec)

/-- 'laws.FnBred', WHERE WHAT IT READS IS OF BULK AT MOST 1048576: true; the input reads as it did. -/
def fnBredUptoRow : OpenClaim := { program := "ytacjknmphgpjaaa", sum := "0af637ce9c5323f8a1dbcaf814a8caa78987fe410506cddce5c949d54dd28479", func := "loop.example/g01381/laws.FnBred", spec := "fnBred", unfollowed := true, recurses := true, apart := false, narrowed := true }
def FnBredUptoSaid : Prop := fnBredUptoRow.holds Try.pinned (OpenSpec.upto fnBredSpec)

/-- 'laws.FnLearned', WHERE WHAT IT READS IS OF BULK AT MOST 1048576: true; the input reads as it did. -/
def fnLearnedUptoRow : OpenClaim := { program := "ytacjknmphgpjaaa", sum := "0af637ce9c5323f8a1dbcaf814a8caa78987fe410506cddce5c949d54dd28479", func := "loop.example/g01381/laws.FnLearned", spec := "fnLearned", apart := false, narrowed := true }
def FnLearnedUptoSaid : Prop := fnLearnedUptoRow.holds Try.pinned (OpenSpec.upto fnLearnedSpec)

end Rows
end Go.Proofs.Ytacjknmphgpjaaa

/-
  No cell of these rows narrows 'for every input' (looked for: loops, veiled, ifaces, maps, wideKeys, modest, calm, conditions, laid).
  DERIVED. THE GIVEN ROWS OF THIS SEAT. 12 by the template 'for every input the law returns true; each argument reads behind the call as it read before'; 0 by the template 'total and deterministic' (their statements: YtbeinhdoggfgkaaTotals.lean).
  GIVEN WITH THE SEED: the statements are not yours to turn. If you find one false, say at which input.
  Laid BY PROGRAM, IN A SANDBOX (cutbox-rows.mjs): the forced cells as the released guide's own fill.sh prints them over the translation dbc19be006464d69… (all of the seat's roots in one cut). By AI agents, Wed Nov 11 2026. No macro, syntax, notation, axiom, sorry.
-/
import Derived.Test.YtbeinhdoggfgkaaChecked
import GoSem.Claim
import GoSem.ClaimJoined
import GoSem.ClaimMapViews
import Derived.JoinedTies
import Derived.KernelRfl
namespace Go.Proofs.Ytbeinhdoggfgkaa
/- THE CELL 'sum', in the pinned program and in every row, IS THE sha256 OF THE DUMP (.gsa) THAT YtbeinhdoggfgkaaProg.lean LOADS. Nothing in Lean hashes anything: it is a label: what it is worth is what the hold of that sum in a sandbox is worth. -/
noncomputable def Try.pinned : Pinned := { name := "ytbeinhdoggfgkaa", sum := "dbc19be006464d69c45b1a1fe708ba25bcaea9cdc7b2e3eeb5cd06bc98d6bb5d", checked := Try.checked }
namespace Rows
def none {H : Type} : Left H := { results := [], args := [] }

/-- 'laws.FnExactWindingOf': WHATEVER THE INPUT: true; the input reads as it did. -/
def fnExactWindingOfSpec : ChangeSpec := { name := "fnExactWindingOf", fn := fun _ => fun
  | [d1, d2] => { results := [.lit (.bool true)], args := [d1, d2] }
  | _ => none }
def fnExactWindingOfRow : OpenClaim := { program := "ytbeinhdoggfgkaa", sum := "dbc19be006464d69c45b1a1fe708ba25bcaea9cdc7b2e3eeb5cd06bc98d6bb5d", func := "loop.example/g01381/laws.FnExactWindingOf", spec := "fnExactWindingOf", unfollowed := true, recurses := true, apart := false }
def FnExactWindingOfSaid : Prop := fnExactWindingOfRow.holds Try.pinned (OpenSpec.ofChange fnExactWindingOfSpec)

/-- ITS FALSE NEIGHBOUR: 'it returns false'. Refute it at one input. -/
def fnExactWindingOfWrong : ChangeSpec := { name := "fnExactWindingOf", fn := fun _ => fun
  | [d1, d2] => { results := [.lit (.bool false)], args := [d1, d2] }
  | _ => none }
def FnExactWindingOfWrongFalsely : Prop := fnExactWindingOfRow.holds Try.pinned (OpenSpec.ofChange fnExactWindingOfWrong)

/-- 'laws.FnExactSpiralsOf': WHATEVER THE INPUT: true; the input reads as it did. -/
def fnExactSpiralsOfSpec : ChangeSpec := { name := "fnExactSpiralsOf", fn := fun _ => fun
  | [d1, d2] => { results := [.lit (.bool true)], args := [d1, d2] }
  | _ => none }
def fnExactSpiralsOfRow : OpenClaim := { program := "ytbeinhdoggfgkaa", sum := "dbc19be006464d69c45b1a1fe708ba25bcaea9cdc7b2e3eeb5cd06bc98d6bb5d", func := "loop.example/g01381/laws.FnExactSpiralsOf", spec := "fnExactSpiralsOf", unfollowed := true, recurses := true, apart := false }
def FnExactSpiralsOfSaid : Prop := fnExactSpiralsOfRow.holds Try.pinned (OpenSpec.ofChange fnExactSpiralsOfSpec)

/-- ITS FALSE NEIGHBOUR: 'it returns false'. Refute it at one input. -/
def fnExactSpiralsOfWrong : ChangeSpec := { name := "fnExactSpiralsOf", fn := fun _ => fun
  | [d1, d2] => { results := [.lit (.bool false)], args := [d1, d2] }
  | _ => none }
def FnExactSpiralsOfWrongFalsely : Prop := fnExactSpiralsOfRow.holds Try.pinned (OpenSpec.ofChange fnExactSpiralsOfWrong)

/-- 'laws.FnExactSameDesk': WHATEVER THE INPUT: true; the input reads as it did. -/
def fnExactSameDeskSpec : ChangeSpec := { name := "fnExactSameDesk", fn := fun _ => fun
  | [d1, d2] => { results := [.lit (.bool true)], args := [d1, d2] }
  | _ => none }
def fnExactSameDeskRow : OpenClaim := { program := "ytbeinhdoggfgkaa", sum := "dbc19be006464d69c45b1a1fe708ba25bcaea9cdc7b2e3eeb5cd06bc98d6bb5d", func := "loop.example/g01381/laws.FnExactSameDesk", spec := "fnExactSameDesk", apart := false }
def FnExactSameDeskSaid : Prop := fnExactSameDeskRow.holds Try.pinned (OpenSpec.ofChange fnExactSameDeskSpec)

/-- ITS FALSE NEIGHBOUR: 'it returns false'. Refute it at one input. -/
def fnExactSameDeskWrong : ChangeSpec := { name := "fnExactSameDesk", fn := fun _ => fun
  | [d1, d2] => { results := [.lit (.bool false)], args := [d1, d2] }
  | _ => none }
def FnExactSameDeskWrongFalsely : Prop := fnExactSameDeskRow.holds Try.pinned (OpenSpec.ofChange fnExactSameDeskWrong)

/-- 'laws.FnExactNewDesk': WHATEVER THE INPUT: true; the input reads as it did. -/
def fnExactNewDeskSpec : ChangeSpec := { name := "fnExactNewDesk", fn := fun _ => fun
  | [] => { results := [.lit (.bool true)], args := [] }
  | _ => none }
def fnExactNewDeskRow : OpenClaim := { program := "ytbeinhdoggfgkaa", sum := "dbc19be006464d69c45b1a1fe708ba25bcaea9cdc7b2e3eeb5cd06bc98d6bb5d", func := "loop.example/g01381/laws.FnExactNewDesk", spec := "fnExactNewDesk", unfollowed := true, recurses := true, apart := false }
def FnExactNewDeskSaid : Prop := fnExactNewDeskRow.holds Try.pinned (OpenSpec.ofChange fnExactNewDeskSpec)

/-- ITS FALSE NEIGHBOUR: 'it returns false'. Refute it at one input. -/
def fnExactNewDeskWrong : ChangeSpec := { name := "fnExactNewDesk", fn := fun _ => fun
  | [] => { results := [.lit (.bool false)], args := [] }
  | _ => none }
def FnExactNewDeskWrongFalsely : Prop := fnExactNewDeskRow.holds Try.pinned (OpenSpec.ofChange fnExactNewDeskWrong)

/-- 'laws.FnExactValidDesk': WHATEVER THE INPUT: true; the input reads as it did. -/
def fnExactValidDeskSpec : ChangeSpec := { name := "fnExactValidDesk", fn := fun _ => fun
  | [d] => { results := [.lit (.bool true)], args := [d] }
  | _ => none }
def fnExactValidDeskRow : OpenClaim := { program := "ytbeinhdoggfgkaa", sum := "dbc19be006464d69c45b1a1fe708ba25bcaea9cdc7b2e3eeb5cd06bc98d6bb5d", func := "loop.example/g01381/laws.FnExactValidDesk", spec := "fnExactValidDesk", apart := false }
def FnExactValidDeskSaid : Prop := fnExactValidDeskRow.holds Try.pinned (OpenSpec.ofChange fnExactValidDeskSpec)

/-- ITS FALSE NEIGHBOUR: 'it returns false'. Refute it at one input. -/
def fnExactValidDeskWrong : ChangeSpec := { name := "fnExactValidDesk", fn := fun _ => fun
  | [d] => { results := [.lit (.bool false)], args := [d] }
  | _ => none }
def FnExactValidDeskWrongFalsely : Prop := fnExactValidDeskRow.holds Try.pinned (OpenSpec.ofChange fnExactValidDeskWrong)

/-- 'laws.FnExactValidSaved': WHATEVER THE INPUT: true; the input reads as it did. -/
def fnExactValidSavedSpec : ChangeSpec := { name := "fnExactValidSaved", fn := fun _ => fun
  | [d] => { results := [.lit (.bool true)], args := [d] }
  | _ => none }
def fnExactValidSavedRow : OpenClaim := { program := "ytbeinhdoggfgkaa", sum := "dbc19be006464d69c45b1a1fe708ba25bcaea9cdc7b2e3eeb5cd06bc98d6bb5d", func := "loop.example/g01381/laws.FnExactValidSaved", spec := "fnExactValidSaved", apart := false }
def FnExactValidSavedSaid : Prop := fnExactValidSavedRow.holds Try.pinned (OpenSpec.ofChange fnExactValidSavedSpec)

/-- ITS FALSE NEIGHBOUR: 'it returns false'. Refute it at one input. -/
def fnExactValidSavedWrong : ChangeSpec := { name := "fnExactValidSaved", fn := fun _ => fun
  | [d] => { results := [.lit (.bool false)], args := [d] }
  | _ => none }
def FnExactValidSavedWrongFalsely : Prop := fnExactValidSavedRow.holds Try.pinned (OpenSpec.ofChange fnExactValidSavedWrong)

/-- 'laws.FnExactSameSaved': WHATEVER THE INPUT: true; the input reads as it did. -/
def fnExactSameSavedSpec : ChangeSpec := { name := "fnExactSameSaved", fn := fun _ => fun
  | [d1, d2] => { results := [.lit (.bool true)], args := [d1, d2] }
  | _ => none }
def fnExactSameSavedRow : OpenClaim := { program := "ytbeinhdoggfgkaa", sum := "dbc19be006464d69c45b1a1fe708ba25bcaea9cdc7b2e3eeb5cd06bc98d6bb5d", func := "loop.example/g01381/laws.FnExactSameSaved", spec := "fnExactSameSaved", unfollowed := true, recurses := true, apart := false }
def FnExactSameSavedSaid : Prop := fnExactSameSavedRow.holds Try.pinned (OpenSpec.ofChange fnExactSameSavedSpec)

/-- ITS FALSE NEIGHBOUR: 'it returns false'. Refute it at one input. -/
def fnExactSameSavedWrong : ChangeSpec := { name := "fnExactSameSaved", fn := fun _ => fun
  | [d1, d2] => { results := [.lit (.bool false)], args := [d1, d2] }
  | _ => none }
def FnExactSameSavedWrongFalsely : Prop := fnExactSameSavedRow.holds Try.pinned (OpenSpec.ofChange fnExactSameSavedWrong)

/-- 'laws.FnExactVoteStep': WHATEVER THE INPUT: true; the input reads as it did. -/
def fnExactVoteStepSpec : ChangeSpec := { name := "fnExactVoteStep", fn := fun _ => fun
  | [d1, d2] => { results := [.lit (.bool true)], args := [d1, d2] }
  | _ => none }
def fnExactVoteStepRow : OpenClaim := { program := "ytbeinhdoggfgkaa", sum := "dbc19be006464d69c45b1a1fe708ba25bcaea9cdc7b2e3eeb5cd06bc98d6bb5d", func := "loop.example/g01381/laws.FnExactVoteStep", spec := "fnExactVoteStep", unfollowed := true, recurses := true, apart := false }
def FnExactVoteStepSaid : Prop := fnExactVoteStepRow.holds Try.pinned (OpenSpec.ofChange fnExactVoteStepSpec)

/-- ITS FALSE NEIGHBOUR: 'it returns false'. Refute it at one input. -/
def fnExactVoteStepWrong : ChangeSpec := { name := "fnExactVoteStep", fn := fun _ => fun
  | [d1, d2] => { results := [.lit (.bool false)], args := [d1, d2] }
  | _ => none }
def FnExactVoteStepWrongFalsely : Prop := fnExactVoteStepRow.holds Try.pinned (OpenSpec.ofChange fnExactVoteStepWrong)

/-- 'laws.FnExactVoteRun': WHATEVER THE INPUT: true; the input reads as it did. -/
def fnExactVoteRunSpec : ChangeSpec := { name := "fnExactVoteRun", fn := fun _ => fun
  | [d1, d2, d3] => { results := [.lit (.bool true)], args := [d1, d2, d3] }
  | _ => none }
def fnExactVoteRunRow : OpenClaim := { program := "ytbeinhdoggfgkaa", sum := "dbc19be006464d69c45b1a1fe708ba25bcaea9cdc7b2e3eeb5cd06bc98d6bb5d", func := "loop.example/g01381/laws.FnExactVoteRun", spec := "fnExactVoteRun", unfollowed := true, recurses := true, apart := false }
def FnExactVoteRunSaid : Prop := fnExactVoteRunRow.holds Try.pinned (OpenSpec.ofChange fnExactVoteRunSpec)

/-- ITS FALSE NEIGHBOUR: 'it returns false'. Refute it at one input. -/
def fnExactVoteRunWrong : ChangeSpec := { name := "fnExactVoteRun", fn := fun _ => fun
  | [d1, d2, d3] => { results := [.lit (.bool false)], args := [d1, d2, d3] }
  | _ => none }
def FnExactVoteRunWrongFalsely : Prop := fnExactVoteRunRow.holds Try.pinned (OpenSpec.ofChange fnExactVoteRunWrong)

/-- 'laws.FnExactExciteStep': WHATEVER THE INPUT: true; the input reads as it did. -/
def fnExactExciteStepSpec : ChangeSpec := { name := "fnExactExciteStep", fn := fun _ => fun
  | [d1, d2, d3, d4] => { results := [.lit (.bool true)], args := [d1, d2, d3, d4] }
  | _ => none }
def fnExactExciteStepRow : OpenClaim := { program := "ytbeinhdoggfgkaa", sum := "dbc19be006464d69c45b1a1fe708ba25bcaea9cdc7b2e3eeb5cd06bc98d6bb5d", func := "loop.example/g01381/laws.FnExactExciteStep", spec := "fnExactExciteStep", unfollowed := true, recurses := true, apart := false }
def FnExactExciteStepSaid : Prop := fnExactExciteStepRow.holds Try.pinned (OpenSpec.ofChange fnExactExciteStepSpec)

/-- ITS FALSE NEIGHBOUR: 'it returns false'. Refute it at one input. -/
def fnExactExciteStepWrong : ChangeSpec := { name := "fnExactExciteStep", fn := fun _ => fun
  | [d1, d2, d3, d4] => { results := [.lit (.bool false)], args := [d1, d2, d3, d4] }
  | _ => none }
def FnExactExciteStepWrongFalsely : Prop := fnExactExciteStepRow.holds Try.pinned (OpenSpec.ofChange fnExactExciteStepWrong)

/-- 'laws.FnExactExciteRun': WHATEVER THE INPUT: true; the input reads as it did. -/
def fnExactExciteRunSpec : ChangeSpec := { name := "fnExactExciteRun", fn := fun _ => fun
  | [d1, d2, d3, d4, d5] => { results := [.lit (.bool true)], args := [d1, d2, d3, d4, d5] }
  | _ => none }
def fnExactExciteRunRow : OpenClaim := { program := "ytbeinhdoggfgkaa", sum := "dbc19be006464d69c45b1a1fe708ba25bcaea9cdc7b2e3eeb5cd06bc98d6bb5d", func := "loop.example/g01381/laws.FnExactExciteRun", spec := "fnExactExciteRun", unfollowed := true, recurses := true, apart := false }
def FnExactExciteRunSaid : Prop := fnExactExciteRunRow.holds Try.pinned (OpenSpec.ofChange fnExactExciteRunSpec)

/-- ITS FALSE NEIGHBOUR: 'it returns false'. Refute it at one input. -/
def fnExactExciteRunWrong : ChangeSpec := { name := "fnExactExciteRun", fn := fun _ => fun
  | [d1, d2, d3, d4, d5] => { results := [.lit (.bool false)], args := [d1, d2, d3, d4, d5] }
  | _ => none }
def FnExactExciteRunWrongFalsely : Prop := fnExactExciteRunRow.holds Try.pinned (OpenSpec.ofChange fnExactExciteRunWrong)

/-- 'laws.FnVoted': WHATEVER THE INPUT: true; the input reads as it did. -/
def fnVotedSpec : ChangeSpec := { name := "fnVoted", fn := fun _ => fun
  | [d1, d2] => { results := [.lit (.bool true)], args := [d1, d2] }
  | _ => none }
def fnVotedRow : OpenClaim := { program := "ytbeinhdoggfgkaa", sum := "dbc19be006464d69c45b1a1fe708ba25bcaea9cdc7b2e3eeb5cd06bc98d6bb5d", func := "loop.example/g01381/laws.FnVoted", spec := "fnVoted", unfollowed := true, recurses := true, apart := false }
def FnVotedSaid : Prop := fnVotedRow.holds Try.pinned (OpenSpec.ofChange fnVotedSpec)

/-- ITS FALSE NEIGHBOUR: 'it returns false'. Refute it at one input. -/
def fnVotedWrong : ChangeSpec := { name := "fnVoted", fn := fun _ => fun
  | [d1, d2] => { results := [.lit (.bool false)], args := [d1, d2] }
  | _ => none }
def FnVotedWrongFalsely : Prop := fnVotedRow.holds Try.pinned (OpenSpec.ofChange fnVotedWrong)

/- THE SECOND FORM. 'bulk': how many values and letters a reading holds, each counted each time it is reached (what is shared counts as often as it is met; a slice's spare places count too). A statement '..UptoSaid' is the law's where the arguments, and the package variables that the reading takes, are together of bulk at most 1048576: NARROWER than '..Said'. Prove '..Said' where nothing that the law and all that it calls make is longer than what came in: it says more and counts as full. Else prove '..UptoSaid'. A law counts once. -/
mutual
def uptoBulk {H : Type} : DataW H → Nat
  | .lit (.string bytes) => bytes.length + 1
  | .lit _ => 1
  | .nil => 1
  | .ptr d => uptoBulk d + 1
  | .slice elems spare => uptoBulkAll elems + uptoBulkAll spare + 1
  | .agg parts => uptoBulkAll parts + 1
  | .iface _ d => uptoBulk d + 1
  | .map entries => uptoBulkEntries entries + 1
  | .held _ => 1
def uptoBulkAll {H : Type} : List (DataW H) → Nat
  | [] => 0
  | d :: r => uptoBulk d + uptoBulkAll r
def uptoBulkEntries {H : Type} : List (Lit × DataW H) → Nat
  | [] => 0
  | x :: r => uptoBulkEntry x + uptoBulkEntries r
def uptoBulkEntry {H : Type} : Lit × DataW H → Nat
  | (.string bytes, d) => bytes.length + uptoBulk d + 1
  | (_, d) => uptoBulk d + 1
 end
def uptoSmall : (H : Type) → List (DataW H) → Bool := fun _ ds => decide (uptoBulkAll ds ≤ 1048576)
def OpenSpec.upto (s : _root_.Go.ChangeSpec) : _root_.Go.OpenSpec := { _root_.Go.OpenSpec.ofChange s with cond := some uptoSmall }

/-- 'laws.FnExactWindingOf', WHERE WHAT IT READS IS OF BULK AT MOST 1048576: true; the input reads as it did. -/
def fnExactWindingOfUptoRow : OpenClaim := { program := "ytbeinhdoggfgkaa", sum := "dbc19be006464d69c45b1a1fe708ba25bcaea9cdc7b2e3eeb5cd06bc98d6bb5d", func := "loop.example/g01381/laws.FnExactWindingOf", spec := "fnExactWindingOf", unfollowed := true, recurses := true, apart := false, narrowed := true }
def FnExactWindingOfUptoSaid : Prop := fnExactWindingOfUptoRow.holds Try.pinned (OpenSpec.upto fnExactWindingOfSpec)

/-- 'laws.FnExactSpiralsOf', WHERE WHAT IT READS IS OF BULK AT MOST 1048576: true; the input reads as it did. -/
def fnExactSpiralsOfUptoRow : OpenClaim := { program := "ytbeinhdoggfgkaa", sum := "dbc19be006464d69c45b1a1fe708ba25bcaea9cdc7b2e3eeb5cd06bc98d6bb5d", func := "loop.example/g01381/laws.FnExactSpiralsOf", spec := "fnExactSpiralsOf", unfollowed := true, recurses := true, apart := false, narrowed := true }
def FnExactSpiralsOfUptoSaid : Prop := fnExactSpiralsOfUptoRow.holds Try.pinned (OpenSpec.upto fnExactSpiralsOfSpec)

/-- 'laws.FnExactSameDesk', WHERE WHAT IT READS IS OF BULK AT MOST 1048576: true; the input reads as it did. -/
def fnExactSameDeskUptoRow : OpenClaim := { program := "ytbeinhdoggfgkaa", sum := "dbc19be006464d69c45b1a1fe708ba25bcaea9cdc7b2e3eeb5cd06bc98d6bb5d", func := "loop.example/g01381/laws.FnExactSameDesk", spec := "fnExactSameDesk", apart := false, narrowed := true }
def FnExactSameDeskUptoSaid : Prop := fnExactSameDeskUptoRow.holds Try.pinned (OpenSpec.upto fnExactSameDeskSpec)

/-- 'laws.FnExactNewDesk', WHERE WHAT IT READS IS OF BULK AT MOST 1048576: true; the input reads as it did. -/
def fnExactNewDeskUptoRow : OpenClaim := { program := "ytbeinhdoggfgkaa", sum := "dbc19be006464d69c45b1a1fe708ba25bcaea9cdc7b2e3eeb5cd06bc98d6bb5d", func := "loop.example/g01381/laws.FnExactNewDesk", spec := "fnExactNewDesk", unfollowed := true, recurses := true, apart := false, narrowed := true }
def FnExactNewDeskUptoSaid : Prop := fnExactNewDeskUptoRow.holds Try.pinned (OpenSpec.upto fnExactNewDeskSpec)

/-- 'laws.FnExactValidDesk', WHERE WHAT IT READS IS OF BULK AT MOST 1048576: true; the input reads as it did. -/
def fnExactValidDeskUptoRow : OpenClaim := { program := "ytbeinhdoggfgkaa", sum := "dbc19be006464d69c45b1a1fe708ba25bcaea9cdc7b2e3eeb5cd06bc98d6bb5d", func := "loop.example/g01381/laws.FnExactValidDesk", spec := "fnExactValidDesk", apart := false, narrowed := true }
def FnExactValidDeskUptoSaid : Prop := fnExactValidDeskUptoRow.holds Try.pinned (OpenSpec.upto fnExactValidDeskSpec)

/-- 'laws.FnExactValidSaved', WHERE WHAT IT READS IS OF BULK AT MOST 1048576: true; the input reads as it did. -/
def fnExactValidSavedUptoRow : OpenClaim := { program := "ytbeinhdoggfgkaa", sum := "dbc19be006464d69c45b1a1fe708ba25bcaea9cdc7b2e3eeb5cd06bc98d6bb5d", func := "loop.example/g01381/laws.FnExactValidSaved", spec := "fnExactValidSaved", apart := false, narrowed := true }
def FnExactValidSavedUptoSaid : Prop := fnExactValidSavedUptoRow.holds Try.pinned (OpenSpec.upto fnExactValidSavedSpec)

/-- 'laws.FnExactSameSaved', WHERE WHAT IT READS IS OF BULK AT MOST 1048576: true; the input reads as it did. -/
def fnExactSameSavedUptoRow : OpenClaim := { program := "ytbeinhdoggfgkaa", sum := "dbc19be006464d69c45b1a1fe708ba25bcaea9cdc7b2e3eeb5cd06bc98d6bb5d", func := "loop.example/g01381/laws.FnExactSameSaved", spec := "fnExactSameSaved", unfollowed := true, recurses := true, apart := false, narrowed := true }
def FnExactSameSavedUptoSaid : Prop := fnExactSameSavedUptoRow.holds Try.pinned (OpenSpec.upto fnExactSameSavedSpec)

/-- 'laws.FnExactVoteStep', WHERE WHAT IT READS IS OF BULK AT MOST 1048576: true; the input reads as it did. -/
def fnExactVoteStepUptoRow : OpenClaim := { program := "ytbeinhdoggfgkaa", sum := "dbc19be006464d69c45b1a1fe708ba25bcaea9cdc7b2e3eeb5cd06bc98d6bb5d", func := "loop.example/g01381/laws.FnExactVoteStep", spec := "fnExactVoteStep", unfollowed := true, recurses := true, apart := false, narrowed := true }
def FnExactVoteStepUptoSaid : Prop := fnExactVoteStepUptoRow.holds Try.pinned (OpenSpec.upto fnExactVoteStepSpec)

/-- 'laws.FnExactVoteRun', WHERE WHAT IT READS IS OF BULK AT MOST 1048576: true; the input reads as it did. -/
def fnExactVoteRunUptoRow : OpenClaim := { program := "ytbeinhdoggfgkaa", sum := "dbc19be006464d69c45b1a1fe708ba25bcaea9cdc7b2e3eeb5cd06bc98d6bb5d", func := "loop.example/g01381/laws.FnExactVoteRun", spec := "fnExactVoteRun", unfollowed := true, recurses := true, apart := false, narrowed := true }
def FnExactVoteRunUptoSaid : Prop := fnExactVoteRunUptoRow.holds Try.pinned (OpenSpec.upto fnExactVoteRunSpec)

/-- 'laws.FnExactExciteStep', WHERE WHAT IT READS IS OF BULK AT MOST 1048576: true; the input reads as it did. -/
def fnExactExciteStepUptoRow : OpenClaim := { program := "ytbeinhdoggfgkaa", sum := "dbc19be006464d69c45b1a1fe708ba25bcaea9cdc7b2e3eeb5cd06bc98d6bb5d", func := "loop.example/g01381/laws.FnExactExciteStep", spec := "fnExactExciteStep", unfollowed := true, recurses := true, apart := false, narrowed := true }
def FnExactExciteStepUptoSaid : Prop := fnExactExciteStepUptoRow.holds Try.pinned (OpenSpec.upto fnExactExciteStepSpec)

/-- 'laws.FnExactExciteRun', WHERE WHAT IT READS IS OF BULK AT MOST 1048576: true; the input reads as it did. -/
def fnExactExciteRunUptoRow : OpenClaim := { program := "ytbeinhdoggfgkaa", sum := "dbc19be006464d69c45b1a1fe708ba25bcaea9cdc7b2e3eeb5cd06bc98d6bb5d", func := "loop.example/g01381/laws.FnExactExciteRun", spec := "fnExactExciteRun", unfollowed := true, recurses := true, apart := false, narrowed := true }
def FnExactExciteRunUptoSaid : Prop := fnExactExciteRunUptoRow.holds Try.pinned (OpenSpec.upto fnExactExciteRunSpec)

/-- 'laws.FnVoted', WHERE WHAT IT READS IS OF BULK AT MOST 1048576: true; the input reads as it did. -/
def fnVotedUptoRow : OpenClaim := { program := "ytbeinhdoggfgkaa", sum := "dbc19be006464d69c45b1a1fe708ba25bcaea9cdc7b2e3eeb5cd06bc98d6bb5d", func := "loop.example/g01381/laws.FnVoted", spec := "fnVoted", unfollowed := true, recurses := true, apart := false, narrowed := true }
def FnVotedUptoSaid : Prop := fnVotedUptoRow.holds Try.pinned (OpenSpec.upto fnVotedSpec)

end Rows
end Go.Proofs.Ytbeinhdoggfgkaa

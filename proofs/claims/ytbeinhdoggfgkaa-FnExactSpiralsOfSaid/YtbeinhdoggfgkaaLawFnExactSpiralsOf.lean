-- Written by a program of this session (its own print).
import Derived.Test.YtbeinhdoggfgkaaRows
import Derived.Test.YtbeinhdoggfgkaaPFnExactSpiralsOfx2
import Derived.Test.YtbeinhdoggfgkaaPureFnExactSpiralsOf
import Derived.Test.YtbeinhdoggfgkaaOpen
import Derived.WalkKit
import Derived.ProofKit
import Derived.OpenShut
import Derived.ShutString
import Derived.ChangeOld
import Derived.Below
import Derived.SizedLaws
namespace Go.Proofs.Ytbeinhdoggfgkaa.fnExactSpiralsOf
open Go.ChangeShapes Go.WideShapes Go.ChangeAt Go.RowKit Go.Proofs.YtbeinhdoggfgkaaW.PrintWords Go.Proofs.Ytbeinhdoggfgkaa.PFnExactSpiralsOf
open Go.ChangeMaps (open_string shut_string)
set_option linter.unusedVariables false
theorem own : ownKnob Try.prog.godebug = none := by kernel_rfl
theorem laidOut : laidOutB Try.prog = true := by kernel_rfl
theorem lenY24 {α : Type} {l : List α} (h : l.length = 3) : ∃ y0 y1 y2, l = [y0, y1, y2] := by
  match l, h with
  | [y0, y1, y2], _ => exact ⟨y0, y1, y2, rfl⟩
theorem lenC24 {α : Type} {l : List α} (h : l.length = 3) : ∃ c0 c1 c2, l = [c0, c1, c2] := by
  match l, h with
  | [c0, c1, c2], _ => exact ⟨c0, c1, c2, rfl⟩
theorem opensP24 : O.Opens Try.prog 24 (Kd.pair (Kd.int .i64) (Kd.pair (Kd.int .i64) (Kd.slice 2 (Kd.int .i64)))) (fun a_ : (Int × Int × List Int) => ((Lit.int .i64 a_.1).wf = true) ∧ ((Lit.int .i64 a_.2.1).wf = true) ∧ ((∀ x0_ ∈ a_.2.2, (Lit.int .i64 x0_).wf = true) ∧ a_.2.2.length * 8 ≤ 140737488351232 ∧ a_.2.2.length ≤ 9223372036854775807)) := by
  intro H enc W base spare held fuel cs x h hw
  obtain ⟨ys, n, _, rfl, hlen, hyl, hf⟩ := DataW.trod_struct Try.underlying24 h
  rw [show Try.prog.cellsOf 24 = 3 from by kernel_rfl] at hlen
  obtain ⟨y0, y1, y2, rfl⟩ := lenY24 hyl
  obtain ⟨c0, c1, c2, rfl⟩ := lenC24 hlen
  have f0 : DataW.trod enc Try.prog W base spare held n 2 (List.take (Try.prog.cellsOf 2) (List.drop 0 [c0, c1, c2])) = some y0 := hf 0 _ rfl
  rw [show Try.prog.cellsOf 2 = 1 from by kernel_rfl] at f0
  obtain ⟨a0, k0, g0⟩ := (O.opens_int Try.underlying2) enc W base spare held n [c0] y0 f0 (fun z hz => hw z (O.weights_field Try.underlying24 (j := 0) rfl rfl z hz))
  have f1 : DataW.trod enc Try.prog W base spare held n 2 (List.take (Try.prog.cellsOf 2) (List.drop 1 [c0, c1, c2])) = some y1 := hf 1 _ rfl
  rw [show Try.prog.cellsOf 2 = 1 from by kernel_rfl] at f1
  obtain ⟨a1, k1, g1⟩ := (O.opens_int Try.underlying2) enc W base spare held n [c1] y1 f1 (fun z hz => hw z (O.weights_field Try.underlying24 (j := 1) rfl rfl z hz))
  have f2 : DataW.trod enc Try.prog W base spare held n 22 (List.take (Try.prog.cellsOf 22) (List.drop 2 [c0, c1, c2])) = some y2 := hf 2 _ rfl
  rw [show Try.prog.cellsOf 22 = 1 from by kernel_rfl] at f2
  obtain ⟨a2, k2, g2⟩ := (O.opens_slice Try.underlying22 (O.opens_int Try.underlying2) (by kernel_rfl) (by kernel_rfl)) enc W base spare held n [c2] y2 f2 (fun z hz => hw z (O.weights_field Try.underlying24 (j := 2) rfl rfl z hz))
  exact ⟨(a0, a1, a2), ⟨[c0], [c1, c2], rfl, k0, ⟨[c1], [c2], rfl, k1, k2⟩⟩, g0, g1, g2⟩
set_option maxRecDepth 100000 in
theorem lifted (os : Os) (started : os.Started) (H : Type) (enc : TypeId × Value → H) :
    ReturnsInHanded {} Try.checked os 4 .any (Rows.fnExactSpiralsOfSpec.pre6 enc Try.prog Try.f4 Rows.fnExactSpiralsOfRow.domain false) (Rows.fnExactSpiralsOfSpec.post enc Try.prog Try.f4 false true false false) := by
  refine returnsInHanded_of_change_sized (C := Try.checked) own started (by kernel_rfl) Try.func4
    (ChangeSpec.witness6 (enc := enc) (C := Try.checked) false ⟨#[], #[.agg #[.int .i64 0, .int .i64 0, .slice none 0 0], .int .i64 0], []⟩ 8 (by kernel_rfl) (by kernel_rfl) (by kernel_rfl) (by kernel_rfl)) ?_
  intro W base args ds gs before hval0 hW hcnd hsz0 _
  have hsz : (DataW.weightsEach Try.prog (Try.f4.params.toList ++ Rows.fnExactSpiralsOfSpec.plain.varTypes Try.prog) (ds ++ gs)).all (· ≤ reachBytes) = true := hsz0
  have hval : ∀ (j : Nat) t v, Try.f4.params[j]? = some t → args[j]? = some v → Value.okWide Try.prog W .any base t v := hval0
  have hW' := hW
  obtain ⟨p, q, hA0, hV, rfl, hfz, hnd⟩ := hW
  have hA : DataW.TrodAll enc Try.prog W 0 (fun _ => true) true Try.f4.params.toList args.toList ds p := hA0
  rw [Try.params4] at hA hval hsz
  obtain ⟨v0, vs0, d0, ds0, p0, q0, hargs, rfl, rfl, h0, r0⟩ := trodAll_cons hA
  obtain ⟨v1, vs1, d1, ds1, p1, q1, rfl, rfl, rfl, h1, r1⟩ := trodAll_cons r0
  obtain ⟨rfl, rfl, rfl⟩ := trodAll_nil r1
  obtain rfl : args = #[v0, v1] := by cases args; simp_all
  obtain ⟨rfl, rfl⟩ := trodVars_none hV
  have k0 := h0
  have lt0 : ∀ x ∈ p0, x.block < W.heap.size := by obtain ⟨m, hm⟩ := k0; exact DataW.trod_lt m _ _ _ hm
  obtain ⟨cs0, rfl, _⟩ := okWide_struct Try.underlying24 (hval 0 24 v0 rfl rfl)
  obtain ⟨L0⟩ := cs0
  obtain ⟨x0, K0, G0⟩ := (fun hh => hh) (show ∃ a_ : (Int × Int × List Int), (Kd.pair (Kd.int .i64) (Kd.pair (Kd.int .i64) (Kd.slice 2 (Kd.int .i64)))).K W a_ L0 ∧ (((Lit.int .i64 a_.1).wf = true) ∧ ((Lit.int .i64 a_.2.1).wf = true) ∧ ((∀ x0_ ∈ a_.2.2, (Lit.int .i64 x0_).wf = true) ∧ a_.2.2.length * 8 ≤ 140737488351232 ∧ a_.2.2.length ≤ 9223372036854775807)) from by
    obtain ⟨fuel, hf⟩ := h0
    exact opensP24 enc W 0 _ true fuel L0 _ hf (fun z hz => of_decide_eq_true (List.all_eq_true.1 hsz z (DataW.weights_mem_each (j := 0) (t := 24) rfl rfl z hz))))
  obtain ⟨_, _, rfl, rfl, ⟨_, _, rfl, rfl, ⟨B0_2, e0_2, rfl, hl0_2, hC0_2⟩⟩⟩ := K0
  obtain ⟨a1, rfl, rfl, rfl, w1⟩ := open_int Try.underlying2 (hval 1 2 v1 rfl rfl) h1
  clear hA0 hval0 hsz0 hsz
  refine (PFnExactSpiralsOf.laws_FnExactSpiralsOf.walk Pure.FnExactSpiralsOf x0.1 x0.2.1 _ _ x0.2.2 a1 W hC0_2 hl0_2 G0.1 G0.2.1 G0.2.2 w1).mono fun e W' ⟨he, bel⟩ => ?_
  subst he
  exact ⟨_, rfl, _, _, _, [], _, [], hW', trodAll_mk1 (shut_bool Try.underlying4 _), (trodAll_cons_mk (Below.trod laidOut (by kernel_rfl) (of_decide_eq_true (by kernel_rfl)) k0 bel lt0) (trodAll_cons_mk (shut_int Try.underlying2 w1) trodAll_mk0)), rfl, bel.frame _, fun h => by cases h⟩
theorem over : Rows.fnExactSpiralsOfRow.holds Try.pinned (OpenSpec.ofChange Rows.fnExactSpiralsOfSpec) :=
  OpenClaim.holds_of_wide 4 Try.f4 rfl rfl rfl rfl rfl rfl rfl ⟨rfl, rfl, rfl, rfl, rfl⟩ rfl rfl rfl rfl rfl (by kernel_rfl) Try.func4 (by kernel_rfl)
    (of_decide_eq_true (by kernel_rfl)) (by unfold Func.isWrapper; first | (rw [if_pos (by decide +kernel)]; kernel_rfl) | (rw [if_neg (by decide +kernel)]; exact ⟨rfl, rfl⟩))
    (fun os started H enc _ => lifted os started H enc)
theorem proved : Rows.FnExactSpiralsOfSaid := over
#print axioms proved
end Go.Proofs.Ytbeinhdoggfgkaa.fnExactSpiralsOf
namespace Go.Proofs.Ytbeinhdoggfgkaa
/-- The row, under a short name, for the claim. -/
theorem fnExactSpiralsOf_holds : Rows.FnExactSpiralsOfSaid := fnExactSpiralsOf.proved
end Go.Proofs.Ytbeinhdoggfgkaa

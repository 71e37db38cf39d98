-- Written by a program of this session (its own print).
import Derived.Test.YtacjknmphgpjaaaRows
import Derived.Test.YtacjknmphgpjaaaPFnExactLifeTextx3
import Derived.Test.YtacjknmphgpjaaaPureFnExactLifeText
import Derived.Test.YtacjknmphgpjaaaOpen
import Derived.WalkKit
import Derived.ProofKit
import Derived.OpenShut
import Derived.ShutString
import Derived.ChangeOld
import Derived.Below
import Derived.SizedLaws
namespace Go.Proofs.Ytacjknmphgpjaaa.fnExactLifeText
open Go.ChangeShapes Go.WideShapes Go.ChangeAt Go.RowKit Go.Proofs.YtacjknmphgpjaaaW.PrintWords Go.Proofs.Ytacjknmphgpjaaa.PFnExactLifeText
open Go.ChangeMaps (open_string shut_string)
set_option linter.unusedVariables false
theorem own : ownKnob Try.prog.godebug = none := by kernel_rfl
theorem laidOut : laidOutB Try.prog = true := by kernel_rfl
theorem lenY29 {α : Type} {l : List α} (h : l.length = 2) : ∃ y0 y1, l = [y0, y1] := by
  match l, h with
  | [y0, y1], _ => exact ⟨y0, y1, rfl⟩
theorem lenC29 {α : Type} {l : List α} (h : l.length = 2) : ∃ c0 c1, l = [c0, c1] := by
  match l, h with
  | [c0, c1], _ => exact ⟨c0, c1, rfl⟩
theorem opensP29 : O.Opens Try.prog 29 (Kd.pair (Kd.slice 2 (Kd.int .i64)) (Kd.slice 2 (Kd.int .i64))) (fun a_ : (List Int × List Int) => ((∀ x0_ ∈ a_.1, (Lit.int .i64 x0_).wf = true) ∧ a_.1.length * 8 ≤ 140737488351232 ∧ a_.1.length ≤ 9223372036854775807) ∧ ((∀ x0_ ∈ a_.2, (Lit.int .i64 x0_).wf = true) ∧ a_.2.length * 8 ≤ 140737488351232 ∧ a_.2.length ≤ 9223372036854775807)) := by
  intro H enc W base spare held fuel cs x h hw
  obtain ⟨ys, n, _, rfl, hlen, hyl, hf⟩ := DataW.trod_struct Try.underlying29 h
  rw [show Try.prog.cellsOf 29 = 2 from by kernel_rfl] at hlen
  obtain ⟨y0, y1, rfl⟩ := lenY29 hyl
  obtain ⟨c0, c1, rfl⟩ := lenC29 hlen
  have f0 : DataW.trod enc Try.prog W base spare held n 22 (List.take (Try.prog.cellsOf 22) (List.drop 0 [c0, c1])) = some y0 := hf 0 _ rfl
  rw [show Try.prog.cellsOf 22 = 1 from by kernel_rfl] at f0
  obtain ⟨a0, k0, g0⟩ := (O.opens_slice Try.underlying22 (O.opens_int Try.underlying2) (by kernel_rfl) (by kernel_rfl)) enc W base spare held n [c0] y0 f0 (fun z hz => hw z (O.weights_field Try.underlying29 (j := 0) rfl rfl z hz))
  have f1 : DataW.trod enc Try.prog W base spare held n 22 (List.take (Try.prog.cellsOf 22) (List.drop 1 [c0, c1])) = some y1 := hf 1 _ rfl
  rw [show Try.prog.cellsOf 22 = 1 from by kernel_rfl] at f1
  obtain ⟨a1, k1, g1⟩ := (O.opens_slice Try.underlying22 (O.opens_int Try.underlying2) (by kernel_rfl) (by kernel_rfl)) enc W base spare held n [c1] y1 f1 (fun z hz => hw z (O.weights_field Try.underlying29 (j := 1) rfl rfl z hz))
  exact ⟨(a0, a1), ⟨[c0], [c1], rfl, k0, k1⟩, g0, g1⟩
set_option maxRecDepth 100000 in
theorem lifted (os : Os) (started : os.Started) (H : Type) (enc : TypeId × Value → H) :
    ReturnsInHanded {} Try.checked os 4 .any (Rows.fnExactLifeTextSpec.pre6 enc Try.prog Try.f4 Rows.fnExactLifeTextRow.domain false) (Rows.fnExactLifeTextSpec.post enc Try.prog Try.f4 false true false false) := by
  refine returnsInHanded_of_change_sized (C := Try.checked) own started (by kernel_rfl) Try.func4
    (ChangeSpec.witness6 (enc := enc) (C := Try.checked) false ⟨#[], #[.agg #[.slice none 0 0, .slice none 0 0]], []⟩ 8 (by kernel_rfl) (by kernel_rfl) (by kernel_rfl) (by kernel_rfl)) ?_
  intro W base args ds gs before hval0 hW hcnd hsz0 _
  have hsz : (DataW.weightsEach Try.prog (Try.f4.params.toList ++ Rows.fnExactLifeTextSpec.plain.varTypes Try.prog) (ds ++ gs)).all (· ≤ reachBytes) = true := hsz0
  have hval : ∀ (j : Nat) t v, Try.f4.params[j]? = some t → args[j]? = some v → Value.okWide Try.prog W .any base t v := hval0
  have hW' := hW
  obtain ⟨p, q, hA0, hV, rfl, hfz, hnd⟩ := hW
  have hA : DataW.TrodAll enc Try.prog W 0 (fun _ => true) true Try.f4.params.toList args.toList ds p := hA0
  rw [Try.params4] at hA hval hsz
  obtain ⟨v0, vs0, d0, ds0, p0, q0, hargs, rfl, rfl, h0, r0⟩ := trodAll_cons hA
  obtain ⟨rfl, rfl, rfl⟩ := trodAll_nil r0
  obtain rfl : args = #[v0] := by cases args; simp_all
  obtain ⟨rfl, rfl⟩ := trodVars_none hV
  have k0 := h0
  have lt0 : ∀ x ∈ p0, x.block < W.heap.size := by obtain ⟨m, hm⟩ := k0; exact DataW.trod_lt m _ _ _ hm
  obtain ⟨cs0, rfl, _⟩ := okWide_struct Try.underlying29 (hval 0 29 v0 rfl rfl)
  obtain ⟨L0⟩ := cs0
  obtain ⟨x0, K0, G0⟩ := (fun hh => hh) (show ∃ a_ : (List Int × List Int), (Kd.pair (Kd.slice 2 (Kd.int .i64)) (Kd.slice 2 (Kd.int .i64))).K W a_ L0 ∧ (((∀ x0_ ∈ a_.1, (Lit.int .i64 x0_).wf = true) ∧ a_.1.length * 8 ≤ 140737488351232 ∧ a_.1.length ≤ 9223372036854775807) ∧ ((∀ x0_ ∈ a_.2, (Lit.int .i64 x0_).wf = true) ∧ a_.2.length * 8 ≤ 140737488351232 ∧ a_.2.length ≤ 9223372036854775807)) from by
    obtain ⟨fuel, hf⟩ := h0
    exact opensP29 enc W 0 _ true fuel L0 _ hf (fun z hz => of_decide_eq_true (List.all_eq_true.1 hsz z (DataW.weights_mem_each (j := 0) (t := 29) rfl rfl z hz))))
  obtain ⟨_, _, rfl, ⟨B0_0, e0_0, rfl, hl0_0, hC0_0⟩, ⟨B0_1, e0_1, rfl, hl0_1, hC0_1⟩⟩ := K0
  clear hA0 hval0 hsz0 hsz
  refine (PFnExactLifeText.laws_FnExactLifeText.walk Pure.FnExactLifeText _ _ x0.1 _ _ x0.2 W hC0_0 hl0_0 hC0_1 hl0_1 G0.1 G0.2).mono fun e W' ⟨he, bel⟩ => ?_
  subst he
  exact ⟨_, rfl, _, _, _, [], _, [], hW', trodAll_mk1 (shut_bool Try.underlying4 _), (trodAll_cons_mk (Below.trod laidOut (by kernel_rfl) (of_decide_eq_true (by kernel_rfl)) k0 bel lt0) trodAll_mk0), rfl, bel.frame _, fun h => by cases h⟩
theorem over : Rows.fnExactLifeTextRow.holds Try.pinned (OpenSpec.ofChange Rows.fnExactLifeTextSpec) :=
  OpenClaim.holds_of_wide 4 Try.f4 rfl rfl rfl rfl rfl rfl rfl ⟨rfl, rfl, rfl, rfl, rfl⟩ rfl rfl rfl rfl rfl (by kernel_rfl) Try.func4 (by kernel_rfl)
    (of_decide_eq_true (by kernel_rfl)) (by unfold Func.isWrapper; first | (rw [if_pos (by decide +kernel)]; kernel_rfl) | (rw [if_neg (by decide +kernel)]; exact ⟨rfl, rfl⟩))
    (fun os started H enc _ => lifted os started H enc)
theorem proved : Rows.FnExactLifeTextSaid := over
#print axioms proved
end Go.Proofs.Ytacjknmphgpjaaa.fnExactLifeText
namespace Go.Proofs.Ytacjknmphgpjaaa
/-- The row, under a short name, for the claim. -/
theorem fnExactLifeText_holds : Rows.FnExactLifeTextSaid := fnExactLifeText.proved
end Go.Proofs.Ytacjknmphgpjaaa

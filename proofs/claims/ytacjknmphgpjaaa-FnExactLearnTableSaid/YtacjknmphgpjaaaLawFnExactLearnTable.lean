-- Written by a program of this session (its own print).
import Derived.Test.YtacjknmphgpjaaaRows
import Derived.Test.YtacjknmphgpjaaaPFnExactLearnTablex3
import Derived.Test.YtacjknmphgpjaaaPureFnExactLearnTable
import Derived.Test.YtacjknmphgpjaaaOpen
import Derived.WalkKit
import Derived.ProofKit
import Derived.OpenShut
import Derived.ShutString
import Derived.ChangeOld
import Derived.Below
import Derived.SizedLaws
namespace Go.Proofs.Ytacjknmphgpjaaa.fnExactLearnTable
open Go.ChangeShapes Go.WideShapes Go.ChangeAt Go.RowKit Go.Proofs.YtacjknmphgpjaaaW.PrintWords Go.Proofs.Ytacjknmphgpjaaa.PFnExactLearnTable
open Go.ChangeMaps (open_string shut_string)
set_option linter.unusedVariables false
theorem own : ownKnob Try.prog.godebug = none := by kernel_rfl
theorem laidOut : laidOutB Try.prog = true := by kernel_rfl
set_option maxRecDepth 100000 in
theorem lifted (os : Os) (started : os.Started) (H : Type) (enc : TypeId × Value → H) :
    ReturnsInHanded {} Try.checked os 10 .any (Rows.fnExactLearnTableSpec.pre6 enc Try.prog Try.f10 Rows.fnExactLearnTableRow.domain false) (Rows.fnExactLearnTableSpec.post enc Try.prog Try.f10 false true false false) := by
  refine returnsInHanded_of_change_sized (C := Try.checked) own started (by kernel_rfl) Try.func10
    (ChangeSpec.witness6 (enc := enc) (C := Try.checked) false ⟨#[], #[.int .i64 0, .int .i64 0, .slice none 0 0, .slice none 0 0], []⟩ 8 (by kernel_rfl) (by kernel_rfl) (by kernel_rfl) (by kernel_rfl)) ?_
  intro W base args ds gs before hval0 hW hcnd hsz0 _
  have hsz : (DataW.weightsEach Try.prog (Try.f10.params.toList ++ Rows.fnExactLearnTableSpec.plain.varTypes Try.prog) (ds ++ gs)).all (· ≤ reachBytes) = true := hsz0
  have hval : ∀ (j : Nat) t v, Try.f10.params[j]? = some t → args[j]? = some v → Value.okWide Try.prog W .any base t v := hval0
  have hW' := hW
  obtain ⟨p, q, hA0, hV, rfl, hfz, hnd⟩ := hW
  have hA : DataW.TrodAll enc Try.prog W 0 (fun _ => true) true Try.f10.params.toList args.toList ds p := hA0
  rw [Try.params10] at hA hval hsz
  obtain ⟨v0, vs0, d0, ds0, p0, q0, hargs, rfl, rfl, h0, r0⟩ := trodAll_cons hA
  obtain ⟨v1, vs1, d1, ds1, p1, q1, rfl, rfl, rfl, h1, r1⟩ := trodAll_cons r0
  obtain ⟨v2, vs2, d2, ds2, p2, q2, rfl, rfl, rfl, h2, r2⟩ := trodAll_cons r1
  obtain ⟨v3, vs3, d3, ds3, p3, q3, rfl, rfl, rfl, h3, r3⟩ := trodAll_cons r2
  obtain ⟨rfl, rfl, rfl⟩ := trodAll_nil r3
  obtain rfl : args = #[v0, v1, v2, v3] := by cases args; simp_all
  obtain ⟨rfl, rfl⟩ := trodVars_none hV
  obtain ⟨a0, rfl, rfl, rfl, w0⟩ := open_int Try.underlying2 (hval 0 2 v0 rfl rfl) h0
  obtain ⟨a1, rfl, rfl, rfl, w1⟩ := open_int Try.underlying2 (hval 1 2 v1 rfl rfl) h1
  have k2 := h2
  have lt2 : ∀ x ∈ p2, x.block < W.heap.size := by obtain ⟨m, hm⟩ := k2; exact DataW.trod_lt m _ _ _ hm
  obtain ⟨A2, n2, c2, rfl⟩ := okWide_slice Try.underlying56 (hval 2 56 v2 rfl rfl)
  obtain ⟨x2, K2, G2⟩ := (fun hh => hh) (show ∃ a_ : List (List Int), (Kd.slice 22 (Kd.slice 2 (Kd.int .i64))).K W a_ [.slice A2 n2 c2] ∧ ((∀ x0_ ∈ a_, (∀ x1_ ∈ x0_, (Lit.int .i64 x1_).wf = true) ∧ x0_.length * 8 ≤ 140737488351232 ∧ x0_.length ≤ 9223372036854775807) ∧ a_.length * 24 ≤ 140737488351232 ∧ a_.length ≤ 9223372036854775807) from by
    obtain ⟨fuel, hf⟩ := h2
    exact (O.opens_slice Try.underlying56 (O.opens_slice Try.underlying22 (O.opens_int Try.underlying2) (by kernel_rfl) (by kernel_rfl)) (by kernel_rfl) (by kernel_rfl)) enc W 0 _ true fuel [.slice A2 n2 c2] _ hf (fun z hz => of_decide_eq_true (List.all_eq_true.1 hsz z (DataW.weights_mem_each (j := 2) (t := 56) rfl rfl z hz))))
  obtain ⟨B2_0, e2_0, hh2, hl2_0, hC2_0⟩ := K2
  simp only [List.cons.injEq, Value.slice.injEq, and_true] at hh2
  obtain ⟨rfl, rfl, rfl⟩ := hh2
  have k3 := h3
  have lt3 : ∀ x ∈ p3, x.block < W.heap.size := by obtain ⟨m, hm⟩ := k3; exact DataW.trod_lt m _ _ _ hm
  obtain ⟨A3, n3, c3, rfl⟩ := okWide_slice Try.underlying56 (hval 3 56 v3 rfl rfl)
  obtain ⟨x3, K3, G3⟩ := (fun hh => hh) (show ∃ a_ : List (List Int), (Kd.slice 22 (Kd.slice 2 (Kd.int .i64))).K W a_ [.slice A3 n3 c3] ∧ ((∀ x0_ ∈ a_, (∀ x1_ ∈ x0_, (Lit.int .i64 x1_).wf = true) ∧ x0_.length * 8 ≤ 140737488351232 ∧ x0_.length ≤ 9223372036854775807) ∧ a_.length * 24 ≤ 140737488351232 ∧ a_.length ≤ 9223372036854775807) from by
    obtain ⟨fuel, hf⟩ := h3
    exact (O.opens_slice Try.underlying56 (O.opens_slice Try.underlying22 (O.opens_int Try.underlying2) (by kernel_rfl) (by kernel_rfl)) (by kernel_rfl) (by kernel_rfl)) enc W 0 _ true fuel [.slice A3 n3 c3] _ hf (fun z hz => of_decide_eq_true (List.all_eq_true.1 hsz z (DataW.weights_mem_each (j := 3) (t := 56) rfl rfl z hz))))
  obtain ⟨B3_0, e3_0, hh3, hl3_0, hC3_0⟩ := K3
  simp only [List.cons.injEq, Value.slice.injEq, and_true] at hh3
  obtain ⟨rfl, rfl, rfl⟩ := hh3
  clear hA0 hval0 hsz0 hsz
  refine (PFnExactLearnTable.laws_FnExactLearnTable.walk Pure.FnExactLearnTable a0 a1 _ _ x2 _ _ x3 W hC2_0 hl2_0 hC3_0 hl3_0 w0 w1 G2 G3).mono fun e W' ⟨he, bel⟩ => ?_
  subst he
  exact ⟨_, rfl, _, _, _, [], _, [], hW', trodAll_mk1 (shut_bool Try.underlying4 _), (trodAll_cons_mk (shut_int Try.underlying2 w0) (trodAll_cons_mk (shut_int Try.underlying2 w1) (trodAll_cons_mk (Below.trod laidOut (by kernel_rfl) (of_decide_eq_true (by kernel_rfl)) k2 bel lt2) (trodAll_cons_mk (Below.trod laidOut (by kernel_rfl) (of_decide_eq_true (by kernel_rfl)) k3 bel lt3) trodAll_mk0)))), rfl, bel.frame _, fun h => by cases h⟩
theorem over : Rows.fnExactLearnTableRow.holds Try.pinned (OpenSpec.ofChange Rows.fnExactLearnTableSpec) :=
  OpenClaim.holds_of_wide 10 Try.f10 rfl rfl rfl rfl rfl rfl rfl ⟨rfl, rfl, rfl, rfl, rfl⟩ rfl rfl rfl rfl rfl (by kernel_rfl) Try.func10 (by kernel_rfl)
    (of_decide_eq_true (by kernel_rfl)) (by unfold Func.isWrapper; first | (rw [if_pos (by decide +kernel)]; kernel_rfl) | (rw [if_neg (by decide +kernel)]; exact ⟨rfl, rfl⟩))
    (fun os started H enc _ => lifted os started H enc)
theorem proved : Rows.FnExactLearnTableSaid := over
#print axioms proved
end Go.Proofs.Ytacjknmphgpjaaa.fnExactLearnTable
namespace Go.Proofs.Ytacjknmphgpjaaa
/-- The row, under a short name, for the claim. -/
theorem fnExactLearnTable_holds : Rows.FnExactLearnTableSaid := fnExactLearnTable.proved
end Go.Proofs.Ytacjknmphgpjaaa

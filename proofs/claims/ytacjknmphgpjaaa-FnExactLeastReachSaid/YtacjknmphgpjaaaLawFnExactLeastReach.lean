-- Written by a program of this session (its own print).
import Derived.Test.YtacjknmphgpjaaaRows
import Derived.Test.YtacjknmphgpjaaaPFnExactLeastReachx2
import Derived.Test.YtacjknmphgpjaaaPureFnExactLeastReach
import Derived.Test.YtacjknmphgpjaaaOpen
import Derived.WalkKit
import Derived.ProofKit
import Derived.OpenShut
import Derived.ShutString
import Derived.ChangeOld
import Derived.Below
import Derived.SizedLaws
namespace Go.Proofs.Ytacjknmphgpjaaa.fnExactLeastReach
open Go.ChangeShapes Go.WideShapes Go.ChangeAt Go.RowKit Go.Proofs.YtacjknmphgpjaaaW.PrintWords Go.Proofs.Ytacjknmphgpjaaa.PFnExactLeastReach
open Go.ChangeMaps (open_string shut_string)
set_option linter.unusedVariables false
theorem own : ownKnob Try.prog.godebug = none := by kernel_rfl
theorem laidOut : laidOutB Try.prog = true := by kernel_rfl
set_option maxRecDepth 100000 in
theorem lifted (os : Os) (started : os.Started) (H : Type) (enc : TypeId × Value → H) :
    ReturnsInHanded {} Try.checked os 9 .any (Rows.fnExactLeastReachSpec.pre6 enc Try.prog Try.f9 Rows.fnExactLeastReachRow.domain false) (Rows.fnExactLeastReachSpec.post enc Try.prog Try.f9 false true false false) := by
  refine returnsInHanded_of_change_sized (C := Try.checked) own started (by kernel_rfl) Try.func9
    (ChangeSpec.witness6 (enc := enc) (C := Try.checked) false ⟨#[], #[.int .i64 0, .slice none 0 0, .slice none 0 0], []⟩ 8 (by kernel_rfl) (by kernel_rfl) (by kernel_rfl) (by kernel_rfl)) ?_
  intro W base args ds gs before hval0 hW hcnd hsz0 _
  have hsz : (DataW.weightsEach Try.prog (Try.f9.params.toList ++ Rows.fnExactLeastReachSpec.plain.varTypes Try.prog) (ds ++ gs)).all (· ≤ reachBytes) = true := hsz0
  have hval : ∀ (j : Nat) t v, Try.f9.params[j]? = some t → args[j]? = some v → Value.okWide Try.prog W .any base t v := hval0
  have hW' := hW
  obtain ⟨p, q, hA0, hV, rfl, hfz, hnd⟩ := hW
  have hA : DataW.TrodAll enc Try.prog W 0 (fun _ => true) true Try.f9.params.toList args.toList ds p := hA0
  rw [Try.params9] at hA hval hsz
  obtain ⟨v0, vs0, d0, ds0, p0, q0, hargs, rfl, rfl, h0, r0⟩ := trodAll_cons hA
  obtain ⟨v1, vs1, d1, ds1, p1, q1, rfl, rfl, rfl, h1, r1⟩ := trodAll_cons r0
  obtain ⟨v2, vs2, d2, ds2, p2, q2, rfl, rfl, rfl, h2, r2⟩ := trodAll_cons r1
  obtain ⟨rfl, rfl, rfl⟩ := trodAll_nil r2
  obtain rfl : args = #[v0, v1, v2] := by cases args; simp_all
  obtain ⟨rfl, rfl⟩ := trodVars_none hV
  obtain ⟨a0, rfl, rfl, rfl, w0⟩ := open_int Try.underlying2 (hval 0 2 v0 rfl rfl) h0
  have k1 := h1
  have lt1 : ∀ x ∈ p1, x.block < W.heap.size := by obtain ⟨m, hm⟩ := k1; exact DataW.trod_lt m _ _ _ hm
  obtain ⟨A1, n1, c1, rfl⟩ := okWide_slice Try.underlying56 (hval 1 56 v1 rfl rfl)
  obtain ⟨x1, K1, G1⟩ := (fun hh => hh) (show ∃ a_ : List (List Int), (Kd.slice 22 (Kd.slice 2 (Kd.int .i64))).K W a_ [.slice A1 n1 c1] ∧ ((∀ x0_ ∈ a_, (∀ x1_ ∈ x0_, (Lit.int .i64 x1_).wf = true) ∧ x0_.length * 8 ≤ 140737488351232 ∧ x0_.length ≤ 9223372036854775807) ∧ a_.length * 24 ≤ 140737488351232 ∧ a_.length ≤ 9223372036854775807) from by
    obtain ⟨fuel, hf⟩ := h1
    exact (O.opens_slice Try.underlying56 (O.opens_slice Try.underlying22 (O.opens_int Try.underlying2) (by kernel_rfl) (by kernel_rfl)) (by kernel_rfl) (by kernel_rfl)) enc W 0 _ true fuel [.slice A1 n1 c1] _ hf (fun z hz => of_decide_eq_true (List.all_eq_true.1 hsz z (DataW.weights_mem_each (j := 1) (t := 56) rfl rfl z hz))))
  obtain ⟨B1_0, e1_0, hh1, hl1_0, hC1_0⟩ := K1
  simp only [List.cons.injEq, Value.slice.injEq, and_true] at hh1
  obtain ⟨rfl, rfl, rfl⟩ := hh1
  have k2 := h2
  have lt2 : ∀ x ∈ p2, x.block < W.heap.size := by obtain ⟨m, hm⟩ := k2; exact DataW.trod_lt m _ _ _ hm
  obtain ⟨A2, n2, c2, rfl⟩ := okWide_slice Try.underlying56 (hval 2 56 v2 rfl rfl)
  obtain ⟨x2, K2, G2⟩ := (fun hh => hh) (show ∃ a_ : List (List Int), (Kd.slice 22 (Kd.slice 2 (Kd.int .i64))).K W a_ [.slice A2 n2 c2] ∧ ((∀ x0_ ∈ a_, (∀ x1_ ∈ x0_, (Lit.int .i64 x1_).wf = true) ∧ x0_.length * 8 ≤ 140737488351232 ∧ x0_.length ≤ 9223372036854775807) ∧ a_.length * 24 ≤ 140737488351232 ∧ a_.length ≤ 9223372036854775807) from by
    obtain ⟨fuel, hf⟩ := h2
    exact (O.opens_slice Try.underlying56 (O.opens_slice Try.underlying22 (O.opens_int Try.underlying2) (by kernel_rfl) (by kernel_rfl)) (by kernel_rfl) (by kernel_rfl)) enc W 0 _ true fuel [.slice A2 n2 c2] _ hf (fun z hz => of_decide_eq_true (List.all_eq_true.1 hsz z (DataW.weights_mem_each (j := 2) (t := 56) rfl rfl z hz))))
  obtain ⟨B2_0, e2_0, hh2, hl2_0, hC2_0⟩ := K2
  simp only [List.cons.injEq, Value.slice.injEq, and_true] at hh2
  obtain ⟨rfl, rfl, rfl⟩ := hh2
  clear hA0 hval0 hsz0 hsz
  refine (PFnExactLeastReach.laws_FnExactLeastReach.walk Pure.FnExactLeastReach a0 _ _ x1 _ _ x2 W hC1_0 hl1_0 hC2_0 hl2_0 w0 G1 G2).mono fun e W' ⟨he, bel⟩ => ?_
  subst he
  exact ⟨_, rfl, _, _, _, [], _, [], hW', trodAll_mk1 (shut_bool Try.underlying4 _), (trodAll_cons_mk (shut_int Try.underlying2 w0) (trodAll_cons_mk (Below.trod laidOut (by kernel_rfl) (of_decide_eq_true (by kernel_rfl)) k1 bel lt1) (trodAll_cons_mk (Below.trod laidOut (by kernel_rfl) (of_decide_eq_true (by kernel_rfl)) k2 bel lt2) trodAll_mk0))), rfl, bel.frame _, fun h => by cases h⟩
theorem over : Rows.fnExactLeastReachRow.holds Try.pinned (OpenSpec.ofChange Rows.fnExactLeastReachSpec) :=
  OpenClaim.holds_of_wide 9 Try.f9 rfl rfl rfl rfl rfl rfl rfl ⟨rfl, rfl, rfl, rfl, rfl⟩ rfl rfl rfl rfl rfl (by kernel_rfl) Try.func9 (by kernel_rfl)
    (of_decide_eq_true (by kernel_rfl)) (by unfold Func.isWrapper; first | (rw [if_pos (by decide +kernel)]; kernel_rfl) | (rw [if_neg (by decide +kernel)]; exact ⟨rfl, rfl⟩))
    (fun os started H enc _ => lifted os started H enc)
theorem proved : Rows.FnExactLeastReachSaid := over
#print axioms proved
end Go.Proofs.Ytacjknmphgpjaaa.fnExactLeastReach
namespace Go.Proofs.Ytacjknmphgpjaaa
/-- The row, under a short name, for the claim. -/
theorem fnExactLeastReach_holds : Rows.FnExactLeastReachSaid := fnExactLeastReach.proved
end Go.Proofs.Ytacjknmphgpjaaa

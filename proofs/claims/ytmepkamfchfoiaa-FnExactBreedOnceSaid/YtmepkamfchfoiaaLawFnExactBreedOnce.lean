-- Written by a program of this session (its own print).
import Derived.Test.YtmepkamfchfoiaaRows
import Derived.Test.YtmepkamfchfoiaaPFnExactBreedOncex5
import Derived.Test.YtmepkamfchfoiaaPureFnExactBreedOnce
import Derived.Test.YtmepkamfchfoiaaVFnExactBreedOnceOpen
import Derived.WalkKit
import Derived.ProofKit
import Derived.OpenShut
import Derived.ShutString
import Derived.ChangeOld
import Derived.Below
import Derived.SizedLaws
namespace Go.Proofs.Ytmepkamfchfoiaa.fnExactBreedOnce
open Go.ChangeShapes Go.WideShapes Go.ChangeAt Go.RowKit Go.Proofs.YtmepkamfchfoiaaW.PrintWords Go.Proofs.Ytmepkamfchfoiaa.PFnExactBreedOnce
open Go.ChangeMaps (open_string shut_string)
set_option linter.unusedVariables false
theorem own : ownKnob Try.prog.godebug = none := by kernel_rfl
theorem laidOut : laidOutB Try.prog = true := by kernel_rfl
theorem lenY49 {α : Type} {l : List α} (h : l.length = 3) : ∃ y0 y1 y2, l = [y0, y1, y2] := by
  match l, h with
  | [y0, y1, y2], _ => exact ⟨y0, y1, y2, rfl⟩
theorem lenC49 {α : Type} {l : List α} (h : l.length = 3) : ∃ c0 c1 c2, l = [c0, c1, c2] := by
  match l, h with
  | [c0, c1, c2], _ => exact ⟨c0, c1, c2, rfl⟩
theorem opensP49 : O.Opens Try.prog 49 (Kd.pair (Kd.int .i64) (Kd.pair (Kd.int .i64) (Kd.slice 2 (Kd.int .i64)))) (fun a_ : (Int × Int × List Int) => ((Lit.int .i64 a_.1).wf = true) ∧ ((Lit.int .i64 a_.2.1).wf = true) ∧ ((∀ x0_ ∈ a_.2.2, (Lit.int .i64 x0_).wf = true) ∧ a_.2.2.length * 8 ≤ 140737488351232 ∧ a_.2.2.length ≤ 9223372036854775807)) := by
  intro H enc W base spare held fuel cs x h hw
  obtain ⟨ys, n, _, rfl, hlen, hyl, hf⟩ := DataW.trod_struct Try.underlying49 h
  rw [show Try.prog.cellsOf 49 = 3 from by kernel_rfl] at hlen
  obtain ⟨y0, y1, y2, rfl⟩ := lenY49 hyl
  obtain ⟨c0, c1, c2, rfl⟩ := lenC49 hlen
  have f0 : DataW.trod enc Try.prog W base spare held n 2 (List.take (Try.prog.cellsOf 2) (List.drop 0 [c0, c1, c2])) = some y0 := hf 0 _ rfl
  rw [show Try.prog.cellsOf 2 = 1 from by kernel_rfl] at f0
  obtain ⟨a0, k0, g0⟩ := (O.opens_int Try.underlying2) enc W base spare held n [c0] y0 f0 (fun z hz => hw z (O.weights_field Try.underlying49 (j := 0) rfl rfl z hz))
  have f1 : DataW.trod enc Try.prog W base spare held n 2 (List.take (Try.prog.cellsOf 2) (List.drop 1 [c0, c1, c2])) = some y1 := hf 1 _ rfl
  rw [show Try.prog.cellsOf 2 = 1 from by kernel_rfl] at f1
  obtain ⟨a1, k1, g1⟩ := (O.opens_int Try.underlying2) enc W base spare held n [c1] y1 f1 (fun z hz => hw z (O.weights_field Try.underlying49 (j := 1) rfl rfl z hz))
  have f2 : DataW.trod enc Try.prog W base spare held n 34 (List.take (Try.prog.cellsOf 34) (List.drop 2 [c0, c1, c2])) = some y2 := hf 2 _ rfl
  rw [show Try.prog.cellsOf 34 = 1 from by kernel_rfl] at f2
  obtain ⟨a2, k2, g2⟩ := (O.opens_slice Try.underlying34 (O.opens_int Try.underlying2) (by kernel_rfl) (by kernel_rfl)) enc W base spare held n [c2] y2 f2 (fun z hz => hw z (O.weights_field Try.underlying49 (j := 2) rfl rfl z hz))
  exact ⟨(a0, a1, a2), ⟨[c0], [c1, c2], rfl, k0, ⟨[c1], [c2], rfl, k1, k2⟩⟩, g0, g1, g2⟩
theorem opensS49 : O.Opens Try.prog 49 k49 (fun b_ : S49 => ((Lit.int .i64 ((b_).f0)).wf = true) ∧ ((Lit.int .i64 ((b_).f1)).wf = true) ∧ ((∀ x0_ ∈ (b_).f2, (Lit.int .i64 x0_).wf = true) ∧ ((b_).f2).length * 8 ≤ 140737488351232 ∧ ((b_).f2).length ≤ 9223372036854775807)) := by
  intro H enc W base spare held fuel cs x hx hw
  obtain ⟨a, hk, hg⟩ := opensP49 enc W base spare held fuel cs x hx hw
  exact ⟨(⟨a.1, a.2.1, a.2.2⟩ : S49), hk, hg⟩
set_option maxRecDepth 100000 in
theorem lifted (os : Os) (started : os.Started) (H : Type) (enc : TypeId × Value → H) :
    ReturnsInHanded {} Try.checked os 3 .any (Rows.fnExactBreedOnceSpec.pre6 enc Try.prog Try.f3 Rows.fnExactBreedOnceRow.domain false) (Rows.fnExactBreedOnceSpec.post enc Try.prog Try.f3 false true false false) := by
  refine returnsInHanded_of_change_sized (C := Try.checked) own started (by kernel_rfl) Try.func3
    (ChangeSpec.witness6 (enc := enc) (C := Try.checked) false ⟨#[], #[.slice none 0 0, .int .i64 0, .int .i64 0, .int .i64 0, .int .i64 0, .int .i64 0], []⟩ 8 (by kernel_rfl) (by kernel_rfl) (by kernel_rfl) (by kernel_rfl)) ?_
  intro W base args ds gs before hval0 hW hcnd hsz0 _
  have hsz : (DataW.weightsEach Try.prog (Try.f3.params.toList ++ Rows.fnExactBreedOnceSpec.plain.varTypes Try.prog) (ds ++ gs)).all (· ≤ reachBytes) = true := hsz0
  have hval : ∀ (j : Nat) t v, Try.f3.params[j]? = some t → args[j]? = some v → Value.okWide Try.prog W .any base t v := hval0
  have hW' := hW
  obtain ⟨p, q, hA0, hV, rfl, hfz, hnd⟩ := hW
  have hA : DataW.TrodAll enc Try.prog W 0 (fun _ => true) true Try.f3.params.toList args.toList ds p := hA0
  rw [Try.params3] at hA hval hsz
  obtain ⟨v0, vs0, d0, ds0, p0, q0, hargs, rfl, rfl, h0, r0⟩ := trodAll_cons hA
  obtain ⟨v1, vs1, d1, ds1, p1, q1, rfl, rfl, rfl, h1, r1⟩ := trodAll_cons r0
  obtain ⟨v2, vs2, d2, ds2, p2, q2, rfl, rfl, rfl, h2, r2⟩ := trodAll_cons r1
  obtain ⟨v3, vs3, d3, ds3, p3, q3, rfl, rfl, rfl, h3, r3⟩ := trodAll_cons r2
  obtain ⟨v4, vs4, d4, ds4, p4, q4, rfl, rfl, rfl, h4, r4⟩ := trodAll_cons r3
  obtain ⟨v5, vs5, d5, ds5, p5, q5, rfl, rfl, rfl, h5, r5⟩ := trodAll_cons r4
  obtain ⟨rfl, rfl, rfl⟩ := trodAll_nil r5
  obtain rfl : args = #[v0, v1, v2, v3, v4, v5] := by cases args; simp_all
  obtain ⟨rfl, rfl⟩ := trodVars_none hV
  have k0 := h0
  have lt0 : ∀ x ∈ p0, x.block < W.heap.size := by obtain ⟨m, hm⟩ := k0; exact DataW.trod_lt m _ _ _ hm
  obtain ⟨A0, n0, c0, rfl⟩ := okWide_slice Try.underlying22 (hval 0 22 v0 rfl rfl)
  obtain ⟨x0, K0, G0⟩ := (fun hh => hh) (show ∃ a_ : List (S49), (Kd.slice 49 k49).K W a_ [.slice A0 n0 c0] ∧ ((∀ x0_ ∈ a_, ((Lit.int .i64 ((x0_).f0)).wf = true) ∧ ((Lit.int .i64 ((x0_).f1)).wf = true) ∧ ((∀ x1_ ∈ (x0_).f2, (Lit.int .i64 x1_).wf = true) ∧ ((x0_).f2).length * 8 ≤ 140737488351232 ∧ ((x0_).f2).length ≤ 9223372036854775807)) ∧ a_.length * 40 ≤ 140737488351232 ∧ a_.length ≤ 9223372036854775807) from by
    obtain ⟨fuel, hf⟩ := h0
    exact (O.opens_slice Try.underlying22 opensS49 (by kernel_rfl) (by kernel_rfl)) enc W 0 _ true fuel [.slice A0 n0 c0] _ hf (fun z hz => of_decide_eq_true (List.all_eq_true.1 hsz z (DataW.weights_mem_each (j := 0) (t := 22) rfl rfl z hz))))
  obtain ⟨B0_0, e0_0, hh0, hl0_0, hC0_0⟩ := K0
  simp only [List.cons.injEq, Value.slice.injEq, and_true] at hh0
  obtain ⟨rfl, rfl, rfl⟩ := hh0
  obtain ⟨a1, rfl, rfl, rfl, w1⟩ := open_int Try.underlying2 (hval 1 2 v1 rfl rfl) h1
  obtain ⟨a2, rfl, rfl, rfl, w2⟩ := open_int Try.underlying2 (hval 2 2 v2 rfl rfl) h2
  obtain ⟨a3, rfl, rfl, rfl, w3⟩ := open_int Try.underlying2 (hval 3 2 v3 rfl rfl) h3
  obtain ⟨a4, rfl, rfl, rfl, w4⟩ := open_int Try.underlying2 (hval 4 2 v4 rfl rfl) h4
  obtain ⟨a5, rfl, rfl, rfl, w5⟩ := open_int Try.underlying2 (hval 5 2 v5 rfl rfl) h5
  clear hA0 hval0 hsz0 hsz
  refine (PFnExactBreedOnce.laws_FnExactBreedOnce.walk Pure.FnExactBreedOnce _ _ x0 a1 a2 a3 a4 a5 W hC0_0 hl0_0 G0 w1 w2 w3 w4 w5).mono fun e W' ⟨he, bel⟩ => ?_
  subst he
  exact ⟨_, rfl, _, _, _, [], _, [], hW', trodAll_mk1 (shut_bool Try.underlying4 _), (trodAll_cons_mk (Below.trod laidOut (by kernel_rfl) (of_decide_eq_true (by kernel_rfl)) k0 bel lt0) (trodAll_cons_mk (shut_int Try.underlying2 w1) (trodAll_cons_mk (shut_int Try.underlying2 w2) (trodAll_cons_mk (shut_int Try.underlying2 w3) (trodAll_cons_mk (shut_int Try.underlying2 w4) (trodAll_cons_mk (shut_int Try.underlying2 w5) trodAll_mk0)))))), rfl, bel.frame _, fun h => by cases h⟩
theorem over : Rows.fnExactBreedOnceRow.holds Try.pinned (OpenSpec.ofChange Rows.fnExactBreedOnceSpec) :=
  OpenClaim.holds_of_wide 3 Try.f3 rfl rfl rfl rfl rfl rfl rfl ⟨rfl, rfl, rfl, rfl, rfl⟩ rfl rfl rfl rfl rfl (by kernel_rfl) Try.func3 (by kernel_rfl)
    (of_decide_eq_true (by kernel_rfl)) (by unfold Func.isWrapper; first | (rw [if_pos (by decide +kernel)]; kernel_rfl) | (rw [if_neg (by decide +kernel)]; exact ⟨rfl, rfl⟩))
    (fun os started H enc _ => lifted os started H enc)
theorem proved : Rows.FnExactBreedOnceSaid := over
#print axioms proved
end Go.Proofs.Ytmepkamfchfoiaa.fnExactBreedOnce
namespace Go.Proofs.Ytmepkamfchfoiaa
/-- The row, under a short name, for the claim. -/
theorem fnExactBreedOnce_holds : Rows.FnExactBreedOnceSaid := fnExactBreedOnce.proved
end Go.Proofs.Ytmepkamfchfoiaa

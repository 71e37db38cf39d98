-- Written by a program of this session (its own print).
import Derived.Test.YtbeinhdoggfgkaaRows
import Derived.Test.YtbeinhdoggfgkaaPFnExactSameSavedx2
import Derived.Test.YtbeinhdoggfgkaaPureFnExactSameSaved
import Derived.Test.YtbeinhdoggfgkaaOpen
import Derived.WalkKit
import Derived.ProofKit
import Derived.OpenShut
import Derived.ShutString
import Derived.ChangeOld
import Derived.Below
import Derived.SizedLaws
namespace Go.Proofs.Ytbeinhdoggfgkaa.fnExactSameSaved
open Go.ChangeShapes Go.WideShapes Go.ChangeAt Go.RowKit Go.Proofs.YtbeinhdoggfgkaaW.PrintWords Go.Proofs.Ytbeinhdoggfgkaa.PFnExactSameSaved
open Go.ChangeMaps (open_string shut_string)
set_option linter.unusedVariables false
theorem own : ownKnob Try.prog.godebug = none := by kernel_rfl
theorem laidOut : laidOutB Try.prog = true := by kernel_rfl
theorem lenY38 {α : Type} {l : List α} (h : l.length = 3) : ∃ y0 y1 y2, l = [y0, y1, y2] := by
  match l, h with
  | [y0, y1, y2], _ => exact ⟨y0, y1, y2, rfl⟩
theorem lenC38 {α : Type} {l : List α} (h : l.length = 3) : ∃ c0 c1 c2, l = [c0, c1, c2] := by
  match l, h with
  | [c0, c1, c2], _ => exact ⟨c0, c1, c2, rfl⟩
theorem opensP38 : O.Opens Try.prog 38 (Kd.pair (Kd.int .i64) (Kd.pair (Kd.int .i64) (Kd.slice 2 (Kd.int .i64)))) (fun a_ : (Int × Int × List Int) => ((Lit.int .i64 a_.1).wf = true) ∧ ((Lit.int .i64 a_.2.1).wf = true) ∧ ((∀ x0_ ∈ a_.2.2, (Lit.int .i64 x0_).wf = true) ∧ a_.2.2.length * 8 ≤ 140737488351232 ∧ a_.2.2.length ≤ 9223372036854775807)) := by
  intro H enc W base spare held fuel cs x h hw
  obtain ⟨ys, n, _, rfl, hlen, hyl, hf⟩ := DataW.trod_struct Try.underlying38 h
  rw [show Try.prog.cellsOf 38 = 3 from by kernel_rfl] at hlen
  obtain ⟨y0, y1, y2, rfl⟩ := lenY38 hyl
  obtain ⟨c0, c1, c2, rfl⟩ := lenC38 hlen
  have f0 : DataW.trod enc Try.prog W base spare held n 2 (List.take (Try.prog.cellsOf 2) (List.drop 0 [c0, c1, c2])) = some y0 := hf 0 _ rfl
  rw [show Try.prog.cellsOf 2 = 1 from by kernel_rfl] at f0
  obtain ⟨a0, k0, g0⟩ := (O.opens_int Try.underlying2) enc W base spare held n [c0] y0 f0 (fun z hz => hw z (O.weights_field Try.underlying38 (j := 0) rfl rfl z hz))
  have f1 : DataW.trod enc Try.prog W base spare held n 2 (List.take (Try.prog.cellsOf 2) (List.drop 1 [c0, c1, c2])) = some y1 := hf 1 _ rfl
  rw [show Try.prog.cellsOf 2 = 1 from by kernel_rfl] at f1
  obtain ⟨a1, k1, g1⟩ := (O.opens_int Try.underlying2) enc W base spare held n [c1] y1 f1 (fun z hz => hw z (O.weights_field Try.underlying38 (j := 1) rfl rfl z hz))
  have f2 : DataW.trod enc Try.prog W base spare held n 22 (List.take (Try.prog.cellsOf 22) (List.drop 2 [c0, c1, c2])) = some y2 := hf 2 _ rfl
  rw [show Try.prog.cellsOf 22 = 1 from by kernel_rfl] at f2
  obtain ⟨a2, k2, g2⟩ := (O.opens_slice Try.underlying22 (O.opens_int Try.underlying2) (by kernel_rfl) (by kernel_rfl)) enc W base spare held n [c2] y2 f2 (fun z hz => hw z (O.weights_field Try.underlying38 (j := 2) rfl rfl z hz))
  exact ⟨(a0, a1, a2), ⟨[c0], [c1, c2], rfl, k0, ⟨[c1], [c2], rfl, k1, k2⟩⟩, g0, g1, g2⟩
theorem lenY24 {α : Type} {l : List α} (h : l.length = 3) : ∃ y0 y1 y2, l = [y0, y1, y2] := by
  match l, h with
  | [y0, y1, y2], _ => exact ⟨y0, y1, y2, rfl⟩
theorem lenC24 {α : Type} {l : List α} (h : l.length = 3) : ∃ c0 c1 c2, l = [c0, c1, c2] := by
  match l, h with
  | [c0, c1, c2], _ => exact ⟨c0, c1, c2, rfl⟩
theorem opensP24 : O.Opens Try.prog 24 (Kd.pair (Kd.int .i64) (Kd.pair (Kd.int .i64) (Kd.slice 2 (Kd.int .i64)))) (fun a_ : (Int × Int × List Int) => ((Lit.int .i64 a_.1).wf = true) ∧ ((Lit.int .i64 a_.2.1).wf = true) ∧ ((∀ x0_ ∈ a_.2.2, (Lit.int .i64 x0_).wf = true) ∧ a_.2.2.length * 8 ≤ 140737488351232 ∧ a_.2.2.length ≤ 9223372036854775807)) := by
  intro H enc W base spare held fuel cs x h hw
  obtain ⟨ys, n, _, rfl, hlen, hyl, hf⟩ := DataW.trod_struct Try.underlying24 h
  rw [show Try.prog.cellsOf 24 = 3 from by kernel_rfl] at hlen
  obtain ⟨y0, y1, y2, rfl⟩ := lenY24 hyl
  obtain ⟨c0, c1, c2, rfl⟩ := lenC24 hlen
  have f0 : DataW.trod enc Try.prog W base spare held n 2 (List.take (Try.prog.cellsOf 2) (List.drop 0 [c0, c1, c2])) = some y0 := hf 0 _ rfl
  rw [show Try.prog.cellsOf 2 = 1 from by kernel_rfl] at f0
  obtain ⟨a0, k0, g0⟩ := (O.opens_int Try.underlying2) enc W base spare held n [c0] y0 f0 (fun z hz => hw z (O.weights_field Try.underlying24 (j := 0) rfl rfl z hz))
  have f1 : DataW.trod enc Try.prog W base spare held n 2 (List.take (Try.prog.cellsOf 2) (List.drop 1 [c0, c1, c2])) = some y1 := hf 1 _ rfl
  rw [show Try.prog.cellsOf 2 = 1 from by kernel_rfl] at f1
  obtain ⟨a1, k1, g1⟩ := (O.opens_int Try.underlying2) enc W base spare held n [c1] y1 f1 (fun z hz => hw z (O.weights_field Try.underlying24 (j := 1) rfl rfl z hz))
  have f2 : DataW.trod enc Try.prog W base spare held n 22 (List.take (Try.prog.cellsOf 22) (List.drop 2 [c0, c1, c2])) = some y2 := hf 2 _ rfl
  rw [show Try.prog.cellsOf 22 = 1 from by kernel_rfl] at f2
  obtain ⟨a2, k2, g2⟩ := (O.opens_slice Try.underlying22 (O.opens_int Try.underlying2) (by kernel_rfl) (by kernel_rfl)) enc W base spare held n [c2] y2 f2 (fun z hz => hw z (O.weights_field Try.underlying24 (j := 2) rfl rfl z hz))
  exact ⟨(a0, a1, a2), ⟨[c0], [c1, c2], rfl, k0, ⟨[c1], [c2], rfl, k1, k2⟩⟩, g0, g1, g2⟩
theorem lenY57 {α : Type} {l : List α} (h : l.length = 3) : ∃ y0 y1 y2, l = [y0, y1, y2] := by
  match l, h with
  | [y0, y1, y2], _ => exact ⟨y0, y1, y2, rfl⟩
theorem lenC57 {α : Type} {l : List α} (h : l.length = 7) : ∃ c0 c1 c2 c3 c4 c5 c6, l = [c0, c1, c2, c3, c4, c5, c6] := by
  match l, h with
  | [c0, c1, c2, c3, c4, c5, c6], _ => exact ⟨c0, c1, c2, c3, c4, c5, c6, rfl⟩
theorem opensP57 : O.Opens Try.prog 57 (Kd.pair Kd.string (Kd.pair (Kd.pair (Kd.int .i64) (Kd.pair (Kd.int .i64) (Kd.slice 2 (Kd.int .i64)))) (Kd.pair (Kd.int .i64) (Kd.pair (Kd.int .i64) (Kd.slice 2 (Kd.int .i64)))))) (fun a_ : (ByteArray × (Int × Int × List Int) × (Int × Int × List Int)) => (a_.1.size ≤ 140737488351232) ∧ (((Lit.int .i64 a_.2.1.1).wf = true) ∧ ((Lit.int .i64 a_.2.1.2.1).wf = true) ∧ ((∀ x0_ ∈ a_.2.1.2.2, (Lit.int .i64 x0_).wf = true) ∧ a_.2.1.2.2.length * 8 ≤ 140737488351232 ∧ a_.2.1.2.2.length ≤ 9223372036854775807)) ∧ (((Lit.int .i64 a_.2.2.1).wf = true) ∧ ((Lit.int .i64 a_.2.2.2.1).wf = true) ∧ ((∀ x0_ ∈ a_.2.2.2.2, (Lit.int .i64 x0_).wf = true) ∧ a_.2.2.2.2.length * 8 ≤ 140737488351232 ∧ a_.2.2.2.2.length ≤ 9223372036854775807))) := by
  intro H enc W base spare held fuel cs x h hw
  obtain ⟨ys, n, _, rfl, hlen, hyl, hf⟩ := DataW.trod_struct Try.underlying57 h
  rw [show Try.prog.cellsOf 57 = 7 from by kernel_rfl] at hlen
  obtain ⟨y0, y1, y2, rfl⟩ := lenY57 hyl
  obtain ⟨c0, c1, c2, c3, c4, c5, c6, rfl⟩ := lenC57 hlen
  have f0 : DataW.trod enc Try.prog W base spare held n 9 (List.take (Try.prog.cellsOf 9) (List.drop 0 [c0, c1, c2, c3, c4, c5, c6])) = some y0 := hf 0 _ rfl
  rw [show Try.prog.cellsOf 9 = 1 from by kernel_rfl] at f0
  obtain ⟨a0, k0, g0⟩ := (O.opens_string Try.underlying9) enc W base spare held n [c0] y0 f0 (fun z hz => hw z (O.weights_field Try.underlying57 (j := 0) rfl rfl z hz))
  have f1 : DataW.trod enc Try.prog W base spare held n 38 (List.take (Try.prog.cellsOf 38) (List.drop 1 [c0, c1, c2, c3, c4, c5, c6])) = some y1 := hf 1 _ rfl
  rw [show Try.prog.cellsOf 38 = 3 from by kernel_rfl] at f1
  obtain ⟨a1, k1, g1⟩ := opensP38 enc W base spare held n [c1, c2, c3] y1 f1 (fun z hz => hw z (O.weights_field Try.underlying57 (j := 1) rfl rfl z hz))
  have f2 : DataW.trod enc Try.prog W base spare held n 24 (List.take (Try.prog.cellsOf 24) (List.drop 4 [c0, c1, c2, c3, c4, c5, c6])) = some y2 := hf 2 _ rfl
  rw [show Try.prog.cellsOf 24 = 3 from by kernel_rfl] at f2
  obtain ⟨a2, k2, g2⟩ := opensP24 enc W base spare held n [c4, c5, c6] y2 f2 (fun z hz => hw z (O.weights_field Try.underlying57 (j := 2) rfl rfl z hz))
  exact ⟨(a0, a1, a2), ⟨[c0], [c1, c2, c3, c4, c5, c6], rfl, k0, ⟨[c1, c2, c3], [c4, c5, c6], rfl, k1, k2⟩⟩, g0, g1, g2⟩
theorem opensS57 : O.Opens Try.prog 57 k57 (fun b_ : S57 => (((b_).f0).size ≤ 140737488351232) ∧ (((Lit.int .i64 (((b_).f1).f0)).wf = true) ∧ ((Lit.int .i64 (((b_).f1).f1)).wf = true) ∧ ((∀ x0_ ∈ ((b_).f1).f2, (Lit.int .i64 x0_).wf = true) ∧ (((b_).f1).f2).length * 8 ≤ 140737488351232 ∧ (((b_).f1).f2).length ≤ 9223372036854775807)) ∧ (((Lit.int .i64 (((b_).f2).f0)).wf = true) ∧ ((Lit.int .i64 (((b_).f2).f1)).wf = true) ∧ ((∀ x0_ ∈ ((b_).f2).f2, (Lit.int .i64 x0_).wf = true) ∧ (((b_).f2).f2).length * 8 ≤ 140737488351232 ∧ (((b_).f2).f2).length ≤ 9223372036854775807))) := by
  intro H enc W base spare held fuel cs x hx hw
  obtain ⟨a, hk, hg⟩ := opensP57 enc W base spare held fuel cs x hx hw
  exact ⟨(⟨a.1, (⟨a.2.1.1, a.2.1.2.1, a.2.1.2.2⟩ : S38), (⟨a.2.2.1, a.2.2.2.1, a.2.2.2.2⟩ : S24)⟩ : S57), hk, hg⟩
set_option maxRecDepth 100000 in
theorem lifted (os : Os) (started : os.Started) (H : Type) (enc : TypeId × Value → H) :
    ReturnsInHanded {} Try.checked os 9 .any (Rows.fnExactSameSavedSpec.pre6 enc Try.prog Try.f9 Rows.fnExactSameSavedRow.domain false) (Rows.fnExactSameSavedSpec.post enc Try.prog Try.f9 false true false false) := by
  refine returnsInHanded_of_change_sized (C := Try.checked) own started (by kernel_rfl) Try.func9
    (ChangeSpec.witness6 (enc := enc) (C := Try.checked) false ⟨#[], #[.slice none 0 0, .slice none 0 0], []⟩ 8 (by kernel_rfl) (by kernel_rfl) (by kernel_rfl) (by kernel_rfl)) ?_
  intro W base args ds gs before hval0 hW hcnd hsz0 _
  have hsz : (DataW.weightsEach Try.prog (Try.f9.params.toList ++ Rows.fnExactSameSavedSpec.plain.varTypes Try.prog) (ds ++ gs)).all (· ≤ reachBytes) = true := hsz0
  have hval : ∀ (j : Nat) t v, Try.f9.params[j]? = some t → args[j]? = some v → Value.okWide Try.prog W .any base t v := hval0
  have hW' := hW
  obtain ⟨p, q, hA0, hV, rfl, hfz, hnd⟩ := hW
  have hA : DataW.TrodAll enc Try.prog W 0 (fun _ => true) true Try.f9.params.toList args.toList ds p := hA0
  rw [Try.params9] at hA hval hsz
  obtain ⟨v0, vs0, d0, ds0, p0, q0, hargs, rfl, rfl, h0, r0⟩ := trodAll_cons hA
  obtain ⟨v1, vs1, d1, ds1, p1, q1, rfl, rfl, rfl, h1, r1⟩ := trodAll_cons r0
  obtain ⟨rfl, rfl, rfl⟩ := trodAll_nil r1
  obtain rfl : args = #[v0, v1] := by cases args; simp_all
  obtain ⟨rfl, rfl⟩ := trodVars_none hV
  have k0 := h0
  have lt0 : ∀ x ∈ p0, x.block < W.heap.size := by obtain ⟨m, hm⟩ := k0; exact DataW.trod_lt m _ _ _ hm
  obtain ⟨A0, n0, c0, rfl⟩ := okWide_slice Try.underlying65 (hval 0 65 v0 rfl rfl)
  obtain ⟨x0, K0, G0⟩ := (fun hh => hh) (show ∃ a_ : List (S57), (Kd.slice 57 k57).K W a_ [.slice A0 n0 c0] ∧ ((∀ x0_ ∈ a_, (((x0_).f0).size ≤ 140737488351232) ∧ (((Lit.int .i64 (((x0_).f1).f0)).wf = true) ∧ ((Lit.int .i64 (((x0_).f1).f1)).wf = true) ∧ ((∀ x1_ ∈ ((x0_).f1).f2, (Lit.int .i64 x1_).wf = true) ∧ (((x0_).f1).f2).length * 8 ≤ 140737488351232 ∧ (((x0_).f1).f2).length ≤ 9223372036854775807)) ∧ (((Lit.int .i64 (((x0_).f2).f0)).wf = true) ∧ ((Lit.int .i64 (((x0_).f2).f1)).wf = true) ∧ ((∀ x1_ ∈ ((x0_).f2).f2, (Lit.int .i64 x1_).wf = true) ∧ (((x0_).f2).f2).length * 8 ≤ 140737488351232 ∧ (((x0_).f2).f2).length ≤ 9223372036854775807))) ∧ a_.length * 96 ≤ 140737488351232 ∧ a_.length ≤ 9223372036854775807) from by
    obtain ⟨fuel, hf⟩ := h0
    exact (O.opens_slice Try.underlying65 opensS57 (by kernel_rfl) (by kernel_rfl)) enc W 0 _ true fuel [.slice A0 n0 c0] _ hf (fun z hz => of_decide_eq_true (List.all_eq_true.1 hsz z (DataW.weights_mem_each (j := 0) (t := 65) rfl rfl z hz))))
  obtain ⟨B0_0, e0_0, hh0, hl0_0, hC0_0⟩ := K0
  simp only [List.cons.injEq, Value.slice.injEq, and_true] at hh0
  obtain ⟨rfl, rfl, rfl⟩ := hh0
  have k1 := h1
  have lt1 : ∀ x ∈ p1, x.block < W.heap.size := by obtain ⟨m, hm⟩ := k1; exact DataW.trod_lt m _ _ _ hm
  obtain ⟨A1, n1, c1, rfl⟩ := okWide_slice Try.underlying65 (hval 1 65 v1 rfl rfl)
  obtain ⟨x1, K1, G1⟩ := (fun hh => hh) (show ∃ a_ : List (S57), (Kd.slice 57 k57).K W a_ [.slice A1 n1 c1] ∧ ((∀ x0_ ∈ a_, (((x0_).f0).size ≤ 140737488351232) ∧ (((Lit.int .i64 (((x0_).f1).f0)).wf = true) ∧ ((Lit.int .i64 (((x0_).f1).f1)).wf = true) ∧ ((∀ x1_ ∈ ((x0_).f1).f2, (Lit.int .i64 x1_).wf = true) ∧ (((x0_).f1).f2).length * 8 ≤ 140737488351232 ∧ (((x0_).f1).f2).length ≤ 9223372036854775807)) ∧ (((Lit.int .i64 (((x0_).f2).f0)).wf = true) ∧ ((Lit.int .i64 (((x0_).f2).f1)).wf = true) ∧ ((∀ x1_ ∈ ((x0_).f2).f2, (Lit.int .i64 x1_).wf = true) ∧ (((x0_).f2).f2).length * 8 ≤ 140737488351232 ∧ (((x0_).f2).f2).length ≤ 9223372036854775807))) ∧ a_.length * 96 ≤ 140737488351232 ∧ a_.length ≤ 9223372036854775807) from by
    obtain ⟨fuel, hf⟩ := h1
    exact (O.opens_slice Try.underlying65 opensS57 (by kernel_rfl) (by kernel_rfl)) enc W 0 _ true fuel [.slice A1 n1 c1] _ hf (fun z hz => of_decide_eq_true (List.all_eq_true.1 hsz z (DataW.weights_mem_each (j := 1) (t := 65) rfl rfl z hz))))
  obtain ⟨B1_0, e1_0, hh1, hl1_0, hC1_0⟩ := K1
  simp only [List.cons.injEq, Value.slice.injEq, and_true] at hh1
  obtain ⟨rfl, rfl, rfl⟩ := hh1
  clear hA0 hval0 hsz0 hsz
  refine (PFnExactSameSaved.laws_FnExactSameSaved.walk Pure.FnExactSameSaved _ _ x0 _ _ x1 W hC0_0 hl0_0 hC1_0 hl1_0 G0 G1).mono fun e W' ⟨he, bel⟩ => ?_
  subst he
  exact ⟨_, rfl, _, _, _, [], _, [], hW', trodAll_mk1 (shut_bool Try.underlying4 _), (trodAll_cons_mk (Below.trod laidOut (by kernel_rfl) (of_decide_eq_true (by kernel_rfl)) k0 bel lt0) (trodAll_cons_mk (Below.trod laidOut (by kernel_rfl) (of_decide_eq_true (by kernel_rfl)) k1 bel lt1) trodAll_mk0)), rfl, bel.frame _, fun h => by cases h⟩
theorem over : Rows.fnExactSameSavedRow.holds Try.pinned (OpenSpec.ofChange Rows.fnExactSameSavedSpec) :=
  OpenClaim.holds_of_wide 9 Try.f9 rfl rfl rfl rfl rfl rfl rfl ⟨rfl, rfl, rfl, rfl, rfl⟩ rfl rfl rfl rfl rfl (by kernel_rfl) Try.func9 (by kernel_rfl)
    (of_decide_eq_true (by kernel_rfl)) (by unfold Func.isWrapper; first | (rw [if_pos (by decide +kernel)]; kernel_rfl) | (rw [if_neg (by decide +kernel)]; exact ⟨rfl, rfl⟩))
    (fun os started H enc _ => lifted os started H enc)
theorem proved : Rows.FnExactSameSavedSaid := over
#print axioms proved
end Go.Proofs.Ytbeinhdoggfgkaa.fnExactSameSaved
namespace Go.Proofs.Ytbeinhdoggfgkaa
/-- The row, under a short name, for the claim. -/
theorem fnExactSameSaved_holds : Rows.FnExactSameSavedSaid := fnExactSameSaved.proved
end Go.Proofs.Ytbeinhdoggfgkaa

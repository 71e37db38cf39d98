-- Written by a program of this session (its own print).
import Derived.Test.YtjhodohmifemiaaRows
import Derived.Test.YtjhodohmifemiaaPFnExactStoreAllx3
import Derived.Test.YtjhodohmifemiaaPureFnExactStoreAll
import Derived.Test.YtjhodohmifemiaaOpen
import Derived.WalkKit
import Derived.ProofKit
import Derived.OpenShut
import Derived.ShutString
import Derived.ChangeOld
import Derived.Below
import Derived.SizedLaws
namespace Go.Proofs.Ytjhodohmifemiaa.fnExactStoreAll
open Go.ChangeShapes Go.WideShapes Go.ChangeAt Go.RowKit Go.Proofs.YtjhodohmifemiaaW.PrintWords Go.Proofs.Ytjhodohmifemiaa.PFnExactStoreAll
open Go.ChangeMaps (open_string shut_string)
set_option linter.unusedVariables false
theorem own : ownKnob Try.prog.godebug = none := by kernel_rfl
theorem laidOut : laidOutB Try.prog = true := by kernel_rfl
theorem lenY57 {α : Type} {l : List α} (h : l.length = 3) : ∃ y0 y1 y2, l = [y0, y1, y2] := by
  match l, h with
  | [y0, y1, y2], _ => exact ⟨y0, y1, y2, rfl⟩
theorem lenC57 {α : Type} {l : List α} (h : l.length = 3) : ∃ c0 c1 c2, l = [c0, c1, c2] := by
  match l, h with
  | [c0, c1, c2], _ => exact ⟨c0, c1, c2, rfl⟩
theorem opensP57 : O.Opens Try.prog 57 (Kd.pair (Kd.int .i64) (Kd.pair (Kd.int .i64) (Kd.slice 2 (Kd.int .i64)))) (fun a_ : (Int × Int × List Int) => ((Lit.int .i64 a_.1).wf = true) ∧ ((Lit.int .i64 a_.2.1).wf = true) ∧ ((∀ x0_ ∈ a_.2.2, (Lit.int .i64 x0_).wf = true) ∧ a_.2.2.length * 8 ≤ 140737488351232 ∧ a_.2.2.length ≤ 9223372036854775807)) := by
  intro H enc W base spare held fuel cs x h hw
  obtain ⟨ys, n, _, rfl, hlen, hyl, hf⟩ := DataW.trod_struct Try.underlying57 h
  rw [show Try.prog.cellsOf 57 = 3 from by kernel_rfl] at hlen
  obtain ⟨y0, y1, y2, rfl⟩ := lenY57 hyl
  obtain ⟨c0, c1, c2, rfl⟩ := lenC57 hlen
  have f0 : DataW.trod enc Try.prog W base spare held n 2 (List.take (Try.prog.cellsOf 2) (List.drop 0 [c0, c1, c2])) = some y0 := hf 0 _ rfl
  rw [show Try.prog.cellsOf 2 = 1 from by kernel_rfl] at f0
  obtain ⟨a0, k0, g0⟩ := (O.opens_int Try.underlying2) enc W base spare held n [c0] y0 f0 (fun z hz => hw z (O.weights_field Try.underlying57 (j := 0) rfl rfl z hz))
  have f1 : DataW.trod enc Try.prog W base spare held n 2 (List.take (Try.prog.cellsOf 2) (List.drop 1 [c0, c1, c2])) = some y1 := hf 1 _ rfl
  rw [show Try.prog.cellsOf 2 = 1 from by kernel_rfl] at f1
  obtain ⟨a1, k1, g1⟩ := (O.opens_int Try.underlying2) enc W base spare held n [c1] y1 f1 (fun z hz => hw z (O.weights_field Try.underlying57 (j := 1) rfl rfl z hz))
  have f2 : DataW.trod enc Try.prog W base spare held n 22 (List.take (Try.prog.cellsOf 22) (List.drop 2 [c0, c1, c2])) = some y2 := hf 2 _ rfl
  rw [show Try.prog.cellsOf 22 = 1 from by kernel_rfl] at f2
  obtain ⟨a2, k2, g2⟩ := (O.opens_slice Try.underlying22 (O.opens_int Try.underlying2) (by kernel_rfl) (by kernel_rfl)) enc W base spare held n [c2] y2 f2 (fun z hz => hw z (O.weights_field Try.underlying57 (j := 2) rfl rfl z hz))
  exact ⟨(a0, a1, a2), ⟨[c0], [c1, c2], rfl, k0, ⟨[c1], [c2], rfl, k1, k2⟩⟩, g0, g1, g2⟩
theorem lenY59 {α : Type} {l : List α} (h : l.length = 3) : ∃ y0 y1 y2, l = [y0, y1, y2] := by
  match l, h with
  | [y0, y1, y2], _ => exact ⟨y0, y1, y2, rfl⟩
theorem lenC59 {α : Type} {l : List α} (h : l.length = 3) : ∃ c0 c1 c2, l = [c0, c1, c2] := by
  match l, h with
  | [c0, c1, c2], _ => exact ⟨c0, c1, c2, rfl⟩
theorem opensP59 : O.Opens Try.prog 59 (Kd.pair (Kd.int .i64) (Kd.pair (Kd.int .i64) (Kd.slice 2 (Kd.int .i64)))) (fun a_ : (Int × Int × List Int) => ((Lit.int .i64 a_.1).wf = true) ∧ ((Lit.int .i64 a_.2.1).wf = true) ∧ ((∀ x0_ ∈ a_.2.2, (Lit.int .i64 x0_).wf = true) ∧ a_.2.2.length * 8 ≤ 140737488351232 ∧ a_.2.2.length ≤ 9223372036854775807)) := by
  intro H enc W base spare held fuel cs x h hw
  obtain ⟨ys, n, _, rfl, hlen, hyl, hf⟩ := DataW.trod_struct Try.underlying59 h
  rw [show Try.prog.cellsOf 59 = 3 from by kernel_rfl] at hlen
  obtain ⟨y0, y1, y2, rfl⟩ := lenY59 hyl
  obtain ⟨c0, c1, c2, rfl⟩ := lenC59 hlen
  have f0 : DataW.trod enc Try.prog W base spare held n 2 (List.take (Try.prog.cellsOf 2) (List.drop 0 [c0, c1, c2])) = some y0 := hf 0 _ rfl
  rw [show Try.prog.cellsOf 2 = 1 from by kernel_rfl] at f0
  obtain ⟨a0, k0, g0⟩ := (O.opens_int Try.underlying2) enc W base spare held n [c0] y0 f0 (fun z hz => hw z (O.weights_field Try.underlying59 (j := 0) rfl rfl z hz))
  have f1 : DataW.trod enc Try.prog W base spare held n 2 (List.take (Try.prog.cellsOf 2) (List.drop 1 [c0, c1, c2])) = some y1 := hf 1 _ rfl
  rw [show Try.prog.cellsOf 2 = 1 from by kernel_rfl] at f1
  obtain ⟨a1, k1, g1⟩ := (O.opens_int Try.underlying2) enc W base spare held n [c1] y1 f1 (fun z hz => hw z (O.weights_field Try.underlying59 (j := 1) rfl rfl z hz))
  have f2 : DataW.trod enc Try.prog W base spare held n 22 (List.take (Try.prog.cellsOf 22) (List.drop 2 [c0, c1, c2])) = some y2 := hf 2 _ rfl
  rw [show Try.prog.cellsOf 22 = 1 from by kernel_rfl] at f2
  obtain ⟨a2, k2, g2⟩ := (O.opens_slice Try.underlying22 (O.opens_int Try.underlying2) (by kernel_rfl) (by kernel_rfl)) enc W base spare held n [c2] y2 f2 (fun z hz => hw z (O.weights_field Try.underlying59 (j := 2) rfl rfl z hz))
  exact ⟨(a0, a1, a2), ⟨[c0], [c1, c2], rfl, k0, ⟨[c1], [c2], rfl, k1, k2⟩⟩, g0, g1, g2⟩
theorem lenY61 {α : Type} {l : List α} (h : l.length = 3) : ∃ y0 y1 y2, l = [y0, y1, y2] := by
  match l, h with
  | [y0, y1, y2], _ => exact ⟨y0, y1, y2, rfl⟩
theorem lenC61 {α : Type} {l : List α} (h : l.length = 7) : ∃ c0 c1 c2 c3 c4 c5 c6, l = [c0, c1, c2, c3, c4, c5, c6] := by
  match l, h with
  | [c0, c1, c2, c3, c4, c5, c6], _ => exact ⟨c0, c1, c2, c3, c4, c5, c6, rfl⟩
theorem opensP61 : O.Opens Try.prog 61 (Kd.pair Kd.string (Kd.pair (Kd.pair (Kd.int .i64) (Kd.pair (Kd.int .i64) (Kd.slice 2 (Kd.int .i64)))) (Kd.pair (Kd.int .i64) (Kd.pair (Kd.int .i64) (Kd.slice 2 (Kd.int .i64)))))) (fun a_ : (ByteArray × (Int × Int × List Int) × (Int × Int × List Int)) => (a_.1.size ≤ 140737488351232) ∧ (((Lit.int .i64 a_.2.1.1).wf = true) ∧ ((Lit.int .i64 a_.2.1.2.1).wf = true) ∧ ((∀ x0_ ∈ a_.2.1.2.2, (Lit.int .i64 x0_).wf = true) ∧ a_.2.1.2.2.length * 8 ≤ 140737488351232 ∧ a_.2.1.2.2.length ≤ 9223372036854775807)) ∧ (((Lit.int .i64 a_.2.2.1).wf = true) ∧ ((Lit.int .i64 a_.2.2.2.1).wf = true) ∧ ((∀ x0_ ∈ a_.2.2.2.2, (Lit.int .i64 x0_).wf = true) ∧ a_.2.2.2.2.length * 8 ≤ 140737488351232 ∧ a_.2.2.2.2.length ≤ 9223372036854775807))) := by
  intro H enc W base spare held fuel cs x h hw
  obtain ⟨ys, n, _, rfl, hlen, hyl, hf⟩ := DataW.trod_struct Try.underlying61 h
  rw [show Try.prog.cellsOf 61 = 7 from by kernel_rfl] at hlen
  obtain ⟨y0, y1, y2, rfl⟩ := lenY61 hyl
  obtain ⟨c0, c1, c2, c3, c4, c5, c6, rfl⟩ := lenC61 hlen
  have f0 : DataW.trod enc Try.prog W base spare held n 9 (List.take (Try.prog.cellsOf 9) (List.drop 0 [c0, c1, c2, c3, c4, c5, c6])) = some y0 := hf 0 _ rfl
  rw [show Try.prog.cellsOf 9 = 1 from by kernel_rfl] at f0
  obtain ⟨a0, k0, g0⟩ := (O.opens_string Try.underlying9) enc W base spare held n [c0] y0 f0 (fun z hz => hw z (O.weights_field Try.underlying61 (j := 0) rfl rfl z hz))
  have f1 : DataW.trod enc Try.prog W base spare held n 57 (List.take (Try.prog.cellsOf 57) (List.drop 1 [c0, c1, c2, c3, c4, c5, c6])) = some y1 := hf 1 _ rfl
  rw [show Try.prog.cellsOf 57 = 3 from by kernel_rfl] at f1
  obtain ⟨a1, k1, g1⟩ := opensP57 enc W base spare held n [c1, c2, c3] y1 f1 (fun z hz => hw z (O.weights_field Try.underlying61 (j := 1) rfl rfl z hz))
  have f2 : DataW.trod enc Try.prog W base spare held n 59 (List.take (Try.prog.cellsOf 59) (List.drop 4 [c0, c1, c2, c3, c4, c5, c6])) = some y2 := hf 2 _ rfl
  rw [show Try.prog.cellsOf 59 = 3 from by kernel_rfl] at f2
  obtain ⟨a2, k2, g2⟩ := opensP59 enc W base spare held n [c4, c5, c6] y2 f2 (fun z hz => hw z (O.weights_field Try.underlying61 (j := 2) rfl rfl z hz))
  exact ⟨(a0, a1, a2), ⟨[c0], [c1, c2, c3, c4, c5, c6], rfl, k0, ⟨[c1, c2, c3], [c4, c5, c6], rfl, k1, k2⟩⟩, g0, g1, g2⟩
theorem opensS61 : O.Opens Try.prog 61 k61 (fun b_ : S61 => (((b_).f0).size ≤ 140737488351232) ∧ (((Lit.int .i64 (((b_).f1).f0)).wf = true) ∧ ((Lit.int .i64 (((b_).f1).f1)).wf = true) ∧ ((∀ x0_ ∈ ((b_).f1).f2, (Lit.int .i64 x0_).wf = true) ∧ (((b_).f1).f2).length * 8 ≤ 140737488351232 ∧ (((b_).f1).f2).length ≤ 9223372036854775807)) ∧ (((Lit.int .i64 (((b_).f2).f0)).wf = true) ∧ ((Lit.int .i64 (((b_).f2).f1)).wf = true) ∧ ((∀ x0_ ∈ ((b_).f2).f2, (Lit.int .i64 x0_).wf = true) ∧ (((b_).f2).f2).length * 8 ≤ 140737488351232 ∧ (((b_).f2).f2).length ≤ 9223372036854775807))) := by
  intro H enc W base spare held fuel cs x hx hw
  obtain ⟨a, hk, hg⟩ := opensP61 enc W base spare held fuel cs x hx hw
  exact ⟨(⟨a.1, (⟨a.2.1.1, a.2.1.2.1, a.2.1.2.2⟩ : S57), (⟨a.2.2.1, a.2.2.2.1, a.2.2.2.2⟩ : S59)⟩ : S61), hk, hg⟩
set_option maxRecDepth 100000 in
theorem lifted (os : Os) (started : os.Started) (H : Type) (enc : TypeId × Value → H) :
    ReturnsInHanded {} Try.checked os 9 .any (Rows.fnExactStoreAllSpec.pre6 enc Try.prog Try.f9 Rows.fnExactStoreAllRow.domain false) (Rows.fnExactStoreAllSpec.post enc Try.prog Try.f9 false true false false) := by
  refine returnsInHanded_of_change_sized (C := Try.checked) own started (by kernel_rfl) Try.func9
    (ChangeSpec.witness6 (enc := enc) (C := Try.checked) false ⟨#[], #[.slice none 0 0], []⟩ 8 (by kernel_rfl) (by kernel_rfl) (by kernel_rfl) (by kernel_rfl)) ?_
  intro W base args ds gs before hval0 hW hcnd hsz0 _
  have hsz : (DataW.weightsEach Try.prog (Try.f9.params.toList ++ Rows.fnExactStoreAllSpec.plain.varTypes Try.prog) (ds ++ gs)).all (· ≤ reachBytes) = true := hsz0
  have hval : ∀ (j : Nat) t v, Try.f9.params[j]? = some t → args[j]? = some v → Value.okWide Try.prog W .any base t v := hval0
  have hW' := hW
  obtain ⟨p, q, hA0, hV, rfl, hfz, hnd⟩ := hW
  have hA : DataW.TrodAll enc Try.prog W 0 (fun _ => true) true Try.f9.params.toList args.toList ds p := hA0
  rw [Try.params9] at hA hval hsz
  obtain ⟨v0, vs0, d0, ds0, p0, q0, hargs, rfl, rfl, h0, r0⟩ := trodAll_cons hA
  obtain ⟨rfl, rfl, rfl⟩ := trodAll_nil r0
  obtain rfl : args = #[v0] := by cases args; simp_all
  obtain ⟨rfl, rfl⟩ := trodVars_none hV
  have k0 := h0
  have lt0 : ∀ x ∈ p0, x.block < W.heap.size := by obtain ⟨m, hm⟩ := k0; exact DataW.trod_lt m _ _ _ hm
  obtain ⟨A0, n0, c0, rfl⟩ := okWide_slice Try.underlying72 (hval 0 72 v0 rfl rfl)
  obtain ⟨x0, K0, G0⟩ := (fun hh => hh) (show ∃ a_ : List (S61), (Kd.slice 61 k61).K W a_ [.slice A0 n0 c0] ∧ ((∀ x0_ ∈ a_, (((x0_).f0).size ≤ 140737488351232) ∧ (((Lit.int .i64 (((x0_).f1).f0)).wf = true) ∧ ((Lit.int .i64 (((x0_).f1).f1)).wf = true) ∧ ((∀ x1_ ∈ ((x0_).f1).f2, (Lit.int .i64 x1_).wf = true) ∧ (((x0_).f1).f2).length * 8 ≤ 140737488351232 ∧ (((x0_).f1).f2).length ≤ 9223372036854775807)) ∧ (((Lit.int .i64 (((x0_).f2).f0)).wf = true) ∧ ((Lit.int .i64 (((x0_).f2).f1)).wf = true) ∧ ((∀ x1_ ∈ ((x0_).f2).f2, (Lit.int .i64 x1_).wf = true) ∧ (((x0_).f2).f2).length * 8 ≤ 140737488351232 ∧ (((x0_).f2).f2).length ≤ 9223372036854775807))) ∧ a_.length * 96 ≤ 140737488351232 ∧ a_.length ≤ 9223372036854775807) from by
    obtain ⟨fuel, hf⟩ := h0
    exact (O.opens_slice Try.underlying72 opensS61 (by kernel_rfl) (by kernel_rfl)) enc W 0 _ true fuel [.slice A0 n0 c0] _ hf (fun z hz => of_decide_eq_true (List.all_eq_true.1 hsz z (DataW.weights_mem_each (j := 0) (t := 72) rfl rfl z hz))))
  obtain ⟨B0_0, e0_0, hh0, hl0_0, hC0_0⟩ := K0
  simp only [List.cons.injEq, Value.slice.injEq, and_true] at hh0
  obtain ⟨rfl, rfl, rfl⟩ := hh0
  clear hA0 hval0 hsz0 hsz
  refine (PFnExactStoreAll.laws_FnExactStoreAll.walk Pure.FnExactStoreAll _ _ x0 W hC0_0 hl0_0 G0).mono fun e W' ⟨he, bel⟩ => ?_
  subst he
  exact ⟨_, rfl, _, _, _, [], _, [], hW', trodAll_mk1 (shut_bool Try.underlying4 _), (trodAll_cons_mk (Below.trod laidOut (by kernel_rfl) (of_decide_eq_true (by kernel_rfl)) k0 bel lt0) trodAll_mk0), rfl, bel.frame _, fun h => by cases h⟩
theorem over : Rows.fnExactStoreAllRow.holds Try.pinned (OpenSpec.ofChange Rows.fnExactStoreAllSpec) :=
  OpenClaim.holds_of_wide 9 Try.f9 rfl rfl rfl rfl rfl rfl rfl ⟨rfl, rfl, rfl, rfl, rfl⟩ rfl rfl rfl rfl rfl (by kernel_rfl) Try.func9 (by kernel_rfl)
    (of_decide_eq_true (by kernel_rfl)) (by unfold Func.isWrapper; first | (rw [if_pos (by decide +kernel)]; kernel_rfl) | (rw [if_neg (by decide +kernel)]; exact ⟨rfl, rfl⟩))
    (fun os started H enc _ => lifted os started H enc)
theorem proved : Rows.FnExactStoreAllSaid := over
#print axioms proved
end Go.Proofs.Ytjhodohmifemiaa.fnExactStoreAll
namespace Go.Proofs.Ytjhodohmifemiaa
/-- The row, under a short name, for the claim. -/
theorem fnExactStoreAll_holds : Rows.FnExactStoreAllSaid := fnExactStoreAll.proved
end Go.Proofs.Ytjhodohmifemiaa

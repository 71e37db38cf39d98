-- Written by a program of this session (its own print).
import Derived.Test.YtnkmojmcdcjkmaaDoorRows
import Derived.Test.YtnkmojmcdcjkmaaDoorCards
import Derived.Test.YtnkmojmcdcjkmaaDoorTie
import Derived.Test.YtnkmojmcdcjkmaaDoorPFnExactFieldTextx2
import Derived.Test.YtnkmojmcdcjkmaaDoorPureFnExactFieldText
import Derived.Test.YtnkmojmcdcjkmaaDoorOpen
import Derived.WalkKit
import Derived.ProofKit
import Derived.OpenShut
import Derived.ShutString
import Derived.ChangeOld
import Derived.Below
import Derived.SizedLaws
import Derived.Handy
import Derived.Lay
import Derived.SevenTiedAt
namespace Go.Proofs.YtnkmojmcdcjkmaaDoor.fnExactFieldText
open Go.ChangeShapes Go.WideShapes Go.ChangeAt Go.RowKit Go.Proofs.YtnkmojmcdcjkmaaDoorW.PrintWords Go.Proofs.YtnkmojmcdcjkmaaDoor.PFnExactFieldText
open Go.ChangeMaps (open_string shut_string)
set_option linter.unusedVariables false
theorem own : ownKnob Tryd.prog.godebug = none := by kernel_rfl
theorem laidOut : laidOutB Tryd.prog = true := by kernel_rfl
theorem lenY31 {α : Type} {l : List α} (h : l.length = 3) : ∃ y0 y1 y2, l = [y0, y1, y2] := by
  match l, h with
  | [y0, y1, y2], _ => exact ⟨y0, y1, y2, rfl⟩
theorem lenC31 {α : Type} {l : List α} (h : l.length = 3) : ∃ c0 c1 c2, l = [c0, c1, c2] := by
  match l, h with
  | [c0, c1, c2], _ => exact ⟨c0, c1, c2, rfl⟩
theorem opensP31 : O.Opens Tryd.prog 31 (Kd.pair (Kd.int .i64) (Kd.pair (Kd.int .i64) (Kd.slice 2 (Kd.int .i64)))) (fun a_ : (Int × Int × List Int) => ((Lit.int .i64 a_.1).wf = true) ∧ ((Lit.int .i64 a_.2.1).wf = true) ∧ ((∀ x0_ ∈ a_.2.2, (Lit.int .i64 x0_).wf = true) ∧ a_.2.2.length * 8 ≤ 140737488351232 ∧ a_.2.2.length ≤ 9223372036854775807)) := by
  intro H enc W base spare held fuel cs x h hw
  obtain ⟨ys, n, _, rfl, hlen, hyl, hf⟩ := DataW.trod_struct Tryd.underlying31 h
  rw [show Tryd.prog.cellsOf 31 = 3 from by kernel_rfl] at hlen
  obtain ⟨y0, y1, y2, rfl⟩ := lenY31 hyl
  obtain ⟨c0, c1, c2, rfl⟩ := lenC31 hlen
  have f0 : DataW.trod enc Tryd.prog W base spare held n 2 (List.take (Tryd.prog.cellsOf 2) (List.drop 0 [c0, c1, c2])) = some y0 := hf 0 _ rfl
  rw [show Tryd.prog.cellsOf 2 = 1 from by kernel_rfl] at f0
  obtain ⟨a0, k0, g0⟩ := (O.opens_int Tryd.underlying2) enc W base spare held n [c0] y0 f0 (fun z hz => hw z (O.weights_field Tryd.underlying31 (j := 0) rfl rfl z hz))
  have f1 : DataW.trod enc Tryd.prog W base spare held n 2 (List.take (Tryd.prog.cellsOf 2) (List.drop 1 [c0, c1, c2])) = some y1 := hf 1 _ rfl
  rw [show Tryd.prog.cellsOf 2 = 1 from by kernel_rfl] at f1
  obtain ⟨a1, k1, g1⟩ := (O.opens_int Tryd.underlying2) enc W base spare held n [c1] y1 f1 (fun z hz => hw z (O.weights_field Tryd.underlying31 (j := 1) rfl rfl z hz))
  have f2 : DataW.trod enc Tryd.prog W base spare held n 29 (List.take (Tryd.prog.cellsOf 29) (List.drop 2 [c0, c1, c2])) = some y2 := hf 2 _ rfl
  rw [show Tryd.prog.cellsOf 29 = 1 from by kernel_rfl] at f2
  obtain ⟨a2, k2, g2⟩ := (O.opens_slice Tryd.underlying29 (O.opens_int Tryd.underlying2) (by kernel_rfl) (by kernel_rfl)) enc W base spare held n [c2] y2 f2 (fun z hz => hw z (O.weights_field Tryd.underlying31 (j := 2) rfl rfl z hz))
  exact ⟨(a0, a1, a2), ⟨[c0], [c1, c2], rfl, k0, ⟨[c1], [c2], rfl, k1, k2⟩⟩, g0, g1, g2⟩
set_option maxRecDepth 100000 in
theorem lifted (os : Os) (started : os.Started) (H : Type) (enc : TypeId × Value → H) :
    ReturnsInHanded {} Tryd.checked os 4 .any (fun w args => (Rows.fnExactFieldTextSpec.pre enc Tryd.prog Tryd.f4 [] false w args ∧ laidMetH Tryd.prog Rows.fnExactFieldTextRow.laid w) ∧ sizedMet enc Tryd.prog Tryd.f4 (OpenSpec.ofChange Rows.fnExactFieldTextSpec) false w args) (Rows.fnExactFieldTextSpec.post enc Tryd.prog Tryd.f4 false true false false) := by
  refine returnsInHanded_of_change_and (C := Tryd.checked) (X := (fun w _ => laidMetH Tryd.prog Rows.fnExactFieldTextRow.laid w)) (fun _ _ _ hh h => h.of_heap hh) own started (by kernel_rfl) Tryd.func4
    (ChangeSpec.witness_shaped (enc := enc) (C := Tryd.checked) (os := os) (X := (fun w _ => laidMetH Tryd.prog Rows.fnExactFieldTextRow.laid w)) false (World.laidAll Tryd.prog os Rows.fnExactFieldTextRow.laid) #[.agg #[.int .i64 0, .int .i64 0, .slice none 0 0]] 8 (World.laidAll_os _ _ _)
      (World.shaped_of_ZipB (by kernel_rfl) (by kernel_rfl)) (by kernel_rfl) (by kernel_rfl) (by kernel_rfl)
      (by rw [MakeChecks.laidMetH_plain _ _ _ (by kernel_rfl)]; exact laidMet_laidAll _ (by kernel_rfl) (by kernel_rfl))) ?_
  intro W base args ds gs before hval0 hW hcnd hsz0 _ _
  have hsz : (DataW.weightsEach Tryd.prog (Tryd.f4.params.toList ++ Rows.fnExactFieldTextSpec.plain.varTypes Tryd.prog) (ds ++ gs)).all (· ≤ reachBytes) = true := hsz0
  have hval : ∀ (j : Nat) t v, Tryd.f4.params[j]? = some t → args[j]? = some v → Value.okWide Tryd.prog W .any base t v := hval0
  have hW' := hW
  obtain ⟨p, q, hA0, hV, rfl, hfz, hnd⟩ := hW
  have hA : DataW.TrodAll enc Tryd.prog W 0 (fun _ => true) true Tryd.f4.params.toList args.toList ds p := hA0
  rw [Tryd.params4] at hA hval hsz
  obtain ⟨v0, vs0, d0, ds0, p0, q0, hargs, rfl, rfl, h0, r0⟩ := trodAll_cons hA
  obtain ⟨rfl, rfl, rfl⟩ := trodAll_nil r0
  obtain rfl : args = #[v0] := by cases args; simp_all
  obtain ⟨rfl, rfl⟩ := trodVars_none hV
  have k0 := h0
  have lt0 : ∀ x ∈ p0, x.block < W.heap.size := by obtain ⟨m, hm⟩ := k0; exact DataW.trod_lt m _ _ _ hm
  obtain ⟨cs0, rfl, _⟩ := okWide_struct Tryd.underlying31 (hval 0 31 v0 rfl rfl)
  obtain ⟨L0⟩ := cs0
  obtain ⟨x0, K0, G0⟩ := (fun hh => hh) (show ∃ a_ : (Int × Int × List Int), (Kd.pair (Kd.int .i64) (Kd.pair (Kd.int .i64) (Kd.slice 2 (Kd.int .i64)))).K W a_ L0 ∧ (((Lit.int .i64 a_.1).wf = true) ∧ ((Lit.int .i64 a_.2.1).wf = true) ∧ ((∀ x0_ ∈ a_.2.2, (Lit.int .i64 x0_).wf = true) ∧ a_.2.2.length * 8 ≤ 140737488351232 ∧ a_.2.2.length ≤ 9223372036854775807)) from by
    obtain ⟨fuel, hf⟩ := h0
    exact opensP31 enc W 0 _ true fuel L0 _ hf (fun z hz => of_decide_eq_true (List.all_eq_true.1 hsz z (DataW.weights_mem_each (j := 0) (t := 31) rfl rfl z hz))))
  obtain ⟨_, _, rfl, rfl, ⟨_, _, rfl, rfl, ⟨B0_2, e0_2, rfl, hl0_2, hC0_2⟩⟩⟩ := K0
  clear hA0 hval0 hsz0 hsz
  refine (PFnExactFieldText.laws_FnExactFieldText.walk Pure.FnExactFieldText x0.1 x0.2.1 _ _ x0.2.2 W hC0_2 hl0_2 G0.1 G0.2.1 G0.2.2).mono fun e W' ⟨he, bel⟩ => ?_
  subst he
  exact ⟨_, rfl, _, _, _, [], _, [], hW', trodAll_mk1 (shut_bool Tryd.underlying4 _), (trodAll_cons_mk (Below.trod laidOut (by kernel_rfl) (of_decide_eq_true (by kernel_rfl)) k0 bel lt0) trodAll_mk0), rfl, bel.frame _, fun h => by cases h⟩
theorem over : Rows.fnExactFieldTextRow.holds Tryd.pinned (OpenSpec.ofChange Rows.fnExactFieldTextSpec) :=
  OpenClaim.holds_of_wide 4 Tryd.f4 rfl rfl rfl rfl rfl rfl rfl ⟨rfl, rfl, rfl, rfl, rfl⟩ rfl rfl rfl rfl rfl (by kernel_rfl) Tryd.func4 (by kernel_rfl)
    (of_decide_eq_true (by kernel_rfl)) (by unfold Func.isWrapper; first | (rw [if_pos (by decide +kernel)]; kernel_rfl) | (rw [if_neg (by decide +kernel)]; exact ⟨rfl, rfl⟩))
    (fun os started H enc _ => lifted os started H enc)
theorem card : Rows.FnExactFieldTextCardSaid :=
  Claim7.holds_tied_plain_at .later [] [.data, .data, .data] true (true, "ecc7ddd1024145642f16edcb45c2091e8f13f885a334c8d8a4bc28a1be49039b") true over (fun _ h => by cases h) (by kernel_rfl) (fun _ h => by cases h) fnExactFieldText_row_tie rfl ⟨rfl, rfl⟩ (by kernel_rfl) rfl
    (fun f fn hf hfn => by
      obtain rfl : f = 4 := Option.some.inj ((show Tryd.prog.funcNamed "loop.example/g01381/laws.FnExactFieldText" = some 4 by kernel_rfl).symm.trans hf) |>.symm
      obtain rfl : fn = Tryd.f4 := (Option.some.inj (Tryd.func4.symm.trans hfn)).symm
      exact ⟨by kernel_rfl, fun j t ht => by
        rw [Tryd.params4] at ht
        have hm : t ∈ [31] := by simpa using Array.mem_of_getElem? ht
        have hall : ([31].all fun u => !Tryd.prog.wantsStandIn u) = true := by kernel_rfl
        exact (show Tryd.prog.wantsStandIn t = false by simpa using List.all_eq_true.1 hall t hm)⟩)
    (by kernel_rfl)
#print axioms card
end Go.Proofs.YtnkmojmcdcjkmaaDoor.fnExactFieldText
namespace Go.Proofs.YtnkmojmcdcjkmaaDoor
/-- The row, under a short name, for the claim. -/
theorem fnExactFieldText_card : Rows.FnExactFieldTextCardSaid := fnExactFieldText.card
end Go.Proofs.YtnkmojmcdcjkmaaDoor

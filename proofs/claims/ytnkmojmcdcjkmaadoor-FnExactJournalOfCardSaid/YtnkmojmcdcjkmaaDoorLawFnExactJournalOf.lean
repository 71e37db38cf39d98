-- Written by a program of this session (its own print).
import Derived.Test.YtnkmojmcdcjkmaaDoorRows
import Derived.Test.YtnkmojmcdcjkmaaDoorCards
import Derived.Test.YtnkmojmcdcjkmaaDoorTie
import Derived.Test.YtnkmojmcdcjkmaaDoorPFnExactJournalOfx1
import Derived.Test.YtnkmojmcdcjkmaaDoorPureFnExactJournalOf
import Derived.Test.YtnkmojmcdcjkmaaDoorOpen
import Derived.WalkKit
import Derived.ProofKit
import Derived.OpenShut
import Derived.ShutString
import Derived.ChangeOld
import Derived.Below
import Derived.SizedLaws
import Derived.HandedShaped
import Derived.Shelf.Vars
import Derived.MakeChecks
import Derived.Handy
import Derived.Lay
import Derived.SevenTiedAt
namespace Go.Proofs.YtnkmojmcdcjkmaaDoor.fnExactJournalOf
open Go.ChangeShapes Go.WideShapes Go.ChangeAt Go.RowKit Go.Proofs.YtnkmojmcdcjkmaaDoorW.PrintWords Go.Proofs.YtnkmojmcdcjkmaaDoor.PFnExactJournalOf
open Go.ChangeMaps (open_string shut_string)
set_option linter.unusedVariables false
theorem own : ownKnob Tryd.prog.godebug = none := by kernel_rfl
theorem laidOut : laidOutB Tryd.prog = true := by kernel_rfl
set_option maxRecDepth 100000 in
theorem lifted (os : Os) (started : os.Started) (H : Type) (enc : TypeId × Value → H) :
    ReturnsInHanded {} Tryd.checked os 3 .any (fun w args => (Rows.fnExactJournalOfSpec.pre enc Tryd.prog Tryd.f3 [] false w args ∧ laidMetH Tryd.prog Rows.fnExactJournalOfRow.laid w) ∧ sizedMet enc Tryd.prog Tryd.f3 (OpenSpec.ofChange Rows.fnExactJournalOfSpec) false w args) (Rows.fnExactJournalOfSpec.post enc Tryd.prog Tryd.f3 false true false false) := by
  refine handed_shaped_and (C := Tryd.checked) (X := (fun w _ => laidMetH Tryd.prog Rows.fnExactJournalOfRow.laid w)) (fun _ _ _ hh h => h.of_heap hh) own started (by kernel_rfl) Tryd.func3
    (ChangeSpec.witness_shaped (enc := enc) (C := Tryd.checked) (os := os) (X := (fun w _ => laidMetH Tryd.prog Rows.fnExactJournalOfRow.laid w)) false (World.laidAll Tryd.prog os Rows.fnExactJournalOfRow.laid) #[.slice none 0 0] 8 (World.laidAll_os _ _ _)
      (World.shaped_of_ZipB (by kernel_rfl) (by kernel_rfl)) (by kernel_rfl) (by kernel_rfl) (by kernel_rfl)
      (by rw [MakeChecks.laidMetH_plain _ _ _ (by kernel_rfl)]; exact laidMet_laidAll _ (by kernel_rfl) (by kernel_rfl))) ?_
  intro W base args ds gs before hval0 hW hcnd hsz0 hxl hsh _
  have hM : MaxAt W := ⟨Go.Proofs.cell_of_shapedOpen_int (zero := #[.int .i64 0]) (t := 3) hsh (of_decide_eq_true (by kernel_rfl)) (by kernel_rfl) rfl (by kernel_rfl) (by kernel_rfl) Tryd.underlying3, tab_third (by rw [MakeChecks.laidMetH_plain _ _ _ (by kernel_rfl)] at hxl; exact hxl)⟩
  clear hxl hsh
  have hsz : (DataW.weightsEach Tryd.prog (Tryd.f3.params.toList ++ Rows.fnExactJournalOfSpec.plain.varTypes Tryd.prog) (ds ++ gs)).all (· ≤ reachBytes) = true := hsz0
  have hval : ∀ (j : Nat) t v, Tryd.f3.params[j]? = some t → args[j]? = some v → Value.okWide Tryd.prog W .any base t v := hval0
  have hW' := hW
  obtain ⟨p, q, hA0, hV, rfl, hfz, hnd⟩ := hW
  have hA : DataW.TrodAll enc Tryd.prog W 0 (fun _ => true) true Tryd.f3.params.toList args.toList ds p := hA0
  rw [Tryd.params3] at hA hval hsz
  obtain ⟨v0, vs0, d0, ds0, p0, q0, hargs, rfl, rfl, h0, r0⟩ := trodAll_cons hA
  obtain ⟨rfl, rfl, rfl⟩ := trodAll_nil r0
  obtain rfl : args = #[v0] := by cases args; simp_all
  obtain ⟨rfl, rfl⟩ := trodVars_none hV
  have k0 := h0
  have lt0 : ∀ x ∈ p0, x.block < W.heap.size := by obtain ⟨m, hm⟩ := k0; exact DataW.trod_lt m _ _ _ hm
  obtain ⟨A0, n0, c0, rfl⟩ := okWide_slice Tryd.underlying22 (hval 0 22 v0 rfl rfl)
  obtain ⟨x0, K0, G0⟩ := (fun hh => hh) (show ∃ a_ : List ByteArray, (Kd.slice 9 Kd.string).K W a_ [.slice A0 n0 c0] ∧ ((∀ x0_ ∈ a_, x0_.size ≤ 140737488351232) ∧ a_.length * 16 ≤ 140737488351232 ∧ a_.length ≤ 9223372036854775807) from by
    obtain ⟨fuel, hf⟩ := h0
    exact (O.opens_slice Tryd.underlying22 (O.opens_string Tryd.underlying9) (by kernel_rfl) (by kernel_rfl)) enc W 0 _ true fuel [.slice A0 n0 c0] _ hf (fun z hz => of_decide_eq_true (List.all_eq_true.1 hsz z (DataW.weights_mem_each (j := 0) (t := 22) rfl rfl z hz))))
  obtain ⟨B0_0, e0_0, hh0, hl0_0, hC0_0⟩ := K0
  simp only [List.cons.injEq, Value.slice.injEq, and_true] at hh0
  obtain ⟨rfl, rfl, rfl⟩ := hh0
  clear hA0 hval0 hsz0 hsz
  refine (PFnExactJournalOf.laws_FnExactJournalOf.walk Pure.FnExactJournalOf _ _ x0 W hC0_0 hl0_0 G0 hM).mono fun e W' ⟨he, bel⟩ => ?_
  subst he
  exact ⟨_, rfl, _, _, _, [], _, [], hW', trodAll_mk1 (shut_bool Tryd.underlying4 _), (trodAll_cons_mk (Below.trod laidOut (by kernel_rfl) (of_decide_eq_true (by kernel_rfl)) k0 bel lt0) trodAll_mk0), rfl, bel.frame _, fun h => by cases h⟩
theorem over : Rows.fnExactJournalOfRow.holds Tryd.pinned (OpenSpec.ofChange Rows.fnExactJournalOfSpec) :=
  OpenClaim.holds_of_wide 3 Tryd.f3 rfl rfl rfl rfl rfl rfl rfl ⟨rfl, rfl, rfl, rfl, rfl⟩ rfl rfl rfl rfl rfl (by kernel_rfl) Tryd.func3 (by kernel_rfl)
    (of_decide_eq_true (by kernel_rfl)) (by unfold Func.isWrapper; first | (rw [if_pos (by decide +kernel)]; kernel_rfl) | (rw [if_neg (by decide +kernel)]; exact ⟨rfl, rfl⟩))
    (fun os started H enc _ => lifted os started H enc)
theorem card : Rows.FnExactJournalOfCardSaid :=
  Claim7.holds_tied_plain_at .later [] [.data, .data, .data] true (true, "ecc7ddd1024145642f16edcb45c2091e8f13f885a334c8d8a4bc28a1be49039b") true over (fun _ h => by cases h) (by kernel_rfl) (fun _ h => by cases h) fnExactJournalOf_row_tie rfl ⟨rfl, rfl⟩ (by kernel_rfl) rfl
    (fun f fn hf hfn => by
      obtain rfl : f = 3 := Option.some.inj ((show Tryd.prog.funcNamed "loop.example/g01381/laws.FnExactJournalOf" = some 3 by kernel_rfl).symm.trans hf) |>.symm
      obtain rfl : fn = Tryd.f3 := (Option.some.inj (Tryd.func3.symm.trans hfn)).symm
      exact ⟨by kernel_rfl, fun j t ht => by
        rw [Tryd.params3] at ht
        have hm : t ∈ [22] := by simpa using Array.mem_of_getElem? ht
        have hall : ([22].all fun u => !Tryd.prog.wantsStandIn u) = true := by kernel_rfl
        exact (show Tryd.prog.wantsStandIn t = false by simpa using List.all_eq_true.1 hall t hm)⟩)
    (by kernel_rfl)
#print axioms card
end Go.Proofs.YtnkmojmcdcjkmaaDoor.fnExactJournalOf
namespace Go.Proofs.YtnkmojmcdcjkmaaDoor
/-- The row, under a short name, for the claim. -/
theorem fnExactJournalOf_card : Rows.FnExactJournalOfCardSaid := fnExactJournalOf.card
end Go.Proofs.YtnkmojmcdcjkmaaDoor

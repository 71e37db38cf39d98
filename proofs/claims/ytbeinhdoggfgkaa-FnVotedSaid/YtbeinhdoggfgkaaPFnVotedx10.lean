-- Written by a program of this session (its own print).
import Derived.Test.YtbeinhdoggfgkaaPFnVotedx0
import Derived.Test.YtbeinhdoggfgkaaPFnVotedx2
import Derived.Test.YtbeinhdoggfgkaaPFnVotedx7
import Derived.Test.YtbeinhdoggfgkaaPFnVotedx8
import Derived.Test.YtbeinhdoggfgkaaPFnVotedx9
namespace Go.Proofs.Ytbeinhdoggfgkaa.PFnVoted
open Go.RowKit Go.Proofs.YtbeinhdoggfgkaaW.PrintWords Go.Proofs.YtbeinhdoggfgkaaW.PrintLast Go.Proofs.YtbeinhdoggfgkaaW.PrintMore
attribute [local go_sem] max2_int min2_int max_two min_two max_three min_three max_four min_four   -- for this text's walks alone
set_option linter.unusedVariables false
set_option linter.unusedSimpArgs false

/-! ### laws_FnVoted: function 14 -/
mutual
def laws_FnVoted.l0 : Nat → List Int → Int → Int → Int → Int → List Int → Int → Int → List Int → Option (Bool)
  | 0, _, _, _, _, _, _, _, _, _ => none
  | k + 1, x1, x42, x43, x285000, x285001, x285002, x286000, x286001, x286002 => if x43 < x42 then (if 0 ≤ x43 then (if x43 < (x285002.length : Int) then (if x286002.length < 17592186044416 then (laws_FnVoted.l0 k x1 x42 (wrap64 (x43 + 1)) x285000 x285001 x285002 x286000 x286001 (x286002 ++ [wrap64 (1 - (rd x285002 x43))])) else (none)) else (none)) else (none)) else ((impl_VoteStep.f k x285000 x285001 x285002 true).bind fun bt290 => ((impl_VoteStep.f k x286000 x286001 x286002 true).bind fun bt297 => (if bt290.2.2.2 = true then (if bt297.2.2.2 = true then (if (bt290.2.2.1.length : Int) = (x285002.length : Int) then (laws_FnVoted.j1 k x1 ((bt297.2.2.1.length : Int) != (x285002.length : Int)) x285000 x285001 x285002 bt290.1 bt290.2.1 bt290.2.2.1 bt297.1 bt297.2.1 bt297.2.2.1) else (laws_FnVoted.j1 k x1 true x285000 x285001 x285002 bt290.1 bt290.2.1 bt290.2.2.1 bt297.1 bt297.2.1 bt297.2.2.1)) else (laws_FnVoted.j1 k x1 true x285000 x285001 x285002 bt290.1 bt290.2.1 bt290.2.2.1 bt297.1 bt297.2.1 bt297.2.2.1)) else (laws_FnVoted.j1 k x1 true x285000 x285001 x285002 bt290.1 bt290.2.1 bt290.2.2.1 bt297.1 bt297.2.1 bt297.2.2.1))))
def laws_FnVoted.j1 : Nat → List Int → Bool → Int → Int → List Int → Int → Int → List Int → Int → Int → List Int → Option (Bool)
  | 0, _, _, _, _, _, _, _, _, _, _, _ => none
  | k + 1, x1, x91, x285000, x285001, x285002, x297000, x297001, x297002, x304000, x304001, x304002 => if x91 = true then (some false) else (laws_FnVoted.l1 k x1 (x297002.length : Int) 0 x285000 x285001 x285002 x297000 x297001 x297002 x304000 x304001 x304002)
def laws_FnVoted.l1 : Nat → List Int → Int → Int → Int → Int → List Int → Int → Int → List Int → Int → Int → List Int → Option (Bool)
  | 0, _, _, _, _, _, _, _, _, _, _, _, _ => none
  | k + 1, x1, x94, x95, x285000, x285001, x285002, x297000, x297001, x297002, x304000, x304001, x304002 => if x95 < x94 then (if 0 ≤ x95 then (if x95 < (x297002.length : Int) then (if x95 < (x304002.length : Int) then (if (wrap64 ((rd x297002 x95) + (rd x304002 x95))) = 1 then (laws_FnVoted.l1 k x1 x94 (wrap64 (x95 + 1)) x285000 x285001 x285002 x297000 x297001 x297002 x304000 x304001 x304002) else (some false)) else (none)) else (none)) else (none)) else ((laws_b10At.f x1 2 2).bind fun t306 => ((impl_VoteRun.f k x285000 x285001 x285002 (t306 == 0) 20).bind fun bt307 => ((spec_VoteRun.f k x285000 x285001 x285002 (t306 == 0) 20).bind fun bt315 => (if (bt307.2.2.2.2 != bt315.2.2.2.2) = true then (some false) else (if bt307.2.2.2.2 = true then ((impl_VoteStep.f k bt307.1 bt307.2.1 bt307.2.2.1 (t306 == 0)).bind fun bt323 => (if bt323.2.2.2 = true then (if bt307.2.2.2.1 = bt315.2.2.2.1 then ((laws_b10Ints.f k bt307.2.2.1 bt315.2.2.1).bind fun t330 => (if t330 = true then ((laws_b10Ints.f k bt323.2.2.1 bt307.2.2.1).bind fun t331 => (some t331)) else (some false))) else (some false)) else (some false))) else (some true))))))
end
def laws_FnVoted.f (k : Nat) (l0 : List Int) (l1 : List Int) : Option (Bool) := (laws_b10Long.f l0 l1).bind fun t276 => (if t276 = true then (some true) else ((laws_b10At.f l1 0 7).bind fun t277 => ((laws_b10At.f l1 1 7).bind fun t278 => ((spec_B10Plain.f k l0 (wrap64 (1 + t277)) (wrap64 (1 + t278))).bind fun bt279 => (laws_FnVoted.l0 k l1 (bt279.2.2.length : Int) 0 bt279.1 bt279.2.1 bt279.2.2 (wrap64 (1 + t277)) (wrap64 (1 + t278)) ([] : List Int))))))
theorem laws_FnVoted.mono_l : ∀ k, (∀ y0 y1 y2 y3 y4 y5 y6 y7 y8, LeO (laws_FnVoted.l0 k y0 y1 y2 y3 y4 y5 y6 y7 y8) (laws_FnVoted.l0 (k + 1) y0 y1 y2 y3 y4 y5 y6 y7 y8)) ∧ (∀ y0 y1 y2 y3 y4 y5 y6 y7 y8 y9 y10, LeO (laws_FnVoted.j1 k y0 y1 y2 y3 y4 y5 y6 y7 y8 y9 y10) (laws_FnVoted.j1 (k + 1) y0 y1 y2 y3 y4 y5 y6 y7 y8 y9 y10)) ∧ (∀ y0 y1 y2 y3 y4 y5 y6 y7 y8 y9 y10 y11, LeO (laws_FnVoted.l1 k y0 y1 y2 y3 y4 y5 y6 y7 y8 y9 y10 y11) (laws_FnVoted.l1 (k + 1) y0 y1 y2 y3 y4 y5 y6 y7 y8 y9 y10 y11))
  | 0 => ⟨fun _ _ _ _ _ _ _ _ _ r h => by simp [laws_FnVoted.l0] at h, fun _ _ _ _ _ _ _ _ _ _ _ r h => by simp [laws_FnVoted.j1] at h, fun _ _ _ _ _ _ _ _ _ _ _ _ r h => by simp [laws_FnVoted.l1] at h⟩
  | k + 1 => by
    obtain ⟨ih0, ih1, ih2⟩ := laws_FnVoted.mono_l k
    refine ⟨?_, ?_, ?_⟩
    · intro y0 y1 y2 y3 y4 y5 y6 y7 y8
      unfold laws_FnVoted.l0
      repeat' first
      | (with_reducible exact ih0 _ _ _ _ _ _ _ _ _)
      | (with_reducible exact ih1 _ _ _ _ _ _ _ _ _ _ _)
      | (with_reducible exact ih2 _ _ _ _ _ _ _ _ _ _ _ _)
      | (with_reducible exact impl_VoteRun.mono _ _ _ _ _ _)
      | (with_reducible exact impl_VoteStep.mono _ _ _ _ _)
      | (with_reducible exact laws_b10Ints.mono _ _ _)
      | (with_reducible exact spec_B10Plain.mono _ _ _ _)
      | (with_reducible exact spec_VoteRun.mono _ _ _ _ _ _)
      | (with_reducible exact LeO.refl _)
      | (with_reducible exact LeO.none _)
      | (with_reducible refine LeO.ite ?_ ?_)
      | (with_reducible refine LeO.bind ?_ (fun _ => ?_))
      | exact ih0 _ _ _ _ _ _ _ _ _
      | exact ih1 _ _ _ _ _ _ _ _ _ _ _
      | exact ih2 _ _ _ _ _ _ _ _ _ _ _ _
      | exact impl_VoteRun.mono _ _ _ _ _ _
      | exact impl_VoteStep.mono _ _ _ _ _
      | exact laws_b10Ints.mono _ _ _
      | exact spec_B10Plain.mono _ _ _ _
      | exact spec_VoteRun.mono _ _ _ _ _ _
      | exact LeO.none _
      | refine LeO.ite ?_ ?_
      | refine LeO.bind ?_ (fun _ => ?_)
    · intro y0 y1 y2 y3 y4 y5 y6 y7 y8 y9 y10
      unfold laws_FnVoted.j1
      repeat' first
      | (with_reducible exact ih0 _ _ _ _ _ _ _ _ _)
      | (with_reducible exact ih1 _ _ _ _ _ _ _ _ _ _ _)
      | (with_reducible exact ih2 _ _ _ _ _ _ _ _ _ _ _ _)
      | (with_reducible exact impl_VoteRun.mono _ _ _ _ _ _)
      | (with_reducible exact impl_VoteStep.mono _ _ _ _ _)
      | (with_reducible exact laws_b10Ints.mono _ _ _)
      | (with_reducible exact spec_B10Plain.mono _ _ _ _)
      | (with_reducible exact spec_VoteRun.mono _ _ _ _ _ _)
      | (with_reducible exact LeO.refl _)
      | (with_reducible exact LeO.none _)
      | (with_reducible refine LeO.ite ?_ ?_)
      | (with_reducible refine LeO.bind ?_ (fun _ => ?_))
      | exact ih0 _ _ _ _ _ _ _ _ _
      | exact ih1 _ _ _ _ _ _ _ _ _ _ _
      | exact ih2 _ _ _ _ _ _ _ _ _ _ _ _
      | exact impl_VoteRun.mono _ _ _ _ _ _
      | exact impl_VoteStep.mono _ _ _ _ _
      | exact laws_b10Ints.mono _ _ _
      | exact spec_B10Plain.mono _ _ _ _
      | exact spec_VoteRun.mono _ _ _ _ _ _
      | exact LeO.none _
      | refine LeO.ite ?_ ?_
      | refine LeO.bind ?_ (fun _ => ?_)
    · intro y0 y1 y2 y3 y4 y5 y6 y7 y8 y9 y10 y11
      unfold laws_FnVoted.l1
      repeat' first
      | (with_reducible exact ih0 _ _ _ _ _ _ _ _ _)
      | (with_reducible exact ih1 _ _ _ _ _ _ _ _ _ _ _)
      | (with_reducible exact ih2 _ _ _ _ _ _ _ _ _ _ _ _)
      | (with_reducible exact impl_VoteRun.mono _ _ _ _ _ _)
      | (with_reducible exact impl_VoteStep.mono _ _ _ _ _)
      | (with_reducible exact laws_b10Ints.mono _ _ _)
      | (with_reducible exact spec_B10Plain.mono _ _ _ _)
      | (with_reducible exact spec_VoteRun.mono _ _ _ _ _ _)
      | (with_reducible exact LeO.refl _)
      | (with_reducible exact LeO.none _)
      | (with_reducible refine LeO.ite ?_ ?_)
      | (with_reducible refine LeO.bind ?_ (fun _ => ?_))
      | exact ih0 _ _ _ _ _ _ _ _ _
      | exact ih1 _ _ _ _ _ _ _ _ _ _ _
      | exact ih2 _ _ _ _ _ _ _ _ _ _ _ _
      | exact impl_VoteRun.mono _ _ _ _ _ _
      | exact impl_VoteStep.mono _ _ _ _ _
      | exact laws_b10Ints.mono _ _ _
      | exact spec_B10Plain.mono _ _ _ _
      | exact spec_VoteRun.mono _ _ _ _ _ _
      | exact LeO.none _
      | refine LeO.ite ?_ ?_
      | refine LeO.bind ?_ (fun _ => ?_)
theorem laws_FnVoted.mono : ∀ a0 a1 k, LeO (laws_FnVoted.f k a0 a1) (laws_FnVoted.f (k + 1) a0 a1) := by
  intro a0 a1 k
  obtain ⟨ih0, ih1, ih2⟩ := laws_FnVoted.mono_l k
  unfold laws_FnVoted.f
  repeat' first
      | (with_reducible exact ih0 _ _ _ _ _ _ _ _ _)
      | (with_reducible exact ih1 _ _ _ _ _ _ _ _ _ _ _)
      | (with_reducible exact ih2 _ _ _ _ _ _ _ _ _ _ _ _)
      | (with_reducible exact impl_VoteRun.mono _ _ _ _ _ _)
      | (with_reducible exact impl_VoteStep.mono _ _ _ _ _)
      | (with_reducible exact laws_b10Ints.mono _ _ _)
      | (with_reducible exact spec_B10Plain.mono _ _ _ _)
      | (with_reducible exact spec_VoteRun.mono _ _ _ _ _ _)
      | (with_reducible exact LeO.refl _)
      | (with_reducible exact LeO.none _)
      | (with_reducible refine LeO.ite ?_ ?_)
      | (with_reducible refine LeO.bind ?_ (fun _ => ?_))
      | exact ih0 _ _ _ _ _ _ _ _ _
      | exact ih1 _ _ _ _ _ _ _ _ _ _ _
      | exact ih2 _ _ _ _ _ _ _ _ _ _ _ _
      | exact impl_VoteRun.mono _ _ _ _ _ _
      | exact impl_VoteStep.mono _ _ _ _ _
      | exact laws_b10Ints.mono _ _ _
      | exact spec_B10Plain.mono _ _ _ _
      | exact spec_VoteRun.mono _ _ _ _ _ _
      | exact LeO.none _
      | refine LeO.ite ?_ ?_
      | refine LeO.bind ?_ (fun _ => ?_)
def laws_FnVoted.T10 : Bool × List (List Nat × List Nat) := (true, [([], []), ([0], [0]), ([], []), ([2], [2]), ([], []), ([3, 4], [3, 4]), ([5], [5]), ([6], [6]), ([7], [7]), ([1, 8], [1, 8]), ([0, 1, 2, 3, 4, 5, 6, 7, 8, 9], []), ([10, 9, 9, 0, 1, 2, 3, 4, 5, 6, 7, 8, 9], [9, 10])])
def laws_FnVoted.B10 : List Nat := [0, 1, 0, 4, 0, 28, 60, 124, 252, 511, 1023, 2047]
theorem laws_FnVoted.tab10 : rtab .any (opsOf Try.f14 10) = laws_FnVoted.T10 := by kernel_rfl
theorem laws_FnVoted.bits10 : waitsOk laws_FnVoted.T10.2 laws_FnVoted.B10 = true := by kernel_rfl
def laws_FnVoted.T19 : Bool × List (List Nat × List Nat) := (true, [([], []), ([0], [0]), ([], []), ([1, 2], [1, 2]), ([3], [3]), ([], []), ([5], [5]), ([], []), ([6, 7], [6, 7]), ([8], [8]), ([4, 9], [4, 9]), ([10], [10])])
def laws_FnVoted.B19 : List Nat := [0, 1, 0, 7, 15, 0, 32, 0, 224, 480, 1023, 2047]
theorem laws_FnVoted.tab19 : rtab .any (opsOf Try.f14 19) = laws_FnVoted.T19 := by kernel_rfl
theorem laws_FnVoted.bits19 : waitsOk laws_FnVoted.T19.2 laws_FnVoted.B19 = true := by kernel_rfl
set_option maxHeartbeats 8000000 in
set_option maxRecDepth 100000 in
theorem laws_FnVoted.calls (k : Nat) (A0 : Option Addr) (c0 : Nat) (l0 : List Int) (A1 : Option Addr) (c1 : Nat) (l1 : List Int) (r : Bool) (w : World) (hr0 : Kd.C (Kd.int .u8) w A0 l0.length l0) (hc0 : l0.length ≤ c0) (hr1 : Kd.C (Kd.int .u8) w A1 l1.length l1) (hc1 : l1.length ≤ c1) (hr_ : r = true) (h : laws_FnVoted.f k l0 l1 = some r) :
    Calls Try.prog 14 #[.slice A0 l0.length c0, .slice A1 l1.length c1] w fun e w' => e = .returned (.bool r) ∧ Below w.heap.size w w' := by
  have hu28 := Try.underlying28
  have HR0 := Aside0.mk hr0
  have HC0 := Aside0.mk hc0
  clear hr0 hc0
  have HR1 := Aside0.mk hr1
  have HC1 := Aside0.mk hc1
  clear hr1 hc1
  have HB := Aside0.mk (Below.refl w.heap.size w)
  have H : ((laws_b10Long.f l0 l1).bind fun t276 => (if t276 = true then (some true) else ((laws_b10At.f l1 0 7).bind fun t277 => ((laws_b10At.f l1 1 7).bind fun t278 => ((spec_B10Plain.f k l0 (wrap64 (1 + t277)) (wrap64 (1 + t278))).bind fun bt279 => (laws_FnVoted.l0 k l1 (bt279.2.2.length : Int) 0 bt279.1 bt279.2.1 bt279.2.2 (wrap64 (1 + t277)) (wrap64 (1 + t278)) ([] : List Int))))))) = some r := h
  clear h
  replace H := Option.bind_eq_some_iff.mp H
  obtain ⟨t276, A30, H⟩ := H
  replace H : (if t276 = true then (some true) else ((laws_b10At.f l1 0 7).bind fun t277 => ((laws_b10At.f l1 1 7).bind fun t278 => ((spec_B10Plain.f k l0 (wrap64 (1 + t277)) (wrap64 (1 + t278))).bind fun bt279 => (laws_FnVoted.l0 k l1 (bt279.2.2.length : Int) 0 bt279.1 bt279.2.1 bt279.2.2 (wrap64 (1 + t277)) (wrap64 (1 + t278)) ([] : List Int)))))) = some r := H
  have A3 := Aside0.mk A30
  clear A30
  by_cases c4 : t276 = true
  · subst c4
    have H1 : (some true) = some r := by rw [if_pos rfl] at H; exact H
    clear H
    have H := H1
    clear H1
    obtain rfl := Option.some.inj H
    go_enter Try.func14, Try.ntmps14
    go_wp2_with (first | ((with_reducible refine gate_callee (f := 56) rfl ?_); refine goesL_ (some 26) rfl rfl Try.func56 (by kernel_rfl) rfl #[.slice A0 l0.length c0, .slice A1 l1.length c1] rfl (by (try simp only [List.map_toArray, List.map_cons, List.map_nil]); first | done | rfl | (simp only [List.length_drop, List.length_take]; rfl)) ?_; (with_reducible refine (laws_b10Long.calls _ _ l0 _ _ l1 true _ ?side1 ?side2 ?side3 ?side4 A3.out).mono ?_); (case side1 => repeat (first | exact HR0.out | (with_reducible refine Kd.C_alloc ?_ _) | (with_reducible refine Kd.C_drewN ?_ _) | (with_reducible refine Kd.C_drew ?_))); (case side2 => exact HC0.out); (case side3 => repeat (first | exact HR1.out | (with_reducible refine Kd.C_alloc ?_ _) | (with_reducible refine Kd.C_drewN ?_ _) | (with_reducible refine Kd.C_drew ?_))); (case side4 => exact HC1.out); rintro e w' ⟨rfl, ⟨nd, rfl⟩⟩; refine ⟨_, rfl, ?_⟩))
    go_ret
    exact ⟨by first | rfl | (simp [errW_none, errW_some] <;> rfl) | (simp [*, errW_none, errW_some] <;> rfl), bk_ HB.out⟩
  · replace c4 := Bool.eq_false_iff.mpr c4
    subst c4
    have H1 : ((laws_b10At.f l1 0 7).bind fun t277 => ((laws_b10At.f l1 1 7).bind fun t278 => ((spec_B10Plain.f k l0 (wrap64 (1 + t277)) (wrap64 (1 + t278))).bind fun bt279 => (laws_FnVoted.l0 k l1 (bt279.2.2.length : Int) 0 bt279.1 bt279.2.1 bt279.2.2 (wrap64 (1 + t277)) (wrap64 (1 + t278)) ([] : List Int))))) = some r := by rw [if_neg (show ¬ (false = true) by decide)] at H; exact H
    clear H
    have H := H1
    clear H1
    replace H := Option.bind_eq_some_iff.mp H
    obtain ⟨t277, A50, H⟩ := H
    replace H : ((laws_b10At.f l1 1 7).bind fun t278 => ((spec_B10Plain.f k l0 (wrap64 (1 + t277)) (wrap64 (1 + t278))).bind fun bt279 => (laws_FnVoted.l0 k l1 (bt279.2.2.length : Int) 0 bt279.1 bt279.2.1 bt279.2.2 (wrap64 (1 + t277)) (wrap64 (1 + t278)) ([] : List Int)))) = some r := H
    have A5 := Aside0.mk A50
    clear A50
    replace H := Option.bind_eq_some_iff.mp H
    obtain ⟨t278, A60, H⟩ := H
    replace H : ((spec_B10Plain.f k l0 (wrap64 (1 + t277)) (wrap64 (1 + t278))).bind fun bt279 => (laws_FnVoted.l0 k l1 (bt279.2.2.length : Int) 0 bt279.1 bt279.2.1 bt279.2.2 (wrap64 (1 + t277)) (wrap64 (1 + t278)) ([] : List Int))) = some r := H
    have A6 := Aside0.mk A60
    clear A60
    replace H := Option.bind_eq_some_iff.mp H
    obtain ⟨⟨t279, t280, t281⟩, A70, H⟩ := H
    replace H : (laws_FnVoted.l0 k l1 (t281.length : Int) 0 t279 t280 t281 (wrap64 (1 + t277)) (wrap64 (1 + t278)) ([] : List Int)) = some r := H
    have A7 := Aside0.mk A70
    clear A70
    have H' := Aside0.mk H
    clear H
    go_enter Try.func14, Try.ntmps14
    go_wp2_with (first | ((with_reducible refine gate_callee (f := 56) rfl ?_); refine goesL_ (some 26) rfl rfl Try.func56 (by kernel_rfl) rfl #[.slice A0 l0.length c0, .slice A1 l1.length c1] rfl (by (try simp only [List.map_toArray, List.map_cons, List.map_nil]); first | done | rfl | (simp only [List.length_drop, List.length_take]; rfl)) ?_; (with_reducible refine (laws_b10Long.calls _ _ l0 _ _ l1 false _ ?side1 ?side2 ?side3 ?side4 A3.out).mono ?_); (case side1 => repeat (first | exact HR0.out | (with_reducible refine Kd.C_alloc ?_ _) | (with_reducible refine Kd.C_drewN ?_ _) | (with_reducible refine Kd.C_drew ?_))); (case side2 => exact HC0.out); (case side3 => repeat (first | exact HR1.out | (with_reducible refine Kd.C_alloc ?_ _) | (with_reducible refine Kd.C_drewN ?_ _) | (with_reducible refine Kd.C_drew ?_))); (case side4 => exact HC1.out); rintro e w' ⟨rfl, ⟨nd, rfl⟩⟩; refine ⟨_, rfl, ?_⟩) | ((with_reducible refine gate_callee (f := 57) rfl ?_); refine goesL_ (some 28) rfl rfl Try.func57 (by kernel_rfl) rfl #[.slice A1 l1.length c1, .int .i64 0, .int .i64 7] rfl (by (try simp only [List.map_toArray, List.map_cons, List.map_nil]); first | done | rfl | (simp only [List.length_drop, List.length_take]; rfl)) ?_; (with_reducible refine (laws_b10At.calls _ _ l1 0 7 t277 _ ?side1 ?side2 A5.out).mono ?_); (case side1 => repeat (first | exact HR1.out | (with_reducible refine Kd.C_alloc ?_ _) | (with_reducible refine Kd.C_drewN ?_ _) | (with_reducible refine Kd.C_drew ?_))); (case side2 => exact HC1.out); rintro e w' ⟨rfl, ⟨nd, rfl⟩⟩; refine ⟨_, rfl, ?_⟩) | ((with_reducible refine gate_callee (f := 57) rfl ?_); refine goesL_ (some 31) rfl rfl Try.func57 (by kernel_rfl) rfl #[.slice A1 l1.length c1, .int .i64 1, .int .i64 7] rfl (by (try simp only [List.map_toArray, List.map_cons, List.map_nil]); first | done | rfl | (simp only [List.length_drop, List.length_take]; rfl)) ?_; (with_reducible refine (laws_b10At.calls _ _ l1 1 7 t278 _ ?side1 ?side2 A6.out).mono ?_); (case side1 => repeat (first | exact HR1.out | (with_reducible refine Kd.C_alloc ?_ _) | (with_reducible refine Kd.C_drewN ?_ _) | (with_reducible refine Kd.C_drew ?_))); (case side2 => exact HC1.out); rintro e w' ⟨rfl, ⟨nd, rfl⟩⟩; refine ⟨_, rfl, ?_⟩) | ((with_reducible refine gate_callee (f := 58) rfl ?_); refine goesL_ (some 36) rfl rfl Try.func58 (by kernel_rfl) rfl #[.slice A0 l0.length c0, .int .i64 (wrap64 (1 + t277)), .int .i64 (wrap64 (1 + t278))] rfl (by (try simp only [List.map_toArray, List.map_cons, List.map_nil]); first | done | rfl | (simp only [List.length_drop, List.length_take]; rfl)) ?_; (with_reducible refine (spec_B10Plain.calls k _ _ l0 (wrap64 (1 + t277)) (wrap64 (1 + t278)) t279 t280 t281 _ ?side1 ?side2 A7.out).mono ?_); (case side1 => repeat (first | exact HR0.out | (with_reducible refine Kd.C_alloc ?_ _) | (with_reducible refine Kd.C_drewN ?_ _) | (with_reducible refine Kd.C_drew ?_))); (case side2 => exact HC0.out); rintro e w8 ⟨v282, rfl, ho0, hb⟩; refine ⟨_, rfl, ?_⟩; have n0_ := Aside0.mk (Kd.R_lower ho0 (below_size (bk_ HB.out))); have n1_ := Aside0.mk (below_step (bk_ HB.out) hb); clear HB; have HO283 := n0_; have HB := n1_; clear n0_ n1_; (try clear hb); (try clear hb2); (try clear hk); (try clear hi); (try clear ho0)) | ((with_reducible refine gate_dst (N := 7) rfl ?_); (try (refine gate_guard (by rfl) ?_; dsimp only)); refine box_event ?hg (N := 7) ?hd (cs := #[.int .i64 0, .int .i64 0, .slice none 0 0]) (t := 28) ?hr ?_; (case hd => rfl); (case hg => rfl); (case hr => first | (go_simp; done) | (go_simp; rfl)); intro gb284 hg w9 hbox hb; have n0_ := Aside0.mk (Kd.R_below (rk_ HO283.out) hb); have n1_ := Aside0.mk (below_step (bk_ HB.out) hb); have n2_ := Aside0.mk (hbox); have n3_ := Aside0.mk ((by rw [hg]; exact (below_size (bk_ HB.out)) : w.heap.size ≤ gb284)); have n4_ := Aside0.mk ((by rw [hg]; exact (below_size (bk_ HB.out)) : w.heap.size ≤ gb284)); clear HO283; clear HB; have HO283 := n0_; have HB := n1_; have BK284 := n2_; have GW284 := n3_; have GE284 := n4_; clear n0_ n1_ n2_ n3_ n4_; clear hb hbox hg; have hcz10_0 := bc_ BK284.out 0 (.int .i64 0); have hcz10_1 := bc_ BK284.out 1 (.int .i64 0); have hcz10_2 := bc_ BK284.out 2 (.slice none 0 0); have hfz10_0 := blk_frozen BK284.out 0; have hfz10_1 := blk_frozen BK284.out 1; have hfz10_2 := blk_frozen BK284.out 2; obtain ⟨Ao11, co11, eo11⟩ := Kd.R_slice HO283.out; subst eo11) | ((with_reducible refine gate_dst (N := 8) rfl ?_); (try (refine gate_guard (by rfl) ?_; dsimp only)); refine box_event ?hg (N := 8) ?hd (cs := #[.int .i64 0, .int .i64 0, .slice none 0 0]) (t := 28) ?hr ?_; (case hd => rfl); (case hg => rfl); (case hr => first | (go_simp; done) | (go_simp; rfl)); intro gb285 hg w12 hbox hb; have n0_ := Aside0.mk (Kd.R_below (rx_ HO283.out BK284.out) hb); have n1_ := Aside0.mk (blk_below (g := gb284) (o := .cells #[.int .i64 t279, .int .i64 t280, .slice Ao11 t281.length co11] 28 (0, 0)) (by (with_reducible repeat (first | refine blk_drewN ?_ _ | refine blk_drew ?_ | refine blk_alloc ?_ _)); refine blk_put (cs := #[.int .i64 t279, .int .i64 t280, .slice none 0 0]) ?_ 2 _ rfl; (with_reducible repeat (first | refine blk_drewN ?_ _ | refine blk_drew ?_ | refine blk_alloc ?_ _)); refine blk_put (cs := #[.int .i64 t279, .int .i64 0, .slice none 0 0]) ?_ 1 _ rfl; (with_reducible repeat (first | refine blk_drewN ?_ _ | refine blk_drew ?_ | refine blk_alloc ?_ _)); refine blk_put (cs := #[.int .i64 0, .int .i64 0, .slice none 0 0]) ?_ 0 _ rfl; (with_reducible repeat (first | refine blk_drewN ?_ _ | refine blk_drew ?_ | refine blk_alloc ?_ _)); exact BK284.out) hb); have n2_ := Aside0.mk (below_step (bk_ HB.out) hb); have n3_ := Aside0.mk (hbox); have n4_ := Aside0.mk ((by rw [hg]; exact (below_size (bk_ HB.out)) : w.heap.size ≤ gb285)); have n5_ := Aside0.mk ((by rw [hg]; exact (below_size (bk_ HB.out)) : w.heap.size ≤ gb285)); have n6_ := Aside0.mk ((by rw [hg]; exact Nat.ne_of_lt (blk_lt (g := gb284) (o := .cells #[.int .i64 t279, .int .i64 t280, .slice Ao11 t281.length co11] 28 (0, 0)) (by (with_reducible repeat (first | refine blk_drewN ?_ _ | refine blk_drew ?_ | refine blk_alloc ?_ _)); refine blk_put (cs := #[.int .i64 t279, .int .i64 t280, .slice none 0 0]) ?_ 2 _ rfl; (with_reducible repeat (first | refine blk_drewN ?_ _ | refine blk_drew ?_ | refine blk_alloc ?_ _)); refine blk_put (cs := #[.int .i64 t279, .int .i64 0, .slice none 0 0]) ?_ 1 _ rfl; (with_reducible repeat (first | refine blk_drewN ?_ _ | refine blk_drew ?_ | refine blk_alloc ?_ _)); refine blk_put (cs := #[.int .i64 0, .int .i64 0, .slice none 0 0]) ?_ 0 _ rfl; (with_reducible repeat (first | refine blk_drewN ?_ _ | refine blk_drew ?_ | refine blk_alloc ?_ _)); exact BK284.out)) : gb284 ≠ gb285)); have n7_ := Aside0.mk ((by rw [hg]; exact Nat.ne_of_gt (blk_lt (g := gb284) (o := .cells #[.int .i64 t279, .int .i64 t280, .slice Ao11 t281.length co11] 28 (0, 0)) (by (with_reducible repeat (first | refine blk_drewN ?_ _ | refine blk_drew ?_ | refine blk_alloc ?_ _)); refine blk_put (cs := #[.int .i64 t279, .int .i64 t280, .slice none 0 0]) ?_ 2 _ rfl; (with_reducible repeat (first | refine blk_drewN ?_ _ | refine blk_drew ?_ | refine blk_alloc ?_ _)); refine blk_put (cs := #[.int .i64 t279, .int .i64 0, .slice none 0 0]) ?_ 1 _ rfl; (with_reducible repeat (first | refine blk_drewN ?_ _ | refine blk_drew ?_ | refine blk_alloc ?_ _)); refine blk_put (cs := #[.int .i64 0, .int .i64 0, .slice none 0 0]) ?_ 0 _ rfl; (with_reducible repeat (first | refine blk_drewN ?_ _ | refine blk_drew ?_ | refine blk_alloc ?_ _)); exact BK284.out)) : gb285 ≠ gb284)); clear HO283; clear BK284; clear HB; have HO283 := n0_; have BK284 := n1_; have HB := n2_; have BK285 := n3_; have GW285 := n4_; have GE285 := n5_; have NB284_285 := n6_; have NB285_284 := n7_; clear n0_ n1_ n2_ n3_ n4_ n5_ n6_ n7_; clear hb hbox hg; have hnb13 := NB285_284.out; have hnc13 := NB284_285.out; have hcz14_0 := bc_ BK285.out 0 (.int .i64 0); have hcz14_1 := bc_ BK285.out 1 (.int .i64 0); have hcz14_2 := bc_ BK285.out 2 (.slice none 0 0); have hfz14_0 := blk_frozen BK285.out 0; have hfz14_1 := blk_frozen BK285.out 1; have hfz14_2 := blk_frozen BK285.out 2; have hcz15_0 := bc_ BK284.out 0 (.int .i64 t279); have hcz15_1 := bc_ BK284.out 1 (.int .i64 t280); have hcz15_2 := bc_ BK284.out 2 (.slice Ao11 t281.length co11); have hfz15_0 := blk_frozen BK284.out 0; have hfz15_1 := blk_frozen BK284.out 1; have hfz15_2 := blk_frozen BK284.out 2))
    go_loopg [43] k (fun kq v43 w' => ∃ (x43_1 : Int) (x286002_1 : List Int) (u286002 : Value), v43 = .int .i64 x43_1 ∧ Aside0 (laws_FnVoted.l0 kq l1 (t281.length : Int) x43_1 t279 t280 t281 (wrap64 (1 + t277)) (wrap64 (1 + t278)) x286002_1 = some r) ∧ Aside0 (kq ≤ k) ∧ Aside0 (Kd.R (Kd.int .i64) 2 w' w.heap.size (fun k_ => some k_ ≠ (u286002 : Value).ownBlock) (.slice Ao11 t281.length co11) t281) ∧ Aside0 (Kd.R (Kd.int .i64) 2 w' w.heap.size (fun k_ => some k_ ≠ ((.slice Ao11 t281.length co11) : Value).ownBlock) u286002 x286002_1) ∧ Aside0 (w'.heap[gb284]? = some (.cells #[.int .i64 t279, .int .i64 t280, (.slice Ao11 t281.length co11)] 28 (0, 0))) ∧ Aside0 (w'.heap[gb285]? = some (.cells #[.int .i64 (wrap64 (1 + t277)), .int .i64 (wrap64 (1 + t278)), u286002] 28 (0, 0))) ∧ Aside0 (Below w.heap.size w w'))
    case atStart => exact ⟨(0), (([] : List Int)), (.slice none 0 0), (by first | rfl | (simp; done) | (simp [i64_w, i32_w]; done) | (simp [*]; done) | (simp [*, i64_w, i32_w]; done)), H', ⟨Nat.le_refl _⟩, ⟨by (with_reducible repeat (first | apply Kd.R_alloc | apply Kd.R_drewN | apply Kd.R_drew)); exact Kd.R_mono (Kd.R_far (p := ⟨gb285, 2, none⟩) (Kd.R_far (p := ⟨gb285, 1, none⟩) (Kd.R_far (p := ⟨gb285, 0, none⟩) (Kd.R_types HO283.out BK285.out (by decide)) (fun _ hk => hk.2) (.int .i64 (wrap64 (1 + t277)))) (fun _ hk => hk.2) (.int .i64 (wrap64 (1 + t278)))) (fun _ hk => hk.2) (.slice none 0 0)) (fun _ hk => (by simp [Value.ownBlock]))⟩, ⟨by first | exact Kd.R_nil _ _ _ _ _ | exact Kd.N_nil _ _ _ _ _ | exact Kd.V_nil _ _ _ _ _ | exact Kd.Q_nil _ _ _ _ _ | exact Kd.S_nil _ _ _ _ _⟩, ⟨by (with_reducible repeat (first | refine blk_drewN ?_ _ | refine blk_drew ?_ | refine blk_alloc ?_ _)); refine blk_far ?_ NB284_285.out _; (with_reducible repeat (first | refine blk_drewN ?_ _ | refine blk_drew ?_ | refine blk_alloc ?_ _)); refine blk_far ?_ NB284_285.out _; (with_reducible repeat (first | refine blk_drewN ?_ _ | refine blk_drew ?_ | refine blk_alloc ?_ _)); refine blk_far ?_ NB284_285.out _; (with_reducible repeat (first | refine blk_drewN ?_ _ | refine blk_drew ?_ | refine blk_alloc ?_ _)); exact BK284.out⟩, ⟨by (with_reducible repeat (first | refine blk_drewN ?_ _ | refine blk_drew ?_ | refine blk_alloc ?_ _)); refine blk_put (cs := #[.int .i64 (wrap64 (1 + t277)), .int .i64 (wrap64 (1 + t278)), .slice none 0 0]) ?_ 2 _ rfl; (with_reducible repeat (first | refine blk_drewN ?_ _ | refine blk_drew ?_ | refine blk_alloc ?_ _)); refine blk_put (cs := #[.int .i64 (wrap64 (1 + t277)), .int .i64 0, .slice none 0 0]) ?_ 1 _ rfl; (with_reducible repeat (first | refine blk_drewN ?_ _ | refine blk_drew ?_ | refine blk_alloc ?_ _)); refine blk_put (cs := #[.int .i64 0, .int .i64 0, .slice none 0 0]) ?_ 0 _ rfl; (with_reducible repeat (first | refine blk_drewN ?_ _ | refine blk_drew ?_ | refine blk_alloc ?_ _)); exact BK285.out⟩, ⟨bk_ HB.out⟩⟩
    case round =>
      clear H'
      try clear c1
      try clear p2
      try clear c4
      try clear c5
      try clear p6
      try clear c13
      try clear c14
      try clear hcz10_0
      try clear hcz10_1
      try clear hcz10_2
      try clear hcz14_0
      try clear hcz14_1
      try clear hcz14_2
      try clear hcz15_0
      try clear hcz15_1
      try clear hcz15_2
      try clear hfz10_0
      try clear hfz10_1
      try clear hfz10_2
      try clear hfz14_0
      try clear hfz14_1
      try clear hfz14_2
      try clear hfz15_0
      try clear hfz15_1
      try clear hfz15_2
      obtain ⟨x43_1, x286002_1, u286002, rfl, HA, HK1, HO_285002, HO_286002, BK284, BK285, HB⟩ := hrel
      cases gk with
      | zero => exact absurd HA.out (by simp [laws_FnVoted.l0])
      | succ k1 =>
        have H := HA.out
        clear HA
        simp only [laws_FnVoted.l0] at H
        by_cases c16 : x43_1 < (t281.length : Int)
        · rw [if_pos c16] at H
          have c16b0 : decide (x43_1 < (t281.length : Int)) = true := decide_eq_true c16
          clear c16
          by_cases c17 : 0 ≤ x43_1
          · rw [if_pos c17] at H
            have c17b0 : decide (0 ≤ x43_1) = true := decide_eq_true c17
            clear c17
            by_cases c18 : x43_1 < (t281.length : Int)
            · rw [if_pos c18] at H
              have c18b0 : decide (x43_1 < (t281.length : Int)) = true := decide_eq_true c18
              clear c18
              by_cases c19 : x286002_1.length < 17592186044416
              · rw [if_pos c19] at H
                have LMc19 := Aside0.mk c19
                clear c19
                obtain ⟨y287, hy287⟩ : ∃ y_ : List Int, y_ = (x286002_1 ++ [wrap64 (1 - (rd t281 x43_1))]) := ⟨_, rfl⟩
                replace H : (laws_FnVoted.l0 k1 l1 (t281.length : Int) (wrap64 (x43_1 + 1)) t279 t280 t281 (wrap64 (1 + t277)) (wrap64 (1 + t278)) y287) = some r := by first | (rw [hy287]; with_reducible exact H) | (have H2_ := (Option.bind_some _ _).symm.trans H; rw [hy287]; with_reducible exact H2_) | (have H2_ := (Option.bind_some _ _).symm.trans H; with_reducible exact H2_) | with_reducible exact H | (rw [hy287]; exact H) | exact H
                have Ny287 := Aside0.mk hy287
                clear hy287
                have H' := Aside0.mk H
                clear H
                try go_wp2
                have n0_ := Aside0.mk (Kd.R_drew HO_285002.out)
                have n1_ := Aside0.mk (Kd.R_drew HO_286002.out)
                have n2_ := Aside0.mk (blk_drew BK284.out)
                have n3_ := Aside0.mk (blk_drew BK285.out)
                have n4_ := Aside0.mk (below_drew1 HB.out)
                clear HO_285002
                clear HO_286002
                clear BK284
                clear BK285
                clear HB
                have HO_285002 := n0_
                have HO_286002 := n1_
                have BK284 := n2_
                have BK285 := n3_
                have HB := n4_
                clear n0_ n1_ n2_ n3_ n4_
                have p286 : 0 ≤ (x43_1 : Int) := of_decide_eq_true (by first | (with_reducible assumption) | assumption)
                have q286 : x43_1 < (t281.length : Int) := of_decide_eq_true (by first | (with_reducible assumption) | assumption)
                obtain ⟨ad286, e286, hx286_0⟩ := Kd.at_int (Kd.R_reads' HO_285002.out).2.2 x43_1 p286 q286
                cases e286
                replace p286 := eq_true p286
                replace q286 := eq_true q286
                refine start_ (n := 12) (S := fun w' => w'.cell? ⟨gb285, 0, none⟩ = some (.int .i64 (wrap64 (1 + t277))) ∧ w'.cell? ⟨gb285, 1, none⟩ = some (.int .i64 (wrap64 (1 + t278))) ∧ w'.cell? ⟨gb285, 2, none⟩ = some (u286002) ∧ w'.cell? ⟨gb284, 0, none⟩ = some (.int .i64 t279) ∧ w'.cell? ⟨gb284, 1, none⟩ = some (.int .i64 t280) ∧ w'.cell? ⟨gb284, 2, none⟩ = some (.slice (some ad286) t281.length co11) ∧ w'.cell? (ad286.add (x43_1).toNat) = some (.int .i64 (rd t281 x43_1))) (ds := [9, 11]) (bm_ 12 0) (by kernel_rfl) rfl rfl ⟨(blk_cell BK285.out 0).trans rfl, (blk_cell BK285.out 1).trans rfl, (blk_cell BK285.out 2).trans rfl, (blk_cell BK284.out 0).trans rfl, (blk_cell BK284.out 1).trans rfl, (blk_cell BK284.out 2).trans rfl, hx286_0⟩ (fun hHeld => ?_); refine with_tabW laws_FnVoted.tab10 laws_FnVoted.bits10 (fun HT_ HW_ => ?_)
                generalize wr.drew = w20 at HO_285002 HO_286002 BK284 BK285 HB hx286_0 hHeld ⊢
                refine pure_ (i := 0) (N := some 46) (v := ?_) (a' := ?_) (bm_ 12 1) rfl rfl (any_of HT_.out (by kernel_rfl)) (fun _ _ _ h => h) (Or.inl ⟨by rfl, ?_⟩) ?_ ?_
                rotate_left
                · intro w'
                  go_simp
                  with_reducible rfl
                rotate_left
                · simp only [Act.put, List.setIfInBounds_toArray, List.set_cons_zero, List.set_cons_succ, i64_w, i32_w]
                  rfl
                refine pure_ (i := 2) (N := some 48) (v := ?_) (a' := ?_) (bm_ 12 5) rfl rfl (any_of HT_.out (by kernel_rfl)) (fun _ _ _ h => h) (Or.inl ⟨by rfl, ?_⟩) ?_ ?_
                rotate_left
                · intro w'
                  go_simp
                  with_reducible rfl
                rotate_left
                · simp only [Act.put, List.setIfInBounds_toArray, List.set_cons_zero, List.set_cons_succ, i64_w, i32_w]
                  rfl
                refine pure_ (i := 4) (N := some 50) (v := ?_) (a' := ?_) (bm_ 12 21) rfl rfl (any_of HT_.out (by kernel_rfl)) (fun _ _ _ h => h) (Or.inl ⟨by rfl, ?_⟩) ?_ ?_
                rotate_left
                · intro w'
                  go_simp
                  with_reducible rfl
                rotate_left
                · simp only [Act.put, List.setIfInBounds_toArray, List.set_cons_zero, List.set_cons_succ, i64_w, i32_w]
                  rfl
                refine take_ (i := 1) (N := some 47) (v := ?_) (a' := ?_) (bm_ 12 23) rfl rfl (take_ofW HT_.out HW_.out (by kernel_rfl)) (fun _ _ _ h => h) (Or.inl ⟨by rfl, ?_⟩) hHeld ?_ ?_
                rotate_left
                · rintro w' ⟨s0, s1, s2, s3, s4, s5, s6⟩
                  go_simp
                  with_reducible rfl
                rotate_left
                · simp only [Act.put, List.setIfInBounds_toArray, List.set_cons_zero, List.set_cons_succ, i64_w, i32_w]
                  rfl
                refine take_ (i := 3) (N := some 49) (v := ?_) (a' := ?_) (bm_ 12 31) rfl rfl (take_ofW HT_.out HW_.out (by kernel_rfl)) (fun _ _ _ h => h) (Or.inl ⟨by rfl, ?_⟩) hHeld ?_ ?_
                rotate_left
                · rintro w' ⟨s0, s1, s2, s3, s4, s5, s6⟩
                  go_simp
                  with_reducible rfl
                rotate_left
                · simp only [Act.put, List.setIfInBounds_toArray, List.set_cons_zero, List.set_cons_succ, i64_w, i32_w]
                  rfl
                refine pure_ (i := 5) (N := some 51) (v := ?_) (a' := ?_) (bm_ 12 63) rfl rfl (any_of HT_.out (by kernel_rfl)) (fun _ _ _ h => h) (Or.inl ⟨by rfl, ?_⟩) ?_ ?_
                rotate_left
                · intro w'
                  go_simp
                  with_reducible rfl
                rotate_left
                · simp only [Act.put, List.setIfInBounds_toArray, List.set_cons_zero, List.set_cons_succ, i64_w, i32_w]
                  rfl
                refine take_ (i := 6) (N := some 52) (v := ?_) (a' := ?_) (bm_ 12 127) rfl rfl (take_ofW HT_.out HW_.out (by kernel_rfl)) (fun _ _ _ h => h) (Or.inl ⟨by rfl, ?_⟩) hHeld ?_ ?_
                rotate_left
                · rintro w' ⟨s0, s1, s2, s3, s4, s5, s6⟩
                  go_simp
                  with_reducible rfl
                rotate_left
                · simp only [Act.put, List.setIfInBounds_toArray, List.set_cons_zero, List.set_cons_succ, i64_w, i32_w]
                  rfl
                refine pure_ (i := 7) (N := some 53) (v := ?_) (a' := ?_) (bm_ 12 255) rfl rfl (any_of HT_.out (by kernel_rfl)) (fun _ _ _ h => h) (Or.inl ⟨by rfl, ?_⟩) ?_ ?_
                rotate_left
                · intro w'
                  go_simp
                  with_reducible rfl
                rotate_left
                · simp only [Act.put, List.setIfInBounds_toArray, List.set_cons_zero, List.set_cons_succ, i64_w, i32_w]
                  rfl
                refine one_ (i := 8) (N := some 54) (bm_ 12 511) rfl rfl (one_of HT_.out (by kernel_rfl)) (by decide) (fun K hK => ?_)
                refine value_ (w1 := ?_) (v := ?_) (by rfl) rfl ?_ ?_
                rotate_left 2
                · go_simp
                  constructor
                  · rfl
                  · rfl
                refine hK.out _ _ ⟨(blk_cell (blk_alloc BK285.out _) 0).trans rfl, (blk_cell (blk_alloc BK285.out _) 1).trans rfl, (blk_cell (blk_alloc BK285.out _) 2).trans rfl, (blk_cell (blk_alloc BK284.out _) 0).trans rfl, (blk_cell (blk_alloc BK284.out _) 1).trans rfl, (blk_cell (blk_alloc BK284.out _) 2).trans rfl, (World.cell?_alloc_lt _ _ _ (World.block_lt_of_cell? _ _ (hHeld.2.2.2.2.2.2))).trans (hHeld.2.2.2.2.2.2)⟩ (fun hHeld => ?_)
                clear hK K
                refine norm_ (a' := ?_) ?_ ?_
                rotate_left
                · show Act.put _ (some 54) _ = _
                  simp only [Act.put, List.setIfInBounds_toArray, List.set_cons_zero, List.set_cons_succ, i64_w, i32_w]
                  rfl
                refine last_ (i := 9) (N := some 55) (bm_ 12 1023) rfl rfl (one_of HT_.out (by kernel_rfl)) (by decide) (fun K hK => ?_)
                refine Kd.R_append_step (Kd.int .i64) (w0 := w) w.heap.size (by rfl) (.tmp 47) (.tmp 54) 22 2 (.int .i64 0) 8 rfl Try.underlying22 info2 rfl (by decide) (by omega) u286002 x286002_1 (wrap64 (1 - (rd t281 x43_1))) [.int .i64 (wrap64 (1 - (rd t281 x43_1)))] (fun k_ => some k_ ≠ (.slice (some ad286) t281.length co11 : Value).ownBlock) (fun _ => False) rfl rfl ?aP (fun _ hk => hk.elim) ?aF ?aO ?aB ?aS ?aL ?_
                (case aP => exact rfl)
                (case aB => exact (bk_ HB.out))
                (case aF => exact (fun k_ hk => Kd.fresh' (Kd.R_lt (rk_ HO_285002.out)) k_ hk))
                (case aO => exact (rk_ HO_286002.out))
                (case aS => exact (below_size (bk_ HB.out)))
                (case aL => have := LMc19.out; omega)
                intro v288 w21 ho hb hg hat
                rw [← Ny287.out] at ho
                have n0_ := Aside0.mk (Kd.R_after (ok := (fun _ => True)) (by (with_reducible repeat (first | apply Kd.R_alloc | apply Kd.R_drewN | apply Kd.R_drew)); exact Kd.R_mono HO_285002.out (fun _ hk => ⟨trivial, hk⟩)) hg hat)
                have n1_ := Aside0.mk (bg_ BK284.out hg (Kd.R_ne HO_286002.out BK284.out (by decide)))
                have n2_ := Aside0.mk (bg_ BK285.out hg (Kd.R_ne HO_286002.out BK285.out (by decide)))
                have n3_ := Aside0.mk (hb)
                have n4_ := Aside0.mk (ho)
                clear HO_285002
                clear BK284
                clear BK285
                clear HB
                clear HO_286002
                have HO_285002 := n0_
                have BK284 := n1_
                have BK285 := n2_
                have HB := n3_
                have HO289 := n4_
                clear n0_ n1_ n2_ n3_ n4_
                clear ho hb hg hat
                obtain ⟨Ao22, co22, eo22⟩ := Kd.R_slice HO289.out
                (first | subst eo22 | (injection eo22 with f1_ f2_ f3_; have f4_ := f1_.symm; have f5_ := f3_.symm; clear f1_ f2_ f3_; subst f4_; subst f5_))
                refine hK.out _ _ ?_
                clear hK K
                refine norm_ (a' := ?_) ?_ ?_
                rotate_left
                · show Act.put _ (some 55) _ = _
                  simp only [Act.put, List.setIfInBounds_toArray, List.set_cons_zero, List.set_cons_succ, i64_w, i32_w]
                  rfl
                refine pure_ (i := 10) (N := some 56) (v := ?_) (a' := ?_) (bm_ 12 2047) rfl rfl (any_of HT_.out (by kernel_rfl)) (fun _ _ _ h => h) (Or.inl ⟨by rfl, ?_⟩) ?_ ?_
                rotate_left
                · intro w'
                  go_simp
                  with_reducible rfl
                rotate_left
                · simp only [Act.put, List.setIfInBounds_toArray, List.set_cons_zero, List.set_cons_succ, i64_w, i32_w]
                  rfl
                refine last_ (i := 11) (N := none) (bm_ 12 4095) rfl rfl (one_of HT_.out (by kernel_rfl)) (by decide) (fun K hK => ?_)
                have hs23 : w21.cell? ⟨gb285, 2, none⟩ = some (u286002) := (blk_cell BK285.out 2).trans rfl
                have hfs23 := blk_frozen BK285.out 2
                have hns23_0 := NB284_285.out
                have hms23_0 := NB285_284.out
                refine skip_ (w1 := ?_) (by rfl) rfl ?_ ?_
                rotate_left
                · go_simp
                  rfl
                refine hK.out _ _ ?_
                clear hK K
                refine done_ (done_of HT_.out (by kernel_rfl)) ?_
                try go_wp2
                go_roundg k1
                case measure => have := HK1.out; omega
                case rel => exact ⟨(wrap64 (x43_1 + 1)), (y287), (.slice Ao22 y287.length co22), (by first | rfl | (simp; done) | (simp [i64_w, i32_w]; done) | (simp [*]; done) | (simp [*, i64_w, i32_w]; done)), H', ⟨by have := HK1.out; omega⟩, ⟨by (with_reducible repeat (first | apply Kd.R_alloc | apply Kd.R_drewN | apply Kd.R_drew)); exact Kd.R_mono (Kd.R_far (p := ⟨gb285, 2, none⟩) (Kd.R_types HO_285002.out BK285.out (by decide)) (fun _ hk => hk.2) (.slice Ao22 y287.length co22)) (fun _ hk => hk.1.2)⟩, ⟨by (with_reducible repeat (first | apply Kd.R_alloc | apply Kd.R_drewN | apply Kd.R_drew)); exact Kd.R_mono (Kd.R_far (p := ⟨gb285, 2, none⟩) (Kd.R_types HO289.out BK285.out (by decide)) (fun _ hk => hk.2) (.slice Ao22 y287.length co22)) (fun _ hk => hk.1)⟩, ⟨by (with_reducible repeat (first | refine blk_drewN ?_ _ | refine blk_drew ?_ | refine blk_alloc ?_ _)); refine blk_far ?_ NB284_285.out _; (with_reducible repeat (first | refine blk_drewN ?_ _ | refine blk_drew ?_ | refine blk_alloc ?_ _)); exact BK284.out⟩, ⟨by (with_reducible repeat (first | refine blk_drewN ?_ _ | refine blk_drew ?_ | refine blk_alloc ?_ _)); refine blk_put (cs := #[.int .i64 (wrap64 (1 + t277)), .int .i64 (wrap64 (1 + t278)), u286002]) ?_ 2 _ rfl; (with_reducible repeat (first | refine blk_drewN ?_ _ | refine blk_drew ?_ | refine blk_alloc ?_ _)); exact BK285.out⟩, ⟨bk_ HB.out⟩⟩
              · rw [if_neg c19] at H
                exact absurd H (by simp)
            · rw [if_neg c18] at H
              exact absurd H (by simp)
          · rw [if_neg c17] at H
            exact absurd H (by simp)
        · rw [if_neg c16] at H
          have c16b0 : decide (x43_1 < (t281.length : Int)) = false := decide_eq_false c16
          clear c16
          replace H := Option.bind_eq_some_iff.mp H
          obtain ⟨⟨t290, t291, t292, t295⟩, A240, H⟩ := H
          replace H : ((impl_VoteStep.f k1 (wrap64 (1 + t277)) (wrap64 (1 + t278)) x286002_1 true).bind fun bt297 => (if t295 = true then (if bt297.2.2.2 = true then (if (t292.length : Int) = (t281.length : Int) then (laws_FnVoted.j1 k1 l1 ((bt297.2.2.1.length : Int) != (t281.length : Int)) t279 t280 t281 t290 t291 t292 bt297.1 bt297.2.1 bt297.2.2.1) else (laws_FnVoted.j1 k1 l1 true t279 t280 t281 t290 t291 t292 bt297.1 bt297.2.1 bt297.2.2.1)) else (laws_FnVoted.j1 k1 l1 true t279 t280 t281 t290 t291 t292 bt297.1 bt297.2.1 bt297.2.2.1)) else (laws_FnVoted.j1 k1 l1 true t279 t280 t281 t290 t291 t292 bt297.1 bt297.2.1 bt297.2.2.1))) = some r := H
          have A24 := Aside0.mk A240
          clear A240
          replace H := Option.bind_eq_some_iff.mp H
          obtain ⟨⟨t297, t298, t299, t302⟩, A250, H⟩ := H
          replace H : (if t295 = true then (if t302 = true then (if (t292.length : Int) = (t281.length : Int) then (laws_FnVoted.j1 k1 l1 ((t299.length : Int) != (t281.length : Int)) t279 t280 t281 t290 t291 t292 t297 t298 t299) else (laws_FnVoted.j1 k1 l1 true t279 t280 t281 t290 t291 t292 t297 t298 t299)) else (laws_FnVoted.j1 k1 l1 true t279 t280 t281 t290 t291 t292 t297 t298 t299)) else (laws_FnVoted.j1 k1 l1 true t279 t280 t281 t290 t291 t292 t297 t298 t299)) = some r := H
          have A25 := Aside0.mk A250
          clear A250
          have HC26 := Aside0.mk H
          clear H
          have hnb27 := NB284_285.out
          have hnc27 := NB285_284.out
          have hcz28_0 := bc_ BK284.out 0 (.int .i64 t279)
          have hcz28_1 := bc_ BK284.out 1 (.int .i64 t280)
          have hcz28_2 := bc_ BK284.out 2 (.slice Ao11 t281.length co11)
          have hfz28_0 := blk_frozen BK284.out 0
          have hfz28_1 := blk_frozen BK284.out 1
          have hfz28_2 := blk_frozen BK284.out 2
          go_upto_region 14 with (first | ((with_reducible refine gate_callee (f := 48) rfl ?_); refine goesL_ (some 60) rfl rfl Try.func48 (by kernel_rfl) rfl #[.agg #[.int .i64 t279, .int .i64 t280, .slice Ao11 t281.length co11], .bool true] rfl (by (try simp only [List.map_toArray, List.map_cons, List.map_nil]); first | done | rfl | (simp only [List.length_drop, List.length_take]; rfl)) ?_; (with_reducible refine (impl_VoteStep.calls k1 t279 t280 _ _ t281 true t290 t291 t292 t295 _ ?side1 ?side2 A24.out).mono ?_); (case side1 => repeat (first | exact (Kd.R_reads' HO_285002.out).2.2 | (with_reducible refine Kd.C_alloc ?_ _) | (with_reducible refine Kd.C_drewN ?_ _) | (with_reducible refine Kd.C_drew ?_))); (case side2 => exact (Kd.R_reads' HO_285002.out).2.1); rintro e w29 ⟨v293, rfl, ho0, hb⟩; refine ⟨_, rfl, ?_⟩; have n0_ := Aside0.mk (Kd.R_elder' (rk_ HO_285002.out) (Kd.R_base ho0) hb); have n1_ := Aside0.mk (Kd.R_elder' (rk_ HO_286002.out) (Kd.R_base ho0) hb); have n2_ := Aside0.mk (Kd.R_lower (Kd.R_new' (Kd.R_new' ho0 (Kd.R_lt (rk_ HO_285002.out))) (Kd.R_lt (rk_ HO_286002.out))) (below_size (bk_ HB.out))); have n3_ := Aside0.mk (bb_ BK284.out hb); have n4_ := Aside0.mk (bb_ BK285.out hb); have n5_ := Aside0.mk (below_step (bk_ HB.out) hb); clear HO_285002; clear HO_286002; clear BK284; clear BK285; clear HB; have HO_285002 := n0_; have HO_286002 := n1_; have HO294 := n2_; have BK284 := n3_; have BK285 := n4_; have HB := n5_; clear n0_ n1_ n2_ n3_ n4_ n5_; (try clear hb); (try clear hb2); (try clear hk); (try clear hi); (try clear ho0)) | ((with_reducible refine gate_dst (N := 10) rfl ?_); (try (refine gate_guard (by rfl) ?_; dsimp only)); refine box_event ?hg (N := 10) ?hd (cs := #[.int .i64 0, .int .i64 0, .slice none 0 0]) (t := 28) ?hr ?_; (case hd => rfl); (case hg => rfl); (case hr => first | (go_simp; done) | (go_simp; rfl)); intro gb296 hg w30 hbox hb; have n0_ := Aside0.mk (Kd.R_below (rk_ HO_285002.out) hb); have n1_ := Aside0.mk (Kd.R_below (rk_ HO_286002.out) hb); have n2_ := Aside0.mk (Kd.R_below (rk_ HO294.out) hb); have n3_ := Aside0.mk (bb_ BK284.out hb); have n4_ := Aside0.mk (bb_ BK285.out hb); have n5_ := Aside0.mk (below_step (bk_ HB.out) hb); have n6_ := Aside0.mk (hbox); have n7_ := Aside0.mk ((by rw [hg]; exact (below_size (bk_ HB.out)) : w.heap.size ≤ gb296)); have n8_ := Aside0.mk ((by rw [hg]; exact (below_size (bk_ HB.out)) : w.heap.size ≤ gb296)); have n9_ := Aside0.mk ((by rw [hg]; exact Nat.ne_of_lt (bl_ BK284.out) : gb284 ≠ gb296)); have n10_ := Aside0.mk ((by rw [hg]; exact Nat.ne_of_gt (bl_ BK284.out) : gb296 ≠ gb284)); have n11_ := Aside0.mk ((by rw [hg]; exact Nat.ne_of_lt (bl_ BK285.out) : gb285 ≠ gb296)); have n12_ := Aside0.mk ((by rw [hg]; exact Nat.ne_of_gt (bl_ BK285.out) : gb296 ≠ gb285)); clear HO_285002; clear HO_286002; clear HO294; clear BK284; clear BK285; clear HB; have HO_285002 := n0_; have HO_286002 := n1_; have HO294 := n2_; have BK284 := n3_; have BK285 := n4_; have HB := n5_; have BK296 := n6_; have GW296 := n7_; have GE296 := n8_; have NB284_296 := n9_; have NB296_284 := n10_; have NB285_296 := n11_; have NB296_285 := n12_; clear n0_ n1_ n2_ n3_ n4_ n5_ n6_ n7_ n8_ n9_ n10_ n11_ n12_; clear hb hbox hg; have hnb31 := NB296_284.out; have hnc31 := NB284_296.out; have hnb32 := NB296_285.out; have hnc32 := NB285_296.out; have hcz33_0 := bc_ BK296.out 0 (.int .i64 0); have hcz33_1 := bc_ BK296.out 1 (.int .i64 0); have hcz33_2 := bc_ BK296.out 2 (.slice none 0 0); have hfz33_0 := blk_frozen BK296.out 0; have hfz33_1 := blk_frozen BK296.out 1; have hfz33_2 := blk_frozen BK296.out 2; obtain ⟨Ao34, co34, eo34⟩ := Kd.R_slice HO294.out; subst eo34; have hcz35_0 := bc_ BK285.out 0 (.int .i64 (wrap64 (1 + t277))); have hcz35_1 := bc_ BK285.out 1 (.int .i64 (wrap64 (1 + t278))); have hcz35_2 := bc_ BK285.out 2 (u286002); have hfz35_0 := blk_frozen BK285.out 0; have hfz35_1 := blk_frozen BK285.out 1; have hfz35_2 := blk_frozen BK285.out 2; obtain ⟨Ao36, co36, eo36⟩ := Kd.R_slice HO_286002.out; subst eo36) | ((with_reducible refine gate_callee (f := 48) rfl ?_); refine goesL_ (some 65) rfl rfl Try.func48 (by kernel_rfl) rfl #[.agg #[.int .i64 (wrap64 (1 + t277)), .int .i64 (wrap64 (1 + t278)), .slice Ao36 x286002_1.length co36], .bool true] rfl (by (try simp only [List.map_toArray, List.map_cons, List.map_nil]); first | done | rfl | (simp only [List.length_drop, List.length_take]; rfl)) ?_; (with_reducible refine (impl_VoteStep.calls k1 (wrap64 (1 + t277)) (wrap64 (1 + t278)) _ _ x286002_1 true t297 t298 t299 t302 _ ?side1 ?side2 A25.out).mono ?_); (case side1 => refine (Kd.R_reads' (e := 2) (base := w.heap.size) (ok := fun k_ => (some k_ ≠ (.slice Ao11 t281.length co11 : Value).ownBlock ∧ some k_ ≠ (.slice Ao34 t292.length co34 : Value).ownBlock)) (n := x286002_1.length) (c := co36) ?_).2.2; exact (rx_ HO_286002.out BK296.out)); (case side2 => exact (Kd.R_reads' HO_286002.out).2.1); rintro e w37 ⟨v300, rfl, ho0, hb⟩; refine ⟨_, rfl, ?_⟩; have n0_ := Aside0.mk (Kd.R_elder' (rx_ HO_285002.out BK296.out) (Kd.R_base ho0) hb); have n1_ := Aside0.mk (Kd.R_elder' (rx_ HO_286002.out BK296.out) (Kd.R_base ho0) hb); have n2_ := Aside0.mk (Kd.R_elder' (rx_ HO294.out BK296.out) (Kd.R_base ho0) hb); have n3_ := Aside0.mk (Kd.R_lower (Kd.R_new' (Kd.R_new' (Kd.R_new' ho0 (Kd.R_lt (rx_ HO_285002.out BK296.out))) (Kd.R_lt (rx_ HO_286002.out BK296.out))) (Kd.R_lt (rx_ HO294.out BK296.out))) (below_size (bk_ HB.out))); have n4_ := Aside0.mk (blk_below (g := gb284) (o := .cells #[.int .i64 t279, .int .i64 t280, .slice Ao11 t281.length co11] 28 (0, 0)) (by (with_reducible repeat (first | refine blk_drewN ?_ _ | refine blk_drew ?_ | refine blk_alloc ?_ _)); refine blk_far ?_ NB284_296.out _; (with_reducible repeat (first | refine blk_drewN ?_ _ | refine blk_drew ?_ | refine blk_alloc ?_ _)); refine blk_far ?_ NB284_296.out _; (with_reducible repeat (first | refine blk_drewN ?_ _ | refine blk_drew ?_ | refine blk_alloc ?_ _)); refine blk_far ?_ NB284_296.out _; (with_reducible repeat (first | refine blk_drewN ?_ _ | refine blk_drew ?_ | refine blk_alloc ?_ _)); exact BK284.out) hb); have n5_ := Aside0.mk (blk_below (g := gb285) (o := .cells #[.int .i64 (wrap64 (1 + t277)), .int .i64 (wrap64 (1 + t278)), .slice Ao36 x286002_1.length co36] 28 (0, 0)) (by (with_reducible repeat (first | refine blk_drewN ?_ _ | refine blk_drew ?_ | refine blk_alloc ?_ _)); refine blk_far ?_ NB285_296.out _; (with_reducible repeat (first | refine blk_drewN ?_ _ | refine blk_drew ?_ | refine blk_alloc ?_ _)); refine blk_far ?_ NB285_296.out _; (with_reducible repeat (first | refine blk_drewN ?_ _ | refine blk_drew ?_ | refine blk_alloc ?_ _)); refine blk_far ?_ NB285_296.out _; (with_reducible repeat (first | refine blk_drewN ?_ _ | refine blk_drew ?_ | refine blk_alloc ?_ _)); exact BK285.out) hb); have n6_ := Aside0.mk (blk_below (g := gb296) (o := .cells #[.int .i64 t290, .int .i64 t291, .slice Ao34 t292.length co34] 28 (0, 0)) (by (with_reducible repeat (first | refine blk_drewN ?_ _ | refine blk_drew ?_ | refine blk_alloc ?_ _)); refine blk_put (cs := #[.int .i64 t290, .int .i64 t291, .slice none 0 0]) ?_ 2 _ rfl; (with_reducible repeat (first | refine blk_drewN ?_ _ | refine blk_drew ?_ | refine blk_alloc ?_ _)); refine blk_put (cs := #[.int .i64 t290, .int .i64 0, .slice none 0 0]) ?_ 1 _ rfl; (with_reducible repeat (first | refine blk_drewN ?_ _ | refine blk_drew ?_ | refine blk_alloc ?_ _)); refine blk_put (cs := #[.int .i64 0, .int .i64 0, .slice none 0 0]) ?_ 0 _ rfl; (with_reducible repeat (first | refine blk_drewN ?_ _ | refine blk_drew ?_ | refine blk_alloc ?_ _)); exact BK296.out) hb); have n7_ := Aside0.mk (below_step (bk_ HB.out) hb); clear HO_285002; clear HO_286002; clear HO294; clear BK284; clear BK285; clear BK296; clear HB; have HO_285002 := n0_; have HO_286002 := n1_; have HO294 := n2_; have HO301 := n3_; have BK284 := n4_; have BK285 := n5_; have BK296 := n6_; have HB := n7_; clear n0_ n1_ n2_ n3_ n4_ n5_ n6_ n7_; (try clear hb); (try clear hb2); (try clear hk); (try clear hi); (try clear ho0)) | ((with_reducible refine gate_dst (N := 12) rfl ?_); (try (refine gate_guard (by rfl) ?_; dsimp only)); refine box_event ?hg (N := 12) ?hd (cs := #[.int .i64 0, .int .i64 0, .slice none 0 0]) (t := 28) ?hr ?_; (case hd => rfl); (case hg => rfl); (case hr => first | (go_simp; done) | (go_simp; rfl)); intro gb303 hg w38 hbox hb; have n0_ := Aside0.mk (Kd.R_below (rk_ HO_285002.out) hb); have n1_ := Aside0.mk (Kd.R_below (rk_ HO_286002.out) hb); have n2_ := Aside0.mk (Kd.R_below (rk_ HO294.out) hb); have n3_ := Aside0.mk (Kd.R_below (rk_ HO301.out) hb); have n4_ := Aside0.mk (bb_ BK284.out hb); have n5_ := Aside0.mk (bb_ BK285.out hb); have n6_ := Aside0.mk (bb_ BK296.out hb); have n7_ := Aside0.mk (below_step (bk_ HB.out) hb); have n8_ := Aside0.mk (hbox); have n9_ := Aside0.mk ((by rw [hg]; exact (below_size (bk_ HB.out)) : w.heap.size ≤ gb303)); have n10_ := Aside0.mk ((by rw [hg]; exact (below_size (bk_ HB.out)) : w.heap.size ≤ gb303)); have n11_ := Aside0.mk ((by rw [hg]; exact Nat.ne_of_lt (bl_ BK284.out) : gb284 ≠ gb303)); have n12_ := Aside0.mk ((by rw [hg]; exact Nat.ne_of_gt (bl_ BK284.out) : gb303 ≠ gb284)); have n13_ := Aside0.mk ((by rw [hg]; exact Nat.ne_of_lt (bl_ BK285.out) : gb285 ≠ gb303)); have n14_ := Aside0.mk ((by rw [hg]; exact Nat.ne_of_gt (bl_ BK285.out) : gb303 ≠ gb285)); have n15_ := Aside0.mk ((by rw [hg]; exact Nat.ne_of_lt (bl_ BK296.out) : gb296 ≠ gb303)); have n16_ := Aside0.mk ((by rw [hg]; exact Nat.ne_of_gt (bl_ BK296.out) : gb303 ≠ gb296)); clear HO_285002; clear HO_286002; clear HO294; clear HO301; clear BK284; clear BK285; clear BK296; clear HB; have HO_285002 := n0_; have HO_286002 := n1_; have HO294 := n2_; have HO301 := n3_; have BK284 := n4_; have BK285 := n5_; have BK296 := n6_; have HB := n7_; have BK303 := n8_; have GW303 := n9_; have GE303 := n10_; have NB284_303 := n11_; have NB303_284 := n12_; have NB285_303 := n13_; have NB303_285 := n14_; have NB296_303 := n15_; have NB303_296 := n16_; clear n0_ n1_ n2_ n3_ n4_ n5_ n6_ n7_ n8_ n9_ n10_ n11_ n12_ n13_ n14_ n15_ n16_; clear hb hbox hg; have hnb39 := NB303_284.out; have hnc39 := NB284_303.out; have hnb40 := NB303_285.out; have hnc40 := NB285_303.out; have hnb41 := NB303_296.out; have hnc41 := NB296_303.out; have hcz42_0 := bc_ BK303.out 0 (.int .i64 0); have hcz42_1 := bc_ BK303.out 1 (.int .i64 0); have hcz42_2 := bc_ BK303.out 2 (.slice none 0 0); have hfz42_0 := blk_frozen BK303.out 0; have hfz42_1 := blk_frozen BK303.out 1; have hfz42_2 := blk_frozen BK303.out 2; obtain ⟨Ao43, co43, eo43⟩ := Kd.R_slice HO301.out; subst eo43))
          (try simp only [Act.put, List.setIfInBounds_toArray, List.set_cons_zero, List.set_cons_succ])
          go_cut [91] (fun v91 wc => ∃ (kq : Nat) (x91_25 : Bool), v91 = .bool x91_25 ∧ Aside0 (laws_FnVoted.j1 kq l1 x91_25 t279 t280 t281 t290 t291 t292 t297 t298 t299 = some r) ∧ Aside0 (kq ≤ k1) ∧ Aside0 (Kd.R (Kd.int .i64) 2 wc w.heap.size (fun k_ => some k_ ≠ ((.slice Ao36 x286002_1.length co36) : Value).ownBlock ∧ some k_ ≠ ((.slice Ao34 t292.length co34) : Value).ownBlock ∧ some k_ ≠ ((.slice Ao43 t299.length co43) : Value).ownBlock) (.slice Ao11 t281.length co11) t281) ∧ Aside0 (Kd.R (Kd.int .i64) 2 wc w.heap.size (fun k_ => some k_ ≠ ((.slice Ao11 t281.length co11) : Value).ownBlock ∧ some k_ ≠ ((.slice Ao34 t292.length co34) : Value).ownBlock ∧ some k_ ≠ ((.slice Ao43 t299.length co43) : Value).ownBlock) (.slice Ao36 x286002_1.length co36) x286002_1) ∧ Aside0 (Kd.R (Kd.int .i64) 2 wc w.heap.size (fun k_ => some k_ ≠ ((.slice Ao11 t281.length co11) : Value).ownBlock ∧ some k_ ≠ ((.slice Ao36 x286002_1.length co36) : Value).ownBlock ∧ some k_ ≠ ((.slice Ao43 t299.length co43) : Value).ownBlock) (.slice Ao34 t292.length co34) t292) ∧ Aside0 (Kd.R (Kd.int .i64) 2 wc w.heap.size (fun k_ => some k_ ≠ ((.slice Ao11 t281.length co11) : Value).ownBlock ∧ some k_ ≠ ((.slice Ao36 x286002_1.length co36) : Value).ownBlock ∧ some k_ ≠ ((.slice Ao34 t292.length co34) : Value).ownBlock) (.slice Ao43 t299.length co43) t299) ∧ Aside0 (wc.heap[gb284]? = some (.cells #[.int .i64 t279, .int .i64 t280, (.slice Ao11 t281.length co11)] 28 (0, 0))) ∧ Aside0 (wc.heap[gb285]? = some (.cells #[.int .i64 (wrap64 (1 + t277)), .int .i64 (wrap64 (1 + t278)), (.slice Ao36 x286002_1.length co36)] 28 (0, 0))) ∧ Aside0 (wc.heap[gb296]? = some (.cells #[.int .i64 t290, .int .i64 t291, (.slice Ao34 t292.length co34)] 28 (0, 0))) ∧ Aside0 (wc.heap[gb303]? = some (.cells #[.int .i64 t297, .int .i64 t298, (.slice Ao43 t299.length co43)] 28 (0, 0))) ∧ Aside0 (Below w.heap.size w wc))
          case first =>
            have H := HC26.out
            clear HC26
            by_cases c44 : t295 = true
            · subst c44
              have H1 : (if t302 = true then (if (t292.length : Int) = (t281.length : Int) then (laws_FnVoted.j1 k1 l1 ((t299.length : Int) != (t281.length : Int)) t279 t280 t281 t290 t291 t292 t297 t298 t299) else (laws_FnVoted.j1 k1 l1 true t279 t280 t281 t290 t291 t292 t297 t298 t299)) else (laws_FnVoted.j1 k1 l1 true t279 t280 t281 t290 t291 t292 t297 t298 t299)) = some r := by rw [if_pos rfl] at H; exact H
              clear H
              have H := H1
              clear H1
              by_cases c45 : t302 = true
              · subst c45
                have H1 : (if (t292.length : Int) = (t281.length : Int) then (laws_FnVoted.j1 k1 l1 ((t299.length : Int) != (t281.length : Int)) t279 t280 t281 t290 t291 t292 t297 t298 t299) else (laws_FnVoted.j1 k1 l1 true t279 t280 t281 t290 t291 t292 t297 t298 t299)) = some r := by rw [if_pos rfl] at H; exact H
                clear H
                have H := H1
                clear H1
                by_cases c46 : (t292.length : Int) = (t281.length : Int)
                · rw [if_pos c46] at H
                  have c46b0 : ((t292.length : Int) == (t281.length : Int)) = true := beq_iff_eq.mpr c46
                  have c46b1 : ((t292.length : Int) != (t281.length : Int)) = false := bne_eq_false_iff_eq.mpr c46
                  have c46b2 : (t292.length == t281.length) = true := by first | simpa using c46 | (simp at c46 ⊢; omega)
                  clear c46
                  (first | rw [c46b0] | (simp only [i64_w, i32_w]; rw [c46b0]) | skip)
                  have H' := Aside0.mk H
                  clear H
                  have hnb47 := NB296_284.out
                  have hnc47 := NB284_296.out
                  have hnb48 := NB296_285.out
                  have hnc48 := NB285_296.out
                  have hnb49 := NB296_303.out
                  have hnc49 := NB303_296.out
                  have hcz50_0 := bc_ BK296.out 0 (.int .i64 t290)
                  have hcz50_1 := bc_ BK296.out 1 (.int .i64 t291)
                  have hcz50_2 := bc_ BK296.out 2 (.slice Ao34 t292.length co34)
                  have hfz50_0 := blk_frozen BK296.out 0
                  have hfz50_1 := blk_frozen BK296.out 1
                  have hfz50_2 := blk_frozen BK296.out 2
                  have hnb51 := NB284_285.out
                  have hnc51 := NB285_284.out
                  have hnb52 := NB284_303.out
                  have hnc52 := NB303_284.out
                  have hcz53_0 := bc_ BK284.out 0 (.int .i64 t279)
                  have hcz53_1 := bc_ BK284.out 1 (.int .i64 t280)
                  have hcz53_2 := bc_ BK284.out 2 (.slice Ao11 t281.length co11)
                  have hfz53_0 := blk_frozen BK284.out 0
                  have hfz53_1 := blk_frozen BK284.out 1
                  have hfz53_2 := blk_frozen BK284.out 2
                  have hnb54 := NB303_285.out
                  have hnc54 := NB285_303.out
                  have hcz55_0 := bc_ BK303.out 0 (.int .i64 0)
                  have hcz55_1 := bc_ BK303.out 1 (.int .i64 0)
                  have hcz55_2 := bc_ BK303.out 2 (.slice none 0 0)
                  have hfz55_0 := blk_frozen BK303.out 0
                  have hfz55_1 := blk_frozen BK303.out 1
                  have hfz55_2 := blk_frozen BK303.out 2
                  go_wp2
                  go_meet
                  case rel => exact ⟨_, (((t299.length : Int) != (t281.length : Int))), (by first | rfl | (simp; done) | (simp [i64_w, i32_w]; done) | (simp [*]; done) | (simp [*, i64_w, i32_w]; done)), H', ⟨by have := HK1.out; first | omega | exact Nat.le_refl _⟩, ⟨by (with_reducible repeat (first | apply Kd.R_alloc | apply Kd.R_drewN | apply Kd.R_drew)); exact Kd.R_mono (Kd.R_far (p := ⟨gb303, 2, none⟩) (Kd.R_far (p := ⟨gb303, 1, none⟩) (Kd.R_far (p := ⟨gb303, 0, none⟩) (Kd.R_types HO_285002.out BK303.out (by decide)) (fun _ hk => hk.2) (.int .i64 t297)) (fun _ hk => hk.2) (.int .i64 t298)) (fun _ hk => hk.2) (.slice Ao43 t299.length co43)) (fun _ hk => ⟨hk.1.1.1, ⟨hk.1.1.2, hk.1.2⟩⟩)⟩, ⟨by (with_reducible repeat (first | apply Kd.R_alloc | apply Kd.R_drewN | apply Kd.R_drew)); exact Kd.R_mono (Kd.R_far (p := ⟨gb303, 2, none⟩) (Kd.R_far (p := ⟨gb303, 1, none⟩) (Kd.R_far (p := ⟨gb303, 0, none⟩) (Kd.R_types HO_286002.out BK303.out (by decide)) (fun _ hk => hk.2) (.int .i64 t297)) (fun _ hk => hk.2) (.int .i64 t298)) (fun _ hk => hk.2) (.slice Ao43 t299.length co43)) (fun _ hk => ⟨hk.1.1.1, ⟨hk.1.1.2, hk.1.2⟩⟩)⟩, ⟨by (with_reducible repeat (first | apply Kd.R_alloc | apply Kd.R_drewN | apply Kd.R_drew)); exact Kd.R_mono (Kd.R_far (p := ⟨gb303, 2, none⟩) (Kd.R_far (p := ⟨gb303, 1, none⟩) (Kd.R_far (p := ⟨gb303, 0, none⟩) (Kd.R_types HO294.out BK303.out (by decide)) (fun _ hk => hk.2) (.int .i64 t297)) (fun _ hk => hk.2) (.int .i64 t298)) (fun _ hk => hk.2) (.slice Ao43 t299.length co43)) (fun _ hk => ⟨hk.1.1.1.2, ⟨hk.1.1.2, hk.1.2⟩⟩)⟩, ⟨by (with_reducible repeat (first | apply Kd.R_alloc | apply Kd.R_drewN | apply Kd.R_drew)); exact Kd.R_mono (Kd.R_far (p := ⟨gb303, 2, none⟩) (Kd.R_far (p := ⟨gb303, 1, none⟩) (Kd.R_far (p := ⟨gb303, 0, none⟩) (Kd.R_types HO301.out BK303.out (by decide)) (fun _ hk => hk.2) (.int .i64 t297)) (fun _ hk => hk.2) (.int .i64 t298)) (fun _ hk => hk.2) (.slice Ao43 t299.length co43)) (fun _ hk => ⟨hk.1.1.1.2, ⟨hk.1.1.2, hk.1.2⟩⟩)⟩, ⟨by (with_reducible repeat (first | refine blk_drewN ?_ _ | refine blk_drew ?_ | refine blk_alloc ?_ _)); refine blk_far ?_ NB284_303.out _; (with_reducible repeat (first | refine blk_drewN ?_ _ | refine blk_drew ?_ | refine blk_alloc ?_ _)); refine blk_far ?_ NB284_303.out _; (with_reducible repeat (first | refine blk_drewN ?_ _ | refine blk_drew ?_ | refine blk_alloc ?_ _)); refine blk_far ?_ NB284_303.out _; (with_reducible repeat (first | refine blk_drewN ?_ _ | refine blk_drew ?_ | refine blk_alloc ?_ _)); exact BK284.out⟩, ⟨by (with_reducible repeat (first | refine blk_drewN ?_ _ | refine blk_drew ?_ | refine blk_alloc ?_ _)); refine blk_far ?_ NB285_303.out _; (with_reducible repeat (first | refine blk_drewN ?_ _ | refine blk_drew ?_ | refine blk_alloc ?_ _)); refine blk_far ?_ NB285_303.out _; (with_reducible repeat (first | refine blk_drewN ?_ _ | refine blk_drew ?_ | refine blk_alloc ?_ _)); refine blk_far ?_ NB285_303.out _; (with_reducible repeat (first | refine blk_drewN ?_ _ | refine blk_drew ?_ | refine blk_alloc ?_ _)); exact BK285.out⟩, ⟨by (with_reducible repeat (first | refine blk_drewN ?_ _ | refine blk_drew ?_ | refine blk_alloc ?_ _)); refine blk_far ?_ NB296_303.out _; (with_reducible repeat (first | refine blk_drewN ?_ _ | refine blk_drew ?_ | refine blk_alloc ?_ _)); refine blk_far ?_ NB296_303.out _; (with_reducible repeat (first | refine blk_drewN ?_ _ | refine blk_drew ?_ | refine blk_alloc ?_ _)); refine blk_far ?_ NB296_303.out _; (with_reducible repeat (first | refine blk_drewN ?_ _ | refine blk_drew ?_ | refine blk_alloc ?_ _)); exact BK296.out⟩, ⟨by (with_reducible repeat (first | refine blk_drewN ?_ _ | refine blk_drew ?_ | refine blk_alloc ?_ _)); refine blk_put (cs := #[.int .i64 t297, .int .i64 t298, .slice none 0 0]) ?_ 2 _ rfl; (with_reducible repeat (first | refine blk_drewN ?_ _ | refine blk_drew ?_ | refine blk_alloc ?_ _)); refine blk_put (cs := #[.int .i64 t297, .int .i64 0, .slice none 0 0]) ?_ 1 _ rfl; (with_reducible repeat (first | refine blk_drewN ?_ _ | refine blk_drew ?_ | refine blk_alloc ?_ _)); refine blk_put (cs := #[.int .i64 0, .int .i64 0, .slice none 0 0]) ?_ 0 _ rfl; (with_reducible repeat (first | refine blk_drewN ?_ _ | refine blk_drew ?_ | refine blk_alloc ?_ _)); exact BK303.out⟩, ⟨bk_ HB.out⟩⟩
                · rw [if_neg c46] at H
                  have c46b0 : ((t292.length : Int) == (t281.length : Int)) = false := beq_eq_false_iff_ne.mpr c46
                  have c46b1 : ((t292.length : Int) != (t281.length : Int)) = true := bne_iff_ne.mpr c46
                  have c46b2 : (t292.length == t281.length) = false := by first | simpa using c46 | (simp at c46 ⊢; omega)
                  (first | rw [c46b0] | (simp only [i64_w, i32_w]; rw [c46b0]) | skip)
                  have H' := Aside0.mk H
                  clear H
                  have hnb56 := NB296_284.out
                  have hnc56 := NB284_296.out
                  have hnb57 := NB296_285.out
                  have hnc57 := NB285_296.out
                  have hnb58 := NB296_303.out
                  have hnc58 := NB303_296.out
                  have hcz59_0 := bc_ BK296.out 0 (.int .i64 t290)
                  have hcz59_1 := bc_ BK296.out 1 (.int .i64 t291)
                  have hcz59_2 := bc_ BK296.out 2 (.slice Ao34 t292.length co34)
                  have hfz59_0 := blk_frozen BK296.out 0
                  have hfz59_1 := blk_frozen BK296.out 1
                  have hfz59_2 := blk_frozen BK296.out 2
                  have hnb60 := NB284_285.out
                  have hnc60 := NB285_284.out
                  have hnb61 := NB284_303.out
                  have hnc61 := NB303_284.out
                  have hcz62_0 := bc_ BK284.out 0 (.int .i64 t279)
                  have hcz62_1 := bc_ BK284.out 1 (.int .i64 t280)
                  have hcz62_2 := bc_ BK284.out 2 (.slice Ao11 t281.length co11)
                  have hfz62_0 := blk_frozen BK284.out 0
                  have hfz62_1 := blk_frozen BK284.out 1
                  have hfz62_2 := blk_frozen BK284.out 2
                  go_wp2
                  go_meet
                  case rel => exact ⟨_, (true), (by first | rfl | (simp; done) | (simp [i64_w, i32_w]; done) | (simp [*]; done) | (simp [*, i64_w, i32_w]; done)), H', ⟨by have := HK1.out; first | omega | exact Nat.le_refl _⟩, ⟨by (with_reducible repeat (first | apply Kd.R_alloc | apply Kd.R_drewN | apply Kd.R_drew)); exact Kd.R_mono (Kd.R_far (p := ⟨gb303, 2, none⟩) (Kd.R_far (p := ⟨gb303, 1, none⟩) (Kd.R_far (p := ⟨gb303, 0, none⟩) (Kd.R_types HO_285002.out BK303.out (by decide)) (fun _ hk => hk.2) (.int .i64 t297)) (fun _ hk => hk.2) (.int .i64 t298)) (fun _ hk => hk.2) (.slice Ao43 t299.length co43)) (fun _ hk => ⟨hk.1.1.1, ⟨hk.1.1.2, hk.1.2⟩⟩)⟩, ⟨by (with_reducible repeat (first | apply Kd.R_alloc | apply Kd.R_drewN | apply Kd.R_drew)); exact Kd.R_mono (Kd.R_far (p := ⟨gb303, 2, none⟩) (Kd.R_far (p := ⟨gb303, 1, none⟩) (Kd.R_far (p := ⟨gb303, 0, none⟩) (Kd.R_types HO_286002.out BK303.out (by decide)) (fun _ hk => hk.2) (.int .i64 t297)) (fun _ hk => hk.2) (.int .i64 t298)) (fun _ hk => hk.2) (.slice Ao43 t299.length co43)) (fun _ hk => ⟨hk.1.1.1, ⟨hk.1.1.2, hk.1.2⟩⟩)⟩, ⟨by (with_reducible repeat (first | apply Kd.R_alloc | apply Kd.R_drewN | apply Kd.R_drew)); exact Kd.R_mono (Kd.R_far (p := ⟨gb303, 2, none⟩) (Kd.R_far (p := ⟨gb303, 1, none⟩) (Kd.R_far (p := ⟨gb303, 0, none⟩) (Kd.R_types HO294.out BK303.out (by decide)) (fun _ hk => hk.2) (.int .i64 t297)) (fun _ hk => hk.2) (.int .i64 t298)) (fun _ hk => hk.2) (.slice Ao43 t299.length co43)) (fun _ hk => ⟨hk.1.1.1.2, ⟨hk.1.1.2, hk.1.2⟩⟩)⟩, ⟨by (with_reducible repeat (first | apply Kd.R_alloc | apply Kd.R_drewN | apply Kd.R_drew)); exact Kd.R_mono (Kd.R_far (p := ⟨gb303, 2, none⟩) (Kd.R_far (p := ⟨gb303, 1, none⟩) (Kd.R_far (p := ⟨gb303, 0, none⟩) (Kd.R_types HO301.out BK303.out (by decide)) (fun _ hk => hk.2) (.int .i64 t297)) (fun _ hk => hk.2) (.int .i64 t298)) (fun _ hk => hk.2) (.slice Ao43 t299.length co43)) (fun _ hk => ⟨hk.1.1.1.2, ⟨hk.1.1.2, hk.1.2⟩⟩)⟩, ⟨by (with_reducible repeat (first | refine blk_drewN ?_ _ | refine blk_drew ?_ | refine blk_alloc ?_ _)); refine blk_far ?_ NB284_303.out _; (with_reducible repeat (first | refine blk_drewN ?_ _ | refine blk_drew ?_ | refine blk_alloc ?_ _)); refine blk_far ?_ NB284_303.out _; (with_reducible repeat (first | refine blk_drewN ?_ _ | refine blk_drew ?_ | refine blk_alloc ?_ _)); refine blk_far ?_ NB284_303.out _; (with_reducible repeat (first | refine blk_drewN ?_ _ | refine blk_drew ?_ | refine blk_alloc ?_ _)); exact BK284.out⟩, ⟨by (with_reducible repeat (first | refine blk_drewN ?_ _ | refine blk_drew ?_ | refine blk_alloc ?_ _)); refine blk_far ?_ NB285_303.out _; (with_reducible repeat (first | refine blk_drewN ?_ _ | refine blk_drew ?_ | refine blk_alloc ?_ _)); refine blk_far ?_ NB285_303.out _; (with_reducible repeat (first | refine blk_drewN ?_ _ | refine blk_drew ?_ | refine blk_alloc ?_ _)); refine blk_far ?_ NB285_303.out _; (with_reducible repeat (first | refine blk_drewN ?_ _ | refine blk_drew ?_ | refine blk_alloc ?_ _)); exact BK285.out⟩, ⟨by (with_reducible repeat (first | refine blk_drewN ?_ _ | refine blk_drew ?_ | refine blk_alloc ?_ _)); refine blk_far ?_ NB296_303.out _; (with_reducible repeat (first | refine blk_drewN ?_ _ | refine blk_drew ?_ | refine blk_alloc ?_ _)); refine blk_far ?_ NB296_303.out _; (with_reducible repeat (first | refine blk_drewN ?_ _ | refine blk_drew ?_ | refine blk_alloc ?_ _)); refine blk_far ?_ NB296_303.out _; (with_reducible repeat (first | refine blk_drewN ?_ _ | refine blk_drew ?_ | refine blk_alloc ?_ _)); exact BK296.out⟩, ⟨by (with_reducible repeat (first | refine blk_drewN ?_ _ | refine blk_drew ?_ | refine blk_alloc ?_ _)); refine blk_put (cs := #[.int .i64 t297, .int .i64 t298, .slice none 0 0]) ?_ 2 _ rfl; (with_reducible repeat (first | refine blk_drewN ?_ _ | refine blk_drew ?_ | refine blk_alloc ?_ _)); refine blk_put (cs := #[.int .i64 t297, .int .i64 0, .slice none 0 0]) ?_ 1 _ rfl; (with_reducible repeat (first | refine blk_drewN ?_ _ | refine blk_drew ?_ | refine blk_alloc ?_ _)); refine blk_put (cs := #[.int .i64 0, .int .i64 0, .slice none 0 0]) ?_ 0 _ rfl; (with_reducible repeat (first | refine blk_drewN ?_ _ | refine blk_drew ?_ | refine blk_alloc ?_ _)); exact BK303.out⟩, ⟨bk_ HB.out⟩⟩
              · replace c45 := Bool.eq_false_iff.mpr c45
                subst c45
                have H1 : (laws_FnVoted.j1 k1 l1 true t279 t280 t281 t290 t291 t292 t297 t298 t299) = some r := by rw [if_neg (show ¬ (false = true) by decide)] at H; exact H
                clear H
                have H := H1
                clear H1
                have H' := Aside0.mk H
                clear H
                go_wp2
                go_meet
                case rel => exact ⟨_, (true), (by first | rfl | (simp; done) | (simp [i64_w, i32_w]; done) | (simp [*]; done) | (simp [*, i64_w, i32_w]; done)), H', ⟨by have := HK1.out; first | omega | exact Nat.le_refl _⟩, ⟨by (with_reducible repeat (first | apply Kd.R_alloc | apply Kd.R_drewN | apply Kd.R_drew)); exact Kd.R_mono (Kd.R_far (p := ⟨gb303, 2, none⟩) (Kd.R_far (p := ⟨gb303, 1, none⟩) (Kd.R_far (p := ⟨gb303, 0, none⟩) (Kd.R_types HO_285002.out BK303.out (by decide)) (fun _ hk => hk.2) (.int .i64 t297)) (fun _ hk => hk.2) (.int .i64 t298)) (fun _ hk => hk.2) (.slice Ao43 t299.length co43)) (fun _ hk => ⟨hk.1.1.1, ⟨hk.1.1.2, hk.1.2⟩⟩)⟩, ⟨by (with_reducible repeat (first | apply Kd.R_alloc | apply Kd.R_drewN | apply Kd.R_drew)); exact Kd.R_mono (Kd.R_far (p := ⟨gb303, 2, none⟩) (Kd.R_far (p := ⟨gb303, 1, none⟩) (Kd.R_far (p := ⟨gb303, 0, none⟩) (Kd.R_types HO_286002.out BK303.out (by decide)) (fun _ hk => hk.2) (.int .i64 t297)) (fun _ hk => hk.2) (.int .i64 t298)) (fun _ hk => hk.2) (.slice Ao43 t299.length co43)) (fun _ hk => ⟨hk.1.1.1, ⟨hk.1.1.2, hk.1.2⟩⟩)⟩, ⟨by (with_reducible repeat (first | apply Kd.R_alloc | apply Kd.R_drewN | apply Kd.R_drew)); exact Kd.R_mono (Kd.R_far (p := ⟨gb303, 2, none⟩) (Kd.R_far (p := ⟨gb303, 1, none⟩) (Kd.R_far (p := ⟨gb303, 0, none⟩) (Kd.R_types HO294.out BK303.out (by decide)) (fun _ hk => hk.2) (.int .i64 t297)) (fun _ hk => hk.2) (.int .i64 t298)) (fun _ hk => hk.2) (.slice Ao43 t299.length co43)) (fun _ hk => ⟨hk.1.1.1.2, ⟨hk.1.1.2, hk.1.2⟩⟩)⟩, ⟨by (with_reducible repeat (first | apply Kd.R_alloc | apply Kd.R_drewN | apply Kd.R_drew)); exact Kd.R_mono (Kd.R_far (p := ⟨gb303, 2, none⟩) (Kd.R_far (p := ⟨gb303, 1, none⟩) (Kd.R_far (p := ⟨gb303, 0, none⟩) (Kd.R_types HO301.out BK303.out (by decide)) (fun _ hk => hk.2) (.int .i64 t297)) (fun _ hk => hk.2) (.int .i64 t298)) (fun _ hk => hk.2) (.slice Ao43 t299.length co43)) (fun _ hk => ⟨hk.1.1.1.2, ⟨hk.1.1.2, hk.1.2⟩⟩)⟩, ⟨by (with_reducible repeat (first | refine blk_drewN ?_ _ | refine blk_drew ?_ | refine blk_alloc ?_ _)); refine blk_far ?_ NB284_303.out _; (with_reducible repeat (first | refine blk_drewN ?_ _ | refine blk_drew ?_ | refine blk_alloc ?_ _)); refine blk_far ?_ NB284_303.out _; (with_reducible repeat (first | refine blk_drewN ?_ _ | refine blk_drew ?_ | refine blk_alloc ?_ _)); refine blk_far ?_ NB284_303.out _; (with_reducible repeat (first | refine blk_drewN ?_ _ | refine blk_drew ?_ | refine blk_alloc ?_ _)); exact BK284.out⟩, ⟨by (with_reducible repeat (first | refine blk_drewN ?_ _ | refine blk_drew ?_ | refine blk_alloc ?_ _)); refine blk_far ?_ NB285_303.out _; (with_reducible repeat (first | refine blk_drewN ?_ _ | refine blk_drew ?_ | refine blk_alloc ?_ _)); refine blk_far ?_ NB285_303.out _; (with_reducible repeat (first | refine blk_drewN ?_ _ | refine blk_drew ?_ | refine blk_alloc ?_ _)); refine blk_far ?_ NB285_303.out _; (with_reducible repeat (first | refine blk_drewN ?_ _ | refine blk_drew ?_ | refine blk_alloc ?_ _)); exact BK285.out⟩, ⟨by (with_reducible repeat (first | refine blk_drewN ?_ _ | refine blk_drew ?_ | refine blk_alloc ?_ _)); refine blk_far ?_ NB296_303.out _; (with_reducible repeat (first | refine blk_drewN ?_ _ | refine blk_drew ?_ | refine blk_alloc ?_ _)); refine blk_far ?_ NB296_303.out _; (with_reducible repeat (first | refine blk_drewN ?_ _ | refine blk_drew ?_ | refine blk_alloc ?_ _)); refine blk_far ?_ NB296_303.out _; (with_reducible repeat (first | refine blk_drewN ?_ _ | refine blk_drew ?_ | refine blk_alloc ?_ _)); exact BK296.out⟩, ⟨by (with_reducible repeat (first | refine blk_drewN ?_ _ | refine blk_drew ?_ | refine blk_alloc ?_ _)); refine blk_put (cs := #[.int .i64 t297, .int .i64 t298, .slice none 0 0]) ?_ 2 _ rfl; (with_reducible repeat (first | refine blk_drewN ?_ _ | refine blk_drew ?_ | refine blk_alloc ?_ _)); refine blk_put (cs := #[.int .i64 t297, .int .i64 0, .slice none 0 0]) ?_ 1 _ rfl; (with_reducible repeat (first | refine blk_drewN ?_ _ | refine blk_drew ?_ | refine blk_alloc ?_ _)); refine blk_put (cs := #[.int .i64 0, .int .i64 0, .slice none 0 0]) ?_ 0 _ rfl; (with_reducible repeat (first | refine blk_drewN ?_ _ | refine blk_drew ?_ | refine blk_alloc ?_ _)); exact BK303.out⟩, ⟨bk_ HB.out⟩⟩
            · replace c44 := Bool.eq_false_iff.mpr c44
              subst c44
              have H1 : (laws_FnVoted.j1 k1 l1 true t279 t280 t281 t290 t291 t292 t297 t298 t299) = some r := by rw [if_neg (show ¬ (false = true) by decide)] at H; exact H
              clear H
              have H := H1
              clear H1
              have H' := Aside0.mk H
              clear H
              go_wp2
              go_meet
              case rel => exact ⟨_, (true), (by first | rfl | (simp; done) | (simp [i64_w, i32_w]; done) | (simp [*]; done) | (simp [*, i64_w, i32_w]; done)), H', ⟨by have := HK1.out; first | omega | exact Nat.le_refl _⟩, ⟨by (with_reducible repeat (first | apply Kd.R_alloc | apply Kd.R_drewN | apply Kd.R_drew)); exact Kd.R_mono (Kd.R_far (p := ⟨gb303, 2, none⟩) (Kd.R_far (p := ⟨gb303, 1, none⟩) (Kd.R_far (p := ⟨gb303, 0, none⟩) (Kd.R_types HO_285002.out BK303.out (by decide)) (fun _ hk => hk.2) (.int .i64 t297)) (fun _ hk => hk.2) (.int .i64 t298)) (fun _ hk => hk.2) (.slice Ao43 t299.length co43)) (fun _ hk => ⟨hk.1.1.1, ⟨hk.1.1.2, hk.1.2⟩⟩)⟩, ⟨by (with_reducible repeat (first | apply Kd.R_alloc | apply Kd.R_drewN | apply Kd.R_drew)); exact Kd.R_mono (Kd.R_far (p := ⟨gb303, 2, none⟩) (Kd.R_far (p := ⟨gb303, 1, none⟩) (Kd.R_far (p := ⟨gb303, 0, none⟩) (Kd.R_types HO_286002.out BK303.out (by decide)) (fun _ hk => hk.2) (.int .i64 t297)) (fun _ hk => hk.2) (.int .i64 t298)) (fun _ hk => hk.2) (.slice Ao43 t299.length co43)) (fun _ hk => ⟨hk.1.1.1, ⟨hk.1.1.2, hk.1.2⟩⟩)⟩, ⟨by (with_reducible repeat (first | apply Kd.R_alloc | apply Kd.R_drewN | apply Kd.R_drew)); exact Kd.R_mono (Kd.R_far (p := ⟨gb303, 2, none⟩) (Kd.R_far (p := ⟨gb303, 1, none⟩) (Kd.R_far (p := ⟨gb303, 0, none⟩) (Kd.R_types HO294.out BK303.out (by decide)) (fun _ hk => hk.2) (.int .i64 t297)) (fun _ hk => hk.2) (.int .i64 t298)) (fun _ hk => hk.2) (.slice Ao43 t299.length co43)) (fun _ hk => ⟨hk.1.1.1.2, ⟨hk.1.1.2, hk.1.2⟩⟩)⟩, ⟨by (with_reducible repeat (first | apply Kd.R_alloc | apply Kd.R_drewN | apply Kd.R_drew)); exact Kd.R_mono (Kd.R_far (p := ⟨gb303, 2, none⟩) (Kd.R_far (p := ⟨gb303, 1, none⟩) (Kd.R_far (p := ⟨gb303, 0, none⟩) (Kd.R_types HO301.out BK303.out (by decide)) (fun _ hk => hk.2) (.int .i64 t297)) (fun _ hk => hk.2) (.int .i64 t298)) (fun _ hk => hk.2) (.slice Ao43 t299.length co43)) (fun _ hk => ⟨hk.1.1.1.2, ⟨hk.1.1.2, hk.1.2⟩⟩)⟩, ⟨by (with_reducible repeat (first | refine blk_drewN ?_ _ | refine blk_drew ?_ | refine blk_alloc ?_ _)); refine blk_far ?_ NB284_303.out _; (with_reducible repeat (first | refine blk_drewN ?_ _ | refine blk_drew ?_ | refine blk_alloc ?_ _)); refine blk_far ?_ NB284_303.out _; (with_reducible repeat (first | refine blk_drewN ?_ _ | refine blk_drew ?_ | refine blk_alloc ?_ _)); refine blk_far ?_ NB284_303.out _; (with_reducible repeat (first | refine blk_drewN ?_ _ | refine blk_drew ?_ | refine blk_alloc ?_ _)); exact BK284.out⟩, ⟨by (with_reducible repeat (first | refine blk_drewN ?_ _ | refine blk_drew ?_ | refine blk_alloc ?_ _)); refine blk_far ?_ NB285_303.out _; (with_reducible repeat (first | refine blk_drewN ?_ _ | refine blk_drew ?_ | refine blk_alloc ?_ _)); refine blk_far ?_ NB285_303.out _; (with_reducible repeat (first | refine blk_drewN ?_ _ | refine blk_drew ?_ | refine blk_alloc ?_ _)); refine blk_far ?_ NB285_303.out _; (with_reducible repeat (first | refine blk_drewN ?_ _ | refine blk_drew ?_ | refine blk_alloc ?_ _)); exact BK285.out⟩, ⟨by (with_reducible repeat (first | refine blk_drewN ?_ _ | refine blk_drew ?_ | refine blk_alloc ?_ _)); refine blk_far ?_ NB296_303.out _; (with_reducible repeat (first | refine blk_drewN ?_ _ | refine blk_drew ?_ | refine blk_alloc ?_ _)); refine blk_far ?_ NB296_303.out _; (with_reducible repeat (first | refine blk_drewN ?_ _ | refine blk_drew ?_ | refine blk_alloc ?_ _)); refine blk_far ?_ NB296_303.out _; (with_reducible repeat (first | refine blk_drewN ?_ _ | refine blk_drew ?_ | refine blk_alloc ?_ _)); exact BK296.out⟩, ⟨by (with_reducible repeat (first | refine blk_drewN ?_ _ | refine blk_drew ?_ | refine blk_alloc ?_ _)); refine blk_put (cs := #[.int .i64 t297, .int .i64 t298, .slice none 0 0]) ?_ 2 _ rfl; (with_reducible repeat (first | refine blk_drewN ?_ _ | refine blk_drew ?_ | refine blk_alloc ?_ _)); refine blk_put (cs := #[.int .i64 t297, .int .i64 0, .slice none 0 0]) ?_ 1 _ rfl; (with_reducible repeat (first | refine blk_drewN ?_ _ | refine blk_drew ?_ | refine blk_alloc ?_ _)); refine blk_put (cs := #[.int .i64 0, .int .i64 0, .slice none 0 0]) ?_ 0 _ rfl; (with_reducible repeat (first | refine blk_drewN ?_ _ | refine blk_drew ?_ | refine blk_alloc ?_ _)); exact BK303.out⟩, ⟨bk_ HB.out⟩⟩
          case rest =>
            clear HC26
            try clear c1
            try clear c2
            try clear p2
            try clear q2
            try clear hx2
            try clear c3
            try clear c4
            try clear c5
            try clear c6
            try clear p6
            try clear c13
            try clear c14
            try clear c16
            try clear c16b0
            try clear c17
            try clear c17b0
            try clear c18
            try clear c18b0
            try clear c19
            try clear c27
            try clear p28
            try clear q28
            try clear hx28
            try clear c31
            try clear c32
            try clear c39
            try clear c40
            try clear c41
            try clear c44
            try clear c45
            try clear c46
            try clear c46b0
            try clear c46b1
            try clear c46b2
            try clear c47
            try clear c48
            try clear c49
            try clear c51
            try clear c52
            try clear c54
            try clear c56
            try clear c57
            try clear c58
            try clear c60
            try clear c61
            try clear hcz10_0
            try clear hcz10_1
            try clear hcz10_2
            try clear hcz14_0
            try clear hcz14_1
            try clear hcz14_2
            try clear hcz15_0
            try clear hcz15_1
            try clear hcz15_2
            try clear hcz28_0
            try clear hcz28_1
            try clear hcz28_2
            try clear hcz33_0
            try clear hcz33_1
            try clear hcz33_2
            try clear hcz35_0
            try clear hcz35_1
            try clear hcz35_2
            try clear hcz42_0
            try clear hcz42_1
            try clear hcz42_2
            try clear hcz50_0
            try clear hcz50_1
            try clear hcz50_2
            try clear hcz53_0
            try clear hcz53_1
            try clear hcz53_2
            try clear hcz55_0
            try clear hcz55_1
            try clear hcz55_2
            try clear hcz59_0
            try clear hcz59_1
            try clear hcz59_2
            try clear hcz62_0
            try clear hcz62_1
            try clear hcz62_2
            try clear hfz10_0
            try clear hfz10_1
            try clear hfz10_2
            try clear hfz14_0
            try clear hfz14_1
            try clear hfz14_2
            try clear hfz15_0
            try clear hfz15_1
            try clear hfz15_2
            try clear hfz28_0
            try clear hfz28_1
            try clear hfz28_2
            try clear hfz33_0
            try clear hfz33_1
            try clear hfz33_2
            try clear hfz35_0
            try clear hfz35_1
            try clear hfz35_2
            try clear hfz42_0
            try clear hfz42_1
            try clear hfz42_2
            try clear hfz50_0
            try clear hfz50_1
            try clear hfz50_2
            try clear hfz53_0
            try clear hfz53_1
            try clear hfz53_2
            try clear hfz55_0
            try clear hfz55_1
            try clear hfz55_2
            try clear hfz59_0
            try clear hfz59_1
            try clear hfz59_2
            try clear hfz62_0
            try clear hfz62_1
            try clear hfz62_2
            try clear hx286_0
            try clear p2
            try clear p286
            try clear p6
            try clear q286
            obtain ⟨kq, x91_25, rfl, HA, HJ25, HO_285002, HO_286002, HO_297002, HO_304002, BK284, BK285, BK296, BK303, HB⟩ := hcut
            cases kq with
            | zero => exact absurd HA.out (by simp [laws_FnVoted.j1])
            | succ kj25 =>
              have H := HA.out
              clear HA
              simp only [laws_FnVoted.j1] at H
              by_cases c63 : x91_25 = true
              · subst c63
                have H1 : (some false) = some r := by rw [if_pos rfl] at H; exact H
                clear H
                have H := H1
                clear H1
                exact absurd (Option.some.inj H) (by rw [hr_]; decide)
              · replace c63 := Bool.eq_false_iff.mpr c63
                subst c63
                have H1 : (laws_FnVoted.l1 kj25 l1 (t292.length : Int) 0 t279 t280 t281 t290 t291 t292 t297 t298 t299) = some r := by rw [if_neg (show ¬ (false = true) by decide)] at H; exact H
                clear H
                have H := H1
                clear H1
                have H' := Aside0.mk H
                clear H
                have hnb64 := NB296_284.out
                have hnc64 := NB284_296.out
                have hnb65 := NB296_285.out
                have hnc65 := NB285_296.out
                have hnb66 := NB296_303.out
                have hnc66 := NB303_296.out
                have hcz67_0 := bc_ BK296.out 0 (.int .i64 t290)
                have hcz67_1 := bc_ BK296.out 1 (.int .i64 t291)
                have hcz67_2 := bc_ BK296.out 2 (.slice Ao34 t292.length co34)
                have hfz67_0 := blk_frozen BK296.out 0
                have hfz67_1 := blk_frozen BK296.out 1
                have hfz67_2 := blk_frozen BK296.out 2
                go_wp2
                go_loopg [95] kj25 (fun kq v95 w' => ∃ (x95_3 : Int), v95 = .int .i64 x95_3 ∧ Aside0 (laws_FnVoted.l1 kq l1 (t292.length : Int) x95_3 t279 t280 t281 t290 t291 t292 t297 t298 t299 = some r) ∧ Aside0 (kq ≤ kj25) ∧ Aside0 (Kd.R (Kd.int .i64) 2 w' w.heap.size (fun k_ => some k_ ≠ ((.slice Ao36 x286002_1.length co36) : Value).ownBlock ∧ some k_ ≠ ((.slice Ao34 t292.length co34) : Value).ownBlock ∧ some k_ ≠ ((.slice Ao43 t299.length co43) : Value).ownBlock) (.slice Ao11 t281.length co11) t281) ∧ Aside0 (Kd.R (Kd.int .i64) 2 w' w.heap.size (fun k_ => some k_ ≠ ((.slice Ao11 t281.length co11) : Value).ownBlock ∧ some k_ ≠ ((.slice Ao34 t292.length co34) : Value).ownBlock ∧ some k_ ≠ ((.slice Ao43 t299.length co43) : Value).ownBlock) (.slice Ao36 x286002_1.length co36) x286002_1) ∧ Aside0 (Kd.R (Kd.int .i64) 2 w' w.heap.size (fun k_ => some k_ ≠ ((.slice Ao11 t281.length co11) : Value).ownBlock ∧ some k_ ≠ ((.slice Ao36 x286002_1.length co36) : Value).ownBlock ∧ some k_ ≠ ((.slice Ao43 t299.length co43) : Value).ownBlock) (.slice Ao34 t292.length co34) t292) ∧ Aside0 (Kd.R (Kd.int .i64) 2 w' w.heap.size (fun k_ => some k_ ≠ ((.slice Ao11 t281.length co11) : Value).ownBlock ∧ some k_ ≠ ((.slice Ao36 x286002_1.length co36) : Value).ownBlock ∧ some k_ ≠ ((.slice Ao34 t292.length co34) : Value).ownBlock) (.slice Ao43 t299.length co43) t299) ∧ Aside0 (w'.heap[gb284]? = some (.cells #[.int .i64 t279, .int .i64 t280, (.slice Ao11 t281.length co11)] 28 (0, 0))) ∧ Aside0 (w'.heap[gb285]? = some (.cells #[.int .i64 (wrap64 (1 + t277)), .int .i64 (wrap64 (1 + t278)), (.slice Ao36 x286002_1.length co36)] 28 (0, 0))) ∧ Aside0 (w'.heap[gb296]? = some (.cells #[.int .i64 t290, .int .i64 t291, (.slice Ao34 t292.length co34)] 28 (0, 0))) ∧ Aside0 (w'.heap[gb303]? = some (.cells #[.int .i64 t297, .int .i64 t298, (.slice Ao43 t299.length co43)] 28 (0, 0))) ∧ Aside0 (Below w.heap.size w w'))
                case atStart => exact ⟨(0), (by first | rfl | (simp; done) | (simp [i64_w, i32_w]; done) | (simp [*]; done) | (simp [*, i64_w, i32_w]; done)), H', ⟨Nat.le_refl _⟩, ⟨rk_ HO_285002.out⟩, ⟨rk_ HO_286002.out⟩, ⟨rk_ HO_297002.out⟩, ⟨rk_ HO_304002.out⟩, ⟨pk_ BK284.out⟩, ⟨pk_ BK285.out⟩, ⟨pk_ BK296.out⟩, ⟨pk_ BK303.out⟩, ⟨bk_ HB.out⟩⟩
                case round =>
                  clear H'
                  try clear c1
                  try clear c2
                  try clear p2
                  try clear q2
                  try clear hx2
                  try clear c3
                  try clear c4
                  try clear c5
                  try clear c6
                  try clear p6
                  try clear c13
                  try clear c14
                  try clear c16
                  try clear c16b0
                  try clear c17
                  try clear c17b0
                  try clear c18
                  try clear c18b0
                  try clear c19
                  try clear c27
                  try clear p28
                  try clear q28
                  try clear hx28
                  try clear c31
                  try clear c32
                  try clear c39
                  try clear c40
                  try clear c41
                  try clear c44
                  try clear c45
                  try clear c46
                  try clear c46b0
                  try clear c46b1
                  try clear c46b2
                  try clear c47
                  try clear c48
                  try clear c49
                  try clear c51
                  try clear c52
                  try clear c54
                  try clear c56
                  try clear c57
                  try clear c58
                  try clear c60
                  try clear c61
                  try clear c63
                  try clear c64
                  try clear p64
                  try clear c65
                  try clear c66
                  try clear hcz10_0
                  try clear hcz10_1
                  try clear hcz10_2
                  try clear hcz14_0
                  try clear hcz14_1
                  try clear hcz14_2
                  try clear hcz15_0
                  try clear hcz15_1
                  try clear hcz15_2
                  try clear hcz28_0
                  try clear hcz28_1
                  try clear hcz28_2
                  try clear hcz33_0
                  try clear hcz33_1
                  try clear hcz33_2
                  try clear hcz35_0
                  try clear hcz35_1
                  try clear hcz35_2
                  try clear hcz42_0
                  try clear hcz42_1
                  try clear hcz42_2
                  try clear hcz50_0
                  try clear hcz50_1
                  try clear hcz50_2
                  try clear hcz53_0
                  try clear hcz53_1
                  try clear hcz53_2
                  try clear hcz55_0
                  try clear hcz55_1
                  try clear hcz55_2
                  try clear hcz59_0
                  try clear hcz59_1
                  try clear hcz59_2
                  try clear hcz62_0
                  try clear hcz62_1
                  try clear hcz62_2
                  try clear hcz67_0
                  try clear hcz67_1
                  try clear hcz67_2
                  try clear hfz10_0
                  try clear hfz10_1
                  try clear hfz10_2
                  try clear hfz14_0
                  try clear hfz14_1
                  try clear hfz14_2
                  try clear hfz15_0
                  try clear hfz15_1
                  try clear hfz15_2
                  try clear hfz28_0
                  try clear hfz28_1
                  try clear hfz28_2
                  try clear hfz33_0
                  try clear hfz33_1
                  try clear hfz33_2
                  try clear hfz35_0
                  try clear hfz35_1
                  try clear hfz35_2
                  try clear hfz42_0
                  try clear hfz42_1
                  try clear hfz42_2
                  try clear hfz50_0
                  try clear hfz50_1
                  try clear hfz50_2
                  try clear hfz53_0
                  try clear hfz53_1
                  try clear hfz53_2
                  try clear hfz55_0
                  try clear hfz55_1
                  try clear hfz55_2
                  try clear hfz59_0
                  try clear hfz59_1
                  try clear hfz59_2
                  try clear hfz62_0
                  try clear hfz62_1
                  try clear hfz62_2
                  try clear hfz67_0
                  try clear hfz67_1
                  try clear hfz67_2
                  try clear hx286_0
                  try clear p2
                  try clear p28
                  try clear p286
                  try clear p6
                  try clear q2
                  try clear q28
                  try clear q286
                  obtain ⟨x95_3, rfl, HA, HK3, HO_285002, HO_286002, HO_297002, HO_304002, BK284, BK285, BK296, BK303, HB⟩ := hrel
                  cases gk with
                  | zero => exact absurd HA.out (by simp [laws_FnVoted.l1])
                  | succ k3 =>
                    have H := HA.out
                    clear HA
                    simp only [laws_FnVoted.l1] at H
                    by_cases c68 : x95_3 < (t292.length : Int)
                    · rw [if_pos c68] at H
                      have c68b0 : decide (x95_3 < (t292.length : Int)) = true := decide_eq_true c68
                      clear c68
                      by_cases c69 : 0 ≤ x95_3
                      · rw [if_pos c69] at H
                        have c69b0 : decide (0 ≤ x95_3) = true := decide_eq_true c69
                        clear c69
                        by_cases c70 : x95_3 < (t292.length : Int)
                        · rw [if_pos c70] at H
                          have c70b0 : decide (x95_3 < (t292.length : Int)) = true := decide_eq_true c70
                          clear c70
                          by_cases c71 : x95_3 < (t299.length : Int)
                          · rw [if_pos c71] at H
                            have c71b0 : decide (x95_3 < (t299.length : Int)) = true := decide_eq_true c71
                            clear c71
                            by_cases c72 : (wrap64 ((rd t292 x95_3) + (rd t299 x95_3))) = 1
                            · rw [if_pos c72] at H
                              have c72b0 : ((wrap64 ((rd t292 x95_3) + (rd t299 x95_3))) == 1) = true := beq_iff_eq.mpr c72
                              have c72b1 : ((wrap64 ((rd t292 x95_3) + (rd t299 x95_3))) != 1) = false := bne_eq_false_iff_eq.mpr c72
                              clear c72
                              have H' := Aside0.mk H
                              clear H
                              try go_wp2
                              have n0_ := Aside0.mk (Kd.R_drew HO_285002.out)
                              have n1_ := Aside0.mk (Kd.R_drew HO_286002.out)
                              have n2_ := Aside0.mk (Kd.R_drew HO_297002.out)
                              have n3_ := Aside0.mk (Kd.R_drew HO_304002.out)
                              have n4_ := Aside0.mk (blk_drew BK284.out)
                              have n5_ := Aside0.mk (blk_drew BK285.out)
                              have n6_ := Aside0.mk (blk_drew BK296.out)
                              have n7_ := Aside0.mk (blk_drew BK303.out)
                              have n8_ := Aside0.mk (below_drew1 HB.out)
                              clear HO_285002
                              clear HO_286002
                              clear HO_297002
                              clear HO_304002
                              clear BK284
                              clear BK285
                              clear BK296
                              clear BK303
                              clear HB
                              have HO_285002 := n0_
                              have HO_286002 := n1_
                              have HO_297002 := n2_
                              have HO_304002 := n3_
                              have BK284 := n4_
                              have BK285 := n5_
                              have BK296 := n6_
                              have BK303 := n7_
                              have HB := n8_
                              clear n0_ n1_ n2_ n3_ n4_ n5_ n6_ n7_ n8_
                              have p304 : 0 ≤ (x95_3 : Int) := of_decide_eq_true (by first | (with_reducible assumption) | assumption)
                              have q304 : x95_3 < (t292.length : Int) := of_decide_eq_true (by first | (with_reducible assumption) | assumption)
                              obtain ⟨ad304, e304, hx304_0⟩ := Kd.at_int (Kd.R_reads' HO_297002.out).2.2 x95_3 p304 q304
                              cases e304
                              replace p304 := eq_true p304
                              replace q304 := eq_true q304
                              have p305 : 0 ≤ (x95_3 : Int) := of_decide_eq_true (by first | (with_reducible assumption) | assumption)
                              have q305 : x95_3 < (t299.length : Int) := of_decide_eq_true (by first | (with_reducible assumption) | assumption)
                              obtain ⟨ad305, e305, hx305_0⟩ := Kd.at_int (Kd.R_reads' HO_304002.out).2.2 x95_3 p305 q305
                              cases e305
                              replace p305 := eq_true p305
                              replace q305 := eq_true q305
                              refine start_ (n := 12) (S := fun w' => w'.cell? ⟨gb296, 0, none⟩ = some (.int .i64 t290) ∧ w'.cell? ⟨gb296, 1, none⟩ = some (.int .i64 t291) ∧ w'.cell? ⟨gb296, 2, none⟩ = some (.slice (some ad304) t292.length co34) ∧ w'.cell? ⟨gb303, 0, none⟩ = some (.int .i64 t297) ∧ w'.cell? ⟨gb303, 1, none⟩ = some (.int .i64 t298) ∧ w'.cell? ⟨gb303, 2, none⟩ = some (.slice (some ad305) t299.length co43) ∧ w'.cell? (ad304.add (x95_3).toNat) = some (.int .i64 (rd t292 x95_3)) ∧ w'.cell? (ad305.add (x95_3).toNat) = some (.int .i64 (rd t299 x95_3))) (ds := []) (bm_ 12 0) (by kernel_rfl) rfl rfl ⟨(blk_cell BK296.out 0).trans rfl, (blk_cell BK296.out 1).trans rfl, (blk_cell BK296.out 2).trans rfl, (blk_cell BK303.out 0).trans rfl, (blk_cell BK303.out 1).trans rfl, (blk_cell BK303.out 2).trans rfl, hx304_0, hx305_0⟩ (fun hHeld => ?_); refine with_tabW laws_FnVoted.tab19 laws_FnVoted.bits19 (fun HT_ HW_ => ?_)
                              generalize wr.drew = w73 at HO_285002 HO_286002 HO_297002 HO_304002 BK284 BK285 BK296 BK303 HB hx304_0 hx305_0 hHeld ⊢
                              refine pure_ (i := 0) (N := some 98) (v := ?_) (a' := ?_) (bm_ 12 1) rfl rfl (any_of HT_.out (by kernel_rfl)) (fun _ _ _ h => h) (Or.inl ⟨by rfl, ?_⟩) ?_ ?_
                              rotate_left
                              · intro w'
                                go_simp
                                with_reducible rfl
                              rotate_left
                              · simp only [Act.put, List.setIfInBounds_toArray, List.set_cons_zero, List.set_cons_succ, i64_w, i32_w]
                                rfl
                              refine pure_ (i := 2) (N := some 100) (v := ?_) (a' := ?_) (bm_ 12 5) rfl rfl (any_of HT_.out (by kernel_rfl)) (fun _ _ _ h => h) (Or.inl ⟨by rfl, ?_⟩) ?_ ?_
                              rotate_left
                              · intro w'
                                go_simp
                                with_reducible rfl
                              rotate_left
                              · simp only [Act.put, List.setIfInBounds_toArray, List.set_cons_zero, List.set_cons_succ, i64_w, i32_w]
                                rfl
                              refine pure_ (i := 5) (N := some 103) (v := ?_) (a' := ?_) (bm_ 12 37) rfl rfl (any_of HT_.out (by kernel_rfl)) (fun _ _ _ h => h) (Or.inl ⟨by rfl, ?_⟩) ?_ ?_
                              rotate_left
                              · intro w'
                                go_simp
                                with_reducible rfl
                              rotate_left
                              · simp only [Act.put, List.setIfInBounds_toArray, List.set_cons_zero, List.set_cons_succ, i64_w, i32_w]
                                rfl
                              refine pure_ (i := 7) (N := some 105) (v := ?_) (a' := ?_) (bm_ 12 165) rfl rfl (any_of HT_.out (by kernel_rfl)) (fun _ _ _ h => h) (Or.inl ⟨by rfl, ?_⟩) ?_ ?_
                              rotate_left
                              · intro w'
                                go_simp
                                with_reducible rfl
                              rotate_left
                              · simp only [Act.put, List.setIfInBounds_toArray, List.set_cons_zero, List.set_cons_succ, i64_w, i32_w]
                                rfl
                              refine take_ (i := 1) (N := some 99) (v := ?_) (a' := ?_) (bm_ 12 167) rfl rfl (take_ofW HT_.out HW_.out (by kernel_rfl)) (fun _ _ _ h => h) (Or.inl ⟨by rfl, ?_⟩) hHeld ?_ ?_
                              rotate_left
                              · rintro w' ⟨s0, s1, s2, s3, s4, s5, s6, s7⟩
                                go_simp
                                with_reducible rfl
                              rotate_left
                              · simp only [Act.put, List.setIfInBounds_toArray, List.set_cons_zero, List.set_cons_succ, i64_w, i32_w]
                                rfl
                              refine pure_ (i := 3) (N := some 101) (v := ?_) (a' := ?_) (bm_ 12 175) rfl rfl (any_of HT_.out (by kernel_rfl)) (fun _ _ _ h => h) (Or.inl ⟨by rfl, ?_⟩) ?_ ?_
                              rotate_left
                              · intro w'
                                go_simp
                                with_reducible rfl
                              rotate_left
                              · simp only [Act.put, List.setIfInBounds_toArray, List.set_cons_zero, List.set_cons_succ, i64_w, i32_w]
                                rfl
                              refine take_ (i := 4) (N := some 102) (v := ?_) (a' := ?_) (bm_ 12 191) rfl rfl (take_ofW HT_.out HW_.out (by kernel_rfl)) (fun _ _ _ h => h) (Or.inl ⟨by rfl, ?_⟩) hHeld ?_ ?_
                              rotate_left
                              · rintro w' ⟨s0, s1, s2, s3, s4, s5, s6, s7⟩
                                go_simp
                                with_reducible rfl
                              rotate_left
                              · simp only [Act.put, List.setIfInBounds_toArray, List.set_cons_zero, List.set_cons_succ, i64_w, i32_w]
                                rfl
                              refine take_ (i := 6) (N := some 104) (v := ?_) (a' := ?_) (bm_ 12 255) rfl rfl (take_ofW HT_.out HW_.out (by kernel_rfl)) (fun _ _ _ h => h) (Or.inl ⟨by rfl, ?_⟩) hHeld ?_ ?_
                              rotate_left
                              · rintro w' ⟨s0, s1, s2, s3, s4, s5, s6, s7⟩
                                go_simp
                                with_reducible rfl
                              rotate_left
                              · simp only [Act.put, List.setIfInBounds_toArray, List.set_cons_zero, List.set_cons_succ, i64_w, i32_w]
                                rfl
                              refine pure_ (i := 8) (N := some 106) (v := ?_) (a' := ?_) (bm_ 12 511) rfl rfl (any_of HT_.out (by kernel_rfl)) (fun _ _ _ h => h) (Or.inl ⟨by rfl, ?_⟩) ?_ ?_
                              rotate_left
                              · intro w'
                                go_simp
                                with_reducible rfl
                              rotate_left
                              · simp only [Act.put, List.setIfInBounds_toArray, List.set_cons_zero, List.set_cons_succ, i64_w, i32_w]
                                rfl
                              refine take_ (i := 9) (N := some 107) (v := ?_) (a' := ?_) (bm_ 12 1023) rfl rfl (take_ofW HT_.out HW_.out (by kernel_rfl)) (fun _ _ _ h => h) (Or.inl ⟨by rfl, ?_⟩) hHeld ?_ ?_
                              rotate_left
                              · rintro w' ⟨s0, s1, s2, s3, s4, s5, s6, s7⟩
                                go_simp
                                with_reducible rfl
                              rotate_left
                              · simp only [Act.put, List.setIfInBounds_toArray, List.set_cons_zero, List.set_cons_succ, i64_w, i32_w]
                                rfl
                              refine pure_ (i := 10) (N := some 108) (v := ?_) (a' := ?_) (bm_ 12 2047) rfl rfl (any_of HT_.out (by kernel_rfl)) (fun _ _ _ h => h) (Or.inl ⟨by rfl, ?_⟩) ?_ ?_
                              rotate_left
                              · intro w'
                                go_simp
                                with_reducible rfl
                              rotate_left
                              · simp only [Act.put, List.setIfInBounds_toArray, List.set_cons_zero, List.set_cons_succ, i64_w, i32_w]
                                rfl
                              refine pure_ (i := 11) (N := some 109) (v := ?_) (a' := ?_) (bm_ 12 4095) rfl rfl (any_of HT_.out (by kernel_rfl)) (fun _ _ _ h => h) (Or.inl ⟨by rfl, ?_⟩) ?_ ?_
                              rotate_left
                              · intro w'
                                go_simp
                                with_reducible rfl
                              rotate_left
                              · simp only [Act.put, List.setIfInBounds_toArray, List.set_cons_zero, List.set_cons_succ, i64_w, i32_w]
                                rfl
                              refine done_ (done_of HT_.out (by kernel_rfl)) ?_
                              try go_wp2
                              go_roundg k3
                              case measure => have := HK1.out; have := HJ25.out; have := HK3.out; omega
                              case rel => exact ⟨(wrap64 (x95_3 + 1)), (by first | rfl | (simp; done) | (simp [i64_w, i32_w]; done) | (simp [*]; done) | (simp [*, i64_w, i32_w]; done)), H', ⟨by have := HK1.out; have := HJ25.out; have := HK3.out; omega⟩, ⟨rk_ HO_285002.out⟩, ⟨rk_ HO_286002.out⟩, ⟨rk_ HO_297002.out⟩, ⟨rk_ HO_304002.out⟩, ⟨pk_ BK284.out⟩, ⟨pk_ BK285.out⟩, ⟨pk_ BK296.out⟩, ⟨pk_ BK303.out⟩, ⟨bk_ HB.out⟩⟩
                            · rw [if_neg c72] at H
                              have c72b0 : ((wrap64 ((rd t292 x95_3) + (rd t299 x95_3))) == 1) = false := beq_eq_false_iff_ne.mpr c72
                              have c72b1 : ((wrap64 ((rd t292 x95_3) + (rd t299 x95_3))) != 1) = true := bne_iff_ne.mpr c72
                              exact absurd (Option.some.inj H) (by rw [hr_]; decide)
                          · rw [if_neg c71] at H
                            exact absurd H (by simp)
                        · rw [if_neg c70] at H
                          exact absurd H (by simp)
                      · rw [if_neg c69] at H
                        exact absurd H (by simp)
                    · rw [if_neg c68] at H
                      have c68b0 : decide (x95_3 < (t292.length : Int)) = false := decide_eq_false c68
                      clear c68
                      replace H := Option.bind_eq_some_iff.mp H
                      obtain ⟨t306, A740, H⟩ := H
                      replace H : ((impl_VoteRun.f k3 t279 t280 t281 (t306 == 0) 20).bind fun bt307 => ((spec_VoteRun.f k3 t279 t280 t281 (t306 == 0) 20).bind fun bt315 => (if (bt307.2.2.2.2 != bt315.2.2.2.2) = true then (some false) else (if bt307.2.2.2.2 = true then ((impl_VoteStep.f k3 bt307.1 bt307.2.1 bt307.2.2.1 (t306 == 0)).bind fun bt323 => (if bt323.2.2.2 = true then (if bt307.2.2.2.1 = bt315.2.2.2.1 then ((laws_b10Ints.f k3 bt307.2.2.1 bt315.2.2.1).bind fun t330 => (if t330 = true then ((laws_b10Ints.f k3 bt323.2.2.1 bt307.2.2.1).bind fun t331 => (some t331)) else (some false))) else (some false)) else (some false))) else (some true))))) = some r := H
                      have A74 := Aside0.mk A740
                      clear A740
                      replace H := Option.bind_eq_some_iff.mp H
                      obtain ⟨⟨t307, t308, t309, t312, t313⟩, A750, H⟩ := H
                      replace H : ((spec_VoteRun.f k3 t279 t280 t281 (t306 == 0) 20).bind fun bt315 => (if (t313 != bt315.2.2.2.2) = true then (some false) else (if t313 = true then ((impl_VoteStep.f k3 t307 t308 t309 (t306 == 0)).bind fun bt323 => (if bt323.2.2.2 = true then (if t312 = bt315.2.2.2.1 then ((laws_b10Ints.f k3 t309 bt315.2.2.1).bind fun t330 => (if t330 = true then ((laws_b10Ints.f k3 bt323.2.2.1 t309).bind fun t331 => (some t331)) else (some false))) else (some false)) else (some false))) else (some true)))) = some r := H
                      have A75 := Aside0.mk A750
                      clear A750
                      replace H := Option.bind_eq_some_iff.mp H
                      obtain ⟨⟨t315, t316, t317, t320, t321⟩, A760, H⟩ := H
                      replace H : (if (t313 != t321) = true then (some false) else (if t313 = true then ((impl_VoteStep.f k3 t307 t308 t309 (t306 == 0)).bind fun bt323 => (if bt323.2.2.2 = true then (if t312 = t320 then ((laws_b10Ints.f k3 t309 t317).bind fun t330 => (if t330 = true then ((laws_b10Ints.f k3 bt323.2.2.1 t309).bind fun t331 => (some t331)) else (some false))) else (some false)) else (some false))) else (some true))) = some r := H
                      have A76 := Aside0.mk A760
                      clear A760
                      by_cases c77 : (t313 != t321) = true
                      · rw [if_pos c77] at H
                        have c77b0 : (t313 != t321) = true := c77
                        (try (have c77b1 : decide (t313 = t321) = false := by simpa using c77))
                        (try (have c77b2 : (t313 == t321) = false := by simpa using c77))
                        (try (have c77b3 : ¬ (t313 = t321) := by simpa using c77))
                        clear c77
                        exact absurd (Option.some.inj H) (by rw [hr_]; decide)
                      · rw [if_neg c77] at H
                        have c77b0 : (t313 != t321) = false := by simpa using c77
                        (try (have c77b1 : decide (t313 = t321) = true := by simpa using c77))
                        (try (have c77b2 : (t313 == t321) = true := by simpa using c77))
                        clear c77
                        by_cases c78 : t313 = true
                        · subst c78
                          have H1 : ((impl_VoteStep.f k3 t307 t308 t309 (t306 == 0)).bind fun bt323 => (if bt323.2.2.2 = true then (if t312 = t320 then ((laws_b10Ints.f k3 t309 t317).bind fun t330 => (if t330 = true then ((laws_b10Ints.f k3 bt323.2.2.1 t309).bind fun t331 => (some t331)) else (some false))) else (some false)) else (some false))) = some r := by rw [if_pos rfl] at H; exact H
                          clear H
                          have H := H1
                          clear H1
                          replace H := Option.bind_eq_some_iff.mp H
                          obtain ⟨⟨t323, t324, t325, t328⟩, A790, H⟩ := H
                          replace H : (if t328 = true then (if t312 = t320 then ((laws_b10Ints.f k3 t309 t317).bind fun t330 => (if t330 = true then ((laws_b10Ints.f k3 t325 t309).bind fun t331 => (some t331)) else (some false))) else (some false)) else (some false)) = some r := H
                          have A79 := Aside0.mk A790
                          clear A790
                          by_cases c80 : t328 = true
                          · subst c80
                            have H1 : (if t312 = t320 then ((laws_b10Ints.f k3 t309 t317).bind fun t330 => (if t330 = true then ((laws_b10Ints.f k3 t325 t309).bind fun t331 => (some t331)) else (some false))) else (some false)) = some r := by rw [if_pos rfl] at H; exact H
                            clear H
                            have H := H1
                            clear H1
                            by_cases c81 : t312 = t320
                            · rw [if_pos c81] at H
                              have c81b0 : (t312 == t320) = true := beq_iff_eq.mpr c81
                              have c81b1 : (t312 != t320) = false := bne_eq_false_iff_eq.mpr c81
                              clear c81
                              replace H := Option.bind_eq_some_iff.mp H
                              obtain ⟨t330, A820, H⟩ := H
                              replace H : (if t330 = true then ((laws_b10Ints.f k3 t325 t309).bind fun t331 => (some t331)) else (some false)) = some r := H
                              have A82 := Aside0.mk A820
                              clear A820
                              by_cases c83 : t330 = true
                              · subst c83
                                have H1 : ((laws_b10Ints.f k3 t325 t309).bind fun t331 => (some t331)) = some r := by rw [if_pos rfl] at H; exact H
                                clear H
                                have H := H1
                                clear H1
                                replace H := Option.bind_eq_some_iff.mp H
                                obtain ⟨t331, A840, H⟩ := H
                                replace H : (some t331) = some r := H
                                have A84 := Aside0.mk A840
                                clear A840
                                obtain rfl := Option.some.inj H
                                go_wp2_with (first | ((with_reducible refine gate_callee (f := 57) rfl ?_); refine goesL_ (some 112) rfl rfl Try.func57 (by kernel_rfl) rfl #[.slice A1 l1.length c1, .int .i64 2, .int .i64 2] rfl (by (try simp only [List.map_toArray, List.map_cons, List.map_nil]); first | done | rfl | (simp only [List.length_drop, List.length_take]; rfl)) ?_; (with_reducible refine (laws_b10At.calls _ _ l1 2 2 t306 _ ?side1 ?side2 A74.out).mono ?_); (case side1 => exact ck_ (Kd.C_below HR1.out HB.out)); (case side2 => exact HC1.out); rintro e w' ⟨rfl, ⟨nd, rfl⟩⟩; refine ⟨_, rfl, ?_⟩; (try (rw [drewN_self wr]; generalize hq_ : World.drewN wr _ = wr; have n0_ : Aside0 (Kd.R (Kd.int .i64) 2 wr w.heap.size (fun k_ => some k_ ≠ (.slice Ao36 x286002_1.length co36 : Value).ownBlock ∧ some k_ ≠ (.slice Ao34 t292.length co34 : Value).ownBlock ∧ some k_ ≠ (.slice Ao43 t299.length co43 : Value).ownBlock) (.slice Ao11 t281.length co11) t281) := ⟨by rw [← hq_]; exact (rk_ HO_285002.out)⟩; have n1_ : Aside0 (Kd.R (Kd.int .i64) 2 wr w.heap.size (fun k_ => some k_ ≠ (.slice Ao11 t281.length co11 : Value).ownBlock ∧ some k_ ≠ (.slice Ao34 t292.length co34 : Value).ownBlock ∧ some k_ ≠ (.slice Ao43 t299.length co43 : Value).ownBlock) (.slice Ao36 x286002_1.length co36) x286002_1) := ⟨by rw [← hq_]; exact (rk_ HO_286002.out)⟩; have n2_ : Aside0 (Kd.R (Kd.int .i64) 2 wr w.heap.size (fun k_ => some k_ ≠ (.slice Ao11 t281.length co11 : Value).ownBlock ∧ some k_ ≠ (.slice Ao36 x286002_1.length co36 : Value).ownBlock ∧ some k_ ≠ (.slice Ao43 t299.length co43 : Value).ownBlock) (.slice Ao34 t292.length co34) t292) := ⟨by rw [← hq_]; exact (rk_ HO_297002.out)⟩; have n3_ : Aside0 (Kd.R (Kd.int .i64) 2 wr w.heap.size (fun k_ => some k_ ≠ (.slice Ao11 t281.length co11 : Value).ownBlock ∧ some k_ ≠ (.slice Ao36 x286002_1.length co36 : Value).ownBlock ∧ some k_ ≠ (.slice Ao34 t292.length co34 : Value).ownBlock) (.slice Ao43 t299.length co43) t299) := ⟨by rw [← hq_]; exact (rk_ HO_304002.out)⟩; have n4_ : Aside0 (wr.heap[gb284]? = some (.cells #[.int .i64 t279, .int .i64 t280, .slice Ao11 t281.length co11] 28 (0, 0))) := ⟨by rw [← hq_]; exact (pk_ BK284.out)⟩; have n5_ : Aside0 (wr.heap[gb285]? = some (.cells #[.int .i64 (wrap64 (1 + t277)), .int .i64 (wrap64 (1 + t278)), .slice Ao36 x286002_1.length co36] 28 (0, 0))) := ⟨by rw [← hq_]; exact (pk_ BK285.out)⟩; have n6_ : Aside0 (wr.heap[gb296]? = some (.cells #[.int .i64 t290, .int .i64 t291, .slice Ao34 t292.length co34] 28 (0, 0))) := ⟨by rw [← hq_]; exact (pk_ BK296.out)⟩; have n7_ : Aside0 (wr.heap[gb303]? = some (.cells #[.int .i64 t297, .int .i64 t298, .slice Ao43 t299.length co43] 28 (0, 0))) := ⟨by rw [← hq_]; exact (pk_ BK303.out)⟩; have n8_ : Aside0 (Below w.heap.size w wr) := ⟨by rw [← hq_]; exact (bk_ HB.out)⟩; clear HO_285002 HO_286002 HO_297002 HO_304002 BK284 BK285 BK296 BK303 HB hq_; have HO_285002 := n0_; have HO_286002 := n1_; have HO_297002 := n2_; have HO_304002 := n3_; have BK284 := n4_; have BK285 := n5_; have BK296 := n6_; have BK303 := n7_; have HB := n8_; clear n0_ n1_ n2_ n3_ n4_ n5_ n6_ n7_ n8_)); have hnb85 := NB284_285.out; have hnc85 := NB285_284.out; have hnb86 := NB284_296.out; have hnc86 := NB296_284.out; have hnb87 := NB284_303.out; have hnc87 := NB303_284.out; have hcz88_0 := bc_ BK284.out 0 (.int .i64 t279); have hcz88_1 := bc_ BK284.out 1 (.int .i64 t280); have hcz88_2 := bc_ BK284.out 2 (.slice Ao11 t281.length co11); have hfz88_0 := blk_frozen BK284.out 0; have hfz88_1 := blk_frozen BK284.out 1; have hfz88_2 := blk_frozen BK284.out 2) | ((with_reducible refine gate_callee (f := 51) rfl ?_); refine goesL_ (some 117) rfl rfl Try.func51 (by kernel_rfl) rfl #[.agg #[.int .i64 t279, .int .i64 t280, .slice Ao11 t281.length co11], .bool (t306 == 0), .int .i64 20] rfl (by (try simp only [List.map_toArray, List.map_cons, List.map_nil]); first | done | rfl | (simp only [List.length_drop, List.length_take]; rfl)) ?_; (with_reducible refine (impl_VoteRun.calls k3 t279 t280 _ _ t281 (t306 == 0) 20 t307 t308 t309 t312 true _ ?side1 ?side2 A75.out).mono ?_); (case side1 => repeat (first | exact (Kd.R_reads' HO_285002.out).2.2 | (with_reducible refine Kd.C_alloc ?_ _) | (with_reducible refine Kd.C_drewN ?_ _) | (with_reducible refine Kd.C_drew ?_))); (case side2 => exact (Kd.R_reads' HO_285002.out).2.1); rintro e w89 ⟨v310, rfl, ho0, hb⟩; refine ⟨_, rfl, ?_⟩; have n0_ := Aside0.mk (Kd.R_elder' (rk_ HO_285002.out) (Kd.R_base ho0) hb); have n1_ := Aside0.mk (Kd.R_elder' (rk_ HO_286002.out) (Kd.R_base ho0) hb); have n2_ := Aside0.mk (Kd.R_elder' (rk_ HO_297002.out) (Kd.R_base ho0) hb); have n3_ := Aside0.mk (Kd.R_elder' (rk_ HO_304002.out) (Kd.R_base ho0) hb); have n4_ := Aside0.mk (Kd.R_lower (Kd.R_new' (Kd.R_new' (Kd.R_new' (Kd.R_new' ho0 (Kd.R_lt (rk_ HO_285002.out))) (Kd.R_lt (rk_ HO_286002.out))) (Kd.R_lt (rk_ HO_297002.out))) (Kd.R_lt (rk_ HO_304002.out))) (below_size (bk_ HB.out))); have n5_ := Aside0.mk (bb_ BK284.out hb); have n6_ := Aside0.mk (bb_ BK285.out hb); have n7_ := Aside0.mk (bb_ BK296.out hb); have n8_ := Aside0.mk (bb_ BK303.out hb); have n9_ := Aside0.mk (below_step (bk_ HB.out) hb); clear HO_285002; clear HO_286002; clear HO_297002; clear HO_304002; clear BK284; clear BK285; clear BK296; clear BK303; clear HB; have HO_285002 := n0_; have HO_286002 := n1_; have HO_297002 := n2_; have HO_304002 := n3_; have HO311 := n4_; have BK284 := n5_; have BK285 := n6_; have BK296 := n7_; have BK303 := n8_; have HB := n9_; clear n0_ n1_ n2_ n3_ n4_ n5_ n6_ n7_ n8_ n9_; (try clear hb); (try clear hb2); (try clear hk); (try clear hi); (try clear ho0)) | ((with_reducible refine gate_dst (N := 16) rfl ?_); (try (refine gate_guard (by rfl) ?_; dsimp only)); refine box_event ?hg (N := 16) ?hd (cs := #[.int .i64 0, .int .i64 0, .slice none 0 0]) (t := 28) ?hr ?_; (case hd => rfl); (case hg => rfl); (case hr => first | (go_simp; done) | (go_simp; rfl)); intro gb314 hg w90 hbox hb; have n0_ := Aside0.mk (Kd.R_below (rk_ HO_285002.out) hb); have n1_ := Aside0.mk (Kd.R_below (rk_ HO_286002.out) hb); have n2_ := Aside0.mk (Kd.R_below (rk_ HO_297002.out) hb); have n3_ := Aside0.mk (Kd.R_below (rk_ HO_304002.out) hb); have n4_ := Aside0.mk (Kd.R_below (rk_ HO311.out) hb); have n5_ := Aside0.mk (bb_ BK284.out hb); have n6_ := Aside0.mk (bb_ BK285.out hb); have n7_ := Aside0.mk (bb_ BK296.out hb); have n8_ := Aside0.mk (bb_ BK303.out hb); have n9_ := Aside0.mk (below_step (bk_ HB.out) hb); have n10_ := Aside0.mk (hbox); have n11_ := Aside0.mk ((by rw [hg]; exact (below_size (bk_ HB.out)) : w.heap.size ≤ gb314)); have n12_ := Aside0.mk ((by rw [hg]; exact (below_size (bk_ HB.out)) : w.heap.size ≤ gb314)); have n13_ := Aside0.mk ((by rw [hg]; exact Nat.ne_of_lt (bl_ BK284.out) : gb284 ≠ gb314)); have n14_ := Aside0.mk ((by rw [hg]; exact Nat.ne_of_gt (bl_ BK284.out) : gb314 ≠ gb284)); have n15_ := Aside0.mk ((by rw [hg]; exact Nat.ne_of_lt (bl_ BK285.out) : gb285 ≠ gb314)); have n16_ := Aside0.mk ((by rw [hg]; exact Nat.ne_of_gt (bl_ BK285.out) : gb314 ≠ gb285)); have n17_ := Aside0.mk ((by rw [hg]; exact Nat.ne_of_lt (bl_ BK296.out) : gb296 ≠ gb314)); have n18_ := Aside0.mk ((by rw [hg]; exact Nat.ne_of_gt (bl_ BK296.out) : gb314 ≠ gb296)); have n19_ := Aside0.mk ((by rw [hg]; exact Nat.ne_of_lt (bl_ BK303.out) : gb303 ≠ gb314)); have n20_ := Aside0.mk ((by rw [hg]; exact Nat.ne_of_gt (bl_ BK303.out) : gb314 ≠ gb303)); clear HO_285002; clear HO_286002; clear HO_297002; clear HO_304002; clear HO311; clear BK284; clear BK285; clear BK296; clear BK303; clear HB; have HO_285002 := n0_; have HO_286002 := n1_; have HO_297002 := n2_; have HO_304002 := n3_; have HO311 := n4_; have BK284 := n5_; have BK285 := n6_; have BK296 := n7_; have BK303 := n8_; have HB := n9_; have BK314 := n10_; have GW314 := n11_; have GE314 := n12_; have NB284_314 := n13_; have NB314_284 := n14_; have NB285_314 := n15_; have NB314_285 := n16_; have NB296_314 := n17_; have NB314_296 := n18_; have NB303_314 := n19_; have NB314_303 := n20_; clear n0_ n1_ n2_ n3_ n4_ n5_ n6_ n7_ n8_ n9_ n10_ n11_ n12_ n13_ n14_ n15_ n16_ n17_ n18_ n19_ n20_; clear hb hbox hg; have hnb91 := NB314_284.out; have hnc91 := NB284_314.out; have hnb92 := NB314_285.out; have hnc92 := NB285_314.out; have hnb93 := NB314_296.out; have hnc93 := NB296_314.out; have hnb94 := NB314_303.out; have hnc94 := NB303_314.out; have hcz95_0 := bc_ BK314.out 0 (.int .i64 0); have hcz95_1 := bc_ BK314.out 1 (.int .i64 0); have hcz95_2 := bc_ BK314.out 2 (.slice none 0 0); have hfz95_0 := blk_frozen BK314.out 0; have hfz95_1 := blk_frozen BK314.out 1; have hfz95_2 := blk_frozen BK314.out 2; obtain ⟨Ao96, co96, eo96⟩ := Kd.R_slice HO311.out; subst eo96; have hcz97_0 := bc_ BK284.out 0 (.int .i64 t279); have hcz97_1 := bc_ BK284.out 1 (.int .i64 t280); have hcz97_2 := bc_ BK284.out 2 (.slice Ao11 t281.length co11); have hfz97_0 := blk_frozen BK284.out 0; have hfz97_1 := blk_frozen BK284.out 1; have hfz97_2 := blk_frozen BK284.out 2) | ((with_reducible refine gate_callee (f := 50) rfl ?_); refine goesL_ (some 124) rfl rfl Try.func50 (by kernel_rfl) rfl #[.agg #[.int .i64 t279, .int .i64 t280, .slice Ao11 t281.length co11], .bool (t306 == 0), .int .i64 20] rfl (by (try simp only [List.map_toArray, List.map_cons, List.map_nil]); first | done | rfl | (simp only [List.length_drop, List.length_take]; rfl)) ?_; (with_reducible refine (spec_VoteRun.calls k3 t279 t280 _ _ t281 (t306 == 0) 20 t315 t316 t317 t320 t321 _ ?side1 ?side2 A76.out).mono ?_); (case side1 => refine (Kd.R_reads' (e := 2) (base := w.heap.size) (ok := fun k_ => ((some k_ ≠ (.slice Ao36 x286002_1.length co36 : Value).ownBlock ∧ (some k_ ≠ (.slice Ao34 t292.length co34 : Value).ownBlock ∧ some k_ ≠ (.slice Ao43 t299.length co43 : Value).ownBlock)) ∧ some k_ ≠ (.slice Ao96 t309.length co96 : Value).ownBlock)) (n := t281.length) (c := co11) ?_).2.2; exact (rx_ HO_285002.out BK314.out)); (case side2 => exact (Kd.R_reads' HO_285002.out).2.1); rintro e w98 ⟨v318, rfl, ho0, hb⟩; refine ⟨_, rfl, ?_⟩; have n0_ := Aside0.mk (Kd.R_elder' (rx_ HO_285002.out BK314.out) (Kd.R_base ho0) hb); have n1_ := Aside0.mk (Kd.R_elder' (rx_ HO_286002.out BK314.out) (Kd.R_base ho0) hb); have n2_ := Aside0.mk (Kd.R_elder' (rx_ HO_297002.out BK314.out) (Kd.R_base ho0) hb); have n3_ := Aside0.mk (Kd.R_elder' (rx_ HO_304002.out BK314.out) (Kd.R_base ho0) hb); have n4_ := Aside0.mk (Kd.R_elder' (rx_ HO311.out BK314.out) (Kd.R_base ho0) hb); have n5_ := Aside0.mk (Kd.R_lower (Kd.R_new' (Kd.R_new' (Kd.R_new' (Kd.R_new' (Kd.R_new' ho0 (Kd.R_lt (rx_ HO_285002.out BK314.out))) (Kd.R_lt (rx_ HO_286002.out BK314.out))) (Kd.R_lt (rx_ HO_297002.out BK314.out))) (Kd.R_lt (rx_ HO_304002.out BK314.out))) (Kd.R_lt (rx_ HO311.out BK314.out))) (below_size (bk_ HB.out))); have n6_ := Aside0.mk (blk_below (g := gb284) (o := .cells #[.int .i64 t279, .int .i64 t280, .slice Ao11 t281.length co11] 28 (0, 0)) (by (with_reducible repeat (first | refine blk_drewN ?_ _ | refine blk_drew ?_ | refine blk_alloc ?_ _)); refine blk_far ?_ NB284_314.out _; (with_reducible repeat (first | refine blk_drewN ?_ _ | refine blk_drew ?_ | refine blk_alloc ?_ _)); refine blk_far ?_ NB284_314.out _; (with_reducible repeat (first | refine blk_drewN ?_ _ | refine blk_drew ?_ | refine blk_alloc ?_ _)); refine blk_far ?_ NB284_314.out _; (with_reducible repeat (first | refine blk_drewN ?_ _ | refine blk_drew ?_ | refine blk_alloc ?_ _)); exact BK284.out) hb); have n7_ := Aside0.mk (blk_below (g := gb285) (o := .cells #[.int .i64 (wrap64 (1 + t277)), .int .i64 (wrap64 (1 + t278)), .slice Ao36 x286002_1.length co36] 28 (0, 0)) (by (with_reducible repeat (first | refine blk_drewN ?_ _ | refine blk_drew ?_ | refine blk_alloc ?_ _)); refine blk_far ?_ NB285_314.out _; (with_reducible repeat (first | refine blk_drewN ?_ _ | refine blk_drew ?_ | refine blk_alloc ?_ _)); refine blk_far ?_ NB285_314.out _; (with_reducible repeat (first | refine blk_drewN ?_ _ | refine blk_drew ?_ | refine blk_alloc ?_ _)); refine blk_far ?_ NB285_314.out _; (with_reducible repeat (first | refine blk_drewN ?_ _ | refine blk_drew ?_ | refine blk_alloc ?_ _)); exact BK285.out) hb); have n8_ := Aside0.mk (blk_below (g := gb296) (o := .cells #[.int .i64 t290, .int .i64 t291, .slice Ao34 t292.length co34] 28 (0, 0)) (by (with_reducible repeat (first | refine blk_drewN ?_ _ | refine blk_drew ?_ | refine blk_alloc ?_ _)); refine blk_far ?_ NB296_314.out _; (with_reducible repeat (first | refine blk_drewN ?_ _ | refine blk_drew ?_ | refine blk_alloc ?_ _)); refine blk_far ?_ NB296_314.out _; (with_reducible repeat (first | refine blk_drewN ?_ _ | refine blk_drew ?_ | refine blk_alloc ?_ _)); refine blk_far ?_ NB296_314.out _; (with_reducible repeat (first | refine blk_drewN ?_ _ | refine blk_drew ?_ | refine blk_alloc ?_ _)); exact BK296.out) hb); have n9_ := Aside0.mk (blk_below (g := gb303) (o := .cells #[.int .i64 t297, .int .i64 t298, .slice Ao43 t299.length co43] 28 (0, 0)) (by (with_reducible repeat (first | refine blk_drewN ?_ _ | refine blk_drew ?_ | refine blk_alloc ?_ _)); refine blk_far ?_ NB303_314.out _; (with_reducible repeat (first | refine blk_drewN ?_ _ | refine blk_drew ?_ | refine blk_alloc ?_ _)); refine blk_far ?_ NB303_314.out _; (with_reducible repeat (first | refine blk_drewN ?_ _ | refine blk_drew ?_ | refine blk_alloc ?_ _)); refine blk_far ?_ NB303_314.out _; (with_reducible repeat (first | refine blk_drewN ?_ _ | refine blk_drew ?_ | refine blk_alloc ?_ _)); exact BK303.out) hb); have n10_ := Aside0.mk (blk_below (g := gb314) (o := .cells #[.int .i64 t307, .int .i64 t308, .slice Ao96 t309.length co96] 28 (0, 0)) (by (with_reducible repeat (first | refine blk_drewN ?_ _ | refine blk_drew ?_ | refine blk_alloc ?_ _)); refine blk_put (cs := #[.int .i64 t307, .int .i64 t308, .slice none 0 0]) ?_ 2 _ rfl; (with_reducible repeat (first | refine blk_drewN ?_ _ | refine blk_drew ?_ | refine blk_alloc ?_ _)); refine blk_put (cs := #[.int .i64 t307, .int .i64 0, .slice none 0 0]) ?_ 1 _ rfl; (with_reducible repeat (first | refine blk_drewN ?_ _ | refine blk_drew ?_ | refine blk_alloc ?_ _)); refine blk_put (cs := #[.int .i64 0, .int .i64 0, .slice none 0 0]) ?_ 0 _ rfl; (with_reducible repeat (first | refine blk_drewN ?_ _ | refine blk_drew ?_ | refine blk_alloc ?_ _)); exact BK314.out) hb); have n11_ := Aside0.mk (below_step (bk_ HB.out) hb); clear HO_285002; clear HO_286002; clear HO_297002; clear HO_304002; clear HO311; clear BK284; clear BK285; clear BK296; clear BK303; clear BK314; clear HB; have HO_285002 := n0_; have HO_286002 := n1_; have HO_297002 := n2_; have HO_304002 := n3_; have HO311 := n4_; have HO319 := n5_; have BK284 := n6_; have BK285 := n7_; have BK296 := n8_; have BK303 := n9_; have BK314 := n10_; have HB := n11_; clear n0_ n1_ n2_ n3_ n4_ n5_ n6_ n7_ n8_ n9_ n10_ n11_; (try clear hb); (try clear hb2); (try clear hk); (try clear hi); (try clear ho0)) | ((with_reducible refine gate_dst (N := 19) rfl ?_); (try (refine gate_guard (by rfl) ?_; dsimp only)); refine box_event ?hg (N := 19) ?hd (cs := #[.int .i64 0, .int .i64 0, .slice none 0 0]) (t := 28) ?hr ?_; (case hd => rfl); (case hg => rfl); (case hr => first | (go_simp; done) | (go_simp; rfl)); intro gb322 hg w99 hbox hb; have n0_ := Aside0.mk (Kd.R_below (rk_ HO_285002.out) hb); have n1_ := Aside0.mk (Kd.R_below (rk_ HO_286002.out) hb); have n2_ := Aside0.mk (Kd.R_below (rk_ HO_297002.out) hb); have n3_ := Aside0.mk (Kd.R_below (rk_ HO_304002.out) hb); have n4_ := Aside0.mk (Kd.R_below (rk_ HO311.out) hb); have n5_ := Aside0.mk (Kd.R_below (rk_ HO319.out) hb); have n6_ := Aside0.mk (bb_ BK284.out hb); have n7_ := Aside0.mk (bb_ BK285.out hb); have n8_ := Aside0.mk (bb_ BK296.out hb); have n9_ := Aside0.mk (bb_ BK303.out hb); have n10_ := Aside0.mk (bb_ BK314.out hb); have n11_ := Aside0.mk (below_step (bk_ HB.out) hb); have n12_ := Aside0.mk (hbox); have n13_ := Aside0.mk ((by rw [hg]; exact (below_size (bk_ HB.out)) : w.heap.size ≤ gb322)); have n14_ := Aside0.mk ((by rw [hg]; exact (below_size (bk_ HB.out)) : w.heap.size ≤ gb322)); have n15_ := Aside0.mk ((by rw [hg]; exact Nat.ne_of_lt (bl_ BK284.out) : gb284 ≠ gb322)); have n16_ := Aside0.mk ((by rw [hg]; exact Nat.ne_of_gt (bl_ BK284.out) : gb322 ≠ gb284)); have n17_ := Aside0.mk ((by rw [hg]; exact Nat.ne_of_lt (bl_ BK285.out) : gb285 ≠ gb322)); have n18_ := Aside0.mk ((by rw [hg]; exact Nat.ne_of_gt (bl_ BK285.out) : gb322 ≠ gb285)); have n19_ := Aside0.mk ((by rw [hg]; exact Nat.ne_of_lt (bl_ BK296.out) : gb296 ≠ gb322)); have n20_ := Aside0.mk ((by rw [hg]; exact Nat.ne_of_gt (bl_ BK296.out) : gb322 ≠ gb296)); have n21_ := Aside0.mk ((by rw [hg]; exact Nat.ne_of_lt (bl_ BK303.out) : gb303 ≠ gb322)); have n22_ := Aside0.mk ((by rw [hg]; exact Nat.ne_of_gt (bl_ BK303.out) : gb322 ≠ gb303)); have n23_ := Aside0.mk ((by rw [hg]; exact Nat.ne_of_lt (bl_ BK314.out) : gb314 ≠ gb322)); have n24_ := Aside0.mk ((by rw [hg]; exact Nat.ne_of_gt (bl_ BK314.out) : gb322 ≠ gb314)); clear HO_285002; clear HO_286002; clear HO_297002; clear HO_304002; clear HO311; clear HO319; clear BK284; clear BK285; clear BK296; clear BK303; clear BK314; clear HB; have HO_285002 := n0_; have HO_286002 := n1_; have HO_297002 := n2_; have HO_304002 := n3_; have HO311 := n4_; have HO319 := n5_; have BK284 := n6_; have BK285 := n7_; have BK296 := n8_; have BK303 := n9_; have BK314 := n10_; have HB := n11_; have BK322 := n12_; have GW322 := n13_; have GE322 := n14_; have NB284_322 := n15_; have NB322_284 := n16_; have NB285_322 := n17_; have NB322_285 := n18_; have NB296_322 := n19_; have NB322_296 := n20_; have NB303_322 := n21_; have NB322_303 := n22_; have NB314_322 := n23_; have NB322_314 := n24_; clear n0_ n1_ n2_ n3_ n4_ n5_ n6_ n7_ n8_ n9_ n10_ n11_ n12_ n13_ n14_ n15_ n16_ n17_ n18_ n19_ n20_ n21_ n22_ n23_ n24_; clear hb hbox hg; have hnb100 := NB322_284.out; have hnc100 := NB284_322.out; have hnb101 := NB322_285.out; have hnc101 := NB285_322.out; have hnb102 := NB322_296.out; have hnc102 := NB296_322.out; have hnb103 := NB322_303.out; have hnc103 := NB303_322.out; have hnb104 := NB322_314.out; have hnc104 := NB314_322.out; have hcz105_0 := bc_ BK322.out 0 (.int .i64 0); have hcz105_1 := bc_ BK322.out 1 (.int .i64 0); have hcz105_2 := bc_ BK322.out 2 (.slice none 0 0); have hfz105_0 := blk_frozen BK322.out 0; have hfz105_1 := blk_frozen BK322.out 1; have hfz105_2 := blk_frozen BK322.out 2; obtain ⟨Ao106, co106, eo106⟩ := Kd.R_slice HO319.out; subst eo106; have hcz107_0 := bc_ BK314.out 0 (.int .i64 t307); have hcz107_1 := bc_ BK314.out 1 (.int .i64 t308); have hcz107_2 := bc_ BK314.out 2 (.slice Ao96 t309.length co96); have hfz107_0 := blk_frozen BK314.out 0; have hfz107_1 := blk_frozen BK314.out 1; have hfz107_2 := blk_frozen BK314.out 2) | ((with_reducible refine gate_callee (f := 48) rfl ?_); refine goesL_ (some 136) rfl rfl Try.func48 (by kernel_rfl) rfl #[.agg #[.int .i64 t307, .int .i64 t308, .slice Ao96 t309.length co96], .bool (t306 == 0)] rfl (by (try simp only [List.map_toArray, List.map_cons, List.map_nil]); first | done | rfl | (simp only [List.length_drop, List.length_take]; rfl)) ?_; (with_reducible refine (impl_VoteStep.calls k3 t307 t308 _ _ t309 (t306 == 0) t323 t324 t325 true _ ?side1 ?side2 A79.out).mono ?_); (case side1 => refine (Kd.R_reads' (e := 2) (base := w.heap.size) (ok := fun k_ => (((((True ∧ some k_ ≠ (.slice Ao11 t281.length co11 : Value).ownBlock) ∧ some k_ ≠ (.slice Ao36 x286002_1.length co36 : Value).ownBlock) ∧ some k_ ≠ (.slice Ao34 t292.length co34 : Value).ownBlock) ∧ some k_ ≠ (.slice Ao43 t299.length co43 : Value).ownBlock) ∧ some k_ ≠ (.slice Ao106 t317.length co106 : Value).ownBlock)) (n := t309.length) (c := co96) ?_).2.2; exact (rx_ HO311.out BK322.out)); (case side2 => exact (Kd.R_reads' HO311.out).2.1); rintro e w108 ⟨v326, rfl, ho0, hb⟩; refine ⟨_, rfl, ?_⟩; have n0_ := Aside0.mk (Kd.R_elder' (rx_ HO_285002.out BK322.out) (Kd.R_base ho0) hb); have n1_ := Aside0.mk (Kd.R_elder' (rx_ HO_286002.out BK322.out) (Kd.R_base ho0) hb); have n2_ := Aside0.mk (Kd.R_elder' (rx_ HO_297002.out BK322.out) (Kd.R_base ho0) hb); have n3_ := Aside0.mk (Kd.R_elder' (rx_ HO_304002.out BK322.out) (Kd.R_base ho0) hb); have n4_ := Aside0.mk (Kd.R_elder' (rx_ HO311.out BK322.out) (Kd.R_base ho0) hb); have n5_ := Aside0.mk (Kd.R_elder' (rx_ HO319.out BK322.out) (Kd.R_base ho0) hb); have n6_ := Aside0.mk (Kd.R_lower (Kd.R_new' (Kd.R_new' (Kd.R_new' (Kd.R_new' (Kd.R_new' (Kd.R_new' ho0 (Kd.R_lt (rx_ HO_285002.out BK322.out))) (Kd.R_lt (rx_ HO_286002.out BK322.out))) (Kd.R_lt (rx_ HO_297002.out BK322.out))) (Kd.R_lt (rx_ HO_304002.out BK322.out))) (Kd.R_lt (rx_ HO311.out BK322.out))) (Kd.R_lt (rx_ HO319.out BK322.out))) (below_size (bk_ HB.out))); have n7_ := Aside0.mk (blk_below (g := gb284) (o := .cells #[.int .i64 t279, .int .i64 t280, .slice Ao11 t281.length co11] 28 (0, 0)) (by (with_reducible repeat (first | refine blk_drewN ?_ _ | refine blk_drew ?_ | refine blk_alloc ?_ _)); refine blk_far ?_ NB284_322.out _; (with_reducible repeat (first | refine blk_drewN ?_ _ | refine blk_drew ?_ | refine blk_alloc ?_ _)); refine blk_far ?_ NB284_322.out _; (with_reducible repeat (first | refine blk_drewN ?_ _ | refine blk_drew ?_ | refine blk_alloc ?_ _)); refine blk_far ?_ NB284_322.out _; (with_reducible repeat (first | refine blk_drewN ?_ _ | refine blk_drew ?_ | refine blk_alloc ?_ _)); exact BK284.out) hb); have n8_ := Aside0.mk (blk_below (g := gb285) (o := .cells #[.int .i64 (wrap64 (1 + t277)), .int .i64 (wrap64 (1 + t278)), .slice Ao36 x286002_1.length co36] 28 (0, 0)) (by (with_reducible repeat (first | refine blk_drewN ?_ _ | refine blk_drew ?_ | refine blk_alloc ?_ _)); refine blk_far ?_ NB285_322.out _; (with_reducible repeat (first | refine blk_drewN ?_ _ | refine blk_drew ?_ | refine blk_alloc ?_ _)); refine blk_far ?_ NB285_322.out _; (with_reducible repeat (first | refine blk_drewN ?_ _ | refine blk_drew ?_ | refine blk_alloc ?_ _)); refine blk_far ?_ NB285_322.out _; (with_reducible repeat (first | refine blk_drewN ?_ _ | refine blk_drew ?_ | refine blk_alloc ?_ _)); exact BK285.out) hb); have n9_ := Aside0.mk (blk_below (g := gb296) (o := .cells #[.int .i64 t290, .int .i64 t291, .slice Ao34 t292.length co34] 28 (0, 0)) (by (with_reducible repeat (first | refine blk_drewN ?_ _ | refine blk_drew ?_ | refine blk_alloc ?_ _)); refine blk_far ?_ NB296_322.out _; (with_reducible repeat (first | refine blk_drewN ?_ _ | refine blk_drew ?_ | refine blk_alloc ?_ _)); refine blk_far ?_ NB296_322.out _; (with_reducible repeat (first | refine blk_drewN ?_ _ | refine blk_drew ?_ | refine blk_alloc ?_ _)); refine blk_far ?_ NB296_322.out _; (with_reducible repeat (first | refine blk_drewN ?_ _ | refine blk_drew ?_ | refine blk_alloc ?_ _)); exact BK296.out) hb); have n10_ := Aside0.mk (blk_below (g := gb303) (o := .cells #[.int .i64 t297, .int .i64 t298, .slice Ao43 t299.length co43] 28 (0, 0)) (by (with_reducible repeat (first | refine blk_drewN ?_ _ | refine blk_drew ?_ | refine blk_alloc ?_ _)); refine blk_far ?_ NB303_322.out _; (with_reducible repeat (first | refine blk_drewN ?_ _ | refine blk_drew ?_ | refine blk_alloc ?_ _)); refine blk_far ?_ NB303_322.out _; (with_reducible repeat (first | refine blk_drewN ?_ _ | refine blk_drew ?_ | refine blk_alloc ?_ _)); refine blk_far ?_ NB303_322.out _; (with_reducible repeat (first | refine blk_drewN ?_ _ | refine blk_drew ?_ | refine blk_alloc ?_ _)); exact BK303.out) hb); have n11_ := Aside0.mk (blk_below (g := gb314) (o := .cells #[.int .i64 t307, .int .i64 t308, .slice Ao96 t309.length co96] 28 (0, 0)) (by (with_reducible repeat (first | refine blk_drewN ?_ _ | refine blk_drew ?_ | refine blk_alloc ?_ _)); refine blk_far ?_ NB314_322.out _; (with_reducible repeat (first | refine blk_drewN ?_ _ | refine blk_drew ?_ | refine blk_alloc ?_ _)); refine blk_far ?_ NB314_322.out _; (with_reducible repeat (first | refine blk_drewN ?_ _ | refine blk_drew ?_ | refine blk_alloc ?_ _)); refine blk_far ?_ NB314_322.out _; (with_reducible repeat (first | refine blk_drewN ?_ _ | refine blk_drew ?_ | refine blk_alloc ?_ _)); exact BK314.out) hb); have n12_ := Aside0.mk (blk_below (g := gb322) (o := .cells #[.int .i64 t315, .int .i64 t316, .slice Ao106 t317.length co106] 28 (0, 0)) (by (with_reducible repeat (first | refine blk_drewN ?_ _ | refine blk_drew ?_ | refine blk_alloc ?_ _)); refine blk_put (cs := #[.int .i64 t315, .int .i64 t316, .slice none 0 0]) ?_ 2 _ rfl; (with_reducible repeat (first | refine blk_drewN ?_ _ | refine blk_drew ?_ | refine blk_alloc ?_ _)); refine blk_put (cs := #[.int .i64 t315, .int .i64 0, .slice none 0 0]) ?_ 1 _ rfl; (with_reducible repeat (first | refine blk_drewN ?_ _ | refine blk_drew ?_ | refine blk_alloc ?_ _)); refine blk_put (cs := #[.int .i64 0, .int .i64 0, .slice none 0 0]) ?_ 0 _ rfl; (with_reducible repeat (first | refine blk_drewN ?_ _ | refine blk_drew ?_ | refine blk_alloc ?_ _)); exact BK322.out) hb); have n13_ := Aside0.mk (below_step (bk_ HB.out) hb); clear HO_285002; clear HO_286002; clear HO_297002; clear HO_304002; clear HO311; clear HO319; clear BK284; clear BK285; clear BK296; clear BK303; clear BK314; clear BK322; clear HB; have HO_285002 := n0_; have HO_286002 := n1_; have HO_297002 := n2_; have HO_304002 := n3_; have HO311 := n4_; have HO319 := n5_; have HO327 := n6_; have BK284 := n7_; have BK285 := n8_; have BK296 := n9_; have BK303 := n10_; have BK314 := n11_; have BK322 := n12_; have HB := n13_; clear n0_ n1_ n2_ n3_ n4_ n5_ n6_ n7_ n8_ n9_ n10_ n11_ n12_ n13_; (try clear hb); (try clear hb2); (try clear hk); (try clear hi); (try clear ho0)) | ((with_reducible refine gate_dst (N := 22) rfl ?_); (try (refine gate_guard (by rfl) ?_; dsimp only)); refine box_event ?hg (N := 22) ?hd (cs := #[.int .i64 0, .int .i64 0, .slice none 0 0]) (t := 28) ?hr ?_; (case hd => rfl); (case hg => rfl); (case hr => first | (go_simp; done) | (go_simp; rfl)); intro gb329 hg w109 hbox hb; have n0_ := Aside0.mk (Kd.R_below (rk_ HO_285002.out) hb); have n1_ := Aside0.mk (Kd.R_below (rk_ HO_286002.out) hb); have n2_ := Aside0.mk (Kd.R_below (rk_ HO_297002.out) hb); have n3_ := Aside0.mk (Kd.R_below (rk_ HO_304002.out) hb); have n4_ := Aside0.mk (Kd.R_below (rk_ HO311.out) hb); have n5_ := Aside0.mk (Kd.R_below (rk_ HO319.out) hb); have n6_ := Aside0.mk (Kd.R_below (rk_ HO327.out) hb); have n7_ := Aside0.mk (bb_ BK284.out hb); have n8_ := Aside0.mk (bb_ BK285.out hb); have n9_ := Aside0.mk (bb_ BK296.out hb); have n10_ := Aside0.mk (bb_ BK303.out hb); have n11_ := Aside0.mk (bb_ BK314.out hb); have n12_ := Aside0.mk (bb_ BK322.out hb); have n13_ := Aside0.mk (below_step (bk_ HB.out) hb); have n14_ := Aside0.mk (hbox); have n15_ := Aside0.mk ((by rw [hg]; exact (below_size (bk_ HB.out)) : w.heap.size ≤ gb329)); have n16_ := Aside0.mk ((by rw [hg]; exact (below_size (bk_ HB.out)) : w.heap.size ≤ gb329)); have n17_ := Aside0.mk ((by rw [hg]; exact Nat.ne_of_lt (bl_ BK284.out) : gb284 ≠ gb329)); have n18_ := Aside0.mk ((by rw [hg]; exact Nat.ne_of_gt (bl_ BK284.out) : gb329 ≠ gb284)); have n19_ := Aside0.mk ((by rw [hg]; exact Nat.ne_of_lt (bl_ BK285.out) : gb285 ≠ gb329)); have n20_ := Aside0.mk ((by rw [hg]; exact Nat.ne_of_gt (bl_ BK285.out) : gb329 ≠ gb285)); have n21_ := Aside0.mk ((by rw [hg]; exact Nat.ne_of_lt (bl_ BK296.out) : gb296 ≠ gb329)); have n22_ := Aside0.mk ((by rw [hg]; exact Nat.ne_of_gt (bl_ BK296.out) : gb329 ≠ gb296)); have n23_ := Aside0.mk ((by rw [hg]; exact Nat.ne_of_lt (bl_ BK303.out) : gb303 ≠ gb329)); have n24_ := Aside0.mk ((by rw [hg]; exact Nat.ne_of_gt (bl_ BK303.out) : gb329 ≠ gb303)); have n25_ := Aside0.mk ((by rw [hg]; exact Nat.ne_of_lt (bl_ BK314.out) : gb314 ≠ gb329)); have n26_ := Aside0.mk ((by rw [hg]; exact Nat.ne_of_gt (bl_ BK314.out) : gb329 ≠ gb314)); have n27_ := Aside0.mk ((by rw [hg]; exact Nat.ne_of_lt (bl_ BK322.out) : gb322 ≠ gb329)); have n28_ := Aside0.mk ((by rw [hg]; exact Nat.ne_of_gt (bl_ BK322.out) : gb329 ≠ gb322)); clear HO_285002; clear HO_286002; clear HO_297002; clear HO_304002; clear HO311; clear HO319; clear HO327; clear BK284; clear BK285; clear BK296; clear BK303; clear BK314; clear BK322; clear HB; have HO_285002 := n0_; have HO_286002 := n1_; have HO_297002 := n2_; have HO_304002 := n3_; have HO311 := n4_; have HO319 := n5_; have HO327 := n6_; have BK284 := n7_; have BK285 := n8_; have BK296 := n9_; have BK303 := n10_; have BK314 := n11_; have BK322 := n12_; have HB := n13_; have BK329 := n14_; have GW329 := n15_; have GE329 := n16_; have NB284_329 := n17_; have NB329_284 := n18_; have NB285_329 := n19_; have NB329_285 := n20_; have NB296_329 := n21_; have NB329_296 := n22_; have NB303_329 := n23_; have NB329_303 := n24_; have NB314_329 := n25_; have NB329_314 := n26_; have NB322_329 := n27_; have NB329_322 := n28_; clear n0_ n1_ n2_ n3_ n4_ n5_ n6_ n7_ n8_ n9_ n10_ n11_ n12_ n13_ n14_ n15_ n16_ n17_ n18_ n19_ n20_ n21_ n22_ n23_ n24_ n25_ n26_ n27_ n28_; clear hb hbox hg; have hnb110 := NB329_284.out; have hnc110 := NB284_329.out; have hnb111 := NB329_285.out; have hnc111 := NB285_329.out; have hnb112 := NB329_296.out; have hnc112 := NB296_329.out; have hnb113 := NB329_303.out; have hnc113 := NB303_329.out; have hnb114 := NB329_314.out; have hnc114 := NB314_329.out; have hnb115 := NB329_322.out; have hnc115 := NB322_329.out; have hcz116_0 := bc_ BK329.out 0 (.int .i64 0); have hcz116_1 := bc_ BK329.out 1 (.int .i64 0); have hcz116_2 := bc_ BK329.out 2 (.slice none 0 0); have hfz116_0 := blk_frozen BK329.out 0; have hfz116_1 := blk_frozen BK329.out 1; have hfz116_2 := blk_frozen BK329.out 2; obtain ⟨Ao117, co117, eo117⟩ := Kd.R_slice HO327.out; subst eo117; have hcz118_0 := bc_ BK314.out 0 (.int .i64 t307); have hcz118_1 := bc_ BK314.out 1 (.int .i64 t308); have hcz118_2 := bc_ BK314.out 2 (.slice Ao96 t309.length co96); have hfz118_0 := blk_frozen BK314.out 0; have hfz118_1 := blk_frozen BK314.out 1; have hfz118_2 := blk_frozen BK314.out 2; have hcz119_0 := bc_ BK322.out 0 (.int .i64 t315); have hcz119_1 := bc_ BK322.out 1 (.int .i64 t316); have hcz119_2 := bc_ BK322.out 2 (.slice Ao106 t317.length co106); have hfz119_0 := blk_frozen BK322.out 0; have hfz119_1 := blk_frozen BK322.out 1; have hfz119_2 := blk_frozen BK322.out 2) | (go_at_call 59; (with_reducible refine (laws_b10Ints.calls k3 _ _ t309 _ _ t317 true _ ?side1 ?side2 ?side3 ?side4 A82.out).mono ?_); (case side1 => refine (Kd.R_reads' (e := 2) (base := w.heap.size) (ok := fun k_ => ((((((True ∧ some k_ ≠ (.slice Ao11 t281.length co11 : Value).ownBlock) ∧ some k_ ≠ (.slice Ao36 x286002_1.length co36 : Value).ownBlock) ∧ some k_ ≠ (.slice Ao34 t292.length co34 : Value).ownBlock) ∧ some k_ ≠ (.slice Ao43 t299.length co43 : Value).ownBlock) ∧ some k_ ≠ (.slice Ao106 t317.length co106 : Value).ownBlock) ∧ some k_ ≠ (.slice Ao117 t325.length co117 : Value).ownBlock)) (n := t309.length) (c := co96) ?_).2.2; exact (rx_ HO311.out BK329.out)); (case side2 => exact (Kd.R_reads' HO311.out).2.1); (case side3 => refine (Kd.R_reads' (e := 2) (base := w.heap.size) (ok := fun k_ => ((((((True ∧ some k_ ≠ (.slice Ao11 t281.length co11 : Value).ownBlock) ∧ some k_ ≠ (.slice Ao36 x286002_1.length co36 : Value).ownBlock) ∧ some k_ ≠ (.slice Ao34 t292.length co34 : Value).ownBlock) ∧ some k_ ≠ (.slice Ao43 t299.length co43 : Value).ownBlock) ∧ some k_ ≠ (.slice Ao96 t309.length co96 : Value).ownBlock) ∧ some k_ ≠ (.slice Ao117 t325.length co117 : Value).ownBlock)) (n := t317.length) (c := co106) ?_).2.2; exact (rx_ HO319.out BK329.out)); (case side4 => exact (Kd.R_reads' HO319.out).2.1); rintro e w' ⟨rfl, ⟨nd, rfl⟩⟩) | (go_at_call 59; (with_reducible refine (laws_b10Ints.calls k3 _ _ t325 _ _ t309 t331 _ ?side1 ?side2 ?side3 ?side4 A84.out).mono ?_); (case side1 => refine (Kd.R_reads' (e := 2) (base := w.heap.size) (ok := fun k_ => ((((((True ∧ some k_ ≠ (.slice Ao11 t281.length co11 : Value).ownBlock) ∧ some k_ ≠ (.slice Ao36 x286002_1.length co36 : Value).ownBlock) ∧ some k_ ≠ (.slice Ao34 t292.length co34 : Value).ownBlock) ∧ some k_ ≠ (.slice Ao43 t299.length co43 : Value).ownBlock) ∧ some k_ ≠ (.slice Ao96 t309.length co96 : Value).ownBlock) ∧ some k_ ≠ (.slice Ao106 t317.length co106 : Value).ownBlock)) (n := t325.length) (c := co117) ?_).2.2; exact (rx_ HO327.out BK329.out)); (case side2 => exact (Kd.R_reads' HO327.out).2.1); (case side3 => refine (Kd.R_reads' (e := 2) (base := w.heap.size) (ok := fun k_ => ((((((True ∧ some k_ ≠ (.slice Ao11 t281.length co11 : Value).ownBlock) ∧ some k_ ≠ (.slice Ao36 x286002_1.length co36 : Value).ownBlock) ∧ some k_ ≠ (.slice Ao34 t292.length co34 : Value).ownBlock) ∧ some k_ ≠ (.slice Ao43 t299.length co43 : Value).ownBlock) ∧ some k_ ≠ (.slice Ao106 t317.length co106 : Value).ownBlock) ∧ some k_ ≠ (.slice Ao117 t325.length co117 : Value).ownBlock)) (n := t309.length) (c := co96) ?_).2.2; exact (rx_ HO311.out BK329.out)); (case side4 => exact (Kd.R_reads' HO311.out).2.1); rintro e w' ⟨rfl, ⟨nd, rfl⟩⟩))
                                go_ret
                                exact ⟨by first | rfl | (simp [errW_none, errW_some] <;> rfl) | (simp [*, errW_none, errW_some] <;> rfl), bk_ HB.out⟩
                              · replace c83 := Bool.eq_false_iff.mpr c83
                                subst c83
                                have H1 : (some false) = some r := by rw [if_neg (show ¬ (false = true) by decide)] at H; exact H
                                clear H
                                have H := H1
                                clear H1
                                exact absurd (Option.some.inj H) (by rw [hr_]; decide)
                            · rw [if_neg c81] at H
                              have c81b0 : (t312 == t320) = false := beq_eq_false_iff_ne.mpr c81
                              have c81b1 : (t312 != t320) = true := bne_iff_ne.mpr c81
                              exact absurd (Option.some.inj H) (by rw [hr_]; decide)
                          · replace c80 := Bool.eq_false_iff.mpr c80
                            subst c80
                            have H1 : (some false) = some r := by rw [if_neg (show ¬ (false = true) by decide)] at H; exact H
                            clear H
                            have H := H1
                            clear H1
                            exact absurd (Option.some.inj H) (by rw [hr_]; decide)
                        · replace c78 := Bool.eq_false_iff.mpr c78
                          subst c78
                          have H1 : (some true) = some r := by rw [if_neg (show ¬ (false = true) by decide)] at H; exact H
                          clear H
                          have H := H1
                          clear H1
                          obtain rfl := Option.some.inj H
                          go_wp2_with (first | ((with_reducible refine gate_callee (f := 57) rfl ?_); refine goesL_ (some 112) rfl rfl Try.func57 (by kernel_rfl) rfl #[.slice A1 l1.length c1, .int .i64 2, .int .i64 2] rfl (by (try simp only [List.map_toArray, List.map_cons, List.map_nil]); first | done | rfl | (simp only [List.length_drop, List.length_take]; rfl)) ?_; (with_reducible refine (laws_b10At.calls _ _ l1 2 2 t306 _ ?side1 ?side2 A74.out).mono ?_); (case side1 => exact ck_ (Kd.C_below HR1.out HB.out)); (case side2 => exact HC1.out); rintro e w' ⟨rfl, ⟨nd, rfl⟩⟩; refine ⟨_, rfl, ?_⟩; (try (rw [drewN_self wr]; generalize hq_ : World.drewN wr _ = wr; have n0_ : Aside0 (Kd.R (Kd.int .i64) 2 wr w.heap.size (fun k_ => some k_ ≠ (.slice Ao36 x286002_1.length co36 : Value).ownBlock ∧ some k_ ≠ (.slice Ao34 t292.length co34 : Value).ownBlock ∧ some k_ ≠ (.slice Ao43 t299.length co43 : Value).ownBlock) (.slice Ao11 t281.length co11) t281) := ⟨by rw [← hq_]; exact (rk_ HO_285002.out)⟩; have n1_ : Aside0 (Kd.R (Kd.int .i64) 2 wr w.heap.size (fun k_ => some k_ ≠ (.slice Ao11 t281.length co11 : Value).ownBlock ∧ some k_ ≠ (.slice Ao34 t292.length co34 : Value).ownBlock ∧ some k_ ≠ (.slice Ao43 t299.length co43 : Value).ownBlock) (.slice Ao36 x286002_1.length co36) x286002_1) := ⟨by rw [← hq_]; exact (rk_ HO_286002.out)⟩; have n2_ : Aside0 (Kd.R (Kd.int .i64) 2 wr w.heap.size (fun k_ => some k_ ≠ (.slice Ao11 t281.length co11 : Value).ownBlock ∧ some k_ ≠ (.slice Ao36 x286002_1.length co36 : Value).ownBlock ∧ some k_ ≠ (.slice Ao43 t299.length co43 : Value).ownBlock) (.slice Ao34 t292.length co34) t292) := ⟨by rw [← hq_]; exact (rk_ HO_297002.out)⟩; have n3_ : Aside0 (Kd.R (Kd.int .i64) 2 wr w.heap.size (fun k_ => some k_ ≠ (.slice Ao11 t281.length co11 : Value).ownBlock ∧ some k_ ≠ (.slice Ao36 x286002_1.length co36 : Value).ownBlock ∧ some k_ ≠ (.slice Ao34 t292.length co34 : Value).ownBlock) (.slice Ao43 t299.length co43) t299) := ⟨by rw [← hq_]; exact (rk_ HO_304002.out)⟩; have n4_ : Aside0 (wr.heap[gb284]? = some (.cells #[.int .i64 t279, .int .i64 t280, .slice Ao11 t281.length co11] 28 (0, 0))) := ⟨by rw [← hq_]; exact (pk_ BK284.out)⟩; have n5_ : Aside0 (wr.heap[gb285]? = some (.cells #[.int .i64 (wrap64 (1 + t277)), .int .i64 (wrap64 (1 + t278)), .slice Ao36 x286002_1.length co36] 28 (0, 0))) := ⟨by rw [← hq_]; exact (pk_ BK285.out)⟩; have n6_ : Aside0 (wr.heap[gb296]? = some (.cells #[.int .i64 t290, .int .i64 t291, .slice Ao34 t292.length co34] 28 (0, 0))) := ⟨by rw [← hq_]; exact (pk_ BK296.out)⟩; have n7_ : Aside0 (wr.heap[gb303]? = some (.cells #[.int .i64 t297, .int .i64 t298, .slice Ao43 t299.length co43] 28 (0, 0))) := ⟨by rw [← hq_]; exact (pk_ BK303.out)⟩; have n8_ : Aside0 (Below w.heap.size w wr) := ⟨by rw [← hq_]; exact (bk_ HB.out)⟩; clear HO_285002 HO_286002 HO_297002 HO_304002 BK284 BK285 BK296 BK303 HB hq_; have HO_285002 := n0_; have HO_286002 := n1_; have HO_297002 := n2_; have HO_304002 := n3_; have BK284 := n4_; have BK285 := n5_; have BK296 := n6_; have BK303 := n7_; have HB := n8_; clear n0_ n1_ n2_ n3_ n4_ n5_ n6_ n7_ n8_)); have hnb120 := NB284_285.out; have hnc120 := NB285_284.out; have hnb121 := NB284_296.out; have hnc121 := NB296_284.out; have hnb122 := NB284_303.out; have hnc122 := NB303_284.out; have hcz123_0 := bc_ BK284.out 0 (.int .i64 t279); have hcz123_1 := bc_ BK284.out 1 (.int .i64 t280); have hcz123_2 := bc_ BK284.out 2 (.slice Ao11 t281.length co11); have hfz123_0 := blk_frozen BK284.out 0; have hfz123_1 := blk_frozen BK284.out 1; have hfz123_2 := blk_frozen BK284.out 2) | ((with_reducible refine gate_callee (f := 51) rfl ?_); refine goesL_ (some 117) rfl rfl Try.func51 (by kernel_rfl) rfl #[.agg #[.int .i64 t279, .int .i64 t280, .slice Ao11 t281.length co11], .bool (t306 == 0), .int .i64 20] rfl (by (try simp only [List.map_toArray, List.map_cons, List.map_nil]); first | done | rfl | (simp only [List.length_drop, List.length_take]; rfl)) ?_; (with_reducible refine (impl_VoteRun.calls k3 t279 t280 _ _ t281 (t306 == 0) 20 t307 t308 t309 t312 false _ ?side1 ?side2 A75.out).mono ?_); (case side1 => repeat (first | exact (Kd.R_reads' HO_285002.out).2.2 | (with_reducible refine Kd.C_alloc ?_ _) | (with_reducible refine Kd.C_drewN ?_ _) | (with_reducible refine Kd.C_drew ?_))); (case side2 => exact (Kd.R_reads' HO_285002.out).2.1); rintro e w124 ⟨v310, rfl, ho0, hb⟩; refine ⟨_, rfl, ?_⟩; have n0_ := Aside0.mk (Kd.R_elder' (rk_ HO_285002.out) (Kd.R_base ho0) hb); have n1_ := Aside0.mk (Kd.R_elder' (rk_ HO_286002.out) (Kd.R_base ho0) hb); have n2_ := Aside0.mk (Kd.R_elder' (rk_ HO_297002.out) (Kd.R_base ho0) hb); have n3_ := Aside0.mk (Kd.R_elder' (rk_ HO_304002.out) (Kd.R_base ho0) hb); have n4_ := Aside0.mk (Kd.R_lower (Kd.R_new' (Kd.R_new' (Kd.R_new' (Kd.R_new' ho0 (Kd.R_lt (rk_ HO_285002.out))) (Kd.R_lt (rk_ HO_286002.out))) (Kd.R_lt (rk_ HO_297002.out))) (Kd.R_lt (rk_ HO_304002.out))) (below_size (bk_ HB.out))); have n5_ := Aside0.mk (bb_ BK284.out hb); have n6_ := Aside0.mk (bb_ BK285.out hb); have n7_ := Aside0.mk (bb_ BK296.out hb); have n8_ := Aside0.mk (bb_ BK303.out hb); have n9_ := Aside0.mk (below_step (bk_ HB.out) hb); clear HO_285002; clear HO_286002; clear HO_297002; clear HO_304002; clear BK284; clear BK285; clear BK296; clear BK303; clear HB; have HO_285002 := n0_; have HO_286002 := n1_; have HO_297002 := n2_; have HO_304002 := n3_; have HO311 := n4_; have BK284 := n5_; have BK285 := n6_; have BK296 := n7_; have BK303 := n8_; have HB := n9_; clear n0_ n1_ n2_ n3_ n4_ n5_ n6_ n7_ n8_ n9_; (try clear hb); (try clear hb2); (try clear hk); (try clear hi); (try clear ho0)) | ((with_reducible refine gate_dst (N := 16) rfl ?_); (try (refine gate_guard (by rfl) ?_; dsimp only)); refine box_event ?hg (N := 16) ?hd (cs := #[.int .i64 0, .int .i64 0, .slice none 0 0]) (t := 28) ?hr ?_; (case hd => rfl); (case hg => rfl); (case hr => first | (go_simp; done) | (go_simp; rfl)); intro gb314 hg w125 hbox hb; have n0_ := Aside0.mk (Kd.R_below (rk_ HO_285002.out) hb); have n1_ := Aside0.mk (Kd.R_below (rk_ HO_286002.out) hb); have n2_ := Aside0.mk (Kd.R_below (rk_ HO_297002.out) hb); have n3_ := Aside0.mk (Kd.R_below (rk_ HO_304002.out) hb); have n4_ := Aside0.mk (Kd.R_below (rk_ HO311.out) hb); have n5_ := Aside0.mk (bb_ BK284.out hb); have n6_ := Aside0.mk (bb_ BK285.out hb); have n7_ := Aside0.mk (bb_ BK296.out hb); have n8_ := Aside0.mk (bb_ BK303.out hb); have n9_ := Aside0.mk (below_step (bk_ HB.out) hb); have n10_ := Aside0.mk (hbox); have n11_ := Aside0.mk ((by rw [hg]; exact (below_size (bk_ HB.out)) : w.heap.size ≤ gb314)); have n12_ := Aside0.mk ((by rw [hg]; exact (below_size (bk_ HB.out)) : w.heap.size ≤ gb314)); have n13_ := Aside0.mk ((by rw [hg]; exact Nat.ne_of_lt (bl_ BK284.out) : gb284 ≠ gb314)); have n14_ := Aside0.mk ((by rw [hg]; exact Nat.ne_of_gt (bl_ BK284.out) : gb314 ≠ gb284)); have n15_ := Aside0.mk ((by rw [hg]; exact Nat.ne_of_lt (bl_ BK285.out) : gb285 ≠ gb314)); have n16_ := Aside0.mk ((by rw [hg]; exact Nat.ne_of_gt (bl_ BK285.out) : gb314 ≠ gb285)); have n17_ := Aside0.mk ((by rw [hg]; exact Nat.ne_of_lt (bl_ BK296.out) : gb296 ≠ gb314)); have n18_ := Aside0.mk ((by rw [hg]; exact Nat.ne_of_gt (bl_ BK296.out) : gb314 ≠ gb296)); have n19_ := Aside0.mk ((by rw [hg]; exact Nat.ne_of_lt (bl_ BK303.out) : gb303 ≠ gb314)); have n20_ := Aside0.mk ((by rw [hg]; exact Nat.ne_of_gt (bl_ BK303.out) : gb314 ≠ gb303)); clear HO_285002; clear HO_286002; clear HO_297002; clear HO_304002; clear HO311; clear BK284; clear BK285; clear BK296; clear BK303; clear HB; have HO_285002 := n0_; have HO_286002 := n1_; have HO_297002 := n2_; have HO_304002 := n3_; have HO311 := n4_; have BK284 := n5_; have BK285 := n6_; have BK296 := n7_; have BK303 := n8_; have HB := n9_; have BK314 := n10_; have GW314 := n11_; have GE314 := n12_; have NB284_314 := n13_; have NB314_284 := n14_; have NB285_314 := n15_; have NB314_285 := n16_; have NB296_314 := n17_; have NB314_296 := n18_; have NB303_314 := n19_; have NB314_303 := n20_; clear n0_ n1_ n2_ n3_ n4_ n5_ n6_ n7_ n8_ n9_ n10_ n11_ n12_ n13_ n14_ n15_ n16_ n17_ n18_ n19_ n20_; clear hb hbox hg; have hnb126 := NB314_284.out; have hnc126 := NB284_314.out; have hnb127 := NB314_285.out; have hnc127 := NB285_314.out; have hnb128 := NB314_296.out; have hnc128 := NB296_314.out; have hnb129 := NB314_303.out; have hnc129 := NB303_314.out; have hcz130_0 := bc_ BK314.out 0 (.int .i64 0); have hcz130_1 := bc_ BK314.out 1 (.int .i64 0); have hcz130_2 := bc_ BK314.out 2 (.slice none 0 0); have hfz130_0 := blk_frozen BK314.out 0; have hfz130_1 := blk_frozen BK314.out 1; have hfz130_2 := blk_frozen BK314.out 2; obtain ⟨Ao131, co131, eo131⟩ := Kd.R_slice HO311.out; subst eo131; have hcz132_0 := bc_ BK284.out 0 (.int .i64 t279); have hcz132_1 := bc_ BK284.out 1 (.int .i64 t280); have hcz132_2 := bc_ BK284.out 2 (.slice Ao11 t281.length co11); have hfz132_0 := blk_frozen BK284.out 0; have hfz132_1 := blk_frozen BK284.out 1; have hfz132_2 := blk_frozen BK284.out 2) | ((with_reducible refine gate_callee (f := 50) rfl ?_); refine goesL_ (some 124) rfl rfl Try.func50 (by kernel_rfl) rfl #[.agg #[.int .i64 t279, .int .i64 t280, .slice Ao11 t281.length co11], .bool (t306 == 0), .int .i64 20] rfl (by (try simp only [List.map_toArray, List.map_cons, List.map_nil]); first | done | rfl | (simp only [List.length_drop, List.length_take]; rfl)) ?_; (with_reducible refine (spec_VoteRun.calls k3 t279 t280 _ _ t281 (t306 == 0) 20 t315 t316 t317 t320 t321 _ ?side1 ?side2 A76.out).mono ?_); (case side1 => refine (Kd.R_reads' (e := 2) (base := w.heap.size) (ok := fun k_ => ((some k_ ≠ (.slice Ao36 x286002_1.length co36 : Value).ownBlock ∧ (some k_ ≠ (.slice Ao34 t292.length co34 : Value).ownBlock ∧ some k_ ≠ (.slice Ao43 t299.length co43 : Value).ownBlock)) ∧ some k_ ≠ (.slice Ao131 t309.length co131 : Value).ownBlock)) (n := t281.length) (c := co11) ?_).2.2; exact (rx_ HO_285002.out BK314.out)); (case side2 => exact (Kd.R_reads' HO_285002.out).2.1); rintro e w133 ⟨v318, rfl, ho0, hb⟩; refine ⟨_, rfl, ?_⟩; have n0_ := Aside0.mk (Kd.R_elder' (rx_ HO_285002.out BK314.out) (Kd.R_base ho0) hb); have n1_ := Aside0.mk (Kd.R_elder' (rx_ HO_286002.out BK314.out) (Kd.R_base ho0) hb); have n2_ := Aside0.mk (Kd.R_elder' (rx_ HO_297002.out BK314.out) (Kd.R_base ho0) hb); have n3_ := Aside0.mk (Kd.R_elder' (rx_ HO_304002.out BK314.out) (Kd.R_base ho0) hb); have n4_ := Aside0.mk (Kd.R_elder' (rx_ HO311.out BK314.out) (Kd.R_base ho0) hb); have n5_ := Aside0.mk (Kd.R_lower (Kd.R_new' (Kd.R_new' (Kd.R_new' (Kd.R_new' (Kd.R_new' ho0 (Kd.R_lt (rx_ HO_285002.out BK314.out))) (Kd.R_lt (rx_ HO_286002.out BK314.out))) (Kd.R_lt (rx_ HO_297002.out BK314.out))) (Kd.R_lt (rx_ HO_304002.out BK314.out))) (Kd.R_lt (rx_ HO311.out BK314.out))) (below_size (bk_ HB.out))); have n6_ := Aside0.mk (blk_below (g := gb284) (o := .cells #[.int .i64 t279, .int .i64 t280, .slice Ao11 t281.length co11] 28 (0, 0)) (by (with_reducible repeat (first | refine blk_drewN ?_ _ | refine blk_drew ?_ | refine blk_alloc ?_ _)); refine blk_far ?_ NB284_314.out _; (with_reducible repeat (first | refine blk_drewN ?_ _ | refine blk_drew ?_ | refine blk_alloc ?_ _)); refine blk_far ?_ NB284_314.out _; (with_reducible repeat (first | refine blk_drewN ?_ _ | refine blk_drew ?_ | refine blk_alloc ?_ _)); refine blk_far ?_ NB284_314.out _; (with_reducible repeat (first | refine blk_drewN ?_ _ | refine blk_drew ?_ | refine blk_alloc ?_ _)); exact BK284.out) hb); have n7_ := Aside0.mk (blk_below (g := gb285) (o := .cells #[.int .i64 (wrap64 (1 + t277)), .int .i64 (wrap64 (1 + t278)), .slice Ao36 x286002_1.length co36] 28 (0, 0)) (by (with_reducible repeat (first | refine blk_drewN ?_ _ | refine blk_drew ?_ | refine blk_alloc ?_ _)); refine blk_far ?_ NB285_314.out _; (with_reducible repeat (first | refine blk_drewN ?_ _ | refine blk_drew ?_ | refine blk_alloc ?_ _)); refine blk_far ?_ NB285_314.out _; (with_reducible repeat (first | refine blk_drewN ?_ _ | refine blk_drew ?_ | refine blk_alloc ?_ _)); refine blk_far ?_ NB285_314.out _; (with_reducible repeat (first | refine blk_drewN ?_ _ | refine blk_drew ?_ | refine blk_alloc ?_ _)); exact BK285.out) hb); have n8_ := Aside0.mk (blk_below (g := gb296) (o := .cells #[.int .i64 t290, .int .i64 t291, .slice Ao34 t292.length co34] 28 (0, 0)) (by (with_reducible repeat (first | refine blk_drewN ?_ _ | refine blk_drew ?_ | refine blk_alloc ?_ _)); refine blk_far ?_ NB296_314.out _; (with_reducible repeat (first | refine blk_drewN ?_ _ | refine blk_drew ?_ | refine blk_alloc ?_ _)); refine blk_far ?_ NB296_314.out _; (with_reducible repeat (first | refine blk_drewN ?_ _ | refine blk_drew ?_ | refine blk_alloc ?_ _)); refine blk_far ?_ NB296_314.out _; (with_reducible repeat (first | refine blk_drewN ?_ _ | refine blk_drew ?_ | refine blk_alloc ?_ _)); exact BK296.out) hb); have n9_ := Aside0.mk (blk_below (g := gb303) (o := .cells #[.int .i64 t297, .int .i64 t298, .slice Ao43 t299.length co43] 28 (0, 0)) (by (with_reducible repeat (first | refine blk_drewN ?_ _ | refine blk_drew ?_ | refine blk_alloc ?_ _)); refine blk_far ?_ NB303_314.out _; (with_reducible repeat (first | refine blk_drewN ?_ _ | refine blk_drew ?_ | refine blk_alloc ?_ _)); refine blk_far ?_ NB303_314.out _; (with_reducible repeat (first | refine blk_drewN ?_ _ | refine blk_drew ?_ | refine blk_alloc ?_ _)); refine blk_far ?_ NB303_314.out _; (with_reducible repeat (first | refine blk_drewN ?_ _ | refine blk_drew ?_ | refine blk_alloc ?_ _)); exact BK303.out) hb); have n10_ := Aside0.mk (blk_below (g := gb314) (o := .cells #[.int .i64 t307, .int .i64 t308, .slice Ao131 t309.length co131] 28 (0, 0)) (by (with_reducible repeat (first | refine blk_drewN ?_ _ | refine blk_drew ?_ | refine blk_alloc ?_ _)); refine blk_put (cs := #[.int .i64 t307, .int .i64 t308, .slice none 0 0]) ?_ 2 _ rfl; (with_reducible repeat (first | refine blk_drewN ?_ _ | refine blk_drew ?_ | refine blk_alloc ?_ _)); refine blk_put (cs := #[.int .i64 t307, .int .i64 0, .slice none 0 0]) ?_ 1 _ rfl; (with_reducible repeat (first | refine blk_drewN ?_ _ | refine blk_drew ?_ | refine blk_alloc ?_ _)); refine blk_put (cs := #[.int .i64 0, .int .i64 0, .slice none 0 0]) ?_ 0 _ rfl; (with_reducible repeat (first | refine blk_drewN ?_ _ | refine blk_drew ?_ | refine blk_alloc ?_ _)); exact BK314.out) hb); have n11_ := Aside0.mk (below_step (bk_ HB.out) hb); clear HO_285002; clear HO_286002; clear HO_297002; clear HO_304002; clear HO311; clear BK284; clear BK285; clear BK296; clear BK303; clear BK314; clear HB; have HO_285002 := n0_; have HO_286002 := n1_; have HO_297002 := n2_; have HO_304002 := n3_; have HO311 := n4_; have HO319 := n5_; have BK284 := n6_; have BK285 := n7_; have BK296 := n8_; have BK303 := n9_; have BK314 := n10_; have HB := n11_; clear n0_ n1_ n2_ n3_ n4_ n5_ n6_ n7_ n8_ n9_ n10_ n11_; (try clear hb); (try clear hb2); (try clear hk); (try clear hi); (try clear ho0)) | ((with_reducible refine gate_dst (N := 19) rfl ?_); (try (refine gate_guard (by rfl) ?_; dsimp only)); refine box_event ?hg (N := 19) ?hd (cs := #[.int .i64 0, .int .i64 0, .slice none 0 0]) (t := 28) ?hr ?_; (case hd => rfl); (case hg => rfl); (case hr => first | (go_simp; done) | (go_simp; rfl)); intro gb322 hg w134 hbox hb; have n0_ := Aside0.mk (Kd.R_below (rk_ HO_285002.out) hb); have n1_ := Aside0.mk (Kd.R_below (rk_ HO_286002.out) hb); have n2_ := Aside0.mk (Kd.R_below (rk_ HO_297002.out) hb); have n3_ := Aside0.mk (Kd.R_below (rk_ HO_304002.out) hb); have n4_ := Aside0.mk (Kd.R_below (rk_ HO311.out) hb); have n5_ := Aside0.mk (Kd.R_below (rk_ HO319.out) hb); have n6_ := Aside0.mk (bb_ BK284.out hb); have n7_ := Aside0.mk (bb_ BK285.out hb); have n8_ := Aside0.mk (bb_ BK296.out hb); have n9_ := Aside0.mk (bb_ BK303.out hb); have n10_ := Aside0.mk (bb_ BK314.out hb); have n11_ := Aside0.mk (below_step (bk_ HB.out) hb); have n12_ := Aside0.mk (hbox); have n13_ := Aside0.mk ((by rw [hg]; exact (below_size (bk_ HB.out)) : w.heap.size ≤ gb322)); have n14_ := Aside0.mk ((by rw [hg]; exact (below_size (bk_ HB.out)) : w.heap.size ≤ gb322)); have n15_ := Aside0.mk ((by rw [hg]; exact Nat.ne_of_lt (bl_ BK284.out) : gb284 ≠ gb322)); have n16_ := Aside0.mk ((by rw [hg]; exact Nat.ne_of_gt (bl_ BK284.out) : gb322 ≠ gb284)); have n17_ := Aside0.mk ((by rw [hg]; exact Nat.ne_of_lt (bl_ BK285.out) : gb285 ≠ gb322)); have n18_ := Aside0.mk ((by rw [hg]; exact Nat.ne_of_gt (bl_ BK285.out) : gb322 ≠ gb285)); have n19_ := Aside0.mk ((by rw [hg]; exact Nat.ne_of_lt (bl_ BK296.out) : gb296 ≠ gb322)); have n20_ := Aside0.mk ((by rw [hg]; exact Nat.ne_of_gt (bl_ BK296.out) : gb322 ≠ gb296)); have n21_ := Aside0.mk ((by rw [hg]; exact Nat.ne_of_lt (bl_ BK303.out) : gb303 ≠ gb322)); have n22_ := Aside0.mk ((by rw [hg]; exact Nat.ne_of_gt (bl_ BK303.out) : gb322 ≠ gb303)); have n23_ := Aside0.mk ((by rw [hg]; exact Nat.ne_of_lt (bl_ BK314.out) : gb314 ≠ gb322)); have n24_ := Aside0.mk ((by rw [hg]; exact Nat.ne_of_gt (bl_ BK314.out) : gb322 ≠ gb314)); clear HO_285002; clear HO_286002; clear HO_297002; clear HO_304002; clear HO311; clear HO319; clear BK284; clear BK285; clear BK296; clear BK303; clear BK314; clear HB; have HO_285002 := n0_; have HO_286002 := n1_; have HO_297002 := n2_; have HO_304002 := n3_; have HO311 := n4_; have HO319 := n5_; have BK284 := n6_; have BK285 := n7_; have BK296 := n8_; have BK303 := n9_; have BK314 := n10_; have HB := n11_; have BK322 := n12_; have GW322 := n13_; have GE322 := n14_; have NB284_322 := n15_; have NB322_284 := n16_; have NB285_322 := n17_; have NB322_285 := n18_; have NB296_322 := n19_; have NB322_296 := n20_; have NB303_322 := n21_; have NB322_303 := n22_; have NB314_322 := n23_; have NB322_314 := n24_; clear n0_ n1_ n2_ n3_ n4_ n5_ n6_ n7_ n8_ n9_ n10_ n11_ n12_ n13_ n14_ n15_ n16_ n17_ n18_ n19_ n20_ n21_ n22_ n23_ n24_; clear hb hbox hg; have hnb135 := NB322_284.out; have hnc135 := NB284_322.out; have hnb136 := NB322_285.out; have hnc136 := NB285_322.out; have hnb137 := NB322_296.out; have hnc137 := NB296_322.out; have hnb138 := NB322_303.out; have hnc138 := NB303_322.out; have hnb139 := NB322_314.out; have hnc139 := NB314_322.out; have hcz140_0 := bc_ BK322.out 0 (.int .i64 0); have hcz140_1 := bc_ BK322.out 1 (.int .i64 0); have hcz140_2 := bc_ BK322.out 2 (.slice none 0 0); have hfz140_0 := blk_frozen BK322.out 0; have hfz140_1 := blk_frozen BK322.out 1; have hfz140_2 := blk_frozen BK322.out 2; obtain ⟨Ao141, co141, eo141⟩ := Kd.R_slice HO319.out; subst eo141))
                          go_ret
                          exact ⟨by first | rfl | (simp [errW_none, errW_some] <;> rfl) | (simp [*, errW_none, errW_some] <;> rfl), bk_ HB.out⟩

/-- THE ONE PURE STATEMENT of laws_FnVoted: yours. -/
def laws_FnVoted.Pure : Prop := ∀ (l0 : List Int) (l1 : List Int), l0.length ≤ maxLen → l0.length * 1 ≤ 140737488351232 → (∀ x ∈ l0, (Lit.int .u8 x).wf = true) → l1.length ≤ maxLen → l1.length * 1 ≤ 140737488351232 → (∀ x ∈ l1, (Lit.int .u8 x).wf = true) → ∃ k, laws_FnVoted.f k l0 l1 = some true
theorem laws_FnVoted.walk (P : laws_FnVoted.Pure) (a0 : Option Addr) (len0 cap0 : Nat) (z0 : List Int) (a1 : Option Addr) (len1 cap1 : Nat) (z1 : List Int) (w : World) (w0 : (a0 = none ∧ len0 = 0 ∧ cap0 = 0 ∧ z0 = []) ∨ ∃ x, a0 = some x ∧ len0 ≤ cap0 ∧ cap0 ≤ maxLen ∧ z0.length = cap0 ∧ (∀ i, i < z0.length → w.cell? (x.add i) = some (.int .u8 (z0.getD i 0))) ∧ ∀ n ∈ z0, (Lit.int .u8 n).wf = true) (y0 : len0 * 1 ≤ 140737488351232) (w1 : (a1 = none ∧ len1 = 0 ∧ cap1 = 0 ∧ z1 = []) ∨ ∃ x, a1 = some x ∧ len1 ≤ cap1 ∧ cap1 ≤ maxLen ∧ z1.length = cap1 ∧ (∀ i, i < z1.length → w.cell? (x.add i) = some (.int .u8 (z1.getD i 0))) ∧ ∀ n ∈ z1, (Lit.int .u8 n).wf = true) (y1 : len1 * 1 ≤ 140737488351232) :
    Calls Try.prog 14 #[.slice a0 len0 cap0, .slice a1 len1 cap1] w fun e w' => e = .returned (.bool true) ∧ Below w.heap.size w w' := by
  obtain ⟨l0, rfl, hr0, hm0, hw0, hc0⟩ := ReadsInt.ofRowC w0
  obtain ⟨l1, rfl, hr1, hm1, hw1, hc1⟩ := ReadsInt.ofRowC w1
  obtain ⟨k, h⟩ := P l0 l1 hm0 y0 hw0 hm1 y1 hw1
  refine (laws_FnVoted.calls k _ _ l0 _ _ l1 true w (Kd.C_of_reads (d := (0 : Int)) (h1 := fun _ => rfl) hr0) hc0 (Kd.C_of_reads (d := (0 : Int)) (h1 := fun _ => rfl) hr1) hc1 rfl h).mono ?_
  rintro e w' ⟨rfl, hd⟩
  exact ⟨rfl, hd⟩

end Go.Proofs.Ytbeinhdoggfgkaa.PFnVoted

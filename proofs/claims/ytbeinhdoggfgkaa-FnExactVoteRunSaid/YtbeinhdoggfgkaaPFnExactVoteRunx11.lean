-- Written by a program of this session (its own print).
import Derived.Test.YtbeinhdoggfgkaaPFnExactVoteRunx0
import Derived.Test.YtbeinhdoggfgkaaPFnExactVoteRunx1
import Derived.Test.YtbeinhdoggfgkaaPFnExactVoteRunx7
import Derived.Test.YtbeinhdoggfgkaaPFnExactVoteRunx10
namespace Go.Proofs.Ytbeinhdoggfgkaa.PFnExactVoteRun
open Go.RowKit Go.Proofs.YtbeinhdoggfgkaaW.PrintWords Go.Proofs.YtbeinhdoggfgkaaW.PrintLast Go.Proofs.YtbeinhdoggfgkaaW.PrintMore
attribute [local go_sem] max2_int min2_int max_two min_two max_three min_three max_four min_four   -- for this text's walks alone
set_option linter.unusedVariables false
set_option linter.unusedSimpArgs false

/-! ### laws_FnExactVoteRun: function 11 -/
mutual
def laws_FnExactVoteRun.j0 : Nat → Bool → Int → Int → Bool → Int → Bool → Bool → Int → Int → List Int → Int → Int → List Int → Int → Int → List Int → Int → Int → List Int → Option (Bool)
  | 0, _, _, _, _, _, _, _, _, _, _, _, _, _, _, _, _, _, _, _ => none
  | k + 1, x1, x2, x9, x10, x13, x14, x58, x255000, x255001, x255002, x269000, x269001, x269002, x275000, x275001, x275002, x283000, x283001, x283002 => if x58 = true then (some false) else ((laws_toField.f k x255000 x255001 x255002).bind fun bt284 => ((laws_eqField.f k x275000 x275001 x275002 bt284.1 bt284.2.1 bt284.2.2).bind fun t289 => (if t289 = true then ((laws_markField.f k x275000 x275001 x275002 1).bind fun bt290 => (if bt290.1 < 0 then (laws_FnExactVoteRun.j1 k x1 x2 x9 x10 true x255000 x255001 x255002 x269000 x269001 x269002 x283000 x283001 x283002) else ((laws_eqField.f k x283000 x283001 x283002 x269000 x269001 x269002).bind fun t292 => (if t292 = true then (if x13 = x9 then (laws_FnExactVoteRun.j1 k x1 x2 x9 x10 (x14 != x10) x255000 x255001 x255002 x269000 x269001 x269002 x283000 x283001 x283002) else (laws_FnExactVoteRun.j1 k x1 x2 x9 x10 true x255000 x255001 x255002 x269000 x269001 x269002 x283000 x283001 x283002)) else (laws_FnExactVoteRun.j1 k x1 x2 x9 x10 true x255000 x255001 x255002 x269000 x269001 x269002 x283000 x283001 x283002))))) else (some false))))
def laws_FnExactVoteRun.j1 : Nat → Bool → Int → Int → Bool → Bool → Int → Int → List Int → Int → Int → List Int → Int → Int → List Int → Option (Bool)
  | 0, _, _, _, _, _, _, _, _, _, _, _, _, _, _ => none
  | k + 1, x1, x2, x9, x10, x84, x255000, x255001, x255002, x269000, x269001, x269002, x283000, x283001, x283002 => if x84 = true then (some false) else ((laws_markField.f k x283000 x283001 x283002 1).bind fun bt293 => ((laws_heldField.f k x283000 x283001 bt293.2 1).bind fun t295 => (if t295 < 0 then (some false) else (if t295 = bt293.1 then ((laws_toField.f k x255000 x255001 x255002).bind fun bt296 => ((impl_VoteRun.f k bt296.1 bt296.2.1 bt296.2.2 x1 x2).bind fun bt301 => ((laws_eqField.f k bt301.1 bt301.2.1 bt301.2.2.1 x269000 x269001 x269002).bind fun t309 => (if t309 = true then (if bt301.2.2.2.1 = x9 then (laws_FnExactVoteRun.j2 k bt293.1 (bt301.2.2.2.2 != x10) x283000 x283001 bt293.2) else (laws_FnExactVoteRun.j2 k bt293.1 true x283000 x283001 bt293.2)) else (laws_FnExactVoteRun.j2 k bt293.1 true x283000 x283001 bt293.2))))) else (some false)))))
def laws_FnExactVoteRun.j2 : Nat → Int → Bool → Int → Int → List Int → Option (Bool)
  | 0, _, _, _, _, _ => none
  | k + 1, x16, x118, x283000, x283001, x283002 => if x118 = true then (some false) else ((laws_heldField.f k x283000 x283001 x283002 1).bind fun t310 => (if t310 < 0 then (some false) else (if t310 = x16 then (some true) else (some false))))
end
def laws_FnExactVoteRun.f (k : Nat) (a0_0 : Int) (a0_1 : Int) (l0_2 : List Int) (a1 : Bool) (a2 : Int) : Option (Bool) := (laws_szField.f a0_0 a0_1 l0_2 1048576).bind fun t255 => (if t255 < 0 then (some true) else ((laws_toField.f k a0_0 a0_1 l0_2).bind fun bt256 => ((spec_VoteRun.f k bt256.1 bt256.2.1 bt256.2.2 a1 a2).bind fun bt261 => ((laws_toField.f k a0_0 a0_1 l0_2).bind fun bt269 => ((impl_VoteRun.f k bt269.1 bt269.2.1 bt269.2.2 a1 a2).bind fun bt275 => ((laws_eqField.f k bt275.1 bt275.2.1 bt275.2.2.1 bt261.1 bt261.2.1 bt261.2.2.1).bind fun t283 => (if t283 = true then (if bt275.2.2.2.1 = bt261.2.2.2.1 then (laws_FnExactVoteRun.j0 k a1 a2 bt261.2.2.2.1 bt261.2.2.2.2 bt275.2.2.2.1 bt275.2.2.2.2 (bt275.2.2.2.2 != bt261.2.2.2.2) a0_0 a0_1 l0_2 bt261.1 bt261.2.1 bt261.2.2.1 bt269.1 bt269.2.1 bt269.2.2 bt275.1 bt275.2.1 bt275.2.2.1) else (laws_FnExactVoteRun.j0 k a1 a2 bt261.2.2.2.1 bt261.2.2.2.2 bt275.2.2.2.1 bt275.2.2.2.2 true a0_0 a0_1 l0_2 bt261.1 bt261.2.1 bt261.2.2.1 bt269.1 bt269.2.1 bt269.2.2 bt275.1 bt275.2.1 bt275.2.2.1)) else (laws_FnExactVoteRun.j0 k a1 a2 bt261.2.2.2.1 bt261.2.2.2.2 bt275.2.2.2.1 bt275.2.2.2.2 true a0_0 a0_1 l0_2 bt261.1 bt261.2.1 bt261.2.2.1 bt269.1 bt269.2.1 bt269.2.2 bt275.1 bt275.2.1 bt275.2.2.1))))))))
theorem laws_FnExactVoteRun.mono_l : ∀ k, (∀ y0 y1 y2 y3 y4 y5 y6 y7 y8 y9 y10 y11 y12 y13 y14 y15 y16 y17 y18, LeO (laws_FnExactVoteRun.j0 k y0 y1 y2 y3 y4 y5 y6 y7 y8 y9 y10 y11 y12 y13 y14 y15 y16 y17 y18) (laws_FnExactVoteRun.j0 (k + 1) y0 y1 y2 y3 y4 y5 y6 y7 y8 y9 y10 y11 y12 y13 y14 y15 y16 y17 y18)) ∧ (∀ y0 y1 y2 y3 y4 y5 y6 y7 y8 y9 y10 y11 y12 y13, LeO (laws_FnExactVoteRun.j1 k y0 y1 y2 y3 y4 y5 y6 y7 y8 y9 y10 y11 y12 y13) (laws_FnExactVoteRun.j1 (k + 1) y0 y1 y2 y3 y4 y5 y6 y7 y8 y9 y10 y11 y12 y13)) ∧ (∀ y0 y1 y2 y3 y4, LeO (laws_FnExactVoteRun.j2 k y0 y1 y2 y3 y4) (laws_FnExactVoteRun.j2 (k + 1) y0 y1 y2 y3 y4))
  | 0 => ⟨fun _ _ _ _ _ _ _ _ _ _ _ _ _ _ _ _ _ _ _ r h => by simp [laws_FnExactVoteRun.j0] at h, fun _ _ _ _ _ _ _ _ _ _ _ _ _ _ r h => by simp [laws_FnExactVoteRun.j1] at h, fun _ _ _ _ _ r h => by simp [laws_FnExactVoteRun.j2] at h⟩
  | k + 1 => by
    obtain ⟨ih0, ih1, ih2⟩ := laws_FnExactVoteRun.mono_l k
    refine ⟨?_, ?_, ?_⟩
    · intro y0 y1 y2 y3 y4 y5 y6 y7 y8 y9 y10 y11 y12 y13 y14 y15 y16 y17 y18
      unfold laws_FnExactVoteRun.j0
      repeat' first
      | (with_reducible exact ih0 _ _ _ _ _ _ _ _ _ _ _ _ _ _ _ _ _ _ _)
      | (with_reducible exact ih1 _ _ _ _ _ _ _ _ _ _ _ _ _ _)
      | (with_reducible exact ih2 _ _ _ _ _)
      | (with_reducible exact impl_VoteRun.mono _ _ _ _ _ _)
      | (with_reducible exact laws_eqField.mono _ _ _ _ _ _ _)
      | (with_reducible exact laws_heldField.mono _ _ _ _ _)
      | (with_reducible exact laws_markField.mono _ _ _ _ _)
      | (with_reducible exact laws_toField.mono _ _ _ _)
      | (with_reducible exact spec_VoteRun.mono _ _ _ _ _ _)
      | (with_reducible exact LeO.refl _)
      | (with_reducible exact LeO.none _)
      | (with_reducible refine LeO.ite ?_ ?_)
      | (with_reducible refine LeO.bind ?_ (fun _ => ?_))
      | exact ih0 _ _ _ _ _ _ _ _ _ _ _ _ _ _ _ _ _ _ _
      | exact ih1 _ _ _ _ _ _ _ _ _ _ _ _ _ _
      | exact ih2 _ _ _ _ _
      | exact impl_VoteRun.mono _ _ _ _ _ _
      | exact laws_eqField.mono _ _ _ _ _ _ _
      | exact laws_heldField.mono _ _ _ _ _
      | exact laws_markField.mono _ _ _ _ _
      | exact laws_toField.mono _ _ _ _
      | exact spec_VoteRun.mono _ _ _ _ _ _
      | exact LeO.none _
      | refine LeO.ite ?_ ?_
      | refine LeO.bind ?_ (fun _ => ?_)
    · intro y0 y1 y2 y3 y4 y5 y6 y7 y8 y9 y10 y11 y12 y13
      unfold laws_FnExactVoteRun.j1
      repeat' first
      | (with_reducible exact ih0 _ _ _ _ _ _ _ _ _ _ _ _ _ _ _ _ _ _ _)
      | (with_reducible exact ih1 _ _ _ _ _ _ _ _ _ _ _ _ _ _)
      | (with_reducible exact ih2 _ _ _ _ _)
      | (with_reducible exact impl_VoteRun.mono _ _ _ _ _ _)
      | (with_reducible exact laws_eqField.mono _ _ _ _ _ _ _)
      | (with_reducible exact laws_heldField.mono _ _ _ _ _)
      | (with_reducible exact laws_markField.mono _ _ _ _ _)
      | (with_reducible exact laws_toField.mono _ _ _ _)
      | (with_reducible exact spec_VoteRun.mono _ _ _ _ _ _)
      | (with_reducible exact LeO.refl _)
      | (with_reducible exact LeO.none _)
      | (with_reducible refine LeO.ite ?_ ?_)
      | (with_reducible refine LeO.bind ?_ (fun _ => ?_))
      | exact ih0 _ _ _ _ _ _ _ _ _ _ _ _ _ _ _ _ _ _ _
      | exact ih1 _ _ _ _ _ _ _ _ _ _ _ _ _ _
      | exact ih2 _ _ _ _ _
      | exact impl_VoteRun.mono _ _ _ _ _ _
      | exact laws_eqField.mono _ _ _ _ _ _ _
      | exact laws_heldField.mono _ _ _ _ _
      | exact laws_markField.mono _ _ _ _ _
      | exact laws_toField.mono _ _ _ _
      | exact spec_VoteRun.mono _ _ _ _ _ _
      | exact LeO.none _
      | refine LeO.ite ?_ ?_
      | refine LeO.bind ?_ (fun _ => ?_)
    · intro y0 y1 y2 y3 y4
      unfold laws_FnExactVoteRun.j2
      repeat' first
      | (with_reducible exact ih0 _ _ _ _ _ _ _ _ _ _ _ _ _ _ _ _ _ _ _)
      | (with_reducible exact ih1 _ _ _ _ _ _ _ _ _ _ _ _ _ _)
      | (with_reducible exact ih2 _ _ _ _ _)
      | (with_reducible exact impl_VoteRun.mono _ _ _ _ _ _)
      | (with_reducible exact laws_eqField.mono _ _ _ _ _ _ _)
      | (with_reducible exact laws_heldField.mono _ _ _ _ _)
      | (with_reducible exact laws_markField.mono _ _ _ _ _)
      | (with_reducible exact laws_toField.mono _ _ _ _)
      | (with_reducible exact spec_VoteRun.mono _ _ _ _ _ _)
      | (with_reducible exact LeO.refl _)
      | (with_reducible exact LeO.none _)
      | (with_reducible refine LeO.ite ?_ ?_)
      | (with_reducible refine LeO.bind ?_ (fun _ => ?_))
      | exact ih0 _ _ _ _ _ _ _ _ _ _ _ _ _ _ _ _ _ _ _
      | exact ih1 _ _ _ _ _ _ _ _ _ _ _ _ _ _
      | exact ih2 _ _ _ _ _
      | exact impl_VoteRun.mono _ _ _ _ _ _
      | exact laws_eqField.mono _ _ _ _ _ _ _
      | exact laws_heldField.mono _ _ _ _ _
      | exact laws_markField.mono _ _ _ _ _
      | exact laws_toField.mono _ _ _ _
      | exact spec_VoteRun.mono _ _ _ _ _ _
      | exact LeO.none _
      | refine LeO.ite ?_ ?_
      | refine LeO.bind ?_ (fun _ => ?_)
theorem laws_FnExactVoteRun.mono : ∀ a0 a1 a2 a3 a4 k, LeO (laws_FnExactVoteRun.f k a0 a1 a2 a3 a4) (laws_FnExactVoteRun.f (k + 1) a0 a1 a2 a3 a4) := by
  intro a0 a1 a2 a3 a4 k
  obtain ⟨ih0, ih1, ih2⟩ := laws_FnExactVoteRun.mono_l k
  unfold laws_FnExactVoteRun.f
  repeat' first
      | (with_reducible exact ih0 _ _ _ _ _ _ _ _ _ _ _ _ _ _ _ _ _ _ _)
      | (with_reducible exact ih1 _ _ _ _ _ _ _ _ _ _ _ _ _ _)
      | (with_reducible exact ih2 _ _ _ _ _)
      | (with_reducible exact impl_VoteRun.mono _ _ _ _ _ _)
      | (with_reducible exact laws_eqField.mono _ _ _ _ _ _ _)
      | (with_reducible exact laws_heldField.mono _ _ _ _ _)
      | (with_reducible exact laws_markField.mono _ _ _ _ _)
      | (with_reducible exact laws_toField.mono _ _ _ _)
      | (with_reducible exact spec_VoteRun.mono _ _ _ _ _ _)
      | (with_reducible exact LeO.refl _)
      | (with_reducible exact LeO.none _)
      | (with_reducible refine LeO.ite ?_ ?_)
      | (with_reducible refine LeO.bind ?_ (fun _ => ?_))
      | exact ih0 _ _ _ _ _ _ _ _ _ _ _ _ _ _ _ _ _ _ _
      | exact ih1 _ _ _ _ _ _ _ _ _ _ _ _ _ _
      | exact ih2 _ _ _ _ _
      | exact impl_VoteRun.mono _ _ _ _ _ _
      | exact laws_eqField.mono _ _ _ _ _ _ _
      | exact laws_heldField.mono _ _ _ _ _
      | exact laws_markField.mono _ _ _ _ _
      | exact laws_toField.mono _ _ _ _
      | exact spec_VoteRun.mono _ _ _ _ _ _
      | exact LeO.none _
      | refine LeO.ite ?_ ?_
      | refine LeO.bind ?_ (fun _ => ?_)
set_option maxHeartbeats 8000000 in
set_option maxRecDepth 100000 in
theorem laws_FnExactVoteRun.calls (k : Nat) (a0_0 : Int) (a0_1 : Int) (A0_2 : Option Addr) (c0_2 : Nat) (l0_2 : List Int) (a1 : Bool) (a2 : Int) (r : Bool) (w : World) (hr0_2 : Kd.C (Kd.int .i64) w A0_2 l0_2.length l0_2) (hc0_2 : l0_2.length ≤ c0_2) (h : laws_FnExactVoteRun.f k a0_0 a0_1 l0_2 a1 a2 = some r) :
    Calls Try.prog 11 #[.agg #[.int .i64 a0_0, .int .i64 a0_1, .slice A0_2 l0_2.length c0_2], .bool a1, .int .i64 a2] w fun e w' => e = .returned (.bool r) ∧ Below w.heap.size w w' := by
  have hu24 := Try.underlying24
  have hu28 := Try.underlying28
  have HR0_2 := Aside0.mk hr0_2
  have HC0_2 := Aside0.mk hc0_2
  clear hr0_2 hc0_2
  have HB := Aside0.mk (Below.refl w.heap.size w)
  have H : ((laws_szField.f a0_0 a0_1 l0_2 1048576).bind fun t255 => (if t255 < 0 then (some true) else ((laws_toField.f k a0_0 a0_1 l0_2).bind fun bt256 => ((spec_VoteRun.f k bt256.1 bt256.2.1 bt256.2.2 a1 a2).bind fun bt261 => ((laws_toField.f k a0_0 a0_1 l0_2).bind fun bt269 => ((impl_VoteRun.f k bt269.1 bt269.2.1 bt269.2.2 a1 a2).bind fun bt275 => ((laws_eqField.f k bt275.1 bt275.2.1 bt275.2.2.1 bt261.1 bt261.2.1 bt261.2.2.1).bind fun t283 => (if t283 = true then (if bt275.2.2.2.1 = bt261.2.2.2.1 then (laws_FnExactVoteRun.j0 k a1 a2 bt261.2.2.2.1 bt261.2.2.2.2 bt275.2.2.2.1 bt275.2.2.2.2 (bt275.2.2.2.2 != bt261.2.2.2.2) a0_0 a0_1 l0_2 bt261.1 bt261.2.1 bt261.2.2.1 bt269.1 bt269.2.1 bt269.2.2 bt275.1 bt275.2.1 bt275.2.2.1) else (laws_FnExactVoteRun.j0 k a1 a2 bt261.2.2.2.1 bt261.2.2.2.2 bt275.2.2.2.1 bt275.2.2.2.2 true a0_0 a0_1 l0_2 bt261.1 bt261.2.1 bt261.2.2.1 bt269.1 bt269.2.1 bt269.2.2 bt275.1 bt275.2.1 bt275.2.2.1)) else (laws_FnExactVoteRun.j0 k a1 a2 bt261.2.2.2.1 bt261.2.2.2.2 bt275.2.2.2.1 bt275.2.2.2.2 true a0_0 a0_1 l0_2 bt261.1 bt261.2.1 bt261.2.2.1 bt269.1 bt269.2.1 bt269.2.2 bt275.1 bt275.2.1 bt275.2.2.1))))))))) = some r := h
  clear h
  replace H := Option.bind_eq_some_iff.mp H
  obtain ⟨t255, A40, H⟩ := H
  replace H : (if t255 < 0 then (some true) else ((laws_toField.f k a0_0 a0_1 l0_2).bind fun bt256 => ((spec_VoteRun.f k bt256.1 bt256.2.1 bt256.2.2 a1 a2).bind fun bt261 => ((laws_toField.f k a0_0 a0_1 l0_2).bind fun bt269 => ((impl_VoteRun.f k bt269.1 bt269.2.1 bt269.2.2 a1 a2).bind fun bt275 => ((laws_eqField.f k bt275.1 bt275.2.1 bt275.2.2.1 bt261.1 bt261.2.1 bt261.2.2.1).bind fun t283 => (if t283 = true then (if bt275.2.2.2.1 = bt261.2.2.2.1 then (laws_FnExactVoteRun.j0 k a1 a2 bt261.2.2.2.1 bt261.2.2.2.2 bt275.2.2.2.1 bt275.2.2.2.2 (bt275.2.2.2.2 != bt261.2.2.2.2) a0_0 a0_1 l0_2 bt261.1 bt261.2.1 bt261.2.2.1 bt269.1 bt269.2.1 bt269.2.2 bt275.1 bt275.2.1 bt275.2.2.1) else (laws_FnExactVoteRun.j0 k a1 a2 bt261.2.2.2.1 bt261.2.2.2.2 bt275.2.2.2.1 bt275.2.2.2.2 true a0_0 a0_1 l0_2 bt261.1 bt261.2.1 bt261.2.2.1 bt269.1 bt269.2.1 bt269.2.2 bt275.1 bt275.2.1 bt275.2.2.1)) else (laws_FnExactVoteRun.j0 k a1 a2 bt261.2.2.2.1 bt261.2.2.2.2 bt275.2.2.2.1 bt275.2.2.2.2 true a0_0 a0_1 l0_2 bt261.1 bt261.2.1 bt261.2.2.1 bt269.1 bt269.2.1 bt269.2.2 bt275.1 bt275.2.1 bt275.2.2.1)))))))) = some r := H
  have A4 := Aside0.mk A40
  clear A40
  by_cases c5 : t255 < 0
  · rw [if_pos c5] at H
    have c5b0 : decide (t255 < 0) = true := decide_eq_true c5
    clear c5
    obtain rfl := Option.some.inj H
    go_enter Try.func11, Try.ntmps11
    go_wp2_with (first | ((with_reducible refine gate_dst (N := 3) rfl ?_); refine box_event ?hg (N := 3) ?hd (cs := #[.int .i64 a0_0, .int .i64 a0_1, .slice A0_2 l0_2.length c0_2]) (t := 24) ?hr ?_; (case hd => rfl); (case hg => rfl); (case hr => first | (go_simp; done) | (go_simp; rfl)); intro gb254 hg w6 hbox hb; have n0_ := Aside0.mk (below_step (by repeat (first | (with_reducible first | exact HB.out | apply below_alloc | apply pw_below_drewN | apply below_drew1) | exact HB.out)) hb); have n1_ := Aside0.mk (hbox); have n2_ := Aside0.mk ((by rw [hg]; exact (below_size (by repeat (first | (with_reducible first | exact HB.out | apply below_alloc | apply pw_below_drewN | apply below_drew1) | exact HB.out))) : w.heap.size ≤ gb254)); have n3_ := Aside0.mk ((by rw [hg]; exact (below_size (by repeat (first | (with_reducible first | exact HB.out | apply below_alloc | apply pw_below_drewN | apply below_drew1) | exact HB.out))) : w.heap.size ≤ gb254)); clear HB; have HB := n0_; have BK254 := n1_; have GW254 := n2_; have GE254 := n3_; clear n0_ n1_ n2_ n3_; clear hb hbox hg; have hcz7_0 : w6.cell? ⟨gb254, 0, none⟩ = some (.int .i64 a0_0) := (blk_cell BK254.out 0).trans rfl; have hcz7_1 : w6.cell? ⟨gb254, 1, none⟩ = some (.int .i64 a0_1) := (blk_cell BK254.out 1).trans rfl; have hcz7_2 : w6.cell? ⟨gb254, 2, none⟩ = some (.slice A0_2 l0_2.length c0_2) := (blk_cell BK254.out 2).trans rfl; have hfz7_0 := blk_frozen BK254.out 0; have hfz7_1 := blk_frozen BK254.out 1; have hfz7_2 := blk_frozen BK254.out 2) | ((with_reducible refine gate_callee (f := 15) rfl ?_); refine goesL_ (some 23) rfl rfl Try.func15 (by kernel_rfl) rfl #[.agg #[.int .i64 a0_0, .int .i64 a0_1, .slice A0_2 l0_2.length c0_2], .int .i64 1048576] rfl (by (try simp only [List.map_toArray, List.map_cons, List.map_nil]); first | done | rfl | (simp only [List.length_drop, List.length_take]; rfl)) ?_; (with_reducible refine (laws_szField.calls a0_0 a0_1 _ _ l0_2 1048576 t255 _ ?side1 ?side2 A4.out).mono ?_); (case side1 => repeat (first | exact (Kd.C_below HR0_2.out HB.out) | (with_reducible refine Kd.C_alloc ?_ _) | (with_reducible refine Kd.C_drewN ?_ _) | (with_reducible refine Kd.C_drew ?_))); (case side2 => exact HC0_2.out); rintro e w8 ⟨rfl, hb⟩; refine ⟨_, rfl, ?_⟩; have n0_ := Aside0.mk (blk_below (g := gb254) (o := .cells #[.int .i64 a0_0, .int .i64 a0_1, .slice A0_2 l0_2.length c0_2] 24 (0, 0)) (by (with_reducible repeat (first | refine blk_drewN ?_ _ | refine blk_drew ?_ | refine blk_alloc ?_ _)); exact BK254.out) hb); have n1_ := Aside0.mk (below_step (by repeat (first | (with_reducible first | exact HB.out | apply below_alloc | apply pw_below_drewN | apply below_drew1 | refine below_set ?_ GE254.out) | exact HB.out)) hb); clear BK254; clear HB; have BK254 := n0_; have HB := n1_; clear n0_ n1_; (try clear hb); (try clear hb2); (try clear hk); (try clear hi)))
    go_ret
    exact ⟨by first | rfl | (simp [errW_none, errW_some] <;> rfl) | (simp [*, errW_none, errW_some] <;> rfl), by repeat (first | (with_reducible first | exact HB.out | apply below_alloc | apply pw_below_drewN | apply below_drew1 | refine below_set ?_ GE254.out) | exact HB.out)⟩
  · rw [if_neg c5] at H
    have c5b0 : decide (t255 < 0) = false := decide_eq_false c5
    clear c5
    replace H := Option.bind_eq_some_iff.mp H
    obtain ⟨⟨t256, t257, t258⟩, A90, H⟩ := H
    replace H : ((spec_VoteRun.f k t256 t257 t258 a1 a2).bind fun bt261 => ((laws_toField.f k a0_0 a0_1 l0_2).bind fun bt269 => ((impl_VoteRun.f k bt269.1 bt269.2.1 bt269.2.2 a1 a2).bind fun bt275 => ((laws_eqField.f k bt275.1 bt275.2.1 bt275.2.2.1 bt261.1 bt261.2.1 bt261.2.2.1).bind fun t283 => (if t283 = true then (if bt275.2.2.2.1 = bt261.2.2.2.1 then (laws_FnExactVoteRun.j0 k a1 a2 bt261.2.2.2.1 bt261.2.2.2.2 bt275.2.2.2.1 bt275.2.2.2.2 (bt275.2.2.2.2 != bt261.2.2.2.2) a0_0 a0_1 l0_2 bt261.1 bt261.2.1 bt261.2.2.1 bt269.1 bt269.2.1 bt269.2.2 bt275.1 bt275.2.1 bt275.2.2.1) else (laws_FnExactVoteRun.j0 k a1 a2 bt261.2.2.2.1 bt261.2.2.2.2 bt275.2.2.2.1 bt275.2.2.2.2 true a0_0 a0_1 l0_2 bt261.1 bt261.2.1 bt261.2.2.1 bt269.1 bt269.2.1 bt269.2.2 bt275.1 bt275.2.1 bt275.2.2.1)) else (laws_FnExactVoteRun.j0 k a1 a2 bt261.2.2.2.1 bt261.2.2.2.2 bt275.2.2.2.1 bt275.2.2.2.2 true a0_0 a0_1 l0_2 bt261.1 bt261.2.1 bt261.2.2.1 bt269.1 bt269.2.1 bt269.2.2 bt275.1 bt275.2.1 bt275.2.2.1)))))) = some r := H
    have A9 := Aside0.mk A90
    clear A90
    replace H := Option.bind_eq_some_iff.mp H
    obtain ⟨⟨t261, t262, t263, t266, t267⟩, A100, H⟩ := H
    replace H : ((laws_toField.f k a0_0 a0_1 l0_2).bind fun bt269 => ((impl_VoteRun.f k bt269.1 bt269.2.1 bt269.2.2 a1 a2).bind fun bt275 => ((laws_eqField.f k bt275.1 bt275.2.1 bt275.2.2.1 t261 t262 t263).bind fun t283 => (if t283 = true then (if bt275.2.2.2.1 = t266 then (laws_FnExactVoteRun.j0 k a1 a2 t266 t267 bt275.2.2.2.1 bt275.2.2.2.2 (bt275.2.2.2.2 != t267) a0_0 a0_1 l0_2 t261 t262 t263 bt269.1 bt269.2.1 bt269.2.2 bt275.1 bt275.2.1 bt275.2.2.1) else (laws_FnExactVoteRun.j0 k a1 a2 t266 t267 bt275.2.2.2.1 bt275.2.2.2.2 true a0_0 a0_1 l0_2 t261 t262 t263 bt269.1 bt269.2.1 bt269.2.2 bt275.1 bt275.2.1 bt275.2.2.1)) else (laws_FnExactVoteRun.j0 k a1 a2 t266 t267 bt275.2.2.2.1 bt275.2.2.2.2 true a0_0 a0_1 l0_2 t261 t262 t263 bt269.1 bt269.2.1 bt269.2.2 bt275.1 bt275.2.1 bt275.2.2.1))))) = some r := H
    have A10 := Aside0.mk A100
    clear A100
    replace H := Option.bind_eq_some_iff.mp H
    obtain ⟨⟨t269, t270, t271⟩, A110, H⟩ := H
    replace H : ((impl_VoteRun.f k t269 t270 t271 a1 a2).bind fun bt275 => ((laws_eqField.f k bt275.1 bt275.2.1 bt275.2.2.1 t261 t262 t263).bind fun t283 => (if t283 = true then (if bt275.2.2.2.1 = t266 then (laws_FnExactVoteRun.j0 k a1 a2 t266 t267 bt275.2.2.2.1 bt275.2.2.2.2 (bt275.2.2.2.2 != t267) a0_0 a0_1 l0_2 t261 t262 t263 t269 t270 t271 bt275.1 bt275.2.1 bt275.2.2.1) else (laws_FnExactVoteRun.j0 k a1 a2 t266 t267 bt275.2.2.2.1 bt275.2.2.2.2 true a0_0 a0_1 l0_2 t261 t262 t263 t269 t270 t271 bt275.1 bt275.2.1 bt275.2.2.1)) else (laws_FnExactVoteRun.j0 k a1 a2 t266 t267 bt275.2.2.2.1 bt275.2.2.2.2 true a0_0 a0_1 l0_2 t261 t262 t263 t269 t270 t271 bt275.1 bt275.2.1 bt275.2.2.1)))) = some r := H
    have A11 := Aside0.mk A110
    clear A110
    replace H := Option.bind_eq_some_iff.mp H
    obtain ⟨⟨t275, t276, t277, t280, t281⟩, A120, H⟩ := H
    replace H : ((laws_eqField.f k t275 t276 t277 t261 t262 t263).bind fun t283 => (if t283 = true then (if t280 = t266 then (laws_FnExactVoteRun.j0 k a1 a2 t266 t267 t280 t281 (t281 != t267) a0_0 a0_1 l0_2 t261 t262 t263 t269 t270 t271 t275 t276 t277) else (laws_FnExactVoteRun.j0 k a1 a2 t266 t267 t280 t281 true a0_0 a0_1 l0_2 t261 t262 t263 t269 t270 t271 t275 t276 t277)) else (laws_FnExactVoteRun.j0 k a1 a2 t266 t267 t280 t281 true a0_0 a0_1 l0_2 t261 t262 t263 t269 t270 t271 t275 t276 t277))) = some r := H
    have A12 := Aside0.mk A120
    clear A120
    have HC13 := Aside0.mk H
    clear H
    go_enter Try.func11, Try.ntmps11
    go_upto_region 8 with (first | ((with_reducible refine gate_dst (N := 3) rfl ?_); refine box_event ?hg (N := 3) ?hd (cs := #[.int .i64 a0_0, .int .i64 a0_1, .slice A0_2 l0_2.length c0_2]) (t := 24) ?hr ?_; (case hd => rfl); (case hg => rfl); (case hr => first | (go_simp; done) | (go_simp; rfl)); intro gb254 hg w14 hbox hb; have n0_ := Aside0.mk (below_step (by repeat (first | (with_reducible first | exact HB.out | apply below_alloc | apply pw_below_drewN | apply below_drew1) | exact HB.out)) hb); have n1_ := Aside0.mk (hbox); have n2_ := Aside0.mk ((by rw [hg]; exact (below_size (by repeat (first | (with_reducible first | exact HB.out | apply below_alloc | apply pw_below_drewN | apply below_drew1) | exact HB.out))) : w.heap.size ≤ gb254)); have n3_ := Aside0.mk ((by rw [hg]; exact (below_size (by repeat (first | (with_reducible first | exact HB.out | apply below_alloc | apply pw_below_drewN | apply below_drew1) | exact HB.out))) : w.heap.size ≤ gb254)); clear HB; have HB := n0_; have BK254 := n1_; have GW254 := n2_; have GE254 := n3_; clear n0_ n1_ n2_ n3_; clear hb hbox hg; have hcz15_0 : w14.cell? ⟨gb254, 0, none⟩ = some (.int .i64 a0_0) := (blk_cell BK254.out 0).trans rfl; have hcz15_1 : w14.cell? ⟨gb254, 1, none⟩ = some (.int .i64 a0_1) := (blk_cell BK254.out 1).trans rfl; have hcz15_2 : w14.cell? ⟨gb254, 2, none⟩ = some (.slice A0_2 l0_2.length c0_2) := (blk_cell BK254.out 2).trans rfl; have hfz15_0 := blk_frozen BK254.out 0; have hfz15_1 := blk_frozen BK254.out 1; have hfz15_2 := blk_frozen BK254.out 2) | ((with_reducible refine gate_callee (f := 15) rfl ?_); refine goesL_ (some 23) rfl rfl Try.func15 (by kernel_rfl) rfl #[.agg #[.int .i64 a0_0, .int .i64 a0_1, .slice A0_2 l0_2.length c0_2], .int .i64 1048576] rfl (by (try simp only [List.map_toArray, List.map_cons, List.map_nil]); first | done | rfl | (simp only [List.length_drop, List.length_take]; rfl)) ?_; (with_reducible refine (laws_szField.calls a0_0 a0_1 _ _ l0_2 1048576 t255 _ ?side1 ?side2 A4.out).mono ?_); (case side1 => repeat (first | exact (Kd.C_below HR0_2.out HB.out) | (with_reducible refine Kd.C_alloc ?_ _) | (with_reducible refine Kd.C_drewN ?_ _) | (with_reducible refine Kd.C_drew ?_))); (case side2 => exact HC0_2.out); rintro e w16 ⟨rfl, hb⟩; refine ⟨_, rfl, ?_⟩; have n0_ := Aside0.mk (blk_below (g := gb254) (o := .cells #[.int .i64 a0_0, .int .i64 a0_1, .slice A0_2 l0_2.length c0_2] 24 (0, 0)) (by (with_reducible repeat (first | refine blk_drewN ?_ _ | refine blk_drew ?_ | refine blk_alloc ?_ _)); exact BK254.out) hb); have n1_ := Aside0.mk (below_step (by repeat (first | (with_reducible first | exact HB.out | apply below_alloc | apply pw_below_drewN | apply below_drew1 | refine below_set ?_ GE254.out) | exact HB.out)) hb); clear BK254; clear HB; have BK254 := n0_; have HB := n1_; clear n0_ n1_; (try clear hb); (try clear hb2); (try clear hk); (try clear hi); have hcz17_0 : w16.cell? ⟨gb254, 0, none⟩ = some (.int .i64 a0_0) := (blk_cell BK254.out 0).trans rfl; have hcz17_1 : w16.cell? ⟨gb254, 1, none⟩ = some (.int .i64 a0_1) := (blk_cell BK254.out 1).trans rfl; have hcz17_2 : w16.cell? ⟨gb254, 2, none⟩ = some (.slice A0_2 l0_2.length c0_2) := (blk_cell BK254.out 2).trans rfl; have hfz17_0 := blk_frozen BK254.out 0; have hfz17_1 := blk_frozen BK254.out 1; have hfz17_2 := blk_frozen BK254.out 2) | ((with_reducible refine gate_callee (f := 17) rfl ?_); refine goesL_ (some 28) rfl rfl Try.func17 (by kernel_rfl) rfl #[.agg #[.int .i64 a0_0, .int .i64 a0_1, .slice A0_2 l0_2.length c0_2]] rfl (by (try simp only [List.map_toArray, List.map_cons, List.map_nil]); first | done | rfl | (simp only [List.length_drop, List.length_take]; rfl)) ?_; (with_reducible refine (laws_toField.calls k a0_0 a0_1 _ _ l0_2 t256 t257 t258 _ ?side1 ?side2 A9.out).mono ?_); (case side1 => repeat (first | exact (Kd.C_below HR0_2.out HB.out) | (with_reducible refine Kd.C_alloc ?_ _) | (with_reducible refine Kd.C_drewN ?_ _) | (with_reducible refine Kd.C_drew ?_))); (case side2 => exact HC0_2.out); rintro e w18 ⟨v259, rfl, ho0, hb⟩; refine ⟨_, rfl, ?_⟩; have n0_ := Aside0.mk (Kd.R_lower ho0 (below_size (by repeat (first | (with_reducible first | exact HB.out | apply below_alloc | apply pw_below_drewN | apply below_drew1 | refine below_set ?_ GE254.out) | exact HB.out)))); have n1_ := Aside0.mk (blk_below (g := gb254) (o := .cells #[.int .i64 a0_0, .int .i64 a0_1, .slice A0_2 l0_2.length c0_2] 24 (0, 0)) (by (with_reducible repeat (first | refine blk_drewN ?_ _ | refine blk_drew ?_ | refine blk_alloc ?_ _)); exact BK254.out) hb); have n2_ := Aside0.mk (below_step (by repeat (first | (with_reducible first | exact HB.out | apply below_alloc | apply pw_below_drewN | apply below_drew1 | refine below_set ?_ GE254.out) | exact HB.out)) hb); clear BK254; clear HB; have HO260 := n0_; have BK254 := n1_; have HB := n2_; clear n0_ n1_ n2_; (try clear hb); (try clear hb2); (try clear hk); (try clear hi); (try clear ho0); obtain ⟨Ao19, co19, eo19⟩ := Kd.R_slice HO260.out; subst eo19) | ((with_reducible refine gate_callee (f := 50) rfl ?_); refine goesL_ (some 31) rfl rfl Try.func50 (by kernel_rfl) rfl #[.agg #[.int .i64 t256, .int .i64 t257, .slice Ao19 t258.length co19], .bool a1, .int .i64 a2] rfl (by (try simp only [List.map_toArray, List.map_cons, List.map_nil]); first | done | rfl | (simp only [List.length_drop, List.length_take]; rfl)) ?_; (with_reducible refine (spec_VoteRun.calls k t256 t257 _ _ t258 a1 a2 t261 t262 t263 t266 t267 _ ?side1 ?side2 A10.out).mono ?_); (case side1 => repeat (first | exact (Kd.R_reads' HO260.out).2.2 | (with_reducible refine Kd.C_alloc ?_ _) | (with_reducible refine Kd.C_drewN ?_ _) | (with_reducible refine Kd.C_drew ?_))); (case side2 => exact (Kd.R_reads' HO260.out).2.1); rintro e w20 ⟨v264, rfl, ho0, hb⟩; refine ⟨_, rfl, ?_⟩; have n0_ := Aside0.mk (Kd.R_elder' (by (with_reducible repeat (first | apply Kd.R_alloc | apply Kd.R_drewN | apply Kd.R_drew)); exact HO260.out) (Kd.R_base ho0) hb); have n1_ := Aside0.mk (Kd.R_lower (Kd.R_new' ho0 (Kd.R_lt (by (with_reducible repeat (first | apply Kd.R_alloc | apply Kd.R_drewN | apply Kd.R_drew)); exact HO260.out))) (below_size (by repeat (first | (with_reducible first | exact HB.out | apply below_alloc | apply pw_below_drewN | apply below_drew1 | refine below_set ?_ GE254.out) | exact HB.out)))); have n2_ := Aside0.mk (blk_below (g := gb254) (o := .cells #[.int .i64 a0_0, .int .i64 a0_1, .slice A0_2 l0_2.length c0_2] 24 (0, 0)) (by (with_reducible repeat (first | refine blk_drewN ?_ _ | refine blk_drew ?_ | refine blk_alloc ?_ _)); exact BK254.out) hb); have n3_ := Aside0.mk (below_step (by repeat (first | (with_reducible first | exact HB.out | apply below_alloc | apply pw_below_drewN | apply below_drew1 | refine below_set ?_ GE254.out) | exact HB.out)) hb); clear HO260; clear BK254; clear HB; have HO260 := n0_; have HO265 := n1_; have BK254 := n2_; have HB := n3_; clear n0_ n1_ n2_ n3_; (try clear hb); (try clear hb2); (try clear hk); (try clear hi); (try clear ho0)) | ((with_reducible refine gate_dst (N := 8) rfl ?_); refine box_event ?hg (N := 8) ?hd (cs := #[.int .i64 0, .int .i64 0, .slice none 0 0]) (t := 28) ?hr ?_; (case hd => rfl); (case hg => rfl); (case hr => first | (go_simp; done) | (go_simp; rfl)); intro gb268 hg w21 hbox hb; have n0_ := Aside0.mk (Kd.R_below (by (with_reducible repeat (first | apply Kd.R_alloc | apply Kd.R_drewN | apply Kd.R_drew)); exact HO260.out) hb); have n1_ := Aside0.mk (Kd.R_below (by (with_reducible repeat (first | apply Kd.R_alloc | apply Kd.R_drewN | apply Kd.R_drew)); exact HO265.out) hb); have n2_ := Aside0.mk (blk_below (g := gb254) (o := .cells #[.int .i64 a0_0, .int .i64 a0_1, .slice A0_2 l0_2.length c0_2] 24 (0, 0)) (by (with_reducible repeat (first | refine blk_drewN ?_ _ | refine blk_drew ?_ | refine blk_alloc ?_ _)); exact BK254.out) hb); have n3_ := Aside0.mk (below_step (by repeat (first | (with_reducible first | exact HB.out | apply below_alloc | apply pw_below_drewN | apply below_drew1 | refine below_set ?_ GE254.out) | exact HB.out)) hb); have n4_ := Aside0.mk (hbox); have n5_ := Aside0.mk ((by rw [hg]; exact (below_size (by repeat (first | (with_reducible first | exact HB.out | apply below_alloc | apply pw_below_drewN | apply below_drew1 | refine below_set ?_ GE254.out) | exact HB.out))) : w.heap.size ≤ gb268)); have n6_ := Aside0.mk ((by rw [hg]; exact (below_size (by repeat (first | (with_reducible first | exact HB.out | apply below_alloc | apply pw_below_drewN | apply below_drew1 | refine below_set ?_ GE254.out) | exact HB.out))) : w.heap.size ≤ gb268)); have n7_ := Aside0.mk ((by rw [hg]; exact Nat.ne_of_lt (blk_lt (g := gb254) (o := .cells #[.int .i64 a0_0, .int .i64 a0_1, .slice A0_2 l0_2.length c0_2] 24 (0, 0)) (by (with_reducible repeat (first | refine blk_drewN ?_ _ | refine blk_drew ?_ | refine blk_alloc ?_ _)); exact BK254.out)) : gb254 ≠ gb268)); have n8_ := Aside0.mk ((by rw [hg]; exact Nat.ne_of_gt (blk_lt (g := gb254) (o := .cells #[.int .i64 a0_0, .int .i64 a0_1, .slice A0_2 l0_2.length c0_2] 24 (0, 0)) (by (with_reducible repeat (first | refine blk_drewN ?_ _ | refine blk_drew ?_ | refine blk_alloc ?_ _)); exact BK254.out)) : gb268 ≠ gb254)); clear HO260; clear HO265; clear BK254; clear HB; have HO260 := n0_; have HO265 := n1_; have BK254 := n2_; have HB := n3_; have BK268 := n4_; have GW268 := n5_; have GE268 := n6_; have NB254_268 := n7_; have NB268_254 := n8_; clear n0_ n1_ n2_ n3_ n4_ n5_ n6_ n7_ n8_; clear hb hbox hg; have hnb22 := NB268_254.out; have hnc22 := NB254_268.out; have hcz23_0 : w21.cell? ⟨gb268, 0, none⟩ = some (.int .i64 0) := (blk_cell BK268.out 0).trans rfl; have hcz23_1 : w21.cell? ⟨gb268, 1, none⟩ = some (.int .i64 0) := (blk_cell BK268.out 1).trans rfl; have hcz23_2 : w21.cell? ⟨gb268, 2, none⟩ = some (.slice none 0 0) := (blk_cell BK268.out 2).trans rfl; have hfz23_0 := blk_frozen BK268.out 0; have hfz23_1 := blk_frozen BK268.out 1; have hfz23_2 := blk_frozen BK268.out 2; obtain ⟨Ao24, co24, eo24⟩ := Kd.R_slice HO265.out; subst eo24; have hcz25_0 : w21.cell? ⟨gb254, 0, none⟩ = some (.int .i64 a0_0) := (blk_cell BK254.out 0).trans rfl; have hcz25_1 : w21.cell? ⟨gb254, 1, none⟩ = some (.int .i64 a0_1) := (blk_cell BK254.out 1).trans rfl; have hcz25_2 : w21.cell? ⟨gb254, 2, none⟩ = some (.slice A0_2 l0_2.length c0_2) := (blk_cell BK254.out 2).trans rfl; have hfz25_0 := blk_frozen BK254.out 0; have hfz25_1 := blk_frozen BK254.out 1; have hfz25_2 := blk_frozen BK254.out 2) | ((with_reducible refine gate_callee (f := 17) rfl ?_); refine goesL_ (some 36) rfl rfl Try.func17 (by kernel_rfl) rfl #[.agg #[.int .i64 a0_0, .int .i64 a0_1, .slice A0_2 l0_2.length c0_2]] rfl (by (try simp only [List.map_toArray, List.map_cons, List.map_nil]); first | done | rfl | (simp only [List.length_drop, List.length_take]; rfl)) ?_; (with_reducible refine (laws_toField.calls k a0_0 a0_1 _ _ l0_2 t269 t270 t271 _ ?side1 ?side2 A11.out).mono ?_); (case side1 => exact Kd.C_below HR0_2.out (by repeat (first | (with_reducible first | exact HB.out | apply below_alloc | apply pw_below_drewN | apply below_drew1 | refine below_set ?_ GE254.out | refine below_set ?_ GE268.out) | exact HB.out))); (case side2 => exact HC0_2.out); rintro e w26 ⟨v272, rfl, ho0, hb⟩; refine ⟨_, rfl, ?_⟩; have n0_ := Aside0.mk (Kd.R_elder' (by (with_reducible repeat (first | apply Kd.R_alloc | apply Kd.R_drewN | apply Kd.R_drew)); exact (Kd.R_mono (Kd.R_far (p := ⟨gb268, 2, none⟩) (Kd.R_far (p := ⟨gb268, 1, none⟩) (Kd.R_far (p := ⟨gb268, 0, none⟩) (Kd.R_types HO260.out BK268.out (by decide)) (fun _ hk => hk.2) (.int .i64 t261)) (fun _ hk => hk.2) (.int .i64 t262)) (fun _ hk => hk.2) (.slice Ao24 t263.length co24)) (fun _ h_ => h_.1))) (Kd.R_base ho0) hb); have n1_ := Aside0.mk (Kd.R_elder' (by (with_reducible repeat (first | apply Kd.R_alloc | apply Kd.R_drewN | apply Kd.R_drew)); exact (Kd.R_mono (Kd.R_far (p := ⟨gb268, 2, none⟩) (Kd.R_far (p := ⟨gb268, 1, none⟩) (Kd.R_far (p := ⟨gb268, 0, none⟩) (Kd.R_types HO265.out BK268.out (by decide)) (fun _ hk => hk.2) (.int .i64 t261)) (fun _ hk => hk.2) (.int .i64 t262)) (fun _ hk => hk.2) (.slice Ao24 t263.length co24)) (fun _ h_ => h_.1))) (Kd.R_base ho0) hb); have n2_ := Aside0.mk (Kd.R_lower (Kd.R_new' (Kd.R_new' ho0 (Kd.R_lt (by (with_reducible repeat (first | apply Kd.R_alloc | apply Kd.R_drewN | apply Kd.R_drew)); exact (Kd.R_mono (Kd.R_far (p := ⟨gb268, 2, none⟩) (Kd.R_far (p := ⟨gb268, 1, none⟩) (Kd.R_far (p := ⟨gb268, 0, none⟩) (Kd.R_types HO260.out BK268.out (by decide)) (fun _ hk => hk.2) (.int .i64 t261)) (fun _ hk => hk.2) (.int .i64 t262)) (fun _ hk => hk.2) (.slice Ao24 t263.length co24)) (fun _ h_ => h_.1))))) (Kd.R_lt (by (with_reducible repeat (first | apply Kd.R_alloc | apply Kd.R_drewN | apply Kd.R_drew)); exact (Kd.R_mono (Kd.R_far (p := ⟨gb268, 2, none⟩) (Kd.R_far (p := ⟨gb268, 1, none⟩) (Kd.R_far (p := ⟨gb268, 0, none⟩) (Kd.R_types HO265.out BK268.out (by decide)) (fun _ hk => hk.2) (.int .i64 t261)) (fun _ hk => hk.2) (.int .i64 t262)) (fun _ hk => hk.2) (.slice Ao24 t263.length co24)) (fun _ h_ => h_.1))))) (below_size (by repeat (first | (with_reducible first | exact HB.out | apply below_alloc | apply pw_below_drewN | apply below_drew1 | refine below_set ?_ GE254.out | refine below_set ?_ GE268.out) | exact HB.out)))); have n3_ := Aside0.mk (blk_below (g := gb254) (o := .cells #[.int .i64 a0_0, .int .i64 a0_1, .slice A0_2 l0_2.length c0_2] 24 (0, 0)) (by (with_reducible repeat (first | refine blk_drewN ?_ _ | refine blk_drew ?_ | refine blk_alloc ?_ _)); refine blk_far ?_ NB254_268.out _; (with_reducible repeat (first | refine blk_drewN ?_ _ | refine blk_drew ?_ | refine blk_alloc ?_ _)); refine blk_far ?_ NB254_268.out _; (with_reducible repeat (first | refine blk_drewN ?_ _ | refine blk_drew ?_ | refine blk_alloc ?_ _)); refine blk_far ?_ NB254_268.out _; (with_reducible repeat (first | refine blk_drewN ?_ _ | refine blk_drew ?_ | refine blk_alloc ?_ _)); exact BK254.out) hb); have n4_ := Aside0.mk (blk_below (g := gb268) (o := .cells #[.int .i64 t261, .int .i64 t262, .slice Ao24 t263.length co24] 28 (0, 0)) (by (with_reducible repeat (first | refine blk_drewN ?_ _ | refine blk_drew ?_ | refine blk_alloc ?_ _)); refine blk_put (cs := #[.int .i64 t261, .int .i64 t262, .slice none 0 0]) ?_ 2 _ rfl; (with_reducible repeat (first | refine blk_drewN ?_ _ | refine blk_drew ?_ | refine blk_alloc ?_ _)); refine blk_put (cs := #[.int .i64 t261, .int .i64 0, .slice none 0 0]) ?_ 1 _ rfl; (with_reducible repeat (first | refine blk_drewN ?_ _ | refine blk_drew ?_ | refine blk_alloc ?_ _)); refine blk_put (cs := #[.int .i64 0, .int .i64 0, .slice none 0 0]) ?_ 0 _ rfl; (with_reducible repeat (first | refine blk_drewN ?_ _ | refine blk_drew ?_ | refine blk_alloc ?_ _)); exact BK268.out) hb); have n5_ := Aside0.mk (below_step (by repeat (first | (with_reducible first | exact HB.out | apply below_alloc | apply pw_below_drewN | apply below_drew1 | refine below_set ?_ GE254.out | refine below_set ?_ GE268.out) | exact HB.out)) hb); clear HO260; clear HO265; clear BK254; clear BK268; clear HB; have HO260 := n0_; have HO265 := n1_; have HO273 := n2_; have BK254 := n3_; have BK268 := n4_; have HB := n5_; clear n0_ n1_ n2_ n3_ n4_ n5_; (try clear hb); (try clear hb2); (try clear hk); (try clear hi); (try clear ho0)) | ((with_reducible refine gate_dst (N := 11) rfl ?_); refine box_event ?hg (N := 11) ?hd (cs := #[.int .i64 0, .int .i64 0, .slice none 0 0]) (t := 28) ?hr ?_; (case hd => rfl); (case hg => rfl); (case hr => first | (go_simp; done) | (go_simp; rfl)); intro gb274 hg w27 hbox hb; have n0_ := Aside0.mk (Kd.R_below (by (with_reducible repeat (first | apply Kd.R_alloc | apply Kd.R_drewN | apply Kd.R_drew)); exact HO260.out) hb); have n1_ := Aside0.mk (Kd.R_below (by (with_reducible repeat (first | apply Kd.R_alloc | apply Kd.R_drewN | apply Kd.R_drew)); exact HO265.out) hb); have n2_ := Aside0.mk (Kd.R_below (by (with_reducible repeat (first | apply Kd.R_alloc | apply Kd.R_drewN | apply Kd.R_drew)); exact HO273.out) hb); have n3_ := Aside0.mk (blk_below (g := gb254) (o := .cells #[.int .i64 a0_0, .int .i64 a0_1, .slice A0_2 l0_2.length c0_2] 24 (0, 0)) (by (with_reducible repeat (first | refine blk_drewN ?_ _ | refine blk_drew ?_ | refine blk_alloc ?_ _)); exact BK254.out) hb); have n4_ := Aside0.mk (blk_below (g := gb268) (o := .cells #[.int .i64 t261, .int .i64 t262, .slice Ao24 t263.length co24] 28 (0, 0)) (by (with_reducible repeat (first | refine blk_drewN ?_ _ | refine blk_drew ?_ | refine blk_alloc ?_ _)); exact BK268.out) hb); have n5_ := Aside0.mk (below_step (by repeat (first | (with_reducible first | exact HB.out | apply below_alloc | apply pw_below_drewN | apply below_drew1 | refine below_set ?_ GE254.out | refine below_set ?_ GE268.out) | exact HB.out)) hb); have n6_ := Aside0.mk (hbox); have n7_ := Aside0.mk ((by rw [hg]; exact (below_size (by repeat (first | (with_reducible first | exact HB.out | apply below_alloc | apply pw_below_drewN | apply below_drew1 | refine below_set ?_ GE254.out | refine below_set ?_ GE268.out) | exact HB.out))) : w.heap.size ≤ gb274)); have n8_ := Aside0.mk ((by rw [hg]; exact (below_size (by repeat (first | (with_reducible first | exact HB.out | apply below_alloc | apply pw_below_drewN | apply below_drew1 | refine below_set ?_ GE254.out | refine below_set ?_ GE268.out) | exact HB.out))) : w.heap.size ≤ gb274)); have n9_ := Aside0.mk ((by rw [hg]; exact Nat.ne_of_lt (blk_lt (g := gb254) (o := .cells #[.int .i64 a0_0, .int .i64 a0_1, .slice A0_2 l0_2.length c0_2] 24 (0, 0)) (by (with_reducible repeat (first | refine blk_drewN ?_ _ | refine blk_drew ?_ | refine blk_alloc ?_ _)); exact BK254.out)) : gb254 ≠ gb274)); have n10_ := Aside0.mk ((by rw [hg]; exact Nat.ne_of_gt (blk_lt (g := gb254) (o := .cells #[.int .i64 a0_0, .int .i64 a0_1, .slice A0_2 l0_2.length c0_2] 24 (0, 0)) (by (with_reducible repeat (first | refine blk_drewN ?_ _ | refine blk_drew ?_ | refine blk_alloc ?_ _)); exact BK254.out)) : gb274 ≠ gb254)); have n11_ := Aside0.mk ((by rw [hg]; exact Nat.ne_of_lt (blk_lt (g := gb268) (o := .cells #[.int .i64 t261, .int .i64 t262, .slice Ao24 t263.length co24] 28 (0, 0)) (by (with_reducible repeat (first | refine blk_drewN ?_ _ | refine blk_drew ?_ | refine blk_alloc ?_ _)); exact BK268.out)) : gb268 ≠ gb274)); have n12_ := Aside0.mk ((by rw [hg]; exact Nat.ne_of_gt (blk_lt (g := gb268) (o := .cells #[.int .i64 t261, .int .i64 t262, .slice Ao24 t263.length co24] 28 (0, 0)) (by (with_reducible repeat (first | refine blk_drewN ?_ _ | refine blk_drew ?_ | refine blk_alloc ?_ _)); exact BK268.out)) : gb274 ≠ gb268)); clear HO260; clear HO265; clear HO273; clear BK254; clear BK268; clear HB; have HO260 := n0_; have HO265 := n1_; have HO273 := n2_; have BK254 := n3_; have BK268 := n4_; have HB := n5_; have BK274 := n6_; have GW274 := n7_; have GE274 := n8_; have NB254_274 := n9_; have NB274_254 := n10_; have NB268_274 := n11_; have NB274_268 := n12_; clear n0_ n1_ n2_ n3_ n4_ n5_ n6_ n7_ n8_ n9_ n10_ n11_ n12_; clear hb hbox hg; have hnb28 := NB274_254.out; have hnc28 := NB254_274.out; have hnb29 := NB274_268.out; have hnc29 := NB268_274.out; have hcz30_0 : w27.cell? ⟨gb274, 0, none⟩ = some (.int .i64 0) := (blk_cell BK274.out 0).trans rfl; have hcz30_1 : w27.cell? ⟨gb274, 1, none⟩ = some (.int .i64 0) := (blk_cell BK274.out 1).trans rfl; have hcz30_2 : w27.cell? ⟨gb274, 2, none⟩ = some (.slice none 0 0) := (blk_cell BK274.out 2).trans rfl; have hfz30_0 := blk_frozen BK274.out 0; have hfz30_1 := blk_frozen BK274.out 1; have hfz30_2 := blk_frozen BK274.out 2; obtain ⟨Ao31, co31, eo31⟩ := Kd.R_slice HO273.out; subst eo31) | ((with_reducible refine gate_callee (f := 51) rfl ?_); refine goesL_ (some 41) rfl rfl Try.func51 (by kernel_rfl) rfl #[.agg #[.int .i64 t269, .int .i64 t270, .slice Ao31 t271.length co31], .bool a1, .int .i64 a2] rfl (by (try simp only [List.map_toArray, List.map_cons, List.map_nil]); first | done | rfl | (simp only [List.length_drop, List.length_take]; rfl)) ?_; (with_reducible refine (impl_VoteRun.calls k t269 t270 _ _ t271 a1 a2 t275 t276 t277 t280 t281 _ ?side1 ?side2 A12.out).mono ?_); (case side1 => refine (Kd.R_reads' (e := 2) (base := w.heap.size) (ok := fun k_ => ((True ∧ some k_ ≠ (.slice Ao19 t258.length co19 : Value).ownBlock) ∧ some k_ ≠ (.slice Ao24 t263.length co24 : Value).ownBlock)) (n := t271.length) (c := co31) ?_).2.2; exact (by (with_reducible repeat (first | apply Kd.R_alloc | apply Kd.R_drewN | apply Kd.R_drew)); exact (Kd.R_mono (Kd.R_far (p := ⟨gb274, 2, none⟩) (Kd.R_far (p := ⟨gb274, 1, none⟩) (Kd.R_far (p := ⟨gb274, 0, none⟩) (Kd.R_types HO273.out BK274.out (by decide)) (fun _ hk => hk.2) (.int .i64 t269)) (fun _ hk => hk.2) (.int .i64 t270)) (fun _ hk => hk.2) (.slice Ao31 t271.length co31)) (fun _ h_ => h_.1)))); (case side2 => exact (Kd.R_reads' HO273.out).2.1); rintro e w32 ⟨v278, rfl, ho0, hb⟩; refine ⟨_, rfl, ?_⟩; have n0_ := Aside0.mk (Kd.R_elder' (by (with_reducible repeat (first | apply Kd.R_alloc | apply Kd.R_drewN | apply Kd.R_drew)); exact (Kd.R_mono (Kd.R_far (p := ⟨gb274, 2, none⟩) (Kd.R_far (p := ⟨gb274, 1, none⟩) (Kd.R_far (p := ⟨gb274, 0, none⟩) (Kd.R_types HO260.out BK274.out (by decide)) (fun _ hk => hk.2) (.int .i64 t269)) (fun _ hk => hk.2) (.int .i64 t270)) (fun _ hk => hk.2) (.slice Ao31 t271.length co31)) (fun _ h_ => h_.1))) (Kd.R_base ho0) hb); have n1_ := Aside0.mk (Kd.R_elder' (by (with_reducible repeat (first | apply Kd.R_alloc | apply Kd.R_drewN | apply Kd.R_drew)); exact (Kd.R_mono (Kd.R_far (p := ⟨gb274, 2, none⟩) (Kd.R_far (p := ⟨gb274, 1, none⟩) (Kd.R_far (p := ⟨gb274, 0, none⟩) (Kd.R_types HO265.out BK274.out (by decide)) (fun _ hk => hk.2) (.int .i64 t269)) (fun _ hk => hk.2) (.int .i64 t270)) (fun _ hk => hk.2) (.slice Ao31 t271.length co31)) (fun _ h_ => h_.1))) (Kd.R_base ho0) hb); have n2_ := Aside0.mk (Kd.R_elder' (by (with_reducible repeat (first | apply Kd.R_alloc | apply Kd.R_drewN | apply Kd.R_drew)); exact (Kd.R_mono (Kd.R_far (p := ⟨gb274, 2, none⟩) (Kd.R_far (p := ⟨gb274, 1, none⟩) (Kd.R_far (p := ⟨gb274, 0, none⟩) (Kd.R_types HO273.out BK274.out (by decide)) (fun _ hk => hk.2) (.int .i64 t269)) (fun _ hk => hk.2) (.int .i64 t270)) (fun _ hk => hk.2) (.slice Ao31 t271.length co31)) (fun _ h_ => h_.1))) (Kd.R_base ho0) hb); have n3_ := Aside0.mk (Kd.R_lower (Kd.R_new' (Kd.R_new' (Kd.R_new' ho0 (Kd.R_lt (by (with_reducible repeat (first | apply Kd.R_alloc | apply Kd.R_drewN | apply Kd.R_drew)); exact (Kd.R_mono (Kd.R_far (p := ⟨gb274, 2, none⟩) (Kd.R_far (p := ⟨gb274, 1, none⟩) (Kd.R_far (p := ⟨gb274, 0, none⟩) (Kd.R_types HO260.out BK274.out (by decide)) (fun _ hk => hk.2) (.int .i64 t269)) (fun _ hk => hk.2) (.int .i64 t270)) (fun _ hk => hk.2) (.slice Ao31 t271.length co31)) (fun _ h_ => h_.1))))) (Kd.R_lt (by (with_reducible repeat (first | apply Kd.R_alloc | apply Kd.R_drewN | apply Kd.R_drew)); exact (Kd.R_mono (Kd.R_far (p := ⟨gb274, 2, none⟩) (Kd.R_far (p := ⟨gb274, 1, none⟩) (Kd.R_far (p := ⟨gb274, 0, none⟩) (Kd.R_types HO265.out BK274.out (by decide)) (fun _ hk => hk.2) (.int .i64 t269)) (fun _ hk => hk.2) (.int .i64 t270)) (fun _ hk => hk.2) (.slice Ao31 t271.length co31)) (fun _ h_ => h_.1))))) (Kd.R_lt (by (with_reducible repeat (first | apply Kd.R_alloc | apply Kd.R_drewN | apply Kd.R_drew)); exact (Kd.R_mono (Kd.R_far (p := ⟨gb274, 2, none⟩) (Kd.R_far (p := ⟨gb274, 1, none⟩) (Kd.R_far (p := ⟨gb274, 0, none⟩) (Kd.R_types HO273.out BK274.out (by decide)) (fun _ hk => hk.2) (.int .i64 t269)) (fun _ hk => hk.2) (.int .i64 t270)) (fun _ hk => hk.2) (.slice Ao31 t271.length co31)) (fun _ h_ => h_.1))))) (below_size (by repeat (first | (with_reducible first | exact HB.out | apply below_alloc | apply pw_below_drewN | apply below_drew1 | refine below_set ?_ GE254.out | refine below_set ?_ GE268.out | refine below_set ?_ GE274.out) | exact HB.out)))); have n4_ := Aside0.mk (blk_below (g := gb254) (o := .cells #[.int .i64 a0_0, .int .i64 a0_1, .slice A0_2 l0_2.length c0_2] 24 (0, 0)) (by (with_reducible repeat (first | refine blk_drewN ?_ _ | refine blk_drew ?_ | refine blk_alloc ?_ _)); refine blk_far ?_ NB254_274.out _; (with_reducible repeat (first | refine blk_drewN ?_ _ | refine blk_drew ?_ | refine blk_alloc ?_ _)); refine blk_far ?_ NB254_274.out _; (with_reducible repeat (first | refine blk_drewN ?_ _ | refine blk_drew ?_ | refine blk_alloc ?_ _)); refine blk_far ?_ NB254_274.out _; (with_reducible repeat (first | refine blk_drewN ?_ _ | refine blk_drew ?_ | refine blk_alloc ?_ _)); exact BK254.out) hb); have n5_ := Aside0.mk (blk_below (g := gb268) (o := .cells #[.int .i64 t261, .int .i64 t262, .slice Ao24 t263.length co24] 28 (0, 0)) (by (with_reducible repeat (first | refine blk_drewN ?_ _ | refine blk_drew ?_ | refine blk_alloc ?_ _)); refine blk_far ?_ NB268_274.out _; (with_reducible repeat (first | refine blk_drewN ?_ _ | refine blk_drew ?_ | refine blk_alloc ?_ _)); refine blk_far ?_ NB268_274.out _; (with_reducible repeat (first | refine blk_drewN ?_ _ | refine blk_drew ?_ | refine blk_alloc ?_ _)); refine blk_far ?_ NB268_274.out _; (with_reducible repeat (first | refine blk_drewN ?_ _ | refine blk_drew ?_ | refine blk_alloc ?_ _)); exact BK268.out) hb); have n6_ := Aside0.mk (blk_below (g := gb274) (o := .cells #[.int .i64 t269, .int .i64 t270, .slice Ao31 t271.length co31] 28 (0, 0)) (by (with_reducible repeat (first | refine blk_drewN ?_ _ | refine blk_drew ?_ | refine blk_alloc ?_ _)); refine blk_put (cs := #[.int .i64 t269, .int .i64 t270, .slice none 0 0]) ?_ 2 _ rfl; (with_reducible repeat (first | refine blk_drewN ?_ _ | refine blk_drew ?_ | refine blk_alloc ?_ _)); refine blk_put (cs := #[.int .i64 t269, .int .i64 0, .slice none 0 0]) ?_ 1 _ rfl; (with_reducible repeat (first | refine blk_drewN ?_ _ | refine blk_drew ?_ | refine blk_alloc ?_ _)); refine blk_put (cs := #[.int .i64 0, .int .i64 0, .slice none 0 0]) ?_ 0 _ rfl; (with_reducible repeat (first | refine blk_drewN ?_ _ | refine blk_drew ?_ | refine blk_alloc ?_ _)); exact BK274.out) hb); have n7_ := Aside0.mk (below_step (by repeat (first | (with_reducible first | exact HB.out | apply below_alloc | apply pw_below_drewN | apply below_drew1 | refine below_set ?_ GE254.out | refine below_set ?_ GE268.out | refine below_set ?_ GE274.out) | exact HB.out)) hb); clear HO260; clear HO265; clear HO273; clear BK254; clear BK268; clear BK274; clear HB; have HO260 := n0_; have HO265 := n1_; have HO273 := n2_; have HO279 := n3_; have BK254 := n4_; have BK268 := n5_; have BK274 := n6_; have HB := n7_; clear n0_ n1_ n2_ n3_ n4_ n5_ n6_ n7_; (try clear hb); (try clear hb2); (try clear hk); (try clear hi); (try clear ho0)) | ((with_reducible refine gate_dst (N := 12) rfl ?_); refine box_event ?hg (N := 12) ?hd (cs := #[.int .i64 0, .int .i64 0, .slice none 0 0]) (t := 28) ?hr ?_; (case hd => rfl); (case hg => rfl); (case hr => first | (go_simp; done) | (go_simp; rfl)); intro gb282 hg w33 hbox hb; have n0_ := Aside0.mk (Kd.R_below (by (with_reducible repeat (first | apply Kd.R_alloc | apply Kd.R_drewN | apply Kd.R_drew)); exact HO260.out) hb); have n1_ := Aside0.mk (Kd.R_below (by (with_reducible repeat (first | apply Kd.R_alloc | apply Kd.R_drewN | apply Kd.R_drew)); exact HO265.out) hb); have n2_ := Aside0.mk (Kd.R_below (by (with_reducible repeat (first | apply Kd.R_alloc | apply Kd.R_drewN | apply Kd.R_drew)); exact HO273.out) hb); have n3_ := Aside0.mk (Kd.R_below (by (with_reducible repeat (first | apply Kd.R_alloc | apply Kd.R_drewN | apply Kd.R_drew)); exact HO279.out) hb); have n4_ := Aside0.mk (blk_below (g := gb254) (o := .cells #[.int .i64 a0_0, .int .i64 a0_1, .slice A0_2 l0_2.length c0_2] 24 (0, 0)) (by (with_reducible repeat (first | refine blk_drewN ?_ _ | refine blk_drew ?_ | refine blk_alloc ?_ _)); exact BK254.out) hb); have n5_ := Aside0.mk (blk_below (g := gb268) (o := .cells #[.int .i64 t261, .int .i64 t262, .slice Ao24 t263.length co24] 28 (0, 0)) (by (with_reducible repeat (first | refine blk_drewN ?_ _ | refine blk_drew ?_ | refine blk_alloc ?_ _)); exact BK268.out) hb); have n6_ := Aside0.mk (blk_below (g := gb274) (o := .cells #[.int .i64 t269, .int .i64 t270, .slice Ao31 t271.length co31] 28 (0, 0)) (by (with_reducible repeat (first | refine blk_drewN ?_ _ | refine blk_drew ?_ | refine blk_alloc ?_ _)); exact BK274.out) hb); have n7_ := Aside0.mk (below_step (by repeat (first | (with_reducible first | exact HB.out | apply below_alloc | apply pw_below_drewN | apply below_drew1 | refine below_set ?_ GE254.out | refine below_set ?_ GE268.out | refine below_set ?_ GE274.out) | exact HB.out)) hb); have n8_ := Aside0.mk (hbox); have n9_ := Aside0.mk ((by rw [hg]; exact (below_size (by repeat (first | (with_reducible first | exact HB.out | apply below_alloc | apply pw_below_drewN | apply below_drew1 | refine below_set ?_ GE254.out | refine below_set ?_ GE268.out | refine below_set ?_ GE274.out) | exact HB.out))) : w.heap.size ≤ gb282)); have n10_ := Aside0.mk ((by rw [hg]; exact (below_size (by repeat (first | (with_reducible first | exact HB.out | apply below_alloc | apply pw_below_drewN | apply below_drew1 | refine below_set ?_ GE254.out | refine below_set ?_ GE268.out | refine below_set ?_ GE274.out) | exact HB.out))) : w.heap.size ≤ gb282)); have n11_ := Aside0.mk ((by rw [hg]; exact Nat.ne_of_lt (blk_lt (g := gb254) (o := .cells #[.int .i64 a0_0, .int .i64 a0_1, .slice A0_2 l0_2.length c0_2] 24 (0, 0)) (by (with_reducible repeat (first | refine blk_drewN ?_ _ | refine blk_drew ?_ | refine blk_alloc ?_ _)); exact BK254.out)) : gb254 ≠ gb282)); have n12_ := Aside0.mk ((by rw [hg]; exact Nat.ne_of_gt (blk_lt (g := gb254) (o := .cells #[.int .i64 a0_0, .int .i64 a0_1, .slice A0_2 l0_2.length c0_2] 24 (0, 0)) (by (with_reducible repeat (first | refine blk_drewN ?_ _ | refine blk_drew ?_ | refine blk_alloc ?_ _)); exact BK254.out)) : gb282 ≠ gb254)); have n13_ := Aside0.mk ((by rw [hg]; exact Nat.ne_of_lt (blk_lt (g := gb268) (o := .cells #[.int .i64 t261, .int .i64 t262, .slice Ao24 t263.length co24] 28 (0, 0)) (by (with_reducible repeat (first | refine blk_drewN ?_ _ | refine blk_drew ?_ | refine blk_alloc ?_ _)); exact BK268.out)) : gb268 ≠ gb282)); have n14_ := Aside0.mk ((by rw [hg]; exact Nat.ne_of_gt (blk_lt (g := gb268) (o := .cells #[.int .i64 t261, .int .i64 t262, .slice Ao24 t263.length co24] 28 (0, 0)) (by (with_reducible repeat (first | refine blk_drewN ?_ _ | refine blk_drew ?_ | refine blk_alloc ?_ _)); exact BK268.out)) : gb282 ≠ gb268)); have n15_ := Aside0.mk ((by rw [hg]; exact Nat.ne_of_lt (blk_lt (g := gb274) (o := .cells #[.int .i64 t269, .int .i64 t270, .slice Ao31 t271.length co31] 28 (0, 0)) (by (with_reducible repeat (first | refine blk_drewN ?_ _ | refine blk_drew ?_ | refine blk_alloc ?_ _)); exact BK274.out)) : gb274 ≠ gb282)); have n16_ := Aside0.mk ((by rw [hg]; exact Nat.ne_of_gt (blk_lt (g := gb274) (o := .cells #[.int .i64 t269, .int .i64 t270, .slice Ao31 t271.length co31] 28 (0, 0)) (by (with_reducible repeat (first | refine blk_drewN ?_ _ | refine blk_drew ?_ | refine blk_alloc ?_ _)); exact BK274.out)) : gb282 ≠ gb274)); clear HO260; clear HO265; clear HO273; clear HO279; clear BK254; clear BK268; clear BK274; clear HB; have HO260 := n0_; have HO265 := n1_; have HO273 := n2_; have HO279 := n3_; have BK254 := n4_; have BK268 := n5_; have BK274 := n6_; have HB := n7_; have BK282 := n8_; have GW282 := n9_; have GE282 := n10_; have NB254_282 := n11_; have NB282_254 := n12_; have NB268_282 := n13_; have NB282_268 := n14_; have NB274_282 := n15_; have NB282_274 := n16_; clear n0_ n1_ n2_ n3_ n4_ n5_ n6_ n7_ n8_ n9_ n10_ n11_ n12_ n13_ n14_ n15_ n16_; clear hb hbox hg; have hnb34 := NB282_254.out; have hnc34 := NB254_282.out; have hnb35 := NB282_268.out; have hnc35 := NB268_282.out; have hnb36 := NB282_274.out; have hnc36 := NB274_282.out; have hcz37_0 : w33.cell? ⟨gb282, 0, none⟩ = some (.int .i64 0) := (blk_cell BK282.out 0).trans rfl; have hcz37_1 : w33.cell? ⟨gb282, 1, none⟩ = some (.int .i64 0) := (blk_cell BK282.out 1).trans rfl; have hcz37_2 : w33.cell? ⟨gb282, 2, none⟩ = some (.slice none 0 0) := (blk_cell BK282.out 2).trans rfl; have hfz37_0 := blk_frozen BK282.out 0; have hfz37_1 := blk_frozen BK282.out 1; have hfz37_2 := blk_frozen BK282.out 2; obtain ⟨Ao38, co38, eo38⟩ := Kd.R_slice HO279.out; subst eo38))
    (try simp only [Act.put, List.setIfInBounds_toArray, List.set_cons_zero, List.set_cons_succ])
    go_cut [58] (fun v58 wc => ∃ (kq : Nat) (x58_12 : Bool), v58 = .bool x58_12 ∧ Aside0 (laws_FnExactVoteRun.j0 kq a1 a2 t266 t267 t280 t281 x58_12 a0_0 a0_1 l0_2 t261 t262 t263 t269 t270 t271 t275 t276 t277 = some r) ∧ Aside0 (kq ≤ k) ∧ Aside0 (Kd.R (Kd.int .i64) 2 wc w.heap.size (fun k_ => some k_ ≠ ((.slice Ao31 t271.length co31) : Value).ownBlock ∧ some k_ ≠ ((.slice Ao38 t277.length co38) : Value).ownBlock) (.slice Ao24 t263.length co24) t263) ∧ Aside0 (Kd.R (Kd.int .i64) 2 wc w.heap.size (fun k_ => some k_ ≠ ((.slice Ao24 t263.length co24) : Value).ownBlock ∧ some k_ ≠ ((.slice Ao38 t277.length co38) : Value).ownBlock) (.slice Ao31 t271.length co31) t271) ∧ Aside0 (Kd.R (Kd.int .i64) 2 wc w.heap.size (fun k_ => some k_ ≠ ((.slice Ao24 t263.length co24) : Value).ownBlock ∧ some k_ ≠ ((.slice Ao31 t271.length co31) : Value).ownBlock) (.slice Ao38 t277.length co38) t277) ∧ Aside0 (wc.heap[gb254]? = some (.cells #[.int .i64 a0_0, .int .i64 a0_1, (.slice A0_2 l0_2.length c0_2)] 24 (0, 0))) ∧ Aside0 (wc.heap[gb268]? = some (.cells #[.int .i64 t261, .int .i64 t262, (.slice Ao24 t263.length co24)] 28 (0, 0))) ∧ Aside0 (wc.heap[gb274]? = some (.cells #[.int .i64 t269, .int .i64 t270, (.slice Ao31 t271.length co31)] 28 (0, 0))) ∧ Aside0 (wc.heap[gb282]? = some (.cells #[.int .i64 t275, .int .i64 t276, (.slice Ao38 t277.length co38)] 28 (0, 0))) ∧ Aside0 (Below w.heap.size w wc))
    case first =>
      have H := HC13.out
      clear HC13
      replace H := Option.bind_eq_some_iff.mp H
      obtain ⟨t283, A390, H⟩ := H
      replace H : (if t283 = true then (if t280 = t266 then (laws_FnExactVoteRun.j0 k a1 a2 t266 t267 t280 t281 (t281 != t267) a0_0 a0_1 l0_2 t261 t262 t263 t269 t270 t271 t275 t276 t277) else (laws_FnExactVoteRun.j0 k a1 a2 t266 t267 t280 t281 true a0_0 a0_1 l0_2 t261 t262 t263 t269 t270 t271 t275 t276 t277)) else (laws_FnExactVoteRun.j0 k a1 a2 t266 t267 t280 t281 true a0_0 a0_1 l0_2 t261 t262 t263 t269 t270 t271 t275 t276 t277)) = some r := H
      have A39 := Aside0.mk A390
      clear A390
      by_cases c40 : t283 = true
      · subst c40
        have H1 : (if t280 = t266 then (laws_FnExactVoteRun.j0 k a1 a2 t266 t267 t280 t281 (t281 != t267) a0_0 a0_1 l0_2 t261 t262 t263 t269 t270 t271 t275 t276 t277) else (laws_FnExactVoteRun.j0 k a1 a2 t266 t267 t280 t281 true a0_0 a0_1 l0_2 t261 t262 t263 t269 t270 t271 t275 t276 t277)) = some r := by rw [if_pos rfl] at H; exact H
        clear H
        have H := H1
        clear H1
        by_cases c41 : t280 = t266
        · rw [if_pos c41] at H
          have c41b0 : (t280 == t266) = true := beq_iff_eq.mpr c41
          have c41b1 : (t280 != t266) = false := bne_eq_false_iff_eq.mpr c41
          clear c41
          (first | rw [c41b0] | (simp only [i64_w, i32_w]; rw [c41b0]) | skip)
          have H' := Aside0.mk H
          clear H
          have hnb42 := NB282_254.out
          have hnc42 := NB254_282.out
          have hnb43 := NB282_268.out
          have hnc43 := NB268_282.out
          have hnb44 := NB282_274.out
          have hnc44 := NB274_282.out
          have hcz45_0 : w33.cell? ⟨gb282, 0, none⟩ = some (.int .i64 0) := (blk_cell BK282.out 0).trans rfl
          have hcz45_1 : w33.cell? ⟨gb282, 1, none⟩ = some (.int .i64 0) := (blk_cell BK282.out 1).trans rfl
          have hcz45_2 : w33.cell? ⟨gb282, 2, none⟩ = some (.slice none 0 0) := (blk_cell BK282.out 2).trans rfl
          have hfz45_0 := blk_frozen BK282.out 0
          have hfz45_1 := blk_frozen BK282.out 1
          have hfz45_2 := blk_frozen BK282.out 2
          have hnb46 := NB268_254.out
          have hnc46 := NB254_268.out
          have hnb47 := NB268_274.out
          have hnc47 := NB274_268.out
          have hcz48_0 : w33.cell? ⟨gb268, 0, none⟩ = some (.int .i64 t261) := (blk_cell BK268.out 0).trans rfl
          have hcz48_1 : w33.cell? ⟨gb268, 1, none⟩ = some (.int .i64 t262) := (blk_cell BK268.out 1).trans rfl
          have hcz48_2 : w33.cell? ⟨gb268, 2, none⟩ = some (.slice Ao24 t263.length co24) := (blk_cell BK268.out 2).trans rfl
          have hfz48_0 := blk_frozen BK268.out 0
          have hfz48_1 := blk_frozen BK268.out 1
          have hfz48_2 := blk_frozen BK268.out 2
          go_wp2_with (first | ((with_reducible refine gate_callee (f := 20) rfl ?_); refine goesL_ (some 47) rfl rfl Try.func20 (by kernel_rfl) rfl #[.agg #[.int .i64 t275, .int .i64 t276, .slice Ao38 t277.length co38], .agg #[.int .i64 t261, .int .i64 t262, .slice Ao24 t263.length co24]] rfl (by (try simp only [List.map_toArray, List.map_cons, List.map_nil]); first | done | rfl | (simp only [List.length_drop, List.length_take]; rfl)) ?_; (with_reducible refine (laws_eqField.calls k t275 t276 _ _ t277 t261 t262 _ _ t263 true _ ?side1 ?side2 ?side3 ?side4 A39.out).mono ?_); (case side1 => refine (Kd.R_reads' (e := 2) (base := w.heap.size) (ok := fun k_ => (((True ∧ some k_ ≠ (.slice Ao19 t258.length co19 : Value).ownBlock) ∧ some k_ ≠ (.slice Ao24 t263.length co24 : Value).ownBlock) ∧ some k_ ≠ (.slice Ao31 t271.length co31 : Value).ownBlock)) (n := t277.length) (c := co38) ?_).2.2; exact (by (with_reducible repeat (first | apply Kd.R_alloc | apply Kd.R_drewN | apply Kd.R_drew)); exact (Kd.R_mono (Kd.R_far (p := ⟨gb282, 2, none⟩) (Kd.R_far (p := ⟨gb282, 1, none⟩) (Kd.R_far (p := ⟨gb282, 0, none⟩) (Kd.R_types HO279.out BK282.out (by decide)) (fun _ hk => hk.2) (.int .i64 t275)) (fun _ hk => hk.2) (.int .i64 t276)) (fun _ hk => hk.2) (.slice Ao38 t277.length co38)) (fun _ h_ => h_.1)))); (case side2 => exact (Kd.R_reads' HO279.out).2.1); (case side3 => refine (Kd.R_reads' (e := 2) (base := w.heap.size) (ok := fun k_ => (((True ∧ some k_ ≠ (.slice Ao19 t258.length co19 : Value).ownBlock) ∧ some k_ ≠ (.slice Ao31 t271.length co31 : Value).ownBlock) ∧ some k_ ≠ (.slice Ao38 t277.length co38 : Value).ownBlock)) (n := t263.length) (c := co24) ?_).2.2; exact (by (with_reducible repeat (first | apply Kd.R_alloc | apply Kd.R_drewN | apply Kd.R_drew)); exact (Kd.R_mono (Kd.R_far (p := ⟨gb282, 2, none⟩) (Kd.R_far (p := ⟨gb282, 1, none⟩) (Kd.R_far (p := ⟨gb282, 0, none⟩) (Kd.R_types HO265.out BK282.out (by decide)) (fun _ hk => hk.2) (.int .i64 t275)) (fun _ hk => hk.2) (.int .i64 t276)) (fun _ hk => hk.2) (.slice Ao38 t277.length co38)) (fun _ h_ => h_.1)))); (case side4 => exact (Kd.R_reads' HO265.out).2.1); rintro e w49 ⟨rfl, hb⟩; refine ⟨_, rfl, ?_⟩; have n0_ := Aside0.mk (Kd.R_below (by (with_reducible repeat (first | apply Kd.R_alloc | apply Kd.R_drewN | apply Kd.R_drew)); exact (Kd.R_mono (Kd.R_far (p := ⟨gb282, 2, none⟩) (Kd.R_far (p := ⟨gb282, 1, none⟩) (Kd.R_far (p := ⟨gb282, 0, none⟩) (Kd.R_types HO260.out BK282.out (by decide)) (fun _ hk => hk.2) (.int .i64 t275)) (fun _ hk => hk.2) (.int .i64 t276)) (fun _ hk => hk.2) (.slice Ao38 t277.length co38)) (fun _ h_ => h_.1))) hb); have n1_ := Aside0.mk (Kd.R_below (by (with_reducible repeat (first | apply Kd.R_alloc | apply Kd.R_drewN | apply Kd.R_drew)); exact (Kd.R_mono (Kd.R_far (p := ⟨gb282, 2, none⟩) (Kd.R_far (p := ⟨gb282, 1, none⟩) (Kd.R_far (p := ⟨gb282, 0, none⟩) (Kd.R_types HO265.out BK282.out (by decide)) (fun _ hk => hk.2) (.int .i64 t275)) (fun _ hk => hk.2) (.int .i64 t276)) (fun _ hk => hk.2) (.slice Ao38 t277.length co38)) (fun _ h_ => h_.1))) hb); have n2_ := Aside0.mk (Kd.R_below (by (with_reducible repeat (first | apply Kd.R_alloc | apply Kd.R_drewN | apply Kd.R_drew)); exact (Kd.R_mono (Kd.R_far (p := ⟨gb282, 2, none⟩) (Kd.R_far (p := ⟨gb282, 1, none⟩) (Kd.R_far (p := ⟨gb282, 0, none⟩) (Kd.R_types HO273.out BK282.out (by decide)) (fun _ hk => hk.2) (.int .i64 t275)) (fun _ hk => hk.2) (.int .i64 t276)) (fun _ hk => hk.2) (.slice Ao38 t277.length co38)) (fun _ h_ => h_.1))) hb); have n3_ := Aside0.mk (Kd.R_below (by (with_reducible repeat (first | apply Kd.R_alloc | apply Kd.R_drewN | apply Kd.R_drew)); exact (Kd.R_mono (Kd.R_far (p := ⟨gb282, 2, none⟩) (Kd.R_far (p := ⟨gb282, 1, none⟩) (Kd.R_far (p := ⟨gb282, 0, none⟩) (Kd.R_types HO279.out BK282.out (by decide)) (fun _ hk => hk.2) (.int .i64 t275)) (fun _ hk => hk.2) (.int .i64 t276)) (fun _ hk => hk.2) (.slice Ao38 t277.length co38)) (fun _ h_ => h_.1))) hb); have n4_ := Aside0.mk (blk_below (g := gb254) (o := .cells #[.int .i64 a0_0, .int .i64 a0_1, .slice A0_2 l0_2.length c0_2] 24 (0, 0)) (by (with_reducible repeat (first | refine blk_drewN ?_ _ | refine blk_drew ?_ | refine blk_alloc ?_ _)); refine blk_far ?_ NB254_282.out _; (with_reducible repeat (first | refine blk_drewN ?_ _ | refine blk_drew ?_ | refine blk_alloc ?_ _)); refine blk_far ?_ NB254_282.out _; (with_reducible repeat (first | refine blk_drewN ?_ _ | refine blk_drew ?_ | refine blk_alloc ?_ _)); refine blk_far ?_ NB254_282.out _; (with_reducible repeat (first | refine blk_drewN ?_ _ | refine blk_drew ?_ | refine blk_alloc ?_ _)); exact BK254.out) hb); have n5_ := Aside0.mk (blk_below (g := gb268) (o := .cells #[.int .i64 t261, .int .i64 t262, .slice Ao24 t263.length co24] 28 (0, 0)) (by (with_reducible repeat (first | refine blk_drewN ?_ _ | refine blk_drew ?_ | refine blk_alloc ?_ _)); refine blk_far ?_ NB268_282.out _; (with_reducible repeat (first | refine blk_drewN ?_ _ | refine blk_drew ?_ | refine blk_alloc ?_ _)); refine blk_far ?_ NB268_282.out _; (with_reducible repeat (first | refine blk_drewN ?_ _ | refine blk_drew ?_ | refine blk_alloc ?_ _)); refine blk_far ?_ NB268_282.out _; (with_reducible repeat (first | refine blk_drewN ?_ _ | refine blk_drew ?_ | refine blk_alloc ?_ _)); exact BK268.out) hb); have n6_ := Aside0.mk (blk_below (g := gb274) (o := .cells #[.int .i64 t269, .int .i64 t270, .slice Ao31 t271.length co31] 28 (0, 0)) (by (with_reducible repeat (first | refine blk_drewN ?_ _ | refine blk_drew ?_ | refine blk_alloc ?_ _)); refine blk_far ?_ NB274_282.out _; (with_reducible repeat (first | refine blk_drewN ?_ _ | refine blk_drew ?_ | refine blk_alloc ?_ _)); refine blk_far ?_ NB274_282.out _; (with_reducible repeat (first | refine blk_drewN ?_ _ | refine blk_drew ?_ | refine blk_alloc ?_ _)); refine blk_far ?_ NB274_282.out _; (with_reducible repeat (first | refine blk_drewN ?_ _ | refine blk_drew ?_ | refine blk_alloc ?_ _)); exact BK274.out) hb); have n7_ := Aside0.mk (blk_below (g := gb282) (o := .cells #[.int .i64 t275, .int .i64 t276, .slice Ao38 t277.length co38] 28 (0, 0)) (by (with_reducible repeat (first | refine blk_drewN ?_ _ | refine blk_drew ?_ | refine blk_alloc ?_ _)); refine blk_put (cs := #[.int .i64 t275, .int .i64 t276, .slice none 0 0]) ?_ 2 _ rfl; (with_reducible repeat (first | refine blk_drewN ?_ _ | refine blk_drew ?_ | refine blk_alloc ?_ _)); refine blk_put (cs := #[.int .i64 t275, .int .i64 0, .slice none 0 0]) ?_ 1 _ rfl; (with_reducible repeat (first | refine blk_drewN ?_ _ | refine blk_drew ?_ | refine blk_alloc ?_ _)); refine blk_put (cs := #[.int .i64 0, .int .i64 0, .slice none 0 0]) ?_ 0 _ rfl; (with_reducible repeat (first | refine blk_drewN ?_ _ | refine blk_drew ?_ | refine blk_alloc ?_ _)); exact BK282.out) hb); have n8_ := Aside0.mk (below_step (by repeat (first | (with_reducible first | exact HB.out | apply below_alloc | apply pw_below_drewN | apply below_drew1 | refine below_set ?_ GE254.out | refine below_set ?_ GE268.out | refine below_set ?_ GE274.out | refine below_set ?_ GE282.out) | exact HB.out)) hb); clear HO260; clear HO265; clear HO273; clear HO279; clear BK254; clear BK268; clear BK274; clear BK282; clear HB; have HO260 := n0_; have HO265 := n1_; have HO273 := n2_; have HO279 := n3_; have BK254 := n4_; have BK268 := n5_; have BK274 := n6_; have BK282 := n7_; have HB := n8_; clear n0_ n1_ n2_ n3_ n4_ n5_ n6_ n7_ n8_; (try clear hb); (try clear hb2); (try clear hk); (try clear hi)))
          go_meet
          case rel => exact ⟨_, ((t281 != t267)), (by first | rfl | (simp; done) | (simp [i64_w, i32_w]; done) | (simp [*]; done) | (simp [*, i64_w, i32_w]; done)), H', ⟨by first | omega | exact Nat.le_refl _⟩, ⟨by (with_reducible repeat (first | apply Kd.R_alloc | apply Kd.R_drewN | apply Kd.R_drew)); exact Kd.R_mono HO265.out (fun _ hk => ⟨hk.1.2, hk.2⟩)⟩, ⟨by (with_reducible repeat (first | apply Kd.R_alloc | apply Kd.R_drewN | apply Kd.R_drew)); exact Kd.R_mono HO273.out (fun _ hk => ⟨hk.1.2, hk.2⟩)⟩, ⟨by (with_reducible repeat (first | apply Kd.R_alloc | apply Kd.R_drewN | apply Kd.R_drew)); exact Kd.R_mono HO279.out (fun _ hk => ⟨hk.1.2, hk.2⟩)⟩, ⟨by (with_reducible repeat (first | refine blk_drewN ?_ _ | refine blk_drew ?_ | refine blk_alloc ?_ _)); exact BK254.out⟩, ⟨by (with_reducible repeat (first | refine blk_drewN ?_ _ | refine blk_drew ?_ | refine blk_alloc ?_ _)); exact BK268.out⟩, ⟨by (with_reducible repeat (first | refine blk_drewN ?_ _ | refine blk_drew ?_ | refine blk_alloc ?_ _)); exact BK274.out⟩, ⟨by (with_reducible repeat (first | refine blk_drewN ?_ _ | refine blk_drew ?_ | refine blk_alloc ?_ _)); exact BK282.out⟩, ⟨by repeat (first | (with_reducible first | exact HB.out | apply below_alloc | apply pw_below_drewN | apply below_drew1 | refine below_set ?_ GE254.out | refine below_set ?_ GE268.out | refine below_set ?_ GE274.out | refine below_set ?_ GE282.out) | exact HB.out)⟩⟩
        · rw [if_neg c41] at H
          have c41b0 : (t280 == t266) = false := beq_eq_false_iff_ne.mpr c41
          have c41b1 : (t280 != t266) = true := bne_iff_ne.mpr c41
          (first | rw [c41b0] | (simp only [i64_w, i32_w]; rw [c41b0]) | skip)
          have H' := Aside0.mk H
          clear H
          have hnb50 := NB282_254.out
          have hnc50 := NB254_282.out
          have hnb51 := NB282_268.out
          have hnc51 := NB268_282.out
          have hnb52 := NB282_274.out
          have hnc52 := NB274_282.out
          have hcz53_0 : w33.cell? ⟨gb282, 0, none⟩ = some (.int .i64 0) := (blk_cell BK282.out 0).trans rfl
          have hcz53_1 : w33.cell? ⟨gb282, 1, none⟩ = some (.int .i64 0) := (blk_cell BK282.out 1).trans rfl
          have hcz53_2 : w33.cell? ⟨gb282, 2, none⟩ = some (.slice none 0 0) := (blk_cell BK282.out 2).trans rfl
          have hfz53_0 := blk_frozen BK282.out 0
          have hfz53_1 := blk_frozen BK282.out 1
          have hfz53_2 := blk_frozen BK282.out 2
          have hnb54 := NB268_254.out
          have hnc54 := NB254_268.out
          have hnb55 := NB268_274.out
          have hnc55 := NB274_268.out
          have hcz56_0 : w33.cell? ⟨gb268, 0, none⟩ = some (.int .i64 t261) := (blk_cell BK268.out 0).trans rfl
          have hcz56_1 : w33.cell? ⟨gb268, 1, none⟩ = some (.int .i64 t262) := (blk_cell BK268.out 1).trans rfl
          have hcz56_2 : w33.cell? ⟨gb268, 2, none⟩ = some (.slice Ao24 t263.length co24) := (blk_cell BK268.out 2).trans rfl
          have hfz56_0 := blk_frozen BK268.out 0
          have hfz56_1 := blk_frozen BK268.out 1
          have hfz56_2 := blk_frozen BK268.out 2
          go_wp2_with (first | ((with_reducible refine gate_callee (f := 20) rfl ?_); refine goesL_ (some 47) rfl rfl Try.func20 (by kernel_rfl) rfl #[.agg #[.int .i64 t275, .int .i64 t276, .slice Ao38 t277.length co38], .agg #[.int .i64 t261, .int .i64 t262, .slice Ao24 t263.length co24]] rfl (by (try simp only [List.map_toArray, List.map_cons, List.map_nil]); first | done | rfl | (simp only [List.length_drop, List.length_take]; rfl)) ?_; (with_reducible refine (laws_eqField.calls k t275 t276 _ _ t277 t261 t262 _ _ t263 true _ ?side1 ?side2 ?side3 ?side4 A39.out).mono ?_); (case side1 => refine (Kd.R_reads' (e := 2) (base := w.heap.size) (ok := fun k_ => (((True ∧ some k_ ≠ (.slice Ao19 t258.length co19 : Value).ownBlock) ∧ some k_ ≠ (.slice Ao24 t263.length co24 : Value).ownBlock) ∧ some k_ ≠ (.slice Ao31 t271.length co31 : Value).ownBlock)) (n := t277.length) (c := co38) ?_).2.2; exact (by (with_reducible repeat (first | apply Kd.R_alloc | apply Kd.R_drewN | apply Kd.R_drew)); exact (Kd.R_mono (Kd.R_far (p := ⟨gb282, 2, none⟩) (Kd.R_far (p := ⟨gb282, 1, none⟩) (Kd.R_far (p := ⟨gb282, 0, none⟩) (Kd.R_types HO279.out BK282.out (by decide)) (fun _ hk => hk.2) (.int .i64 t275)) (fun _ hk => hk.2) (.int .i64 t276)) (fun _ hk => hk.2) (.slice Ao38 t277.length co38)) (fun _ h_ => h_.1)))); (case side2 => exact (Kd.R_reads' HO279.out).2.1); (case side3 => refine (Kd.R_reads' (e := 2) (base := w.heap.size) (ok := fun k_ => (((True ∧ some k_ ≠ (.slice Ao19 t258.length co19 : Value).ownBlock) ∧ some k_ ≠ (.slice Ao31 t271.length co31 : Value).ownBlock) ∧ some k_ ≠ (.slice Ao38 t277.length co38 : Value).ownBlock)) (n := t263.length) (c := co24) ?_).2.2; exact (by (with_reducible repeat (first | apply Kd.R_alloc | apply Kd.R_drewN | apply Kd.R_drew)); exact (Kd.R_mono (Kd.R_far (p := ⟨gb282, 2, none⟩) (Kd.R_far (p := ⟨gb282, 1, none⟩) (Kd.R_far (p := ⟨gb282, 0, none⟩) (Kd.R_types HO265.out BK282.out (by decide)) (fun _ hk => hk.2) (.int .i64 t275)) (fun _ hk => hk.2) (.int .i64 t276)) (fun _ hk => hk.2) (.slice Ao38 t277.length co38)) (fun _ h_ => h_.1)))); (case side4 => exact (Kd.R_reads' HO265.out).2.1); rintro e w57 ⟨rfl, hb⟩; refine ⟨_, rfl, ?_⟩; have n0_ := Aside0.mk (Kd.R_below (by (with_reducible repeat (first | apply Kd.R_alloc | apply Kd.R_drewN | apply Kd.R_drew)); exact (Kd.R_mono (Kd.R_far (p := ⟨gb282, 2, none⟩) (Kd.R_far (p := ⟨gb282, 1, none⟩) (Kd.R_far (p := ⟨gb282, 0, none⟩) (Kd.R_types HO260.out BK282.out (by decide)) (fun _ hk => hk.2) (.int .i64 t275)) (fun _ hk => hk.2) (.int .i64 t276)) (fun _ hk => hk.2) (.slice Ao38 t277.length co38)) (fun _ h_ => h_.1))) hb); have n1_ := Aside0.mk (Kd.R_below (by (with_reducible repeat (first | apply Kd.R_alloc | apply Kd.R_drewN | apply Kd.R_drew)); exact (Kd.R_mono (Kd.R_far (p := ⟨gb282, 2, none⟩) (Kd.R_far (p := ⟨gb282, 1, none⟩) (Kd.R_far (p := ⟨gb282, 0, none⟩) (Kd.R_types HO265.out BK282.out (by decide)) (fun _ hk => hk.2) (.int .i64 t275)) (fun _ hk => hk.2) (.int .i64 t276)) (fun _ hk => hk.2) (.slice Ao38 t277.length co38)) (fun _ h_ => h_.1))) hb); have n2_ := Aside0.mk (Kd.R_below (by (with_reducible repeat (first | apply Kd.R_alloc | apply Kd.R_drewN | apply Kd.R_drew)); exact (Kd.R_mono (Kd.R_far (p := ⟨gb282, 2, none⟩) (Kd.R_far (p := ⟨gb282, 1, none⟩) (Kd.R_far (p := ⟨gb282, 0, none⟩) (Kd.R_types HO273.out BK282.out (by decide)) (fun _ hk => hk.2) (.int .i64 t275)) (fun _ hk => hk.2) (.int .i64 t276)) (fun _ hk => hk.2) (.slice Ao38 t277.length co38)) (fun _ h_ => h_.1))) hb); have n3_ := Aside0.mk (Kd.R_below (by (with_reducible repeat (first | apply Kd.R_alloc | apply Kd.R_drewN | apply Kd.R_drew)); exact (Kd.R_mono (Kd.R_far (p := ⟨gb282, 2, none⟩) (Kd.R_far (p := ⟨gb282, 1, none⟩) (Kd.R_far (p := ⟨gb282, 0, none⟩) (Kd.R_types HO279.out BK282.out (by decide)) (fun _ hk => hk.2) (.int .i64 t275)) (fun _ hk => hk.2) (.int .i64 t276)) (fun _ hk => hk.2) (.slice Ao38 t277.length co38)) (fun _ h_ => h_.1))) hb); have n4_ := Aside0.mk (blk_below (g := gb254) (o := .cells #[.int .i64 a0_0, .int .i64 a0_1, .slice A0_2 l0_2.length c0_2] 24 (0, 0)) (by (with_reducible repeat (first | refine blk_drewN ?_ _ | refine blk_drew ?_ | refine blk_alloc ?_ _)); refine blk_far ?_ NB254_282.out _; (with_reducible repeat (first | refine blk_drewN ?_ _ | refine blk_drew ?_ | refine blk_alloc ?_ _)); refine blk_far ?_ NB254_282.out _; (with_reducible repeat (first | refine blk_drewN ?_ _ | refine blk_drew ?_ | refine blk_alloc ?_ _)); refine blk_far ?_ NB254_282.out _; (with_reducible repeat (first | refine blk_drewN ?_ _ | refine blk_drew ?_ | refine blk_alloc ?_ _)); exact BK254.out) hb); have n5_ := Aside0.mk (blk_below (g := gb268) (o := .cells #[.int .i64 t261, .int .i64 t262, .slice Ao24 t263.length co24] 28 (0, 0)) (by (with_reducible repeat (first | refine blk_drewN ?_ _ | refine blk_drew ?_ | refine blk_alloc ?_ _)); refine blk_far ?_ NB268_282.out _; (with_reducible repeat (first | refine blk_drewN ?_ _ | refine blk_drew ?_ | refine blk_alloc ?_ _)); refine blk_far ?_ NB268_282.out _; (with_reducible repeat (first | refine blk_drewN ?_ _ | refine blk_drew ?_ | refine blk_alloc ?_ _)); refine blk_far ?_ NB268_282.out _; (with_reducible repeat (first | refine blk_drewN ?_ _ | refine blk_drew ?_ | refine blk_alloc ?_ _)); exact BK268.out) hb); have n6_ := Aside0.mk (blk_below (g := gb274) (o := .cells #[.int .i64 t269, .int .i64 t270, .slice Ao31 t271.length co31] 28 (0, 0)) (by (with_reducible repeat (first | refine blk_drewN ?_ _ | refine blk_drew ?_ | refine blk_alloc ?_ _)); refine blk_far ?_ NB274_282.out _; (with_reducible repeat (first | refine blk_drewN ?_ _ | refine blk_drew ?_ | refine blk_alloc ?_ _)); refine blk_far ?_ NB274_282.out _; (with_reducible repeat (first | refine blk_drewN ?_ _ | refine blk_drew ?_ | refine blk_alloc ?_ _)); refine blk_far ?_ NB274_282.out _; (with_reducible repeat (first | refine blk_drewN ?_ _ | refine blk_drew ?_ | refine blk_alloc ?_ _)); exact BK274.out) hb); have n7_ := Aside0.mk (blk_below (g := gb282) (o := .cells #[.int .i64 t275, .int .i64 t276, .slice Ao38 t277.length co38] 28 (0, 0)) (by (with_reducible repeat (first | refine blk_drewN ?_ _ | refine blk_drew ?_ | refine blk_alloc ?_ _)); refine blk_put (cs := #[.int .i64 t275, .int .i64 t276, .slice none 0 0]) ?_ 2 _ rfl; (with_reducible repeat (first | refine blk_drewN ?_ _ | refine blk_drew ?_ | refine blk_alloc ?_ _)); refine blk_put (cs := #[.int .i64 t275, .int .i64 0, .slice none 0 0]) ?_ 1 _ rfl; (with_reducible repeat (first | refine blk_drewN ?_ _ | refine blk_drew ?_ | refine blk_alloc ?_ _)); refine blk_put (cs := #[.int .i64 0, .int .i64 0, .slice none 0 0]) ?_ 0 _ rfl; (with_reducible repeat (first | refine blk_drewN ?_ _ | refine blk_drew ?_ | refine blk_alloc ?_ _)); exact BK282.out) hb); have n8_ := Aside0.mk (below_step (by repeat (first | (with_reducible first | exact HB.out | apply below_alloc | apply pw_below_drewN | apply below_drew1 | refine below_set ?_ GE254.out | refine below_set ?_ GE268.out | refine below_set ?_ GE274.out | refine below_set ?_ GE282.out) | exact HB.out)) hb); clear HO260; clear HO265; clear HO273; clear HO279; clear BK254; clear BK268; clear BK274; clear BK282; clear HB; have HO260 := n0_; have HO265 := n1_; have HO273 := n2_; have HO279 := n3_; have BK254 := n4_; have BK268 := n5_; have BK274 := n6_; have BK282 := n7_; have HB := n8_; clear n0_ n1_ n2_ n3_ n4_ n5_ n6_ n7_ n8_; (try clear hb); (try clear hb2); (try clear hk); (try clear hi)))
          go_meet
          case rel => exact ⟨_, (true), (by first | rfl | (simp; done) | (simp [i64_w, i32_w]; done) | (simp [*]; done) | (simp [*, i64_w, i32_w]; done)), H', ⟨by first | omega | exact Nat.le_refl _⟩, ⟨by (with_reducible repeat (first | apply Kd.R_alloc | apply Kd.R_drewN | apply Kd.R_drew)); exact Kd.R_mono HO265.out (fun _ hk => ⟨hk.1.2, hk.2⟩)⟩, ⟨by (with_reducible repeat (first | apply Kd.R_alloc | apply Kd.R_drewN | apply Kd.R_drew)); exact Kd.R_mono HO273.out (fun _ hk => ⟨hk.1.2, hk.2⟩)⟩, ⟨by (with_reducible repeat (first | apply Kd.R_alloc | apply Kd.R_drewN | apply Kd.R_drew)); exact Kd.R_mono HO279.out (fun _ hk => ⟨hk.1.2, hk.2⟩)⟩, ⟨by (with_reducible repeat (first | refine blk_drewN ?_ _ | refine blk_drew ?_ | refine blk_alloc ?_ _)); exact BK254.out⟩, ⟨by (with_reducible repeat (first | refine blk_drewN ?_ _ | refine blk_drew ?_ | refine blk_alloc ?_ _)); exact BK268.out⟩, ⟨by (with_reducible repeat (first | refine blk_drewN ?_ _ | refine blk_drew ?_ | refine blk_alloc ?_ _)); exact BK274.out⟩, ⟨by (with_reducible repeat (first | refine blk_drewN ?_ _ | refine blk_drew ?_ | refine blk_alloc ?_ _)); exact BK282.out⟩, ⟨by repeat (first | (with_reducible first | exact HB.out | apply below_alloc | apply pw_below_drewN | apply below_drew1 | refine below_set ?_ GE254.out | refine below_set ?_ GE268.out | refine below_set ?_ GE274.out | refine below_set ?_ GE282.out) | exact HB.out)⟩⟩
      · replace c40 := Bool.eq_false_iff.mpr c40
        subst c40
        have H1 : (laws_FnExactVoteRun.j0 k a1 a2 t266 t267 t280 t281 true a0_0 a0_1 l0_2 t261 t262 t263 t269 t270 t271 t275 t276 t277) = some r := by rw [if_neg (show ¬ (false = true) by decide)] at H; exact H
        clear H
        have H := H1
        clear H1
        have H' := Aside0.mk H
        clear H
        have hnb58 := NB282_254.out
        have hnc58 := NB254_282.out
        have hnb59 := NB282_268.out
        have hnc59 := NB268_282.out
        have hnb60 := NB282_274.out
        have hnc60 := NB274_282.out
        have hcz61_0 : w33.cell? ⟨gb282, 0, none⟩ = some (.int .i64 0) := (blk_cell BK282.out 0).trans rfl
        have hcz61_1 : w33.cell? ⟨gb282, 1, none⟩ = some (.int .i64 0) := (blk_cell BK282.out 1).trans rfl
        have hcz61_2 : w33.cell? ⟨gb282, 2, none⟩ = some (.slice none 0 0) := (blk_cell BK282.out 2).trans rfl
        have hfz61_0 := blk_frozen BK282.out 0
        have hfz61_1 := blk_frozen BK282.out 1
        have hfz61_2 := blk_frozen BK282.out 2
        have hnb62 := NB268_254.out
        have hnc62 := NB254_268.out
        have hnb63 := NB268_274.out
        have hnc63 := NB274_268.out
        have hcz64_0 : w33.cell? ⟨gb268, 0, none⟩ = some (.int .i64 t261) := (blk_cell BK268.out 0).trans rfl
        have hcz64_1 : w33.cell? ⟨gb268, 1, none⟩ = some (.int .i64 t262) := (blk_cell BK268.out 1).trans rfl
        have hcz64_2 : w33.cell? ⟨gb268, 2, none⟩ = some (.slice Ao24 t263.length co24) := (blk_cell BK268.out 2).trans rfl
        have hfz64_0 := blk_frozen BK268.out 0
        have hfz64_1 := blk_frozen BK268.out 1
        have hfz64_2 := blk_frozen BK268.out 2
        go_wp2_with (first | ((with_reducible refine gate_callee (f := 20) rfl ?_); refine goesL_ (some 47) rfl rfl Try.func20 (by kernel_rfl) rfl #[.agg #[.int .i64 t275, .int .i64 t276, .slice Ao38 t277.length co38], .agg #[.int .i64 t261, .int .i64 t262, .slice Ao24 t263.length co24]] rfl (by (try simp only [List.map_toArray, List.map_cons, List.map_nil]); first | done | rfl | (simp only [List.length_drop, List.length_take]; rfl)) ?_; (with_reducible refine (laws_eqField.calls k t275 t276 _ _ t277 t261 t262 _ _ t263 false _ ?side1 ?side2 ?side3 ?side4 A39.out).mono ?_); (case side1 => refine (Kd.R_reads' (e := 2) (base := w.heap.size) (ok := fun k_ => (((True ∧ some k_ ≠ (.slice Ao19 t258.length co19 : Value).ownBlock) ∧ some k_ ≠ (.slice Ao24 t263.length co24 : Value).ownBlock) ∧ some k_ ≠ (.slice Ao31 t271.length co31 : Value).ownBlock)) (n := t277.length) (c := co38) ?_).2.2; exact (by (with_reducible repeat (first | apply Kd.R_alloc | apply Kd.R_drewN | apply Kd.R_drew)); exact (Kd.R_mono (Kd.R_far (p := ⟨gb282, 2, none⟩) (Kd.R_far (p := ⟨gb282, 1, none⟩) (Kd.R_far (p := ⟨gb282, 0, none⟩) (Kd.R_types HO279.out BK282.out (by decide)) (fun _ hk => hk.2) (.int .i64 t275)) (fun _ hk => hk.2) (.int .i64 t276)) (fun _ hk => hk.2) (.slice Ao38 t277.length co38)) (fun _ h_ => h_.1)))); (case side2 => exact (Kd.R_reads' HO279.out).2.1); (case side3 => refine (Kd.R_reads' (e := 2) (base := w.heap.size) (ok := fun k_ => (((True ∧ some k_ ≠ (.slice Ao19 t258.length co19 : Value).ownBlock) ∧ some k_ ≠ (.slice Ao31 t271.length co31 : Value).ownBlock) ∧ some k_ ≠ (.slice Ao38 t277.length co38 : Value).ownBlock)) (n := t263.length) (c := co24) ?_).2.2; exact (by (with_reducible repeat (first | apply Kd.R_alloc | apply Kd.R_drewN | apply Kd.R_drew)); exact (Kd.R_mono (Kd.R_far (p := ⟨gb282, 2, none⟩) (Kd.R_far (p := ⟨gb282, 1, none⟩) (Kd.R_far (p := ⟨gb282, 0, none⟩) (Kd.R_types HO265.out BK282.out (by decide)) (fun _ hk => hk.2) (.int .i64 t275)) (fun _ hk => hk.2) (.int .i64 t276)) (fun _ hk => hk.2) (.slice Ao38 t277.length co38)) (fun _ h_ => h_.1)))); (case side4 => exact (Kd.R_reads' HO265.out).2.1); rintro e w65 ⟨rfl, hb⟩; refine ⟨_, rfl, ?_⟩; have n0_ := Aside0.mk (Kd.R_below (by (with_reducible repeat (first | apply Kd.R_alloc | apply Kd.R_drewN | apply Kd.R_drew)); exact (Kd.R_mono (Kd.R_far (p := ⟨gb282, 2, none⟩) (Kd.R_far (p := ⟨gb282, 1, none⟩) (Kd.R_far (p := ⟨gb282, 0, none⟩) (Kd.R_types HO260.out BK282.out (by decide)) (fun _ hk => hk.2) (.int .i64 t275)) (fun _ hk => hk.2) (.int .i64 t276)) (fun _ hk => hk.2) (.slice Ao38 t277.length co38)) (fun _ h_ => h_.1))) hb); have n1_ := Aside0.mk (Kd.R_below (by (with_reducible repeat (first | apply Kd.R_alloc | apply Kd.R_drewN | apply Kd.R_drew)); exact (Kd.R_mono (Kd.R_far (p := ⟨gb282, 2, none⟩) (Kd.R_far (p := ⟨gb282, 1, none⟩) (Kd.R_far (p := ⟨gb282, 0, none⟩) (Kd.R_types HO265.out BK282.out (by decide)) (fun _ hk => hk.2) (.int .i64 t275)) (fun _ hk => hk.2) (.int .i64 t276)) (fun _ hk => hk.2) (.slice Ao38 t277.length co38)) (fun _ h_ => h_.1))) hb); have n2_ := Aside0.mk (Kd.R_below (by (with_reducible repeat (first | apply Kd.R_alloc | apply Kd.R_drewN | apply Kd.R_drew)); exact (Kd.R_mono (Kd.R_far (p := ⟨gb282, 2, none⟩) (Kd.R_far (p := ⟨gb282, 1, none⟩) (Kd.R_far (p := ⟨gb282, 0, none⟩) (Kd.R_types HO273.out BK282.out (by decide)) (fun _ hk => hk.2) (.int .i64 t275)) (fun _ hk => hk.2) (.int .i64 t276)) (fun _ hk => hk.2) (.slice Ao38 t277.length co38)) (fun _ h_ => h_.1))) hb); have n3_ := Aside0.mk (Kd.R_below (by (with_reducible repeat (first | apply Kd.R_alloc | apply Kd.R_drewN | apply Kd.R_drew)); exact (Kd.R_mono (Kd.R_far (p := ⟨gb282, 2, none⟩) (Kd.R_far (p := ⟨gb282, 1, none⟩) (Kd.R_far (p := ⟨gb282, 0, none⟩) (Kd.R_types HO279.out BK282.out (by decide)) (fun _ hk => hk.2) (.int .i64 t275)) (fun _ hk => hk.2) (.int .i64 t276)) (fun _ hk => hk.2) (.slice Ao38 t277.length co38)) (fun _ h_ => h_.1))) hb); have n4_ := Aside0.mk (blk_below (g := gb254) (o := .cells #[.int .i64 a0_0, .int .i64 a0_1, .slice A0_2 l0_2.length c0_2] 24 (0, 0)) (by (with_reducible repeat (first | refine blk_drewN ?_ _ | refine blk_drew ?_ | refine blk_alloc ?_ _)); refine blk_far ?_ NB254_282.out _; (with_reducible repeat (first | refine blk_drewN ?_ _ | refine blk_drew ?_ | refine blk_alloc ?_ _)); refine blk_far ?_ NB254_282.out _; (with_reducible repeat (first | refine blk_drewN ?_ _ | refine blk_drew ?_ | refine blk_alloc ?_ _)); refine blk_far ?_ NB254_282.out _; (with_reducible repeat (first | refine blk_drewN ?_ _ | refine blk_drew ?_ | refine blk_alloc ?_ _)); exact BK254.out) hb); have n5_ := Aside0.mk (blk_below (g := gb268) (o := .cells #[.int .i64 t261, .int .i64 t262, .slice Ao24 t263.length co24] 28 (0, 0)) (by (with_reducible repeat (first | refine blk_drewN ?_ _ | refine blk_drew ?_ | refine blk_alloc ?_ _)); refine blk_far ?_ NB268_282.out _; (with_reducible repeat (first | refine blk_drewN ?_ _ | refine blk_drew ?_ | refine blk_alloc ?_ _)); refine blk_far ?_ NB268_282.out _; (with_reducible repeat (first | refine blk_drewN ?_ _ | refine blk_drew ?_ | refine blk_alloc ?_ _)); refine blk_far ?_ NB268_282.out _; (with_reducible repeat (first | refine blk_drewN ?_ _ | refine blk_drew ?_ | refine blk_alloc ?_ _)); exact BK268.out) hb); have n6_ := Aside0.mk (blk_below (g := gb274) (o := .cells #[.int .i64 t269, .int .i64 t270, .slice Ao31 t271.length co31] 28 (0, 0)) (by (with_reducible repeat (first | refine blk_drewN ?_ _ | refine blk_drew ?_ | refine blk_alloc ?_ _)); refine blk_far ?_ NB274_282.out _; (with_reducible repeat (first | refine blk_drewN ?_ _ | refine blk_drew ?_ | refine blk_alloc ?_ _)); refine blk_far ?_ NB274_282.out _; (with_reducible repeat (first | refine blk_drewN ?_ _ | refine blk_drew ?_ | refine blk_alloc ?_ _)); refine blk_far ?_ NB274_282.out _; (with_reducible repeat (first | refine blk_drewN ?_ _ | refine blk_drew ?_ | refine blk_alloc ?_ _)); exact BK274.out) hb); have n7_ := Aside0.mk (blk_below (g := gb282) (o := .cells #[.int .i64 t275, .int .i64 t276, .slice Ao38 t277.length co38] 28 (0, 0)) (by (with_reducible repeat (first | refine blk_drewN ?_ _ | refine blk_drew ?_ | refine blk_alloc ?_ _)); refine blk_put (cs := #[.int .i64 t275, .int .i64 t276, .slice none 0 0]) ?_ 2 _ rfl; (with_reducible repeat (first | refine blk_drewN ?_ _ | refine blk_drew ?_ | refine blk_alloc ?_ _)); refine blk_put (cs := #[.int .i64 t275, .int .i64 0, .slice none 0 0]) ?_ 1 _ rfl; (with_reducible repeat (first | refine blk_drewN ?_ _ | refine blk_drew ?_ | refine blk_alloc ?_ _)); refine blk_put (cs := #[.int .i64 0, .int .i64 0, .slice none 0 0]) ?_ 0 _ rfl; (with_reducible repeat (first | refine blk_drewN ?_ _ | refine blk_drew ?_ | refine blk_alloc ?_ _)); exact BK282.out) hb); have n8_ := Aside0.mk (below_step (by repeat (first | (with_reducible first | exact HB.out | apply below_alloc | apply pw_below_drewN | apply below_drew1 | refine below_set ?_ GE254.out | refine below_set ?_ GE268.out | refine below_set ?_ GE274.out | refine below_set ?_ GE282.out) | exact HB.out)) hb); clear HO260; clear HO265; clear HO273; clear HO279; clear BK254; clear BK268; clear BK274; clear BK282; clear HB; have HO260 := n0_; have HO265 := n1_; have HO273 := n2_; have HO279 := n3_; have BK254 := n4_; have BK268 := n5_; have BK274 := n6_; have BK282 := n7_; have HB := n8_; clear n0_ n1_ n2_ n3_ n4_ n5_ n6_ n7_ n8_; (try clear hb); (try clear hb2); (try clear hk); (try clear hi)))
        go_meet
        case rel => exact ⟨_, (true), (by first | rfl | (simp; done) | (simp [i64_w, i32_w]; done) | (simp [*]; done) | (simp [*, i64_w, i32_w]; done)), H', ⟨by first | omega | exact Nat.le_refl _⟩, ⟨by (with_reducible repeat (first | apply Kd.R_alloc | apply Kd.R_drewN | apply Kd.R_drew)); exact Kd.R_mono HO265.out (fun _ hk => ⟨hk.1.2, hk.2⟩)⟩, ⟨by (with_reducible repeat (first | apply Kd.R_alloc | apply Kd.R_drewN | apply Kd.R_drew)); exact Kd.R_mono HO273.out (fun _ hk => ⟨hk.1.2, hk.2⟩)⟩, ⟨by (with_reducible repeat (first | apply Kd.R_alloc | apply Kd.R_drewN | apply Kd.R_drew)); exact Kd.R_mono HO279.out (fun _ hk => ⟨hk.1.2, hk.2⟩)⟩, ⟨by (with_reducible repeat (first | refine blk_drewN ?_ _ | refine blk_drew ?_ | refine blk_alloc ?_ _)); exact BK254.out⟩, ⟨by (with_reducible repeat (first | refine blk_drewN ?_ _ | refine blk_drew ?_ | refine blk_alloc ?_ _)); exact BK268.out⟩, ⟨by (with_reducible repeat (first | refine blk_drewN ?_ _ | refine blk_drew ?_ | refine blk_alloc ?_ _)); exact BK274.out⟩, ⟨by (with_reducible repeat (first | refine blk_drewN ?_ _ | refine blk_drew ?_ | refine blk_alloc ?_ _)); exact BK282.out⟩, ⟨by repeat (first | (with_reducible first | exact HB.out | apply below_alloc | apply pw_below_drewN | apply below_drew1 | refine below_set ?_ GE254.out | refine below_set ?_ GE268.out | refine below_set ?_ GE274.out | refine below_set ?_ GE282.out) | exact HB.out)⟩⟩
    case rest =>
      clear HC13
      try clear c1
      try clear c2
      try clear p2
      try clear c3
      try clear c4
      try clear c5
      try clear c5b0
      try clear c6
      try clear c11
      try clear c15
      try clear c17
      try clear c20
      try clear c22
      try clear c28
      try clear c29
      try clear c34
      try clear c35
      try clear c36
      try clear c40
      try clear c41
      try clear c41b0
      try clear c41b1
      try clear c42
      try clear c43
      try clear c44
      try clear c46
      try clear c47
      try clear c50
      try clear c51
      try clear c52
      try clear c54
      try clear c55
      try clear c58
      try clear c59
      try clear c60
      try clear c62
      try clear c63
      try clear hcz15_0
      try clear hcz15_1
      try clear hcz15_2
      try clear hcz17_0
      try clear hcz17_1
      try clear hcz17_2
      try clear hcz23_0
      try clear hcz23_1
      try clear hcz23_2
      try clear hcz25_0
      try clear hcz25_1
      try clear hcz25_2
      try clear hcz30_0
      try clear hcz30_1
      try clear hcz30_2
      try clear hcz37_0
      try clear hcz37_1
      try clear hcz37_2
      try clear hcz45_0
      try clear hcz45_1
      try clear hcz45_2
      try clear hcz48_0
      try clear hcz48_1
      try clear hcz48_2
      try clear hcz53_0
      try clear hcz53_1
      try clear hcz53_2
      try clear hcz56_0
      try clear hcz56_1
      try clear hcz56_2
      try clear hcz61_0
      try clear hcz61_1
      try clear hcz61_2
      try clear hcz64_0
      try clear hcz64_1
      try clear hcz64_2
      try clear hcz7_0
      try clear hcz7_1
      try clear hcz7_2
      try clear hfz15_0
      try clear hfz15_1
      try clear hfz15_2
      try clear hfz17_0
      try clear hfz17_1
      try clear hfz17_2
      try clear hfz23_0
      try clear hfz23_1
      try clear hfz23_2
      try clear hfz25_0
      try clear hfz25_1
      try clear hfz25_2
      try clear hfz30_0
      try clear hfz30_1
      try clear hfz30_2
      try clear hfz37_0
      try clear hfz37_1
      try clear hfz37_2
      try clear hfz45_0
      try clear hfz45_1
      try clear hfz45_2
      try clear hfz48_0
      try clear hfz48_1
      try clear hfz48_2
      try clear hfz53_0
      try clear hfz53_1
      try clear hfz53_2
      try clear hfz56_0
      try clear hfz56_1
      try clear hfz56_2
      try clear hfz61_0
      try clear hfz61_1
      try clear hfz61_2
      try clear hfz64_0
      try clear hfz64_1
      try clear hfz64_2
      try clear hfz7_0
      try clear hfz7_1
      try clear hfz7_2
      obtain ⟨kq, x58_12, rfl, HA, HJ12, HO_269002, HO_275002, HO_283002, BK254, BK268, BK274, BK282, HB⟩ := hcut
      cases kq with
      | zero => exact absurd HA.out (by simp [laws_FnExactVoteRun.j0])
      | succ kj12 =>
        have H := HA.out
        clear HA
        simp only [laws_FnExactVoteRun.j0] at H
        by_cases c66 : x58_12 = true
        · subst c66
          have H1 : (some false) = some r := by rw [if_pos rfl] at H; exact H
          clear H
          have H := H1
          clear H1
          obtain rfl := Option.some.inj H
          go_wp2
          go_ret
          exact ⟨by first | rfl | (simp [errW_none, errW_some] <;> rfl) | (simp [*, errW_none, errW_some] <;> rfl), by repeat (first | (with_reducible first | exact HB.out | apply below_alloc | apply pw_below_drewN | apply below_drew1 | refine below_set ?_ GE254.out | refine below_set ?_ GE268.out | refine below_set ?_ GE274.out | refine below_set ?_ GE282.out) | exact HB.out)⟩
        · replace c66 := Bool.eq_false_iff.mpr c66
          subst c66
          have H1 : ((laws_toField.f kj12 a0_0 a0_1 l0_2).bind fun bt284 => ((laws_eqField.f kj12 t269 t270 t271 bt284.1 bt284.2.1 bt284.2.2).bind fun t289 => (if t289 = true then ((laws_markField.f kj12 t269 t270 t271 1).bind fun bt290 => (if bt290.1 < 0 then (laws_FnExactVoteRun.j1 kj12 a1 a2 t266 t267 true a0_0 a0_1 l0_2 t261 t262 t263 t275 t276 t277) else ((laws_eqField.f kj12 t275 t276 t277 t261 t262 t263).bind fun t292 => (if t292 = true then (if t280 = t266 then (laws_FnExactVoteRun.j1 kj12 a1 a2 t266 t267 (t281 != t267) a0_0 a0_1 l0_2 t261 t262 t263 t275 t276 t277) else (laws_FnExactVoteRun.j1 kj12 a1 a2 t266 t267 true a0_0 a0_1 l0_2 t261 t262 t263 t275 t276 t277)) else (laws_FnExactVoteRun.j1 kj12 a1 a2 t266 t267 true a0_0 a0_1 l0_2 t261 t262 t263 t275 t276 t277))))) else (some false)))) = some r := by rw [if_neg (show ¬ (false = true) by decide)] at H; exact H
          clear H
          have H := H1
          clear H1
          replace H := Option.bind_eq_some_iff.mp H
          obtain ⟨⟨t284, t285, t286⟩, A670, H⟩ := H
          replace H : ((laws_eqField.f kj12 t269 t270 t271 t284 t285 t286).bind fun t289 => (if t289 = true then ((laws_markField.f kj12 t269 t270 t271 1).bind fun bt290 => (if bt290.1 < 0 then (laws_FnExactVoteRun.j1 kj12 a1 a2 t266 t267 true a0_0 a0_1 l0_2 t261 t262 t263 t275 t276 t277) else ((laws_eqField.f kj12 t275 t276 t277 t261 t262 t263).bind fun t292 => (if t292 = true then (if t280 = t266 then (laws_FnExactVoteRun.j1 kj12 a1 a2 t266 t267 (t281 != t267) a0_0 a0_1 l0_2 t261 t262 t263 t275 t276 t277) else (laws_FnExactVoteRun.j1 kj12 a1 a2 t266 t267 true a0_0 a0_1 l0_2 t261 t262 t263 t275 t276 t277)) else (laws_FnExactVoteRun.j1 kj12 a1 a2 t266 t267 true a0_0 a0_1 l0_2 t261 t262 t263 t275 t276 t277))))) else (some false))) = some r := H
          have A67 := Aside0.mk A670
          clear A670
          replace H := Option.bind_eq_some_iff.mp H
          obtain ⟨t289, A680, H⟩ := H
          replace H : (if t289 = true then ((laws_markField.f kj12 t269 t270 t271 1).bind fun bt290 => (if bt290.1 < 0 then (laws_FnExactVoteRun.j1 kj12 a1 a2 t266 t267 true a0_0 a0_1 l0_2 t261 t262 t263 t275 t276 t277) else ((laws_eqField.f kj12 t275 t276 t277 t261 t262 t263).bind fun t292 => (if t292 = true then (if t280 = t266 then (laws_FnExactVoteRun.j1 kj12 a1 a2 t266 t267 (t281 != t267) a0_0 a0_1 l0_2 t261 t262 t263 t275 t276 t277) else (laws_FnExactVoteRun.j1 kj12 a1 a2 t266 t267 true a0_0 a0_1 l0_2 t261 t262 t263 t275 t276 t277)) else (laws_FnExactVoteRun.j1 kj12 a1 a2 t266 t267 true a0_0 a0_1 l0_2 t261 t262 t263 t275 t276 t277))))) else (some false)) = some r := H
          have A68 := Aside0.mk A680
          clear A680
          by_cases c69 : t289 = true
          · subst c69
            have H1 : ((laws_markField.f kj12 t269 t270 t271 1).bind fun bt290 => (if bt290.1 < 0 then (laws_FnExactVoteRun.j1 kj12 a1 a2 t266 t267 true a0_0 a0_1 l0_2 t261 t262 t263 t275 t276 t277) else ((laws_eqField.f kj12 t275 t276 t277 t261 t262 t263).bind fun t292 => (if t292 = true then (if t280 = t266 then (laws_FnExactVoteRun.j1 kj12 a1 a2 t266 t267 (t281 != t267) a0_0 a0_1 l0_2 t261 t262 t263 t275 t276 t277) else (laws_FnExactVoteRun.j1 kj12 a1 a2 t266 t267 true a0_0 a0_1 l0_2 t261 t262 t263 t275 t276 t277)) else (laws_FnExactVoteRun.j1 kj12 a1 a2 t266 t267 true a0_0 a0_1 l0_2 t261 t262 t263 t275 t276 t277))))) = some r := by rw [if_pos rfl] at H; exact H
            clear H
            have H := H1
            clear H1
            replace H := Option.bind_eq_some_iff.mp H
            obtain ⟨⟨t290, t291⟩, A700, H⟩ := H
            replace H : (if t290 < 0 then (laws_FnExactVoteRun.j1 kj12 a1 a2 t266 t267 true a0_0 a0_1 l0_2 t261 t262 t263 t275 t276 t277) else ((laws_eqField.f kj12 t275 t276 t277 t261 t262 t263).bind fun t292 => (if t292 = true then (if t280 = t266 then (laws_FnExactVoteRun.j1 kj12 a1 a2 t266 t267 (t281 != t267) a0_0 a0_1 l0_2 t261 t262 t263 t275 t276 t277) else (laws_FnExactVoteRun.j1 kj12 a1 a2 t266 t267 true a0_0 a0_1 l0_2 t261 t262 t263 t275 t276 t277)) else (laws_FnExactVoteRun.j1 kj12 a1 a2 t266 t267 true a0_0 a0_1 l0_2 t261 t262 t263 t275 t276 t277)))) = some r := H
            have A70 := Aside0.mk A700
            clear A700
            have HC71 := Aside0.mk H
            clear H
            try go_wp2
            have n0_ := Aside0.mk (Kd.R_drew HO_269002.out)
            have n1_ := Aside0.mk (Kd.R_drew HO_275002.out)
            have n2_ := Aside0.mk (Kd.R_drew HO_283002.out)
            have n3_ := Aside0.mk (blk_drew BK254.out)
            have n4_ := Aside0.mk (blk_drew BK268.out)
            have n5_ := Aside0.mk (blk_drew BK274.out)
            have n6_ := Aside0.mk (blk_drew BK282.out)
            have n7_ := Aside0.mk (below_drew1 HB.out)
            clear HO_269002
            clear HO_275002
            clear HO_283002
            clear BK254
            clear BK268
            clear BK274
            clear BK282
            clear HB
            have HO_269002 := n0_
            have HO_275002 := n1_
            have HO_283002 := n2_
            have BK254 := n3_
            have BK268 := n4_
            have BK274 := n5_
            have BK282 := n6_
            have HB := n7_
            clear n0_ n1_ n2_ n3_ n4_ n5_ n6_ n7_
            refine start_ (n := 5) (S := fun w' => w'.cell? ⟨gb274, 0, none⟩ = some (.int .i64 t269) ∧ w'.cell? ⟨gb274, 1, none⟩ = some (.int .i64 t270) ∧ w'.cell? ⟨gb274, 2, none⟩ = some (.slice Ao31 t271.length co31) ∧ w'.cell? ⟨gb254, 0, none⟩ = some (.int .i64 a0_0) ∧ w'.cell? ⟨gb254, 1, none⟩ = some (.int .i64 a0_1) ∧ w'.cell? ⟨gb254, 2, none⟩ = some (.slice A0_2 l0_2.length c0_2)) (ds := []) #[false, false, false, false, false] (by kernel_rfl) rfl rfl ⟨(blk_cell BK274.out 0).trans rfl, (blk_cell BK274.out 1).trans rfl, (blk_cell BK274.out 2).trans rfl, (blk_cell BK254.out 0).trans rfl, (blk_cell BK254.out 1).trans rfl, (blk_cell BK254.out 2).trans rfl⟩ (fun hHeld => ?_)
            generalize wc.drew = w72 at HO_269002 HO_275002 HO_283002 BK254 BK268 BK274 BK282 HB hHeld ⊢
            refine take_ (i := 0) (N := some 59) (v := ?_) (a' := ?_) #[true, false, false, false, false] rfl rfl (by kernel_rfl) (fun _ _ _ h => h) (Or.inl ⟨by rfl, ?_⟩) hHeld ?_ ?_
            rotate_left
            · rintro w' ⟨s0, s1, s2, s3, s4, s5⟩
              go_simp
              with_reducible rfl
            rotate_left
            · simp only [Act.put, List.setIfInBounds_toArray, List.set_cons_zero, List.set_cons_succ, i64_w, i32_w]
              rfl
            refine take_ (i := 1) (N := some 60) (v := ?_) (a' := ?_) #[true, true, false, false, false] rfl rfl (by kernel_rfl) (fun _ _ _ h => h) (Or.inl ⟨by rfl, ?_⟩) hHeld ?_ ?_
            rotate_left
            · rintro w' ⟨s0, s1, s2, s3, s4, s5⟩
              go_simp
              with_reducible rfl
            rotate_left
            · simp only [Act.put, List.setIfInBounds_toArray, List.set_cons_zero, List.set_cons_succ, i64_w, i32_w]
              rfl
            refine one_ (i := 2) (N := some 61) #[true, true, true, false, false] rfl rfl (by kernel_rfl) (by decide) (fun K hK => ?_)
            refine goes_ Try.func17 (by kernel_rfl) rfl #[.agg #[.int .i64 a0_0, .int .i64 a0_1, .slice A0_2 l0_2.length c0_2]] (by rfl) rfl rfl (by (try simp only [List.map_toArray, List.map_cons, List.map_nil]); first | done | rfl | (simp only [List.length_drop, List.length_take]; rfl)) ?_
            with_reducible refine (laws_toField.calls kj12 a0_0 a0_1 _ _ l0_2 t284 t285 t286 _ ?side1 ?side2 A67.out).mono ?_
            (case side1 => repeat (first | exact (Kd.C_below HR0_2.out HB.out) | (with_reducible refine Kd.C_alloc ?_ _) | (with_reducible refine Kd.C_drewN ?_ _) | (with_reducible refine Kd.C_drew ?_)))
            (case side2 => exact HC0_2.out)
            rintro e w73 ⟨v287, rfl, ho0, hb⟩
            refine ⟨_, rfl, ?_⟩
            have n0_ := Aside0.mk (Kd.R_elder' (by (with_reducible repeat (first | apply Kd.R_alloc | apply Kd.R_drewN | apply Kd.R_drew)); exact HO_269002.out) (Kd.R_base ho0) hb)
            have n1_ := Aside0.mk (Kd.R_elder' (by (with_reducible repeat (first | apply Kd.R_alloc | apply Kd.R_drewN | apply Kd.R_drew)); exact HO_275002.out) (Kd.R_base ho0) hb)
            have n2_ := Aside0.mk (Kd.R_elder' (by (with_reducible repeat (first | apply Kd.R_alloc | apply Kd.R_drewN | apply Kd.R_drew)); exact HO_283002.out) (Kd.R_base ho0) hb)
            have n3_ := Aside0.mk (Kd.R_lower (Kd.R_new' (Kd.R_new' (Kd.R_new' ho0 (Kd.R_lt (by (with_reducible repeat (first | apply Kd.R_alloc | apply Kd.R_drewN | apply Kd.R_drew)); exact HO_269002.out))) (Kd.R_lt (by (with_reducible repeat (first | apply Kd.R_alloc | apply Kd.R_drewN | apply Kd.R_drew)); exact HO_275002.out))) (Kd.R_lt (by (with_reducible repeat (first | apply Kd.R_alloc | apply Kd.R_drewN | apply Kd.R_drew)); exact HO_283002.out))) (below_size (by repeat (first | (with_reducible first | exact HB.out | apply below_alloc | apply pw_below_drewN | apply below_drew1 | refine below_set ?_ GE254.out | refine below_set ?_ GE268.out | refine below_set ?_ GE274.out | refine below_set ?_ GE282.out) | exact HB.out))))
            have n4_ := Aside0.mk (blk_below (g := gb254) (o := .cells #[.int .i64 a0_0, .int .i64 a0_1, .slice A0_2 l0_2.length c0_2] 24 (0, 0)) (by (with_reducible repeat (first | refine blk_drewN ?_ _ | refine blk_drew ?_ | refine blk_alloc ?_ _)); exact BK254.out) hb)
            have n5_ := Aside0.mk (blk_below (g := gb268) (o := .cells #[.int .i64 t261, .int .i64 t262, .slice Ao24 t263.length co24] 28 (0, 0)) (by (with_reducible repeat (first | refine blk_drewN ?_ _ | refine blk_drew ?_ | refine blk_alloc ?_ _)); exact BK268.out) hb)
            have n6_ := Aside0.mk (blk_below (g := gb274) (o := .cells #[.int .i64 t269, .int .i64 t270, .slice Ao31 t271.length co31] 28 (0, 0)) (by (with_reducible repeat (first | refine blk_drewN ?_ _ | refine blk_drew ?_ | refine blk_alloc ?_ _)); exact BK274.out) hb)
            have n7_ := Aside0.mk (blk_below (g := gb282) (o := .cells #[.int .i64 t275, .int .i64 t276, .slice Ao38 t277.length co38] 28 (0, 0)) (by (with_reducible repeat (first | refine blk_drewN ?_ _ | refine blk_drew ?_ | refine blk_alloc ?_ _)); exact BK282.out) hb)
            have n8_ := Aside0.mk (below_step (by repeat (first | (with_reducible first | exact HB.out | apply below_alloc | apply pw_below_drewN | apply below_drew1 | refine below_set ?_ GE254.out | refine below_set ?_ GE268.out | refine below_set ?_ GE274.out | refine below_set ?_ GE282.out) | exact HB.out)) hb)
            clear HO_269002
            clear HO_275002
            clear HO_283002
            clear BK254
            clear BK268
            clear BK274
            clear BK282
            clear HB
            have HO_269002 := n0_
            have HO_275002 := n1_
            have HO_283002 := n2_
            have HO288 := n3_
            have BK254 := n4_
            have BK268 := n5_
            have BK274 := n6_
            have BK282 := n7_
            have HB := n8_
            clear n0_ n1_ n2_ n3_ n4_ n5_ n6_ n7_ n8_
            (try clear hb)
            (try clear hb2)
            (try clear hk)
            (try clear hi)
            (try clear ho0)
            obtain ⟨Ao74, co74, eo74⟩ := Kd.R_slice HO288.out
            (first | subst eo74 | (injection eo74 with f1_ f2_ f3_; have f4_ := f1_.symm; have f5_ := f3_.symm; clear f1_ f2_ f3_; subst f4_; subst f5_))
            refine hK.out _ _ ⟨(blk_cell BK274.out 0).trans rfl, (blk_cell BK274.out 1).trans rfl, (blk_cell BK274.out 2).trans rfl, (blk_cell BK254.out 0).trans rfl, (blk_cell BK254.out 1).trans rfl, (blk_cell BK254.out 2).trans rfl⟩ (fun hHeld => ?_)
            clear hK K
            refine norm_ (a' := ?_) ?_ ?_
            rotate_left
            · show Act.put _ (some 61) _ = _
              simp only [Act.put, List.setIfInBounds_toArray, List.set_cons_zero, List.set_cons_succ, i64_w, i32_w]
              rfl
            refine one_ (i := 3) (N := some 62) #[true, true, true, true, false] rfl rfl (by kernel_rfl) (by decide) (fun K hK => ?_)
            refine goes_ Try.func20 (by kernel_rfl) rfl #[.agg #[.int .i64 t269, .int .i64 t270, .slice Ao31 t271.length co31], .agg #[.int .i64 t284, .int .i64 t285, .slice Ao74 t286.length co74]] (by rfl) rfl rfl (by (try simp only [List.map_toArray, List.map_cons, List.map_nil]); first | done | rfl | (simp only [List.length_drop, List.length_take]; rfl)) ?_
            with_reducible refine (laws_eqField.calls kj12 t269 t270 _ _ t271 t284 t285 _ _ t286 true _ ?side1 ?side2 ?side3 ?side4 A68.out).mono ?_
            (case side1 => repeat (first | exact (Kd.R_reads' HO_275002.out).2.2 | (with_reducible refine Kd.C_alloc ?_ _) | (with_reducible refine Kd.C_drewN ?_ _) | (with_reducible refine Kd.C_drew ?_)))
            (case side2 => exact (Kd.R_reads' HO_275002.out).2.1)
            (case side3 => repeat (first | exact (Kd.R_reads' HO288.out).2.2 | (with_reducible refine Kd.C_alloc ?_ _) | (with_reducible refine Kd.C_drewN ?_ _) | (with_reducible refine Kd.C_drew ?_)))
            (case side4 => exact (Kd.R_reads' HO288.out).2.1)
            rintro e w75 ⟨rfl, hb⟩
            refine ⟨_, rfl, ?_⟩
            have n0_ := Aside0.mk (Kd.R_below (by (with_reducible repeat (first | apply Kd.R_alloc | apply Kd.R_drewN | apply Kd.R_drew)); exact HO_269002.out) hb)
            have n1_ := Aside0.mk (Kd.R_below (by (with_reducible repeat (first | apply Kd.R_alloc | apply Kd.R_drewN | apply Kd.R_drew)); exact HO_275002.out) hb)
            have n2_ := Aside0.mk (Kd.R_below (by (with_reducible repeat (first | apply Kd.R_alloc | apply Kd.R_drewN | apply Kd.R_drew)); exact HO_283002.out) hb)
            have n3_ := Aside0.mk (Kd.R_below (by (with_reducible repeat (first | apply Kd.R_alloc | apply Kd.R_drewN | apply Kd.R_drew)); exact HO288.out) hb)
            have n4_ := Aside0.mk (blk_below (g := gb254) (o := .cells #[.int .i64 a0_0, .int .i64 a0_1, .slice A0_2 l0_2.length c0_2] 24 (0, 0)) (by (with_reducible repeat (first | refine blk_drewN ?_ _ | refine blk_drew ?_ | refine blk_alloc ?_ _)); exact BK254.out) hb)
            have n5_ := Aside0.mk (blk_below (g := gb268) (o := .cells #[.int .i64 t261, .int .i64 t262, .slice Ao24 t263.length co24] 28 (0, 0)) (by (with_reducible repeat (first | refine blk_drewN ?_ _ | refine blk_drew ?_ | refine blk_alloc ?_ _)); exact BK268.out) hb)
            have n6_ := Aside0.mk (blk_below (g := gb274) (o := .cells #[.int .i64 t269, .int .i64 t270, .slice Ao31 t271.length co31] 28 (0, 0)) (by (with_reducible repeat (first | refine blk_drewN ?_ _ | refine blk_drew ?_ | refine blk_alloc ?_ _)); exact BK274.out) hb)
            have n7_ := Aside0.mk (blk_below (g := gb282) (o := .cells #[.int .i64 t275, .int .i64 t276, .slice Ao38 t277.length co38] 28 (0, 0)) (by (with_reducible repeat (first | refine blk_drewN ?_ _ | refine blk_drew ?_ | refine blk_alloc ?_ _)); exact BK282.out) hb)
            have n8_ := Aside0.mk (below_step (by repeat (first | (with_reducible first | exact HB.out | apply below_alloc | apply pw_below_drewN | apply below_drew1 | refine below_set ?_ GE254.out | refine below_set ?_ GE268.out | refine below_set ?_ GE274.out | refine below_set ?_ GE282.out) | exact HB.out)) hb)
            clear HO_269002
            clear HO_275002
            clear HO_283002
            clear HO288
            clear BK254
            clear BK268
            clear BK274
            clear BK282
            clear HB
            have HO_269002 := n0_
            have HO_275002 := n1_
            have HO_283002 := n2_
            have HO288 := n3_
            have BK254 := n4_
            have BK268 := n5_
            have BK274 := n6_
            have BK282 := n7_
            have HB := n8_
            clear n0_ n1_ n2_ n3_ n4_ n5_ n6_ n7_ n8_
            (try clear hb)
            (try clear hb2)
            (try clear hk)
            (try clear hi)
            refine hK.out _ _ ⟨(blk_cell BK274.out 0).trans rfl, (blk_cell BK274.out 1).trans rfl, (blk_cell BK274.out 2).trans rfl, (blk_cell BK254.out 0).trans rfl, (blk_cell BK254.out 1).trans rfl, (blk_cell BK254.out 2).trans rfl⟩ (fun hHeld => ?_)
            clear hK K
            refine norm_ (a' := ?_) ?_ ?_
            rotate_left
            · show Act.put _ (some 62) _ = _
              simp only [Act.put, List.setIfInBounds_toArray, List.set_cons_zero, List.set_cons_succ, i64_w, i32_w]
              rfl
            refine pure_ (i := 4) (N := some 63) (v := ?_) (a' := ?_) #[true, true, true, true, true] rfl rfl (by kernel_rfl) (fun _ _ _ h => h) (Or.inl ⟨by rfl, ?_⟩) ?_ ?_
            rotate_left
            · intro w'
              go_simp
              with_reducible rfl
            rotate_left
            · simp only [Act.put, List.setIfInBounds_toArray, List.set_cons_zero, List.set_cons_succ, i64_w, i32_w]
              rfl
            refine done_ (by kernel_rfl) ?_
            have hnb76 := NB274_254.out
            have hnc76 := NB254_274.out
            have hnb77 := NB274_268.out
            have hnc77 := NB268_274.out
            have hnb78 := NB274_282.out
            have hnc78 := NB282_274.out
            have hcz79_0 : w75.cell? ⟨gb274, 0, none⟩ = some (.int .i64 t269) := (blk_cell BK274.out 0).trans rfl
            have hcz79_1 : w75.cell? ⟨gb274, 1, none⟩ = some (.int .i64 t270) := (blk_cell BK274.out 1).trans rfl
            have hcz79_2 : w75.cell? ⟨gb274, 2, none⟩ = some (.slice Ao31 t271.length co31) := (blk_cell BK274.out 2).trans rfl
            have hfz79_0 := blk_frozen BK274.out 0
            have hfz79_1 := blk_frozen BK274.out 1
            have hfz79_2 := blk_frozen BK274.out 2
            go_upto_region 14 with (first | ((with_reducible refine gate_callee (f := 21) rfl ?_); refine goesL_ (some 66) rfl rfl Try.func21 (by kernel_rfl) rfl #[.agg #[.int .i64 t269, .int .i64 t270, .slice Ao31 t271.length co31], .int .i64 1] rfl (by (try simp only [List.map_toArray, List.map_cons, List.map_nil]); first | done | rfl | (simp only [List.length_drop, List.length_take]; rfl)) ?_; (with_reducible refine (laws_markField.calls kj12 t269 t270 (fun k_ => some k_ = (.slice Ao31 t271.length co31 : Value).ownBlock) (.slice Ao31 t271.length co31) t271 1 t290 t291 w _ ?side1 ?side2 A70.out).mono ?_); (case side1 => repeat (first | (with_reducible first | exact HB.out | apply below_alloc | apply pw_below_drewN | apply below_drew1 | refine below_set ?_ GE254.out | refine below_set ?_ GE268.out | refine below_set ?_ GE274.out | refine below_set ?_ GE282.out) | exact HB.out)); (case side2 => exact Kd.R_tight rfl HO_275002.out); rintro e w80 ⟨rfl, hy0, hb, hkp⟩; refine ⟨_, rfl, ?_⟩; have n0_ := Aside0.mk (Kd.R_mono (ok' := fun k_ => some k_ ≠ (.slice Ao31 t271.length co31 : Value).ownBlock ∧ some k_ ≠ (.slice Ao38 t277.length co38 : Value).ownBlock ∧ some k_ ≠ (.slice Ao74 t286.length co74 : Value).ownBlock) (Kd.R_keptB (HO_269002.out) hkp (fun k_ hk_ hs_ => (hk_.1.1) hs_)) (fun k_ hk_ => ⟨hk_.1.1.1, hk_.1.1.2, hk_.1.2⟩)); have n1_ := Aside0.mk (Kd.R_reok rfl hy0 (fun k_ e_ => HO_275002.out.1 k_ e_)); have n2_ := Aside0.mk (Kd.R_mono (ok' := fun k_ => some k_ ≠ (.slice Ao24 t263.length co24 : Value).ownBlock ∧ some k_ ≠ (.slice Ao31 t271.length co31 : Value).ownBlock ∧ some k_ ≠ (.slice Ao74 t286.length co74 : Value).ownBlock) (Kd.R_keptB (HO_283002.out) hkp (fun k_ hk_ hs_ => (hk_.1.2) hs_)) (fun k_ hk_ => ⟨hk_.1.1.1, hk_.1.1.2, hk_.1.2⟩)); have n3_ := Aside0.mk (blk_kept (by (with_reducible repeat (first | refine blk_drewN ?_ _ | refine blk_drew ?_ | refine blk_alloc ?_ _)); exact BK254.out) hkp (fun hs_ => (fun e_ => (Kd.R_ne HO_275002.out BK254.out (by decide)) e_) hs_)); have n4_ := Aside0.mk (blk_kept (by (with_reducible repeat (first | refine blk_drewN ?_ _ | refine blk_drew ?_ | refine blk_alloc ?_ _)); exact BK268.out) hkp (fun hs_ => (fun e_ => (Kd.R_ne HO_275002.out BK268.out (by decide)) e_) hs_)); have n5_ := Aside0.mk (blk_kept (by (with_reducible repeat (first | refine blk_drewN ?_ _ | refine blk_drew ?_ | refine blk_alloc ?_ _)); exact BK274.out) hkp (fun hs_ => (fun e_ => (Kd.R_ne HO_275002.out BK274.out (by decide)) e_) hs_)); have n6_ := Aside0.mk (blk_kept (by (with_reducible repeat (first | refine blk_drewN ?_ _ | refine blk_drew ?_ | refine blk_alloc ?_ _)); exact BK282.out) hkp (fun hs_ => (fun e_ => (Kd.R_ne HO_275002.out BK282.out (by decide)) e_) hs_)); have n7_ := Aside0.mk (Kd.R_mono (ok' := fun k_ => some k_ ≠ (.slice Ao24 t263.length co24 : Value).ownBlock ∧ some k_ ≠ (.slice Ao31 t271.length co31 : Value).ownBlock ∧ some k_ ≠ (.slice Ao38 t277.length co38 : Value).ownBlock) (Kd.R_keptB (HO288.out) hkp (fun k_ hk_ hs_ => (hk_.1.2) hs_)) (fun k_ hk_ => ⟨hk_.1.1.1.2, hk_.1.1.2, hk_.1.2⟩)); have n8_ := Aside0.mk (hb); clear HO_269002; clear HO_275002; clear HO_283002; clear BK254; clear BK268; clear BK274; clear BK282; clear HO288; clear HB; have HO_269002 := n0_; have HO_275002 := n1_; have HO_283002 := n2_; have BK254 := n3_; have BK268 := n4_; have BK274 := n5_; have BK282 := n6_; have HO288 := n7_; have HB := n8_; clear n0_ n1_ n2_ n3_ n4_ n5_ n6_ n7_ n8_; (try clear hb); (try clear hkp); (try clear hy0)))
            (try simp only [Act.put, List.setIfInBounds_toArray, List.set_cons_zero, List.set_cons_succ])
            go_cut [84] (fun v84 wc => ∃ (kq : Nat) (x84_70 : Bool), v84 = .bool x84_70 ∧ Aside0 (laws_FnExactVoteRun.j1 kq a1 a2 t266 t267 x84_70 a0_0 a0_1 l0_2 t261 t262 t263 t275 t276 t277 = some r) ∧ Aside0 (kq ≤ kj12) ∧ Aside0 (Kd.R (Kd.int .i64) 2 wc w.heap.size (fun k_ => some k_ ≠ ((.slice Ao31 t271.length co31) : Value).ownBlock ∧ some k_ ≠ ((.slice Ao38 t277.length co38) : Value).ownBlock) (.slice Ao24 t263.length co24) t263) ∧ Aside0 (Kd.R (Kd.int .i64) 2 wc w.heap.size (fun k_ => some k_ ≠ ((.slice Ao24 t263.length co24) : Value).ownBlock ∧ some k_ ≠ ((.slice Ao38 t277.length co38) : Value).ownBlock) (.slice Ao31 t271.length co31) t291) ∧ Aside0 (Kd.R (Kd.int .i64) 2 wc w.heap.size (fun k_ => some k_ ≠ ((.slice Ao24 t263.length co24) : Value).ownBlock ∧ some k_ ≠ ((.slice Ao31 t271.length co31) : Value).ownBlock) (.slice Ao38 t277.length co38) t277) ∧ Aside0 (wc.heap[gb254]? = some (.cells #[.int .i64 a0_0, .int .i64 a0_1, (.slice A0_2 l0_2.length c0_2)] 24 (0, 0))) ∧ Aside0 (wc.heap[gb268]? = some (.cells #[.int .i64 t261, .int .i64 t262, (.slice Ao24 t263.length co24)] 28 (0, 0))) ∧ Aside0 (wc.heap[gb274]? = some (.cells #[.int .i64 t269, .int .i64 t270, (.slice Ao31 t271.length co31)] 28 (0, 0))) ∧ Aside0 (wc.heap[gb282]? = some (.cells #[.int .i64 t275, .int .i64 t276, (.slice Ao38 t277.length co38)] 28 (0, 0))) ∧ Aside0 (Below w.heap.size w wc))
            case first =>
              have H := HC71.out
              clear HC71
              by_cases c81 : t290 < 0
              · rw [if_pos c81] at H
                have c81b0 : decide (t290 < 0) = true := decide_eq_true c81
                clear c81
                (first | rw [c81b0] | (simp only [i64_w, i32_w]; rw [c81b0]) | skip)
                have H' := Aside0.mk H
                clear H
                go_wp2
                go_meet
                case rel => exact ⟨_, (true), (by first | rfl | (simp; done) | (simp [i64_w, i32_w]; done) | (simp [*]; done) | (simp [*, i64_w, i32_w]; done)), H', ⟨by have := HJ12.out; first | omega | exact Nat.le_refl _⟩, ⟨by (with_reducible repeat (first | apply Kd.R_alloc | apply Kd.R_drewN | apply Kd.R_drew)); exact Kd.R_mono HO_269002.out (fun _ hk => ⟨hk.1, hk.2.1⟩)⟩, ⟨by (with_reducible repeat (first | apply Kd.R_alloc | apply Kd.R_drewN | apply Kd.R_drew)); exact Kd.R_mono HO_275002.out (fun _ hk => ⟨hk.1.1, hk.1.2⟩)⟩, ⟨by (with_reducible repeat (first | apply Kd.R_alloc | apply Kd.R_drewN | apply Kd.R_drew)); exact Kd.R_mono HO_283002.out (fun _ hk => ⟨hk.1, hk.2.1⟩)⟩, ⟨by (with_reducible repeat (first | refine blk_drewN ?_ _ | refine blk_drew ?_ | refine blk_alloc ?_ _)); exact BK254.out⟩, ⟨by (with_reducible repeat (first | refine blk_drewN ?_ _ | refine blk_drew ?_ | refine blk_alloc ?_ _)); exact BK268.out⟩, ⟨by (with_reducible repeat (first | refine blk_drewN ?_ _ | refine blk_drew ?_ | refine blk_alloc ?_ _)); exact BK274.out⟩, ⟨by (with_reducible repeat (first | refine blk_drewN ?_ _ | refine blk_drew ?_ | refine blk_alloc ?_ _)); exact BK282.out⟩, ⟨by repeat (first | (with_reducible first | exact HB.out | apply below_alloc | apply pw_below_drewN | apply below_drew1 | refine below_set ?_ GE254.out | refine below_set ?_ GE268.out | refine below_set ?_ GE274.out | refine below_set ?_ GE282.out) | exact HB.out)⟩⟩
              · rw [if_neg c81] at H
                have c81b0 : decide (t290 < 0) = false := decide_eq_false c81
                clear c81
                (first | rw [c81b0] | (simp only [i64_w, i32_w]; rw [c81b0]) | skip)
                replace H := Option.bind_eq_some_iff.mp H
                obtain ⟨t292, A820, H⟩ := H
                replace H : (if t292 = true then (if t280 = t266 then (laws_FnExactVoteRun.j1 kj12 a1 a2 t266 t267 (t281 != t267) a0_0 a0_1 l0_2 t261 t262 t263 t275 t276 t277) else (laws_FnExactVoteRun.j1 kj12 a1 a2 t266 t267 true a0_0 a0_1 l0_2 t261 t262 t263 t275 t276 t277)) else (laws_FnExactVoteRun.j1 kj12 a1 a2 t266 t267 true a0_0 a0_1 l0_2 t261 t262 t263 t275 t276 t277)) = some r := H
                have A82 := Aside0.mk A820
                clear A820
                by_cases c83 : t292 = true
                · subst c83
                  have H1 : (if t280 = t266 then (laws_FnExactVoteRun.j1 kj12 a1 a2 t266 t267 (t281 != t267) a0_0 a0_1 l0_2 t261 t262 t263 t275 t276 t277) else (laws_FnExactVoteRun.j1 kj12 a1 a2 t266 t267 true a0_0 a0_1 l0_2 t261 t262 t263 t275 t276 t277)) = some r := by rw [if_pos rfl] at H; exact H
                  clear H
                  have H := H1
                  clear H1
                  by_cases c84 : t280 = t266
                  · rw [if_pos c84] at H
                    have c84b0 : (t280 == t266) = true := beq_iff_eq.mpr c84
                    have c84b1 : (t280 != t266) = false := bne_eq_false_iff_eq.mpr c84
                    clear c84
                    have H' := Aside0.mk H
                    clear H
                    have hnb85 := NB282_254.out
                    have hnc85 := NB254_282.out
                    have hnb86 := NB282_268.out
                    have hnc86 := NB268_282.out
                    have hnb87 := NB282_274.out
                    have hnc87 := NB274_282.out
                    have hcz88_0 : w80.cell? ⟨gb282, 0, none⟩ = some (.int .i64 t275) := (blk_cell BK282.out 0).trans rfl
                    have hcz88_1 : w80.cell? ⟨gb282, 1, none⟩ = some (.int .i64 t276) := (blk_cell BK282.out 1).trans rfl
                    have hcz88_2 : w80.cell? ⟨gb282, 2, none⟩ = some (.slice Ao38 t277.length co38) := (blk_cell BK282.out 2).trans rfl
                    have hfz88_0 := blk_frozen BK282.out 0
                    have hfz88_1 := blk_frozen BK282.out 1
                    have hfz88_2 := blk_frozen BK282.out 2
                    have hnb89 := NB268_254.out
                    have hnc89 := NB254_268.out
                    have hnb90 := NB268_274.out
                    have hnc90 := NB274_268.out
                    have hcz91_0 : w80.cell? ⟨gb268, 0, none⟩ = some (.int .i64 t261) := (blk_cell BK268.out 0).trans rfl
                    have hcz91_1 : w80.cell? ⟨gb268, 1, none⟩ = some (.int .i64 t262) := (blk_cell BK268.out 1).trans rfl
                    have hcz91_2 : w80.cell? ⟨gb268, 2, none⟩ = some (.slice Ao24 t263.length co24) := (blk_cell BK268.out 2).trans rfl
                    have hfz91_0 := blk_frozen BK268.out 0
                    have hfz91_1 := blk_frozen BK268.out 1
                    have hfz91_2 := blk_frozen BK268.out 2
                    go_wp2_with (first | (go_at_call 20; (with_reducible refine (laws_eqField.calls kj12 t275 t276 _ _ t277 t261 t262 _ _ t263 true _ ?side1 ?side2 ?side3 ?side4 A82.out).mono ?_); (case side1 => repeat (first | exact (Kd.R_reads' HO_283002.out).2.2 | (with_reducible refine Kd.C_alloc ?_ _) | (with_reducible refine Kd.C_drewN ?_ _) | (with_reducible refine Kd.C_drew ?_))); (case side2 => exact (Kd.R_reads' HO_283002.out).2.1); (case side3 => repeat (first | exact (Kd.R_reads' HO_269002.out).2.2 | (with_reducible refine Kd.C_alloc ?_ _) | (with_reducible refine Kd.C_drewN ?_ _) | (with_reducible refine Kd.C_drew ?_))); (case side4 => exact (Kd.R_reads' HO_269002.out).2.1); rintro e w92 ⟨rfl, hb⟩; have n0_ := Aside0.mk (Kd.R_below (by (with_reducible repeat (first | apply Kd.R_alloc | apply Kd.R_drewN | apply Kd.R_drew)); exact HO_269002.out) hb); have n1_ := Aside0.mk (Kd.R_below (by (with_reducible repeat (first | apply Kd.R_alloc | apply Kd.R_drewN | apply Kd.R_drew)); exact HO_275002.out) hb); have n2_ := Aside0.mk (Kd.R_below (by (with_reducible repeat (first | apply Kd.R_alloc | apply Kd.R_drewN | apply Kd.R_drew)); exact HO_283002.out) hb); have n3_ := Aside0.mk (Kd.R_below (by (with_reducible repeat (first | apply Kd.R_alloc | apply Kd.R_drewN | apply Kd.R_drew)); exact HO288.out) hb); have n4_ := Aside0.mk (blk_below (g := gb254) (o := .cells #[.int .i64 a0_0, .int .i64 a0_1, .slice A0_2 l0_2.length c0_2] 24 (0, 0)) (by (with_reducible repeat (first | refine blk_drewN ?_ _ | refine blk_drew ?_ | refine blk_alloc ?_ _)); exact BK254.out) hb); have n5_ := Aside0.mk (blk_below (g := gb268) (o := .cells #[.int .i64 t261, .int .i64 t262, .slice Ao24 t263.length co24] 28 (0, 0)) (by (with_reducible repeat (first | refine blk_drewN ?_ _ | refine blk_drew ?_ | refine blk_alloc ?_ _)); exact BK268.out) hb); have n6_ := Aside0.mk (blk_below (g := gb274) (o := .cells #[.int .i64 t269, .int .i64 t270, .slice Ao31 t271.length co31] 28 (0, 0)) (by (with_reducible repeat (first | refine blk_drewN ?_ _ | refine blk_drew ?_ | refine blk_alloc ?_ _)); exact BK274.out) hb); have n7_ := Aside0.mk (blk_below (g := gb282) (o := .cells #[.int .i64 t275, .int .i64 t276, .slice Ao38 t277.length co38] 28 (0, 0)) (by (with_reducible repeat (first | refine blk_drewN ?_ _ | refine blk_drew ?_ | refine blk_alloc ?_ _)); exact BK282.out) hb); have n8_ := Aside0.mk (below_step (by repeat (first | (with_reducible first | exact HB.out | apply below_alloc | apply pw_below_drewN | apply below_drew1 | refine below_set ?_ GE254.out | refine below_set ?_ GE268.out | refine below_set ?_ GE274.out | refine below_set ?_ GE282.out) | exact HB.out)) hb); clear HO_269002; clear HO_275002; clear HO_283002; clear HO288; clear BK254; clear BK268; clear BK274; clear BK282; clear HB; have HO_269002 := n0_; have HO_275002 := n1_; have HO_283002 := n2_; have HO288 := n3_; have BK254 := n4_; have BK268 := n5_; have BK274 := n6_; have BK282 := n7_; have HB := n8_; clear n0_ n1_ n2_ n3_ n4_ n5_ n6_ n7_ n8_; (try clear hb); (try clear hb2); (try clear hk); (try clear hi)))
                    go_meet
                    case rel => exact ⟨_, ((t281 != t267)), (by first | rfl | (simp; done) | (simp [i64_w, i32_w]; done) | (simp [*]; done) | (simp [*, i64_w, i32_w]; done)), H', ⟨by have := HJ12.out; first | omega | exact Nat.le_refl _⟩, ⟨by (with_reducible repeat (first | apply Kd.R_alloc | apply Kd.R_drewN | apply Kd.R_drew)); exact Kd.R_mono HO_269002.out (fun _ hk => ⟨hk.1, hk.2.1⟩)⟩, ⟨by (with_reducible repeat (first | apply Kd.R_alloc | apply Kd.R_drewN | apply Kd.R_drew)); exact Kd.R_mono HO_275002.out (fun _ hk => ⟨hk.1.1, hk.1.2⟩)⟩, ⟨by (with_reducible repeat (first | apply Kd.R_alloc | apply Kd.R_drewN | apply Kd.R_drew)); exact Kd.R_mono HO_283002.out (fun _ hk => ⟨hk.1, hk.2.1⟩)⟩, ⟨by (with_reducible repeat (first | refine blk_drewN ?_ _ | refine blk_drew ?_ | refine blk_alloc ?_ _)); exact BK254.out⟩, ⟨by (with_reducible repeat (first | refine blk_drewN ?_ _ | refine blk_drew ?_ | refine blk_alloc ?_ _)); exact BK268.out⟩, ⟨by (with_reducible repeat (first | refine blk_drewN ?_ _ | refine blk_drew ?_ | refine blk_alloc ?_ _)); exact BK274.out⟩, ⟨by (with_reducible repeat (first | refine blk_drewN ?_ _ | refine blk_drew ?_ | refine blk_alloc ?_ _)); exact BK282.out⟩, ⟨by repeat (first | (with_reducible first | exact HB.out | apply below_alloc | apply pw_below_drewN | apply below_drew1 | refine below_set ?_ GE254.out | refine below_set ?_ GE268.out | refine below_set ?_ GE274.out | refine below_set ?_ GE282.out) | exact HB.out)⟩⟩
                  · rw [if_neg c84] at H
                    have c84b0 : (t280 == t266) = false := beq_eq_false_iff_ne.mpr c84
                    have c84b1 : (t280 != t266) = true := bne_iff_ne.mpr c84
                    have H' := Aside0.mk H
                    clear H
                    have hnb93 := NB282_254.out
                    have hnc93 := NB254_282.out
                    have hnb94 := NB282_268.out
                    have hnc94 := NB268_282.out
                    have hnb95 := NB282_274.out
                    have hnc95 := NB274_282.out
                    have hcz96_0 : w80.cell? ⟨gb282, 0, none⟩ = some (.int .i64 t275) := (blk_cell BK282.out 0).trans rfl
                    have hcz96_1 : w80.cell? ⟨gb282, 1, none⟩ = some (.int .i64 t276) := (blk_cell BK282.out 1).trans rfl
                    have hcz96_2 : w80.cell? ⟨gb282, 2, none⟩ = some (.slice Ao38 t277.length co38) := (blk_cell BK282.out 2).trans rfl
                    have hfz96_0 := blk_frozen BK282.out 0
                    have hfz96_1 := blk_frozen BK282.out 1
                    have hfz96_2 := blk_frozen BK282.out 2
                    have hnb97 := NB268_254.out
                    have hnc97 := NB254_268.out
                    have hnb98 := NB268_274.out
                    have hnc98 := NB274_268.out
                    have hcz99_0 : w80.cell? ⟨gb268, 0, none⟩ = some (.int .i64 t261) := (blk_cell BK268.out 0).trans rfl
                    have hcz99_1 : w80.cell? ⟨gb268, 1, none⟩ = some (.int .i64 t262) := (blk_cell BK268.out 1).trans rfl
                    have hcz99_2 : w80.cell? ⟨gb268, 2, none⟩ = some (.slice Ao24 t263.length co24) := (blk_cell BK268.out 2).trans rfl
                    have hfz99_0 := blk_frozen BK268.out 0
                    have hfz99_1 := blk_frozen BK268.out 1
                    have hfz99_2 := blk_frozen BK268.out 2
                    go_wp2_with (first | (go_at_call 20; (with_reducible refine (laws_eqField.calls kj12 t275 t276 _ _ t277 t261 t262 _ _ t263 true _ ?side1 ?side2 ?side3 ?side4 A82.out).mono ?_); (case side1 => repeat (first | exact (Kd.R_reads' HO_283002.out).2.2 | (with_reducible refine Kd.C_alloc ?_ _) | (with_reducible refine Kd.C_drewN ?_ _) | (with_reducible refine Kd.C_drew ?_))); (case side2 => exact (Kd.R_reads' HO_283002.out).2.1); (case side3 => repeat (first | exact (Kd.R_reads' HO_269002.out).2.2 | (with_reducible refine Kd.C_alloc ?_ _) | (with_reducible refine Kd.C_drewN ?_ _) | (with_reducible refine Kd.C_drew ?_))); (case side4 => exact (Kd.R_reads' HO_269002.out).2.1); rintro e w100 ⟨rfl, hb⟩; have n0_ := Aside0.mk (Kd.R_below (by (with_reducible repeat (first | apply Kd.R_alloc | apply Kd.R_drewN | apply Kd.R_drew)); exact HO_269002.out) hb); have n1_ := Aside0.mk (Kd.R_below (by (with_reducible repeat (first | apply Kd.R_alloc | apply Kd.R_drewN | apply Kd.R_drew)); exact HO_275002.out) hb); have n2_ := Aside0.mk (Kd.R_below (by (with_reducible repeat (first | apply Kd.R_alloc | apply Kd.R_drewN | apply Kd.R_drew)); exact HO_283002.out) hb); have n3_ := Aside0.mk (Kd.R_below (by (with_reducible repeat (first | apply Kd.R_alloc | apply Kd.R_drewN | apply Kd.R_drew)); exact HO288.out) hb); have n4_ := Aside0.mk (blk_below (g := gb254) (o := .cells #[.int .i64 a0_0, .int .i64 a0_1, .slice A0_2 l0_2.length c0_2] 24 (0, 0)) (by (with_reducible repeat (first | refine blk_drewN ?_ _ | refine blk_drew ?_ | refine blk_alloc ?_ _)); exact BK254.out) hb); have n5_ := Aside0.mk (blk_below (g := gb268) (o := .cells #[.int .i64 t261, .int .i64 t262, .slice Ao24 t263.length co24] 28 (0, 0)) (by (with_reducible repeat (first | refine blk_drewN ?_ _ | refine blk_drew ?_ | refine blk_alloc ?_ _)); exact BK268.out) hb); have n6_ := Aside0.mk (blk_below (g := gb274) (o := .cells #[.int .i64 t269, .int .i64 t270, .slice Ao31 t271.length co31] 28 (0, 0)) (by (with_reducible repeat (first | refine blk_drewN ?_ _ | refine blk_drew ?_ | refine blk_alloc ?_ _)); exact BK274.out) hb); have n7_ := Aside0.mk (blk_below (g := gb282) (o := .cells #[.int .i64 t275, .int .i64 t276, .slice Ao38 t277.length co38] 28 (0, 0)) (by (with_reducible repeat (first | refine blk_drewN ?_ _ | refine blk_drew ?_ | refine blk_alloc ?_ _)); exact BK282.out) hb); have n8_ := Aside0.mk (below_step (by repeat (first | (with_reducible first | exact HB.out | apply below_alloc | apply pw_below_drewN | apply below_drew1 | refine below_set ?_ GE254.out | refine below_set ?_ GE268.out | refine below_set ?_ GE274.out | refine below_set ?_ GE282.out) | exact HB.out)) hb); clear HO_269002; clear HO_275002; clear HO_283002; clear HO288; clear BK254; clear BK268; clear BK274; clear BK282; clear HB; have HO_269002 := n0_; have HO_275002 := n1_; have HO_283002 := n2_; have HO288 := n3_; have BK254 := n4_; have BK268 := n5_; have BK274 := n6_; have BK282 := n7_; have HB := n8_; clear n0_ n1_ n2_ n3_ n4_ n5_ n6_ n7_ n8_; (try clear hb); (try clear hb2); (try clear hk); (try clear hi)))
                    go_meet
                    case rel => exact ⟨_, (true), (by first | rfl | (simp; done) | (simp [i64_w, i32_w]; done) | (simp [*]; done) | (simp [*, i64_w, i32_w]; done)), H', ⟨by have := HJ12.out; first | omega | exact Nat.le_refl _⟩, ⟨by (with_reducible repeat (first | apply Kd.R_alloc | apply Kd.R_drewN | apply Kd.R_drew)); exact Kd.R_mono HO_269002.out (fun _ hk => ⟨hk.1, hk.2.1⟩)⟩, ⟨by (with_reducible repeat (first | apply Kd.R_alloc | apply Kd.R_drewN | apply Kd.R_drew)); exact Kd.R_mono HO_275002.out (fun _ hk => ⟨hk.1.1, hk.1.2⟩)⟩, ⟨by (with_reducible repeat (first | apply Kd.R_alloc | apply Kd.R_drewN | apply Kd.R_drew)); exact Kd.R_mono HO_283002.out (fun _ hk => ⟨hk.1, hk.2.1⟩)⟩, ⟨by (with_reducible repeat (first | refine blk_drewN ?_ _ | refine blk_drew ?_ | refine blk_alloc ?_ _)); exact BK254.out⟩, ⟨by (with_reducible repeat (first | refine blk_drewN ?_ _ | refine blk_drew ?_ | refine blk_alloc ?_ _)); exact BK268.out⟩, ⟨by (with_reducible repeat (first | refine blk_drewN ?_ _ | refine blk_drew ?_ | refine blk_alloc ?_ _)); exact BK274.out⟩, ⟨by (with_reducible repeat (first | refine blk_drewN ?_ _ | refine blk_drew ?_ | refine blk_alloc ?_ _)); exact BK282.out⟩, ⟨by repeat (first | (with_reducible first | exact HB.out | apply below_alloc | apply pw_below_drewN | apply below_drew1 | refine below_set ?_ GE254.out | refine below_set ?_ GE268.out | refine below_set ?_ GE274.out | refine below_set ?_ GE282.out) | exact HB.out)⟩⟩
                · replace c83 := Bool.eq_false_iff.mpr c83
                  subst c83
                  have H1 : (laws_FnExactVoteRun.j1 kj12 a1 a2 t266 t267 true a0_0 a0_1 l0_2 t261 t262 t263 t275 t276 t277) = some r := by rw [if_neg (show ¬ (false = true) by decide)] at H; exact H
                  clear H
                  have H := H1
                  clear H1
                  have H' := Aside0.mk H
                  clear H
                  have hnb101 := NB282_254.out
                  have hnc101 := NB254_282.out
                  have hnb102 := NB282_268.out
                  have hnc102 := NB268_282.out
                  have hnb103 := NB282_274.out
                  have hnc103 := NB274_282.out
                  have hcz104_0 : w80.cell? ⟨gb282, 0, none⟩ = some (.int .i64 t275) := (blk_cell BK282.out 0).trans rfl
                  have hcz104_1 : w80.cell? ⟨gb282, 1, none⟩ = some (.int .i64 t276) := (blk_cell BK282.out 1).trans rfl
                  have hcz104_2 : w80.cell? ⟨gb282, 2, none⟩ = some (.slice Ao38 t277.length co38) := (blk_cell BK282.out 2).trans rfl
                  have hfz104_0 := blk_frozen BK282.out 0
                  have hfz104_1 := blk_frozen BK282.out 1
                  have hfz104_2 := blk_frozen BK282.out 2
                  have hnb105 := NB268_254.out
                  have hnc105 := NB254_268.out
                  have hnb106 := NB268_274.out
                  have hnc106 := NB274_268.out
                  have hcz107_0 : w80.cell? ⟨gb268, 0, none⟩ = some (.int .i64 t261) := (blk_cell BK268.out 0).trans rfl
                  have hcz107_1 : w80.cell? ⟨gb268, 1, none⟩ = some (.int .i64 t262) := (blk_cell BK268.out 1).trans rfl
                  have hcz107_2 : w80.cell? ⟨gb268, 2, none⟩ = some (.slice Ao24 t263.length co24) := (blk_cell BK268.out 2).trans rfl
                  have hfz107_0 := blk_frozen BK268.out 0
                  have hfz107_1 := blk_frozen BK268.out 1
                  have hfz107_2 := blk_frozen BK268.out 2
                  go_wp2_with (first | (go_at_call 20; (with_reducible refine (laws_eqField.calls kj12 t275 t276 _ _ t277 t261 t262 _ _ t263 false _ ?side1 ?side2 ?side3 ?side4 A82.out).mono ?_); (case side1 => repeat (first | exact (Kd.R_reads' HO_283002.out).2.2 | (with_reducible refine Kd.C_alloc ?_ _) | (with_reducible refine Kd.C_drewN ?_ _) | (with_reducible refine Kd.C_drew ?_))); (case side2 => exact (Kd.R_reads' HO_283002.out).2.1); (case side3 => repeat (first | exact (Kd.R_reads' HO_269002.out).2.2 | (with_reducible refine Kd.C_alloc ?_ _) | (with_reducible refine Kd.C_drewN ?_ _) | (with_reducible refine Kd.C_drew ?_))); (case side4 => exact (Kd.R_reads' HO_269002.out).2.1); rintro e w108 ⟨rfl, hb⟩; have n0_ := Aside0.mk (Kd.R_below (by (with_reducible repeat (first | apply Kd.R_alloc | apply Kd.R_drewN | apply Kd.R_drew)); exact HO_269002.out) hb); have n1_ := Aside0.mk (Kd.R_below (by (with_reducible repeat (first | apply Kd.R_alloc | apply Kd.R_drewN | apply Kd.R_drew)); exact HO_275002.out) hb); have n2_ := Aside0.mk (Kd.R_below (by (with_reducible repeat (first | apply Kd.R_alloc | apply Kd.R_drewN | apply Kd.R_drew)); exact HO_283002.out) hb); have n3_ := Aside0.mk (Kd.R_below (by (with_reducible repeat (first | apply Kd.R_alloc | apply Kd.R_drewN | apply Kd.R_drew)); exact HO288.out) hb); have n4_ := Aside0.mk (blk_below (g := gb254) (o := .cells #[.int .i64 a0_0, .int .i64 a0_1, .slice A0_2 l0_2.length c0_2] 24 (0, 0)) (by (with_reducible repeat (first | refine blk_drewN ?_ _ | refine blk_drew ?_ | refine blk_alloc ?_ _)); exact BK254.out) hb); have n5_ := Aside0.mk (blk_below (g := gb268) (o := .cells #[.int .i64 t261, .int .i64 t262, .slice Ao24 t263.length co24] 28 (0, 0)) (by (with_reducible repeat (first | refine blk_drewN ?_ _ | refine blk_drew ?_ | refine blk_alloc ?_ _)); exact BK268.out) hb); have n6_ := Aside0.mk (blk_below (g := gb274) (o := .cells #[.int .i64 t269, .int .i64 t270, .slice Ao31 t271.length co31] 28 (0, 0)) (by (with_reducible repeat (first | refine blk_drewN ?_ _ | refine blk_drew ?_ | refine blk_alloc ?_ _)); exact BK274.out) hb); have n7_ := Aside0.mk (blk_below (g := gb282) (o := .cells #[.int .i64 t275, .int .i64 t276, .slice Ao38 t277.length co38] 28 (0, 0)) (by (with_reducible repeat (first | refine blk_drewN ?_ _ | refine blk_drew ?_ | refine blk_alloc ?_ _)); exact BK282.out) hb); have n8_ := Aside0.mk (below_step (by repeat (first | (with_reducible first | exact HB.out | apply below_alloc | apply pw_below_drewN | apply below_drew1 | refine below_set ?_ GE254.out | refine below_set ?_ GE268.out | refine below_set ?_ GE274.out | refine below_set ?_ GE282.out) | exact HB.out)) hb); clear HO_269002; clear HO_275002; clear HO_283002; clear HO288; clear BK254; clear BK268; clear BK274; clear BK282; clear HB; have HO_269002 := n0_; have HO_275002 := n1_; have HO_283002 := n2_; have HO288 := n3_; have BK254 := n4_; have BK268 := n5_; have BK274 := n6_; have BK282 := n7_; have HB := n8_; clear n0_ n1_ n2_ n3_ n4_ n5_ n6_ n7_ n8_; (try clear hb); (try clear hb2); (try clear hk); (try clear hi)))
                  go_meet
                  case rel => exact ⟨_, (true), (by first | rfl | (simp; done) | (simp [i64_w, i32_w]; done) | (simp [*]; done) | (simp [*, i64_w, i32_w]; done)), H', ⟨by have := HJ12.out; first | omega | exact Nat.le_refl _⟩, ⟨by (with_reducible repeat (first | apply Kd.R_alloc | apply Kd.R_drewN | apply Kd.R_drew)); exact Kd.R_mono HO_269002.out (fun _ hk => ⟨hk.1, hk.2.1⟩)⟩, ⟨by (with_reducible repeat (first | apply Kd.R_alloc | apply Kd.R_drewN | apply Kd.R_drew)); exact Kd.R_mono HO_275002.out (fun _ hk => ⟨hk.1.1, hk.1.2⟩)⟩, ⟨by (with_reducible repeat (first | apply Kd.R_alloc | apply Kd.R_drewN | apply Kd.R_drew)); exact Kd.R_mono HO_283002.out (fun _ hk => ⟨hk.1, hk.2.1⟩)⟩, ⟨by (with_reducible repeat (first | refine blk_drewN ?_ _ | refine blk_drew ?_ | refine blk_alloc ?_ _)); exact BK254.out⟩, ⟨by (with_reducible repeat (first | refine blk_drewN ?_ _ | refine blk_drew ?_ | refine blk_alloc ?_ _)); exact BK268.out⟩, ⟨by (with_reducible repeat (first | refine blk_drewN ?_ _ | refine blk_drew ?_ | refine blk_alloc ?_ _)); exact BK274.out⟩, ⟨by (with_reducible repeat (first | refine blk_drewN ?_ _ | refine blk_drew ?_ | refine blk_alloc ?_ _)); exact BK282.out⟩, ⟨by repeat (first | (with_reducible first | exact HB.out | apply below_alloc | apply pw_below_drewN | apply below_drew1 | refine below_set ?_ GE254.out | refine below_set ?_ GE268.out | refine below_set ?_ GE274.out | refine below_set ?_ GE282.out) | exact HB.out)⟩⟩
            case rest =>
              clear HC71
              try clear c1
              try clear c2
              try clear p2
              try clear c3
              try clear c4
              try clear c5
              try clear c5b0
              try clear c6
              try clear c7
              try clear c8
              try clear c9
              try clear c10
              try clear c11
              try clear c15
              try clear c17
              try clear c20
              try clear c21
              try clear c22
              try clear c28
              try clear c29
              try clear c34
              try clear c35
              try clear c36
              try clear c40
              try clear c41
              try clear c41b0
              try clear c41b1
              try clear c42
              try clear c43
              try clear c44
              try clear c46
              try clear c47
              try clear c50
              try clear c51
              try clear c52
              try clear c54
              try clear c55
              try clear c58
              try clear c59
              try clear c60
              try clear c62
              try clear c63
              try clear c66
              try clear c69
              try clear c76
              try clear c77
              try clear c78
              try clear c81
              try clear c81b0
              try clear c83
              try clear c84
              try clear c84b0
              try clear c84b1
              try clear c85
              try clear c86
              try clear c87
              try clear c89
              try clear c90
              try clear c93
              try clear c94
              try clear c95
              try clear c97
              try clear c98
              try clear c101
              try clear c102
              try clear c103
              try clear c105
              try clear c106
              try clear hcz104_0
              try clear hcz104_1
              try clear hcz104_2
              try clear hcz107_0
              try clear hcz107_1
              try clear hcz107_2
              try clear hcz15_0
              try clear hcz15_1
              try clear hcz15_2
              try clear hcz17_0
              try clear hcz17_1
              try clear hcz17_2
              try clear hcz23_0
              try clear hcz23_1
              try clear hcz23_2
              try clear hcz25_0
              try clear hcz25_1
              try clear hcz25_2
              try clear hcz30_0
              try clear hcz30_1
              try clear hcz30_2
              try clear hcz37_0
              try clear hcz37_1
              try clear hcz37_2
              try clear hcz45_0
              try clear hcz45_1
              try clear hcz45_2
              try clear hcz48_0
              try clear hcz48_1
              try clear hcz48_2
              try clear hcz53_0
              try clear hcz53_1
              try clear hcz53_2
              try clear hcz56_0
              try clear hcz56_1
              try clear hcz56_2
              try clear hcz61_0
              try clear hcz61_1
              try clear hcz61_2
              try clear hcz64_0
              try clear hcz64_1
              try clear hcz64_2
              try clear hcz79_0
              try clear hcz79_1
              try clear hcz79_2
              try clear hcz7_0
              try clear hcz7_1
              try clear hcz7_2
              try clear hcz88_0
              try clear hcz88_1
              try clear hcz88_2
              try clear hcz91_0
              try clear hcz91_1
              try clear hcz91_2
              try clear hcz96_0
              try clear hcz96_1
              try clear hcz96_2
              try clear hcz99_0
              try clear hcz99_1
              try clear hcz99_2
              try clear hfz104_0
              try clear hfz104_1
              try clear hfz104_2
              try clear hfz107_0
              try clear hfz107_1
              try clear hfz107_2
              try clear hfz15_0
              try clear hfz15_1
              try clear hfz15_2
              try clear hfz17_0
              try clear hfz17_1
              try clear hfz17_2
              try clear hfz23_0
              try clear hfz23_1
              try clear hfz23_2
              try clear hfz25_0
              try clear hfz25_1
              try clear hfz25_2
              try clear hfz30_0
              try clear hfz30_1
              try clear hfz30_2
              try clear hfz37_0
              try clear hfz37_1
              try clear hfz37_2
              try clear hfz45_0
              try clear hfz45_1
              try clear hfz45_2
              try clear hfz48_0
              try clear hfz48_1
              try clear hfz48_2
              try clear hfz53_0
              try clear hfz53_1
              try clear hfz53_2
              try clear hfz56_0
              try clear hfz56_1
              try clear hfz56_2
              try clear hfz61_0
              try clear hfz61_1
              try clear hfz61_2
              try clear hfz64_0
              try clear hfz64_1
              try clear hfz64_2
              try clear hfz79_0
              try clear hfz79_1
              try clear hfz79_2
              try clear hfz7_0
              try clear hfz7_1
              try clear hfz7_2
              try clear hfz88_0
              try clear hfz88_1
              try clear hfz88_2
              try clear hfz91_0
              try clear hfz91_1
              try clear hfz91_2
              try clear hfz96_0
              try clear hfz96_1
              try clear hfz96_2
              try clear hfz99_0
              try clear hfz99_1
              try clear hfz99_2
              try clear p2
              obtain ⟨kq, x84_70, rfl, HA, HJ70, HO_269002, HO_275002, HO_283002, BK254, BK268, BK274, BK282, HB⟩ := hcut
              have hl275002_70 := (Kd.R_reads' HO_275002.out).1
              rw [hl275002_70] at HO_275002
              (try simp only [hl275002_70])
              (try simp only [hl275002_70] at BK254)
              (try simp only [hl275002_70] at BK268)
              (try simp only [hl275002_70] at BK274)
              (try simp only [hl275002_70] at BK282)
              (try simp only [hl275002_70] at HO_269002)
              (try simp only [hl275002_70] at HO_283002)
              cases kq with
              | zero => exact absurd HA.out (by simp [laws_FnExactVoteRun.j1])
              | succ kj70 =>
                have H := HA.out
                clear HA
                simp only [laws_FnExactVoteRun.j1] at H
                by_cases c109 : x84_70 = true
                · subst c109
                  have H1 : (some false) = some r := by rw [if_pos rfl] at H; exact H
                  clear H
                  have H := H1
                  clear H1
                  obtain rfl := Option.some.inj H
                  go_wp2
                  go_ret
                  exact ⟨by first | rfl | (simp [errW_none, errW_some] <;> rfl) | (simp [*, errW_none, errW_some] <;> rfl), by repeat (first | (with_reducible first | exact HB.out | apply below_alloc | apply pw_below_drewN | apply below_drew1 | refine below_set ?_ GE254.out | refine below_set ?_ GE268.out | refine below_set ?_ GE274.out | refine below_set ?_ GE282.out) | exact HB.out)⟩
                · replace c109 := Bool.eq_false_iff.mpr c109
                  subst c109
                  have H1 : ((laws_markField.f kj70 t275 t276 t277 1).bind fun bt293 => ((laws_heldField.f kj70 t275 t276 bt293.2 1).bind fun t295 => (if t295 < 0 then (some false) else (if t295 = bt293.1 then ((laws_toField.f kj70 a0_0 a0_1 l0_2).bind fun bt296 => ((impl_VoteRun.f kj70 bt296.1 bt296.2.1 bt296.2.2 a1 a2).bind fun bt301 => ((laws_eqField.f kj70 bt301.1 bt301.2.1 bt301.2.2.1 t261 t262 t263).bind fun t309 => (if t309 = true then (if bt301.2.2.2.1 = t266 then (laws_FnExactVoteRun.j2 kj70 bt293.1 (bt301.2.2.2.2 != t267) t275 t276 bt293.2) else (laws_FnExactVoteRun.j2 kj70 bt293.1 true t275 t276 bt293.2)) else (laws_FnExactVoteRun.j2 kj70 bt293.1 true t275 t276 bt293.2))))) else (some false))))) = some r := by rw [if_neg (show ¬ (false = true) by decide)] at H; exact H
                  clear H
                  have H := H1
                  clear H1
                  replace H := Option.bind_eq_some_iff.mp H
                  obtain ⟨⟨t293, t294⟩, A1100, H⟩ := H
                  replace H : ((laws_heldField.f kj70 t275 t276 t294 1).bind fun t295 => (if t295 < 0 then (some false) else (if t295 = t293 then ((laws_toField.f kj70 a0_0 a0_1 l0_2).bind fun bt296 => ((impl_VoteRun.f kj70 bt296.1 bt296.2.1 bt296.2.2 a1 a2).bind fun bt301 => ((laws_eqField.f kj70 bt301.1 bt301.2.1 bt301.2.2.1 t261 t262 t263).bind fun t309 => (if t309 = true then (if bt301.2.2.2.1 = t266 then (laws_FnExactVoteRun.j2 kj70 t293 (bt301.2.2.2.2 != t267) t275 t276 t294) else (laws_FnExactVoteRun.j2 kj70 t293 true t275 t276 t294)) else (laws_FnExactVoteRun.j2 kj70 t293 true t275 t276 t294))))) else (some false)))) = some r := H
                  have A110 := Aside0.mk A1100
                  clear A1100
                  replace H := Option.bind_eq_some_iff.mp H
                  obtain ⟨t295, A1110, H⟩ := H
                  replace H : (if t295 < 0 then (some false) else (if t295 = t293 then ((laws_toField.f kj70 a0_0 a0_1 l0_2).bind fun bt296 => ((impl_VoteRun.f kj70 bt296.1 bt296.2.1 bt296.2.2 a1 a2).bind fun bt301 => ((laws_eqField.f kj70 bt301.1 bt301.2.1 bt301.2.2.1 t261 t262 t263).bind fun t309 => (if t309 = true then (if bt301.2.2.2.1 = t266 then (laws_FnExactVoteRun.j2 kj70 t293 (bt301.2.2.2.2 != t267) t275 t276 t294) else (laws_FnExactVoteRun.j2 kj70 t293 true t275 t276 t294)) else (laws_FnExactVoteRun.j2 kj70 t293 true t275 t276 t294))))) else (some false))) = some r := H
                  have A111 := Aside0.mk A1110
                  clear A1110
                  by_cases c112 : t295 < 0
                  · rw [if_pos c112] at H
                    have c112b0 : decide (t295 < 0) = true := decide_eq_true c112
                    clear c112
                    obtain rfl := Option.some.inj H
                    have hnb113 := NB282_254.out
                    have hnc113 := NB254_282.out
                    have hnb114 := NB282_268.out
                    have hnc114 := NB268_282.out
                    have hnb115 := NB282_274.out
                    have hnc115 := NB274_282.out
                    have hcz116_0 : wc.cell? ⟨gb282, 0, none⟩ = some (.int .i64 t275) := (blk_cell BK282.out 0).trans rfl
                    have hcz116_1 : wc.cell? ⟨gb282, 1, none⟩ = some (.int .i64 t276) := (blk_cell BK282.out 1).trans rfl
                    have hcz116_2 : wc.cell? ⟨gb282, 2, none⟩ = some (.slice Ao38 t277.length co38) := (blk_cell BK282.out 2).trans rfl
                    have hfz116_0 := blk_frozen BK282.out 0
                    have hfz116_1 := blk_frozen BK282.out 1
                    have hfz116_2 := blk_frozen BK282.out 2
                    go_wp2_with (first | ((with_reducible refine gate_callee (f := 21) rfl ?_); refine goesL_ (some 87) rfl rfl Try.func21 (by kernel_rfl) rfl #[.agg #[.int .i64 t275, .int .i64 t276, .slice Ao38 t277.length co38], .int .i64 1] rfl (by (try simp only [List.map_toArray, List.map_cons, List.map_nil]); first | done | rfl | (simp only [List.length_drop, List.length_take]; rfl)) ?_; (with_reducible refine (laws_markField.calls kj70 t275 t276 (fun k_ => some k_ = (.slice Ao38 t277.length co38 : Value).ownBlock) (.slice Ao38 t277.length co38) t277 1 t293 t294 w _ ?side1 ?side2 A110.out).mono ?_); (case side1 => repeat (first | (with_reducible first | exact HB.out | apply below_alloc | apply pw_below_drewN | apply below_drew1 | refine below_set ?_ GE254.out | refine below_set ?_ GE268.out | refine below_set ?_ GE274.out | refine below_set ?_ GE282.out) | exact HB.out)); (case side2 => exact Kd.R_tight rfl HO_283002.out); rintro e w117 ⟨rfl, hy0, hb, hkp⟩; refine ⟨_, rfl, ?_⟩; have n0_ := Aside0.mk (Kd.R_mono (ok' := fun k_ => some k_ ≠ (.slice Ao31 t291.length co31 : Value).ownBlock ∧ some k_ ≠ (.slice Ao38 t277.length co38 : Value).ownBlock) (Kd.R_keptB (HO_269002.out) hkp (fun k_ hk_ hs_ => (hk_.2) hs_)) (fun k_ hk_ => ⟨hk_.1.1, hk_.1.2⟩)); have n1_ := Aside0.mk (Kd.R_mono (ok' := fun k_ => some k_ ≠ (.slice Ao24 t263.length co24 : Value).ownBlock ∧ some k_ ≠ (.slice Ao38 t277.length co38 : Value).ownBlock) (Kd.R_keptB (HO_275002.out) hkp (fun k_ hk_ hs_ => (hk_.2) hs_)) (fun k_ hk_ => ⟨hk_.1.1, hk_.1.2⟩)); have n2_ := Aside0.mk (Kd.R_reok rfl hy0 (fun k_ e_ => HO_283002.out.1 k_ e_)); have n3_ := Aside0.mk (blk_kept (by (with_reducible repeat (first | refine blk_drewN ?_ _ | refine blk_drew ?_ | refine blk_alloc ?_ _)); exact BK254.out) hkp (fun hs_ => (fun e_ => (Kd.R_ne HO_283002.out BK254.out (by decide)) e_) hs_)); have n4_ := Aside0.mk (blk_kept (by (with_reducible repeat (first | refine blk_drewN ?_ _ | refine blk_drew ?_ | refine blk_alloc ?_ _)); exact BK268.out) hkp (fun hs_ => (fun e_ => (Kd.R_ne HO_283002.out BK268.out (by decide)) e_) hs_)); have n5_ := Aside0.mk (blk_kept (by (with_reducible repeat (first | refine blk_drewN ?_ _ | refine blk_drew ?_ | refine blk_alloc ?_ _)); exact BK274.out) hkp (fun hs_ => (fun e_ => (Kd.R_ne HO_283002.out BK274.out (by decide)) e_) hs_)); have n6_ := Aside0.mk (blk_kept (by (with_reducible repeat (first | refine blk_drewN ?_ _ | refine blk_drew ?_ | refine blk_alloc ?_ _)); exact BK282.out) hkp (fun hs_ => (fun e_ => (Kd.R_ne HO_283002.out BK282.out (by decide)) e_) hs_)); have n7_ := Aside0.mk (hb); clear HO_269002; clear HO_275002; clear HO_283002; clear BK254; clear BK268; clear BK274; clear BK282; clear HB; have HO_269002 := n0_; have HO_275002 := n1_; have HO_283002 := n2_; have BK254 := n3_; have BK268 := n4_; have BK274 := n5_; have BK282 := n6_; have HB := n7_; clear n0_ n1_ n2_ n3_ n4_ n5_ n6_ n7_; (try clear hb); (try clear hkp); (try clear hy0); have hcz118_0 : w117.cell? ⟨gb282, 0, none⟩ = some (.int .i64 t275) := (blk_cell BK282.out 0).trans rfl; have hcz118_1 : w117.cell? ⟨gb282, 1, none⟩ = some (.int .i64 t276) := (blk_cell BK282.out 1).trans rfl; have hcz118_2 : w117.cell? ⟨gb282, 2, none⟩ = some (.slice Ao38 t277.length co38) := (blk_cell BK282.out 2).trans rfl; have hfz118_0 := blk_frozen BK282.out 0; have hfz118_1 := blk_frozen BK282.out 1; have hfz118_2 := blk_frozen BK282.out 2) | ((with_reducible refine gate_callee (f := 49) rfl ?_); refine goesL_ (some 90) rfl rfl Try.func49 (by kernel_rfl) rfl #[.agg #[.int .i64 t275, .int .i64 t276, .slice Ao38 t294.length co38], .int .i64 1] rfl (by (try simp only [List.map_toArray, List.map_cons, List.map_nil]); first | done | (rw [show t294.length = t277.length from (Kd.R_reads' HO_283002.out).1.symm] <;> rfl) | rfl | (simp only [List.length_drop, List.length_take]; rfl)) ?_; (with_reducible refine (laws_heldField.calls kj70 t275 t276 _ _ t294 1 t295 _ ?side1 ?side2 A111.out).mono ?_); (case side1 => repeat (first | exact (Kd.R_reads' HO_283002.out).2.2 | (with_reducible refine Kd.C_alloc ?_ _) | (with_reducible refine Kd.C_drewN ?_ _) | (with_reducible refine Kd.C_drew ?_))); (case side2 => rw [show t294.length = t277.length from (Kd.R_reads' HO_283002.out).1.symm]; exact (Kd.R_reads' HO_283002.out).2.1); rintro e w119 ⟨rfl, hb⟩; refine ⟨_, rfl, ?_⟩; have n0_ := Aside0.mk (Kd.R_below (by (with_reducible repeat (first | apply Kd.R_alloc | apply Kd.R_drewN | apply Kd.R_drew)); exact HO_269002.out) hb); have n1_ := Aside0.mk (Kd.R_below (by (with_reducible repeat (first | apply Kd.R_alloc | apply Kd.R_drewN | apply Kd.R_drew)); exact HO_275002.out) hb); have n2_ := Aside0.mk (Kd.R_below (by (with_reducible repeat (first | apply Kd.R_alloc | apply Kd.R_drewN | apply Kd.R_drew)); exact HO_283002.out) hb); have n3_ := Aside0.mk (blk_below (g := gb254) (o := .cells #[.int .i64 a0_0, .int .i64 a0_1, .slice A0_2 l0_2.length c0_2] 24 (0, 0)) (by (with_reducible repeat (first | refine blk_drewN ?_ _ | refine blk_drew ?_ | refine blk_alloc ?_ _)); exact BK254.out) hb); have n4_ := Aside0.mk (blk_below (g := gb268) (o := .cells #[.int .i64 t261, .int .i64 t262, .slice Ao24 t263.length co24] 28 (0, 0)) (by (with_reducible repeat (first | refine blk_drewN ?_ _ | refine blk_drew ?_ | refine blk_alloc ?_ _)); exact BK268.out) hb); have n5_ := Aside0.mk (blk_below (g := gb274) (o := .cells #[.int .i64 t269, .int .i64 t270, .slice Ao31 t291.length co31] 28 (0, 0)) (by (with_reducible repeat (first | refine blk_drewN ?_ _ | refine blk_drew ?_ | refine blk_alloc ?_ _)); exact BK274.out) hb); have n6_ := Aside0.mk (blk_below (g := gb282) (o := .cells #[.int .i64 t275, .int .i64 t276, .slice Ao38 t277.length co38] 28 (0, 0)) (by (with_reducible repeat (first | refine blk_drewN ?_ _ | refine blk_drew ?_ | refine blk_alloc ?_ _)); exact BK282.out) hb); have n7_ := Aside0.mk (below_step (by repeat (first | (with_reducible first | exact HB.out | apply below_alloc | apply pw_below_drewN | apply below_drew1 | refine below_set ?_ GE254.out | refine below_set ?_ GE268.out | refine below_set ?_ GE274.out | refine below_set ?_ GE282.out) | exact HB.out)) hb); clear HO_269002; clear HO_275002; clear HO_283002; clear BK254; clear BK268; clear BK274; clear BK282; clear HB; have HO_269002 := n0_; have HO_275002 := n1_; have HO_283002 := n2_; have BK254 := n3_; have BK268 := n4_; have BK274 := n5_; have BK282 := n6_; have HB := n7_; clear n0_ n1_ n2_ n3_ n4_ n5_ n6_ n7_; (try clear hb); (try clear hb2); (try clear hk); (try clear hi)))
                    go_ret
                    exact ⟨by first | rfl | (simp [errW_none, errW_some] <;> rfl) | (simp [*, errW_none, errW_some] <;> rfl), by repeat (first | (with_reducible first | exact HB.out | apply below_alloc | apply pw_below_drewN | apply below_drew1 | refine below_set ?_ GE254.out | refine below_set ?_ GE268.out | refine below_set ?_ GE274.out | refine below_set ?_ GE282.out) | exact HB.out)⟩
                  · rw [if_neg c112] at H
                    have c112b0 : decide (t295 < 0) = false := decide_eq_false c112
                    clear c112
                    by_cases c120 : t295 = t293
                    · rw [if_pos c120] at H
                      have c120b0 : (t295 == t293) = true := beq_iff_eq.mpr c120
                      have c120b1 : (t295 != t293) = false := bne_eq_false_iff_eq.mpr c120
                      clear c120
                      replace H := Option.bind_eq_some_iff.mp H
                      obtain ⟨⟨t296, t297, t298⟩, A1210, H⟩ := H
                      replace H : ((impl_VoteRun.f kj70 t296 t297 t298 a1 a2).bind fun bt301 => ((laws_eqField.f kj70 bt301.1 bt301.2.1 bt301.2.2.1 t261 t262 t263).bind fun t309 => (if t309 = true then (if bt301.2.2.2.1 = t266 then (laws_FnExactVoteRun.j2 kj70 t293 (bt301.2.2.2.2 != t267) t275 t276 t294) else (laws_FnExactVoteRun.j2 kj70 t293 true t275 t276 t294)) else (laws_FnExactVoteRun.j2 kj70 t293 true t275 t276 t294)))) = some r := H
                      have A121 := Aside0.mk A1210
                      clear A1210
                      replace H := Option.bind_eq_some_iff.mp H
                      obtain ⟨⟨t301, t302, t303, t306, t307⟩, A1220, H⟩ := H
                      replace H : ((laws_eqField.f kj70 t301 t302 t303 t261 t262 t263).bind fun t309 => (if t309 = true then (if t306 = t266 then (laws_FnExactVoteRun.j2 kj70 t293 (t307 != t267) t275 t276 t294) else (laws_FnExactVoteRun.j2 kj70 t293 true t275 t276 t294)) else (laws_FnExactVoteRun.j2 kj70 t293 true t275 t276 t294))) = some r := H
                      have A122 := Aside0.mk A1220
                      clear A1220
                      have HC123 := Aside0.mk H
                      clear H
                      have hnb124 := NB282_254.out
                      have hnc124 := NB254_282.out
                      have hnb125 := NB282_268.out
                      have hnc125 := NB268_282.out
                      have hnb126 := NB282_274.out
                      have hnc126 := NB274_282.out
                      have hcz127_0 : wc.cell? ⟨gb282, 0, none⟩ = some (.int .i64 t275) := (blk_cell BK282.out 0).trans rfl
                      have hcz127_1 : wc.cell? ⟨gb282, 1, none⟩ = some (.int .i64 t276) := (blk_cell BK282.out 1).trans rfl
                      have hcz127_2 : wc.cell? ⟨gb282, 2, none⟩ = some (.slice Ao38 t277.length co38) := (blk_cell BK282.out 2).trans rfl
                      have hfz127_0 := blk_frozen BK282.out 0
                      have hfz127_1 := blk_frozen BK282.out 1
                      have hfz127_2 := blk_frozen BK282.out 2
                      go_upto_region 25 with (first | ((with_reducible refine gate_callee (f := 21) rfl ?_); refine goesL_ (some 87) rfl rfl Try.func21 (by kernel_rfl) rfl #[.agg #[.int .i64 t275, .int .i64 t276, .slice Ao38 t277.length co38], .int .i64 1] rfl (by (try simp only [List.map_toArray, List.map_cons, List.map_nil]); first | done | rfl | (simp only [List.length_drop, List.length_take]; rfl)) ?_; (with_reducible refine (laws_markField.calls kj70 t275 t276 (fun k_ => some k_ = (.slice Ao38 t277.length co38 : Value).ownBlock) (.slice Ao38 t277.length co38) t277 1 t293 t294 w _ ?side1 ?side2 A110.out).mono ?_); (case side1 => repeat (first | (with_reducible first | exact HB.out | apply below_alloc | apply pw_below_drewN | apply below_drew1 | refine below_set ?_ GE254.out | refine below_set ?_ GE268.out | refine below_set ?_ GE274.out | refine below_set ?_ GE282.out) | exact HB.out)); (case side2 => exact Kd.R_tight rfl HO_283002.out); rintro e w128 ⟨rfl, hy0, hb, hkp⟩; refine ⟨_, rfl, ?_⟩; have n0_ := Aside0.mk (Kd.R_mono (ok' := fun k_ => some k_ ≠ (.slice Ao31 t291.length co31 : Value).ownBlock ∧ some k_ ≠ (.slice Ao38 t277.length co38 : Value).ownBlock) (Kd.R_keptB (HO_269002.out) hkp (fun k_ hk_ hs_ => (hk_.2) hs_)) (fun k_ hk_ => ⟨hk_.1.1, hk_.1.2⟩)); have n1_ := Aside0.mk (Kd.R_mono (ok' := fun k_ => some k_ ≠ (.slice Ao24 t263.length co24 : Value).ownBlock ∧ some k_ ≠ (.slice Ao38 t277.length co38 : Value).ownBlock) (Kd.R_keptB (HO_275002.out) hkp (fun k_ hk_ hs_ => (hk_.2) hs_)) (fun k_ hk_ => ⟨hk_.1.1, hk_.1.2⟩)); have n2_ := Aside0.mk (Kd.R_reok rfl hy0 (fun k_ e_ => HO_283002.out.1 k_ e_)); have n3_ := Aside0.mk (blk_kept (by (with_reducible repeat (first | refine blk_drewN ?_ _ | refine blk_drew ?_ | refine blk_alloc ?_ _)); exact BK254.out) hkp (fun hs_ => (fun e_ => (Kd.R_ne HO_283002.out BK254.out (by decide)) e_) hs_)); have n4_ := Aside0.mk (blk_kept (by (with_reducible repeat (first | refine blk_drewN ?_ _ | refine blk_drew ?_ | refine blk_alloc ?_ _)); exact BK268.out) hkp (fun hs_ => (fun e_ => (Kd.R_ne HO_283002.out BK268.out (by decide)) e_) hs_)); have n5_ := Aside0.mk (blk_kept (by (with_reducible repeat (first | refine blk_drewN ?_ _ | refine blk_drew ?_ | refine blk_alloc ?_ _)); exact BK274.out) hkp (fun hs_ => (fun e_ => (Kd.R_ne HO_283002.out BK274.out (by decide)) e_) hs_)); have n6_ := Aside0.mk (blk_kept (by (with_reducible repeat (first | refine blk_drewN ?_ _ | refine blk_drew ?_ | refine blk_alloc ?_ _)); exact BK282.out) hkp (fun hs_ => (fun e_ => (Kd.R_ne HO_283002.out BK282.out (by decide)) e_) hs_)); have n7_ := Aside0.mk (hb); clear HO_269002; clear HO_275002; clear HO_283002; clear BK254; clear BK268; clear BK274; clear BK282; clear HB; have HO_269002 := n0_; have HO_275002 := n1_; have HO_283002 := n2_; have BK254 := n3_; have BK268 := n4_; have BK274 := n5_; have BK282 := n6_; have HB := n7_; clear n0_ n1_ n2_ n3_ n4_ n5_ n6_ n7_; (try clear hb); (try clear hkp); (try clear hy0); have hcz129_0 : w128.cell? ⟨gb282, 0, none⟩ = some (.int .i64 t275) := (blk_cell BK282.out 0).trans rfl; have hcz129_1 : w128.cell? ⟨gb282, 1, none⟩ = some (.int .i64 t276) := (blk_cell BK282.out 1).trans rfl; have hcz129_2 : w128.cell? ⟨gb282, 2, none⟩ = some (.slice Ao38 t277.length co38) := (blk_cell BK282.out 2).trans rfl; have hfz129_0 := blk_frozen BK282.out 0; have hfz129_1 := blk_frozen BK282.out 1; have hfz129_2 := blk_frozen BK282.out 2) | ((with_reducible refine gate_callee (f := 49) rfl ?_); refine goesL_ (some 90) rfl rfl Try.func49 (by kernel_rfl) rfl #[.agg #[.int .i64 t275, .int .i64 t276, .slice Ao38 t294.length co38], .int .i64 1] rfl (by (try simp only [List.map_toArray, List.map_cons, List.map_nil]); first | done | (rw [show t294.length = t277.length from (Kd.R_reads' HO_283002.out).1.symm] <;> rfl) | rfl | (simp only [List.length_drop, List.length_take]; rfl)) ?_; (with_reducible refine (laws_heldField.calls kj70 t275 t276 _ _ t294 1 t295 _ ?side1 ?side2 A111.out).mono ?_); (case side1 => repeat (first | exact (Kd.R_reads' HO_283002.out).2.2 | (with_reducible refine Kd.C_alloc ?_ _) | (with_reducible refine Kd.C_drewN ?_ _) | (with_reducible refine Kd.C_drew ?_))); (case side2 => rw [show t294.length = t277.length from (Kd.R_reads' HO_283002.out).1.symm]; exact (Kd.R_reads' HO_283002.out).2.1); rintro e w130 ⟨rfl, hb⟩; refine ⟨_, rfl, ?_⟩; have n0_ := Aside0.mk (Kd.R_below (by (with_reducible repeat (first | apply Kd.R_alloc | apply Kd.R_drewN | apply Kd.R_drew)); exact HO_269002.out) hb); have n1_ := Aside0.mk (Kd.R_below (by (with_reducible repeat (first | apply Kd.R_alloc | apply Kd.R_drewN | apply Kd.R_drew)); exact HO_275002.out) hb); have n2_ := Aside0.mk (Kd.R_below (by (with_reducible repeat (first | apply Kd.R_alloc | apply Kd.R_drewN | apply Kd.R_drew)); exact HO_283002.out) hb); have n3_ := Aside0.mk (blk_below (g := gb254) (o := .cells #[.int .i64 a0_0, .int .i64 a0_1, .slice A0_2 l0_2.length c0_2] 24 (0, 0)) (by (with_reducible repeat (first | refine blk_drewN ?_ _ | refine blk_drew ?_ | refine blk_alloc ?_ _)); exact BK254.out) hb); have n4_ := Aside0.mk (blk_below (g := gb268) (o := .cells #[.int .i64 t261, .int .i64 t262, .slice Ao24 t263.length co24] 28 (0, 0)) (by (with_reducible repeat (first | refine blk_drewN ?_ _ | refine blk_drew ?_ | refine blk_alloc ?_ _)); exact BK268.out) hb); have n5_ := Aside0.mk (blk_below (g := gb274) (o := .cells #[.int .i64 t269, .int .i64 t270, .slice Ao31 t291.length co31] 28 (0, 0)) (by (with_reducible repeat (first | refine blk_drewN ?_ _ | refine blk_drew ?_ | refine blk_alloc ?_ _)); exact BK274.out) hb); have n6_ := Aside0.mk (blk_below (g := gb282) (o := .cells #[.int .i64 t275, .int .i64 t276, .slice Ao38 t277.length co38] 28 (0, 0)) (by (with_reducible repeat (first | refine blk_drewN ?_ _ | refine blk_drew ?_ | refine blk_alloc ?_ _)); exact BK282.out) hb); have n7_ := Aside0.mk (below_step (by repeat (first | (with_reducible first | exact HB.out | apply below_alloc | apply pw_below_drewN | apply below_drew1 | refine below_set ?_ GE254.out | refine below_set ?_ GE268.out | refine below_set ?_ GE274.out | refine below_set ?_ GE282.out) | exact HB.out)) hb); clear HO_269002; clear HO_275002; clear HO_283002; clear BK254; clear BK268; clear BK274; clear BK282; clear HB; have HO_269002 := n0_; have HO_275002 := n1_; have HO_283002 := n2_; have BK254 := n3_; have BK268 := n4_; have BK274 := n5_; have BK282 := n6_; have HB := n7_; clear n0_ n1_ n2_ n3_ n4_ n5_ n6_ n7_; (try clear hb); (try clear hb2); (try clear hk); (try clear hi); have hnb131 := NB254_268.out; have hnc131 := NB268_254.out; have hnb132 := NB254_274.out; have hnc132 := NB274_254.out; have hcz133_0 : w130.cell? ⟨gb254, 0, none⟩ = some (.int .i64 a0_0) := (blk_cell BK254.out 0).trans rfl; have hcz133_1 : w130.cell? ⟨gb254, 1, none⟩ = some (.int .i64 a0_1) := (blk_cell BK254.out 1).trans rfl; have hcz133_2 : w130.cell? ⟨gb254, 2, none⟩ = some (.slice A0_2 l0_2.length c0_2) := (blk_cell BK254.out 2).trans rfl; have hfz133_0 := blk_frozen BK254.out 0; have hfz133_1 := blk_frozen BK254.out 1; have hfz133_2 := blk_frozen BK254.out 2) | ((with_reducible refine gate_callee (f := 17) rfl ?_); refine goesL_ (some 98) rfl rfl Try.func17 (by kernel_rfl) rfl #[.agg #[.int .i64 a0_0, .int .i64 a0_1, .slice A0_2 l0_2.length c0_2]] rfl (by (try simp only [List.map_toArray, List.map_cons, List.map_nil]); first | done | rfl | (simp only [List.length_drop, List.length_take]; rfl)) ?_; (with_reducible refine (laws_toField.calls kj70 a0_0 a0_1 _ _ l0_2 t296 t297 t298 _ ?side1 ?side2 A121.out).mono ?_); (case side1 => repeat (first | exact (Kd.C_below HR0_2.out HB.out) | (with_reducible refine Kd.C_alloc ?_ _) | (with_reducible refine Kd.C_drewN ?_ _) | (with_reducible refine Kd.C_drew ?_))); (case side2 => exact HC0_2.out); rintro e w134 ⟨v299, rfl, ho0, hb⟩; refine ⟨_, rfl, ?_⟩; have n0_ := Aside0.mk (Kd.R_elder' (by (with_reducible repeat (first | apply Kd.R_alloc | apply Kd.R_drewN | apply Kd.R_drew)); exact HO_269002.out) (Kd.R_base ho0) hb); have n1_ := Aside0.mk (Kd.R_elder' (by (with_reducible repeat (first | apply Kd.R_alloc | apply Kd.R_drewN | apply Kd.R_drew)); exact HO_275002.out) (Kd.R_base ho0) hb); have n2_ := Aside0.mk (Kd.R_elder' (by (with_reducible repeat (first | apply Kd.R_alloc | apply Kd.R_drewN | apply Kd.R_drew)); exact HO_283002.out) (Kd.R_base ho0) hb); have n3_ := Aside0.mk (Kd.R_lower (Kd.R_new' (Kd.R_new' (Kd.R_new' ho0 (Kd.R_lt (by (with_reducible repeat (first | apply Kd.R_alloc | apply Kd.R_drewN | apply Kd.R_drew)); exact HO_269002.out))) (Kd.R_lt (by (with_reducible repeat (first | apply Kd.R_alloc | apply Kd.R_drewN | apply Kd.R_drew)); exact HO_275002.out))) (Kd.R_lt (by (with_reducible repeat (first | apply Kd.R_alloc | apply Kd.R_drewN | apply Kd.R_drew)); exact HO_283002.out))) (below_size (by repeat (first | (with_reducible first | exact HB.out | apply below_alloc | apply pw_below_drewN | apply below_drew1 | refine below_set ?_ GE254.out | refine below_set ?_ GE268.out | refine below_set ?_ GE274.out | refine below_set ?_ GE282.out) | exact HB.out)))); have n4_ := Aside0.mk (blk_below (g := gb254) (o := .cells #[.int .i64 a0_0, .int .i64 a0_1, .slice A0_2 l0_2.length c0_2] 24 (0, 0)) (by (with_reducible repeat (first | refine blk_drewN ?_ _ | refine blk_drew ?_ | refine blk_alloc ?_ _)); exact BK254.out) hb); have n5_ := Aside0.mk (blk_below (g := gb268) (o := .cells #[.int .i64 t261, .int .i64 t262, .slice Ao24 t263.length co24] 28 (0, 0)) (by (with_reducible repeat (first | refine blk_drewN ?_ _ | refine blk_drew ?_ | refine blk_alloc ?_ _)); exact BK268.out) hb); have n6_ := Aside0.mk (blk_below (g := gb274) (o := .cells #[.int .i64 t269, .int .i64 t270, .slice Ao31 t291.length co31] 28 (0, 0)) (by (with_reducible repeat (first | refine blk_drewN ?_ _ | refine blk_drew ?_ | refine blk_alloc ?_ _)); exact BK274.out) hb); have n7_ := Aside0.mk (blk_below (g := gb282) (o := .cells #[.int .i64 t275, .int .i64 t276, .slice Ao38 t277.length co38] 28 (0, 0)) (by (with_reducible repeat (first | refine blk_drewN ?_ _ | refine blk_drew ?_ | refine blk_alloc ?_ _)); exact BK282.out) hb); have n8_ := Aside0.mk (below_step (by repeat (first | (with_reducible first | exact HB.out | apply below_alloc | apply pw_below_drewN | apply below_drew1 | refine below_set ?_ GE254.out | refine below_set ?_ GE268.out | refine below_set ?_ GE274.out | refine below_set ?_ GE282.out) | exact HB.out)) hb); clear HO_269002; clear HO_275002; clear HO_283002; clear BK254; clear BK268; clear BK274; clear BK282; clear HB; have HO_269002 := n0_; have HO_275002 := n1_; have HO_283002 := n2_; have HO300 := n3_; have BK254 := n4_; have BK268 := n5_; have BK274 := n6_; have BK282 := n7_; have HB := n8_; clear n0_ n1_ n2_ n3_ n4_ n5_ n6_ n7_ n8_; (try clear hb); (try clear hb2); (try clear hk); (try clear hi); (try clear ho0); obtain ⟨Ao135, co135, eo135⟩ := Kd.R_slice HO300.out; subst eo135) | ((with_reducible refine gate_callee (f := 51) rfl ?_); refine goesL_ (some 101) rfl rfl Try.func51 (by kernel_rfl) rfl #[.agg #[.int .i64 t296, .int .i64 t297, .slice Ao135 t298.length co135], .bool a1, .int .i64 a2] rfl (by (try simp only [List.map_toArray, List.map_cons, List.map_nil]); first | done | rfl | (simp only [List.length_drop, List.length_take]; rfl)) ?_; (with_reducible refine (impl_VoteRun.calls kj70 t296 t297 _ _ t298 a1 a2 t301 t302 t303 t306 t307 _ ?side1 ?side2 A122.out).mono ?_); (case side1 => repeat (first | exact (Kd.R_reads' HO300.out).2.2 | (with_reducible refine Kd.C_alloc ?_ _) | (with_reducible refine Kd.C_drewN ?_ _) | (with_reducible refine Kd.C_drew ?_))); (case side2 => exact (Kd.R_reads' HO300.out).2.1); rintro e w136 ⟨v304, rfl, ho0, hb⟩; refine ⟨_, rfl, ?_⟩; have n0_ := Aside0.mk (Kd.R_elder' (by (with_reducible repeat (first | apply Kd.R_alloc | apply Kd.R_drewN | apply Kd.R_drew)); exact HO_269002.out) (Kd.R_base ho0) hb); have n1_ := Aside0.mk (Kd.R_elder' (by (with_reducible repeat (first | apply Kd.R_alloc | apply Kd.R_drewN | apply Kd.R_drew)); exact HO_275002.out) (Kd.R_base ho0) hb); have n2_ := Aside0.mk (Kd.R_elder' (by (with_reducible repeat (first | apply Kd.R_alloc | apply Kd.R_drewN | apply Kd.R_drew)); exact HO_283002.out) (Kd.R_base ho0) hb); have n3_ := Aside0.mk (Kd.R_elder' (by (with_reducible repeat (first | apply Kd.R_alloc | apply Kd.R_drewN | apply Kd.R_drew)); exact HO300.out) (Kd.R_base ho0) hb); have n4_ := Aside0.mk (Kd.R_lower (Kd.R_new' (Kd.R_new' (Kd.R_new' (Kd.R_new' ho0 (Kd.R_lt (by (with_reducible repeat (first | apply Kd.R_alloc | apply Kd.R_drewN | apply Kd.R_drew)); exact HO_269002.out))) (Kd.R_lt (by (with_reducible repeat (first | apply Kd.R_alloc | apply Kd.R_drewN | apply Kd.R_drew)); exact HO_275002.out))) (Kd.R_lt (by (with_reducible repeat (first | apply Kd.R_alloc | apply Kd.R_drewN | apply Kd.R_drew)); exact HO_283002.out))) (Kd.R_lt (by (with_reducible repeat (first | apply Kd.R_alloc | apply Kd.R_drewN | apply Kd.R_drew)); exact HO300.out))) (below_size (by repeat (first | (with_reducible first | exact HB.out | apply below_alloc | apply pw_below_drewN | apply below_drew1 | refine below_set ?_ GE254.out | refine below_set ?_ GE268.out | refine below_set ?_ GE274.out | refine below_set ?_ GE282.out) | exact HB.out)))); have n5_ := Aside0.mk (blk_below (g := gb254) (o := .cells #[.int .i64 a0_0, .int .i64 a0_1, .slice A0_2 l0_2.length c0_2] 24 (0, 0)) (by (with_reducible repeat (first | refine blk_drewN ?_ _ | refine blk_drew ?_ | refine blk_alloc ?_ _)); exact BK254.out) hb); have n6_ := Aside0.mk (blk_below (g := gb268) (o := .cells #[.int .i64 t261, .int .i64 t262, .slice Ao24 t263.length co24] 28 (0, 0)) (by (with_reducible repeat (first | refine blk_drewN ?_ _ | refine blk_drew ?_ | refine blk_alloc ?_ _)); exact BK268.out) hb); have n7_ := Aside0.mk (blk_below (g := gb274) (o := .cells #[.int .i64 t269, .int .i64 t270, .slice Ao31 t291.length co31] 28 (0, 0)) (by (with_reducible repeat (first | refine blk_drewN ?_ _ | refine blk_drew ?_ | refine blk_alloc ?_ _)); exact BK274.out) hb); have n8_ := Aside0.mk (blk_below (g := gb282) (o := .cells #[.int .i64 t275, .int .i64 t276, .slice Ao38 t277.length co38] 28 (0, 0)) (by (with_reducible repeat (first | refine blk_drewN ?_ _ | refine blk_drew ?_ | refine blk_alloc ?_ _)); exact BK282.out) hb); have n9_ := Aside0.mk (below_step (by repeat (first | (with_reducible first | exact HB.out | apply below_alloc | apply pw_below_drewN | apply below_drew1 | refine below_set ?_ GE254.out | refine below_set ?_ GE268.out | refine below_set ?_ GE274.out | refine below_set ?_ GE282.out) | exact HB.out)) hb); clear HO_269002; clear HO_275002; clear HO_283002; clear HO300; clear BK254; clear BK268; clear BK274; clear BK282; clear HB; have HO_269002 := n0_; have HO_275002 := n1_; have HO_283002 := n2_; have HO300 := n3_; have HO305 := n4_; have BK254 := n5_; have BK268 := n6_; have BK274 := n7_; have BK282 := n8_; have HB := n9_; clear n0_ n1_ n2_ n3_ n4_ n5_ n6_ n7_ n8_ n9_; (try clear hb); (try clear hb2); (try clear hk); (try clear hi); (try clear ho0)) | ((with_reducible refine gate_dst (N := 18) rfl ?_); refine box_event ?hg (N := 18) ?hd (cs := #[.int .i64 0, .int .i64 0, .slice none 0 0]) (t := 28) ?hr ?_; (case hd => rfl); (case hg => rfl); (case hr => first | (go_simp; done) | (go_simp; rfl)); intro gb308 hg w137 hbox hb; have n0_ := Aside0.mk (Kd.R_below (by (with_reducible repeat (first | apply Kd.R_alloc | apply Kd.R_drewN | apply Kd.R_drew)); exact HO_269002.out) hb); have n1_ := Aside0.mk (Kd.R_below (by (with_reducible repeat (first | apply Kd.R_alloc | apply Kd.R_drewN | apply Kd.R_drew)); exact HO_275002.out) hb); have n2_ := Aside0.mk (Kd.R_below (by (with_reducible repeat (first | apply Kd.R_alloc | apply Kd.R_drewN | apply Kd.R_drew)); exact HO_283002.out) hb); have n3_ := Aside0.mk (Kd.R_below (by (with_reducible repeat (first | apply Kd.R_alloc | apply Kd.R_drewN | apply Kd.R_drew)); exact HO300.out) hb); have n4_ := Aside0.mk (Kd.R_below (by (with_reducible repeat (first | apply Kd.R_alloc | apply Kd.R_drewN | apply Kd.R_drew)); exact HO305.out) hb); have n5_ := Aside0.mk (blk_below (g := gb254) (o := .cells #[.int .i64 a0_0, .int .i64 a0_1, .slice A0_2 l0_2.length c0_2] 24 (0, 0)) (by (with_reducible repeat (first | refine blk_drewN ?_ _ | refine blk_drew ?_ | refine blk_alloc ?_ _)); exact BK254.out) hb); have n6_ := Aside0.mk (blk_below (g := gb268) (o := .cells #[.int .i64 t261, .int .i64 t262, .slice Ao24 t263.length co24] 28 (0, 0)) (by (with_reducible repeat (first | refine blk_drewN ?_ _ | refine blk_drew ?_ | refine blk_alloc ?_ _)); exact BK268.out) hb); have n7_ := Aside0.mk (blk_below (g := gb274) (o := .cells #[.int .i64 t269, .int .i64 t270, .slice Ao31 t291.length co31] 28 (0, 0)) (by (with_reducible repeat (first | refine blk_drewN ?_ _ | refine blk_drew ?_ | refine blk_alloc ?_ _)); exact BK274.out) hb); have n8_ := Aside0.mk (blk_below (g := gb282) (o := .cells #[.int .i64 t275, .int .i64 t276, .slice Ao38 t277.length co38] 28 (0, 0)) (by (with_reducible repeat (first | refine blk_drewN ?_ _ | refine blk_drew ?_ | refine blk_alloc ?_ _)); exact BK282.out) hb); have n9_ := Aside0.mk (below_step (by repeat (first | (with_reducible first | exact HB.out | apply below_alloc | apply pw_below_drewN | apply below_drew1 | refine below_set ?_ GE254.out | refine below_set ?_ GE268.out | refine below_set ?_ GE274.out | refine below_set ?_ GE282.out) | exact HB.out)) hb); have n10_ := Aside0.mk (hbox); have n11_ := Aside0.mk ((by rw [hg]; exact (below_size (by repeat (first | (with_reducible first | exact HB.out | apply below_alloc | apply pw_below_drewN | apply below_drew1 | refine below_set ?_ GE254.out | refine below_set ?_ GE268.out | refine below_set ?_ GE274.out | refine below_set ?_ GE282.out) | exact HB.out))) : w.heap.size ≤ gb308)); have n12_ := Aside0.mk ((by rw [hg]; exact (below_size (by repeat (first | (with_reducible first | exact HB.out | apply below_alloc | apply pw_below_drewN | apply below_drew1 | refine below_set ?_ GE254.out | refine below_set ?_ GE268.out | refine below_set ?_ GE274.out | refine below_set ?_ GE282.out) | exact HB.out))) : w.heap.size ≤ gb308)); have n13_ := Aside0.mk ((by rw [hg]; exact Nat.ne_of_lt (blk_lt (g := gb254) (o := .cells #[.int .i64 a0_0, .int .i64 a0_1, .slice A0_2 l0_2.length c0_2] 24 (0, 0)) (by (with_reducible repeat (first | refine blk_drewN ?_ _ | refine blk_drew ?_ | refine blk_alloc ?_ _)); exact BK254.out)) : gb254 ≠ gb308)); have n14_ := Aside0.mk ((by rw [hg]; exact Nat.ne_of_gt (blk_lt (g := gb254) (o := .cells #[.int .i64 a0_0, .int .i64 a0_1, .slice A0_2 l0_2.length c0_2] 24 (0, 0)) (by (with_reducible repeat (first | refine blk_drewN ?_ _ | refine blk_drew ?_ | refine blk_alloc ?_ _)); exact BK254.out)) : gb308 ≠ gb254)); have n15_ := Aside0.mk ((by rw [hg]; exact Nat.ne_of_lt (blk_lt (g := gb268) (o := .cells #[.int .i64 t261, .int .i64 t262, .slice Ao24 t263.length co24] 28 (0, 0)) (by (with_reducible repeat (first | refine blk_drewN ?_ _ | refine blk_drew ?_ | refine blk_alloc ?_ _)); exact BK268.out)) : gb268 ≠ gb308)); have n16_ := Aside0.mk ((by rw [hg]; exact Nat.ne_of_gt (blk_lt (g := gb268) (o := .cells #[.int .i64 t261, .int .i64 t262, .slice Ao24 t263.length co24] 28 (0, 0)) (by (with_reducible repeat (first | refine blk_drewN ?_ _ | refine blk_drew ?_ | refine blk_alloc ?_ _)); exact BK268.out)) : gb308 ≠ gb268)); have n17_ := Aside0.mk ((by rw [hg]; exact Nat.ne_of_lt (blk_lt (g := gb274) (o := .cells #[.int .i64 t269, .int .i64 t270, .slice Ao31 t291.length co31] 28 (0, 0)) (by (with_reducible repeat (first | refine blk_drewN ?_ _ | refine blk_drew ?_ | refine blk_alloc ?_ _)); exact BK274.out)) : gb274 ≠ gb308)); have n18_ := Aside0.mk ((by rw [hg]; exact Nat.ne_of_gt (blk_lt (g := gb274) (o := .cells #[.int .i64 t269, .int .i64 t270, .slice Ao31 t291.length co31] 28 (0, 0)) (by (with_reducible repeat (first | refine blk_drewN ?_ _ | refine blk_drew ?_ | refine blk_alloc ?_ _)); exact BK274.out)) : gb308 ≠ gb274)); have n19_ := Aside0.mk ((by rw [hg]; exact Nat.ne_of_lt (blk_lt (g := gb282) (o := .cells #[.int .i64 t275, .int .i64 t276, .slice Ao38 t277.length co38] 28 (0, 0)) (by (with_reducible repeat (first | refine blk_drewN ?_ _ | refine blk_drew ?_ | refine blk_alloc ?_ _)); exact BK282.out)) : gb282 ≠ gb308)); have n20_ := Aside0.mk ((by rw [hg]; exact Nat.ne_of_gt (blk_lt (g := gb282) (o := .cells #[.int .i64 t275, .int .i64 t276, .slice Ao38 t277.length co38] 28 (0, 0)) (by (with_reducible repeat (first | refine blk_drewN ?_ _ | refine blk_drew ?_ | refine blk_alloc ?_ _)); exact BK282.out)) : gb308 ≠ gb282)); clear HO_269002; clear HO_275002; clear HO_283002; clear HO300; clear HO305; clear BK254; clear BK268; clear BK274; clear BK282; clear HB; have HO_269002 := n0_; have HO_275002 := n1_; have HO_283002 := n2_; have HO300 := n3_; have HO305 := n4_; have BK254 := n5_; have BK268 := n6_; have BK274 := n7_; have BK282 := n8_; have HB := n9_; have BK308 := n10_; have GW308 := n11_; have GE308 := n12_; have NB254_308 := n13_; have NB308_254 := n14_; have NB268_308 := n15_; have NB308_268 := n16_; have NB274_308 := n17_; have NB308_274 := n18_; have NB282_308 := n19_; have NB308_282 := n20_; clear n0_ n1_ n2_ n3_ n4_ n5_ n6_ n7_ n8_ n9_ n10_ n11_ n12_ n13_ n14_ n15_ n16_ n17_ n18_ n19_ n20_; clear hb hbox hg; have hnb138 := NB308_254.out; have hnc138 := NB254_308.out; have hnb139 := NB308_268.out; have hnc139 := NB268_308.out; have hnb140 := NB308_274.out; have hnc140 := NB274_308.out; have hnb141 := NB308_282.out; have hnc141 := NB282_308.out; have hcz142_0 : w137.cell? ⟨gb308, 0, none⟩ = some (.int .i64 0) := (blk_cell BK308.out 0).trans rfl; have hcz142_1 : w137.cell? ⟨gb308, 1, none⟩ = some (.int .i64 0) := (blk_cell BK308.out 1).trans rfl; have hcz142_2 : w137.cell? ⟨gb308, 2, none⟩ = some (.slice none 0 0) := (blk_cell BK308.out 2).trans rfl; have hfz142_0 := blk_frozen BK308.out 0; have hfz142_1 := blk_frozen BK308.out 1; have hfz142_2 := blk_frozen BK308.out 2; obtain ⟨Ao143, co143, eo143⟩ := Kd.R_slice HO305.out; subst eo143))
                      (try simp only [Act.put, List.setIfInBounds_toArray, List.set_cons_zero, List.set_cons_succ])
                      go_cut [118] (fun v118 wc => ∃ (kq : Nat) (x118_122 : Bool), v118 = .bool x118_122 ∧ Aside0 (laws_FnExactVoteRun.j2 kq t293 x118_122 t275 t276 t294 = some r) ∧ Aside0 (kq ≤ kj70) ∧ Aside0 (Kd.R (Kd.int .i64) 2 wc w.heap.size (fun k_ => some k_ ≠ ((.slice Ao31 t291.length co31) : Value).ownBlock ∧ some k_ ≠ ((.slice Ao38 t277.length co38) : Value).ownBlock ∧ some k_ ≠ ((.slice Ao143 t303.length co143) : Value).ownBlock) (.slice Ao24 t263.length co24) t263) ∧ Aside0 (Kd.R (Kd.int .i64) 2 wc w.heap.size (fun k_ => some k_ ≠ ((.slice Ao24 t263.length co24) : Value).ownBlock ∧ some k_ ≠ ((.slice Ao38 t277.length co38) : Value).ownBlock ∧ some k_ ≠ ((.slice Ao143 t303.length co143) : Value).ownBlock) (.slice Ao31 t291.length co31) t291) ∧ Aside0 (Kd.R (Kd.int .i64) 2 wc w.heap.size (fun k_ => some k_ ≠ ((.slice Ao24 t263.length co24) : Value).ownBlock ∧ some k_ ≠ ((.slice Ao31 t291.length co31) : Value).ownBlock ∧ some k_ ≠ ((.slice Ao143 t303.length co143) : Value).ownBlock) (.slice Ao38 t277.length co38) t294) ∧ Aside0 (Kd.R (Kd.int .i64) 2 wc w.heap.size (fun k_ => some k_ ≠ ((.slice Ao24 t263.length co24) : Value).ownBlock ∧ some k_ ≠ ((.slice Ao31 t291.length co31) : Value).ownBlock ∧ some k_ ≠ ((.slice Ao38 t277.length co38) : Value).ownBlock) (.slice Ao143 t303.length co143) t303) ∧ Aside0 (wc.heap[gb254]? = some (.cells #[.int .i64 a0_0, .int .i64 a0_1, (.slice A0_2 l0_2.length c0_2)] 24 (0, 0))) ∧ Aside0 (wc.heap[gb268]? = some (.cells #[.int .i64 t261, .int .i64 t262, (.slice Ao24 t263.length co24)] 28 (0, 0))) ∧ Aside0 (wc.heap[gb274]? = some (.cells #[.int .i64 t269, .int .i64 t270, (.slice Ao31 t291.length co31)] 28 (0, 0))) ∧ Aside0 (wc.heap[gb282]? = some (.cells #[.int .i64 t275, .int .i64 t276, (.slice Ao38 t277.length co38)] 28 (0, 0))) ∧ Aside0 (wc.heap[gb308]? = some (.cells #[.int .i64 t301, .int .i64 t302, (.slice Ao143 t303.length co143)] 28 (0, 0))) ∧ Aside0 (Below w.heap.size w wc))
                      case first =>
                        have H := HC123.out
                        clear HC123
                        replace H := Option.bind_eq_some_iff.mp H
                        obtain ⟨t309, A1440, H⟩ := H
                        replace H : (if t309 = true then (if t306 = t266 then (laws_FnExactVoteRun.j2 kj70 t293 (t307 != t267) t275 t276 t294) else (laws_FnExactVoteRun.j2 kj70 t293 true t275 t276 t294)) else (laws_FnExactVoteRun.j2 kj70 t293 true t275 t276 t294)) = some r := H
                        have A144 := Aside0.mk A1440
                        clear A1440
                        by_cases c145 : t309 = true
                        · subst c145
                          have H1 : (if t306 = t266 then (laws_FnExactVoteRun.j2 kj70 t293 (t307 != t267) t275 t276 t294) else (laws_FnExactVoteRun.j2 kj70 t293 true t275 t276 t294)) = some r := by rw [if_pos rfl] at H; exact H
                          clear H
                          have H := H1
                          clear H1
                          by_cases c146 : t306 = t266
                          · rw [if_pos c146] at H
                            have c146b0 : (t306 == t266) = true := beq_iff_eq.mpr c146
                            have c146b1 : (t306 != t266) = false := bne_eq_false_iff_eq.mpr c146
                            clear c146
                            (first | rw [c146b0] | (simp only [i64_w, i32_w]; rw [c146b0]) | skip)
                            have H' := Aside0.mk H
                            clear H
                            have hnb147 := NB308_254.out
                            have hnc147 := NB254_308.out
                            have hnb148 := NB308_268.out
                            have hnc148 := NB268_308.out
                            have hnb149 := NB308_274.out
                            have hnc149 := NB274_308.out
                            have hnb150 := NB308_282.out
                            have hnc150 := NB282_308.out
                            have hcz151_0 : w137.cell? ⟨gb308, 0, none⟩ = some (.int .i64 0) := (blk_cell BK308.out 0).trans rfl
                            have hcz151_1 : w137.cell? ⟨gb308, 1, none⟩ = some (.int .i64 0) := (blk_cell BK308.out 1).trans rfl
                            have hcz151_2 : w137.cell? ⟨gb308, 2, none⟩ = some (.slice none 0 0) := (blk_cell BK308.out 2).trans rfl
                            have hfz151_0 := blk_frozen BK308.out 0
                            have hfz151_1 := blk_frozen BK308.out 1
                            have hfz151_2 := blk_frozen BK308.out 2
                            have hnb152 := NB268_254.out
                            have hnc152 := NB254_268.out
                            have hnb153 := NB268_274.out
                            have hnc153 := NB274_268.out
                            have hnb154 := NB268_282.out
                            have hnc154 := NB282_268.out
                            have hcz155_0 : w137.cell? ⟨gb268, 0, none⟩ = some (.int .i64 t261) := (blk_cell BK268.out 0).trans rfl
                            have hcz155_1 : w137.cell? ⟨gb268, 1, none⟩ = some (.int .i64 t262) := (blk_cell BK268.out 1).trans rfl
                            have hcz155_2 : w137.cell? ⟨gb268, 2, none⟩ = some (.slice Ao24 t263.length co24) := (blk_cell BK268.out 2).trans rfl
                            have hfz155_0 := blk_frozen BK268.out 0
                            have hfz155_1 := blk_frozen BK268.out 1
                            have hfz155_2 := blk_frozen BK268.out 2
                            go_wp2_with (first | ((with_reducible refine gate_callee (f := 20) rfl ?_); refine goesL_ (some 107) rfl rfl Try.func20 (by kernel_rfl) rfl #[.agg #[.int .i64 t301, .int .i64 t302, .slice Ao143 t303.length co143], .agg #[.int .i64 t261, .int .i64 t262, .slice Ao24 t263.length co24]] rfl (by (try simp only [List.map_toArray, List.map_cons, List.map_nil]); first | done | rfl | (simp only [List.length_drop, List.length_take]; rfl)) ?_; (with_reducible refine (laws_eqField.calls kj70 t301 t302 _ _ t303 t261 t262 _ _ t263 true _ ?side1 ?side2 ?side3 ?side4 A144.out).mono ?_); (case side1 => refine (Kd.R_reads' (e := 2) (base := w.heap.size) (ok := fun k_ => ((((True ∧ some k_ ≠ (.slice Ao24 t263.length co24 : Value).ownBlock) ∧ some k_ ≠ (.slice Ao31 t291.length co31 : Value).ownBlock) ∧ some k_ ≠ (.slice Ao38 t277.length co38 : Value).ownBlock) ∧ some k_ ≠ (.slice Ao135 t298.length co135 : Value).ownBlock)) (n := t303.length) (c := co143) ?_).2.2; exact (by (with_reducible repeat (first | apply Kd.R_alloc | apply Kd.R_drewN | apply Kd.R_drew)); exact (Kd.R_mono (Kd.R_far (p := ⟨gb308, 2, none⟩) (Kd.R_far (p := ⟨gb308, 1, none⟩) (Kd.R_far (p := ⟨gb308, 0, none⟩) (Kd.R_types HO305.out BK308.out (by decide)) (fun _ hk => hk.2) (.int .i64 t301)) (fun _ hk => hk.2) (.int .i64 t302)) (fun _ hk => hk.2) (.slice Ao143 t303.length co143)) (fun _ h_ => h_.1)))); (case side2 => exact (Kd.R_reads' HO305.out).2.1); (case side3 => refine (Kd.R_reads' (e := 2) (base := w.heap.size) (ok := fun k_ => (((some k_ ≠ (.slice Ao31 t291.length co31 : Value).ownBlock ∧ some k_ ≠ (.slice Ao38 t277.length co38 : Value).ownBlock) ∧ some k_ ≠ (.slice Ao135 t298.length co135 : Value).ownBlock) ∧ some k_ ≠ (.slice Ao143 t303.length co143 : Value).ownBlock)) (n := t263.length) (c := co24) ?_).2.2; exact (by (with_reducible repeat (first | apply Kd.R_alloc | apply Kd.R_drewN | apply Kd.R_drew)); exact (Kd.R_mono (Kd.R_far (p := ⟨gb308, 2, none⟩) (Kd.R_far (p := ⟨gb308, 1, none⟩) (Kd.R_far (p := ⟨gb308, 0, none⟩) (Kd.R_types HO_269002.out BK308.out (by decide)) (fun _ hk => hk.2) (.int .i64 t301)) (fun _ hk => hk.2) (.int .i64 t302)) (fun _ hk => hk.2) (.slice Ao143 t303.length co143)) (fun _ h_ => h_.1)))); (case side4 => exact (Kd.R_reads' HO_269002.out).2.1); rintro e w156 ⟨rfl, hb⟩; refine ⟨_, rfl, ?_⟩; have n0_ := Aside0.mk (Kd.R_below (by (with_reducible repeat (first | apply Kd.R_alloc | apply Kd.R_drewN | apply Kd.R_drew)); exact (Kd.R_mono (Kd.R_far (p := ⟨gb308, 2, none⟩) (Kd.R_far (p := ⟨gb308, 1, none⟩) (Kd.R_far (p := ⟨gb308, 0, none⟩) (Kd.R_types HO_269002.out BK308.out (by decide)) (fun _ hk => hk.2) (.int .i64 t301)) (fun _ hk => hk.2) (.int .i64 t302)) (fun _ hk => hk.2) (.slice Ao143 t303.length co143)) (fun _ h_ => h_.1))) hb); have n1_ := Aside0.mk (Kd.R_below (by (with_reducible repeat (first | apply Kd.R_alloc | apply Kd.R_drewN | apply Kd.R_drew)); exact (Kd.R_mono (Kd.R_far (p := ⟨gb308, 2, none⟩) (Kd.R_far (p := ⟨gb308, 1, none⟩) (Kd.R_far (p := ⟨gb308, 0, none⟩) (Kd.R_types HO_275002.out BK308.out (by decide)) (fun _ hk => hk.2) (.int .i64 t301)) (fun _ hk => hk.2) (.int .i64 t302)) (fun _ hk => hk.2) (.slice Ao143 t303.length co143)) (fun _ h_ => h_.1))) hb); have n2_ := Aside0.mk (Kd.R_below (by (with_reducible repeat (first | apply Kd.R_alloc | apply Kd.R_drewN | apply Kd.R_drew)); exact (Kd.R_mono (Kd.R_far (p := ⟨gb308, 2, none⟩) (Kd.R_far (p := ⟨gb308, 1, none⟩) (Kd.R_far (p := ⟨gb308, 0, none⟩) (Kd.R_types HO_283002.out BK308.out (by decide)) (fun _ hk => hk.2) (.int .i64 t301)) (fun _ hk => hk.2) (.int .i64 t302)) (fun _ hk => hk.2) (.slice Ao143 t303.length co143)) (fun _ h_ => h_.1))) hb); have n3_ := Aside0.mk (Kd.R_below (by (with_reducible repeat (first | apply Kd.R_alloc | apply Kd.R_drewN | apply Kd.R_drew)); exact (Kd.R_mono (Kd.R_far (p := ⟨gb308, 2, none⟩) (Kd.R_far (p := ⟨gb308, 1, none⟩) (Kd.R_far (p := ⟨gb308, 0, none⟩) (Kd.R_types HO300.out BK308.out (by decide)) (fun _ hk => hk.2) (.int .i64 t301)) (fun _ hk => hk.2) (.int .i64 t302)) (fun _ hk => hk.2) (.slice Ao143 t303.length co143)) (fun _ h_ => h_.1))) hb); have n4_ := Aside0.mk (Kd.R_below (by (with_reducible repeat (first | apply Kd.R_alloc | apply Kd.R_drewN | apply Kd.R_drew)); exact (Kd.R_mono (Kd.R_far (p := ⟨gb308, 2, none⟩) (Kd.R_far (p := ⟨gb308, 1, none⟩) (Kd.R_far (p := ⟨gb308, 0, none⟩) (Kd.R_types HO305.out BK308.out (by decide)) (fun _ hk => hk.2) (.int .i64 t301)) (fun _ hk => hk.2) (.int .i64 t302)) (fun _ hk => hk.2) (.slice Ao143 t303.length co143)) (fun _ h_ => h_.1))) hb); have n5_ := Aside0.mk (blk_below (g := gb254) (o := .cells #[.int .i64 a0_0, .int .i64 a0_1, .slice A0_2 l0_2.length c0_2] 24 (0, 0)) (by (with_reducible repeat (first | refine blk_drewN ?_ _ | refine blk_drew ?_ | refine blk_alloc ?_ _)); refine blk_far ?_ NB254_308.out _; (with_reducible repeat (first | refine blk_drewN ?_ _ | refine blk_drew ?_ | refine blk_alloc ?_ _)); refine blk_far ?_ NB254_308.out _; (with_reducible repeat (first | refine blk_drewN ?_ _ | refine blk_drew ?_ | refine blk_alloc ?_ _)); refine blk_far ?_ NB254_308.out _; (with_reducible repeat (first | refine blk_drewN ?_ _ | refine blk_drew ?_ | refine blk_alloc ?_ _)); exact BK254.out) hb); have n6_ := Aside0.mk (blk_below (g := gb268) (o := .cells #[.int .i64 t261, .int .i64 t262, .slice Ao24 t263.length co24] 28 (0, 0)) (by (with_reducible repeat (first | refine blk_drewN ?_ _ | refine blk_drew ?_ | refine blk_alloc ?_ _)); refine blk_far ?_ NB268_308.out _; (with_reducible repeat (first | refine blk_drewN ?_ _ | refine blk_drew ?_ | refine blk_alloc ?_ _)); refine blk_far ?_ NB268_308.out _; (with_reducible repeat (first | refine blk_drewN ?_ _ | refine blk_drew ?_ | refine blk_alloc ?_ _)); refine blk_far ?_ NB268_308.out _; (with_reducible repeat (first | refine blk_drewN ?_ _ | refine blk_drew ?_ | refine blk_alloc ?_ _)); exact BK268.out) hb); have n7_ := Aside0.mk (blk_below (g := gb274) (o := .cells #[.int .i64 t269, .int .i64 t270, .slice Ao31 t291.length co31] 28 (0, 0)) (by (with_reducible repeat (first | refine blk_drewN ?_ _ | refine blk_drew ?_ | refine blk_alloc ?_ _)); refine blk_far ?_ NB274_308.out _; (with_reducible repeat (first | refine blk_drewN ?_ _ | refine blk_drew ?_ | refine blk_alloc ?_ _)); refine blk_far ?_ NB274_308.out _; (with_reducible repeat (first | refine blk_drewN ?_ _ | refine blk_drew ?_ | refine blk_alloc ?_ _)); refine blk_far ?_ NB274_308.out _; (with_reducible repeat (first | refine blk_drewN ?_ _ | refine blk_drew ?_ | refine blk_alloc ?_ _)); exact BK274.out) hb); have n8_ := Aside0.mk (blk_below (g := gb282) (o := .cells #[.int .i64 t275, .int .i64 t276, .slice Ao38 t277.length co38] 28 (0, 0)) (by (with_reducible repeat (first | refine blk_drewN ?_ _ | refine blk_drew ?_ | refine blk_alloc ?_ _)); refine blk_far ?_ NB282_308.out _; (with_reducible repeat (first | refine blk_drewN ?_ _ | refine blk_drew ?_ | refine blk_alloc ?_ _)); refine blk_far ?_ NB282_308.out _; (with_reducible repeat (first | refine blk_drewN ?_ _ | refine blk_drew ?_ | refine blk_alloc ?_ _)); refine blk_far ?_ NB282_308.out _; (with_reducible repeat (first | refine blk_drewN ?_ _ | refine blk_drew ?_ | refine blk_alloc ?_ _)); exact BK282.out) hb); have n9_ := Aside0.mk (blk_below (g := gb308) (o := .cells #[.int .i64 t301, .int .i64 t302, .slice Ao143 t303.length co143] 28 (0, 0)) (by (with_reducible repeat (first | refine blk_drewN ?_ _ | refine blk_drew ?_ | refine blk_alloc ?_ _)); refine blk_put (cs := #[.int .i64 t301, .int .i64 t302, .slice none 0 0]) ?_ 2 _ rfl; (with_reducible repeat (first | refine blk_drewN ?_ _ | refine blk_drew ?_ | refine blk_alloc ?_ _)); refine blk_put (cs := #[.int .i64 t301, .int .i64 0, .slice none 0 0]) ?_ 1 _ rfl; (with_reducible repeat (first | refine blk_drewN ?_ _ | refine blk_drew ?_ | refine blk_alloc ?_ _)); refine blk_put (cs := #[.int .i64 0, .int .i64 0, .slice none 0 0]) ?_ 0 _ rfl; (with_reducible repeat (first | refine blk_drewN ?_ _ | refine blk_drew ?_ | refine blk_alloc ?_ _)); exact BK308.out) hb); have n10_ := Aside0.mk (below_step (by repeat (first | (with_reducible first | exact HB.out | apply below_alloc | apply pw_below_drewN | apply below_drew1 | refine below_set ?_ GE254.out | refine below_set ?_ GE268.out | refine below_set ?_ GE274.out | refine below_set ?_ GE282.out | refine below_set ?_ GE308.out) | exact HB.out)) hb); clear HO_269002; clear HO_275002; clear HO_283002; clear HO300; clear HO305; clear BK254; clear BK268; clear BK274; clear BK282; clear BK308; clear HB; have HO_269002 := n0_; have HO_275002 := n1_; have HO_283002 := n2_; have HO300 := n3_; have HO305 := n4_; have BK254 := n5_; have BK268 := n6_; have BK274 := n7_; have BK282 := n8_; have BK308 := n9_; have HB := n10_; clear n0_ n1_ n2_ n3_ n4_ n5_ n6_ n7_ n8_ n9_ n10_; (try clear hb); (try clear hb2); (try clear hk); (try clear hi)))
                            go_meet
                            case rel => exact ⟨_, ((t307 != t267)), (by first | rfl | (simp; done) | (simp [i64_w, i32_w]; done) | (simp [*]; done) | (simp [*, i64_w, i32_w]; done)), H', ⟨by have := HJ12.out; have := HJ70.out; first | omega | exact Nat.le_refl _⟩, ⟨by (try simp only [hl275002_70]); (with_reducible repeat (first | apply Kd.R_alloc | apply Kd.R_drewN | apply Kd.R_drew)); exact Kd.R_mono HO_269002.out (fun _ hk => ⟨hk.1.1.1, ⟨hk.1.1.2, hk.2⟩⟩)⟩, ⟨by (try simp only [hl275002_70]); (with_reducible repeat (first | apply Kd.R_alloc | apply Kd.R_drewN | apply Kd.R_drew)); exact Kd.R_mono HO_275002.out (fun _ hk => ⟨hk.1.1.1, ⟨hk.1.1.2, hk.2⟩⟩)⟩, ⟨by (try simp only [hl275002_70]); (with_reducible repeat (first | apply Kd.R_alloc | apply Kd.R_drewN | apply Kd.R_drew)); exact Kd.R_mono HO_283002.out (fun _ hk => ⟨hk.1.1.1, ⟨hk.1.1.2, hk.2⟩⟩)⟩, ⟨by (try simp only [hl275002_70]); (with_reducible repeat (first | apply Kd.R_alloc | apply Kd.R_drewN | apply Kd.R_drew)); exact Kd.R_mono HO305.out (fun _ hk => ⟨hk.1.1.1.2, ⟨hk.1.1.2, hk.1.2⟩⟩)⟩, ⟨by (try simp only [hl275002_70]); (with_reducible repeat (first | refine blk_drewN ?_ _ | refine blk_drew ?_ | refine blk_alloc ?_ _)); exact BK254.out⟩, ⟨by (try simp only [hl275002_70]); (with_reducible repeat (first | refine blk_drewN ?_ _ | refine blk_drew ?_ | refine blk_alloc ?_ _)); exact BK268.out⟩, ⟨by (try simp only [hl275002_70]); (with_reducible repeat (first | refine blk_drewN ?_ _ | refine blk_drew ?_ | refine blk_alloc ?_ _)); exact BK274.out⟩, ⟨by (try simp only [hl275002_70]); (with_reducible repeat (first | refine blk_drewN ?_ _ | refine blk_drew ?_ | refine blk_alloc ?_ _)); exact BK282.out⟩, ⟨by (try simp only [hl275002_70]); (with_reducible repeat (first | refine blk_drewN ?_ _ | refine blk_drew ?_ | refine blk_alloc ?_ _)); exact BK308.out⟩, ⟨by repeat (first | (with_reducible first | exact HB.out | apply below_alloc | apply pw_below_drewN | apply below_drew1 | refine below_set ?_ GE254.out | refine below_set ?_ GE268.out | refine below_set ?_ GE274.out | refine below_set ?_ GE282.out | refine below_set ?_ GE308.out) | exact HB.out)⟩⟩
                          · rw [if_neg c146] at H
                            have c146b0 : (t306 == t266) = false := beq_eq_false_iff_ne.mpr c146
                            have c146b1 : (t306 != t266) = true := bne_iff_ne.mpr c146
                            (first | rw [c146b0] | (simp only [i64_w, i32_w]; rw [c146b0]) | skip)
                            have H' := Aside0.mk H
                            clear H
                            have hnb157 := NB308_254.out
                            have hnc157 := NB254_308.out
                            have hnb158 := NB308_268.out
                            have hnc158 := NB268_308.out
                            have hnb159 := NB308_274.out
                            have hnc159 := NB274_308.out
                            have hnb160 := NB308_282.out
                            have hnc160 := NB282_308.out
                            have hcz161_0 : w137.cell? ⟨gb308, 0, none⟩ = some (.int .i64 0) := (blk_cell BK308.out 0).trans rfl
                            have hcz161_1 : w137.cell? ⟨gb308, 1, none⟩ = some (.int .i64 0) := (blk_cell BK308.out 1).trans rfl
                            have hcz161_2 : w137.cell? ⟨gb308, 2, none⟩ = some (.slice none 0 0) := (blk_cell BK308.out 2).trans rfl
                            have hfz161_0 := blk_frozen BK308.out 0
                            have hfz161_1 := blk_frozen BK308.out 1
                            have hfz161_2 := blk_frozen BK308.out 2
                            have hnb162 := NB268_254.out
                            have hnc162 := NB254_268.out
                            have hnb163 := NB268_274.out
                            have hnc163 := NB274_268.out
                            have hnb164 := NB268_282.out
                            have hnc164 := NB282_268.out
                            have hcz165_0 : w137.cell? ⟨gb268, 0, none⟩ = some (.int .i64 t261) := (blk_cell BK268.out 0).trans rfl
                            have hcz165_1 : w137.cell? ⟨gb268, 1, none⟩ = some (.int .i64 t262) := (blk_cell BK268.out 1).trans rfl
                            have hcz165_2 : w137.cell? ⟨gb268, 2, none⟩ = some (.slice Ao24 t263.length co24) := (blk_cell BK268.out 2).trans rfl
                            have hfz165_0 := blk_frozen BK268.out 0
                            have hfz165_1 := blk_frozen BK268.out 1
                            have hfz165_2 := blk_frozen BK268.out 2
                            go_wp2_with (first | ((with_reducible refine gate_callee (f := 20) rfl ?_); refine goesL_ (some 107) rfl rfl Try.func20 (by kernel_rfl) rfl #[.agg #[.int .i64 t301, .int .i64 t302, .slice Ao143 t303.length co143], .agg #[.int .i64 t261, .int .i64 t262, .slice Ao24 t263.length co24]] rfl (by (try simp only [List.map_toArray, List.map_cons, List.map_nil]); first | done | rfl | (simp only [List.length_drop, List.length_take]; rfl)) ?_; (with_reducible refine (laws_eqField.calls kj70 t301 t302 _ _ t303 t261 t262 _ _ t263 true _ ?side1 ?side2 ?side3 ?side4 A144.out).mono ?_); (case side1 => refine (Kd.R_reads' (e := 2) (base := w.heap.size) (ok := fun k_ => ((((True ∧ some k_ ≠ (.slice Ao24 t263.length co24 : Value).ownBlock) ∧ some k_ ≠ (.slice Ao31 t291.length co31 : Value).ownBlock) ∧ some k_ ≠ (.slice Ao38 t277.length co38 : Value).ownBlock) ∧ some k_ ≠ (.slice Ao135 t298.length co135 : Value).ownBlock)) (n := t303.length) (c := co143) ?_).2.2; exact (by (with_reducible repeat (first | apply Kd.R_alloc | apply Kd.R_drewN | apply Kd.R_drew)); exact (Kd.R_mono (Kd.R_far (p := ⟨gb308, 2, none⟩) (Kd.R_far (p := ⟨gb308, 1, none⟩) (Kd.R_far (p := ⟨gb308, 0, none⟩) (Kd.R_types HO305.out BK308.out (by decide)) (fun _ hk => hk.2) (.int .i64 t301)) (fun _ hk => hk.2) (.int .i64 t302)) (fun _ hk => hk.2) (.slice Ao143 t303.length co143)) (fun _ h_ => h_.1)))); (case side2 => exact (Kd.R_reads' HO305.out).2.1); (case side3 => refine (Kd.R_reads' (e := 2) (base := w.heap.size) (ok := fun k_ => (((some k_ ≠ (.slice Ao31 t291.length co31 : Value).ownBlock ∧ some k_ ≠ (.slice Ao38 t277.length co38 : Value).ownBlock) ∧ some k_ ≠ (.slice Ao135 t298.length co135 : Value).ownBlock) ∧ some k_ ≠ (.slice Ao143 t303.length co143 : Value).ownBlock)) (n := t263.length) (c := co24) ?_).2.2; exact (by (with_reducible repeat (first | apply Kd.R_alloc | apply Kd.R_drewN | apply Kd.R_drew)); exact (Kd.R_mono (Kd.R_far (p := ⟨gb308, 2, none⟩) (Kd.R_far (p := ⟨gb308, 1, none⟩) (Kd.R_far (p := ⟨gb308, 0, none⟩) (Kd.R_types HO_269002.out BK308.out (by decide)) (fun _ hk => hk.2) (.int .i64 t301)) (fun _ hk => hk.2) (.int .i64 t302)) (fun _ hk => hk.2) (.slice Ao143 t303.length co143)) (fun _ h_ => h_.1)))); (case side4 => exact (Kd.R_reads' HO_269002.out).2.1); rintro e w166 ⟨rfl, hb⟩; refine ⟨_, rfl, ?_⟩; have n0_ := Aside0.mk (Kd.R_below (by (with_reducible repeat (first | apply Kd.R_alloc | apply Kd.R_drewN | apply Kd.R_drew)); exact (Kd.R_mono (Kd.R_far (p := ⟨gb308, 2, none⟩) (Kd.R_far (p := ⟨gb308, 1, none⟩) (Kd.R_far (p := ⟨gb308, 0, none⟩) (Kd.R_types HO_269002.out BK308.out (by decide)) (fun _ hk => hk.2) (.int .i64 t301)) (fun _ hk => hk.2) (.int .i64 t302)) (fun _ hk => hk.2) (.slice Ao143 t303.length co143)) (fun _ h_ => h_.1))) hb); have n1_ := Aside0.mk (Kd.R_below (by (with_reducible repeat (first | apply Kd.R_alloc | apply Kd.R_drewN | apply Kd.R_drew)); exact (Kd.R_mono (Kd.R_far (p := ⟨gb308, 2, none⟩) (Kd.R_far (p := ⟨gb308, 1, none⟩) (Kd.R_far (p := ⟨gb308, 0, none⟩) (Kd.R_types HO_275002.out BK308.out (by decide)) (fun _ hk => hk.2) (.int .i64 t301)) (fun _ hk => hk.2) (.int .i64 t302)) (fun _ hk => hk.2) (.slice Ao143 t303.length co143)) (fun _ h_ => h_.1))) hb); have n2_ := Aside0.mk (Kd.R_below (by (with_reducible repeat (first | apply Kd.R_alloc | apply Kd.R_drewN | apply Kd.R_drew)); exact (Kd.R_mono (Kd.R_far (p := ⟨gb308, 2, none⟩) (Kd.R_far (p := ⟨gb308, 1, none⟩) (Kd.R_far (p := ⟨gb308, 0, none⟩) (Kd.R_types HO_283002.out BK308.out (by decide)) (fun _ hk => hk.2) (.int .i64 t301)) (fun _ hk => hk.2) (.int .i64 t302)) (fun _ hk => hk.2) (.slice Ao143 t303.length co143)) (fun _ h_ => h_.1))) hb); have n3_ := Aside0.mk (Kd.R_below (by (with_reducible repeat (first | apply Kd.R_alloc | apply Kd.R_drewN | apply Kd.R_drew)); exact (Kd.R_mono (Kd.R_far (p := ⟨gb308, 2, none⟩) (Kd.R_far (p := ⟨gb308, 1, none⟩) (Kd.R_far (p := ⟨gb308, 0, none⟩) (Kd.R_types HO300.out BK308.out (by decide)) (fun _ hk => hk.2) (.int .i64 t301)) (fun _ hk => hk.2) (.int .i64 t302)) (fun _ hk => hk.2) (.slice Ao143 t303.length co143)) (fun _ h_ => h_.1))) hb); have n4_ := Aside0.mk (Kd.R_below (by (with_reducible repeat (first | apply Kd.R_alloc | apply Kd.R_drewN | apply Kd.R_drew)); exact (Kd.R_mono (Kd.R_far (p := ⟨gb308, 2, none⟩) (Kd.R_far (p := ⟨gb308, 1, none⟩) (Kd.R_far (p := ⟨gb308, 0, none⟩) (Kd.R_types HO305.out BK308.out (by decide)) (fun _ hk => hk.2) (.int .i64 t301)) (fun _ hk => hk.2) (.int .i64 t302)) (fun _ hk => hk.2) (.slice Ao143 t303.length co143)) (fun _ h_ => h_.1))) hb); have n5_ := Aside0.mk (blk_below (g := gb254) (o := .cells #[.int .i64 a0_0, .int .i64 a0_1, .slice A0_2 l0_2.length c0_2] 24 (0, 0)) (by (with_reducible repeat (first | refine blk_drewN ?_ _ | refine blk_drew ?_ | refine blk_alloc ?_ _)); refine blk_far ?_ NB254_308.out _; (with_reducible repeat (first | refine blk_drewN ?_ _ | refine blk_drew ?_ | refine blk_alloc ?_ _)); refine blk_far ?_ NB254_308.out _; (with_reducible repeat (first | refine blk_drewN ?_ _ | refine blk_drew ?_ | refine blk_alloc ?_ _)); refine blk_far ?_ NB254_308.out _; (with_reducible repeat (first | refine blk_drewN ?_ _ | refine blk_drew ?_ | refine blk_alloc ?_ _)); exact BK254.out) hb); have n6_ := Aside0.mk (blk_below (g := gb268) (o := .cells #[.int .i64 t261, .int .i64 t262, .slice Ao24 t263.length co24] 28 (0, 0)) (by (with_reducible repeat (first | refine blk_drewN ?_ _ | refine blk_drew ?_ | refine blk_alloc ?_ _)); refine blk_far ?_ NB268_308.out _; (with_reducible repeat (first | refine blk_drewN ?_ _ | refine blk_drew ?_ | refine blk_alloc ?_ _)); refine blk_far ?_ NB268_308.out _; (with_reducible repeat (first | refine blk_drewN ?_ _ | refine blk_drew ?_ | refine blk_alloc ?_ _)); refine blk_far ?_ NB268_308.out _; (with_reducible repeat (first | refine blk_drewN ?_ _ | refine blk_drew ?_ | refine blk_alloc ?_ _)); exact BK268.out) hb); have n7_ := Aside0.mk (blk_below (g := gb274) (o := .cells #[.int .i64 t269, .int .i64 t270, .slice Ao31 t291.length co31] 28 (0, 0)) (by (with_reducible repeat (first | refine blk_drewN ?_ _ | refine blk_drew ?_ | refine blk_alloc ?_ _)); refine blk_far ?_ NB274_308.out _; (with_reducible repeat (first | refine blk_drewN ?_ _ | refine blk_drew ?_ | refine blk_alloc ?_ _)); refine blk_far ?_ NB274_308.out _; (with_reducible repeat (first | refine blk_drewN ?_ _ | refine blk_drew ?_ | refine blk_alloc ?_ _)); refine blk_far ?_ NB274_308.out _; (with_reducible repeat (first | refine blk_drewN ?_ _ | refine blk_drew ?_ | refine blk_alloc ?_ _)); exact BK274.out) hb); have n8_ := Aside0.mk (blk_below (g := gb282) (o := .cells #[.int .i64 t275, .int .i64 t276, .slice Ao38 t277.length co38] 28 (0, 0)) (by (with_reducible repeat (first | refine blk_drewN ?_ _ | refine blk_drew ?_ | refine blk_alloc ?_ _)); refine blk_far ?_ NB282_308.out _; (with_reducible repeat (first | refine blk_drewN ?_ _ | refine blk_drew ?_ | refine blk_alloc ?_ _)); refine blk_far ?_ NB282_308.out _; (with_reducible repeat (first | refine blk_drewN ?_ _ | refine blk_drew ?_ | refine blk_alloc ?_ _)); refine blk_far ?_ NB282_308.out _; (with_reducible repeat (first | refine blk_drewN ?_ _ | refine blk_drew ?_ | refine blk_alloc ?_ _)); exact BK282.out) hb); have n9_ := Aside0.mk (blk_below (g := gb308) (o := .cells #[.int .i64 t301, .int .i64 t302, .slice Ao143 t303.length co143] 28 (0, 0)) (by (with_reducible repeat (first | refine blk_drewN ?_ _ | refine blk_drew ?_ | refine blk_alloc ?_ _)); refine blk_put (cs := #[.int .i64 t301, .int .i64 t302, .slice none 0 0]) ?_ 2 _ rfl; (with_reducible repeat (first | refine blk_drewN ?_ _ | refine blk_drew ?_ | refine blk_alloc ?_ _)); refine blk_put (cs := #[.int .i64 t301, .int .i64 0, .slice none 0 0]) ?_ 1 _ rfl; (with_reducible repeat (first | refine blk_drewN ?_ _ | refine blk_drew ?_ | refine blk_alloc ?_ _)); refine blk_put (cs := #[.int .i64 0, .int .i64 0, .slice none 0 0]) ?_ 0 _ rfl; (with_reducible repeat (first | refine blk_drewN ?_ _ | refine blk_drew ?_ | refine blk_alloc ?_ _)); exact BK308.out) hb); have n10_ := Aside0.mk (below_step (by repeat (first | (with_reducible first | exact HB.out | apply below_alloc | apply pw_below_drewN | apply below_drew1 | refine below_set ?_ GE254.out | refine below_set ?_ GE268.out | refine below_set ?_ GE274.out | refine below_set ?_ GE282.out | refine below_set ?_ GE308.out) | exact HB.out)) hb); clear HO_269002; clear HO_275002; clear HO_283002; clear HO300; clear HO305; clear BK254; clear BK268; clear BK274; clear BK282; clear BK308; clear HB; have HO_269002 := n0_; have HO_275002 := n1_; have HO_283002 := n2_; have HO300 := n3_; have HO305 := n4_; have BK254 := n5_; have BK268 := n6_; have BK274 := n7_; have BK282 := n8_; have BK308 := n9_; have HB := n10_; clear n0_ n1_ n2_ n3_ n4_ n5_ n6_ n7_ n8_ n9_ n10_; (try clear hb); (try clear hb2); (try clear hk); (try clear hi)))
                            go_meet
                            case rel => exact ⟨_, (true), (by first | rfl | (simp; done) | (simp [i64_w, i32_w]; done) | (simp [*]; done) | (simp [*, i64_w, i32_w]; done)), H', ⟨by have := HJ12.out; have := HJ70.out; first | omega | exact Nat.le_refl _⟩, ⟨by (try simp only [hl275002_70]); (with_reducible repeat (first | apply Kd.R_alloc | apply Kd.R_drewN | apply Kd.R_drew)); exact Kd.R_mono HO_269002.out (fun _ hk => ⟨hk.1.1.1, ⟨hk.1.1.2, hk.2⟩⟩)⟩, ⟨by (try simp only [hl275002_70]); (with_reducible repeat (first | apply Kd.R_alloc | apply Kd.R_drewN | apply Kd.R_drew)); exact Kd.R_mono HO_275002.out (fun _ hk => ⟨hk.1.1.1, ⟨hk.1.1.2, hk.2⟩⟩)⟩, ⟨by (try simp only [hl275002_70]); (with_reducible repeat (first | apply Kd.R_alloc | apply Kd.R_drewN | apply Kd.R_drew)); exact Kd.R_mono HO_283002.out (fun _ hk => ⟨hk.1.1.1, ⟨hk.1.1.2, hk.2⟩⟩)⟩, ⟨by (try simp only [hl275002_70]); (with_reducible repeat (first | apply Kd.R_alloc | apply Kd.R_drewN | apply Kd.R_drew)); exact Kd.R_mono HO305.out (fun _ hk => ⟨hk.1.1.1.2, ⟨hk.1.1.2, hk.1.2⟩⟩)⟩, ⟨by (try simp only [hl275002_70]); (with_reducible repeat (first | refine blk_drewN ?_ _ | refine blk_drew ?_ | refine blk_alloc ?_ _)); exact BK254.out⟩, ⟨by (try simp only [hl275002_70]); (with_reducible repeat (first | refine blk_drewN ?_ _ | refine blk_drew ?_ | refine blk_alloc ?_ _)); exact BK268.out⟩, ⟨by (try simp only [hl275002_70]); (with_reducible repeat (first | refine blk_drewN ?_ _ | refine blk_drew ?_ | refine blk_alloc ?_ _)); exact BK274.out⟩, ⟨by (try simp only [hl275002_70]); (with_reducible repeat (first | refine blk_drewN ?_ _ | refine blk_drew ?_ | refine blk_alloc ?_ _)); exact BK282.out⟩, ⟨by (try simp only [hl275002_70]); (with_reducible repeat (first | refine blk_drewN ?_ _ | refine blk_drew ?_ | refine blk_alloc ?_ _)); exact BK308.out⟩, ⟨by repeat (first | (with_reducible first | exact HB.out | apply below_alloc | apply pw_below_drewN | apply below_drew1 | refine below_set ?_ GE254.out | refine below_set ?_ GE268.out | refine below_set ?_ GE274.out | refine below_set ?_ GE282.out | refine below_set ?_ GE308.out) | exact HB.out)⟩⟩
                        · replace c145 := Bool.eq_false_iff.mpr c145
                          subst c145
                          have H1 : (laws_FnExactVoteRun.j2 kj70 t293 true t275 t276 t294) = some r := by rw [if_neg (show ¬ (false = true) by decide)] at H; exact H
                          clear H
                          have H := H1
                          clear H1
                          have H' := Aside0.mk H
                          clear H
                          have hnb167 := NB308_254.out
                          have hnc167 := NB254_308.out
                          have hnb168 := NB308_268.out
                          have hnc168 := NB268_308.out
                          have hnb169 := NB308_274.out
                          have hnc169 := NB274_308.out
                          have hnb170 := NB308_282.out
                          have hnc170 := NB282_308.out
                          have hcz171_0 : w137.cell? ⟨gb308, 0, none⟩ = some (.int .i64 0) := (blk_cell BK308.out 0).trans rfl
                          have hcz171_1 : w137.cell? ⟨gb308, 1, none⟩ = some (.int .i64 0) := (blk_cell BK308.out 1).trans rfl
                          have hcz171_2 : w137.cell? ⟨gb308, 2, none⟩ = some (.slice none 0 0) := (blk_cell BK308.out 2).trans rfl
                          have hfz171_0 := blk_frozen BK308.out 0
                          have hfz171_1 := blk_frozen BK308.out 1
                          have hfz171_2 := blk_frozen BK308.out 2
                          have hnb172 := NB268_254.out
                          have hnc172 := NB254_268.out
                          have hnb173 := NB268_274.out
                          have hnc173 := NB274_268.out
                          have hnb174 := NB268_282.out
                          have hnc174 := NB282_268.out
                          have hcz175_0 : w137.cell? ⟨gb268, 0, none⟩ = some (.int .i64 t261) := (blk_cell BK268.out 0).trans rfl
                          have hcz175_1 : w137.cell? ⟨gb268, 1, none⟩ = some (.int .i64 t262) := (blk_cell BK268.out 1).trans rfl
                          have hcz175_2 : w137.cell? ⟨gb268, 2, none⟩ = some (.slice Ao24 t263.length co24) := (blk_cell BK268.out 2).trans rfl
                          have hfz175_0 := blk_frozen BK268.out 0
                          have hfz175_1 := blk_frozen BK268.out 1
                          have hfz175_2 := blk_frozen BK268.out 2
                          go_wp2_with (first | ((with_reducible refine gate_callee (f := 20) rfl ?_); refine goesL_ (some 107) rfl rfl Try.func20 (by kernel_rfl) rfl #[.agg #[.int .i64 t301, .int .i64 t302, .slice Ao143 t303.length co143], .agg #[.int .i64 t261, .int .i64 t262, .slice Ao24 t263.length co24]] rfl (by (try simp only [List.map_toArray, List.map_cons, List.map_nil]); first | done | rfl | (simp only [List.length_drop, List.length_take]; rfl)) ?_; (with_reducible refine (laws_eqField.calls kj70 t301 t302 _ _ t303 t261 t262 _ _ t263 false _ ?side1 ?side2 ?side3 ?side4 A144.out).mono ?_); (case side1 => refine (Kd.R_reads' (e := 2) (base := w.heap.size) (ok := fun k_ => ((((True ∧ some k_ ≠ (.slice Ao24 t263.length co24 : Value).ownBlock) ∧ some k_ ≠ (.slice Ao31 t291.length co31 : Value).ownBlock) ∧ some k_ ≠ (.slice Ao38 t277.length co38 : Value).ownBlock) ∧ some k_ ≠ (.slice Ao135 t298.length co135 : Value).ownBlock)) (n := t303.length) (c := co143) ?_).2.2; exact (by (with_reducible repeat (first | apply Kd.R_alloc | apply Kd.R_drewN | apply Kd.R_drew)); exact (Kd.R_mono (Kd.R_far (p := ⟨gb308, 2, none⟩) (Kd.R_far (p := ⟨gb308, 1, none⟩) (Kd.R_far (p := ⟨gb308, 0, none⟩) (Kd.R_types HO305.out BK308.out (by decide)) (fun _ hk => hk.2) (.int .i64 t301)) (fun _ hk => hk.2) (.int .i64 t302)) (fun _ hk => hk.2) (.slice Ao143 t303.length co143)) (fun _ h_ => h_.1)))); (case side2 => exact (Kd.R_reads' HO305.out).2.1); (case side3 => refine (Kd.R_reads' (e := 2) (base := w.heap.size) (ok := fun k_ => (((some k_ ≠ (.slice Ao31 t291.length co31 : Value).ownBlock ∧ some k_ ≠ (.slice Ao38 t277.length co38 : Value).ownBlock) ∧ some k_ ≠ (.slice Ao135 t298.length co135 : Value).ownBlock) ∧ some k_ ≠ (.slice Ao143 t303.length co143 : Value).ownBlock)) (n := t263.length) (c := co24) ?_).2.2; exact (by (with_reducible repeat (first | apply Kd.R_alloc | apply Kd.R_drewN | apply Kd.R_drew)); exact (Kd.R_mono (Kd.R_far (p := ⟨gb308, 2, none⟩) (Kd.R_far (p := ⟨gb308, 1, none⟩) (Kd.R_far (p := ⟨gb308, 0, none⟩) (Kd.R_types HO_269002.out BK308.out (by decide)) (fun _ hk => hk.2) (.int .i64 t301)) (fun _ hk => hk.2) (.int .i64 t302)) (fun _ hk => hk.2) (.slice Ao143 t303.length co143)) (fun _ h_ => h_.1)))); (case side4 => exact (Kd.R_reads' HO_269002.out).2.1); rintro e w176 ⟨rfl, hb⟩; refine ⟨_, rfl, ?_⟩; have n0_ := Aside0.mk (Kd.R_below (by (with_reducible repeat (first | apply Kd.R_alloc | apply Kd.R_drewN | apply Kd.R_drew)); exact (Kd.R_mono (Kd.R_far (p := ⟨gb308, 2, none⟩) (Kd.R_far (p := ⟨gb308, 1, none⟩) (Kd.R_far (p := ⟨gb308, 0, none⟩) (Kd.R_types HO_269002.out BK308.out (by decide)) (fun _ hk => hk.2) (.int .i64 t301)) (fun _ hk => hk.2) (.int .i64 t302)) (fun _ hk => hk.2) (.slice Ao143 t303.length co143)) (fun _ h_ => h_.1))) hb); have n1_ := Aside0.mk (Kd.R_below (by (with_reducible repeat (first | apply Kd.R_alloc | apply Kd.R_drewN | apply Kd.R_drew)); exact (Kd.R_mono (Kd.R_far (p := ⟨gb308, 2, none⟩) (Kd.R_far (p := ⟨gb308, 1, none⟩) (Kd.R_far (p := ⟨gb308, 0, none⟩) (Kd.R_types HO_275002.out BK308.out (by decide)) (fun _ hk => hk.2) (.int .i64 t301)) (fun _ hk => hk.2) (.int .i64 t302)) (fun _ hk => hk.2) (.slice Ao143 t303.length co143)) (fun _ h_ => h_.1))) hb); have n2_ := Aside0.mk (Kd.R_below (by (with_reducible repeat (first | apply Kd.R_alloc | apply Kd.R_drewN | apply Kd.R_drew)); exact (Kd.R_mono (Kd.R_far (p := ⟨gb308, 2, none⟩) (Kd.R_far (p := ⟨gb308, 1, none⟩) (Kd.R_far (p := ⟨gb308, 0, none⟩) (Kd.R_types HO_283002.out BK308.out (by decide)) (fun _ hk => hk.2) (.int .i64 t301)) (fun _ hk => hk.2) (.int .i64 t302)) (fun _ hk => hk.2) (.slice Ao143 t303.length co143)) (fun _ h_ => h_.1))) hb); have n3_ := Aside0.mk (Kd.R_below (by (with_reducible repeat (first | apply Kd.R_alloc | apply Kd.R_drewN | apply Kd.R_drew)); exact (Kd.R_mono (Kd.R_far (p := ⟨gb308, 2, none⟩) (Kd.R_far (p := ⟨gb308, 1, none⟩) (Kd.R_far (p := ⟨gb308, 0, none⟩) (Kd.R_types HO300.out BK308.out (by decide)) (fun _ hk => hk.2) (.int .i64 t301)) (fun _ hk => hk.2) (.int .i64 t302)) (fun _ hk => hk.2) (.slice Ao143 t303.length co143)) (fun _ h_ => h_.1))) hb); have n4_ := Aside0.mk (Kd.R_below (by (with_reducible repeat (first | apply Kd.R_alloc | apply Kd.R_drewN | apply Kd.R_drew)); exact (Kd.R_mono (Kd.R_far (p := ⟨gb308, 2, none⟩) (Kd.R_far (p := ⟨gb308, 1, none⟩) (Kd.R_far (p := ⟨gb308, 0, none⟩) (Kd.R_types HO305.out BK308.out (by decide)) (fun _ hk => hk.2) (.int .i64 t301)) (fun _ hk => hk.2) (.int .i64 t302)) (fun _ hk => hk.2) (.slice Ao143 t303.length co143)) (fun _ h_ => h_.1))) hb); have n5_ := Aside0.mk (blk_below (g := gb254) (o := .cells #[.int .i64 a0_0, .int .i64 a0_1, .slice A0_2 l0_2.length c0_2] 24 (0, 0)) (by (with_reducible repeat (first | refine blk_drewN ?_ _ | refine blk_drew ?_ | refine blk_alloc ?_ _)); refine blk_far ?_ NB254_308.out _; (with_reducible repeat (first | refine blk_drewN ?_ _ | refine blk_drew ?_ | refine blk_alloc ?_ _)); refine blk_far ?_ NB254_308.out _; (with_reducible repeat (first | refine blk_drewN ?_ _ | refine blk_drew ?_ | refine blk_alloc ?_ _)); refine blk_far ?_ NB254_308.out _; (with_reducible repeat (first | refine blk_drewN ?_ _ | refine blk_drew ?_ | refine blk_alloc ?_ _)); exact BK254.out) hb); have n6_ := Aside0.mk (blk_below (g := gb268) (o := .cells #[.int .i64 t261, .int .i64 t262, .slice Ao24 t263.length co24] 28 (0, 0)) (by (with_reducible repeat (first | refine blk_drewN ?_ _ | refine blk_drew ?_ | refine blk_alloc ?_ _)); refine blk_far ?_ NB268_308.out _; (with_reducible repeat (first | refine blk_drewN ?_ _ | refine blk_drew ?_ | refine blk_alloc ?_ _)); refine blk_far ?_ NB268_308.out _; (with_reducible repeat (first | refine blk_drewN ?_ _ | refine blk_drew ?_ | refine blk_alloc ?_ _)); refine blk_far ?_ NB268_308.out _; (with_reducible repeat (first | refine blk_drewN ?_ _ | refine blk_drew ?_ | refine blk_alloc ?_ _)); exact BK268.out) hb); have n7_ := Aside0.mk (blk_below (g := gb274) (o := .cells #[.int .i64 t269, .int .i64 t270, .slice Ao31 t291.length co31] 28 (0, 0)) (by (with_reducible repeat (first | refine blk_drewN ?_ _ | refine blk_drew ?_ | refine blk_alloc ?_ _)); refine blk_far ?_ NB274_308.out _; (with_reducible repeat (first | refine blk_drewN ?_ _ | refine blk_drew ?_ | refine blk_alloc ?_ _)); refine blk_far ?_ NB274_308.out _; (with_reducible repeat (first | refine blk_drewN ?_ _ | refine blk_drew ?_ | refine blk_alloc ?_ _)); refine blk_far ?_ NB274_308.out _; (with_reducible repeat (first | refine blk_drewN ?_ _ | refine blk_drew ?_ | refine blk_alloc ?_ _)); exact BK274.out) hb); have n8_ := Aside0.mk (blk_below (g := gb282) (o := .cells #[.int .i64 t275, .int .i64 t276, .slice Ao38 t277.length co38] 28 (0, 0)) (by (with_reducible repeat (first | refine blk_drewN ?_ _ | refine blk_drew ?_ | refine blk_alloc ?_ _)); refine blk_far ?_ NB282_308.out _; (with_reducible repeat (first | refine blk_drewN ?_ _ | refine blk_drew ?_ | refine blk_alloc ?_ _)); refine blk_far ?_ NB282_308.out _; (with_reducible repeat (first | refine blk_drewN ?_ _ | refine blk_drew ?_ | refine blk_alloc ?_ _)); refine blk_far ?_ NB282_308.out _; (with_reducible repeat (first | refine blk_drewN ?_ _ | refine blk_drew ?_ | refine blk_alloc ?_ _)); exact BK282.out) hb); have n9_ := Aside0.mk (blk_below (g := gb308) (o := .cells #[.int .i64 t301, .int .i64 t302, .slice Ao143 t303.length co143] 28 (0, 0)) (by (with_reducible repeat (first | refine blk_drewN ?_ _ | refine blk_drew ?_ | refine blk_alloc ?_ _)); refine blk_put (cs := #[.int .i64 t301, .int .i64 t302, .slice none 0 0]) ?_ 2 _ rfl; (with_reducible repeat (first | refine blk_drewN ?_ _ | refine blk_drew ?_ | refine blk_alloc ?_ _)); refine blk_put (cs := #[.int .i64 t301, .int .i64 0, .slice none 0 0]) ?_ 1 _ rfl; (with_reducible repeat (first | refine blk_drewN ?_ _ | refine blk_drew ?_ | refine blk_alloc ?_ _)); refine blk_put (cs := #[.int .i64 0, .int .i64 0, .slice none 0 0]) ?_ 0 _ rfl; (with_reducible repeat (first | refine blk_drewN ?_ _ | refine blk_drew ?_ | refine blk_alloc ?_ _)); exact BK308.out) hb); have n10_ := Aside0.mk (below_step (by repeat (first | (with_reducible first | exact HB.out | apply below_alloc | apply pw_below_drewN | apply below_drew1 | refine below_set ?_ GE254.out | refine below_set ?_ GE268.out | refine below_set ?_ GE274.out | refine below_set ?_ GE282.out | refine below_set ?_ GE308.out) | exact HB.out)) hb); clear HO_269002; clear HO_275002; clear HO_283002; clear HO300; clear HO305; clear BK254; clear BK268; clear BK274; clear BK282; clear BK308; clear HB; have HO_269002 := n0_; have HO_275002 := n1_; have HO_283002 := n2_; have HO300 := n3_; have HO305 := n4_; have BK254 := n5_; have BK268 := n6_; have BK274 := n7_; have BK282 := n8_; have BK308 := n9_; have HB := n10_; clear n0_ n1_ n2_ n3_ n4_ n5_ n6_ n7_ n8_ n9_ n10_; (try clear hb); (try clear hb2); (try clear hk); (try clear hi)))
                          go_meet
                          case rel => exact ⟨_, (true), (by first | rfl | (simp; done) | (simp [i64_w, i32_w]; done) | (simp [*]; done) | (simp [*, i64_w, i32_w]; done)), H', ⟨by have := HJ12.out; have := HJ70.out; first | omega | exact Nat.le_refl _⟩, ⟨by (try simp only [hl275002_70]); (with_reducible repeat (first | apply Kd.R_alloc | apply Kd.R_drewN | apply Kd.R_drew)); exact Kd.R_mono HO_269002.out (fun _ hk => ⟨hk.1.1.1, ⟨hk.1.1.2, hk.2⟩⟩)⟩, ⟨by (try simp only [hl275002_70]); (with_reducible repeat (first | apply Kd.R_alloc | apply Kd.R_drewN | apply Kd.R_drew)); exact Kd.R_mono HO_275002.out (fun _ hk => ⟨hk.1.1.1, ⟨hk.1.1.2, hk.2⟩⟩)⟩, ⟨by (try simp only [hl275002_70]); (with_reducible repeat (first | apply Kd.R_alloc | apply Kd.R_drewN | apply Kd.R_drew)); exact Kd.R_mono HO_283002.out (fun _ hk => ⟨hk.1.1.1, ⟨hk.1.1.2, hk.2⟩⟩)⟩, ⟨by (try simp only [hl275002_70]); (with_reducible repeat (first | apply Kd.R_alloc | apply Kd.R_drewN | apply Kd.R_drew)); exact Kd.R_mono HO305.out (fun _ hk => ⟨hk.1.1.1.2, ⟨hk.1.1.2, hk.1.2⟩⟩)⟩, ⟨by (try simp only [hl275002_70]); (with_reducible repeat (first | refine blk_drewN ?_ _ | refine blk_drew ?_ | refine blk_alloc ?_ _)); exact BK254.out⟩, ⟨by (try simp only [hl275002_70]); (with_reducible repeat (first | refine blk_drewN ?_ _ | refine blk_drew ?_ | refine blk_alloc ?_ _)); exact BK268.out⟩, ⟨by (try simp only [hl275002_70]); (with_reducible repeat (first | refine blk_drewN ?_ _ | refine blk_drew ?_ | refine blk_alloc ?_ _)); exact BK274.out⟩, ⟨by (try simp only [hl275002_70]); (with_reducible repeat (first | refine blk_drewN ?_ _ | refine blk_drew ?_ | refine blk_alloc ?_ _)); exact BK282.out⟩, ⟨by (try simp only [hl275002_70]); (with_reducible repeat (first | refine blk_drewN ?_ _ | refine blk_drew ?_ | refine blk_alloc ?_ _)); exact BK308.out⟩, ⟨by repeat (first | (with_reducible first | exact HB.out | apply below_alloc | apply pw_below_drewN | apply below_drew1 | refine below_set ?_ GE254.out | refine below_set ?_ GE268.out | refine below_set ?_ GE274.out | refine below_set ?_ GE282.out | refine below_set ?_ GE308.out) | exact HB.out)⟩⟩
                      case rest =>
                        clear HC123
                        try clear c1
                        try clear c2
                        try clear p2
                        try clear c3
                        try clear c4
                        try clear c5
                        try clear c5b0
                        try clear c6
                        try clear c7
                        try clear c8
                        try clear c9
                        try clear c10
                        try clear c11
                        try clear c12
                        try clear c13
                        try clear c14
                        try clear c15
                        try clear c16
                        try clear c17
                        try clear c20
                        try clear c21
                        try clear c22
                        try clear c28
                        try clear c29
                        try clear c34
                        try clear c35
                        try clear c36
                        try clear c40
                        try clear c41
                        try clear c41b0
                        try clear c41b1
                        try clear c42
                        try clear c43
                        try clear c44
                        try clear c46
                        try clear c47
                        try clear c49
                        try clear c50
                        try clear c51
                        try clear c52
                        try clear c54
                        try clear c55
                        try clear c58
                        try clear c59
                        try clear c60
                        try clear c62
                        try clear c63
                        try clear c66
                        try clear c69
                        try clear c76
                        try clear c77
                        try clear c78
                        try clear c81
                        try clear c81b0
                        try clear c83
                        try clear c84
                        try clear c84b0
                        try clear c84b1
                        try clear c85
                        try clear c86
                        try clear c87
                        try clear c89
                        try clear c90
                        try clear c93
                        try clear c94
                        try clear c95
                        try clear c97
                        try clear c98
                        try clear c101
                        try clear c102
                        try clear c103
                        try clear c105
                        try clear c106
                        try clear c109
                        try clear c112
                        try clear c112b0
                        try clear c113
                        try clear c114
                        try clear c115
                        try clear c120
                        try clear c120b0
                        try clear c120b1
                        try clear c124
                        try clear c125
                        try clear c126
                        try clear c131
                        try clear c132
                        try clear c138
                        try clear c139
                        try clear c140
                        try clear c141
                        try clear c145
                        try clear c146
                        try clear c146b0
                        try clear c146b1
                        try clear c147
                        try clear c148
                        try clear c149
                        try clear c150
                        try clear c152
                        try clear c153
                        try clear c154
                        try clear c157
                        try clear c158
                        try clear c159
                        try clear c160
                        try clear c162
                        try clear c163
                        try clear c164
                        try clear c167
                        try clear c168
                        try clear c169
                        try clear c170
                        try clear c172
                        try clear c173
                        try clear c174
                        try clear hcz104_0
                        try clear hcz104_1
                        try clear hcz104_2
                        try clear hcz107_0
                        try clear hcz107_1
                        try clear hcz107_2
                        try clear hcz116_0
                        try clear hcz116_1
                        try clear hcz116_2
                        try clear hcz118_0
                        try clear hcz118_1
                        try clear hcz118_2
                        try clear hcz127_0
                        try clear hcz127_1
                        try clear hcz127_2
                        try clear hcz129_0
                        try clear hcz129_1
                        try clear hcz129_2
                        try clear hcz133_0
                        try clear hcz133_1
                        try clear hcz133_2
                        try clear hcz142_0
                        try clear hcz142_1
                        try clear hcz142_2
                        try clear hcz151_0
                        try clear hcz151_1
                        try clear hcz151_2
                        try clear hcz155_0
                        try clear hcz155_1
                        try clear hcz155_2
                        try clear hcz15_0
                        try clear hcz15_1
                        try clear hcz15_2
                        try clear hcz161_0
                        try clear hcz161_1
                        try clear hcz161_2
                        try clear hcz165_0
                        try clear hcz165_1
                        try clear hcz165_2
                        try clear hcz171_0
                        try clear hcz171_1
                        try clear hcz171_2
                        try clear hcz175_0
                        try clear hcz175_1
                        try clear hcz175_2
                        try clear hcz17_0
                        try clear hcz17_1
                        try clear hcz17_2
                        try clear hcz23_0
                        try clear hcz23_1
                        try clear hcz23_2
                        try clear hcz25_0
                        try clear hcz25_1
                        try clear hcz25_2
                        try clear hcz30_0
                        try clear hcz30_1
                        try clear hcz30_2
                        try clear hcz37_0
                        try clear hcz37_1
                        try clear hcz37_2
                        try clear hcz45_0
                        try clear hcz45_1
                        try clear hcz45_2
                        try clear hcz48_0
                        try clear hcz48_1
                        try clear hcz48_2
                        try clear hcz53_0
                        try clear hcz53_1
                        try clear hcz53_2
                        try clear hcz56_0
                        try clear hcz56_1
                        try clear hcz56_2
                        try clear hcz61_0
                        try clear hcz61_1
                        try clear hcz61_2
                        try clear hcz64_0
                        try clear hcz64_1
                        try clear hcz64_2
                        try clear hcz79_0
                        try clear hcz79_1
                        try clear hcz79_2
                        try clear hcz7_0
                        try clear hcz7_1
                        try clear hcz7_2
                        try clear hcz88_0
                        try clear hcz88_1
                        try clear hcz88_2
                        try clear hcz91_0
                        try clear hcz91_1
                        try clear hcz91_2
                        try clear hcz96_0
                        try clear hcz96_1
                        try clear hcz96_2
                        try clear hcz99_0
                        try clear hcz99_1
                        try clear hcz99_2
                        try clear hfz104_0
                        try clear hfz104_1
                        try clear hfz104_2
                        try clear hfz107_0
                        try clear hfz107_1
                        try clear hfz107_2
                        try clear hfz116_0
                        try clear hfz116_1
                        try clear hfz116_2
                        try clear hfz118_0
                        try clear hfz118_1
                        try clear hfz118_2
                        try clear hfz127_0
                        try clear hfz127_1
                        try clear hfz127_2
                        try clear hfz129_0
                        try clear hfz129_1
                        try clear hfz129_2
                        try clear hfz133_0
                        try clear hfz133_1
                        try clear hfz133_2
                        try clear hfz142_0
                        try clear hfz142_1
                        try clear hfz142_2
                        try clear hfz151_0
                        try clear hfz151_1
                        try clear hfz151_2
                        try clear hfz155_0
                        try clear hfz155_1
                        try clear hfz155_2
                        try clear hfz15_0
                        try clear hfz15_1
                        try clear hfz15_2
                        try clear hfz161_0
                        try clear hfz161_1
                        try clear hfz161_2
                        try clear hfz165_0
                        try clear hfz165_1
                        try clear hfz165_2
                        try clear hfz171_0
                        try clear hfz171_1
                        try clear hfz171_2
                        try clear hfz175_0
                        try clear hfz175_1
                        try clear hfz175_2
                        try clear hfz17_0
                        try clear hfz17_1
                        try clear hfz17_2
                        try clear hfz23_0
                        try clear hfz23_1
                        try clear hfz23_2
                        try clear hfz25_0
                        try clear hfz25_1
                        try clear hfz25_2
                        try clear hfz30_0
                        try clear hfz30_1
                        try clear hfz30_2
                        try clear hfz37_0
                        try clear hfz37_1
                        try clear hfz37_2
                        try clear hfz45_0
                        try clear hfz45_1
                        try clear hfz45_2
                        try clear hfz48_0
                        try clear hfz48_1
                        try clear hfz48_2
                        try clear hfz53_0
                        try clear hfz53_1
                        try clear hfz53_2
                        try clear hfz56_0
                        try clear hfz56_1
                        try clear hfz56_2
                        try clear hfz61_0
                        try clear hfz61_1
                        try clear hfz61_2
                        try clear hfz64_0
                        try clear hfz64_1
                        try clear hfz64_2
                        try clear hfz79_0
                        try clear hfz79_1
                        try clear hfz79_2
                        try clear hfz7_0
                        try clear hfz7_1
                        try clear hfz7_2
                        try clear hfz88_0
                        try clear hfz88_1
                        try clear hfz88_2
                        try clear hfz91_0
                        try clear hfz91_1
                        try clear hfz91_2
                        try clear hfz96_0
                        try clear hfz96_1
                        try clear hfz96_2
                        try clear hfz99_0
                        try clear hfz99_1
                        try clear hfz99_2
                        try clear p2
                        obtain ⟨kq, x118_122, rfl, HA, HJ122, HO_269002, HO_275002, HO_283002, HO_309002, BK254, BK268, BK274, BK282, BK308, HB⟩ := hcut
                        have hl283002_122 := (Kd.R_reads' HO_283002.out).1
                        rw [hl283002_122] at HO_283002
                        (try simp only [hl283002_122])
                        (try simp only [hl283002_122] at BK254)
                        (try simp only [hl283002_122] at BK268)
                        (try simp only [hl283002_122] at BK274)
                        (try simp only [hl283002_122] at BK282)
                        (try simp only [hl283002_122] at BK308)
                        (try simp only [hl283002_122] at HO_269002)
                        (try simp only [hl283002_122] at HO_275002)
                        (try simp only [hl283002_122] at HO_309002)
                        cases kq with
                        | zero => exact absurd HA.out (by simp [laws_FnExactVoteRun.j2])
                        | succ kj122 =>
                          have H := HA.out
                          clear HA
                          simp only [laws_FnExactVoteRun.j2] at H
                          by_cases c177 : x118_122 = true
                          · subst c177
                            have H1 : (some false) = some r := by rw [if_pos rfl] at H; exact H
                            clear H
                            have H := H1
                            clear H1
                            obtain rfl := Option.some.inj H
                            go_wp2
                            go_ret
                            exact ⟨by first | rfl | (simp [errW_none, errW_some] <;> rfl) | (simp [*, errW_none, errW_some] <;> rfl), by repeat (first | (with_reducible first | exact HB.out | apply below_alloc | apply pw_below_drewN | apply below_drew1 | refine below_set ?_ GE254.out | refine below_set ?_ GE268.out | refine below_set ?_ GE274.out | refine below_set ?_ GE282.out | refine below_set ?_ GE308.out) | exact HB.out)⟩
                          · replace c177 := Bool.eq_false_iff.mpr c177
                            subst c177
                            have H1 : ((laws_heldField.f kj122 t275 t276 t294 1).bind fun t310 => (if t310 < 0 then (some false) else (if t310 = t293 then (some true) else (some false)))) = some r := by rw [if_neg (show ¬ (false = true) by decide)] at H; exact H
                            clear H
                            have H := H1
                            clear H1
                            replace H := Option.bind_eq_some_iff.mp H
                            obtain ⟨t310, A1780, H⟩ := H
                            replace H : (if t310 < 0 then (some false) else (if t310 = t293 then (some true) else (some false))) = some r := H
                            have A178 := Aside0.mk A1780
                            clear A1780
                            by_cases c179 : t310 < 0
                            · rw [if_pos c179] at H
                              have c179b0 : decide (t310 < 0) = true := decide_eq_true c179
                              clear c179
                              obtain rfl := Option.some.inj H
                              have hnb180 := NB282_254.out
                              have hnc180 := NB254_282.out
                              have hnb181 := NB282_268.out
                              have hnc181 := NB268_282.out
                              have hnb182 := NB282_274.out
                              have hnc182 := NB274_282.out
                              have hnb183 := NB282_308.out
                              have hnc183 := NB308_282.out
                              have hcz184_0 : wc.cell? ⟨gb282, 0, none⟩ = some (.int .i64 t275) := (blk_cell BK282.out 0).trans rfl
                              have hcz184_1 : wc.cell? ⟨gb282, 1, none⟩ = some (.int .i64 t276) := (blk_cell BK282.out 1).trans rfl
                              have hcz184_2 : wc.cell? ⟨gb282, 2, none⟩ = some (.slice Ao38 t294.length co38) := (blk_cell BK282.out 2).trans rfl
                              have hfz184_0 := blk_frozen BK282.out 0
                              have hfz184_1 := blk_frozen BK282.out 1
                              have hfz184_2 := blk_frozen BK282.out 2
                              go_wp2_with (first | ((with_reducible refine gate_callee (f := 49) rfl ?_); refine goesL_ (some 121) rfl rfl Try.func49 (by kernel_rfl) rfl #[.agg #[.int .i64 t275, .int .i64 t276, .slice Ao38 t294.length co38], .int .i64 1] rfl (by (try simp only [List.map_toArray, List.map_cons, List.map_nil]); first | done | rfl | (simp only [List.length_drop, List.length_take]; rfl)) ?_; (with_reducible refine (laws_heldField.calls kj122 t275 t276 _ _ t294 1 t310 _ ?side1 ?side2 A178.out).mono ?_); (case side1 => repeat (first | exact (Kd.R_reads' HO_283002.out).2.2 | (with_reducible refine Kd.C_alloc ?_ _) | (with_reducible refine Kd.C_drewN ?_ _) | (with_reducible refine Kd.C_drew ?_))); (case side2 => exact (Kd.R_reads' HO_283002.out).2.1); rintro e w185 ⟨rfl, hb⟩; refine ⟨_, rfl, ?_⟩; have n0_ := Aside0.mk (Kd.R_below (by (with_reducible repeat (first | apply Kd.R_alloc | apply Kd.R_drewN | apply Kd.R_drew)); exact HO_269002.out) hb); have n1_ := Aside0.mk (Kd.R_below (by (with_reducible repeat (first | apply Kd.R_alloc | apply Kd.R_drewN | apply Kd.R_drew)); exact HO_275002.out) hb); have n2_ := Aside0.mk (Kd.R_below (by (with_reducible repeat (first | apply Kd.R_alloc | apply Kd.R_drewN | apply Kd.R_drew)); exact HO_283002.out) hb); have n3_ := Aside0.mk (Kd.R_below (by (with_reducible repeat (first | apply Kd.R_alloc | apply Kd.R_drewN | apply Kd.R_drew)); exact HO_309002.out) hb); have n4_ := Aside0.mk (blk_below (g := gb254) (o := .cells #[.int .i64 a0_0, .int .i64 a0_1, .slice A0_2 l0_2.length c0_2] 24 (0, 0)) (by (with_reducible repeat (first | refine blk_drewN ?_ _ | refine blk_drew ?_ | refine blk_alloc ?_ _)); exact BK254.out) hb); have n5_ := Aside0.mk (blk_below (g := gb268) (o := .cells #[.int .i64 t261, .int .i64 t262, .slice Ao24 t263.length co24] 28 (0, 0)) (by (with_reducible repeat (first | refine blk_drewN ?_ _ | refine blk_drew ?_ | refine blk_alloc ?_ _)); exact BK268.out) hb); have n6_ := Aside0.mk (blk_below (g := gb274) (o := .cells #[.int .i64 t269, .int .i64 t270, .slice Ao31 t291.length co31] 28 (0, 0)) (by (with_reducible repeat (first | refine blk_drewN ?_ _ | refine blk_drew ?_ | refine blk_alloc ?_ _)); exact BK274.out) hb); have n7_ := Aside0.mk (blk_below (g := gb282) (o := .cells #[.int .i64 t275, .int .i64 t276, .slice Ao38 t294.length co38] 28 (0, 0)) (by (with_reducible repeat (first | refine blk_drewN ?_ _ | refine blk_drew ?_ | refine blk_alloc ?_ _)); exact BK282.out) hb); have n8_ := Aside0.mk (blk_below (g := gb308) (o := .cells #[.int .i64 t301, .int .i64 t302, .slice Ao143 t303.length co143] 28 (0, 0)) (by (with_reducible repeat (first | refine blk_drewN ?_ _ | refine blk_drew ?_ | refine blk_alloc ?_ _)); exact BK308.out) hb); have n9_ := Aside0.mk (below_step (by repeat (first | (with_reducible first | exact HB.out | apply below_alloc | apply pw_below_drewN | apply below_drew1 | refine below_set ?_ GE254.out | refine below_set ?_ GE268.out | refine below_set ?_ GE274.out | refine below_set ?_ GE282.out | refine below_set ?_ GE308.out) | exact HB.out)) hb); clear HO_269002; clear HO_275002; clear HO_283002; clear HO_309002; clear BK254; clear BK268; clear BK274; clear BK282; clear BK308; clear HB; have HO_269002 := n0_; have HO_275002 := n1_; have HO_283002 := n2_; have HO_309002 := n3_; have BK254 := n4_; have BK268 := n5_; have BK274 := n6_; have BK282 := n7_; have BK308 := n8_; have HB := n9_; clear n0_ n1_ n2_ n3_ n4_ n5_ n6_ n7_ n8_ n9_; (try clear hb); (try clear hb2); (try clear hk); (try clear hi)))
                              go_ret
                              exact ⟨by first | rfl | (simp [errW_none, errW_some] <;> rfl) | (simp [*, errW_none, errW_some] <;> rfl), by repeat (first | (with_reducible first | exact HB.out | apply below_alloc | apply pw_below_drewN | apply below_drew1 | refine below_set ?_ GE254.out | refine below_set ?_ GE268.out | refine below_set ?_ GE274.out | refine below_set ?_ GE282.out | refine below_set ?_ GE308.out) | exact HB.out)⟩
                            · rw [if_neg c179] at H
                              have c179b0 : decide (t310 < 0) = false := decide_eq_false c179
                              clear c179
                              by_cases c186 : t310 = t293
                              · rw [if_pos c186] at H
                                have c186b0 : (t310 == t293) = true := beq_iff_eq.mpr c186
                                have c186b1 : (t310 != t293) = false := bne_eq_false_iff_eq.mpr c186
                                clear c186
                                obtain rfl := Option.some.inj H
                                have hnb187 := NB282_254.out
                                have hnc187 := NB254_282.out
                                have hnb188 := NB282_268.out
                                have hnc188 := NB268_282.out
                                have hnb189 := NB282_274.out
                                have hnc189 := NB274_282.out
                                have hnb190 := NB282_308.out
                                have hnc190 := NB308_282.out
                                have hcz191_0 : wc.cell? ⟨gb282, 0, none⟩ = some (.int .i64 t275) := (blk_cell BK282.out 0).trans rfl
                                have hcz191_1 : wc.cell? ⟨gb282, 1, none⟩ = some (.int .i64 t276) := (blk_cell BK282.out 1).trans rfl
                                have hcz191_2 : wc.cell? ⟨gb282, 2, none⟩ = some (.slice Ao38 t294.length co38) := (blk_cell BK282.out 2).trans rfl
                                have hfz191_0 := blk_frozen BK282.out 0
                                have hfz191_1 := blk_frozen BK282.out 1
                                have hfz191_2 := blk_frozen BK282.out 2
                                go_wp2_with (first | ((with_reducible refine gate_callee (f := 49) rfl ?_); refine goesL_ (some 121) rfl rfl Try.func49 (by kernel_rfl) rfl #[.agg #[.int .i64 t275, .int .i64 t276, .slice Ao38 t294.length co38], .int .i64 1] rfl (by (try simp only [List.map_toArray, List.map_cons, List.map_nil]); first | done | rfl | (simp only [List.length_drop, List.length_take]; rfl)) ?_; (with_reducible refine (laws_heldField.calls kj122 t275 t276 _ _ t294 1 t310 _ ?side1 ?side2 A178.out).mono ?_); (case side1 => repeat (first | exact (Kd.R_reads' HO_283002.out).2.2 | (with_reducible refine Kd.C_alloc ?_ _) | (with_reducible refine Kd.C_drewN ?_ _) | (with_reducible refine Kd.C_drew ?_))); (case side2 => exact (Kd.R_reads' HO_283002.out).2.1); rintro e w192 ⟨rfl, hb⟩; refine ⟨_, rfl, ?_⟩; have n0_ := Aside0.mk (Kd.R_below (by (with_reducible repeat (first | apply Kd.R_alloc | apply Kd.R_drewN | apply Kd.R_drew)); exact HO_269002.out) hb); have n1_ := Aside0.mk (Kd.R_below (by (with_reducible repeat (first | apply Kd.R_alloc | apply Kd.R_drewN | apply Kd.R_drew)); exact HO_275002.out) hb); have n2_ := Aside0.mk (Kd.R_below (by (with_reducible repeat (first | apply Kd.R_alloc | apply Kd.R_drewN | apply Kd.R_drew)); exact HO_283002.out) hb); have n3_ := Aside0.mk (Kd.R_below (by (with_reducible repeat (first | apply Kd.R_alloc | apply Kd.R_drewN | apply Kd.R_drew)); exact HO_309002.out) hb); have n4_ := Aside0.mk (blk_below (g := gb254) (o := .cells #[.int .i64 a0_0, .int .i64 a0_1, .slice A0_2 l0_2.length c0_2] 24 (0, 0)) (by (with_reducible repeat (first | refine blk_drewN ?_ _ | refine blk_drew ?_ | refine blk_alloc ?_ _)); exact BK254.out) hb); have n5_ := Aside0.mk (blk_below (g := gb268) (o := .cells #[.int .i64 t261, .int .i64 t262, .slice Ao24 t263.length co24] 28 (0, 0)) (by (with_reducible repeat (first | refine blk_drewN ?_ _ | refine blk_drew ?_ | refine blk_alloc ?_ _)); exact BK268.out) hb); have n6_ := Aside0.mk (blk_below (g := gb274) (o := .cells #[.int .i64 t269, .int .i64 t270, .slice Ao31 t291.length co31] 28 (0, 0)) (by (with_reducible repeat (first | refine blk_drewN ?_ _ | refine blk_drew ?_ | refine blk_alloc ?_ _)); exact BK274.out) hb); have n7_ := Aside0.mk (blk_below (g := gb282) (o := .cells #[.int .i64 t275, .int .i64 t276, .slice Ao38 t294.length co38] 28 (0, 0)) (by (with_reducible repeat (first | refine blk_drewN ?_ _ | refine blk_drew ?_ | refine blk_alloc ?_ _)); exact BK282.out) hb); have n8_ := Aside0.mk (blk_below (g := gb308) (o := .cells #[.int .i64 t301, .int .i64 t302, .slice Ao143 t303.length co143] 28 (0, 0)) (by (with_reducible repeat (first | refine blk_drewN ?_ _ | refine blk_drew ?_ | refine blk_alloc ?_ _)); exact BK308.out) hb); have n9_ := Aside0.mk (below_step (by repeat (first | (with_reducible first | exact HB.out | apply below_alloc | apply pw_below_drewN | apply below_drew1 | refine below_set ?_ GE254.out | refine below_set ?_ GE268.out | refine below_set ?_ GE274.out | refine below_set ?_ GE282.out | refine below_set ?_ GE308.out) | exact HB.out)) hb); clear HO_269002; clear HO_275002; clear HO_283002; clear HO_309002; clear BK254; clear BK268; clear BK274; clear BK282; clear BK308; clear HB; have HO_269002 := n0_; have HO_275002 := n1_; have HO_283002 := n2_; have HO_309002 := n3_; have BK254 := n4_; have BK268 := n5_; have BK274 := n6_; have BK282 := n7_; have BK308 := n8_; have HB := n9_; clear n0_ n1_ n2_ n3_ n4_ n5_ n6_ n7_ n8_ n9_; (try clear hb); (try clear hb2); (try clear hk); (try clear hi)))
                                go_ret
                                exact ⟨by first | rfl | (simp [errW_none, errW_some] <;> rfl) | (simp [*, errW_none, errW_some] <;> rfl), by repeat (first | (with_reducible first | exact HB.out | apply below_alloc | apply pw_below_drewN | apply below_drew1 | refine below_set ?_ GE254.out | refine below_set ?_ GE268.out | refine below_set ?_ GE274.out | refine below_set ?_ GE282.out | refine below_set ?_ GE308.out) | exact HB.out)⟩
                              · rw [if_neg c186] at H
                                have c186b0 : (t310 == t293) = false := beq_eq_false_iff_ne.mpr c186
                                have c186b1 : (t310 != t293) = true := bne_iff_ne.mpr c186
                                obtain rfl := Option.some.inj H
                                have hnb193 := NB282_254.out
                                have hnc193 := NB254_282.out
                                have hnb194 := NB282_268.out
                                have hnc194 := NB268_282.out
                                have hnb195 := NB282_274.out
                                have hnc195 := NB274_282.out
                                have hnb196 := NB282_308.out
                                have hnc196 := NB308_282.out
                                have hcz197_0 : wc.cell? ⟨gb282, 0, none⟩ = some (.int .i64 t275) := (blk_cell BK282.out 0).trans rfl
                                have hcz197_1 : wc.cell? ⟨gb282, 1, none⟩ = some (.int .i64 t276) := (blk_cell BK282.out 1).trans rfl
                                have hcz197_2 : wc.cell? ⟨gb282, 2, none⟩ = some (.slice Ao38 t294.length co38) := (blk_cell BK282.out 2).trans rfl
                                have hfz197_0 := blk_frozen BK282.out 0
                                have hfz197_1 := blk_frozen BK282.out 1
                                have hfz197_2 := blk_frozen BK282.out 2
                                go_wp2_with (first | ((with_reducible refine gate_callee (f := 49) rfl ?_); refine goesL_ (some 121) rfl rfl Try.func49 (by kernel_rfl) rfl #[.agg #[.int .i64 t275, .int .i64 t276, .slice Ao38 t294.length co38], .int .i64 1] rfl (by (try simp only [List.map_toArray, List.map_cons, List.map_nil]); first | done | rfl | (simp only [List.length_drop, List.length_take]; rfl)) ?_; (with_reducible refine (laws_heldField.calls kj122 t275 t276 _ _ t294 1 t310 _ ?side1 ?side2 A178.out).mono ?_); (case side1 => repeat (first | exact (Kd.R_reads' HO_283002.out).2.2 | (with_reducible refine Kd.C_alloc ?_ _) | (with_reducible refine Kd.C_drewN ?_ _) | (with_reducible refine Kd.C_drew ?_))); (case side2 => exact (Kd.R_reads' HO_283002.out).2.1); rintro e w198 ⟨rfl, hb⟩; refine ⟨_, rfl, ?_⟩; have n0_ := Aside0.mk (Kd.R_below (by (with_reducible repeat (first | apply Kd.R_alloc | apply Kd.R_drewN | apply Kd.R_drew)); exact HO_269002.out) hb); have n1_ := Aside0.mk (Kd.R_below (by (with_reducible repeat (first | apply Kd.R_alloc | apply Kd.R_drewN | apply Kd.R_drew)); exact HO_275002.out) hb); have n2_ := Aside0.mk (Kd.R_below (by (with_reducible repeat (first | apply Kd.R_alloc | apply Kd.R_drewN | apply Kd.R_drew)); exact HO_283002.out) hb); have n3_ := Aside0.mk (Kd.R_below (by (with_reducible repeat (first | apply Kd.R_alloc | apply Kd.R_drewN | apply Kd.R_drew)); exact HO_309002.out) hb); have n4_ := Aside0.mk (blk_below (g := gb254) (o := .cells #[.int .i64 a0_0, .int .i64 a0_1, .slice A0_2 l0_2.length c0_2] 24 (0, 0)) (by (with_reducible repeat (first | refine blk_drewN ?_ _ | refine blk_drew ?_ | refine blk_alloc ?_ _)); exact BK254.out) hb); have n5_ := Aside0.mk (blk_below (g := gb268) (o := .cells #[.int .i64 t261, .int .i64 t262, .slice Ao24 t263.length co24] 28 (0, 0)) (by (with_reducible repeat (first | refine blk_drewN ?_ _ | refine blk_drew ?_ | refine blk_alloc ?_ _)); exact BK268.out) hb); have n6_ := Aside0.mk (blk_below (g := gb274) (o := .cells #[.int .i64 t269, .int .i64 t270, .slice Ao31 t291.length co31] 28 (0, 0)) (by (with_reducible repeat (first | refine blk_drewN ?_ _ | refine blk_drew ?_ | refine blk_alloc ?_ _)); exact BK274.out) hb); have n7_ := Aside0.mk (blk_below (g := gb282) (o := .cells #[.int .i64 t275, .int .i64 t276, .slice Ao38 t294.length co38] 28 (0, 0)) (by (with_reducible repeat (first | refine blk_drewN ?_ _ | refine blk_drew ?_ | refine blk_alloc ?_ _)); exact BK282.out) hb); have n8_ := Aside0.mk (blk_below (g := gb308) (o := .cells #[.int .i64 t301, .int .i64 t302, .slice Ao143 t303.length co143] 28 (0, 0)) (by (with_reducible repeat (first | refine blk_drewN ?_ _ | refine blk_drew ?_ | refine blk_alloc ?_ _)); exact BK308.out) hb); have n9_ := Aside0.mk (below_step (by repeat (first | (with_reducible first | exact HB.out | apply below_alloc | apply pw_below_drewN | apply below_drew1 | refine below_set ?_ GE254.out | refine below_set ?_ GE268.out | refine below_set ?_ GE274.out | refine below_set ?_ GE282.out | refine below_set ?_ GE308.out) | exact HB.out)) hb); clear HO_269002; clear HO_275002; clear HO_283002; clear HO_309002; clear BK254; clear BK268; clear BK274; clear BK282; clear BK308; clear HB; have HO_269002 := n0_; have HO_275002 := n1_; have HO_283002 := n2_; have HO_309002 := n3_; have BK254 := n4_; have BK268 := n5_; have BK274 := n6_; have BK282 := n7_; have BK308 := n8_; have HB := n9_; clear n0_ n1_ n2_ n3_ n4_ n5_ n6_ n7_ n8_ n9_; (try clear hb); (try clear hb2); (try clear hk); (try clear hi)))
                                go_ret
                                exact ⟨by first | rfl | (simp [errW_none, errW_some] <;> rfl) | (simp [*, errW_none, errW_some] <;> rfl), by repeat (first | (with_reducible first | exact HB.out | apply below_alloc | apply pw_below_drewN | apply below_drew1 | refine below_set ?_ GE254.out | refine below_set ?_ GE268.out | refine below_set ?_ GE274.out | refine below_set ?_ GE282.out | refine below_set ?_ GE308.out) | exact HB.out)⟩
                    · rw [if_neg c120] at H
                      have c120b0 : (t295 == t293) = false := beq_eq_false_iff_ne.mpr c120
                      have c120b1 : (t295 != t293) = true := bne_iff_ne.mpr c120
                      obtain rfl := Option.some.inj H
                      have hnb199 := NB282_254.out
                      have hnc199 := NB254_282.out
                      have hnb200 := NB282_268.out
                      have hnc200 := NB268_282.out
                      have hnb201 := NB282_274.out
                      have hnc201 := NB274_282.out
                      have hcz202_0 : wc.cell? ⟨gb282, 0, none⟩ = some (.int .i64 t275) := (blk_cell BK282.out 0).trans rfl
                      have hcz202_1 : wc.cell? ⟨gb282, 1, none⟩ = some (.int .i64 t276) := (blk_cell BK282.out 1).trans rfl
                      have hcz202_2 : wc.cell? ⟨gb282, 2, none⟩ = some (.slice Ao38 t277.length co38) := (blk_cell BK282.out 2).trans rfl
                      have hfz202_0 := blk_frozen BK282.out 0
                      have hfz202_1 := blk_frozen BK282.out 1
                      have hfz202_2 := blk_frozen BK282.out 2
                      go_wp2_with (first | ((with_reducible refine gate_callee (f := 21) rfl ?_); refine goesL_ (some 87) rfl rfl Try.func21 (by kernel_rfl) rfl #[.agg #[.int .i64 t275, .int .i64 t276, .slice Ao38 t277.length co38], .int .i64 1] rfl (by (try simp only [List.map_toArray, List.map_cons, List.map_nil]); first | done | rfl | (simp only [List.length_drop, List.length_take]; rfl)) ?_; (with_reducible refine (laws_markField.calls kj70 t275 t276 (fun k_ => some k_ = (.slice Ao38 t277.length co38 : Value).ownBlock) (.slice Ao38 t277.length co38) t277 1 t293 t294 w _ ?side1 ?side2 A110.out).mono ?_); (case side1 => repeat (first | (with_reducible first | exact HB.out | apply below_alloc | apply pw_below_drewN | apply below_drew1 | refine below_set ?_ GE254.out | refine below_set ?_ GE268.out | refine below_set ?_ GE274.out | refine below_set ?_ GE282.out) | exact HB.out)); (case side2 => exact Kd.R_tight rfl HO_283002.out); rintro e w203 ⟨rfl, hy0, hb, hkp⟩; refine ⟨_, rfl, ?_⟩; have n0_ := Aside0.mk (Kd.R_mono (ok' := fun k_ => some k_ ≠ (.slice Ao31 t291.length co31 : Value).ownBlock ∧ some k_ ≠ (.slice Ao38 t277.length co38 : Value).ownBlock) (Kd.R_keptB (HO_269002.out) hkp (fun k_ hk_ hs_ => (hk_.2) hs_)) (fun k_ hk_ => ⟨hk_.1.1, hk_.1.2⟩)); have n1_ := Aside0.mk (Kd.R_mono (ok' := fun k_ => some k_ ≠ (.slice Ao24 t263.length co24 : Value).ownBlock ∧ some k_ ≠ (.slice Ao38 t277.length co38 : Value).ownBlock) (Kd.R_keptB (HO_275002.out) hkp (fun k_ hk_ hs_ => (hk_.2) hs_)) (fun k_ hk_ => ⟨hk_.1.1, hk_.1.2⟩)); have n2_ := Aside0.mk (Kd.R_reok rfl hy0 (fun k_ e_ => HO_283002.out.1 k_ e_)); have n3_ := Aside0.mk (blk_kept (by (with_reducible repeat (first | refine blk_drewN ?_ _ | refine blk_drew ?_ | refine blk_alloc ?_ _)); exact BK254.out) hkp (fun hs_ => (fun e_ => (Kd.R_ne HO_283002.out BK254.out (by decide)) e_) hs_)); have n4_ := Aside0.mk (blk_kept (by (with_reducible repeat (first | refine blk_drewN ?_ _ | refine blk_drew ?_ | refine blk_alloc ?_ _)); exact BK268.out) hkp (fun hs_ => (fun e_ => (Kd.R_ne HO_283002.out BK268.out (by decide)) e_) hs_)); have n5_ := Aside0.mk (blk_kept (by (with_reducible repeat (first | refine blk_drewN ?_ _ | refine blk_drew ?_ | refine blk_alloc ?_ _)); exact BK274.out) hkp (fun hs_ => (fun e_ => (Kd.R_ne HO_283002.out BK274.out (by decide)) e_) hs_)); have n6_ := Aside0.mk (blk_kept (by (with_reducible repeat (first | refine blk_drewN ?_ _ | refine blk_drew ?_ | refine blk_alloc ?_ _)); exact BK282.out) hkp (fun hs_ => (fun e_ => (Kd.R_ne HO_283002.out BK282.out (by decide)) e_) hs_)); have n7_ := Aside0.mk (hb); clear HO_269002; clear HO_275002; clear HO_283002; clear BK254; clear BK268; clear BK274; clear BK282; clear HB; have HO_269002 := n0_; have HO_275002 := n1_; have HO_283002 := n2_; have BK254 := n3_; have BK268 := n4_; have BK274 := n5_; have BK282 := n6_; have HB := n7_; clear n0_ n1_ n2_ n3_ n4_ n5_ n6_ n7_; (try clear hb); (try clear hkp); (try clear hy0); have hcz204_0 : w203.cell? ⟨gb282, 0, none⟩ = some (.int .i64 t275) := (blk_cell BK282.out 0).trans rfl; have hcz204_1 : w203.cell? ⟨gb282, 1, none⟩ = some (.int .i64 t276) := (blk_cell BK282.out 1).trans rfl; have hcz204_2 : w203.cell? ⟨gb282, 2, none⟩ = some (.slice Ao38 t277.length co38) := (blk_cell BK282.out 2).trans rfl; have hfz204_0 := blk_frozen BK282.out 0; have hfz204_1 := blk_frozen BK282.out 1; have hfz204_2 := blk_frozen BK282.out 2) | ((with_reducible refine gate_callee (f := 49) rfl ?_); refine goesL_ (some 90) rfl rfl Try.func49 (by kernel_rfl) rfl #[.agg #[.int .i64 t275, .int .i64 t276, .slice Ao38 t294.length co38], .int .i64 1] rfl (by (try simp only [List.map_toArray, List.map_cons, List.map_nil]); first | done | (rw [show t294.length = t277.length from (Kd.R_reads' HO_283002.out).1.symm] <;> rfl) | rfl | (simp only [List.length_drop, List.length_take]; rfl)) ?_; (with_reducible refine (laws_heldField.calls kj70 t275 t276 _ _ t294 1 t295 _ ?side1 ?side2 A111.out).mono ?_); (case side1 => repeat (first | exact (Kd.R_reads' HO_283002.out).2.2 | (with_reducible refine Kd.C_alloc ?_ _) | (with_reducible refine Kd.C_drewN ?_ _) | (with_reducible refine Kd.C_drew ?_))); (case side2 => rw [show t294.length = t277.length from (Kd.R_reads' HO_283002.out).1.symm]; exact (Kd.R_reads' HO_283002.out).2.1); rintro e w205 ⟨rfl, hb⟩; refine ⟨_, rfl, ?_⟩; have n0_ := Aside0.mk (Kd.R_below (by (with_reducible repeat (first | apply Kd.R_alloc | apply Kd.R_drewN | apply Kd.R_drew)); exact HO_269002.out) hb); have n1_ := Aside0.mk (Kd.R_below (by (with_reducible repeat (first | apply Kd.R_alloc | apply Kd.R_drewN | apply Kd.R_drew)); exact HO_275002.out) hb); have n2_ := Aside0.mk (Kd.R_below (by (with_reducible repeat (first | apply Kd.R_alloc | apply Kd.R_drewN | apply Kd.R_drew)); exact HO_283002.out) hb); have n3_ := Aside0.mk (blk_below (g := gb254) (o := .cells #[.int .i64 a0_0, .int .i64 a0_1, .slice A0_2 l0_2.length c0_2] 24 (0, 0)) (by (with_reducible repeat (first | refine blk_drewN ?_ _ | refine blk_drew ?_ | refine blk_alloc ?_ _)); exact BK254.out) hb); have n4_ := Aside0.mk (blk_below (g := gb268) (o := .cells #[.int .i64 t261, .int .i64 t262, .slice Ao24 t263.length co24] 28 (0, 0)) (by (with_reducible repeat (first | refine blk_drewN ?_ _ | refine blk_drew ?_ | refine blk_alloc ?_ _)); exact BK268.out) hb); have n5_ := Aside0.mk (blk_below (g := gb274) (o := .cells #[.int .i64 t269, .int .i64 t270, .slice Ao31 t291.length co31] 28 (0, 0)) (by (with_reducible repeat (first | refine blk_drewN ?_ _ | refine blk_drew ?_ | refine blk_alloc ?_ _)); exact BK274.out) hb); have n6_ := Aside0.mk (blk_below (g := gb282) (o := .cells #[.int .i64 t275, .int .i64 t276, .slice Ao38 t277.length co38] 28 (0, 0)) (by (with_reducible repeat (first | refine blk_drewN ?_ _ | refine blk_drew ?_ | refine blk_alloc ?_ _)); exact BK282.out) hb); have n7_ := Aside0.mk (below_step (by repeat (first | (with_reducible first | exact HB.out | apply below_alloc | apply pw_below_drewN | apply below_drew1 | refine below_set ?_ GE254.out | refine below_set ?_ GE268.out | refine below_set ?_ GE274.out | refine below_set ?_ GE282.out) | exact HB.out)) hb); clear HO_269002; clear HO_275002; clear HO_283002; clear BK254; clear BK268; clear BK274; clear BK282; clear HB; have HO_269002 := n0_; have HO_275002 := n1_; have HO_283002 := n2_; have BK254 := n3_; have BK268 := n4_; have BK274 := n5_; have BK282 := n6_; have HB := n7_; clear n0_ n1_ n2_ n3_ n4_ n5_ n6_ n7_; (try clear hb); (try clear hb2); (try clear hk); (try clear hi)))
                      go_ret
                      exact ⟨by first | rfl | (simp [errW_none, errW_some] <;> rfl) | (simp [*, errW_none, errW_some] <;> rfl), by repeat (first | (with_reducible first | exact HB.out | apply below_alloc | apply pw_below_drewN | apply below_drew1 | refine below_set ?_ GE254.out | refine below_set ?_ GE268.out | refine below_set ?_ GE274.out | refine below_set ?_ GE282.out) | exact HB.out)⟩
          · replace c69 := Bool.eq_false_iff.mpr c69
            subst c69
            have H1 : (some false) = some r := by rw [if_neg (show ¬ (false = true) by decide)] at H; exact H
            clear H
            have H := H1
            clear H1
            obtain rfl := Option.some.inj H
            try go_wp2
            have n0_ := Aside0.mk (Kd.R_drew HO_269002.out)
            have n1_ := Aside0.mk (Kd.R_drew HO_275002.out)
            have n2_ := Aside0.mk (Kd.R_drew HO_283002.out)
            have n3_ := Aside0.mk (blk_drew BK254.out)
            have n4_ := Aside0.mk (blk_drew BK268.out)
            have n5_ := Aside0.mk (blk_drew BK274.out)
            have n6_ := Aside0.mk (blk_drew BK282.out)
            have n7_ := Aside0.mk (below_drew1 HB.out)
            clear HO_269002
            clear HO_275002
            clear HO_283002
            clear BK254
            clear BK268
            clear BK274
            clear BK282
            clear HB
            have HO_269002 := n0_
            have HO_275002 := n1_
            have HO_283002 := n2_
            have BK254 := n3_
            have BK268 := n4_
            have BK274 := n5_
            have BK282 := n6_
            have HB := n7_
            clear n0_ n1_ n2_ n3_ n4_ n5_ n6_ n7_
            refine start_ (n := 5) (S := fun w' => w'.cell? ⟨gb274, 0, none⟩ = some (.int .i64 t269) ∧ w'.cell? ⟨gb274, 1, none⟩ = some (.int .i64 t270) ∧ w'.cell? ⟨gb274, 2, none⟩ = some (.slice Ao31 t271.length co31) ∧ w'.cell? ⟨gb254, 0, none⟩ = some (.int .i64 a0_0) ∧ w'.cell? ⟨gb254, 1, none⟩ = some (.int .i64 a0_1) ∧ w'.cell? ⟨gb254, 2, none⟩ = some (.slice A0_2 l0_2.length c0_2)) (ds := []) #[false, false, false, false, false] (by kernel_rfl) rfl rfl ⟨(blk_cell BK274.out 0).trans rfl, (blk_cell BK274.out 1).trans rfl, (blk_cell BK274.out 2).trans rfl, (blk_cell BK254.out 0).trans rfl, (blk_cell BK254.out 1).trans rfl, (blk_cell BK254.out 2).trans rfl⟩ (fun hHeld => ?_)
            generalize wc.drew = w206 at HO_269002 HO_275002 HO_283002 BK254 BK268 BK274 BK282 HB hHeld ⊢
            refine take_ (i := 0) (N := some 59) (v := ?_) (a' := ?_) #[true, false, false, false, false] rfl rfl (by kernel_rfl) (fun _ _ _ h => h) (Or.inl ⟨by rfl, ?_⟩) hHeld ?_ ?_
            rotate_left
            · rintro w' ⟨s0, s1, s2, s3, s4, s5⟩
              go_simp
              with_reducible rfl
            rotate_left
            · simp only [Act.put, List.setIfInBounds_toArray, List.set_cons_zero, List.set_cons_succ, i64_w, i32_w]
              rfl
            refine take_ (i := 1) (N := some 60) (v := ?_) (a' := ?_) #[true, true, false, false, false] rfl rfl (by kernel_rfl) (fun _ _ _ h => h) (Or.inl ⟨by rfl, ?_⟩) hHeld ?_ ?_
            rotate_left
            · rintro w' ⟨s0, s1, s2, s3, s4, s5⟩
              go_simp
              with_reducible rfl
            rotate_left
            · simp only [Act.put, List.setIfInBounds_toArray, List.set_cons_zero, List.set_cons_succ, i64_w, i32_w]
              rfl
            refine one_ (i := 2) (N := some 61) #[true, true, true, false, false] rfl rfl (by kernel_rfl) (by decide) (fun K hK => ?_)
            refine goes_ Try.func17 (by kernel_rfl) rfl #[.agg #[.int .i64 a0_0, .int .i64 a0_1, .slice A0_2 l0_2.length c0_2]] (by rfl) rfl rfl (by (try simp only [List.map_toArray, List.map_cons, List.map_nil]); first | done | rfl | (simp only [List.length_drop, List.length_take]; rfl)) ?_
            with_reducible refine (laws_toField.calls kj12 a0_0 a0_1 _ _ l0_2 t284 t285 t286 _ ?side1 ?side2 A67.out).mono ?_
            (case side1 => repeat (first | exact (Kd.C_below HR0_2.out HB.out) | (with_reducible refine Kd.C_alloc ?_ _) | (with_reducible refine Kd.C_drewN ?_ _) | (with_reducible refine Kd.C_drew ?_)))
            (case side2 => exact HC0_2.out)
            rintro e w207 ⟨v287, rfl, ho0, hb⟩
            refine ⟨_, rfl, ?_⟩
            have n0_ := Aside0.mk (Kd.R_elder' (by (with_reducible repeat (first | apply Kd.R_alloc | apply Kd.R_drewN | apply Kd.R_drew)); exact HO_269002.out) (Kd.R_base ho0) hb)
            have n1_ := Aside0.mk (Kd.R_elder' (by (with_reducible repeat (first | apply Kd.R_alloc | apply Kd.R_drewN | apply Kd.R_drew)); exact HO_275002.out) (Kd.R_base ho0) hb)
            have n2_ := Aside0.mk (Kd.R_elder' (by (with_reducible repeat (first | apply Kd.R_alloc | apply Kd.R_drewN | apply Kd.R_drew)); exact HO_283002.out) (Kd.R_base ho0) hb)
            have n3_ := Aside0.mk (Kd.R_lower (Kd.R_new' (Kd.R_new' (Kd.R_new' ho0 (Kd.R_lt (by (with_reducible repeat (first | apply Kd.R_alloc | apply Kd.R_drewN | apply Kd.R_drew)); exact HO_269002.out))) (Kd.R_lt (by (with_reducible repeat (first | apply Kd.R_alloc | apply Kd.R_drewN | apply Kd.R_drew)); exact HO_275002.out))) (Kd.R_lt (by (with_reducible repeat (first | apply Kd.R_alloc | apply Kd.R_drewN | apply Kd.R_drew)); exact HO_283002.out))) (below_size (by repeat (first | (with_reducible first | exact HB.out | apply below_alloc | apply pw_below_drewN | apply below_drew1 | refine below_set ?_ GE254.out | refine below_set ?_ GE268.out | refine below_set ?_ GE274.out | refine below_set ?_ GE282.out) | exact HB.out))))
            have n4_ := Aside0.mk (blk_below (g := gb254) (o := .cells #[.int .i64 a0_0, .int .i64 a0_1, .slice A0_2 l0_2.length c0_2] 24 (0, 0)) (by (with_reducible repeat (first | refine blk_drewN ?_ _ | refine blk_drew ?_ | refine blk_alloc ?_ _)); exact BK254.out) hb)
            have n5_ := Aside0.mk (blk_below (g := gb268) (o := .cells #[.int .i64 t261, .int .i64 t262, .slice Ao24 t263.length co24] 28 (0, 0)) (by (with_reducible repeat (first | refine blk_drewN ?_ _ | refine blk_drew ?_ | refine blk_alloc ?_ _)); exact BK268.out) hb)
            have n6_ := Aside0.mk (blk_below (g := gb274) (o := .cells #[.int .i64 t269, .int .i64 t270, .slice Ao31 t271.length co31] 28 (0, 0)) (by (with_reducible repeat (first | refine blk_drewN ?_ _ | refine blk_drew ?_ | refine blk_alloc ?_ _)); exact BK274.out) hb)
            have n7_ := Aside0.mk (blk_below (g := gb282) (o := .cells #[.int .i64 t275, .int .i64 t276, .slice Ao38 t277.length co38] 28 (0, 0)) (by (with_reducible repeat (first | refine blk_drewN ?_ _ | refine blk_drew ?_ | refine blk_alloc ?_ _)); exact BK282.out) hb)
            have n8_ := Aside0.mk (below_step (by repeat (first | (with_reducible first | exact HB.out | apply below_alloc | apply pw_below_drewN | apply below_drew1 | refine below_set ?_ GE254.out | refine below_set ?_ GE268.out | refine below_set ?_ GE274.out | refine below_set ?_ GE282.out) | exact HB.out)) hb)
            clear HO_269002
            clear HO_275002
            clear HO_283002
            clear BK254
            clear BK268
            clear BK274
            clear BK282
            clear HB
            have HO_269002 := n0_
            have HO_275002 := n1_
            have HO_283002 := n2_
            have HO288 := n3_
            have BK254 := n4_
            have BK268 := n5_
            have BK274 := n6_
            have BK282 := n7_
            have HB := n8_
            clear n0_ n1_ n2_ n3_ n4_ n5_ n6_ n7_ n8_
            (try clear hb)
            (try clear hb2)
            (try clear hk)
            (try clear hi)
            (try clear ho0)
            obtain ⟨Ao208, co208, eo208⟩ := Kd.R_slice HO288.out
            (first | subst eo208 | (injection eo208 with f1_ f2_ f3_; have f4_ := f1_.symm; have f5_ := f3_.symm; clear f1_ f2_ f3_; subst f4_; subst f5_))
            refine hK.out _ _ ⟨(blk_cell BK274.out 0).trans rfl, (blk_cell BK274.out 1).trans rfl, (blk_cell BK274.out 2).trans rfl, (blk_cell BK254.out 0).trans rfl, (blk_cell BK254.out 1).trans rfl, (blk_cell BK254.out 2).trans rfl⟩ (fun hHeld => ?_)
            clear hK K
            refine norm_ (a' := ?_) ?_ ?_
            rotate_left
            · show Act.put _ (some 61) _ = _
              simp only [Act.put, List.setIfInBounds_toArray, List.set_cons_zero, List.set_cons_succ, i64_w, i32_w]
              rfl
            refine one_ (i := 3) (N := some 62) #[true, true, true, true, false] rfl rfl (by kernel_rfl) (by decide) (fun K hK => ?_)
            refine goes_ Try.func20 (by kernel_rfl) rfl #[.agg #[.int .i64 t269, .int .i64 t270, .slice Ao31 t271.length co31], .agg #[.int .i64 t284, .int .i64 t285, .slice Ao208 t286.length co208]] (by rfl) rfl rfl (by (try simp only [List.map_toArray, List.map_cons, List.map_nil]); first | done | rfl | (simp only [List.length_drop, List.length_take]; rfl)) ?_
            with_reducible refine (laws_eqField.calls kj12 t269 t270 _ _ t271 t284 t285 _ _ t286 false _ ?side1 ?side2 ?side3 ?side4 A68.out).mono ?_
            (case side1 => repeat (first | exact (Kd.R_reads' HO_275002.out).2.2 | (with_reducible refine Kd.C_alloc ?_ _) | (with_reducible refine Kd.C_drewN ?_ _) | (with_reducible refine Kd.C_drew ?_)))
            (case side2 => exact (Kd.R_reads' HO_275002.out).2.1)
            (case side3 => repeat (first | exact (Kd.R_reads' HO288.out).2.2 | (with_reducible refine Kd.C_alloc ?_ _) | (with_reducible refine Kd.C_drewN ?_ _) | (with_reducible refine Kd.C_drew ?_)))
            (case side4 => exact (Kd.R_reads' HO288.out).2.1)
            rintro e w209 ⟨rfl, hb⟩
            refine ⟨_, rfl, ?_⟩
            have n0_ := Aside0.mk (Kd.R_below (by (with_reducible repeat (first | apply Kd.R_alloc | apply Kd.R_drewN | apply Kd.R_drew)); exact HO_269002.out) hb)
            have n1_ := Aside0.mk (Kd.R_below (by (with_reducible repeat (first | apply Kd.R_alloc | apply Kd.R_drewN | apply Kd.R_drew)); exact HO_275002.out) hb)
            have n2_ := Aside0.mk (Kd.R_below (by (with_reducible repeat (first | apply Kd.R_alloc | apply Kd.R_drewN | apply Kd.R_drew)); exact HO_283002.out) hb)
            have n3_ := Aside0.mk (Kd.R_below (by (with_reducible repeat (first | apply Kd.R_alloc | apply Kd.R_drewN | apply Kd.R_drew)); exact HO288.out) hb)
            have n4_ := Aside0.mk (blk_below (g := gb254) (o := .cells #[.int .i64 a0_0, .int .i64 a0_1, .slice A0_2 l0_2.length c0_2] 24 (0, 0)) (by (with_reducible repeat (first | refine blk_drewN ?_ _ | refine blk_drew ?_ | refine blk_alloc ?_ _)); exact BK254.out) hb)
            have n5_ := Aside0.mk (blk_below (g := gb268) (o := .cells #[.int .i64 t261, .int .i64 t262, .slice Ao24 t263.length co24] 28 (0, 0)) (by (with_reducible repeat (first | refine blk_drewN ?_ _ | refine blk_drew ?_ | refine blk_alloc ?_ _)); exact BK268.out) hb)
            have n6_ := Aside0.mk (blk_below (g := gb274) (o := .cells #[.int .i64 t269, .int .i64 t270, .slice Ao31 t271.length co31] 28 (0, 0)) (by (with_reducible repeat (first | refine blk_drewN ?_ _ | refine blk_drew ?_ | refine blk_alloc ?_ _)); exact BK274.out) hb)
            have n7_ := Aside0.mk (blk_below (g := gb282) (o := .cells #[.int .i64 t275, .int .i64 t276, .slice Ao38 t277.length co38] 28 (0, 0)) (by (with_reducible repeat (first | refine blk_drewN ?_ _ | refine blk_drew ?_ | refine blk_alloc ?_ _)); exact BK282.out) hb)
            have n8_ := Aside0.mk (below_step (by repeat (first | (with_reducible first | exact HB.out | apply below_alloc | apply pw_below_drewN | apply below_drew1 | refine below_set ?_ GE254.out | refine below_set ?_ GE268.out | refine below_set ?_ GE274.out | refine below_set ?_ GE282.out) | exact HB.out)) hb)
            clear HO_269002
            clear HO_275002
            clear HO_283002
            clear HO288
            clear BK254
            clear BK268
            clear BK274
            clear BK282
            clear HB
            have HO_269002 := n0_
            have HO_275002 := n1_
            have HO_283002 := n2_
            have HO288 := n3_
            have BK254 := n4_
            have BK268 := n5_
            have BK274 := n6_
            have BK282 := n7_
            have HB := n8_
            clear n0_ n1_ n2_ n3_ n4_ n5_ n6_ n7_ n8_
            (try clear hb)
            (try clear hb2)
            (try clear hk)
            (try clear hi)
            refine hK.out _ _ ⟨(blk_cell BK274.out 0).trans rfl, (blk_cell BK274.out 1).trans rfl, (blk_cell BK274.out 2).trans rfl, (blk_cell BK254.out 0).trans rfl, (blk_cell BK254.out 1).trans rfl, (blk_cell BK254.out 2).trans rfl⟩ (fun hHeld => ?_)
            clear hK K
            refine norm_ (a' := ?_) ?_ ?_
            rotate_left
            · show Act.put _ (some 62) _ = _
              simp only [Act.put, List.setIfInBounds_toArray, List.set_cons_zero, List.set_cons_succ, i64_w, i32_w]
              rfl
            refine pure_ (i := 4) (N := some 63) (v := ?_) (a' := ?_) #[true, true, true, true, true] rfl rfl (by kernel_rfl) (fun _ _ _ h => h) (Or.inl ⟨by rfl, ?_⟩) ?_ ?_
            rotate_left
            · intro w'
              go_simp
              with_reducible rfl
            rotate_left
            · simp only [Act.put, List.setIfInBounds_toArray, List.set_cons_zero, List.set_cons_succ, i64_w, i32_w]
              rfl
            refine done_ (by kernel_rfl) ?_
            try go_wp2
            go_ret
            exact ⟨by first | rfl | (simp [errW_none, errW_some] <;> rfl) | (simp [*, errW_none, errW_some] <;> rfl), by repeat (first | (with_reducible first | exact HB.out | apply below_alloc | apply pw_below_drewN | apply below_drew1 | refine below_set ?_ GE254.out | refine below_set ?_ GE268.out | refine below_set ?_ GE274.out | refine below_set ?_ GE282.out) | exact HB.out)⟩

/-- THE ONE PURE STATEMENT of laws_FnExactVoteRun. -/
def laws_FnExactVoteRun.Pure : Prop := ∀ (a0_0 : Int) (a0_1 : Int) (l0_2 : List Int) (a1 : Bool) (a2 : Int), ((Lit.int .i64 a0_0).wf = true) → ((Lit.int .i64 a0_1).wf = true) → ((∀ x0_ ∈ l0_2, (Lit.int .i64 x0_).wf = true) ∧ l0_2.length * 8 ≤ 140737488351232 ∧ l0_2.length ≤ 9223372036854775807) → ((Lit.int .i64 a2).wf = true) → ∃ k, laws_FnExactVoteRun.f k a0_0 a0_1 l0_2 a1 a2 = some true
theorem laws_FnExactVoteRun.walk (P : laws_FnExactVoteRun.Pure) (a0_0 : Int) (a0_1 : Int) (A0_2 : Option Addr) (c0_2 : Nat) (l0_2 : List Int) (a1 : Bool) (a2 : Int) (w : World) (hr0_2 : Kd.C (Kd.int .i64) w A0_2 l0_2.length l0_2) (hc0_2 : l0_2.length ≤ c0_2) (G0_0 : (Lit.int .i64 a0_0).wf = true) (G0_1 : (Lit.int .i64 a0_1).wf = true) (G0_2 : (∀ x0_ ∈ l0_2, (Lit.int .i64 x0_).wf = true) ∧ l0_2.length * 8 ≤ 140737488351232 ∧ l0_2.length ≤ 9223372036854775807) (G2 : (Lit.int .i64 a2).wf = true) :
    Calls Try.prog 11 #[.agg #[.int .i64 a0_0, .int .i64 a0_1, .slice A0_2 l0_2.length c0_2], .bool a1, .int .i64 a2] w fun e w' => e = .returned (.bool true) ∧ Below w.heap.size w w' := by
  obtain ⟨k, h⟩ := P a0_0 a0_1 l0_2 a1 a2 G0_0 G0_1 G0_2 G2
  refine (laws_FnExactVoteRun.calls k a0_0 a0_1 A0_2 c0_2 l0_2 a1 a2 true w hr0_2 hc0_2 h).mono ?_
  rintro e w' ⟨rfl, hd⟩
  exact ⟨rfl, hd⟩

end Go.Proofs.Ytbeinhdoggfgkaa.PFnExactVoteRun

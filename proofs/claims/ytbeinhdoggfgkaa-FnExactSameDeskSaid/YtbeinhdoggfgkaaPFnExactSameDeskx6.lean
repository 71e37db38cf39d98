-- Written by a program of this session (its own print).
import Derived.Test.YtbeinhdoggfgkaaPFnExactSameDeskx0
import Derived.Test.YtbeinhdoggfgkaaPFnExactSameDeskx1
import Derived.Test.YtbeinhdoggfgkaaPFnExactSameDeskx4
import Derived.Test.YtbeinhdoggfgkaaPFnExactSameDeskx5
namespace Go.Proofs.Ytbeinhdoggfgkaa.PFnExactSameDesk
open Go.RowKit Go.Proofs.YtbeinhdoggfgkaaW.PrintWords Go.Proofs.YtbeinhdoggfgkaaW.PrintLast Go.Proofs.YtbeinhdoggfgkaaW.PrintMore
attribute [local go_sem] max2_int min2_int max_two min_two max_three min_three max_four min_four   -- for this text's walks alone
set_option linter.unusedVariables false
set_option linter.unusedSimpArgs false

/-! ### laws_FnExactSameDesk: function 5 -/
def laws_FnExactSameDesk.f (k : Nat) (a0_0 : Int) (a0_1 : Int) (l0_2 : List Int) (l0_3 : List Int) (a0_4 : Int) (a0_5 : Int) (l0_6 : List Int) (l0_7 : List Int) (l0_8 : List Int) (a1_0 : Int) (a1_1 : Int) (l1_2 : List Int) (l1_3 : List Int) (a1_4 : Int) (a1_5 : Int) (l1_6 : List Int) (l1_7 : List Int) (l1_8 : List Int) : Option (Bool) := (laws_szDesk.f a0_0 a0_1 l0_2 l0_3 a0_4 a0_5 l0_6 l0_7 l0_8 1048576).bind fun t211 => (if t211 < 0 then (some true) else ((laws_szDesk.f a1_0 a1_1 l1_2 l1_3 a1_4 a1_5 l1_6 l1_7 l1_8 t211).bind fun t212 => (if t212 < 0 then (some true) else ((laws_toDesk.f k a0_0 a0_1 l0_2 l0_3 a0_4 a0_5 l0_6 l0_7 l0_8).bind fun bt213 => ((laws_toDesk.f k a1_0 a1_1 l1_2 l1_3 a1_4 a1_5 l1_6 l1_7 l1_8).bind fun bt232 => ((spec_SameDesk.f k bt213.1 bt213.2.1 bt213.2.2.1 bt213.2.2.2.1 bt213.2.2.2.2.1 bt213.2.2.2.2.2.1 bt213.2.2.2.2.2.2.1 bt213.2.2.2.2.2.2.2.1 bt213.2.2.2.2.2.2.2.2 bt232.1 bt232.2.1 bt232.2.2.1 bt232.2.2.2.1 bt232.2.2.2.2.1 bt232.2.2.2.2.2.1 bt232.2.2.2.2.2.2.1 bt232.2.2.2.2.2.2.2.1 bt232.2.2.2.2.2.2.2.2).bind fun t251 => ((laws_toDesk.f k a0_0 a0_1 l0_2 l0_3 a0_4 a0_5 l0_6 l0_7 l0_8).bind fun bt252 => ((laws_toDesk.f k a1_0 a1_1 l1_2 l1_3 a1_4 a1_5 l1_6 l1_7 l1_8).bind fun bt272 => ((impl_SameDesk.f k bt252.1 bt252.2.1 bt252.2.2.1 bt252.2.2.2.1 bt252.2.2.2.2.1 bt252.2.2.2.2.2.1 bt252.2.2.2.2.2.2.1 bt252.2.2.2.2.2.2.2.1 bt252.2.2.2.2.2.2.2.2 bt272.1 bt272.2.1 bt272.2.2.1 bt272.2.2.2.1 bt272.2.2.2.2.1 bt272.2.2.2.2.2.1 bt272.2.2.2.2.2.2.1 bt272.2.2.2.2.2.2.2.1 bt272.2.2.2.2.2.2.2.2).bind fun t292 => (if (t292 != t251) = true then (some false) else ((laws_toDesk.f k a0_0 a0_1 l0_2 l0_3 a0_4 a0_5 l0_6 l0_7 l0_8).bind fun bt293 => ((laws_eqDesk.f k bt252.1 bt252.2.1 bt252.2.2.1 bt252.2.2.2.1 bt252.2.2.2.2.1 bt252.2.2.2.2.2.1 bt252.2.2.2.2.2.2.1 bt252.2.2.2.2.2.2.2.1 bt252.2.2.2.2.2.2.2.2 bt293.1 bt293.2.1 bt293.2.2.1 bt293.2.2.2.1 bt293.2.2.2.2.1 bt293.2.2.2.2.2.1 bt293.2.2.2.2.2.2.1 bt293.2.2.2.2.2.2.2.1 bt293.2.2.2.2.2.2.2.2).bind fun t312 => (if t312 = true then ((laws_toDesk.f k a1_0 a1_1 l1_2 l1_3 a1_4 a1_5 l1_6 l1_7 l1_8).bind fun bt313 => ((laws_eqDesk.f k bt272.1 bt272.2.1 bt272.2.2.1 bt272.2.2.2.1 bt272.2.2.2.2.1 bt272.2.2.2.2.2.1 bt272.2.2.2.2.2.2.1 bt272.2.2.2.2.2.2.2.1 bt272.2.2.2.2.2.2.2.2 bt313.1 bt313.2.1 bt313.2.2.1 bt313.2.2.2.1 bt313.2.2.2.2.1 bt313.2.2.2.2.2.1 bt313.2.2.2.2.2.2.1 bt313.2.2.2.2.2.2.2.1 bt313.2.2.2.2.2.2.2.2).bind fun t332 => (if t332 = true then (some true) else (some false)))) else (some false))))))))))))))
theorem laws_FnExactSameDesk.mono : ∀ a0 a1 a2 a3 a4 a5 a6 a7 a8 a9 a10 a11 a12 a13 a14 a15 a16 a17 k, LeO (laws_FnExactSameDesk.f k a0 a1 a2 a3 a4 a5 a6 a7 a8 a9 a10 a11 a12 a13 a14 a15 a16 a17) (laws_FnExactSameDesk.f (k + 1) a0 a1 a2 a3 a4 a5 a6 a7 a8 a9 a10 a11 a12 a13 a14 a15 a16 a17) := by
  intro a0 a1 a2 a3 a4 a5 a6 a7 a8 a9 a10 a11 a12 a13 a14 a15 a16 a17 k
  unfold laws_FnExactSameDesk.f
  repeat' first
      | (with_reducible exact impl_SameDesk.mono _ _ _ _ _ _ _ _ _ _ _ _ _ _ _ _ _ _ _)
      | (with_reducible exact laws_eqDesk.mono _ _ _ _ _ _ _ _ _ _ _ _ _ _ _ _ _ _ _)
      | (with_reducible exact laws_toDesk.mono _ _ _ _ _ _ _ _ _ _)
      | (with_reducible exact spec_SameDesk.mono _ _ _ _ _ _ _ _ _ _ _ _ _ _ _ _ _ _ _)
      | (with_reducible exact LeO.refl _)
      | (with_reducible exact LeO.none _)
      | (with_reducible refine LeO.ite ?_ ?_)
      | (with_reducible refine LeO.bind ?_ (fun _ => ?_))
      | exact impl_SameDesk.mono _ _ _ _ _ _ _ _ _ _ _ _ _ _ _ _ _ _ _
      | exact laws_eqDesk.mono _ _ _ _ _ _ _ _ _ _ _ _ _ _ _ _ _ _ _
      | exact laws_toDesk.mono _ _ _ _ _ _ _ _ _ _
      | exact spec_SameDesk.mono _ _ _ _ _ _ _ _ _ _ _ _ _ _ _ _ _ _ _
      | exact LeO.none _
      | refine LeO.ite ?_ ?_
      | refine LeO.bind ?_ (fun _ => ?_)
set_option maxHeartbeats 8000000 in
set_option maxRecDepth 100000 in
theorem laws_FnExactSameDesk.calls (k : Nat) (a0_0 : Int) (a0_1 : Int) (A0_2 : Option Addr) (c0_2 : Nat) (l0_2 : List Int) (A0_3 : Option Addr) (c0_3 : Nat) (l0_3 : List Int) (a0_4 : Int) (a0_5 : Int) (A0_6 : Option Addr) (c0_6 : Nat) (l0_6 : List Int) (A0_7 : Option Addr) (c0_7 : Nat) (l0_7 : List Int) (A0_8 : Option Addr) (c0_8 : Nat) (l0_8 : List Int) (a1_0 : Int) (a1_1 : Int) (A1_2 : Option Addr) (c1_2 : Nat) (l1_2 : List Int) (A1_3 : Option Addr) (c1_3 : Nat) (l1_3 : List Int) (a1_4 : Int) (a1_5 : Int) (A1_6 : Option Addr) (c1_6 : Nat) (l1_6 : List Int) (A1_7 : Option Addr) (c1_7 : Nat) (l1_7 : List Int) (A1_8 : Option Addr) (c1_8 : Nat) (l1_8 : List Int) (r : Bool) (w : World) (hr0_2 : Kd.C (Kd.int .i64) w A0_2 l0_2.length l0_2) (hc0_2 : l0_2.length ≤ c0_2) (hr0_3 : Kd.C (Kd.int .i64) w A0_3 l0_3.length l0_3) (hc0_3 : l0_3.length ≤ c0_3) (hr0_6 : Kd.C (Kd.int .i64) w A0_6 l0_6.length l0_6) (hc0_6 : l0_6.length ≤ c0_6) (hr0_7 : Kd.C (Kd.int .i64) w A0_7 l0_7.length l0_7) (hc0_7 : l0_7.length ≤ c0_7) (hr0_8 : Kd.C (Kd.int .i64) w A0_8 l0_8.length l0_8) (hc0_8 : l0_8.length ≤ c0_8) (hr1_2 : Kd.C (Kd.int .i64) w A1_2 l1_2.length l1_2) (hc1_2 : l1_2.length ≤ c1_2) (hr1_3 : Kd.C (Kd.int .i64) w A1_3 l1_3.length l1_3) (hc1_3 : l1_3.length ≤ c1_3) (hr1_6 : Kd.C (Kd.int .i64) w A1_6 l1_6.length l1_6) (hc1_6 : l1_6.length ≤ c1_6) (hr1_7 : Kd.C (Kd.int .i64) w A1_7 l1_7.length l1_7) (hc1_7 : l1_7.length ≤ c1_7) (hr1_8 : Kd.C (Kd.int .i64) w A1_8 l1_8.length l1_8) (hc1_8 : l1_8.length ≤ c1_8) (hr_ : r = true) (h : laws_FnExactSameDesk.f k a0_0 a0_1 l0_2 l0_3 a0_4 a0_5 l0_6 l0_7 l0_8 a1_0 a1_1 l1_2 l1_3 a1_4 a1_5 l1_6 l1_7 l1_8 = some r) :
    Calls Try.prog 5 #[.agg #[.int .i64 a0_0, .int .i64 a0_1, .slice A0_2 l0_2.length c0_2, .slice A0_3 l0_3.length c0_3, .int .i64 a0_4, .int .i64 a0_5, .slice A0_6 l0_6.length c0_6, .slice A0_7 l0_7.length c0_7, .slice A0_8 l0_8.length c0_8], .agg #[.int .i64 a1_0, .int .i64 a1_1, .slice A1_2 l1_2.length c1_2, .slice A1_3 l1_3.length c1_3, .int .i64 a1_4, .int .i64 a1_5, .slice A1_6 l1_6.length c1_6, .slice A1_7 l1_7.length c1_7, .slice A1_8 l1_8.length c1_8]] w fun e w' => e = .returned (.bool r) ∧ Below w.heap.size w w' := by
  have hu42 := Try.underlying42
  have hu48 := Try.underlying48
  have HR0_2 := Aside0.mk hr0_2
  have HC0_2 := Aside0.mk hc0_2
  clear hr0_2 hc0_2
  have HR0_3 := Aside0.mk hr0_3
  have HC0_3 := Aside0.mk hc0_3
  clear hr0_3 hc0_3
  have HR0_6 := Aside0.mk hr0_6
  have HC0_6 := Aside0.mk hc0_6
  clear hr0_6 hc0_6
  have HR0_7 := Aside0.mk hr0_7
  have HC0_7 := Aside0.mk hc0_7
  clear hr0_7 hc0_7
  have HR0_8 := Aside0.mk hr0_8
  have HC0_8 := Aside0.mk hc0_8
  clear hr0_8 hc0_8
  have HR1_2 := Aside0.mk hr1_2
  have HC1_2 := Aside0.mk hc1_2
  clear hr1_2 hc1_2
  have HR1_3 := Aside0.mk hr1_3
  have HC1_3 := Aside0.mk hc1_3
  clear hr1_3 hc1_3
  have HR1_6 := Aside0.mk hr1_6
  have HC1_6 := Aside0.mk hc1_6
  clear hr1_6 hc1_6
  have HR1_7 := Aside0.mk hr1_7
  have HC1_7 := Aside0.mk hc1_7
  clear hr1_7 hc1_7
  have HR1_8 := Aside0.mk hr1_8
  have HC1_8 := Aside0.mk hc1_8
  clear hr1_8 hc1_8
  have HB := Aside0.mk (Below.refl w.heap.size w)
  have H : ((laws_szDesk.f a0_0 a0_1 l0_2 l0_3 a0_4 a0_5 l0_6 l0_7 l0_8 1048576).bind fun t211 => (if t211 < 0 then (some true) else ((laws_szDesk.f a1_0 a1_1 l1_2 l1_3 a1_4 a1_5 l1_6 l1_7 l1_8 t211).bind fun t212 => (if t212 < 0 then (some true) else ((laws_toDesk.f k a0_0 a0_1 l0_2 l0_3 a0_4 a0_5 l0_6 l0_7 l0_8).bind fun bt213 => ((laws_toDesk.f k a1_0 a1_1 l1_2 l1_3 a1_4 a1_5 l1_6 l1_7 l1_8).bind fun bt232 => ((spec_SameDesk.f k bt213.1 bt213.2.1 bt213.2.2.1 bt213.2.2.2.1 bt213.2.2.2.2.1 bt213.2.2.2.2.2.1 bt213.2.2.2.2.2.2.1 bt213.2.2.2.2.2.2.2.1 bt213.2.2.2.2.2.2.2.2 bt232.1 bt232.2.1 bt232.2.2.1 bt232.2.2.2.1 bt232.2.2.2.2.1 bt232.2.2.2.2.2.1 bt232.2.2.2.2.2.2.1 bt232.2.2.2.2.2.2.2.1 bt232.2.2.2.2.2.2.2.2).bind fun t251 => ((laws_toDesk.f k a0_0 a0_1 l0_2 l0_3 a0_4 a0_5 l0_6 l0_7 l0_8).bind fun bt252 => ((laws_toDesk.f k a1_0 a1_1 l1_2 l1_3 a1_4 a1_5 l1_6 l1_7 l1_8).bind fun bt272 => ((impl_SameDesk.f k bt252.1 bt252.2.1 bt252.2.2.1 bt252.2.2.2.1 bt252.2.2.2.2.1 bt252.2.2.2.2.2.1 bt252.2.2.2.2.2.2.1 bt252.2.2.2.2.2.2.2.1 bt252.2.2.2.2.2.2.2.2 bt272.1 bt272.2.1 bt272.2.2.1 bt272.2.2.2.1 bt272.2.2.2.2.1 bt272.2.2.2.2.2.1 bt272.2.2.2.2.2.2.1 bt272.2.2.2.2.2.2.2.1 bt272.2.2.2.2.2.2.2.2).bind fun t292 => (if (t292 != t251) = true then (some false) else ((laws_toDesk.f k a0_0 a0_1 l0_2 l0_3 a0_4 a0_5 l0_6 l0_7 l0_8).bind fun bt293 => ((laws_eqDesk.f k bt252.1 bt252.2.1 bt252.2.2.1 bt252.2.2.2.1 bt252.2.2.2.2.1 bt252.2.2.2.2.2.1 bt252.2.2.2.2.2.2.1 bt252.2.2.2.2.2.2.2.1 bt252.2.2.2.2.2.2.2.2 bt293.1 bt293.2.1 bt293.2.2.1 bt293.2.2.2.1 bt293.2.2.2.2.1 bt293.2.2.2.2.2.1 bt293.2.2.2.2.2.2.1 bt293.2.2.2.2.2.2.2.1 bt293.2.2.2.2.2.2.2.2).bind fun t312 => (if t312 = true then ((laws_toDesk.f k a1_0 a1_1 l1_2 l1_3 a1_4 a1_5 l1_6 l1_7 l1_8).bind fun bt313 => ((laws_eqDesk.f k bt272.1 bt272.2.1 bt272.2.2.1 bt272.2.2.2.1 bt272.2.2.2.2.1 bt272.2.2.2.2.2.1 bt272.2.2.2.2.2.2.1 bt272.2.2.2.2.2.2.2.1 bt272.2.2.2.2.2.2.2.2 bt313.1 bt313.2.1 bt313.2.2.1 bt313.2.2.2.1 bt313.2.2.2.2.1 bt313.2.2.2.2.2.1 bt313.2.2.2.2.2.2.1 bt313.2.2.2.2.2.2.2.1 bt313.2.2.2.2.2.2.2.2).bind fun t332 => (if t332 = true then (some true) else (some false)))) else (some false))))))))))))))) = some r := h
  clear h
  replace H := Option.bind_eq_some_iff.mp H
  obtain ⟨t211, A30, H⟩ := H
  replace H : (if t211 < 0 then (some true) else ((laws_szDesk.f a1_0 a1_1 l1_2 l1_3 a1_4 a1_5 l1_6 l1_7 l1_8 t211).bind fun t212 => (if t212 < 0 then (some true) else ((laws_toDesk.f k a0_0 a0_1 l0_2 l0_3 a0_4 a0_5 l0_6 l0_7 l0_8).bind fun bt213 => ((laws_toDesk.f k a1_0 a1_1 l1_2 l1_3 a1_4 a1_5 l1_6 l1_7 l1_8).bind fun bt232 => ((spec_SameDesk.f k bt213.1 bt213.2.1 bt213.2.2.1 bt213.2.2.2.1 bt213.2.2.2.2.1 bt213.2.2.2.2.2.1 bt213.2.2.2.2.2.2.1 bt213.2.2.2.2.2.2.2.1 bt213.2.2.2.2.2.2.2.2 bt232.1 bt232.2.1 bt232.2.2.1 bt232.2.2.2.1 bt232.2.2.2.2.1 bt232.2.2.2.2.2.1 bt232.2.2.2.2.2.2.1 bt232.2.2.2.2.2.2.2.1 bt232.2.2.2.2.2.2.2.2).bind fun t251 => ((laws_toDesk.f k a0_0 a0_1 l0_2 l0_3 a0_4 a0_5 l0_6 l0_7 l0_8).bind fun bt252 => ((laws_toDesk.f k a1_0 a1_1 l1_2 l1_3 a1_4 a1_5 l1_6 l1_7 l1_8).bind fun bt272 => ((impl_SameDesk.f k bt252.1 bt252.2.1 bt252.2.2.1 bt252.2.2.2.1 bt252.2.2.2.2.1 bt252.2.2.2.2.2.1 bt252.2.2.2.2.2.2.1 bt252.2.2.2.2.2.2.2.1 bt252.2.2.2.2.2.2.2.2 bt272.1 bt272.2.1 bt272.2.2.1 bt272.2.2.2.1 bt272.2.2.2.2.1 bt272.2.2.2.2.2.1 bt272.2.2.2.2.2.2.1 bt272.2.2.2.2.2.2.2.1 bt272.2.2.2.2.2.2.2.2).bind fun t292 => (if (t292 != t251) = true then (some false) else ((laws_toDesk.f k a0_0 a0_1 l0_2 l0_3 a0_4 a0_5 l0_6 l0_7 l0_8).bind fun bt293 => ((laws_eqDesk.f k bt252.1 bt252.2.1 bt252.2.2.1 bt252.2.2.2.1 bt252.2.2.2.2.1 bt252.2.2.2.2.2.1 bt252.2.2.2.2.2.2.1 bt252.2.2.2.2.2.2.2.1 bt252.2.2.2.2.2.2.2.2 bt293.1 bt293.2.1 bt293.2.2.1 bt293.2.2.2.1 bt293.2.2.2.2.1 bt293.2.2.2.2.2.1 bt293.2.2.2.2.2.2.1 bt293.2.2.2.2.2.2.2.1 bt293.2.2.2.2.2.2.2.2).bind fun t312 => (if t312 = true then ((laws_toDesk.f k a1_0 a1_1 l1_2 l1_3 a1_4 a1_5 l1_6 l1_7 l1_8).bind fun bt313 => ((laws_eqDesk.f k bt272.1 bt272.2.1 bt272.2.2.1 bt272.2.2.2.1 bt272.2.2.2.2.1 bt272.2.2.2.2.2.1 bt272.2.2.2.2.2.2.1 bt272.2.2.2.2.2.2.2.1 bt272.2.2.2.2.2.2.2.2 bt313.1 bt313.2.1 bt313.2.2.1 bt313.2.2.2.1 bt313.2.2.2.2.1 bt313.2.2.2.2.2.1 bt313.2.2.2.2.2.2.1 bt313.2.2.2.2.2.2.2.1 bt313.2.2.2.2.2.2.2.2).bind fun t332 => (if t332 = true then (some true) else (some false)))) else (some false)))))))))))))) = some r := H
  have A3 := Aside0.mk A30
  clear A30
  by_cases c4 : t211 < 0
  · rw [if_pos c4] at H
    have c4b0 : decide (t211 < 0) = true := decide_eq_true c4
    clear c4
    obtain rfl := Option.some.inj H
    go_enter Try.func5, Try.ntmps5
    go_wp2_with (first | ((with_reducible refine gate_dst (N := 2) rfl ?_); refine box_event ?hg (N := 2) ?hd (cs := #[.int .i64 a0_0, .int .i64 a0_1, .slice A0_2 l0_2.length c0_2, .slice A0_3 l0_3.length c0_3, .int .i64 a0_4, .int .i64 a0_5, .slice A0_6 l0_6.length c0_6, .slice A0_7 l0_7.length c0_7, .slice A0_8 l0_8.length c0_8]) (t := 42) ?hr ?_; (case hd => rfl); (case hg => rfl); (case hr => first | (go_simp; done) | (go_simp; rfl)); intro gb209 hg w5 hbox hb; have n0_ := Aside0.mk (below_step (bk_ HB.out) hb); have n1_ := Aside0.mk (hbox); have n2_ := Aside0.mk ((by rw [hg]; exact (below_size (bk_ HB.out)) : w.heap.size ≤ gb209)); have n3_ := Aside0.mk ((by rw [hg]; exact (below_size (bk_ HB.out)) : w.heap.size ≤ gb209)); clear HB; have HB := n0_; have BK209 := n1_; have GW209 := n2_; have GE209 := n3_; clear n0_ n1_ n2_ n3_; clear hb hbox hg) | ((with_reducible refine gate_dst (N := 3) rfl ?_); refine box_event ?hg (N := 3) ?hd (cs := #[.int .i64 a1_0, .int .i64 a1_1, .slice A1_2 l1_2.length c1_2, .slice A1_3 l1_3.length c1_3, .int .i64 a1_4, .int .i64 a1_5, .slice A1_6 l1_6.length c1_6, .slice A1_7 l1_7.length c1_7, .slice A1_8 l1_8.length c1_8]) (t := 42) ?hr ?_; (case hd => rfl); (case hg => rfl); (case hr => first | (go_simp; done) | (go_simp; rfl)); intro gb210 hg w6 hbox hb; have n0_ := Aside0.mk (bb_ BK209.out hb); have n1_ := Aside0.mk (below_step (bk_ HB.out) hb); have n2_ := Aside0.mk (hbox); have n3_ := Aside0.mk ((by rw [hg]; exact (below_size (bk_ HB.out)) : w.heap.size ≤ gb210)); have n4_ := Aside0.mk ((by rw [hg]; exact (below_size (bk_ HB.out)) : w.heap.size ≤ gb210)); have n5_ := Aside0.mk ((by rw [hg]; exact Nat.ne_of_lt (bl_ BK209.out) : gb209 ≠ gb210)); have n6_ := Aside0.mk ((by rw [hg]; exact Nat.ne_of_gt (bl_ BK209.out) : gb210 ≠ gb209)); clear BK209; clear HB; have BK209 := n0_; have HB := n1_; have BK210 := n2_; have GW210 := n3_; have GE210 := n4_; have NB209_210 := n5_; have NB210_209 := n6_; clear n0_ n1_ n2_ n3_ n4_ n5_ n6_; clear hb hbox hg; have hnb7 := NB209_210.out; have hnc7 := NB210_209.out; have hcz8_0 := bc_ BK209.out 0 (.int .i64 a0_0); have hcz8_1 := bc_ BK209.out 1 (.int .i64 a0_1); have hcz8_2 := bc_ BK209.out 2 (.slice A0_2 l0_2.length c0_2); have hcz8_3 := bc_ BK209.out 3 (.slice A0_3 l0_3.length c0_3); have hcz8_4 := bc_ BK209.out 4 (.int .i64 a0_4); have hcz8_5 := bc_ BK209.out 5 (.int .i64 a0_5); have hcz8_6 := bc_ BK209.out 6 (.slice A0_6 l0_6.length c0_6); have hcz8_7 := bc_ BK209.out 7 (.slice A0_7 l0_7.length c0_7); have hcz8_8 := bc_ BK209.out 8 (.slice A0_8 l0_8.length c0_8); have hfz8_0 := blk_frozen BK209.out 0; have hfz8_1 := blk_frozen BK209.out 1; have hfz8_2 := blk_frozen BK209.out 2; have hfz8_3 := blk_frozen BK209.out 3; have hfz8_4 := blk_frozen BK209.out 4; have hfz8_5 := blk_frozen BK209.out 5; have hfz8_6 := blk_frozen BK209.out 6; have hfz8_7 := blk_frozen BK209.out 7; have hfz8_8 := blk_frozen BK209.out 8) | ((with_reducible refine gate_callee (f := 26) rfl ?_); refine goesL_ (some 12) rfl rfl Try.func26 (by kernel_rfl) rfl #[.agg #[.int .i64 a0_0, .int .i64 a0_1, .slice A0_2 l0_2.length c0_2, .slice A0_3 l0_3.length c0_3, .int .i64 a0_4, .int .i64 a0_5, .slice A0_6 l0_6.length c0_6, .slice A0_7 l0_7.length c0_7, .slice A0_8 l0_8.length c0_8], .int .i64 1048576] rfl (by (try simp only [List.map_toArray, List.map_cons, List.map_nil]); first | done | rfl | (simp only [List.length_drop, List.length_take]; rfl)) ?_; (with_reducible refine (laws_szDesk.calls a0_0 a0_1 _ _ l0_2 _ _ l0_3 a0_4 a0_5 _ _ l0_6 _ _ l0_7 _ _ l0_8 1048576 t211 _ ?side1 ?side2 ?side3 ?side4 ?side5 ?side6 ?side7 ?side8 ?side9 ?side10 A3.out).mono ?_); (case side1 => exact ck_ (Kd.C_below HR0_2.out HB.out)); (case side2 => exact HC0_2.out); (case side3 => exact ck_ (Kd.C_below HR0_3.out HB.out)); (case side4 => exact HC0_3.out); (case side5 => exact ck_ (Kd.C_below HR0_6.out HB.out)); (case side6 => exact HC0_6.out); (case side7 => exact ck_ (Kd.C_below HR0_7.out HB.out)); (case side8 => exact HC0_7.out); (case side9 => exact ck_ (Kd.C_below HR0_8.out HB.out)); (case side10 => exact HC0_8.out); rintro e w9 ⟨rfl, hb⟩; refine ⟨_, rfl, ?_⟩; have n0_ := Aside0.mk (bb_ BK209.out hb); have n1_ := Aside0.mk (bb_ BK210.out hb); have n2_ := Aside0.mk (below_step (bk_ HB.out) hb); clear BK209; clear BK210; clear HB; have BK209 := n0_; have BK210 := n1_; have HB := n2_; clear n0_ n1_ n2_; (try clear hb); (try clear hb2); (try clear hk); (try clear hi)))
    go_ret
    exact ⟨by first | rfl | (simp [errW_none, errW_some] <;> rfl) | (simp [*, errW_none, errW_some] <;> rfl), bk_ HB.out⟩
  · rw [if_neg c4] at H
    have c4b0 : decide (t211 < 0) = false := decide_eq_false c4
    clear c4
    replace H := Option.bind_eq_some_iff.mp H
    obtain ⟨t212, A100, H⟩ := H
    replace H : (if t212 < 0 then (some true) else ((laws_toDesk.f k a0_0 a0_1 l0_2 l0_3 a0_4 a0_5 l0_6 l0_7 l0_8).bind fun bt213 => ((laws_toDesk.f k a1_0 a1_1 l1_2 l1_3 a1_4 a1_5 l1_6 l1_7 l1_8).bind fun bt232 => ((spec_SameDesk.f k bt213.1 bt213.2.1 bt213.2.2.1 bt213.2.2.2.1 bt213.2.2.2.2.1 bt213.2.2.2.2.2.1 bt213.2.2.2.2.2.2.1 bt213.2.2.2.2.2.2.2.1 bt213.2.2.2.2.2.2.2.2 bt232.1 bt232.2.1 bt232.2.2.1 bt232.2.2.2.1 bt232.2.2.2.2.1 bt232.2.2.2.2.2.1 bt232.2.2.2.2.2.2.1 bt232.2.2.2.2.2.2.2.1 bt232.2.2.2.2.2.2.2.2).bind fun t251 => ((laws_toDesk.f k a0_0 a0_1 l0_2 l0_3 a0_4 a0_5 l0_6 l0_7 l0_8).bind fun bt252 => ((laws_toDesk.f k a1_0 a1_1 l1_2 l1_3 a1_4 a1_5 l1_6 l1_7 l1_8).bind fun bt272 => ((impl_SameDesk.f k bt252.1 bt252.2.1 bt252.2.2.1 bt252.2.2.2.1 bt252.2.2.2.2.1 bt252.2.2.2.2.2.1 bt252.2.2.2.2.2.2.1 bt252.2.2.2.2.2.2.2.1 bt252.2.2.2.2.2.2.2.2 bt272.1 bt272.2.1 bt272.2.2.1 bt272.2.2.2.1 bt272.2.2.2.2.1 bt272.2.2.2.2.2.1 bt272.2.2.2.2.2.2.1 bt272.2.2.2.2.2.2.2.1 bt272.2.2.2.2.2.2.2.2).bind fun t292 => (if (t292 != t251) = true then (some false) else ((laws_toDesk.f k a0_0 a0_1 l0_2 l0_3 a0_4 a0_5 l0_6 l0_7 l0_8).bind fun bt293 => ((laws_eqDesk.f k bt252.1 bt252.2.1 bt252.2.2.1 bt252.2.2.2.1 bt252.2.2.2.2.1 bt252.2.2.2.2.2.1 bt252.2.2.2.2.2.2.1 bt252.2.2.2.2.2.2.2.1 bt252.2.2.2.2.2.2.2.2 bt293.1 bt293.2.1 bt293.2.2.1 bt293.2.2.2.1 bt293.2.2.2.2.1 bt293.2.2.2.2.2.1 bt293.2.2.2.2.2.2.1 bt293.2.2.2.2.2.2.2.1 bt293.2.2.2.2.2.2.2.2).bind fun t312 => (if t312 = true then ((laws_toDesk.f k a1_0 a1_1 l1_2 l1_3 a1_4 a1_5 l1_6 l1_7 l1_8).bind fun bt313 => ((laws_eqDesk.f k bt272.1 bt272.2.1 bt272.2.2.1 bt272.2.2.2.1 bt272.2.2.2.2.1 bt272.2.2.2.2.2.1 bt272.2.2.2.2.2.2.1 bt272.2.2.2.2.2.2.2.1 bt272.2.2.2.2.2.2.2.2 bt313.1 bt313.2.1 bt313.2.2.1 bt313.2.2.2.1 bt313.2.2.2.2.1 bt313.2.2.2.2.2.1 bt313.2.2.2.2.2.2.1 bt313.2.2.2.2.2.2.2.1 bt313.2.2.2.2.2.2.2.2).bind fun t332 => (if t332 = true then (some true) else (some false)))) else (some false)))))))))))) = some r := H
    have A10 := Aside0.mk A100
    clear A100
    by_cases c11 : t212 < 0
    · rw [if_pos c11] at H
      have c11b0 : decide (t212 < 0) = true := decide_eq_true c11
      clear c11
      obtain rfl := Option.some.inj H
      go_enter Try.func5, Try.ntmps5
      go_wp2_with (first | ((with_reducible refine gate_dst (N := 2) rfl ?_); refine box_event ?hg (N := 2) ?hd (cs := #[.int .i64 a0_0, .int .i64 a0_1, .slice A0_2 l0_2.length c0_2, .slice A0_3 l0_3.length c0_3, .int .i64 a0_4, .int .i64 a0_5, .slice A0_6 l0_6.length c0_6, .slice A0_7 l0_7.length c0_7, .slice A0_8 l0_8.length c0_8]) (t := 42) ?hr ?_; (case hd => rfl); (case hg => rfl); (case hr => first | (go_simp; done) | (go_simp; rfl)); intro gb209 hg w12 hbox hb; have n0_ := Aside0.mk (below_step (bk_ HB.out) hb); have n1_ := Aside0.mk (hbox); have n2_ := Aside0.mk ((by rw [hg]; exact (below_size (bk_ HB.out)) : w.heap.size ≤ gb209)); have n3_ := Aside0.mk ((by rw [hg]; exact (below_size (bk_ HB.out)) : w.heap.size ≤ gb209)); clear HB; have HB := n0_; have BK209 := n1_; have GW209 := n2_; have GE209 := n3_; clear n0_ n1_ n2_ n3_; clear hb hbox hg) | ((with_reducible refine gate_dst (N := 3) rfl ?_); refine box_event ?hg (N := 3) ?hd (cs := #[.int .i64 a1_0, .int .i64 a1_1, .slice A1_2 l1_2.length c1_2, .slice A1_3 l1_3.length c1_3, .int .i64 a1_4, .int .i64 a1_5, .slice A1_6 l1_6.length c1_6, .slice A1_7 l1_7.length c1_7, .slice A1_8 l1_8.length c1_8]) (t := 42) ?hr ?_; (case hd => rfl); (case hg => rfl); (case hr => first | (go_simp; done) | (go_simp; rfl)); intro gb210 hg w13 hbox hb; have n0_ := Aside0.mk (bb_ BK209.out hb); have n1_ := Aside0.mk (below_step (bk_ HB.out) hb); have n2_ := Aside0.mk (hbox); have n3_ := Aside0.mk ((by rw [hg]; exact (below_size (bk_ HB.out)) : w.heap.size ≤ gb210)); have n4_ := Aside0.mk ((by rw [hg]; exact (below_size (bk_ HB.out)) : w.heap.size ≤ gb210)); have n5_ := Aside0.mk ((by rw [hg]; exact Nat.ne_of_lt (bl_ BK209.out) : gb209 ≠ gb210)); have n6_ := Aside0.mk ((by rw [hg]; exact Nat.ne_of_gt (bl_ BK209.out) : gb210 ≠ gb209)); clear BK209; clear HB; have BK209 := n0_; have HB := n1_; have BK210 := n2_; have GW210 := n3_; have GE210 := n4_; have NB209_210 := n5_; have NB210_209 := n6_; clear n0_ n1_ n2_ n3_ n4_ n5_ n6_; clear hb hbox hg; have hnb14 := NB209_210.out; have hnc14 := NB210_209.out; have hcz15_0 := bc_ BK209.out 0 (.int .i64 a0_0); have hcz15_1 := bc_ BK209.out 1 (.int .i64 a0_1); have hcz15_2 := bc_ BK209.out 2 (.slice A0_2 l0_2.length c0_2); have hcz15_3 := bc_ BK209.out 3 (.slice A0_3 l0_3.length c0_3); have hcz15_4 := bc_ BK209.out 4 (.int .i64 a0_4); have hcz15_5 := bc_ BK209.out 5 (.int .i64 a0_5); have hcz15_6 := bc_ BK209.out 6 (.slice A0_6 l0_6.length c0_6); have hcz15_7 := bc_ BK209.out 7 (.slice A0_7 l0_7.length c0_7); have hcz15_8 := bc_ BK209.out 8 (.slice A0_8 l0_8.length c0_8); have hfz15_0 := blk_frozen BK209.out 0; have hfz15_1 := blk_frozen BK209.out 1; have hfz15_2 := blk_frozen BK209.out 2; have hfz15_3 := blk_frozen BK209.out 3; have hfz15_4 := blk_frozen BK209.out 4; have hfz15_5 := blk_frozen BK209.out 5; have hfz15_6 := blk_frozen BK209.out 6; have hfz15_7 := blk_frozen BK209.out 7; have hfz15_8 := blk_frozen BK209.out 8) | ((with_reducible refine gate_callee (f := 26) rfl ?_); refine goesL_ (some 12) rfl rfl Try.func26 (by kernel_rfl) rfl #[.agg #[.int .i64 a0_0, .int .i64 a0_1, .slice A0_2 l0_2.length c0_2, .slice A0_3 l0_3.length c0_3, .int .i64 a0_4, .int .i64 a0_5, .slice A0_6 l0_6.length c0_6, .slice A0_7 l0_7.length c0_7, .slice A0_8 l0_8.length c0_8], .int .i64 1048576] rfl (by (try simp only [List.map_toArray, List.map_cons, List.map_nil]); first | done | rfl | (simp only [List.length_drop, List.length_take]; rfl)) ?_; (with_reducible refine (laws_szDesk.calls a0_0 a0_1 _ _ l0_2 _ _ l0_3 a0_4 a0_5 _ _ l0_6 _ _ l0_7 _ _ l0_8 1048576 t211 _ ?side1 ?side2 ?side3 ?side4 ?side5 ?side6 ?side7 ?side8 ?side9 ?side10 A3.out).mono ?_); (case side1 => exact ck_ (Kd.C_below HR0_2.out HB.out)); (case side2 => exact HC0_2.out); (case side3 => exact ck_ (Kd.C_below HR0_3.out HB.out)); (case side4 => exact HC0_3.out); (case side5 => exact ck_ (Kd.C_below HR0_6.out HB.out)); (case side6 => exact HC0_6.out); (case side7 => exact ck_ (Kd.C_below HR0_7.out HB.out)); (case side8 => exact HC0_7.out); (case side9 => exact ck_ (Kd.C_below HR0_8.out HB.out)); (case side10 => exact HC0_8.out); rintro e w16 ⟨rfl, hb⟩; refine ⟨_, rfl, ?_⟩; have n0_ := Aside0.mk (bb_ BK209.out hb); have n1_ := Aside0.mk (bb_ BK210.out hb); have n2_ := Aside0.mk (below_step (bk_ HB.out) hb); clear BK209; clear BK210; clear HB; have BK209 := n0_; have BK210 := n1_; have HB := n2_; clear n0_ n1_ n2_; (try clear hb); (try clear hb2); (try clear hk); (try clear hi); have hcz17_0 := bc_ BK210.out 0 (.int .i64 a1_0); have hcz17_1 := bc_ BK210.out 1 (.int .i64 a1_1); have hcz17_2 := bc_ BK210.out 2 (.slice A1_2 l1_2.length c1_2); have hcz17_3 := bc_ BK210.out 3 (.slice A1_3 l1_3.length c1_3); have hcz17_4 := bc_ BK210.out 4 (.int .i64 a1_4); have hcz17_5 := bc_ BK210.out 5 (.int .i64 a1_5); have hcz17_6 := bc_ BK210.out 6 (.slice A1_6 l1_6.length c1_6); have hcz17_7 := bc_ BK210.out 7 (.slice A1_7 l1_7.length c1_7); have hcz17_8 := bc_ BK210.out 8 (.slice A1_8 l1_8.length c1_8); have hfz17_0 := blk_frozen BK210.out 0; have hfz17_1 := blk_frozen BK210.out 1; have hfz17_2 := blk_frozen BK210.out 2; have hfz17_3 := blk_frozen BK210.out 3; have hfz17_4 := blk_frozen BK210.out 4; have hfz17_5 := blk_frozen BK210.out 5; have hfz17_6 := blk_frozen BK210.out 6; have hfz17_7 := blk_frozen BK210.out 7; have hfz17_8 := blk_frozen BK210.out 8) | ((with_reducible refine gate_callee (f := 26) rfl ?_); refine goesL_ (some 17) rfl rfl Try.func26 (by kernel_rfl) rfl #[.agg #[.int .i64 a1_0, .int .i64 a1_1, .slice A1_2 l1_2.length c1_2, .slice A1_3 l1_3.length c1_3, .int .i64 a1_4, .int .i64 a1_5, .slice A1_6 l1_6.length c1_6, .slice A1_7 l1_7.length c1_7, .slice A1_8 l1_8.length c1_8], .int .i64 t211] rfl (by (try simp only [List.map_toArray, List.map_cons, List.map_nil]); first | done | rfl | (simp only [List.length_drop, List.length_take]; rfl)) ?_; (with_reducible refine (laws_szDesk.calls a1_0 a1_1 _ _ l1_2 _ _ l1_3 a1_4 a1_5 _ _ l1_6 _ _ l1_7 _ _ l1_8 t211 t212 _ ?side1 ?side2 ?side3 ?side4 ?side5 ?side6 ?side7 ?side8 ?side9 ?side10 A10.out).mono ?_); (case side1 => exact ck_ (Kd.C_below HR1_2.out HB.out)); (case side2 => exact HC1_2.out); (case side3 => exact ck_ (Kd.C_below HR1_3.out HB.out)); (case side4 => exact HC1_3.out); (case side5 => exact ck_ (Kd.C_below HR1_6.out HB.out)); (case side6 => exact HC1_6.out); (case side7 => exact ck_ (Kd.C_below HR1_7.out HB.out)); (case side8 => exact HC1_7.out); (case side9 => exact ck_ (Kd.C_below HR1_8.out HB.out)); (case side10 => exact HC1_8.out); rintro e w18 ⟨rfl, hb⟩; refine ⟨_, rfl, ?_⟩; have n0_ := Aside0.mk (bb_ BK209.out hb); have n1_ := Aside0.mk (bb_ BK210.out hb); have n2_ := Aside0.mk (below_step (bk_ HB.out) hb); clear BK209; clear BK210; clear HB; have BK209 := n0_; have BK210 := n1_; have HB := n2_; clear n0_ n1_ n2_; (try clear hb); (try clear hb2); (try clear hk); (try clear hi)))
      go_ret
      exact ⟨by first | rfl | (simp [errW_none, errW_some] <;> rfl) | (simp [*, errW_none, errW_some] <;> rfl), bk_ HB.out⟩
    · rw [if_neg c11] at H
      have c11b0 : decide (t212 < 0) = false := decide_eq_false c11
      clear c11
      replace H := Option.bind_eq_some_iff.mp H
      obtain ⟨⟨t213, t214, t215, t218, t221, t222, t223, t226, t229⟩, A190, H⟩ := H
      replace H : ((laws_toDesk.f k a1_0 a1_1 l1_2 l1_3 a1_4 a1_5 l1_6 l1_7 l1_8).bind fun bt232 => ((spec_SameDesk.f k t213 t214 t215 t218 t221 t222 t223 t226 t229 bt232.1 bt232.2.1 bt232.2.2.1 bt232.2.2.2.1 bt232.2.2.2.2.1 bt232.2.2.2.2.2.1 bt232.2.2.2.2.2.2.1 bt232.2.2.2.2.2.2.2.1 bt232.2.2.2.2.2.2.2.2).bind fun t251 => ((laws_toDesk.f k a0_0 a0_1 l0_2 l0_3 a0_4 a0_5 l0_6 l0_7 l0_8).bind fun bt252 => ((laws_toDesk.f k a1_0 a1_1 l1_2 l1_3 a1_4 a1_5 l1_6 l1_7 l1_8).bind fun bt272 => ((impl_SameDesk.f k bt252.1 bt252.2.1 bt252.2.2.1 bt252.2.2.2.1 bt252.2.2.2.2.1 bt252.2.2.2.2.2.1 bt252.2.2.2.2.2.2.1 bt252.2.2.2.2.2.2.2.1 bt252.2.2.2.2.2.2.2.2 bt272.1 bt272.2.1 bt272.2.2.1 bt272.2.2.2.1 bt272.2.2.2.2.1 bt272.2.2.2.2.2.1 bt272.2.2.2.2.2.2.1 bt272.2.2.2.2.2.2.2.1 bt272.2.2.2.2.2.2.2.2).bind fun t292 => (if (t292 != t251) = true then (some false) else ((laws_toDesk.f k a0_0 a0_1 l0_2 l0_3 a0_4 a0_5 l0_6 l0_7 l0_8).bind fun bt293 => ((laws_eqDesk.f k bt252.1 bt252.2.1 bt252.2.2.1 bt252.2.2.2.1 bt252.2.2.2.2.1 bt252.2.2.2.2.2.1 bt252.2.2.2.2.2.2.1 bt252.2.2.2.2.2.2.2.1 bt252.2.2.2.2.2.2.2.2 bt293.1 bt293.2.1 bt293.2.2.1 bt293.2.2.2.1 bt293.2.2.2.2.1 bt293.2.2.2.2.2.1 bt293.2.2.2.2.2.2.1 bt293.2.2.2.2.2.2.2.1 bt293.2.2.2.2.2.2.2.2).bind fun t312 => (if t312 = true then ((laws_toDesk.f k a1_0 a1_1 l1_2 l1_3 a1_4 a1_5 l1_6 l1_7 l1_8).bind fun bt313 => ((laws_eqDesk.f k bt272.1 bt272.2.1 bt272.2.2.1 bt272.2.2.2.1 bt272.2.2.2.2.1 bt272.2.2.2.2.2.1 bt272.2.2.2.2.2.2.1 bt272.2.2.2.2.2.2.2.1 bt272.2.2.2.2.2.2.2.2 bt313.1 bt313.2.1 bt313.2.2.1 bt313.2.2.2.1 bt313.2.2.2.2.1 bt313.2.2.2.2.2.1 bt313.2.2.2.2.2.2.1 bt313.2.2.2.2.2.2.2.1 bt313.2.2.2.2.2.2.2.2).bind fun t332 => (if t332 = true then (some true) else (some false)))) else (some false)))))))))) = some r := H
      have A19 := Aside0.mk A190
      clear A190
      replace H := Option.bind_eq_some_iff.mp H
      obtain ⟨⟨t232, t233, t234, t237, t240, t241, t242, t245, t248⟩, A200, H⟩ := H
      replace H : ((spec_SameDesk.f k t213 t214 t215 t218 t221 t222 t223 t226 t229 t232 t233 t234 t237 t240 t241 t242 t245 t248).bind fun t251 => ((laws_toDesk.f k a0_0 a0_1 l0_2 l0_3 a0_4 a0_5 l0_6 l0_7 l0_8).bind fun bt252 => ((laws_toDesk.f k a1_0 a1_1 l1_2 l1_3 a1_4 a1_5 l1_6 l1_7 l1_8).bind fun bt272 => ((impl_SameDesk.f k bt252.1 bt252.2.1 bt252.2.2.1 bt252.2.2.2.1 bt252.2.2.2.2.1 bt252.2.2.2.2.2.1 bt252.2.2.2.2.2.2.1 bt252.2.2.2.2.2.2.2.1 bt252.2.2.2.2.2.2.2.2 bt272.1 bt272.2.1 bt272.2.2.1 bt272.2.2.2.1 bt272.2.2.2.2.1 bt272.2.2.2.2.2.1 bt272.2.2.2.2.2.2.1 bt272.2.2.2.2.2.2.2.1 bt272.2.2.2.2.2.2.2.2).bind fun t292 => (if (t292 != t251) = true then (some false) else ((laws_toDesk.f k a0_0 a0_1 l0_2 l0_3 a0_4 a0_5 l0_6 l0_7 l0_8).bind fun bt293 => ((laws_eqDesk.f k bt252.1 bt252.2.1 bt252.2.2.1 bt252.2.2.2.1 bt252.2.2.2.2.1 bt252.2.2.2.2.2.1 bt252.2.2.2.2.2.2.1 bt252.2.2.2.2.2.2.2.1 bt252.2.2.2.2.2.2.2.2 bt293.1 bt293.2.1 bt293.2.2.1 bt293.2.2.2.1 bt293.2.2.2.2.1 bt293.2.2.2.2.2.1 bt293.2.2.2.2.2.2.1 bt293.2.2.2.2.2.2.2.1 bt293.2.2.2.2.2.2.2.2).bind fun t312 => (if t312 = true then ((laws_toDesk.f k a1_0 a1_1 l1_2 l1_3 a1_4 a1_5 l1_6 l1_7 l1_8).bind fun bt313 => ((laws_eqDesk.f k bt272.1 bt272.2.1 bt272.2.2.1 bt272.2.2.2.1 bt272.2.2.2.2.1 bt272.2.2.2.2.2.1 bt272.2.2.2.2.2.2.1 bt272.2.2.2.2.2.2.2.1 bt272.2.2.2.2.2.2.2.2 bt313.1 bt313.2.1 bt313.2.2.1 bt313.2.2.2.1 bt313.2.2.2.2.1 bt313.2.2.2.2.2.1 bt313.2.2.2.2.2.2.1 bt313.2.2.2.2.2.2.2.1 bt313.2.2.2.2.2.2.2.2).bind fun t332 => (if t332 = true then (some true) else (some false)))) else (some false))))))))) = some r := H
      have A20 := Aside0.mk A200
      clear A200
      replace H := Option.bind_eq_some_iff.mp H
      obtain ⟨t251, A210, H⟩ := H
      replace H : ((laws_toDesk.f k a0_0 a0_1 l0_2 l0_3 a0_4 a0_5 l0_6 l0_7 l0_8).bind fun bt252 => ((laws_toDesk.f k a1_0 a1_1 l1_2 l1_3 a1_4 a1_5 l1_6 l1_7 l1_8).bind fun bt272 => ((impl_SameDesk.f k bt252.1 bt252.2.1 bt252.2.2.1 bt252.2.2.2.1 bt252.2.2.2.2.1 bt252.2.2.2.2.2.1 bt252.2.2.2.2.2.2.1 bt252.2.2.2.2.2.2.2.1 bt252.2.2.2.2.2.2.2.2 bt272.1 bt272.2.1 bt272.2.2.1 bt272.2.2.2.1 bt272.2.2.2.2.1 bt272.2.2.2.2.2.1 bt272.2.2.2.2.2.2.1 bt272.2.2.2.2.2.2.2.1 bt272.2.2.2.2.2.2.2.2).bind fun t292 => (if (t292 != t251) = true then (some false) else ((laws_toDesk.f k a0_0 a0_1 l0_2 l0_3 a0_4 a0_5 l0_6 l0_7 l0_8).bind fun bt293 => ((laws_eqDesk.f k bt252.1 bt252.2.1 bt252.2.2.1 bt252.2.2.2.1 bt252.2.2.2.2.1 bt252.2.2.2.2.2.1 bt252.2.2.2.2.2.2.1 bt252.2.2.2.2.2.2.2.1 bt252.2.2.2.2.2.2.2.2 bt293.1 bt293.2.1 bt293.2.2.1 bt293.2.2.2.1 bt293.2.2.2.2.1 bt293.2.2.2.2.2.1 bt293.2.2.2.2.2.2.1 bt293.2.2.2.2.2.2.2.1 bt293.2.2.2.2.2.2.2.2).bind fun t312 => (if t312 = true then ((laws_toDesk.f k a1_0 a1_1 l1_2 l1_3 a1_4 a1_5 l1_6 l1_7 l1_8).bind fun bt313 => ((laws_eqDesk.f k bt272.1 bt272.2.1 bt272.2.2.1 bt272.2.2.2.1 bt272.2.2.2.2.1 bt272.2.2.2.2.2.1 bt272.2.2.2.2.2.2.1 bt272.2.2.2.2.2.2.2.1 bt272.2.2.2.2.2.2.2.2 bt313.1 bt313.2.1 bt313.2.2.1 bt313.2.2.2.1 bt313.2.2.2.2.1 bt313.2.2.2.2.2.1 bt313.2.2.2.2.2.2.1 bt313.2.2.2.2.2.2.2.1 bt313.2.2.2.2.2.2.2.2).bind fun t332 => (if t332 = true then (some true) else (some false)))) else (some false)))))))) = some r := H
      have A21 := Aside0.mk A210
      clear A210
      replace H := Option.bind_eq_some_iff.mp H
      obtain ⟨⟨t252, t253, t254, t257, t260, t261, t262, t265, t268⟩, A220, H⟩ := H
      replace H : ((laws_toDesk.f k a1_0 a1_1 l1_2 l1_3 a1_4 a1_5 l1_6 l1_7 l1_8).bind fun bt272 => ((impl_SameDesk.f k t252 t253 t254 t257 t260 t261 t262 t265 t268 bt272.1 bt272.2.1 bt272.2.2.1 bt272.2.2.2.1 bt272.2.2.2.2.1 bt272.2.2.2.2.2.1 bt272.2.2.2.2.2.2.1 bt272.2.2.2.2.2.2.2.1 bt272.2.2.2.2.2.2.2.2).bind fun t292 => (if (t292 != t251) = true then (some false) else ((laws_toDesk.f k a0_0 a0_1 l0_2 l0_3 a0_4 a0_5 l0_6 l0_7 l0_8).bind fun bt293 => ((laws_eqDesk.f k t252 t253 t254 t257 t260 t261 t262 t265 t268 bt293.1 bt293.2.1 bt293.2.2.1 bt293.2.2.2.1 bt293.2.2.2.2.1 bt293.2.2.2.2.2.1 bt293.2.2.2.2.2.2.1 bt293.2.2.2.2.2.2.2.1 bt293.2.2.2.2.2.2.2.2).bind fun t312 => (if t312 = true then ((laws_toDesk.f k a1_0 a1_1 l1_2 l1_3 a1_4 a1_5 l1_6 l1_7 l1_8).bind fun bt313 => ((laws_eqDesk.f k bt272.1 bt272.2.1 bt272.2.2.1 bt272.2.2.2.1 bt272.2.2.2.2.1 bt272.2.2.2.2.2.1 bt272.2.2.2.2.2.2.1 bt272.2.2.2.2.2.2.2.1 bt272.2.2.2.2.2.2.2.2 bt313.1 bt313.2.1 bt313.2.2.1 bt313.2.2.2.1 bt313.2.2.2.2.1 bt313.2.2.2.2.2.1 bt313.2.2.2.2.2.2.1 bt313.2.2.2.2.2.2.2.1 bt313.2.2.2.2.2.2.2.2).bind fun t332 => (if t332 = true then (some true) else (some false)))) else (some false))))))) = some r := H
      have A22 := Aside0.mk A220
      clear A220
      replace H := Option.bind_eq_some_iff.mp H
      obtain ⟨⟨t272, t273, t274, t277, t280, t281, t282, t285, t288⟩, A230, H⟩ := H
      replace H : ((impl_SameDesk.f k t252 t253 t254 t257 t260 t261 t262 t265 t268 t272 t273 t274 t277 t280 t281 t282 t285 t288).bind fun t292 => (if (t292 != t251) = true then (some false) else ((laws_toDesk.f k a0_0 a0_1 l0_2 l0_3 a0_4 a0_5 l0_6 l0_7 l0_8).bind fun bt293 => ((laws_eqDesk.f k t252 t253 t254 t257 t260 t261 t262 t265 t268 bt293.1 bt293.2.1 bt293.2.2.1 bt293.2.2.2.1 bt293.2.2.2.2.1 bt293.2.2.2.2.2.1 bt293.2.2.2.2.2.2.1 bt293.2.2.2.2.2.2.2.1 bt293.2.2.2.2.2.2.2.2).bind fun t312 => (if t312 = true then ((laws_toDesk.f k a1_0 a1_1 l1_2 l1_3 a1_4 a1_5 l1_6 l1_7 l1_8).bind fun bt313 => ((laws_eqDesk.f k t272 t273 t274 t277 t280 t281 t282 t285 t288 bt313.1 bt313.2.1 bt313.2.2.1 bt313.2.2.2.1 bt313.2.2.2.2.1 bt313.2.2.2.2.2.1 bt313.2.2.2.2.2.2.1 bt313.2.2.2.2.2.2.2.1 bt313.2.2.2.2.2.2.2.2).bind fun t332 => (if t332 = true then (some true) else (some false)))) else (some false)))))) = some r := H
      have A23 := Aside0.mk A230
      clear A230
      replace H := Option.bind_eq_some_iff.mp H
      obtain ⟨t292, A240, H⟩ := H
      replace H : (if (t292 != t251) = true then (some false) else ((laws_toDesk.f k a0_0 a0_1 l0_2 l0_3 a0_4 a0_5 l0_6 l0_7 l0_8).bind fun bt293 => ((laws_eqDesk.f k t252 t253 t254 t257 t260 t261 t262 t265 t268 bt293.1 bt293.2.1 bt293.2.2.1 bt293.2.2.2.1 bt293.2.2.2.2.1 bt293.2.2.2.2.2.1 bt293.2.2.2.2.2.2.1 bt293.2.2.2.2.2.2.2.1 bt293.2.2.2.2.2.2.2.2).bind fun t312 => (if t312 = true then ((laws_toDesk.f k a1_0 a1_1 l1_2 l1_3 a1_4 a1_5 l1_6 l1_7 l1_8).bind fun bt313 => ((laws_eqDesk.f k t272 t273 t274 t277 t280 t281 t282 t285 t288 bt313.1 bt313.2.1 bt313.2.2.1 bt313.2.2.2.1 bt313.2.2.2.2.1 bt313.2.2.2.2.2.1 bt313.2.2.2.2.2.2.1 bt313.2.2.2.2.2.2.2.1 bt313.2.2.2.2.2.2.2.2).bind fun t332 => (if t332 = true then (some true) else (some false)))) else (some false))))) = some r := H
      have A24 := Aside0.mk A240
      clear A240
      by_cases c25 : (t292 != t251) = true
      · rw [if_pos c25] at H
        have c25b0 : (t292 != t251) = true := c25
        (try (have c25b1 : decide (t292 = t251) = false := by simpa using c25))
        (try (have c25b2 : (t292 == t251) = false := by simpa using c25))
        (try (have c25b3 : ¬ (t292 = t251) := by simpa using c25))
        clear c25
        exact absurd (Option.some.inj H) (by rw [hr_]; decide)
      · rw [if_neg c25] at H
        have c25b0 : (t292 != t251) = false := by simpa using c25
        (try (have c25b1 : decide (t292 = t251) = true := by simpa using c25))
        (try (have c25b2 : (t292 == t251) = true := by simpa using c25))
        clear c25
        replace H := Option.bind_eq_some_iff.mp H
        obtain ⟨⟨t293, t294, t295, t298, t301, t302, t303, t306, t309⟩, A260, H⟩ := H
        replace H : ((laws_eqDesk.f k t252 t253 t254 t257 t260 t261 t262 t265 t268 t293 t294 t295 t298 t301 t302 t303 t306 t309).bind fun t312 => (if t312 = true then ((laws_toDesk.f k a1_0 a1_1 l1_2 l1_3 a1_4 a1_5 l1_6 l1_7 l1_8).bind fun bt313 => ((laws_eqDesk.f k t272 t273 t274 t277 t280 t281 t282 t285 t288 bt313.1 bt313.2.1 bt313.2.2.1 bt313.2.2.2.1 bt313.2.2.2.2.1 bt313.2.2.2.2.2.1 bt313.2.2.2.2.2.2.1 bt313.2.2.2.2.2.2.2.1 bt313.2.2.2.2.2.2.2.2).bind fun t332 => (if t332 = true then (some true) else (some false)))) else (some false))) = some r := H
        have A26 := Aside0.mk A260
        clear A260
        replace H := Option.bind_eq_some_iff.mp H
        obtain ⟨t312, A270, H⟩ := H
        replace H : (if t312 = true then ((laws_toDesk.f k a1_0 a1_1 l1_2 l1_3 a1_4 a1_5 l1_6 l1_7 l1_8).bind fun bt313 => ((laws_eqDesk.f k t272 t273 t274 t277 t280 t281 t282 t285 t288 bt313.1 bt313.2.1 bt313.2.2.1 bt313.2.2.2.1 bt313.2.2.2.2.1 bt313.2.2.2.2.2.1 bt313.2.2.2.2.2.2.1 bt313.2.2.2.2.2.2.2.1 bt313.2.2.2.2.2.2.2.2).bind fun t332 => (if t332 = true then (some true) else (some false)))) else (some false)) = some r := H
        have A27 := Aside0.mk A270
        clear A270
        by_cases c28 : t312 = true
        · subst c28
          have H1 : ((laws_toDesk.f k a1_0 a1_1 l1_2 l1_3 a1_4 a1_5 l1_6 l1_7 l1_8).bind fun bt313 => ((laws_eqDesk.f k t272 t273 t274 t277 t280 t281 t282 t285 t288 bt313.1 bt313.2.1 bt313.2.2.1 bt313.2.2.2.1 bt313.2.2.2.2.1 bt313.2.2.2.2.2.1 bt313.2.2.2.2.2.2.1 bt313.2.2.2.2.2.2.2.1 bt313.2.2.2.2.2.2.2.2).bind fun t332 => (if t332 = true then (some true) else (some false)))) = some r := by rw [if_pos rfl] at H; exact H
          clear H
          have H := H1
          clear H1
          replace H := Option.bind_eq_some_iff.mp H
          obtain ⟨⟨t313, t314, t315, t318, t321, t322, t323, t326, t329⟩, A290, H⟩ := H
          replace H : ((laws_eqDesk.f k t272 t273 t274 t277 t280 t281 t282 t285 t288 t313 t314 t315 t318 t321 t322 t323 t326 t329).bind fun t332 => (if t332 = true then (some true) else (some false))) = some r := H
          have A29 := Aside0.mk A290
          clear A290
          replace H := Option.bind_eq_some_iff.mp H
          obtain ⟨t332, A300, H⟩ := H
          replace H : (if t332 = true then (some true) else (some false)) = some r := H
          have A30 := Aside0.mk A300
          clear A300
          by_cases c31 : t332 = true
          · subst c31
            have H1 : (some true) = some r := by rw [if_pos rfl] at H; exact H
            clear H
            have H := H1
            clear H1
            obtain rfl := Option.some.inj H
            go_enter Try.func5, Try.ntmps5
            try go_wp2_with (first | ((with_reducible refine gate_dst (N := 2) rfl ?_); refine box_event ?hg (N := 2) ?hd (cs := #[.int .i64 a0_0, .int .i64 a0_1, .slice A0_2 l0_2.length c0_2, .slice A0_3 l0_3.length c0_3, .int .i64 a0_4, .int .i64 a0_5, .slice A0_6 l0_6.length c0_6, .slice A0_7 l0_7.length c0_7, .slice A0_8 l0_8.length c0_8]) (t := 42) ?hr ?_; (case hd => rfl); (case hg => rfl); (case hr => first | (go_simp; done) | (go_simp; rfl)); intro gb209 hg w32 hbox hb; have n0_ := Aside0.mk (below_step (bk_ HB.out) hb); have n1_ := Aside0.mk (hbox); have n2_ := Aside0.mk ((by rw [hg]; exact (below_size (bk_ HB.out)) : w.heap.size ≤ gb209)); have n3_ := Aside0.mk ((by rw [hg]; exact (below_size (bk_ HB.out)) : w.heap.size ≤ gb209)); clear HB; have HB := n0_; have BK209 := n1_; have GW209 := n2_; have GE209 := n3_; clear n0_ n1_ n2_ n3_; clear hb hbox hg) | ((with_reducible refine gate_dst (N := 3) rfl ?_); refine box_event ?hg (N := 3) ?hd (cs := #[.int .i64 a1_0, .int .i64 a1_1, .slice A1_2 l1_2.length c1_2, .slice A1_3 l1_3.length c1_3, .int .i64 a1_4, .int .i64 a1_5, .slice A1_6 l1_6.length c1_6, .slice A1_7 l1_7.length c1_7, .slice A1_8 l1_8.length c1_8]) (t := 42) ?hr ?_; (case hd => rfl); (case hg => rfl); (case hr => first | (go_simp; done) | (go_simp; rfl)); intro gb210 hg w33 hbox hb; have n0_ := Aside0.mk (bb_ BK209.out hb); have n1_ := Aside0.mk (below_step (bk_ HB.out) hb); have n2_ := Aside0.mk (hbox); have n3_ := Aside0.mk ((by rw [hg]; exact (below_size (bk_ HB.out)) : w.heap.size ≤ gb210)); have n4_ := Aside0.mk ((by rw [hg]; exact (below_size (bk_ HB.out)) : w.heap.size ≤ gb210)); have n5_ := Aside0.mk ((by rw [hg]; exact Nat.ne_of_lt (bl_ BK209.out) : gb209 ≠ gb210)); have n6_ := Aside0.mk ((by rw [hg]; exact Nat.ne_of_gt (bl_ BK209.out) : gb210 ≠ gb209)); clear BK209; clear HB; have BK209 := n0_; have HB := n1_; have BK210 := n2_; have GW210 := n3_; have GE210 := n4_; have NB209_210 := n5_; have NB210_209 := n6_; clear n0_ n1_ n2_ n3_ n4_ n5_ n6_; clear hb hbox hg; have hnb34 := NB209_210.out; have hnc34 := NB210_209.out; have hcz35_0 := bc_ BK209.out 0 (.int .i64 a0_0); have hcz35_1 := bc_ BK209.out 1 (.int .i64 a0_1); have hcz35_2 := bc_ BK209.out 2 (.slice A0_2 l0_2.length c0_2); have hcz35_3 := bc_ BK209.out 3 (.slice A0_3 l0_3.length c0_3); have hcz35_4 := bc_ BK209.out 4 (.int .i64 a0_4); have hcz35_5 := bc_ BK209.out 5 (.int .i64 a0_5); have hcz35_6 := bc_ BK209.out 6 (.slice A0_6 l0_6.length c0_6); have hcz35_7 := bc_ BK209.out 7 (.slice A0_7 l0_7.length c0_7); have hcz35_8 := bc_ BK209.out 8 (.slice A0_8 l0_8.length c0_8); have hfz35_0 := blk_frozen BK209.out 0; have hfz35_1 := blk_frozen BK209.out 1; have hfz35_2 := blk_frozen BK209.out 2; have hfz35_3 := blk_frozen BK209.out 3; have hfz35_4 := blk_frozen BK209.out 4; have hfz35_5 := blk_frozen BK209.out 5; have hfz35_6 := blk_frozen BK209.out 6; have hfz35_7 := blk_frozen BK209.out 7; have hfz35_8 := blk_frozen BK209.out 8) | ((with_reducible refine gate_callee (f := 26) rfl ?_); refine goesL_ (some 12) rfl rfl Try.func26 (by kernel_rfl) rfl #[.agg #[.int .i64 a0_0, .int .i64 a0_1, .slice A0_2 l0_2.length c0_2, .slice A0_3 l0_3.length c0_3, .int .i64 a0_4, .int .i64 a0_5, .slice A0_6 l0_6.length c0_6, .slice A0_7 l0_7.length c0_7, .slice A0_8 l0_8.length c0_8], .int .i64 1048576] rfl (by (try simp only [List.map_toArray, List.map_cons, List.map_nil]); first | done | rfl | (simp only [List.length_drop, List.length_take]; rfl)) ?_; (with_reducible refine (laws_szDesk.calls a0_0 a0_1 _ _ l0_2 _ _ l0_3 a0_4 a0_5 _ _ l0_6 _ _ l0_7 _ _ l0_8 1048576 t211 _ ?side1 ?side2 ?side3 ?side4 ?side5 ?side6 ?side7 ?side8 ?side9 ?side10 A3.out).mono ?_); (case side1 => exact ck_ (Kd.C_below HR0_2.out HB.out)); (case side2 => exact HC0_2.out); (case side3 => exact ck_ (Kd.C_below HR0_3.out HB.out)); (case side4 => exact HC0_3.out); (case side5 => exact ck_ (Kd.C_below HR0_6.out HB.out)); (case side6 => exact HC0_6.out); (case side7 => exact ck_ (Kd.C_below HR0_7.out HB.out)); (case side8 => exact HC0_7.out); (case side9 => exact ck_ (Kd.C_below HR0_8.out HB.out)); (case side10 => exact HC0_8.out); rintro e w36 ⟨rfl, hb⟩; refine ⟨_, rfl, ?_⟩; have n0_ := Aside0.mk (bb_ BK209.out hb); have n1_ := Aside0.mk (bb_ BK210.out hb); have n2_ := Aside0.mk (below_step (bk_ HB.out) hb); clear BK209; clear BK210; clear HB; have BK209 := n0_; have BK210 := n1_; have HB := n2_; clear n0_ n1_ n2_; (try clear hb); (try clear hb2); (try clear hk); (try clear hi); have hcz37_0 := bc_ BK210.out 0 (.int .i64 a1_0); have hcz37_1 := bc_ BK210.out 1 (.int .i64 a1_1); have hcz37_2 := bc_ BK210.out 2 (.slice A1_2 l1_2.length c1_2); have hcz37_3 := bc_ BK210.out 3 (.slice A1_3 l1_3.length c1_3); have hcz37_4 := bc_ BK210.out 4 (.int .i64 a1_4); have hcz37_5 := bc_ BK210.out 5 (.int .i64 a1_5); have hcz37_6 := bc_ BK210.out 6 (.slice A1_6 l1_6.length c1_6); have hcz37_7 := bc_ BK210.out 7 (.slice A1_7 l1_7.length c1_7); have hcz37_8 := bc_ BK210.out 8 (.slice A1_8 l1_8.length c1_8); have hfz37_0 := blk_frozen BK210.out 0; have hfz37_1 := blk_frozen BK210.out 1; have hfz37_2 := blk_frozen BK210.out 2; have hfz37_3 := blk_frozen BK210.out 3; have hfz37_4 := blk_frozen BK210.out 4; have hfz37_5 := blk_frozen BK210.out 5; have hfz37_6 := blk_frozen BK210.out 6; have hfz37_7 := blk_frozen BK210.out 7; have hfz37_8 := blk_frozen BK210.out 8) | ((with_reducible refine gate_callee (f := 26) rfl ?_); refine goesL_ (some 17) rfl rfl Try.func26 (by kernel_rfl) rfl #[.agg #[.int .i64 a1_0, .int .i64 a1_1, .slice A1_2 l1_2.length c1_2, .slice A1_3 l1_3.length c1_3, .int .i64 a1_4, .int .i64 a1_5, .slice A1_6 l1_6.length c1_6, .slice A1_7 l1_7.length c1_7, .slice A1_8 l1_8.length c1_8], .int .i64 t211] rfl (by (try simp only [List.map_toArray, List.map_cons, List.map_nil]); first | done | rfl | (simp only [List.length_drop, List.length_take]; rfl)) ?_; (with_reducible refine (laws_szDesk.calls a1_0 a1_1 _ _ l1_2 _ _ l1_3 a1_4 a1_5 _ _ l1_6 _ _ l1_7 _ _ l1_8 t211 t212 _ ?side1 ?side2 ?side3 ?side4 ?side5 ?side6 ?side7 ?side8 ?side9 ?side10 A10.out).mono ?_); (case side1 => exact ck_ (Kd.C_below HR1_2.out HB.out)); (case side2 => exact HC1_2.out); (case side3 => exact ck_ (Kd.C_below HR1_3.out HB.out)); (case side4 => exact HC1_3.out); (case side5 => exact ck_ (Kd.C_below HR1_6.out HB.out)); (case side6 => exact HC1_6.out); (case side7 => exact ck_ (Kd.C_below HR1_7.out HB.out)); (case side8 => exact HC1_7.out); (case side9 => exact ck_ (Kd.C_below HR1_8.out HB.out)); (case side10 => exact HC1_8.out); rintro e w38 ⟨rfl, hb⟩; refine ⟨_, rfl, ?_⟩; have n0_ := Aside0.mk (bb_ BK209.out hb); have n1_ := Aside0.mk (bb_ BK210.out hb); have n2_ := Aside0.mk (below_step (bk_ HB.out) hb); clear BK209; clear BK210; clear HB; have BK209 := n0_; have BK210 := n1_; have HB := n2_; clear n0_ n1_ n2_; (try clear hb); (try clear hb2); (try clear hk); (try clear hi)))
            have n0_ := Aside0.mk (blk_drew BK209.out)
            have n1_ := Aside0.mk (blk_drew BK210.out)
            have n2_ := Aside0.mk (below_drew1 HB.out)
            clear BK209
            clear BK210
            clear HB
            have BK209 := n0_
            have BK210 := n1_
            have HB := n2_
            clear n0_ n1_ n2_
            refine start_ (n := 6) (S := fun w' => w'.cell? ⟨gb209, 0, none⟩ = some (.int .i64 a0_0) ∧ w'.cell? ⟨gb209, 1, none⟩ = some (.int .i64 a0_1) ∧ w'.cell? ⟨gb209, 2, none⟩ = some (.slice A0_2 l0_2.length c0_2) ∧ w'.cell? ⟨gb209, 3, none⟩ = some (.slice A0_3 l0_3.length c0_3) ∧ w'.cell? ⟨gb209, 4, none⟩ = some (.int .i64 a0_4) ∧ w'.cell? ⟨gb209, 5, none⟩ = some (.int .i64 a0_5) ∧ w'.cell? ⟨gb209, 6, none⟩ = some (.slice A0_6 l0_6.length c0_6) ∧ w'.cell? ⟨gb209, 7, none⟩ = some (.slice A0_7 l0_7.length c0_7) ∧ w'.cell? ⟨gb209, 8, none⟩ = some (.slice A0_8 l0_8.length c0_8) ∧ w'.cell? ⟨gb210, 0, none⟩ = some (.int .i64 a1_0) ∧ w'.cell? ⟨gb210, 1, none⟩ = some (.int .i64 a1_1) ∧ w'.cell? ⟨gb210, 2, none⟩ = some (.slice A1_2 l1_2.length c1_2) ∧ w'.cell? ⟨gb210, 3, none⟩ = some (.slice A1_3 l1_3.length c1_3) ∧ w'.cell? ⟨gb210, 4, none⟩ = some (.int .i64 a1_4) ∧ w'.cell? ⟨gb210, 5, none⟩ = some (.int .i64 a1_5) ∧ w'.cell? ⟨gb210, 6, none⟩ = some (.slice A1_6 l1_6.length c1_6) ∧ w'.cell? ⟨gb210, 7, none⟩ = some (.slice A1_7 l1_7.length c1_7) ∧ w'.cell? ⟨gb210, 8, none⟩ = some (.slice A1_8 l1_8.length c1_8)) (ds := []) #[false, false, false, false, false, false] (by kernel_rfl) rfl rfl ⟨(blk_cell BK209.out 0).trans rfl, (blk_cell BK209.out 1).trans rfl, (blk_cell BK209.out 2).trans rfl, (blk_cell BK209.out 3).trans rfl, (blk_cell BK209.out 4).trans rfl, (blk_cell BK209.out 5).trans rfl, (blk_cell BK209.out 6).trans rfl, (blk_cell BK209.out 7).trans rfl, (blk_cell BK209.out 8).trans rfl, (blk_cell BK210.out 0).trans rfl, (blk_cell BK210.out 1).trans rfl, (blk_cell BK210.out 2).trans rfl, (blk_cell BK210.out 3).trans rfl, (blk_cell BK210.out 4).trans rfl, (blk_cell BK210.out 5).trans rfl, (blk_cell BK210.out 6).trans rfl, (blk_cell BK210.out 7).trans rfl, (blk_cell BK210.out 8).trans rfl⟩ (fun hHeld => ?_)
            generalize w38.drew = w39 at BK209 BK210 HB hHeld ⊢
            refine take_ (i := 0) (N := some 20) (v := ?_) (a' := ?_) #[true, false, false, false, false, false] rfl rfl (by kernel_rfl) (fun _ _ _ h => h) (Or.inl ⟨by rfl, ?_⟩) hHeld ?_ ?_
            rotate_left
            · rintro w' ⟨s0, s1, s2, s3, s4, s5, s6, s7, s8, s9, s10, s11, s12, s13, s14, s15, s16, s17⟩
              go_simp
              with_reducible rfl
            rotate_left
            · simp only [Act.put, List.setIfInBounds_toArray, List.set_cons_zero, List.set_cons_succ, i64_w, i32_w]
              rfl
            refine take_ (i := 2) (N := some 22) (v := ?_) (a' := ?_) #[true, false, true, false, false, false] rfl rfl (by kernel_rfl) (fun _ _ _ h => h) (Or.inl ⟨by rfl, ?_⟩) hHeld ?_ ?_
            rotate_left
            · rintro w' ⟨s0, s1, s2, s3, s4, s5, s6, s7, s8, s9, s10, s11, s12, s13, s14, s15, s16, s17⟩
              go_simp
              with_reducible rfl
            rotate_left
            · simp only [Act.put, List.setIfInBounds_toArray, List.set_cons_zero, List.set_cons_succ, i64_w, i32_w]
              rfl
            refine one_ (i := 1) (N := some 21) #[true, true, true, false, false, false] rfl rfl (by kernel_rfl) (by decide) (fun K hK => ?_)
            refine goes_ Try.func28 (by kernel_rfl) rfl #[.agg #[.int .i64 a0_0, .int .i64 a0_1, .slice A0_2 l0_2.length c0_2, .slice A0_3 l0_3.length c0_3, .int .i64 a0_4, .int .i64 a0_5, .slice A0_6 l0_6.length c0_6, .slice A0_7 l0_7.length c0_7, .slice A0_8 l0_8.length c0_8]] (by rfl) rfl rfl (by (try simp only [List.map_toArray, List.map_cons, List.map_nil]); first | done | rfl | (simp only [List.length_drop, List.length_take]; rfl)) ?_
            with_reducible refine (laws_toDesk.calls k a0_0 a0_1 _ _ l0_2 _ _ l0_3 a0_4 a0_5 _ _ l0_6 _ _ l0_7 _ _ l0_8 t213 t214 t215 t218 t221 t222 t223 t226 t229 _ ?side1 ?side2 ?side3 ?side4 ?side5 ?side6 ?side7 ?side8 ?side9 ?side10 A19.out).mono ?_
            (case side1 => exact ck_ (Kd.C_below HR0_2.out HB.out))
            (case side2 => exact HC0_2.out)
            (case side3 => exact ck_ (Kd.C_below HR0_3.out HB.out))
            (case side4 => exact HC0_3.out)
            (case side5 => exact ck_ (Kd.C_below HR0_6.out HB.out))
            (case side6 => exact HC0_6.out)
            (case side7 => exact ck_ (Kd.C_below HR0_7.out HB.out))
            (case side8 => exact HC0_7.out)
            (case side9 => exact ck_ (Kd.C_below HR0_8.out HB.out))
            (case side10 => exact HC0_8.out)
            rintro e w40 ⟨v216, v219, v224, v227, v230, rfl, ho0, ho1, ho2, ho3, ho4, hb⟩
            refine ⟨_, rfl, ?_⟩
            have n0_ := Aside0.mk (Kd.R_lower ho0 (below_size (bk_ HB.out)))
            have n1_ := Aside0.mk (Kd.R_lower ho1 (below_size (bk_ HB.out)))
            have n2_ := Aside0.mk (Kd.R_lower ho2 (below_size (bk_ HB.out)))
            have n3_ := Aside0.mk (Kd.R_lower ho3 (below_size (bk_ HB.out)))
            have n4_ := Aside0.mk (Kd.R_lower ho4 (below_size (bk_ HB.out)))
            have n5_ := Aside0.mk (bb_ BK209.out hb)
            have n6_ := Aside0.mk (bb_ BK210.out hb)
            have n7_ := Aside0.mk (below_step (bk_ HB.out) hb)
            clear BK209
            clear BK210
            clear HB
            have HO217 := n0_
            have HO220 := n1_
            have HO225 := n2_
            have HO228 := n3_
            have HO231 := n4_
            have BK209 := n5_
            have BK210 := n6_
            have HB := n7_
            clear n0_ n1_ n2_ n3_ n4_ n5_ n6_ n7_
            (try clear hb)
            (try clear hb2)
            (try clear hk)
            (try clear hi)
            (try clear ho0)
            (try clear ho1)
            (try clear ho2)
            (try clear ho3)
            (try clear ho4)
            refine hK.out _ _ ⟨(blk_cell BK209.out 0).trans rfl, (blk_cell BK209.out 1).trans rfl, (blk_cell BK209.out 2).trans rfl, (blk_cell BK209.out 3).trans rfl, (blk_cell BK209.out 4).trans rfl, (blk_cell BK209.out 5).trans rfl, (blk_cell BK209.out 6).trans rfl, (blk_cell BK209.out 7).trans rfl, (blk_cell BK209.out 8).trans rfl, (blk_cell BK210.out 0).trans rfl, (blk_cell BK210.out 1).trans rfl, (blk_cell BK210.out 2).trans rfl, (blk_cell BK210.out 3).trans rfl, (blk_cell BK210.out 4).trans rfl, (blk_cell BK210.out 5).trans rfl, (blk_cell BK210.out 6).trans rfl, (blk_cell BK210.out 7).trans rfl, (blk_cell BK210.out 8).trans rfl⟩ (fun hHeld => ?_)
            clear hK K
            refine norm_ (a' := ?_) ?_ ?_
            rotate_left
            · show Act.put _ (some 21) _ = _
              simp only [Act.put, List.setIfInBounds_toArray, List.set_cons_zero, List.set_cons_succ, i64_w, i32_w]
              rfl
            refine one_ (i := 3) (N := some 23) #[true, true, true, true, false, false] rfl rfl (by kernel_rfl) (by decide) (fun K hK => ?_)
            refine goes_ Try.func28 (by kernel_rfl) rfl #[.agg #[.int .i64 a1_0, .int .i64 a1_1, .slice A1_2 l1_2.length c1_2, .slice A1_3 l1_3.length c1_3, .int .i64 a1_4, .int .i64 a1_5, .slice A1_6 l1_6.length c1_6, .slice A1_7 l1_7.length c1_7, .slice A1_8 l1_8.length c1_8]] (by rfl) rfl rfl (by (try simp only [List.map_toArray, List.map_cons, List.map_nil]); first | done | rfl | (simp only [List.length_drop, List.length_take]; rfl)) ?_
            with_reducible refine (laws_toDesk.calls k a1_0 a1_1 _ _ l1_2 _ _ l1_3 a1_4 a1_5 _ _ l1_6 _ _ l1_7 _ _ l1_8 t232 t233 t234 t237 t240 t241 t242 t245 t248 _ ?side1 ?side2 ?side3 ?side4 ?side5 ?side6 ?side7 ?side8 ?side9 ?side10 A20.out).mono ?_
            (case side1 => exact ck_ (Kd.C_below HR1_2.out HB.out))
            (case side2 => exact HC1_2.out)
            (case side3 => exact ck_ (Kd.C_below HR1_3.out HB.out))
            (case side4 => exact HC1_3.out)
            (case side5 => exact ck_ (Kd.C_below HR1_6.out HB.out))
            (case side6 => exact HC1_6.out)
            (case side7 => exact ck_ (Kd.C_below HR1_7.out HB.out))
            (case side8 => exact HC1_7.out)
            (case side9 => exact ck_ (Kd.C_below HR1_8.out HB.out))
            (case side10 => exact HC1_8.out)
            rintro e w41 ⟨v235, v238, v243, v246, v249, rfl, ho0, ho1, ho2, ho3, ho4, hb⟩
            refine ⟨_, rfl, ?_⟩
            have n0_ := Aside0.mk (Kd.R_mono (Kd.R_told (Kd.R_told (Kd.R_told (Kd.R_told (Kd.R_told (Kd.R_old (rk_ HO217.out) hb) (Kd.R_base ho0)) (Kd.R_base ho1)) (Kd.R_base ho2)) (Kd.R_base ho3)) (Kd.R_base ho4)) (fun _ h_ => h_.1))
            have n1_ := Aside0.mk (Kd.R_mono (Kd.R_told (Kd.R_told (Kd.R_told (Kd.R_told (Kd.R_told (Kd.R_old (rk_ HO220.out) hb) (Kd.R_base ho0)) (Kd.R_base ho1)) (Kd.R_base ho2)) (Kd.R_base ho3)) (Kd.R_base ho4)) (fun _ h_ => h_.1))
            have n2_ := Aside0.mk (Kd.R_mono (Kd.R_told (Kd.R_told (Kd.R_told (Kd.R_told (Kd.R_told (Kd.R_old (rk_ HO225.out) hb) (Kd.R_base ho0)) (Kd.R_base ho1)) (Kd.R_base ho2)) (Kd.R_base ho3)) (Kd.R_base ho4)) (fun _ h_ => h_.1))
            have n3_ := Aside0.mk (Kd.R_mono (Kd.R_told (Kd.R_told (Kd.R_told (Kd.R_told (Kd.R_told (Kd.R_old (rk_ HO228.out) hb) (Kd.R_base ho0)) (Kd.R_base ho1)) (Kd.R_base ho2)) (Kd.R_base ho3)) (Kd.R_base ho4)) (fun _ h_ => h_.1))
            have n4_ := Aside0.mk (Kd.R_mono (Kd.R_told (Kd.R_told (Kd.R_told (Kd.R_told (Kd.R_told (Kd.R_old (rk_ HO231.out) hb) (Kd.R_base ho0)) (Kd.R_base ho1)) (Kd.R_base ho2)) (Kd.R_base ho3)) (Kd.R_base ho4)) (fun _ h_ => h_.1))
            have n5_ := Aside0.mk (Kd.R_lower (Kd.R_new' (Kd.R_new' (Kd.R_new' (Kd.R_new' (Kd.R_new' ho0 (Kd.R_lt (rk_ HO217.out))) (Kd.R_lt (rk_ HO220.out))) (Kd.R_lt (rk_ HO225.out))) (Kd.R_lt (rk_ HO228.out))) (Kd.R_lt (rk_ HO231.out))) (below_size (bk_ HB.out)))
            have n6_ := Aside0.mk (Kd.R_lower (Kd.R_new' (Kd.R_new' (Kd.R_new' (Kd.R_new' (Kd.R_new' ho1 (Kd.R_lt (rk_ HO217.out))) (Kd.R_lt (rk_ HO220.out))) (Kd.R_lt (rk_ HO225.out))) (Kd.R_lt (rk_ HO228.out))) (Kd.R_lt (rk_ HO231.out))) (below_size (bk_ HB.out)))
            have n7_ := Aside0.mk (Kd.R_lower (Kd.R_new' (Kd.R_new' (Kd.R_new' (Kd.R_new' (Kd.R_new' ho2 (Kd.R_lt (rk_ HO217.out))) (Kd.R_lt (rk_ HO220.out))) (Kd.R_lt (rk_ HO225.out))) (Kd.R_lt (rk_ HO228.out))) (Kd.R_lt (rk_ HO231.out))) (below_size (bk_ HB.out)))
            have n8_ := Aside0.mk (Kd.R_lower (Kd.R_new' (Kd.R_new' (Kd.R_new' (Kd.R_new' (Kd.R_new' ho3 (Kd.R_lt (rk_ HO217.out))) (Kd.R_lt (rk_ HO220.out))) (Kd.R_lt (rk_ HO225.out))) (Kd.R_lt (rk_ HO228.out))) (Kd.R_lt (rk_ HO231.out))) (below_size (bk_ HB.out)))
            have n9_ := Aside0.mk (Kd.R_lower (Kd.R_new' (Kd.R_new' (Kd.R_new' (Kd.R_new' (Kd.R_new' ho4 (Kd.R_lt (rk_ HO217.out))) (Kd.R_lt (rk_ HO220.out))) (Kd.R_lt (rk_ HO225.out))) (Kd.R_lt (rk_ HO228.out))) (Kd.R_lt (rk_ HO231.out))) (below_size (bk_ HB.out)))
            have n10_ := Aside0.mk (bb_ BK209.out hb)
            have n11_ := Aside0.mk (bb_ BK210.out hb)
            have n12_ := Aside0.mk (below_step (bk_ HB.out) hb)
            clear HO217
            clear HO220
            clear HO225
            clear HO228
            clear HO231
            clear BK209
            clear BK210
            clear HB
            have HO217 := n0_
            have HO220 := n1_
            have HO225 := n2_
            have HO228 := n3_
            have HO231 := n4_
            have HO236 := n5_
            have HO239 := n6_
            have HO244 := n7_
            have HO247 := n8_
            have HO250 := n9_
            have BK209 := n10_
            have BK210 := n11_
            have HB := n12_
            clear n0_ n1_ n2_ n3_ n4_ n5_ n6_ n7_ n8_ n9_ n10_ n11_ n12_
            (try clear hb)
            (try clear hb2)
            (try clear hk)
            (try clear hi)
            (try clear ho0)
            (try clear ho1)
            (try clear ho2)
            (try clear ho3)
            (try clear ho4)
            obtain ⟨Ao42, co42, eo42⟩ := Kd.R_slice HO217.out
            (first | subst eo42 | (injection eo42 with f1_ f2_ f3_; have f4_ := f1_.symm; have f5_ := f3_.symm; clear f1_ f2_ f3_; subst f4_; subst f5_))
            obtain ⟨Ao43, co43, eo43⟩ := Kd.R_slice HO220.out
            (first | subst eo43 | (injection eo43 with f1_ f2_ f3_; have f4_ := f1_.symm; have f5_ := f3_.symm; clear f1_ f2_ f3_; subst f4_; subst f5_))
            obtain ⟨Ao44, co44, eo44⟩ := Kd.R_slice HO225.out
            (first | subst eo44 | (injection eo44 with f1_ f2_ f3_; have f4_ := f1_.symm; have f5_ := f3_.symm; clear f1_ f2_ f3_; subst f4_; subst f5_))
            obtain ⟨Ao45, co45, eo45⟩ := Kd.R_slice HO228.out
            (first | subst eo45 | (injection eo45 with f1_ f2_ f3_; have f4_ := f1_.symm; have f5_ := f3_.symm; clear f1_ f2_ f3_; subst f4_; subst f5_))
            obtain ⟨Ao46, co46, eo46⟩ := Kd.R_slice HO231.out
            (first | subst eo46 | (injection eo46 with f1_ f2_ f3_; have f4_ := f1_.symm; have f5_ := f3_.symm; clear f1_ f2_ f3_; subst f4_; subst f5_))
            obtain ⟨Ao47, co47, eo47⟩ := Kd.R_slice HO236.out
            (first | subst eo47 | (injection eo47 with f1_ f2_ f3_; have f4_ := f1_.symm; have f5_ := f3_.symm; clear f1_ f2_ f3_; subst f4_; subst f5_))
            obtain ⟨Ao48, co48, eo48⟩ := Kd.R_slice HO239.out
            (first | subst eo48 | (injection eo48 with f1_ f2_ f3_; have f4_ := f1_.symm; have f5_ := f3_.symm; clear f1_ f2_ f3_; subst f4_; subst f5_))
            obtain ⟨Ao49, co49, eo49⟩ := Kd.R_slice HO244.out
            (first | subst eo49 | (injection eo49 with f1_ f2_ f3_; have f4_ := f1_.symm; have f5_ := f3_.symm; clear f1_ f2_ f3_; subst f4_; subst f5_))
            obtain ⟨Ao50, co50, eo50⟩ := Kd.R_slice HO247.out
            (first | subst eo50 | (injection eo50 with f1_ f2_ f3_; have f4_ := f1_.symm; have f5_ := f3_.symm; clear f1_ f2_ f3_; subst f4_; subst f5_))
            obtain ⟨Ao51, co51, eo51⟩ := Kd.R_slice HO250.out
            (first | subst eo51 | (injection eo51 with f1_ f2_ f3_; have f4_ := f1_.symm; have f5_ := f3_.symm; clear f1_ f2_ f3_; subst f4_; subst f5_))
            refine hK.out _ _ ⟨(blk_cell BK209.out 0).trans rfl, (blk_cell BK209.out 1).trans rfl, (blk_cell BK209.out 2).trans rfl, (blk_cell BK209.out 3).trans rfl, (blk_cell BK209.out 4).trans rfl, (blk_cell BK209.out 5).trans rfl, (blk_cell BK209.out 6).trans rfl, (blk_cell BK209.out 7).trans rfl, (blk_cell BK209.out 8).trans rfl, (blk_cell BK210.out 0).trans rfl, (blk_cell BK210.out 1).trans rfl, (blk_cell BK210.out 2).trans rfl, (blk_cell BK210.out 3).trans rfl, (blk_cell BK210.out 4).trans rfl, (blk_cell BK210.out 5).trans rfl, (blk_cell BK210.out 6).trans rfl, (blk_cell BK210.out 7).trans rfl, (blk_cell BK210.out 8).trans rfl⟩ (fun hHeld => ?_)
            clear hK K
            refine norm_ (a' := ?_) ?_ ?_
            rotate_left
            · show Act.put _ (some 23) _ = _
              simp only [Act.put, List.setIfInBounds_toArray, List.set_cons_zero, List.set_cons_succ, i64_w, i32_w]
              rfl
            refine one_ (i := 4) (N := some 24) #[true, true, true, true, true, false] rfl rfl (by kernel_rfl) (by decide) (fun K hK => ?_)
            refine goes_ Try.func27 (by kernel_rfl) rfl #[.agg #[.int .i64 t213, .int .i64 t214, .slice Ao42 t215.length co42, .slice Ao43 t218.length co43, .int .i64 t221, .int .i64 t222, .slice Ao44 t223.length co44, .slice Ao45 t226.length co45, .slice Ao46 t229.length co46], .agg #[.int .i64 t232, .int .i64 t233, .slice Ao47 t234.length co47, .slice Ao48 t237.length co48, .int .i64 t240, .int .i64 t241, .slice Ao49 t242.length co49, .slice Ao50 t245.length co50, .slice Ao51 t248.length co51]] (by rfl) rfl rfl (by (try simp only [List.map_toArray, List.map_cons, List.map_nil]); first | done | rfl | (simp only [List.length_drop, List.length_take]; rfl)) ?_
            with_reducible refine (spec_SameDesk.calls k t213 t214 _ _ t215 _ _ t218 t221 t222 _ _ t223 _ _ t226 _ _ t229 t232 t233 _ _ t234 _ _ t237 t240 t241 _ _ t242 _ _ t245 _ _ t248 t251 _ ?side1 ?side2 ?side3 ?side4 ?side5 ?side6 ?side7 ?side8 ?side9 ?side10 ?side11 ?side12 ?side13 ?side14 ?side15 ?side16 ?side17 ?side18 ?side19 ?side20 A21.out).mono ?_
            (case side1 => repeat (first | exact (Kd.R_reads' HO217.out).2.2 | (with_reducible refine Kd.C_alloc ?_ _) | (with_reducible refine Kd.C_drewN ?_ _) | (with_reducible refine Kd.C_drew ?_)))
            (case side2 => exact (Kd.R_reads' HO217.out).2.1)
            (case side3 => repeat (first | exact (Kd.R_reads' HO220.out).2.2 | (with_reducible refine Kd.C_alloc ?_ _) | (with_reducible refine Kd.C_drewN ?_ _) | (with_reducible refine Kd.C_drew ?_)))
            (case side4 => exact (Kd.R_reads' HO220.out).2.1)
            (case side5 => repeat (first | exact (Kd.R_reads' HO225.out).2.2 | (with_reducible refine Kd.C_alloc ?_ _) | (with_reducible refine Kd.C_drewN ?_ _) | (with_reducible refine Kd.C_drew ?_)))
            (case side6 => exact (Kd.R_reads' HO225.out).2.1)
            (case side7 => repeat (first | exact (Kd.R_reads' HO228.out).2.2 | (with_reducible refine Kd.C_alloc ?_ _) | (with_reducible refine Kd.C_drewN ?_ _) | (with_reducible refine Kd.C_drew ?_)))
            (case side8 => exact (Kd.R_reads' HO228.out).2.1)
            (case side9 => repeat (first | exact (Kd.R_reads' HO231.out).2.2 | (with_reducible refine Kd.C_alloc ?_ _) | (with_reducible refine Kd.C_drewN ?_ _) | (with_reducible refine Kd.C_drew ?_)))
            (case side10 => exact (Kd.R_reads' HO231.out).2.1)
            (case side11 => repeat (first | exact (Kd.R_reads' HO236.out).2.2 | (with_reducible refine Kd.C_alloc ?_ _) | (with_reducible refine Kd.C_drewN ?_ _) | (with_reducible refine Kd.C_drew ?_)))
            (case side12 => exact (Kd.R_reads' HO236.out).2.1)
            (case side13 => repeat (first | exact (Kd.R_reads' HO239.out).2.2 | (with_reducible refine Kd.C_alloc ?_ _) | (with_reducible refine Kd.C_drewN ?_ _) | (with_reducible refine Kd.C_drew ?_)))
            (case side14 => exact (Kd.R_reads' HO239.out).2.1)
            (case side15 => repeat (first | exact (Kd.R_reads' HO244.out).2.2 | (with_reducible refine Kd.C_alloc ?_ _) | (with_reducible refine Kd.C_drewN ?_ _) | (with_reducible refine Kd.C_drew ?_)))
            (case side16 => exact (Kd.R_reads' HO244.out).2.1)
            (case side17 => repeat (first | exact (Kd.R_reads' HO247.out).2.2 | (with_reducible refine Kd.C_alloc ?_ _) | (with_reducible refine Kd.C_drewN ?_ _) | (with_reducible refine Kd.C_drew ?_)))
            (case side18 => exact (Kd.R_reads' HO247.out).2.1)
            (case side19 => repeat (first | exact (Kd.R_reads' HO250.out).2.2 | (with_reducible refine Kd.C_alloc ?_ _) | (with_reducible refine Kd.C_drewN ?_ _) | (with_reducible refine Kd.C_drew ?_)))
            (case side20 => exact (Kd.R_reads' HO250.out).2.1)
            rintro e w52 ⟨rfl, hb⟩
            refine ⟨_, rfl, ?_⟩
            have n0_ := Aside0.mk (Kd.R_below (rk_ HO217.out) hb)
            have n1_ := Aside0.mk (Kd.R_below (rk_ HO220.out) hb)
            have n2_ := Aside0.mk (Kd.R_below (rk_ HO225.out) hb)
            have n3_ := Aside0.mk (Kd.R_below (rk_ HO228.out) hb)
            have n4_ := Aside0.mk (Kd.R_below (rk_ HO231.out) hb)
            have n5_ := Aside0.mk (Kd.R_below (rk_ HO236.out) hb)
            have n6_ := Aside0.mk (Kd.R_below (rk_ HO239.out) hb)
            have n7_ := Aside0.mk (Kd.R_below (rk_ HO244.out) hb)
            have n8_ := Aside0.mk (Kd.R_below (rk_ HO247.out) hb)
            have n9_ := Aside0.mk (Kd.R_below (rk_ HO250.out) hb)
            have n10_ := Aside0.mk (bb_ BK209.out hb)
            have n11_ := Aside0.mk (bb_ BK210.out hb)
            have n12_ := Aside0.mk (below_step (bk_ HB.out) hb)
            clear HO217
            clear HO220
            clear HO225
            clear HO228
            clear HO231
            clear HO236
            clear HO239
            clear HO244
            clear HO247
            clear HO250
            clear BK209
            clear BK210
            clear HB
            have HO217 := n0_
            have HO220 := n1_
            have HO225 := n2_
            have HO228 := n3_
            have HO231 := n4_
            have HO236 := n5_
            have HO239 := n6_
            have HO244 := n7_
            have HO247 := n8_
            have HO250 := n9_
            have BK209 := n10_
            have BK210 := n11_
            have HB := n12_
            clear n0_ n1_ n2_ n3_ n4_ n5_ n6_ n7_ n8_ n9_ n10_ n11_ n12_
            (try clear hb)
            (try clear hb2)
            (try clear hk)
            (try clear hi)
            refine hK.out _ _ ⟨(blk_cell BK209.out 0).trans rfl, (blk_cell BK209.out 1).trans rfl, (blk_cell BK209.out 2).trans rfl, (blk_cell BK209.out 3).trans rfl, (blk_cell BK209.out 4).trans rfl, (blk_cell BK209.out 5).trans rfl, (blk_cell BK209.out 6).trans rfl, (blk_cell BK209.out 7).trans rfl, (blk_cell BK209.out 8).trans rfl, (blk_cell BK210.out 0).trans rfl, (blk_cell BK210.out 1).trans rfl, (blk_cell BK210.out 2).trans rfl, (blk_cell BK210.out 3).trans rfl, (blk_cell BK210.out 4).trans rfl, (blk_cell BK210.out 5).trans rfl, (blk_cell BK210.out 6).trans rfl, (blk_cell BK210.out 7).trans rfl, (blk_cell BK210.out 8).trans rfl⟩ (fun hHeld => ?_)
            clear hK K
            refine norm_ (a' := ?_) ?_ ?_
            rotate_left
            · show Act.put _ (some 24) _ = _
              simp only [Act.put, List.setIfInBounds_toArray, List.set_cons_zero, List.set_cons_succ, i64_w, i32_w]
              rfl
            refine pure_ (i := 5) (N := some 6) (v := ?_) (a' := ?_) #[true, true, true, true, true, true] rfl rfl (by kernel_rfl) (fun _ _ _ h => h) (Or.inl ⟨by rfl, ?_⟩) ?_ ?_
            rotate_left
            · intro w'
              go_simp
              with_reducible rfl
            rotate_left
            · simp only [Act.put, List.setIfInBounds_toArray, List.set_cons_zero, List.set_cons_succ, i64_w, i32_w]
              rfl
            refine done_ (by kernel_rfl) ?_
            have hcz53_0 := bc_ BK209.out 0 (.int .i64 a0_0)
            have hcz53_1 := bc_ BK209.out 1 (.int .i64 a0_1)
            have hcz53_2 := bc_ BK209.out 2 (.slice A0_2 l0_2.length c0_2)
            have hcz53_3 := bc_ BK209.out 3 (.slice A0_3 l0_3.length c0_3)
            have hcz53_4 := bc_ BK209.out 4 (.int .i64 a0_4)
            have hcz53_5 := bc_ BK209.out 5 (.int .i64 a0_5)
            have hcz53_6 := bc_ BK209.out 6 (.slice A0_6 l0_6.length c0_6)
            have hcz53_7 := bc_ BK209.out 7 (.slice A0_7 l0_7.length c0_7)
            have hcz53_8 := bc_ BK209.out 8 (.slice A0_8 l0_8.length c0_8)
            have hfz53_0 := blk_frozen BK209.out 0
            have hfz53_1 := blk_frozen BK209.out 1
            have hfz53_2 := blk_frozen BK209.out 2
            have hfz53_3 := blk_frozen BK209.out 3
            have hfz53_4 := blk_frozen BK209.out 4
            have hfz53_5 := blk_frozen BK209.out 5
            have hfz53_6 := blk_frozen BK209.out 6
            have hfz53_7 := blk_frozen BK209.out 7
            have hfz53_8 := blk_frozen BK209.out 8
            try go_wp2_with (first | ((with_reducible refine gate_callee (f := 28) rfl ?_); refine goesL_ (some 26) rfl rfl Try.func28 (by kernel_rfl) rfl #[.agg #[.int .i64 a0_0, .int .i64 a0_1, .slice A0_2 l0_2.length c0_2, .slice A0_3 l0_3.length c0_3, .int .i64 a0_4, .int .i64 a0_5, .slice A0_6 l0_6.length c0_6, .slice A0_7 l0_7.length c0_7, .slice A0_8 l0_8.length c0_8]] rfl (by (try simp only [List.map_toArray, List.map_cons, List.map_nil]); first | done | rfl | (simp only [List.length_drop, List.length_take]; rfl)) ?_; (with_reducible refine (laws_toDesk.calls k a0_0 a0_1 _ _ l0_2 _ _ l0_3 a0_4 a0_5 _ _ l0_6 _ _ l0_7 _ _ l0_8 t252 t253 t254 t257 t260 t261 t262 t265 t268 _ ?side1 ?side2 ?side3 ?side4 ?side5 ?side6 ?side7 ?side8 ?side9 ?side10 A22.out).mono ?_); (case side1 => exact ck_ (Kd.C_below HR0_2.out HB.out)); (case side2 => exact HC0_2.out); (case side3 => exact ck_ (Kd.C_below HR0_3.out HB.out)); (case side4 => exact HC0_3.out); (case side5 => exact ck_ (Kd.C_below HR0_6.out HB.out)); (case side6 => exact HC0_6.out); (case side7 => exact ck_ (Kd.C_below HR0_7.out HB.out)); (case side8 => exact HC0_7.out); (case side9 => exact ck_ (Kd.C_below HR0_8.out HB.out)); (case side10 => exact HC0_8.out); rintro e w54 ⟨v255, v258, v263, v266, v269, rfl, ho0, ho1, ho2, ho3, ho4, hb⟩; refine ⟨_, rfl, ?_⟩; have n0_ := Aside0.mk (Kd.R_mono (Kd.R_told (Kd.R_told (Kd.R_told (Kd.R_told (Kd.R_told (Kd.R_old (rk_ HO217.out) hb) (Kd.R_base ho0)) (Kd.R_base ho1)) (Kd.R_base ho2)) (Kd.R_base ho3)) (Kd.R_base ho4)) (fun _ h_ => h_.1)); have n1_ := Aside0.mk (Kd.R_mono (Kd.R_told (Kd.R_told (Kd.R_told (Kd.R_told (Kd.R_told (Kd.R_old (rk_ HO220.out) hb) (Kd.R_base ho0)) (Kd.R_base ho1)) (Kd.R_base ho2)) (Kd.R_base ho3)) (Kd.R_base ho4)) (fun _ h_ => h_.1)); have n2_ := Aside0.mk (Kd.R_mono (Kd.R_told (Kd.R_told (Kd.R_told (Kd.R_told (Kd.R_told (Kd.R_old (rk_ HO225.out) hb) (Kd.R_base ho0)) (Kd.R_base ho1)) (Kd.R_base ho2)) (Kd.R_base ho3)) (Kd.R_base ho4)) (fun _ h_ => h_.1)); have n3_ := Aside0.mk (Kd.R_mono (Kd.R_told (Kd.R_told (Kd.R_told (Kd.R_told (Kd.R_told (Kd.R_old (rk_ HO228.out) hb) (Kd.R_base ho0)) (Kd.R_base ho1)) (Kd.R_base ho2)) (Kd.R_base ho3)) (Kd.R_base ho4)) (fun _ h_ => h_.1)); have n4_ := Aside0.mk (Kd.R_mono (Kd.R_told (Kd.R_told (Kd.R_told (Kd.R_told (Kd.R_told (Kd.R_old (rk_ HO231.out) hb) (Kd.R_base ho0)) (Kd.R_base ho1)) (Kd.R_base ho2)) (Kd.R_base ho3)) (Kd.R_base ho4)) (fun _ h_ => h_.1)); have n5_ := Aside0.mk (Kd.R_mono (Kd.R_told (Kd.R_told (Kd.R_told (Kd.R_told (Kd.R_told (Kd.R_old (rk_ HO236.out) hb) (Kd.R_base ho0)) (Kd.R_base ho1)) (Kd.R_base ho2)) (Kd.R_base ho3)) (Kd.R_base ho4)) (fun _ h_ => h_.1)); have n6_ := Aside0.mk (Kd.R_mono (Kd.R_told (Kd.R_told (Kd.R_told (Kd.R_told (Kd.R_told (Kd.R_old (rk_ HO239.out) hb) (Kd.R_base ho0)) (Kd.R_base ho1)) (Kd.R_base ho2)) (Kd.R_base ho3)) (Kd.R_base ho4)) (fun _ h_ => h_.1)); have n7_ := Aside0.mk (Kd.R_mono (Kd.R_told (Kd.R_told (Kd.R_told (Kd.R_told (Kd.R_told (Kd.R_old (rk_ HO244.out) hb) (Kd.R_base ho0)) (Kd.R_base ho1)) (Kd.R_base ho2)) (Kd.R_base ho3)) (Kd.R_base ho4)) (fun _ h_ => h_.1)); have n8_ := Aside0.mk (Kd.R_mono (Kd.R_told (Kd.R_told (Kd.R_told (Kd.R_told (Kd.R_told (Kd.R_old (rk_ HO247.out) hb) (Kd.R_base ho0)) (Kd.R_base ho1)) (Kd.R_base ho2)) (Kd.R_base ho3)) (Kd.R_base ho4)) (fun _ h_ => h_.1)); have n9_ := Aside0.mk (Kd.R_mono (Kd.R_told (Kd.R_told (Kd.R_told (Kd.R_told (Kd.R_told (Kd.R_old (rk_ HO250.out) hb) (Kd.R_base ho0)) (Kd.R_base ho1)) (Kd.R_base ho2)) (Kd.R_base ho3)) (Kd.R_base ho4)) (fun _ h_ => h_.1)); have n10_ := Aside0.mk (Kd.R_lower (Kd.R_new' (Kd.R_new' (Kd.R_new' (Kd.R_new' (Kd.R_new' (Kd.R_new' (Kd.R_new' (Kd.R_new' (Kd.R_new' (Kd.R_new' ho0 (Kd.R_lt (rk_ HO217.out))) (Kd.R_lt (rk_ HO220.out))) (Kd.R_lt (rk_ HO225.out))) (Kd.R_lt (rk_ HO228.out))) (Kd.R_lt (rk_ HO231.out))) (Kd.R_lt (rk_ HO236.out))) (Kd.R_lt (rk_ HO239.out))) (Kd.R_lt (rk_ HO244.out))) (Kd.R_lt (rk_ HO247.out))) (Kd.R_lt (rk_ HO250.out))) (below_size (bk_ HB.out))); have n11_ := Aside0.mk (Kd.R_lower (Kd.R_new' (Kd.R_new' (Kd.R_new' (Kd.R_new' (Kd.R_new' (Kd.R_new' (Kd.R_new' (Kd.R_new' (Kd.R_new' (Kd.R_new' ho1 (Kd.R_lt (rk_ HO217.out))) (Kd.R_lt (rk_ HO220.out))) (Kd.R_lt (rk_ HO225.out))) (Kd.R_lt (rk_ HO228.out))) (Kd.R_lt (rk_ HO231.out))) (Kd.R_lt (rk_ HO236.out))) (Kd.R_lt (rk_ HO239.out))) (Kd.R_lt (rk_ HO244.out))) (Kd.R_lt (rk_ HO247.out))) (Kd.R_lt (rk_ HO250.out))) (below_size (bk_ HB.out))); have n12_ := Aside0.mk (Kd.R_lower (Kd.R_new' (Kd.R_new' (Kd.R_new' (Kd.R_new' (Kd.R_new' (Kd.R_new' (Kd.R_new' (Kd.R_new' (Kd.R_new' (Kd.R_new' ho2 (Kd.R_lt (rk_ HO217.out))) (Kd.R_lt (rk_ HO220.out))) (Kd.R_lt (rk_ HO225.out))) (Kd.R_lt (rk_ HO228.out))) (Kd.R_lt (rk_ HO231.out))) (Kd.R_lt (rk_ HO236.out))) (Kd.R_lt (rk_ HO239.out))) (Kd.R_lt (rk_ HO244.out))) (Kd.R_lt (rk_ HO247.out))) (Kd.R_lt (rk_ HO250.out))) (below_size (bk_ HB.out))); have n13_ := Aside0.mk (Kd.R_lower (Kd.R_new' (Kd.R_new' (Kd.R_new' (Kd.R_new' (Kd.R_new' (Kd.R_new' (Kd.R_new' (Kd.R_new' (Kd.R_new' (Kd.R_new' ho3 (Kd.R_lt (rk_ HO217.out))) (Kd.R_lt (rk_ HO220.out))) (Kd.R_lt (rk_ HO225.out))) (Kd.R_lt (rk_ HO228.out))) (Kd.R_lt (rk_ HO231.out))) (Kd.R_lt (rk_ HO236.out))) (Kd.R_lt (rk_ HO239.out))) (Kd.R_lt (rk_ HO244.out))) (Kd.R_lt (rk_ HO247.out))) (Kd.R_lt (rk_ HO250.out))) (below_size (bk_ HB.out))); have n14_ := Aside0.mk (Kd.R_lower (Kd.R_new' (Kd.R_new' (Kd.R_new' (Kd.R_new' (Kd.R_new' (Kd.R_new' (Kd.R_new' (Kd.R_new' (Kd.R_new' (Kd.R_new' ho4 (Kd.R_lt (rk_ HO217.out))) (Kd.R_lt (rk_ HO220.out))) (Kd.R_lt (rk_ HO225.out))) (Kd.R_lt (rk_ HO228.out))) (Kd.R_lt (rk_ HO231.out))) (Kd.R_lt (rk_ HO236.out))) (Kd.R_lt (rk_ HO239.out))) (Kd.R_lt (rk_ HO244.out))) (Kd.R_lt (rk_ HO247.out))) (Kd.R_lt (rk_ HO250.out))) (below_size (bk_ HB.out))); have n15_ := Aside0.mk (bb_ BK209.out hb); have n16_ := Aside0.mk (bb_ BK210.out hb); have n17_ := Aside0.mk (below_step (bk_ HB.out) hb); clear HO217; clear HO220; clear HO225; clear HO228; clear HO231; clear HO236; clear HO239; clear HO244; clear HO247; clear HO250; clear BK209; clear BK210; clear HB; have HO217 := n0_; have HO220 := n1_; have HO225 := n2_; have HO228 := n3_; have HO231 := n4_; have HO236 := n5_; have HO239 := n6_; have HO244 := n7_; have HO247 := n8_; have HO250 := n9_; have HO256 := n10_; have HO259 := n11_; have HO264 := n12_; have HO267 := n13_; have HO270 := n14_; have BK209 := n15_; have BK210 := n16_; have HB := n17_; clear n0_ n1_ n2_ n3_ n4_ n5_ n6_ n7_ n8_ n9_ n10_ n11_ n12_ n13_ n14_ n15_ n16_ n17_; (try clear hb); (try clear hb2); (try clear hk); (try clear hi); (try clear ho0); (try clear ho1); (try clear ho2); (try clear ho3); (try clear ho4)) | ((with_reducible refine gate_dst (N := 7) rfl ?_); refine box_event ?hg (N := 7) ?hd (cs := #[.int .i64 0, .int .i64 0, .slice none 0 0, .slice none 0 0, .int .i64 0, .int .i64 0, .slice none 0 0, .slice none 0 0, .slice none 0 0]) (t := 48) ?hr ?_; (case hd => rfl); (case hg => rfl); (case hr => first | (go_simp; done) | (go_simp; rfl)); intro gb271 hg w55 hbox hb; have n0_ := Aside0.mk (Kd.R_below (rk_ HO217.out) hb); have n1_ := Aside0.mk (Kd.R_below (rk_ HO220.out) hb); have n2_ := Aside0.mk (Kd.R_below (rk_ HO225.out) hb); have n3_ := Aside0.mk (Kd.R_below (rk_ HO228.out) hb); have n4_ := Aside0.mk (Kd.R_below (rk_ HO231.out) hb); have n5_ := Aside0.mk (Kd.R_below (rk_ HO236.out) hb); have n6_ := Aside0.mk (Kd.R_below (rk_ HO239.out) hb); have n7_ := Aside0.mk (Kd.R_below (rk_ HO244.out) hb); have n8_ := Aside0.mk (Kd.R_below (rk_ HO247.out) hb); have n9_ := Aside0.mk (Kd.R_below (rk_ HO250.out) hb); have n10_ := Aside0.mk (Kd.R_below (rk_ HO256.out) hb); have n11_ := Aside0.mk (Kd.R_below (rk_ HO259.out) hb); have n12_ := Aside0.mk (Kd.R_below (rk_ HO264.out) hb); have n13_ := Aside0.mk (Kd.R_below (rk_ HO267.out) hb); have n14_ := Aside0.mk (Kd.R_below (rk_ HO270.out) hb); have n15_ := Aside0.mk (bb_ BK209.out hb); have n16_ := Aside0.mk (bb_ BK210.out hb); have n17_ := Aside0.mk (below_step (bk_ HB.out) hb); have n18_ := Aside0.mk (hbox); have n19_ := Aside0.mk ((by rw [hg]; exact (below_size (bk_ HB.out)) : w.heap.size ≤ gb271)); have n20_ := Aside0.mk ((by rw [hg]; exact (below_size (bk_ HB.out)) : w.heap.size ≤ gb271)); have n21_ := Aside0.mk ((by rw [hg]; exact Nat.ne_of_lt (bl_ BK209.out) : gb209 ≠ gb271)); have n22_ := Aside0.mk ((by rw [hg]; exact Nat.ne_of_gt (bl_ BK209.out) : gb271 ≠ gb209)); have n23_ := Aside0.mk ((by rw [hg]; exact Nat.ne_of_lt (bl_ BK210.out) : gb210 ≠ gb271)); have n24_ := Aside0.mk ((by rw [hg]; exact Nat.ne_of_gt (bl_ BK210.out) : gb271 ≠ gb210)); clear HO217; clear HO220; clear HO225; clear HO228; clear HO231; clear HO236; clear HO239; clear HO244; clear HO247; clear HO250; clear HO256; clear HO259; clear HO264; clear HO267; clear HO270; clear BK209; clear BK210; clear HB; have HO217 := n0_; have HO220 := n1_; have HO225 := n2_; have HO228 := n3_; have HO231 := n4_; have HO236 := n5_; have HO239 := n6_; have HO244 := n7_; have HO247 := n8_; have HO250 := n9_; have HO256 := n10_; have HO259 := n11_; have HO264 := n12_; have HO267 := n13_; have HO270 := n14_; have BK209 := n15_; have BK210 := n16_; have HB := n17_; have BK271 := n18_; have GW271 := n19_; have GE271 := n20_; have NB209_271 := n21_; have NB271_209 := n22_; have NB210_271 := n23_; have NB271_210 := n24_; clear n0_ n1_ n2_ n3_ n4_ n5_ n6_ n7_ n8_ n9_ n10_ n11_ n12_ n13_ n14_ n15_ n16_ n17_ n18_ n19_ n20_ n21_ n22_ n23_ n24_; clear hb hbox hg; have hnb56 := NB271_209.out; have hnc56 := NB209_271.out; have hnb57 := NB271_210.out; have hnc57 := NB210_271.out; have hcz58_0 := bc_ BK271.out 0 (.int .i64 0); have hcz58_1 := bc_ BK271.out 1 (.int .i64 0); have hcz58_2 := bc_ BK271.out 2 (.slice none 0 0); have hcz58_3 := bc_ BK271.out 3 (.slice none 0 0); have hcz58_4 := bc_ BK271.out 4 (.int .i64 0); have hcz58_5 := bc_ BK271.out 5 (.int .i64 0); have hcz58_6 := bc_ BK271.out 6 (.slice none 0 0); have hcz58_7 := bc_ BK271.out 7 (.slice none 0 0); have hcz58_8 := bc_ BK271.out 8 (.slice none 0 0); have hfz58_0 := blk_frozen BK271.out 0; have hfz58_1 := blk_frozen BK271.out 1; have hfz58_2 := blk_frozen BK271.out 2; have hfz58_3 := blk_frozen BK271.out 3; have hfz58_4 := blk_frozen BK271.out 4; have hfz58_5 := blk_frozen BK271.out 5; have hfz58_6 := blk_frozen BK271.out 6; have hfz58_7 := blk_frozen BK271.out 7; have hfz58_8 := blk_frozen BK271.out 8; obtain ⟨Ao59, co59, eo59⟩ := Kd.R_slice HO256.out; subst eo59; obtain ⟨Ao60, co60, eo60⟩ := Kd.R_slice HO259.out; subst eo60; obtain ⟨Ao61, co61, eo61⟩ := Kd.R_slice HO264.out; subst eo61; obtain ⟨Ao62, co62, eo62⟩ := Kd.R_slice HO267.out; subst eo62; obtain ⟨Ao63, co63, eo63⟩ := Kd.R_slice HO270.out; subst eo63; have hcz64_0 := bc_ BK210.out 0 (.int .i64 a1_0); have hcz64_1 := bc_ BK210.out 1 (.int .i64 a1_1); have hcz64_2 := bc_ BK210.out 2 (.slice A1_2 l1_2.length c1_2); have hcz64_3 := bc_ BK210.out 3 (.slice A1_3 l1_3.length c1_3); have hcz64_4 := bc_ BK210.out 4 (.int .i64 a1_4); have hcz64_5 := bc_ BK210.out 5 (.int .i64 a1_5); have hcz64_6 := bc_ BK210.out 6 (.slice A1_6 l1_6.length c1_6); have hcz64_7 := bc_ BK210.out 7 (.slice A1_7 l1_7.length c1_7); have hcz64_8 := bc_ BK210.out 8 (.slice A1_8 l1_8.length c1_8); have hfz64_0 := blk_frozen BK210.out 0; have hfz64_1 := blk_frozen BK210.out 1; have hfz64_2 := blk_frozen BK210.out 2; have hfz64_3 := blk_frozen BK210.out 3; have hfz64_4 := blk_frozen BK210.out 4; have hfz64_5 := blk_frozen BK210.out 5; have hfz64_6 := blk_frozen BK210.out 6; have hfz64_7 := blk_frozen BK210.out 7; have hfz64_8 := blk_frozen BK210.out 8) | ((with_reducible refine gate_callee (f := 28) rfl ?_); refine goesL_ (some 28) rfl rfl Try.func28 (by kernel_rfl) rfl #[.agg #[.int .i64 a1_0, .int .i64 a1_1, .slice A1_2 l1_2.length c1_2, .slice A1_3 l1_3.length c1_3, .int .i64 a1_4, .int .i64 a1_5, .slice A1_6 l1_6.length c1_6, .slice A1_7 l1_7.length c1_7, .slice A1_8 l1_8.length c1_8]] rfl (by (try simp only [List.map_toArray, List.map_cons, List.map_nil]); first | done | rfl | (simp only [List.length_drop, List.length_take]; rfl)) ?_; (with_reducible refine (laws_toDesk.calls k a1_0 a1_1 _ _ l1_2 _ _ l1_3 a1_4 a1_5 _ _ l1_6 _ _ l1_7 _ _ l1_8 t272 t273 t274 t277 t280 t281 t282 t285 t288 _ ?side1 ?side2 ?side3 ?side4 ?side5 ?side6 ?side7 ?side8 ?side9 ?side10 A23.out).mono ?_); (case side1 => exact Kd.C_below HR1_2.out (bk_ HB.out)); (case side2 => exact HC1_2.out); (case side3 => exact Kd.C_below HR1_3.out (bk_ HB.out)); (case side4 => exact HC1_3.out); (case side5 => exact Kd.C_below HR1_6.out (bk_ HB.out)); (case side6 => exact HC1_6.out); (case side7 => exact Kd.C_below HR1_7.out (bk_ HB.out)); (case side8 => exact HC1_7.out); (case side9 => exact Kd.C_below HR1_8.out (bk_ HB.out)); (case side10 => exact HC1_8.out); rintro e w65 ⟨v275, v278, v283, v286, v289, rfl, ho0, ho1, ho2, ho3, ho4, hb⟩; refine ⟨_, rfl, ?_⟩; have n0_ := Aside0.mk (Kd.R_mono (Kd.R_told (Kd.R_told (Kd.R_told (Kd.R_told (Kd.R_told (Kd.R_old (rx_ HO217.out BK271.out) hb) (Kd.R_base ho0)) (Kd.R_base ho1)) (Kd.R_base ho2)) (Kd.R_base ho3)) (Kd.R_base ho4)) (fun _ h_ => h_.1)); have n1_ := Aside0.mk (Kd.R_mono (Kd.R_told (Kd.R_told (Kd.R_told (Kd.R_told (Kd.R_told (Kd.R_old (rx_ HO220.out BK271.out) hb) (Kd.R_base ho0)) (Kd.R_base ho1)) (Kd.R_base ho2)) (Kd.R_base ho3)) (Kd.R_base ho4)) (fun _ h_ => h_.1)); have n2_ := Aside0.mk (Kd.R_mono (Kd.R_told (Kd.R_told (Kd.R_told (Kd.R_told (Kd.R_told (Kd.R_old (rx_ HO225.out BK271.out) hb) (Kd.R_base ho0)) (Kd.R_base ho1)) (Kd.R_base ho2)) (Kd.R_base ho3)) (Kd.R_base ho4)) (fun _ h_ => h_.1)); have n3_ := Aside0.mk (Kd.R_mono (Kd.R_told (Kd.R_told (Kd.R_told (Kd.R_told (Kd.R_told (Kd.R_old (rx_ HO228.out BK271.out) hb) (Kd.R_base ho0)) (Kd.R_base ho1)) (Kd.R_base ho2)) (Kd.R_base ho3)) (Kd.R_base ho4)) (fun _ h_ => h_.1)); have n4_ := Aside0.mk (Kd.R_mono (Kd.R_told (Kd.R_told (Kd.R_told (Kd.R_told (Kd.R_told (Kd.R_old (rx_ HO231.out BK271.out) hb) (Kd.R_base ho0)) (Kd.R_base ho1)) (Kd.R_base ho2)) (Kd.R_base ho3)) (Kd.R_base ho4)) (fun _ h_ => h_.1)); have n5_ := Aside0.mk (Kd.R_mono (Kd.R_told (Kd.R_told (Kd.R_told (Kd.R_told (Kd.R_told (Kd.R_old (rx_ HO236.out BK271.out) hb) (Kd.R_base ho0)) (Kd.R_base ho1)) (Kd.R_base ho2)) (Kd.R_base ho3)) (Kd.R_base ho4)) (fun _ h_ => h_.1)); have n6_ := Aside0.mk (Kd.R_mono (Kd.R_told (Kd.R_told (Kd.R_told (Kd.R_told (Kd.R_told (Kd.R_old (rx_ HO239.out BK271.out) hb) (Kd.R_base ho0)) (Kd.R_base ho1)) (Kd.R_base ho2)) (Kd.R_base ho3)) (Kd.R_base ho4)) (fun _ h_ => h_.1)); have n7_ := Aside0.mk (Kd.R_mono (Kd.R_told (Kd.R_told (Kd.R_told (Kd.R_told (Kd.R_told (Kd.R_old (rx_ HO244.out BK271.out) hb) (Kd.R_base ho0)) (Kd.R_base ho1)) (Kd.R_base ho2)) (Kd.R_base ho3)) (Kd.R_base ho4)) (fun _ h_ => h_.1)); have n8_ := Aside0.mk (Kd.R_mono (Kd.R_told (Kd.R_told (Kd.R_told (Kd.R_told (Kd.R_told (Kd.R_old (rx_ HO247.out BK271.out) hb) (Kd.R_base ho0)) (Kd.R_base ho1)) (Kd.R_base ho2)) (Kd.R_base ho3)) (Kd.R_base ho4)) (fun _ h_ => h_.1)); have n9_ := Aside0.mk (Kd.R_mono (Kd.R_told (Kd.R_told (Kd.R_told (Kd.R_told (Kd.R_told (Kd.R_old (rx_ HO250.out BK271.out) hb) (Kd.R_base ho0)) (Kd.R_base ho1)) (Kd.R_base ho2)) (Kd.R_base ho3)) (Kd.R_base ho4)) (fun _ h_ => h_.1)); have n10_ := Aside0.mk (Kd.R_mono (Kd.R_told (Kd.R_told (Kd.R_told (Kd.R_told (Kd.R_told (Kd.R_old (rx_ HO256.out BK271.out) hb) (Kd.R_base ho0)) (Kd.R_base ho1)) (Kd.R_base ho2)) (Kd.R_base ho3)) (Kd.R_base ho4)) (fun _ h_ => h_.1)); have n11_ := Aside0.mk (Kd.R_mono (Kd.R_told (Kd.R_told (Kd.R_told (Kd.R_told (Kd.R_told (Kd.R_old (rx_ HO259.out BK271.out) hb) (Kd.R_base ho0)) (Kd.R_base ho1)) (Kd.R_base ho2)) (Kd.R_base ho3)) (Kd.R_base ho4)) (fun _ h_ => h_.1)); have n12_ := Aside0.mk (Kd.R_mono (Kd.R_told (Kd.R_told (Kd.R_told (Kd.R_told (Kd.R_told (Kd.R_old (rx_ HO264.out BK271.out) hb) (Kd.R_base ho0)) (Kd.R_base ho1)) (Kd.R_base ho2)) (Kd.R_base ho3)) (Kd.R_base ho4)) (fun _ h_ => h_.1)); have n13_ := Aside0.mk (Kd.R_mono (Kd.R_told (Kd.R_told (Kd.R_told (Kd.R_told (Kd.R_told (Kd.R_old (rx_ HO267.out BK271.out) hb) (Kd.R_base ho0)) (Kd.R_base ho1)) (Kd.R_base ho2)) (Kd.R_base ho3)) (Kd.R_base ho4)) (fun _ h_ => h_.1)); have n14_ := Aside0.mk (Kd.R_mono (Kd.R_told (Kd.R_told (Kd.R_told (Kd.R_told (Kd.R_told (Kd.R_old (rx_ HO270.out BK271.out) hb) (Kd.R_base ho0)) (Kd.R_base ho1)) (Kd.R_base ho2)) (Kd.R_base ho3)) (Kd.R_base ho4)) (fun _ h_ => h_.1)); have n15_ := Aside0.mk (Kd.R_lower (Kd.R_new' (Kd.R_new' (Kd.R_new' (Kd.R_new' (Kd.R_new' (Kd.R_new' (Kd.R_new' (Kd.R_new' (Kd.R_new' (Kd.R_new' (Kd.R_new' (Kd.R_new' (Kd.R_new' (Kd.R_new' (Kd.R_new' ho0 (Kd.R_lt (rx_ HO217.out BK271.out))) (Kd.R_lt (rx_ HO220.out BK271.out))) (Kd.R_lt (rx_ HO225.out BK271.out))) (Kd.R_lt (rx_ HO228.out BK271.out))) (Kd.R_lt (rx_ HO231.out BK271.out))) (Kd.R_lt (rx_ HO236.out BK271.out))) (Kd.R_lt (rx_ HO239.out BK271.out))) (Kd.R_lt (rx_ HO244.out BK271.out))) (Kd.R_lt (rx_ HO247.out BK271.out))) (Kd.R_lt (rx_ HO250.out BK271.out))) (Kd.R_lt (rx_ HO256.out BK271.out))) (Kd.R_lt (rx_ HO259.out BK271.out))) (Kd.R_lt (rx_ HO264.out BK271.out))) (Kd.R_lt (rx_ HO267.out BK271.out))) (Kd.R_lt (rx_ HO270.out BK271.out))) (below_size (bk_ HB.out))); have n16_ := Aside0.mk (Kd.R_lower (Kd.R_new' (Kd.R_new' (Kd.R_new' (Kd.R_new' (Kd.R_new' (Kd.R_new' (Kd.R_new' (Kd.R_new' (Kd.R_new' (Kd.R_new' (Kd.R_new' (Kd.R_new' (Kd.R_new' (Kd.R_new' (Kd.R_new' ho1 (Kd.R_lt (rx_ HO217.out BK271.out))) (Kd.R_lt (rx_ HO220.out BK271.out))) (Kd.R_lt (rx_ HO225.out BK271.out))) (Kd.R_lt (rx_ HO228.out BK271.out))) (Kd.R_lt (rx_ HO231.out BK271.out))) (Kd.R_lt (rx_ HO236.out BK271.out))) (Kd.R_lt (rx_ HO239.out BK271.out))) (Kd.R_lt (rx_ HO244.out BK271.out))) (Kd.R_lt (rx_ HO247.out BK271.out))) (Kd.R_lt (rx_ HO250.out BK271.out))) (Kd.R_lt (rx_ HO256.out BK271.out))) (Kd.R_lt (rx_ HO259.out BK271.out))) (Kd.R_lt (rx_ HO264.out BK271.out))) (Kd.R_lt (rx_ HO267.out BK271.out))) (Kd.R_lt (rx_ HO270.out BK271.out))) (below_size (bk_ HB.out))); have n17_ := Aside0.mk (Kd.R_lower (Kd.R_new' (Kd.R_new' (Kd.R_new' (Kd.R_new' (Kd.R_new' (Kd.R_new' (Kd.R_new' (Kd.R_new' (Kd.R_new' (Kd.R_new' (Kd.R_new' (Kd.R_new' (Kd.R_new' (Kd.R_new' (Kd.R_new' ho2 (Kd.R_lt (rx_ HO217.out BK271.out))) (Kd.R_lt (rx_ HO220.out BK271.out))) (Kd.R_lt (rx_ HO225.out BK271.out))) (Kd.R_lt (rx_ HO228.out BK271.out))) (Kd.R_lt (rx_ HO231.out BK271.out))) (Kd.R_lt (rx_ HO236.out BK271.out))) (Kd.R_lt (rx_ HO239.out BK271.out))) (Kd.R_lt (rx_ HO244.out BK271.out))) (Kd.R_lt (rx_ HO247.out BK271.out))) (Kd.R_lt (rx_ HO250.out BK271.out))) (Kd.R_lt (rx_ HO256.out BK271.out))) (Kd.R_lt (rx_ HO259.out BK271.out))) (Kd.R_lt (rx_ HO264.out BK271.out))) (Kd.R_lt (rx_ HO267.out BK271.out))) (Kd.R_lt (rx_ HO270.out BK271.out))) (below_size (bk_ HB.out))); have n18_ := Aside0.mk (Kd.R_lower (Kd.R_new' (Kd.R_new' (Kd.R_new' (Kd.R_new' (Kd.R_new' (Kd.R_new' (Kd.R_new' (Kd.R_new' (Kd.R_new' (Kd.R_new' (Kd.R_new' (Kd.R_new' (Kd.R_new' (Kd.R_new' (Kd.R_new' ho3 (Kd.R_lt (rx_ HO217.out BK271.out))) (Kd.R_lt (rx_ HO220.out BK271.out))) (Kd.R_lt (rx_ HO225.out BK271.out))) (Kd.R_lt (rx_ HO228.out BK271.out))) (Kd.R_lt (rx_ HO231.out BK271.out))) (Kd.R_lt (rx_ HO236.out BK271.out))) (Kd.R_lt (rx_ HO239.out BK271.out))) (Kd.R_lt (rx_ HO244.out BK271.out))) (Kd.R_lt (rx_ HO247.out BK271.out))) (Kd.R_lt (rx_ HO250.out BK271.out))) (Kd.R_lt (rx_ HO256.out BK271.out))) (Kd.R_lt (rx_ HO259.out BK271.out))) (Kd.R_lt (rx_ HO264.out BK271.out))) (Kd.R_lt (rx_ HO267.out BK271.out))) (Kd.R_lt (rx_ HO270.out BK271.out))) (below_size (bk_ HB.out))); have n19_ := Aside0.mk (Kd.R_lower (Kd.R_new' (Kd.R_new' (Kd.R_new' (Kd.R_new' (Kd.R_new' (Kd.R_new' (Kd.R_new' (Kd.R_new' (Kd.R_new' (Kd.R_new' (Kd.R_new' (Kd.R_new' (Kd.R_new' (Kd.R_new' (Kd.R_new' ho4 (Kd.R_lt (rx_ HO217.out BK271.out))) (Kd.R_lt (rx_ HO220.out BK271.out))) (Kd.R_lt (rx_ HO225.out BK271.out))) (Kd.R_lt (rx_ HO228.out BK271.out))) (Kd.R_lt (rx_ HO231.out BK271.out))) (Kd.R_lt (rx_ HO236.out BK271.out))) (Kd.R_lt (rx_ HO239.out BK271.out))) (Kd.R_lt (rx_ HO244.out BK271.out))) (Kd.R_lt (rx_ HO247.out BK271.out))) (Kd.R_lt (rx_ HO250.out BK271.out))) (Kd.R_lt (rx_ HO256.out BK271.out))) (Kd.R_lt (rx_ HO259.out BK271.out))) (Kd.R_lt (rx_ HO264.out BK271.out))) (Kd.R_lt (rx_ HO267.out BK271.out))) (Kd.R_lt (rx_ HO270.out BK271.out))) (below_size (bk_ HB.out))); have n20_ := Aside0.mk (blk_below (g := gb209) (o := .cells #[.int .i64 a0_0, .int .i64 a0_1, .slice A0_2 l0_2.length c0_2, .slice A0_3 l0_3.length c0_3, .int .i64 a0_4, .int .i64 a0_5, .slice A0_6 l0_6.length c0_6, .slice A0_7 l0_7.length c0_7, .slice A0_8 l0_8.length c0_8] 42 (0, 0)) (by (with_reducible repeat (first | refine blk_drewN ?_ _ | refine blk_drew ?_ | refine blk_alloc ?_ _)); refine blk_far ?_ NB209_271.out _; (with_reducible repeat (first | refine blk_drewN ?_ _ | refine blk_drew ?_ | refine blk_alloc ?_ _)); refine blk_far ?_ NB209_271.out _; (with_reducible repeat (first | refine blk_drewN ?_ _ | refine blk_drew ?_ | refine blk_alloc ?_ _)); refine blk_far ?_ NB209_271.out _; (with_reducible repeat (first | refine blk_drewN ?_ _ | refine blk_drew ?_ | refine blk_alloc ?_ _)); refine blk_far ?_ NB209_271.out _; (with_reducible repeat (first | refine blk_drewN ?_ _ | refine blk_drew ?_ | refine blk_alloc ?_ _)); refine blk_far ?_ NB209_271.out _; (with_reducible repeat (first | refine blk_drewN ?_ _ | refine blk_drew ?_ | refine blk_alloc ?_ _)); refine blk_far ?_ NB209_271.out _; (with_reducible repeat (first | refine blk_drewN ?_ _ | refine blk_drew ?_ | refine blk_alloc ?_ _)); refine blk_far ?_ NB209_271.out _; (with_reducible repeat (first | refine blk_drewN ?_ _ | refine blk_drew ?_ | refine blk_alloc ?_ _)); refine blk_far ?_ NB209_271.out _; (with_reducible repeat (first | refine blk_drewN ?_ _ | refine blk_drew ?_ | refine blk_alloc ?_ _)); refine blk_far ?_ NB209_271.out _; (with_reducible repeat (first | refine blk_drewN ?_ _ | refine blk_drew ?_ | refine blk_alloc ?_ _)); exact BK209.out) hb); have n21_ := Aside0.mk (blk_below (g := gb210) (o := .cells #[.int .i64 a1_0, .int .i64 a1_1, .slice A1_2 l1_2.length c1_2, .slice A1_3 l1_3.length c1_3, .int .i64 a1_4, .int .i64 a1_5, .slice A1_6 l1_6.length c1_6, .slice A1_7 l1_7.length c1_7, .slice A1_8 l1_8.length c1_8] 42 (0, 0)) (by (with_reducible repeat (first | refine blk_drewN ?_ _ | refine blk_drew ?_ | refine blk_alloc ?_ _)); refine blk_far ?_ NB210_271.out _; (with_reducible repeat (first | refine blk_drewN ?_ _ | refine blk_drew ?_ | refine blk_alloc ?_ _)); refine blk_far ?_ NB210_271.out _; (with_reducible repeat (first | refine blk_drewN ?_ _ | refine blk_drew ?_ | refine blk_alloc ?_ _)); refine blk_far ?_ NB210_271.out _; (with_reducible repeat (first | refine blk_drewN ?_ _ | refine blk_drew ?_ | refine blk_alloc ?_ _)); refine blk_far ?_ NB210_271.out _; (with_reducible repeat (first | refine blk_drewN ?_ _ | refine blk_drew ?_ | refine blk_alloc ?_ _)); refine blk_far ?_ NB210_271.out _; (with_reducible repeat (first | refine blk_drewN ?_ _ | refine blk_drew ?_ | refine blk_alloc ?_ _)); refine blk_far ?_ NB210_271.out _; (with_reducible repeat (first | refine blk_drewN ?_ _ | refine blk_drew ?_ | refine blk_alloc ?_ _)); refine blk_far ?_ NB210_271.out _; (with_reducible repeat (first | refine blk_drewN ?_ _ | refine blk_drew ?_ | refine blk_alloc ?_ _)); refine blk_far ?_ NB210_271.out _; (with_reducible repeat (first | refine blk_drewN ?_ _ | refine blk_drew ?_ | refine blk_alloc ?_ _)); refine blk_far ?_ NB210_271.out _; (with_reducible repeat (first | refine blk_drewN ?_ _ | refine blk_drew ?_ | refine blk_alloc ?_ _)); exact BK210.out) hb); have n22_ := Aside0.mk (blk_below (g := gb271) (o := .cells #[.int .i64 t252, .int .i64 t253, .slice Ao59 t254.length co59, .slice Ao60 t257.length co60, .int .i64 t260, .int .i64 t261, .slice Ao61 t262.length co61, .slice Ao62 t265.length co62, .slice Ao63 t268.length co63] 48 (0, 0)) (by (with_reducible repeat (first | refine blk_drewN ?_ _ | refine blk_drew ?_ | refine blk_alloc ?_ _)); refine blk_put (cs := #[.int .i64 t252, .int .i64 t253, .slice Ao59 t254.length co59, .slice Ao60 t257.length co60, .int .i64 t260, .int .i64 t261, .slice Ao61 t262.length co61, .slice Ao62 t265.length co62, .slice none 0 0]) ?_ 8 _ rfl; (with_reducible repeat (first | refine blk_drewN ?_ _ | refine blk_drew ?_ | refine blk_alloc ?_ _)); refine blk_put (cs := #[.int .i64 t252, .int .i64 t253, .slice Ao59 t254.length co59, .slice Ao60 t257.length co60, .int .i64 t260, .int .i64 t261, .slice Ao61 t262.length co61, .slice none 0 0, .slice none 0 0]) ?_ 7 _ rfl; (with_reducible repeat (first | refine blk_drewN ?_ _ | refine blk_drew ?_ | refine blk_alloc ?_ _)); refine blk_put (cs := #[.int .i64 t252, .int .i64 t253, .slice Ao59 t254.length co59, .slice Ao60 t257.length co60, .int .i64 t260, .int .i64 t261, .slice none 0 0, .slice none 0 0, .slice none 0 0]) ?_ 6 _ rfl; (with_reducible repeat (first | refine blk_drewN ?_ _ | refine blk_drew ?_ | refine blk_alloc ?_ _)); refine blk_put (cs := #[.int .i64 t252, .int .i64 t253, .slice Ao59 t254.length co59, .slice Ao60 t257.length co60, .int .i64 t260, .int .i64 0, .slice none 0 0, .slice none 0 0, .slice none 0 0]) ?_ 5 _ rfl; (with_reducible repeat (first | refine blk_drewN ?_ _ | refine blk_drew ?_ | refine blk_alloc ?_ _)); refine blk_put (cs := #[.int .i64 t252, .int .i64 t253, .slice Ao59 t254.length co59, .slice Ao60 t257.length co60, .int .i64 0, .int .i64 0, .slice none 0 0, .slice none 0 0, .slice none 0 0]) ?_ 4 _ rfl; (with_reducible repeat (first | refine blk_drewN ?_ _ | refine blk_drew ?_ | refine blk_alloc ?_ _)); refine blk_put (cs := #[.int .i64 t252, .int .i64 t253, .slice Ao59 t254.length co59, .slice none 0 0, .int .i64 0, .int .i64 0, .slice none 0 0, .slice none 0 0, .slice none 0 0]) ?_ 3 _ rfl; (with_reducible repeat (first | refine blk_drewN ?_ _ | refine blk_drew ?_ | refine blk_alloc ?_ _)); refine blk_put (cs := #[.int .i64 t252, .int .i64 t253, .slice none 0 0, .slice none 0 0, .int .i64 0, .int .i64 0, .slice none 0 0, .slice none 0 0, .slice none 0 0]) ?_ 2 _ rfl; (with_reducible repeat (first | refine blk_drewN ?_ _ | refine blk_drew ?_ | refine blk_alloc ?_ _)); refine blk_put (cs := #[.int .i64 t252, .int .i64 0, .slice none 0 0, .slice none 0 0, .int .i64 0, .int .i64 0, .slice none 0 0, .slice none 0 0, .slice none 0 0]) ?_ 1 _ rfl; (with_reducible repeat (first | refine blk_drewN ?_ _ | refine blk_drew ?_ | refine blk_alloc ?_ _)); refine blk_put (cs := #[.int .i64 0, .int .i64 0, .slice none 0 0, .slice none 0 0, .int .i64 0, .int .i64 0, .slice none 0 0, .slice none 0 0, .slice none 0 0]) ?_ 0 _ rfl; (with_reducible repeat (first | refine blk_drewN ?_ _ | refine blk_drew ?_ | refine blk_alloc ?_ _)); exact BK271.out) hb); have n23_ := Aside0.mk (below_step (bk_ HB.out) hb); clear HO217; clear HO220; clear HO225; clear HO228; clear HO231; clear HO236; clear HO239; clear HO244; clear HO247; clear HO250; clear HO256; clear HO259; clear HO264; clear HO267; clear HO270; clear BK209; clear BK210; clear BK271; clear HB; have HO217 := n0_; have HO220 := n1_; have HO225 := n2_; have HO228 := n3_; have HO231 := n4_; have HO236 := n5_; have HO239 := n6_; have HO244 := n7_; have HO247 := n8_; have HO250 := n9_; have HO256 := n10_; have HO259 := n11_; have HO264 := n12_; have HO267 := n13_; have HO270 := n14_; have HO276 := n15_; have HO279 := n16_; have HO284 := n17_; have HO287 := n18_; have HO290 := n19_; have BK209 := n20_; have BK210 := n21_; have BK271 := n22_; have HB := n23_; clear n0_ n1_ n2_ n3_ n4_ n5_ n6_ n7_ n8_ n9_ n10_ n11_ n12_ n13_ n14_ n15_ n16_ n17_ n18_ n19_ n20_ n21_ n22_ n23_; (try clear hb); (try clear hb2); (try clear hk); (try clear hi); (try clear ho0); (try clear ho1); (try clear ho2); (try clear ho3); (try clear ho4)) | ((with_reducible refine gate_dst (N := 8) rfl ?_); refine box_event ?hg (N := 8) ?hd (cs := #[.int .i64 0, .int .i64 0, .slice none 0 0, .slice none 0 0, .int .i64 0, .int .i64 0, .slice none 0 0, .slice none 0 0, .slice none 0 0]) (t := 48) ?hr ?_; (case hd => rfl); (case hg => rfl); (case hr => first | (go_simp; done) | (go_simp; rfl)); intro gb291 hg w66 hbox hb; have n0_ := Aside0.mk (Kd.R_below (rk_ HO217.out) hb); have n1_ := Aside0.mk (Kd.R_below (rk_ HO220.out) hb); have n2_ := Aside0.mk (Kd.R_below (rk_ HO225.out) hb); have n3_ := Aside0.mk (Kd.R_below (rk_ HO228.out) hb); have n4_ := Aside0.mk (Kd.R_below (rk_ HO231.out) hb); have n5_ := Aside0.mk (Kd.R_below (rk_ HO236.out) hb); have n6_ := Aside0.mk (Kd.R_below (rk_ HO239.out) hb); have n7_ := Aside0.mk (Kd.R_below (rk_ HO244.out) hb); have n8_ := Aside0.mk (Kd.R_below (rk_ HO247.out) hb); have n9_ := Aside0.mk (Kd.R_below (rk_ HO250.out) hb); have n10_ := Aside0.mk (Kd.R_below (rk_ HO256.out) hb); have n11_ := Aside0.mk (Kd.R_below (rk_ HO259.out) hb); have n12_ := Aside0.mk (Kd.R_below (rk_ HO264.out) hb); have n13_ := Aside0.mk (Kd.R_below (rk_ HO267.out) hb); have n14_ := Aside0.mk (Kd.R_below (rk_ HO270.out) hb); have n15_ := Aside0.mk (Kd.R_below (rk_ HO276.out) hb); have n16_ := Aside0.mk (Kd.R_below (rk_ HO279.out) hb); have n17_ := Aside0.mk (Kd.R_below (rk_ HO284.out) hb); have n18_ := Aside0.mk (Kd.R_below (rk_ HO287.out) hb); have n19_ := Aside0.mk (Kd.R_below (rk_ HO290.out) hb); have n20_ := Aside0.mk (bb_ BK209.out hb); have n21_ := Aside0.mk (bb_ BK210.out hb); have n22_ := Aside0.mk (bb_ BK271.out hb); have n23_ := Aside0.mk (below_step (bk_ HB.out) hb); have n24_ := Aside0.mk (hbox); have n25_ := Aside0.mk ((by rw [hg]; exact (below_size (bk_ HB.out)) : w.heap.size ≤ gb291)); have n26_ := Aside0.mk ((by rw [hg]; exact (below_size (bk_ HB.out)) : w.heap.size ≤ gb291)); have n27_ := Aside0.mk ((by rw [hg]; exact Nat.ne_of_lt (bl_ BK209.out) : gb209 ≠ gb291)); have n28_ := Aside0.mk ((by rw [hg]; exact Nat.ne_of_gt (bl_ BK209.out) : gb291 ≠ gb209)); have n29_ := Aside0.mk ((by rw [hg]; exact Nat.ne_of_lt (bl_ BK210.out) : gb210 ≠ gb291)); have n30_ := Aside0.mk ((by rw [hg]; exact Nat.ne_of_gt (bl_ BK210.out) : gb291 ≠ gb210)); have n31_ := Aside0.mk ((by rw [hg]; exact Nat.ne_of_lt (bl_ BK271.out) : gb271 ≠ gb291)); have n32_ := Aside0.mk ((by rw [hg]; exact Nat.ne_of_gt (bl_ BK271.out) : gb291 ≠ gb271)); clear HO217; clear HO220; clear HO225; clear HO228; clear HO231; clear HO236; clear HO239; clear HO244; clear HO247; clear HO250; clear HO256; clear HO259; clear HO264; clear HO267; clear HO270; clear HO276; clear HO279; clear HO284; clear HO287; clear HO290; clear BK209; clear BK210; clear BK271; clear HB; have HO217 := n0_; have HO220 := n1_; have HO225 := n2_; have HO228 := n3_; have HO231 := n4_; have HO236 := n5_; have HO239 := n6_; have HO244 := n7_; have HO247 := n8_; have HO250 := n9_; have HO256 := n10_; have HO259 := n11_; have HO264 := n12_; have HO267 := n13_; have HO270 := n14_; have HO276 := n15_; have HO279 := n16_; have HO284 := n17_; have HO287 := n18_; have HO290 := n19_; have BK209 := n20_; have BK210 := n21_; have BK271 := n22_; have HB := n23_; have BK291 := n24_; have GW291 := n25_; have GE291 := n26_; have NB209_291 := n27_; have NB291_209 := n28_; have NB210_291 := n29_; have NB291_210 := n30_; have NB271_291 := n31_; have NB291_271 := n32_; clear n0_ n1_ n2_ n3_ n4_ n5_ n6_ n7_ n8_ n9_ n10_ n11_ n12_ n13_ n14_ n15_ n16_ n17_ n18_ n19_ n20_ n21_ n22_ n23_ n24_ n25_ n26_ n27_ n28_ n29_ n30_ n31_ n32_; clear hb hbox hg; have hnb67 := NB291_209.out; have hnc67 := NB209_291.out; have hnb68 := NB291_210.out; have hnc68 := NB210_291.out; have hnb69 := NB291_271.out; have hnc69 := NB271_291.out; have hcz70_0 := bc_ BK291.out 0 (.int .i64 0); have hcz70_1 := bc_ BK291.out 1 (.int .i64 0); have hcz70_2 := bc_ BK291.out 2 (.slice none 0 0); have hcz70_3 := bc_ BK291.out 3 (.slice none 0 0); have hcz70_4 := bc_ BK291.out 4 (.int .i64 0); have hcz70_5 := bc_ BK291.out 5 (.int .i64 0); have hcz70_6 := bc_ BK291.out 6 (.slice none 0 0); have hcz70_7 := bc_ BK291.out 7 (.slice none 0 0); have hcz70_8 := bc_ BK291.out 8 (.slice none 0 0); have hfz70_0 := blk_frozen BK291.out 0; have hfz70_1 := blk_frozen BK291.out 1; have hfz70_2 := blk_frozen BK291.out 2; have hfz70_3 := blk_frozen BK291.out 3; have hfz70_4 := blk_frozen BK291.out 4; have hfz70_5 := blk_frozen BK291.out 5; have hfz70_6 := blk_frozen BK291.out 6; have hfz70_7 := blk_frozen BK291.out 7; have hfz70_8 := blk_frozen BK291.out 8; obtain ⟨Ao71, co71, eo71⟩ := Kd.R_slice HO276.out; subst eo71; obtain ⟨Ao72, co72, eo72⟩ := Kd.R_slice HO279.out; subst eo72; obtain ⟨Ao73, co73, eo73⟩ := Kd.R_slice HO284.out; subst eo73; obtain ⟨Ao74, co74, eo74⟩ := Kd.R_slice HO287.out; subst eo74; obtain ⟨Ao75, co75, eo75⟩ := Kd.R_slice HO290.out; subst eo75; have hcz76_0 := bc_ BK271.out 0 (.int .i64 t252); have hcz76_1 := bc_ BK271.out 1 (.int .i64 t253); have hcz76_2 := bc_ BK271.out 2 (.slice Ao59 t254.length co59); have hcz76_3 := bc_ BK271.out 3 (.slice Ao60 t257.length co60); have hcz76_4 := bc_ BK271.out 4 (.int .i64 t260); have hcz76_5 := bc_ BK271.out 5 (.int .i64 t261); have hcz76_6 := bc_ BK271.out 6 (.slice Ao61 t262.length co61); have hcz76_7 := bc_ BK271.out 7 (.slice Ao62 t265.length co62); have hcz76_8 := bc_ BK271.out 8 (.slice Ao63 t268.length co63); have hfz76_0 := blk_frozen BK271.out 0; have hfz76_1 := blk_frozen BK271.out 1; have hfz76_2 := blk_frozen BK271.out 2; have hfz76_3 := blk_frozen BK271.out 3; have hfz76_4 := blk_frozen BK271.out 4; have hfz76_5 := blk_frozen BK271.out 5; have hfz76_6 := blk_frozen BK271.out 6; have hfz76_7 := blk_frozen BK271.out 7; have hfz76_8 := blk_frozen BK271.out 8) | ((with_reducible refine gate_callee (f := 29) rfl ?_); refine goesL_ (some 31) rfl rfl Try.func29 (by kernel_rfl) rfl #[.agg #[.int .i64 t252, .int .i64 t253, .slice Ao59 t254.length co59, .slice Ao60 t257.length co60, .int .i64 t260, .int .i64 t261, .slice Ao61 t262.length co61, .slice Ao62 t265.length co62, .slice Ao63 t268.length co63], .agg #[.int .i64 t272, .int .i64 t273, .slice Ao71 t274.length co71, .slice Ao72 t277.length co72, .int .i64 t280, .int .i64 t281, .slice Ao73 t282.length co73, .slice Ao74 t285.length co74, .slice Ao75 t288.length co75]] rfl (by (try simp only [List.map_toArray, List.map_cons, List.map_nil]); first | done | rfl | (simp only [List.length_drop, List.length_take]; rfl)) ?_; (with_reducible refine (impl_SameDesk.calls k t252 t253 _ _ t254 _ _ t257 t260 t261 _ _ t262 _ _ t265 _ _ t268 t272 t273 _ _ t274 _ _ t277 t280 t281 _ _ t282 _ _ t285 _ _ t288 t292 _ ?side1 ?side2 ?side3 ?side4 ?side5 ?side6 ?side7 ?side8 ?side9 ?side10 ?side11 ?side12 ?side13 ?side14 ?side15 ?side16 ?side17 ?side18 ?side19 ?side20 A24.out).mono ?_); (case side1 => refine (Kd.R_reads' (e := 2) (base := w.heap.size) (ok := fun k_ => ((((((((((((((((some k_ ≠ (.slice Ao60 t257.length co60 : Value).ownBlock ∧ (some k_ ≠ (.slice Ao61 t262.length co61 : Value).ownBlock ∧ (some k_ ≠ (.slice Ao62 t265.length co62 : Value).ownBlock ∧ some k_ ≠ (.slice Ao63 t268.length co63 : Value).ownBlock))) ∧ some k_ ≠ (.slice Ao42 t215.length co42 : Value).ownBlock) ∧ some k_ ≠ (.slice Ao43 t218.length co43 : Value).ownBlock) ∧ some k_ ≠ (.slice Ao44 t223.length co44 : Value).ownBlock) ∧ some k_ ≠ (.slice Ao45 t226.length co45 : Value).ownBlock) ∧ some k_ ≠ (.slice Ao46 t229.length co46 : Value).ownBlock) ∧ some k_ ≠ (.slice Ao47 t234.length co47 : Value).ownBlock) ∧ some k_ ≠ (.slice Ao48 t237.length co48 : Value).ownBlock) ∧ some k_ ≠ (.slice Ao49 t242.length co49 : Value).ownBlock) ∧ some k_ ≠ (.slice Ao50 t245.length co50 : Value).ownBlock) ∧ some k_ ≠ (.slice Ao51 t248.length co51 : Value).ownBlock) ∧ some k_ ≠ (.slice Ao71 t274.length co71 : Value).ownBlock) ∧ some k_ ≠ (.slice Ao72 t277.length co72 : Value).ownBlock) ∧ some k_ ≠ (.slice Ao73 t282.length co73 : Value).ownBlock) ∧ some k_ ≠ (.slice Ao74 t285.length co74 : Value).ownBlock) ∧ some k_ ≠ (.slice Ao75 t288.length co75 : Value).ownBlock)) (n := t254.length) (c := co59) ?_).2.2; exact (rx_ HO256.out BK291.out)); (case side2 => exact (Kd.R_reads' HO256.out).2.1); (case side3 => refine (Kd.R_reads' (e := 2) (base := w.heap.size) (ok := fun k_ => ((((((((((((((((some k_ ≠ (.slice Ao59 t254.length co59 : Value).ownBlock ∧ (some k_ ≠ (.slice Ao61 t262.length co61 : Value).ownBlock ∧ (some k_ ≠ (.slice Ao62 t265.length co62 : Value).ownBlock ∧ some k_ ≠ (.slice Ao63 t268.length co63 : Value).ownBlock))) ∧ some k_ ≠ (.slice Ao42 t215.length co42 : Value).ownBlock) ∧ some k_ ≠ (.slice Ao43 t218.length co43 : Value).ownBlock) ∧ some k_ ≠ (.slice Ao44 t223.length co44 : Value).ownBlock) ∧ some k_ ≠ (.slice Ao45 t226.length co45 : Value).ownBlock) ∧ some k_ ≠ (.slice Ao46 t229.length co46 : Value).ownBlock) ∧ some k_ ≠ (.slice Ao47 t234.length co47 : Value).ownBlock) ∧ some k_ ≠ (.slice Ao48 t237.length co48 : Value).ownBlock) ∧ some k_ ≠ (.slice Ao49 t242.length co49 : Value).ownBlock) ∧ some k_ ≠ (.slice Ao50 t245.length co50 : Value).ownBlock) ∧ some k_ ≠ (.slice Ao51 t248.length co51 : Value).ownBlock) ∧ some k_ ≠ (.slice Ao71 t274.length co71 : Value).ownBlock) ∧ some k_ ≠ (.slice Ao72 t277.length co72 : Value).ownBlock) ∧ some k_ ≠ (.slice Ao73 t282.length co73 : Value).ownBlock) ∧ some k_ ≠ (.slice Ao74 t285.length co74 : Value).ownBlock) ∧ some k_ ≠ (.slice Ao75 t288.length co75 : Value).ownBlock)) (n := t257.length) (c := co60) ?_).2.2; exact (rx_ HO259.out BK291.out)); (case side4 => exact (Kd.R_reads' HO259.out).2.1); (case side5 => refine (Kd.R_reads' (e := 2) (base := w.heap.size) (ok := fun k_ => ((((((((((((((((some k_ ≠ (.slice Ao59 t254.length co59 : Value).ownBlock ∧ (some k_ ≠ (.slice Ao60 t257.length co60 : Value).ownBlock ∧ (some k_ ≠ (.slice Ao62 t265.length co62 : Value).ownBlock ∧ some k_ ≠ (.slice Ao63 t268.length co63 : Value).ownBlock))) ∧ some k_ ≠ (.slice Ao42 t215.length co42 : Value).ownBlock) ∧ some k_ ≠ (.slice Ao43 t218.length co43 : Value).ownBlock) ∧ some k_ ≠ (.slice Ao44 t223.length co44 : Value).ownBlock) ∧ some k_ ≠ (.slice Ao45 t226.length co45 : Value).ownBlock) ∧ some k_ ≠ (.slice Ao46 t229.length co46 : Value).ownBlock) ∧ some k_ ≠ (.slice Ao47 t234.length co47 : Value).ownBlock) ∧ some k_ ≠ (.slice Ao48 t237.length co48 : Value).ownBlock) ∧ some k_ ≠ (.slice Ao49 t242.length co49 : Value).ownBlock) ∧ some k_ ≠ (.slice Ao50 t245.length co50 : Value).ownBlock) ∧ some k_ ≠ (.slice Ao51 t248.length co51 : Value).ownBlock) ∧ some k_ ≠ (.slice Ao71 t274.length co71 : Value).ownBlock) ∧ some k_ ≠ (.slice Ao72 t277.length co72 : Value).ownBlock) ∧ some k_ ≠ (.slice Ao73 t282.length co73 : Value).ownBlock) ∧ some k_ ≠ (.slice Ao74 t285.length co74 : Value).ownBlock) ∧ some k_ ≠ (.slice Ao75 t288.length co75 : Value).ownBlock)) (n := t262.length) (c := co61) ?_).2.2; exact (rx_ HO264.out BK291.out)); (case side6 => exact (Kd.R_reads' HO264.out).2.1); (case side7 => refine (Kd.R_reads' (e := 2) (base := w.heap.size) (ok := fun k_ => ((((((((((((((((some k_ ≠ (.slice Ao59 t254.length co59 : Value).ownBlock ∧ (some k_ ≠ (.slice Ao60 t257.length co60 : Value).ownBlock ∧ (some k_ ≠ (.slice Ao61 t262.length co61 : Value).ownBlock ∧ some k_ ≠ (.slice Ao63 t268.length co63 : Value).ownBlock))) ∧ some k_ ≠ (.slice Ao42 t215.length co42 : Value).ownBlock) ∧ some k_ ≠ (.slice Ao43 t218.length co43 : Value).ownBlock) ∧ some k_ ≠ (.slice Ao44 t223.length co44 : Value).ownBlock) ∧ some k_ ≠ (.slice Ao45 t226.length co45 : Value).ownBlock) ∧ some k_ ≠ (.slice Ao46 t229.length co46 : Value).ownBlock) ∧ some k_ ≠ (.slice Ao47 t234.length co47 : Value).ownBlock) ∧ some k_ ≠ (.slice Ao48 t237.length co48 : Value).ownBlock) ∧ some k_ ≠ (.slice Ao49 t242.length co49 : Value).ownBlock) ∧ some k_ ≠ (.slice Ao50 t245.length co50 : Value).ownBlock) ∧ some k_ ≠ (.slice Ao51 t248.length co51 : Value).ownBlock) ∧ some k_ ≠ (.slice Ao71 t274.length co71 : Value).ownBlock) ∧ some k_ ≠ (.slice Ao72 t277.length co72 : Value).ownBlock) ∧ some k_ ≠ (.slice Ao73 t282.length co73 : Value).ownBlock) ∧ some k_ ≠ (.slice Ao74 t285.length co74 : Value).ownBlock) ∧ some k_ ≠ (.slice Ao75 t288.length co75 : Value).ownBlock)) (n := t265.length) (c := co62) ?_).2.2; exact (rx_ HO267.out BK291.out)); (case side8 => exact (Kd.R_reads' HO267.out).2.1); (case side9 => refine (Kd.R_reads' (e := 2) (base := w.heap.size) (ok := fun k_ => ((((((((((((((((some k_ ≠ (.slice Ao59 t254.length co59 : Value).ownBlock ∧ (some k_ ≠ (.slice Ao60 t257.length co60 : Value).ownBlock ∧ (some k_ ≠ (.slice Ao61 t262.length co61 : Value).ownBlock ∧ some k_ ≠ (.slice Ao62 t265.length co62 : Value).ownBlock))) ∧ some k_ ≠ (.slice Ao42 t215.length co42 : Value).ownBlock) ∧ some k_ ≠ (.slice Ao43 t218.length co43 : Value).ownBlock) ∧ some k_ ≠ (.slice Ao44 t223.length co44 : Value).ownBlock) ∧ some k_ ≠ (.slice Ao45 t226.length co45 : Value).ownBlock) ∧ some k_ ≠ (.slice Ao46 t229.length co46 : Value).ownBlock) ∧ some k_ ≠ (.slice Ao47 t234.length co47 : Value).ownBlock) ∧ some k_ ≠ (.slice Ao48 t237.length co48 : Value).ownBlock) ∧ some k_ ≠ (.slice Ao49 t242.length co49 : Value).ownBlock) ∧ some k_ ≠ (.slice Ao50 t245.length co50 : Value).ownBlock) ∧ some k_ ≠ (.slice Ao51 t248.length co51 : Value).ownBlock) ∧ some k_ ≠ (.slice Ao71 t274.length co71 : Value).ownBlock) ∧ some k_ ≠ (.slice Ao72 t277.length co72 : Value).ownBlock) ∧ some k_ ≠ (.slice Ao73 t282.length co73 : Value).ownBlock) ∧ some k_ ≠ (.slice Ao74 t285.length co74 : Value).ownBlock) ∧ some k_ ≠ (.slice Ao75 t288.length co75 : Value).ownBlock)) (n := t268.length) (c := co63) ?_).2.2; exact (rx_ HO270.out BK291.out)); (case side10 => exact (Kd.R_reads' HO270.out).2.1); (case side11 => refine (Kd.R_reads' (e := 2) (base := w.heap.size) (ok := fun k_ => ((((((((((((((((some k_ ≠ (.slice Ao72 t277.length co72 : Value).ownBlock ∧ (some k_ ≠ (.slice Ao73 t282.length co73 : Value).ownBlock ∧ (some k_ ≠ (.slice Ao74 t285.length co74 : Value).ownBlock ∧ some k_ ≠ (.slice Ao75 t288.length co75 : Value).ownBlock))) ∧ some k_ ≠ (.slice Ao42 t215.length co42 : Value).ownBlock) ∧ some k_ ≠ (.slice Ao43 t218.length co43 : Value).ownBlock) ∧ some k_ ≠ (.slice Ao44 t223.length co44 : Value).ownBlock) ∧ some k_ ≠ (.slice Ao45 t226.length co45 : Value).ownBlock) ∧ some k_ ≠ (.slice Ao46 t229.length co46 : Value).ownBlock) ∧ some k_ ≠ (.slice Ao47 t234.length co47 : Value).ownBlock) ∧ some k_ ≠ (.slice Ao48 t237.length co48 : Value).ownBlock) ∧ some k_ ≠ (.slice Ao49 t242.length co49 : Value).ownBlock) ∧ some k_ ≠ (.slice Ao50 t245.length co50 : Value).ownBlock) ∧ some k_ ≠ (.slice Ao51 t248.length co51 : Value).ownBlock) ∧ some k_ ≠ (.slice Ao59 t254.length co59 : Value).ownBlock) ∧ some k_ ≠ (.slice Ao60 t257.length co60 : Value).ownBlock) ∧ some k_ ≠ (.slice Ao61 t262.length co61 : Value).ownBlock) ∧ some k_ ≠ (.slice Ao62 t265.length co62 : Value).ownBlock) ∧ some k_ ≠ (.slice Ao63 t268.length co63 : Value).ownBlock)) (n := t274.length) (c := co71) ?_).2.2; exact (rx_ HO276.out BK291.out)); (case side12 => exact (Kd.R_reads' HO276.out).2.1); (case side13 => refine (Kd.R_reads' (e := 2) (base := w.heap.size) (ok := fun k_ => ((((((((((((((((some k_ ≠ (.slice Ao71 t274.length co71 : Value).ownBlock ∧ (some k_ ≠ (.slice Ao73 t282.length co73 : Value).ownBlock ∧ (some k_ ≠ (.slice Ao74 t285.length co74 : Value).ownBlock ∧ some k_ ≠ (.slice Ao75 t288.length co75 : Value).ownBlock))) ∧ some k_ ≠ (.slice Ao42 t215.length co42 : Value).ownBlock) ∧ some k_ ≠ (.slice Ao43 t218.length co43 : Value).ownBlock) ∧ some k_ ≠ (.slice Ao44 t223.length co44 : Value).ownBlock) ∧ some k_ ≠ (.slice Ao45 t226.length co45 : Value).ownBlock) ∧ some k_ ≠ (.slice Ao46 t229.length co46 : Value).ownBlock) ∧ some k_ ≠ (.slice Ao47 t234.length co47 : Value).ownBlock) ∧ some k_ ≠ (.slice Ao48 t237.length co48 : Value).ownBlock) ∧ some k_ ≠ (.slice Ao49 t242.length co49 : Value).ownBlock) ∧ some k_ ≠ (.slice Ao50 t245.length co50 : Value).ownBlock) ∧ some k_ ≠ (.slice Ao51 t248.length co51 : Value).ownBlock) ∧ some k_ ≠ (.slice Ao59 t254.length co59 : Value).ownBlock) ∧ some k_ ≠ (.slice Ao60 t257.length co60 : Value).ownBlock) ∧ some k_ ≠ (.slice Ao61 t262.length co61 : Value).ownBlock) ∧ some k_ ≠ (.slice Ao62 t265.length co62 : Value).ownBlock) ∧ some k_ ≠ (.slice Ao63 t268.length co63 : Value).ownBlock)) (n := t277.length) (c := co72) ?_).2.2; exact (rx_ HO279.out BK291.out)); (case side14 => exact (Kd.R_reads' HO279.out).2.1); (case side15 => refine (Kd.R_reads' (e := 2) (base := w.heap.size) (ok := fun k_ => ((((((((((((((((some k_ ≠ (.slice Ao71 t274.length co71 : Value).ownBlock ∧ (some k_ ≠ (.slice Ao72 t277.length co72 : Value).ownBlock ∧ (some k_ ≠ (.slice Ao74 t285.length co74 : Value).ownBlock ∧ some k_ ≠ (.slice Ao75 t288.length co75 : Value).ownBlock))) ∧ some k_ ≠ (.slice Ao42 t215.length co42 : Value).ownBlock) ∧ some k_ ≠ (.slice Ao43 t218.length co43 : Value).ownBlock) ∧ some k_ ≠ (.slice Ao44 t223.length co44 : Value).ownBlock) ∧ some k_ ≠ (.slice Ao45 t226.length co45 : Value).ownBlock) ∧ some k_ ≠ (.slice Ao46 t229.length co46 : Value).ownBlock) ∧ some k_ ≠ (.slice Ao47 t234.length co47 : Value).ownBlock) ∧ some k_ ≠ (.slice Ao48 t237.length co48 : Value).ownBlock) ∧ some k_ ≠ (.slice Ao49 t242.length co49 : Value).ownBlock) ∧ some k_ ≠ (.slice Ao50 t245.length co50 : Value).ownBlock) ∧ some k_ ≠ (.slice Ao51 t248.length co51 : Value).ownBlock) ∧ some k_ ≠ (.slice Ao59 t254.length co59 : Value).ownBlock) ∧ some k_ ≠ (.slice Ao60 t257.length co60 : Value).ownBlock) ∧ some k_ ≠ (.slice Ao61 t262.length co61 : Value).ownBlock) ∧ some k_ ≠ (.slice Ao62 t265.length co62 : Value).ownBlock) ∧ some k_ ≠ (.slice Ao63 t268.length co63 : Value).ownBlock)) (n := t282.length) (c := co73) ?_).2.2; exact (rx_ HO284.out BK291.out)); (case side16 => exact (Kd.R_reads' HO284.out).2.1); (case side17 => refine (Kd.R_reads' (e := 2) (base := w.heap.size) (ok := fun k_ => ((((((((((((((((some k_ ≠ (.slice Ao71 t274.length co71 : Value).ownBlock ∧ (some k_ ≠ (.slice Ao72 t277.length co72 : Value).ownBlock ∧ (some k_ ≠ (.slice Ao73 t282.length co73 : Value).ownBlock ∧ some k_ ≠ (.slice Ao75 t288.length co75 : Value).ownBlock))) ∧ some k_ ≠ (.slice Ao42 t215.length co42 : Value).ownBlock) ∧ some k_ ≠ (.slice Ao43 t218.length co43 : Value).ownBlock) ∧ some k_ ≠ (.slice Ao44 t223.length co44 : Value).ownBlock) ∧ some k_ ≠ (.slice Ao45 t226.length co45 : Value).ownBlock) ∧ some k_ ≠ (.slice Ao46 t229.length co46 : Value).ownBlock) ∧ some k_ ≠ (.slice Ao47 t234.length co47 : Value).ownBlock) ∧ some k_ ≠ (.slice Ao48 t237.length co48 : Value).ownBlock) ∧ some k_ ≠ (.slice Ao49 t242.length co49 : Value).ownBlock) ∧ some k_ ≠ (.slice Ao50 t245.length co50 : Value).ownBlock) ∧ some k_ ≠ (.slice Ao51 t248.length co51 : Value).ownBlock) ∧ some k_ ≠ (.slice Ao59 t254.length co59 : Value).ownBlock) ∧ some k_ ≠ (.slice Ao60 t257.length co60 : Value).ownBlock) ∧ some k_ ≠ (.slice Ao61 t262.length co61 : Value).ownBlock) ∧ some k_ ≠ (.slice Ao62 t265.length co62 : Value).ownBlock) ∧ some k_ ≠ (.slice Ao63 t268.length co63 : Value).ownBlock)) (n := t285.length) (c := co74) ?_).2.2; exact (rx_ HO287.out BK291.out)); (case side18 => exact (Kd.R_reads' HO287.out).2.1); (case side19 => refine (Kd.R_reads' (e := 2) (base := w.heap.size) (ok := fun k_ => ((((((((((((((((some k_ ≠ (.slice Ao71 t274.length co71 : Value).ownBlock ∧ (some k_ ≠ (.slice Ao72 t277.length co72 : Value).ownBlock ∧ (some k_ ≠ (.slice Ao73 t282.length co73 : Value).ownBlock ∧ some k_ ≠ (.slice Ao74 t285.length co74 : Value).ownBlock))) ∧ some k_ ≠ (.slice Ao42 t215.length co42 : Value).ownBlock) ∧ some k_ ≠ (.slice Ao43 t218.length co43 : Value).ownBlock) ∧ some k_ ≠ (.slice Ao44 t223.length co44 : Value).ownBlock) ∧ some k_ ≠ (.slice Ao45 t226.length co45 : Value).ownBlock) ∧ some k_ ≠ (.slice Ao46 t229.length co46 : Value).ownBlock) ∧ some k_ ≠ (.slice Ao47 t234.length co47 : Value).ownBlock) ∧ some k_ ≠ (.slice Ao48 t237.length co48 : Value).ownBlock) ∧ some k_ ≠ (.slice Ao49 t242.length co49 : Value).ownBlock) ∧ some k_ ≠ (.slice Ao50 t245.length co50 : Value).ownBlock) ∧ some k_ ≠ (.slice Ao51 t248.length co51 : Value).ownBlock) ∧ some k_ ≠ (.slice Ao59 t254.length co59 : Value).ownBlock) ∧ some k_ ≠ (.slice Ao60 t257.length co60 : Value).ownBlock) ∧ some k_ ≠ (.slice Ao61 t262.length co61 : Value).ownBlock) ∧ some k_ ≠ (.slice Ao62 t265.length co62 : Value).ownBlock) ∧ some k_ ≠ (.slice Ao63 t268.length co63 : Value).ownBlock)) (n := t288.length) (c := co75) ?_).2.2; exact (rx_ HO290.out BK291.out)); (case side20 => exact (Kd.R_reads' HO290.out).2.1); rintro e w77 ⟨rfl, hb⟩; refine ⟨_, rfl, ?_⟩; have n0_ := Aside0.mk (Kd.R_below (rx_ HO217.out BK291.out) hb); have n1_ := Aside0.mk (Kd.R_below (rx_ HO220.out BK291.out) hb); have n2_ := Aside0.mk (Kd.R_below (rx_ HO225.out BK291.out) hb); have n3_ := Aside0.mk (Kd.R_below (rx_ HO228.out BK291.out) hb); have n4_ := Aside0.mk (Kd.R_below (rx_ HO231.out BK291.out) hb); have n5_ := Aside0.mk (Kd.R_below (rx_ HO236.out BK291.out) hb); have n6_ := Aside0.mk (Kd.R_below (rx_ HO239.out BK291.out) hb); have n7_ := Aside0.mk (Kd.R_below (rx_ HO244.out BK291.out) hb); have n8_ := Aside0.mk (Kd.R_below (rx_ HO247.out BK291.out) hb); have n9_ := Aside0.mk (Kd.R_below (rx_ HO250.out BK291.out) hb); have n10_ := Aside0.mk (Kd.R_below (rx_ HO256.out BK291.out) hb); have n11_ := Aside0.mk (Kd.R_below (rx_ HO259.out BK291.out) hb); have n12_ := Aside0.mk (Kd.R_below (rx_ HO264.out BK291.out) hb); have n13_ := Aside0.mk (Kd.R_below (rx_ HO267.out BK291.out) hb); have n14_ := Aside0.mk (Kd.R_below (rx_ HO270.out BK291.out) hb); have n15_ := Aside0.mk (Kd.R_below (rx_ HO276.out BK291.out) hb); have n16_ := Aside0.mk (Kd.R_below (rx_ HO279.out BK291.out) hb); have n17_ := Aside0.mk (Kd.R_below (rx_ HO284.out BK291.out) hb); have n18_ := Aside0.mk (Kd.R_below (rx_ HO287.out BK291.out) hb); have n19_ := Aside0.mk (Kd.R_below (rx_ HO290.out BK291.out) hb); have n20_ := Aside0.mk (blk_below (g := gb209) (o := .cells #[.int .i64 a0_0, .int .i64 a0_1, .slice A0_2 l0_2.length c0_2, .slice A0_3 l0_3.length c0_3, .int .i64 a0_4, .int .i64 a0_5, .slice A0_6 l0_6.length c0_6, .slice A0_7 l0_7.length c0_7, .slice A0_8 l0_8.length c0_8] 42 (0, 0)) (by (with_reducible repeat (first | refine blk_drewN ?_ _ | refine blk_drew ?_ | refine blk_alloc ?_ _)); refine blk_far ?_ NB209_291.out _; (with_reducible repeat (first | refine blk_drewN ?_ _ | refine blk_drew ?_ | refine blk_alloc ?_ _)); refine blk_far ?_ NB209_291.out _; (with_reducible repeat (first | refine blk_drewN ?_ _ | refine blk_drew ?_ | refine blk_alloc ?_ _)); refine blk_far ?_ NB209_291.out _; (with_reducible repeat (first | refine blk_drewN ?_ _ | refine blk_drew ?_ | refine blk_alloc ?_ _)); refine blk_far ?_ NB209_291.out _; (with_reducible repeat (first | refine blk_drewN ?_ _ | refine blk_drew ?_ | refine blk_alloc ?_ _)); refine blk_far ?_ NB209_291.out _; (with_reducible repeat (first | refine blk_drewN ?_ _ | refine blk_drew ?_ | refine blk_alloc ?_ _)); refine blk_far ?_ NB209_291.out _; (with_reducible repeat (first | refine blk_drewN ?_ _ | refine blk_drew ?_ | refine blk_alloc ?_ _)); refine blk_far ?_ NB209_291.out _; (with_reducible repeat (first | refine blk_drewN ?_ _ | refine blk_drew ?_ | refine blk_alloc ?_ _)); refine blk_far ?_ NB209_291.out _; (with_reducible repeat (first | refine blk_drewN ?_ _ | refine blk_drew ?_ | refine blk_alloc ?_ _)); refine blk_far ?_ NB209_291.out _; (with_reducible repeat (first | refine blk_drewN ?_ _ | refine blk_drew ?_ | refine blk_alloc ?_ _)); exact BK209.out) hb); have n21_ := Aside0.mk (blk_below (g := gb210) (o := .cells #[.int .i64 a1_0, .int .i64 a1_1, .slice A1_2 l1_2.length c1_2, .slice A1_3 l1_3.length c1_3, .int .i64 a1_4, .int .i64 a1_5, .slice A1_6 l1_6.length c1_6, .slice A1_7 l1_7.length c1_7, .slice A1_8 l1_8.length c1_8] 42 (0, 0)) (by (with_reducible repeat (first | refine blk_drewN ?_ _ | refine blk_drew ?_ | refine blk_alloc ?_ _)); refine blk_far ?_ NB210_291.out _; (with_reducible repeat (first | refine blk_drewN ?_ _ | refine blk_drew ?_ | refine blk_alloc ?_ _)); refine blk_far ?_ NB210_291.out _; (with_reducible repeat (first | refine blk_drewN ?_ _ | refine blk_drew ?_ | refine blk_alloc ?_ _)); refine blk_far ?_ NB210_291.out _; (with_reducible repeat (first | refine blk_drewN ?_ _ | refine blk_drew ?_ | refine blk_alloc ?_ _)); refine blk_far ?_ NB210_291.out _; (with_reducible repeat (first | refine blk_drewN ?_ _ | refine blk_drew ?_ | refine blk_alloc ?_ _)); refine blk_far ?_ NB210_291.out _; (with_reducible repeat (first | refine blk_drewN ?_ _ | refine blk_drew ?_ | refine blk_alloc ?_ _)); refine blk_far ?_ NB210_291.out _; (with_reducible repeat (first | refine blk_drewN ?_ _ | refine blk_drew ?_ | refine blk_alloc ?_ _)); refine blk_far ?_ NB210_291.out _; (with_reducible repeat (first | refine blk_drewN ?_ _ | refine blk_drew ?_ | refine blk_alloc ?_ _)); refine blk_far ?_ NB210_291.out _; (with_reducible repeat (first | refine blk_drewN ?_ _ | refine blk_drew ?_ | refine blk_alloc ?_ _)); refine blk_far ?_ NB210_291.out _; (with_reducible repeat (first | refine blk_drewN ?_ _ | refine blk_drew ?_ | refine blk_alloc ?_ _)); exact BK210.out) hb); have n22_ := Aside0.mk (blk_below (g := gb271) (o := .cells #[.int .i64 t252, .int .i64 t253, .slice Ao59 t254.length co59, .slice Ao60 t257.length co60, .int .i64 t260, .int .i64 t261, .slice Ao61 t262.length co61, .slice Ao62 t265.length co62, .slice Ao63 t268.length co63] 48 (0, 0)) (by (with_reducible repeat (first | refine blk_drewN ?_ _ | refine blk_drew ?_ | refine blk_alloc ?_ _)); refine blk_far ?_ NB271_291.out _; (with_reducible repeat (first | refine blk_drewN ?_ _ | refine blk_drew ?_ | refine blk_alloc ?_ _)); refine blk_far ?_ NB271_291.out _; (with_reducible repeat (first | refine blk_drewN ?_ _ | refine blk_drew ?_ | refine blk_alloc ?_ _)); refine blk_far ?_ NB271_291.out _; (with_reducible repeat (first | refine blk_drewN ?_ _ | refine blk_drew ?_ | refine blk_alloc ?_ _)); refine blk_far ?_ NB271_291.out _; (with_reducible repeat (first | refine blk_drewN ?_ _ | refine blk_drew ?_ | refine blk_alloc ?_ _)); refine blk_far ?_ NB271_291.out _; (with_reducible repeat (first | refine blk_drewN ?_ _ | refine blk_drew ?_ | refine blk_alloc ?_ _)); refine blk_far ?_ NB271_291.out _; (with_reducible repeat (first | refine blk_drewN ?_ _ | refine blk_drew ?_ | refine blk_alloc ?_ _)); refine blk_far ?_ NB271_291.out _; (with_reducible repeat (first | refine blk_drewN ?_ _ | refine blk_drew ?_ | refine blk_alloc ?_ _)); refine blk_far ?_ NB271_291.out _; (with_reducible repeat (first | refine blk_drewN ?_ _ | refine blk_drew ?_ | refine blk_alloc ?_ _)); refine blk_far ?_ NB271_291.out _; (with_reducible repeat (first | refine blk_drewN ?_ _ | refine blk_drew ?_ | refine blk_alloc ?_ _)); exact BK271.out) hb); have n23_ := Aside0.mk (blk_below (g := gb291) (o := .cells #[.int .i64 t272, .int .i64 t273, .slice Ao71 t274.length co71, .slice Ao72 t277.length co72, .int .i64 t280, .int .i64 t281, .slice Ao73 t282.length co73, .slice Ao74 t285.length co74, .slice Ao75 t288.length co75] 48 (0, 0)) (by (with_reducible repeat (first | refine blk_drewN ?_ _ | refine blk_drew ?_ | refine blk_alloc ?_ _)); refine blk_put (cs := #[.int .i64 t272, .int .i64 t273, .slice Ao71 t274.length co71, .slice Ao72 t277.length co72, .int .i64 t280, .int .i64 t281, .slice Ao73 t282.length co73, .slice Ao74 t285.length co74, .slice none 0 0]) ?_ 8 _ rfl; (with_reducible repeat (first | refine blk_drewN ?_ _ | refine blk_drew ?_ | refine blk_alloc ?_ _)); refine blk_put (cs := #[.int .i64 t272, .int .i64 t273, .slice Ao71 t274.length co71, .slice Ao72 t277.length co72, .int .i64 t280, .int .i64 t281, .slice Ao73 t282.length co73, .slice none 0 0, .slice none 0 0]) ?_ 7 _ rfl; (with_reducible repeat (first | refine blk_drewN ?_ _ | refine blk_drew ?_ | refine blk_alloc ?_ _)); refine blk_put (cs := #[.int .i64 t272, .int .i64 t273, .slice Ao71 t274.length co71, .slice Ao72 t277.length co72, .int .i64 t280, .int .i64 t281, .slice none 0 0, .slice none 0 0, .slice none 0 0]) ?_ 6 _ rfl; (with_reducible repeat (first | refine blk_drewN ?_ _ | refine blk_drew ?_ | refine blk_alloc ?_ _)); refine blk_put (cs := #[.int .i64 t272, .int .i64 t273, .slice Ao71 t274.length co71, .slice Ao72 t277.length co72, .int .i64 t280, .int .i64 0, .slice none 0 0, .slice none 0 0, .slice none 0 0]) ?_ 5 _ rfl; (with_reducible repeat (first | refine blk_drewN ?_ _ | refine blk_drew ?_ | refine blk_alloc ?_ _)); refine blk_put (cs := #[.int .i64 t272, .int .i64 t273, .slice Ao71 t274.length co71, .slice Ao72 t277.length co72, .int .i64 0, .int .i64 0, .slice none 0 0, .slice none 0 0, .slice none 0 0]) ?_ 4 _ rfl; (with_reducible repeat (first | refine blk_drewN ?_ _ | refine blk_drew ?_ | refine blk_alloc ?_ _)); refine blk_put (cs := #[.int .i64 t272, .int .i64 t273, .slice Ao71 t274.length co71, .slice none 0 0, .int .i64 0, .int .i64 0, .slice none 0 0, .slice none 0 0, .slice none 0 0]) ?_ 3 _ rfl; (with_reducible repeat (first | refine blk_drewN ?_ _ | refine blk_drew ?_ | refine blk_alloc ?_ _)); refine blk_put (cs := #[.int .i64 t272, .int .i64 t273, .slice none 0 0, .slice none 0 0, .int .i64 0, .int .i64 0, .slice none 0 0, .slice none 0 0, .slice none 0 0]) ?_ 2 _ rfl; (with_reducible repeat (first | refine blk_drewN ?_ _ | refine blk_drew ?_ | refine blk_alloc ?_ _)); refine blk_put (cs := #[.int .i64 t272, .int .i64 0, .slice none 0 0, .slice none 0 0, .int .i64 0, .int .i64 0, .slice none 0 0, .slice none 0 0, .slice none 0 0]) ?_ 1 _ rfl; (with_reducible repeat (first | refine blk_drewN ?_ _ | refine blk_drew ?_ | refine blk_alloc ?_ _)); refine blk_put (cs := #[.int .i64 0, .int .i64 0, .slice none 0 0, .slice none 0 0, .int .i64 0, .int .i64 0, .slice none 0 0, .slice none 0 0, .slice none 0 0]) ?_ 0 _ rfl; (with_reducible repeat (first | refine blk_drewN ?_ _ | refine blk_drew ?_ | refine blk_alloc ?_ _)); exact BK291.out) hb); have n24_ := Aside0.mk (below_step (bk_ HB.out) hb); clear HO217; clear HO220; clear HO225; clear HO228; clear HO231; clear HO236; clear HO239; clear HO244; clear HO247; clear HO250; clear HO256; clear HO259; clear HO264; clear HO267; clear HO270; clear HO276; clear HO279; clear HO284; clear HO287; clear HO290; clear BK209; clear BK210; clear BK271; clear BK291; clear HB; have HO217 := n0_; have HO220 := n1_; have HO225 := n2_; have HO228 := n3_; have HO231 := n4_; have HO236 := n5_; have HO239 := n6_; have HO244 := n7_; have HO247 := n8_; have HO250 := n9_; have HO256 := n10_; have HO259 := n11_; have HO264 := n12_; have HO267 := n13_; have HO270 := n14_; have HO276 := n15_; have HO279 := n16_; have HO284 := n17_; have HO287 := n18_; have HO290 := n19_; have BK209 := n20_; have BK210 := n21_; have BK271 := n22_; have BK291 := n23_; have HB := n24_; clear n0_ n1_ n2_ n3_ n4_ n5_ n6_ n7_ n8_ n9_ n10_ n11_ n12_ n13_ n14_ n15_ n16_ n17_ n18_ n19_ n20_ n21_ n22_ n23_ n24_; (try clear hb); (try clear hb2); (try clear hk); (try clear hi)))
            have n0_ := Aside0.mk (Kd.R_drew HO217.out)
            have n1_ := Aside0.mk (Kd.R_drew HO220.out)
            have n2_ := Aside0.mk (Kd.R_drew HO225.out)
            have n3_ := Aside0.mk (Kd.R_drew HO228.out)
            have n4_ := Aside0.mk (Kd.R_drew HO231.out)
            have n5_ := Aside0.mk (Kd.R_drew HO236.out)
            have n6_ := Aside0.mk (Kd.R_drew HO239.out)
            have n7_ := Aside0.mk (Kd.R_drew HO244.out)
            have n8_ := Aside0.mk (Kd.R_drew HO247.out)
            have n9_ := Aside0.mk (Kd.R_drew HO250.out)
            have n10_ := Aside0.mk (Kd.R_drew HO256.out)
            have n11_ := Aside0.mk (Kd.R_drew HO259.out)
            have n12_ := Aside0.mk (Kd.R_drew HO264.out)
            have n13_ := Aside0.mk (Kd.R_drew HO267.out)
            have n14_ := Aside0.mk (Kd.R_drew HO270.out)
            have n15_ := Aside0.mk (Kd.R_drew HO276.out)
            have n16_ := Aside0.mk (Kd.R_drew HO279.out)
            have n17_ := Aside0.mk (Kd.R_drew HO284.out)
            have n18_ := Aside0.mk (Kd.R_drew HO287.out)
            have n19_ := Aside0.mk (Kd.R_drew HO290.out)
            have n20_ := Aside0.mk (blk_drew BK209.out)
            have n21_ := Aside0.mk (blk_drew BK210.out)
            have n22_ := Aside0.mk (blk_drew BK271.out)
            have n23_ := Aside0.mk (blk_drew BK291.out)
            have n24_ := Aside0.mk (below_drew1 HB.out)
            clear HO217
            clear HO220
            clear HO225
            clear HO228
            clear HO231
            clear HO236
            clear HO239
            clear HO244
            clear HO247
            clear HO250
            clear HO256
            clear HO259
            clear HO264
            clear HO267
            clear HO270
            clear HO276
            clear HO279
            clear HO284
            clear HO287
            clear HO290
            clear BK209
            clear BK210
            clear BK271
            clear BK291
            clear HB
            have HO217 := n0_
            have HO220 := n1_
            have HO225 := n2_
            have HO228 := n3_
            have HO231 := n4_
            have HO236 := n5_
            have HO239 := n6_
            have HO244 := n7_
            have HO247 := n8_
            have HO250 := n9_
            have HO256 := n10_
            have HO259 := n11_
            have HO264 := n12_
            have HO267 := n13_
            have HO270 := n14_
            have HO276 := n15_
            have HO279 := n16_
            have HO284 := n17_
            have HO287 := n18_
            have HO290 := n19_
            have BK209 := n20_
            have BK210 := n21_
            have BK271 := n22_
            have BK291 := n23_
            have HB := n24_
            clear n0_ n1_ n2_ n3_ n4_ n5_ n6_ n7_ n8_ n9_ n10_ n11_ n12_ n13_ n14_ n15_ n16_ n17_ n18_ n19_ n20_ n21_ n22_ n23_ n24_
            refine start_ (n := 5) (S := fun w' => w'.cell? ⟨gb271, 0, none⟩ = some (.int .i64 t252) ∧ w'.cell? ⟨gb271, 1, none⟩ = some (.int .i64 t253) ∧ w'.cell? ⟨gb271, 2, none⟩ = some (.slice Ao59 t254.length co59) ∧ w'.cell? ⟨gb271, 3, none⟩ = some (.slice Ao60 t257.length co60) ∧ w'.cell? ⟨gb271, 4, none⟩ = some (.int .i64 t260) ∧ w'.cell? ⟨gb271, 5, none⟩ = some (.int .i64 t261) ∧ w'.cell? ⟨gb271, 6, none⟩ = some (.slice Ao61 t262.length co61) ∧ w'.cell? ⟨gb271, 7, none⟩ = some (.slice Ao62 t265.length co62) ∧ w'.cell? ⟨gb271, 8, none⟩ = some (.slice Ao63 t268.length co63) ∧ w'.cell? ⟨gb209, 0, none⟩ = some (.int .i64 a0_0) ∧ w'.cell? ⟨gb209, 1, none⟩ = some (.int .i64 a0_1) ∧ w'.cell? ⟨gb209, 2, none⟩ = some (.slice A0_2 l0_2.length c0_2) ∧ w'.cell? ⟨gb209, 3, none⟩ = some (.slice A0_3 l0_3.length c0_3) ∧ w'.cell? ⟨gb209, 4, none⟩ = some (.int .i64 a0_4) ∧ w'.cell? ⟨gb209, 5, none⟩ = some (.int .i64 a0_5) ∧ w'.cell? ⟨gb209, 6, none⟩ = some (.slice A0_6 l0_6.length c0_6) ∧ w'.cell? ⟨gb209, 7, none⟩ = some (.slice A0_7 l0_7.length c0_7) ∧ w'.cell? ⟨gb209, 8, none⟩ = some (.slice A0_8 l0_8.length c0_8)) (ds := []) #[false, false, false, false, false] (by kernel_rfl) rfl rfl ⟨(blk_cell BK271.out 0).trans rfl, (blk_cell BK271.out 1).trans rfl, (blk_cell BK271.out 2).trans rfl, (blk_cell BK271.out 3).trans rfl, (blk_cell BK271.out 4).trans rfl, (blk_cell BK271.out 5).trans rfl, (blk_cell BK271.out 6).trans rfl, (blk_cell BK271.out 7).trans rfl, (blk_cell BK271.out 8).trans rfl, (blk_cell BK209.out 0).trans rfl, (blk_cell BK209.out 1).trans rfl, (blk_cell BK209.out 2).trans rfl, (blk_cell BK209.out 3).trans rfl, (blk_cell BK209.out 4).trans rfl, (blk_cell BK209.out 5).trans rfl, (blk_cell BK209.out 6).trans rfl, (blk_cell BK209.out 7).trans rfl, (blk_cell BK209.out 8).trans rfl⟩ (fun hHeld => ?_)
            generalize w77.drew = w78 at HO217 HO220 HO225 HO228 HO231 HO236 HO239 HO244 HO247 HO250 HO256 HO259 HO264 HO267 HO270 HO276 HO279 HO284 HO287 HO290 BK209 BK210 BK271 BK291 HB hHeld ⊢
            refine take_ (i := 0) (N := some 35) (v := ?_) (a' := ?_) #[true, false, false, false, false] rfl rfl (by kernel_rfl) (fun _ _ _ h => h) (Or.inl ⟨by rfl, ?_⟩) hHeld ?_ ?_
            rotate_left
            · rintro w' ⟨s0, s1, s2, s3, s4, s5, s6, s7, s8, s9, s10, s11, s12, s13, s14, s15, s16, s17⟩
              go_simp
              with_reducible rfl
            rotate_left
            · simp only [Act.put, List.setIfInBounds_toArray, List.set_cons_zero, List.set_cons_succ, i64_w, i32_w]
              rfl
            refine take_ (i := 1) (N := some 36) (v := ?_) (a' := ?_) #[true, true, false, false, false] rfl rfl (by kernel_rfl) (fun _ _ _ h => h) (Or.inl ⟨by rfl, ?_⟩) hHeld ?_ ?_
            rotate_left
            · rintro w' ⟨s0, s1, s2, s3, s4, s5, s6, s7, s8, s9, s10, s11, s12, s13, s14, s15, s16, s17⟩
              go_simp
              with_reducible rfl
            rotate_left
            · simp only [Act.put, List.setIfInBounds_toArray, List.set_cons_zero, List.set_cons_succ, i64_w, i32_w]
              rfl
            refine one_ (i := 2) (N := some 37) #[true, true, true, false, false] rfl rfl (by kernel_rfl) (by decide) (fun K hK => ?_)
            refine goes_ Try.func28 (by kernel_rfl) rfl #[.agg #[.int .i64 a0_0, .int .i64 a0_1, .slice A0_2 l0_2.length c0_2, .slice A0_3 l0_3.length c0_3, .int .i64 a0_4, .int .i64 a0_5, .slice A0_6 l0_6.length c0_6, .slice A0_7 l0_7.length c0_7, .slice A0_8 l0_8.length c0_8]] (by rfl) rfl rfl (by (try simp only [List.map_toArray, List.map_cons, List.map_nil]); first | done | rfl | (simp only [List.length_drop, List.length_take]; rfl)) ?_
            with_reducible refine (laws_toDesk.calls k a0_0 a0_1 _ _ l0_2 _ _ l0_3 a0_4 a0_5 _ _ l0_6 _ _ l0_7 _ _ l0_8 t293 t294 t295 t298 t301 t302 t303 t306 t309 _ ?side1 ?side2 ?side3 ?side4 ?side5 ?side6 ?side7 ?side8 ?side9 ?side10 A26.out).mono ?_
            (case side1 => exact ck_ (Kd.C_below HR0_2.out HB.out))
            (case side2 => exact HC0_2.out)
            (case side3 => exact ck_ (Kd.C_below HR0_3.out HB.out))
            (case side4 => exact HC0_3.out)
            (case side5 => exact ck_ (Kd.C_below HR0_6.out HB.out))
            (case side6 => exact HC0_6.out)
            (case side7 => exact ck_ (Kd.C_below HR0_7.out HB.out))
            (case side8 => exact HC0_7.out)
            (case side9 => exact ck_ (Kd.C_below HR0_8.out HB.out))
            (case side10 => exact HC0_8.out)
            rintro e w79 ⟨v296, v299, v304, v307, v310, rfl, ho0, ho1, ho2, ho3, ho4, hb⟩
            refine ⟨_, rfl, ?_⟩
            have n0_ := Aside0.mk (Kd.R_mono (Kd.R_told (Kd.R_told (Kd.R_told (Kd.R_told (Kd.R_told (Kd.R_old (rk_ HO217.out) hb) (Kd.R_base ho0)) (Kd.R_base ho1)) (Kd.R_base ho2)) (Kd.R_base ho3)) (Kd.R_base ho4)) (fun _ h_ => h_.1))
            have n1_ := Aside0.mk (Kd.R_mono (Kd.R_told (Kd.R_told (Kd.R_told (Kd.R_told (Kd.R_told (Kd.R_old (rk_ HO220.out) hb) (Kd.R_base ho0)) (Kd.R_base ho1)) (Kd.R_base ho2)) (Kd.R_base ho3)) (Kd.R_base ho4)) (fun _ h_ => h_.1))
            have n2_ := Aside0.mk (Kd.R_mono (Kd.R_told (Kd.R_told (Kd.R_told (Kd.R_told (Kd.R_told (Kd.R_old (rk_ HO225.out) hb) (Kd.R_base ho0)) (Kd.R_base ho1)) (Kd.R_base ho2)) (Kd.R_base ho3)) (Kd.R_base ho4)) (fun _ h_ => h_.1))
            have n3_ := Aside0.mk (Kd.R_mono (Kd.R_told (Kd.R_told (Kd.R_told (Kd.R_told (Kd.R_told (Kd.R_old (rk_ HO228.out) hb) (Kd.R_base ho0)) (Kd.R_base ho1)) (Kd.R_base ho2)) (Kd.R_base ho3)) (Kd.R_base ho4)) (fun _ h_ => h_.1))
            have n4_ := Aside0.mk (Kd.R_mono (Kd.R_told (Kd.R_told (Kd.R_told (Kd.R_told (Kd.R_told (Kd.R_old (rk_ HO231.out) hb) (Kd.R_base ho0)) (Kd.R_base ho1)) (Kd.R_base ho2)) (Kd.R_base ho3)) (Kd.R_base ho4)) (fun _ h_ => h_.1))
            have n5_ := Aside0.mk (Kd.R_mono (Kd.R_told (Kd.R_told (Kd.R_told (Kd.R_told (Kd.R_told (Kd.R_old (rk_ HO236.out) hb) (Kd.R_base ho0)) (Kd.R_base ho1)) (Kd.R_base ho2)) (Kd.R_base ho3)) (Kd.R_base ho4)) (fun _ h_ => h_.1))
            have n6_ := Aside0.mk (Kd.R_mono (Kd.R_told (Kd.R_told (Kd.R_told (Kd.R_told (Kd.R_told (Kd.R_old (rk_ HO239.out) hb) (Kd.R_base ho0)) (Kd.R_base ho1)) (Kd.R_base ho2)) (Kd.R_base ho3)) (Kd.R_base ho4)) (fun _ h_ => h_.1))
            have n7_ := Aside0.mk (Kd.R_mono (Kd.R_told (Kd.R_told (Kd.R_told (Kd.R_told (Kd.R_told (Kd.R_old (rk_ HO244.out) hb) (Kd.R_base ho0)) (Kd.R_base ho1)) (Kd.R_base ho2)) (Kd.R_base ho3)) (Kd.R_base ho4)) (fun _ h_ => h_.1))
            have n8_ := Aside0.mk (Kd.R_mono (Kd.R_told (Kd.R_told (Kd.R_told (Kd.R_told (Kd.R_told (Kd.R_old (rk_ HO247.out) hb) (Kd.R_base ho0)) (Kd.R_base ho1)) (Kd.R_base ho2)) (Kd.R_base ho3)) (Kd.R_base ho4)) (fun _ h_ => h_.1))
            have n9_ := Aside0.mk (Kd.R_mono (Kd.R_told (Kd.R_told (Kd.R_told (Kd.R_told (Kd.R_told (Kd.R_old (rk_ HO250.out) hb) (Kd.R_base ho0)) (Kd.R_base ho1)) (Kd.R_base ho2)) (Kd.R_base ho3)) (Kd.R_base ho4)) (fun _ h_ => h_.1))
            have n10_ := Aside0.mk (Kd.R_mono (Kd.R_told (Kd.R_told (Kd.R_told (Kd.R_told (Kd.R_told (Kd.R_old (rk_ HO256.out) hb) (Kd.R_base ho0)) (Kd.R_base ho1)) (Kd.R_base ho2)) (Kd.R_base ho3)) (Kd.R_base ho4)) (fun _ h_ => h_.1))
            have n11_ := Aside0.mk (Kd.R_mono (Kd.R_told (Kd.R_told (Kd.R_told (Kd.R_told (Kd.R_told (Kd.R_old (rk_ HO259.out) hb) (Kd.R_base ho0)) (Kd.R_base ho1)) (Kd.R_base ho2)) (Kd.R_base ho3)) (Kd.R_base ho4)) (fun _ h_ => h_.1))
            have n12_ := Aside0.mk (Kd.R_mono (Kd.R_told (Kd.R_told (Kd.R_told (Kd.R_told (Kd.R_told (Kd.R_old (rk_ HO264.out) hb) (Kd.R_base ho0)) (Kd.R_base ho1)) (Kd.R_base ho2)) (Kd.R_base ho3)) (Kd.R_base ho4)) (fun _ h_ => h_.1))
            have n13_ := Aside0.mk (Kd.R_mono (Kd.R_told (Kd.R_told (Kd.R_told (Kd.R_told (Kd.R_told (Kd.R_old (rk_ HO267.out) hb) (Kd.R_base ho0)) (Kd.R_base ho1)) (Kd.R_base ho2)) (Kd.R_base ho3)) (Kd.R_base ho4)) (fun _ h_ => h_.1))
            have n14_ := Aside0.mk (Kd.R_mono (Kd.R_told (Kd.R_told (Kd.R_told (Kd.R_told (Kd.R_told (Kd.R_old (rk_ HO270.out) hb) (Kd.R_base ho0)) (Kd.R_base ho1)) (Kd.R_base ho2)) (Kd.R_base ho3)) (Kd.R_base ho4)) (fun _ h_ => h_.1))
            have n15_ := Aside0.mk (Kd.R_mono (Kd.R_told (Kd.R_told (Kd.R_told (Kd.R_told (Kd.R_told (Kd.R_old (rk_ HO276.out) hb) (Kd.R_base ho0)) (Kd.R_base ho1)) (Kd.R_base ho2)) (Kd.R_base ho3)) (Kd.R_base ho4)) (fun _ h_ => h_.1))
            have n16_ := Aside0.mk (Kd.R_mono (Kd.R_told (Kd.R_told (Kd.R_told (Kd.R_told (Kd.R_told (Kd.R_old (rk_ HO279.out) hb) (Kd.R_base ho0)) (Kd.R_base ho1)) (Kd.R_base ho2)) (Kd.R_base ho3)) (Kd.R_base ho4)) (fun _ h_ => h_.1))
            have n17_ := Aside0.mk (Kd.R_mono (Kd.R_told (Kd.R_told (Kd.R_told (Kd.R_told (Kd.R_told (Kd.R_old (rk_ HO284.out) hb) (Kd.R_base ho0)) (Kd.R_base ho1)) (Kd.R_base ho2)) (Kd.R_base ho3)) (Kd.R_base ho4)) (fun _ h_ => h_.1))
            have n18_ := Aside0.mk (Kd.R_mono (Kd.R_told (Kd.R_told (Kd.R_told (Kd.R_told (Kd.R_told (Kd.R_old (rk_ HO287.out) hb) (Kd.R_base ho0)) (Kd.R_base ho1)) (Kd.R_base ho2)) (Kd.R_base ho3)) (Kd.R_base ho4)) (fun _ h_ => h_.1))
            have n19_ := Aside0.mk (Kd.R_mono (Kd.R_told (Kd.R_told (Kd.R_told (Kd.R_told (Kd.R_told (Kd.R_old (rk_ HO290.out) hb) (Kd.R_base ho0)) (Kd.R_base ho1)) (Kd.R_base ho2)) (Kd.R_base ho3)) (Kd.R_base ho4)) (fun _ h_ => h_.1))
            have n20_ := Aside0.mk (Kd.R_lower (Kd.R_new' (Kd.R_new' (Kd.R_new' (Kd.R_new' (Kd.R_new' (Kd.R_new' (Kd.R_new' (Kd.R_new' (Kd.R_new' (Kd.R_new' (Kd.R_new' (Kd.R_new' (Kd.R_new' (Kd.R_new' (Kd.R_new' (Kd.R_new' (Kd.R_new' (Kd.R_new' (Kd.R_new' (Kd.R_new' ho0 (Kd.R_lt (rk_ HO217.out))) (Kd.R_lt (rk_ HO220.out))) (Kd.R_lt (rk_ HO225.out))) (Kd.R_lt (rk_ HO228.out))) (Kd.R_lt (rk_ HO231.out))) (Kd.R_lt (rk_ HO236.out))) (Kd.R_lt (rk_ HO239.out))) (Kd.R_lt (rk_ HO244.out))) (Kd.R_lt (rk_ HO247.out))) (Kd.R_lt (rk_ HO250.out))) (Kd.R_lt (rk_ HO256.out))) (Kd.R_lt (rk_ HO259.out))) (Kd.R_lt (rk_ HO264.out))) (Kd.R_lt (rk_ HO267.out))) (Kd.R_lt (rk_ HO270.out))) (Kd.R_lt (rk_ HO276.out))) (Kd.R_lt (rk_ HO279.out))) (Kd.R_lt (rk_ HO284.out))) (Kd.R_lt (rk_ HO287.out))) (Kd.R_lt (rk_ HO290.out))) (below_size (bk_ HB.out)))
            have n21_ := Aside0.mk (Kd.R_lower (Kd.R_new' (Kd.R_new' (Kd.R_new' (Kd.R_new' (Kd.R_new' (Kd.R_new' (Kd.R_new' (Kd.R_new' (Kd.R_new' (Kd.R_new' (Kd.R_new' (Kd.R_new' (Kd.R_new' (Kd.R_new' (Kd.R_new' (Kd.R_new' (Kd.R_new' (Kd.R_new' (Kd.R_new' (Kd.R_new' ho1 (Kd.R_lt (rk_ HO217.out))) (Kd.R_lt (rk_ HO220.out))) (Kd.R_lt (rk_ HO225.out))) (Kd.R_lt (rk_ HO228.out))) (Kd.R_lt (rk_ HO231.out))) (Kd.R_lt (rk_ HO236.out))) (Kd.R_lt (rk_ HO239.out))) (Kd.R_lt (rk_ HO244.out))) (Kd.R_lt (rk_ HO247.out))) (Kd.R_lt (rk_ HO250.out))) (Kd.R_lt (rk_ HO256.out))) (Kd.R_lt (rk_ HO259.out))) (Kd.R_lt (rk_ HO264.out))) (Kd.R_lt (rk_ HO267.out))) (Kd.R_lt (rk_ HO270.out))) (Kd.R_lt (rk_ HO276.out))) (Kd.R_lt (rk_ HO279.out))) (Kd.R_lt (rk_ HO284.out))) (Kd.R_lt (rk_ HO287.out))) (Kd.R_lt (rk_ HO290.out))) (below_size (bk_ HB.out)))
            have n22_ := Aside0.mk (Kd.R_lower (Kd.R_new' (Kd.R_new' (Kd.R_new' (Kd.R_new' (Kd.R_new' (Kd.R_new' (Kd.R_new' (Kd.R_new' (Kd.R_new' (Kd.R_new' (Kd.R_new' (Kd.R_new' (Kd.R_new' (Kd.R_new' (Kd.R_new' (Kd.R_new' (Kd.R_new' (Kd.R_new' (Kd.R_new' (Kd.R_new' ho2 (Kd.R_lt (rk_ HO217.out))) (Kd.R_lt (rk_ HO220.out))) (Kd.R_lt (rk_ HO225.out))) (Kd.R_lt (rk_ HO228.out))) (Kd.R_lt (rk_ HO231.out))) (Kd.R_lt (rk_ HO236.out))) (Kd.R_lt (rk_ HO239.out))) (Kd.R_lt (rk_ HO244.out))) (Kd.R_lt (rk_ HO247.out))) (Kd.R_lt (rk_ HO250.out))) (Kd.R_lt (rk_ HO256.out))) (Kd.R_lt (rk_ HO259.out))) (Kd.R_lt (rk_ HO264.out))) (Kd.R_lt (rk_ HO267.out))) (Kd.R_lt (rk_ HO270.out))) (Kd.R_lt (rk_ HO276.out))) (Kd.R_lt (rk_ HO279.out))) (Kd.R_lt (rk_ HO284.out))) (Kd.R_lt (rk_ HO287.out))) (Kd.R_lt (rk_ HO290.out))) (below_size (bk_ HB.out)))
            have n23_ := Aside0.mk (Kd.R_lower (Kd.R_new' (Kd.R_new' (Kd.R_new' (Kd.R_new' (Kd.R_new' (Kd.R_new' (Kd.R_new' (Kd.R_new' (Kd.R_new' (Kd.R_new' (Kd.R_new' (Kd.R_new' (Kd.R_new' (Kd.R_new' (Kd.R_new' (Kd.R_new' (Kd.R_new' (Kd.R_new' (Kd.R_new' (Kd.R_new' ho3 (Kd.R_lt (rk_ HO217.out))) (Kd.R_lt (rk_ HO220.out))) (Kd.R_lt (rk_ HO225.out))) (Kd.R_lt (rk_ HO228.out))) (Kd.R_lt (rk_ HO231.out))) (Kd.R_lt (rk_ HO236.out))) (Kd.R_lt (rk_ HO239.out))) (Kd.R_lt (rk_ HO244.out))) (Kd.R_lt (rk_ HO247.out))) (Kd.R_lt (rk_ HO250.out))) (Kd.R_lt (rk_ HO256.out))) (Kd.R_lt (rk_ HO259.out))) (Kd.R_lt (rk_ HO264.out))) (Kd.R_lt (rk_ HO267.out))) (Kd.R_lt (rk_ HO270.out))) (Kd.R_lt (rk_ HO276.out))) (Kd.R_lt (rk_ HO279.out))) (Kd.R_lt (rk_ HO284.out))) (Kd.R_lt (rk_ HO287.out))) (Kd.R_lt (rk_ HO290.out))) (below_size (bk_ HB.out)))
            have n24_ := Aside0.mk (Kd.R_lower (Kd.R_new' (Kd.R_new' (Kd.R_new' (Kd.R_new' (Kd.R_new' (Kd.R_new' (Kd.R_new' (Kd.R_new' (Kd.R_new' (Kd.R_new' (Kd.R_new' (Kd.R_new' (Kd.R_new' (Kd.R_new' (Kd.R_new' (Kd.R_new' (Kd.R_new' (Kd.R_new' (Kd.R_new' (Kd.R_new' ho4 (Kd.R_lt (rk_ HO217.out))) (Kd.R_lt (rk_ HO220.out))) (Kd.R_lt (rk_ HO225.out))) (Kd.R_lt (rk_ HO228.out))) (Kd.R_lt (rk_ HO231.out))) (Kd.R_lt (rk_ HO236.out))) (Kd.R_lt (rk_ HO239.out))) (Kd.R_lt (rk_ HO244.out))) (Kd.R_lt (rk_ HO247.out))) (Kd.R_lt (rk_ HO250.out))) (Kd.R_lt (rk_ HO256.out))) (Kd.R_lt (rk_ HO259.out))) (Kd.R_lt (rk_ HO264.out))) (Kd.R_lt (rk_ HO267.out))) (Kd.R_lt (rk_ HO270.out))) (Kd.R_lt (rk_ HO276.out))) (Kd.R_lt (rk_ HO279.out))) (Kd.R_lt (rk_ HO284.out))) (Kd.R_lt (rk_ HO287.out))) (Kd.R_lt (rk_ HO290.out))) (below_size (bk_ HB.out)))
            have n25_ := Aside0.mk (bb_ BK209.out hb)
            have n26_ := Aside0.mk (bb_ BK210.out hb)
            have n27_ := Aside0.mk (bb_ BK271.out hb)
            have n28_ := Aside0.mk (bb_ BK291.out hb)
            have n29_ := Aside0.mk (below_step (bk_ HB.out) hb)
            clear HO217
            clear HO220
            clear HO225
            clear HO228
            clear HO231
            clear HO236
            clear HO239
            clear HO244
            clear HO247
            clear HO250
            clear HO256
            clear HO259
            clear HO264
            clear HO267
            clear HO270
            clear HO276
            clear HO279
            clear HO284
            clear HO287
            clear HO290
            clear BK209
            clear BK210
            clear BK271
            clear BK291
            clear HB
            have HO217 := n0_
            have HO220 := n1_
            have HO225 := n2_
            have HO228 := n3_
            have HO231 := n4_
            have HO236 := n5_
            have HO239 := n6_
            have HO244 := n7_
            have HO247 := n8_
            have HO250 := n9_
            have HO256 := n10_
            have HO259 := n11_
            have HO264 := n12_
            have HO267 := n13_
            have HO270 := n14_
            have HO276 := n15_
            have HO279 := n16_
            have HO284 := n17_
            have HO287 := n18_
            have HO290 := n19_
            have HO297 := n20_
            have HO300 := n21_
            have HO305 := n22_
            have HO308 := n23_
            have HO311 := n24_
            have BK209 := n25_
            have BK210 := n26_
            have BK271 := n27_
            have BK291 := n28_
            have HB := n29_
            clear n0_ n1_ n2_ n3_ n4_ n5_ n6_ n7_ n8_ n9_ n10_ n11_ n12_ n13_ n14_ n15_ n16_ n17_ n18_ n19_ n20_ n21_ n22_ n23_ n24_ n25_ n26_ n27_ n28_ n29_
            (try clear hb)
            (try clear hb2)
            (try clear hk)
            (try clear hi)
            (try clear ho0)
            (try clear ho1)
            (try clear ho2)
            (try clear ho3)
            (try clear ho4)
            obtain ⟨Ao80, co80, eo80⟩ := Kd.R_slice HO297.out
            (first | subst eo80 | (injection eo80 with f1_ f2_ f3_; have f4_ := f1_.symm; have f5_ := f3_.symm; clear f1_ f2_ f3_; subst f4_; subst f5_))
            obtain ⟨Ao81, co81, eo81⟩ := Kd.R_slice HO300.out
            (first | subst eo81 | (injection eo81 with f1_ f2_ f3_; have f4_ := f1_.symm; have f5_ := f3_.symm; clear f1_ f2_ f3_; subst f4_; subst f5_))
            obtain ⟨Ao82, co82, eo82⟩ := Kd.R_slice HO305.out
            (first | subst eo82 | (injection eo82 with f1_ f2_ f3_; have f4_ := f1_.symm; have f5_ := f3_.symm; clear f1_ f2_ f3_; subst f4_; subst f5_))
            obtain ⟨Ao83, co83, eo83⟩ := Kd.R_slice HO308.out
            (first | subst eo83 | (injection eo83 with f1_ f2_ f3_; have f4_ := f1_.symm; have f5_ := f3_.symm; clear f1_ f2_ f3_; subst f4_; subst f5_))
            obtain ⟨Ao84, co84, eo84⟩ := Kd.R_slice HO311.out
            (first | subst eo84 | (injection eo84 with f1_ f2_ f3_; have f4_ := f1_.symm; have f5_ := f3_.symm; clear f1_ f2_ f3_; subst f4_; subst f5_))
            refine hK.out _ _ ⟨(blk_cell BK271.out 0).trans rfl, (blk_cell BK271.out 1).trans rfl, (blk_cell BK271.out 2).trans rfl, (blk_cell BK271.out 3).trans rfl, (blk_cell BK271.out 4).trans rfl, (blk_cell BK271.out 5).trans rfl, (blk_cell BK271.out 6).trans rfl, (blk_cell BK271.out 7).trans rfl, (blk_cell BK271.out 8).trans rfl, (blk_cell BK209.out 0).trans rfl, (blk_cell BK209.out 1).trans rfl, (blk_cell BK209.out 2).trans rfl, (blk_cell BK209.out 3).trans rfl, (blk_cell BK209.out 4).trans rfl, (blk_cell BK209.out 5).trans rfl, (blk_cell BK209.out 6).trans rfl, (blk_cell BK209.out 7).trans rfl, (blk_cell BK209.out 8).trans rfl⟩ (fun hHeld => ?_)
            clear hK K
            refine norm_ (a' := ?_) ?_ ?_
            rotate_left
            · show Act.put _ (some 37) _ = _
              simp only [Act.put, List.setIfInBounds_toArray, List.set_cons_zero, List.set_cons_succ, i64_w, i32_w]
              rfl
            refine one_ (i := 3) (N := some 38) #[true, true, true, true, false] rfl rfl (by kernel_rfl) (by decide) (fun K hK => ?_)
            refine goes_ Try.func30 (by kernel_rfl) rfl #[.agg #[.int .i64 t252, .int .i64 t253, .slice Ao59 t254.length co59, .slice Ao60 t257.length co60, .int .i64 t260, .int .i64 t261, .slice Ao61 t262.length co61, .slice Ao62 t265.length co62, .slice Ao63 t268.length co63], .agg #[.int .i64 t293, .int .i64 t294, .slice Ao80 t295.length co80, .slice Ao81 t298.length co81, .int .i64 t301, .int .i64 t302, .slice Ao82 t303.length co82, .slice Ao83 t306.length co83, .slice Ao84 t309.length co84]] (by rfl) rfl rfl (by (try simp only [List.map_toArray, List.map_cons, List.map_nil]); first | done | rfl | (simp only [List.length_drop, List.length_take]; rfl)) ?_
            with_reducible refine (laws_eqDesk.calls k t252 t253 _ _ t254 _ _ t257 t260 t261 _ _ t262 _ _ t265 _ _ t268 t293 t294 _ _ t295 _ _ t298 t301 t302 _ _ t303 _ _ t306 _ _ t309 true _ ?side1 ?side2 ?side3 ?side4 ?side5 ?side6 ?side7 ?side8 ?side9 ?side10 ?side11 ?side12 ?side13 ?side14 ?side15 ?side16 ?side17 ?side18 ?side19 ?side20 A27.out).mono ?_
            (case side1 => repeat (first | exact (Kd.R_reads' HO256.out).2.2 | (with_reducible refine Kd.C_alloc ?_ _) | (with_reducible refine Kd.C_drewN ?_ _) | (with_reducible refine Kd.C_drew ?_)))
            (case side2 => exact (Kd.R_reads' HO256.out).2.1)
            (case side3 => repeat (first | exact (Kd.R_reads' HO259.out).2.2 | (with_reducible refine Kd.C_alloc ?_ _) | (with_reducible refine Kd.C_drewN ?_ _) | (with_reducible refine Kd.C_drew ?_)))
            (case side4 => exact (Kd.R_reads' HO259.out).2.1)
            (case side5 => repeat (first | exact (Kd.R_reads' HO264.out).2.2 | (with_reducible refine Kd.C_alloc ?_ _) | (with_reducible refine Kd.C_drewN ?_ _) | (with_reducible refine Kd.C_drew ?_)))
            (case side6 => exact (Kd.R_reads' HO264.out).2.1)
            (case side7 => repeat (first | exact (Kd.R_reads' HO267.out).2.2 | (with_reducible refine Kd.C_alloc ?_ _) | (with_reducible refine Kd.C_drewN ?_ _) | (with_reducible refine Kd.C_drew ?_)))
            (case side8 => exact (Kd.R_reads' HO267.out).2.1)
            (case side9 => repeat (first | exact (Kd.R_reads' HO270.out).2.2 | (with_reducible refine Kd.C_alloc ?_ _) | (with_reducible refine Kd.C_drewN ?_ _) | (with_reducible refine Kd.C_drew ?_)))
            (case side10 => exact (Kd.R_reads' HO270.out).2.1)
            (case side11 => repeat (first | exact (Kd.R_reads' HO297.out).2.2 | (with_reducible refine Kd.C_alloc ?_ _) | (with_reducible refine Kd.C_drewN ?_ _) | (with_reducible refine Kd.C_drew ?_)))
            (case side12 => exact (Kd.R_reads' HO297.out).2.1)
            (case side13 => repeat (first | exact (Kd.R_reads' HO300.out).2.2 | (with_reducible refine Kd.C_alloc ?_ _) | (with_reducible refine Kd.C_drewN ?_ _) | (with_reducible refine Kd.C_drew ?_)))
            (case side14 => exact (Kd.R_reads' HO300.out).2.1)
            (case side15 => repeat (first | exact (Kd.R_reads' HO305.out).2.2 | (with_reducible refine Kd.C_alloc ?_ _) | (with_reducible refine Kd.C_drewN ?_ _) | (with_reducible refine Kd.C_drew ?_)))
            (case side16 => exact (Kd.R_reads' HO305.out).2.1)
            (case side17 => repeat (first | exact (Kd.R_reads' HO308.out).2.2 | (with_reducible refine Kd.C_alloc ?_ _) | (with_reducible refine Kd.C_drewN ?_ _) | (with_reducible refine Kd.C_drew ?_)))
            (case side18 => exact (Kd.R_reads' HO308.out).2.1)
            (case side19 => repeat (first | exact (Kd.R_reads' HO311.out).2.2 | (with_reducible refine Kd.C_alloc ?_ _) | (with_reducible refine Kd.C_drewN ?_ _) | (with_reducible refine Kd.C_drew ?_)))
            (case side20 => exact (Kd.R_reads' HO311.out).2.1)
            rintro e w85 ⟨rfl, hb⟩
            refine ⟨_, rfl, ?_⟩
            have n0_ := Aside0.mk (Kd.R_below (rk_ HO217.out) hb)
            have n1_ := Aside0.mk (Kd.R_below (rk_ HO220.out) hb)
            have n2_ := Aside0.mk (Kd.R_below (rk_ HO225.out) hb)
            have n3_ := Aside0.mk (Kd.R_below (rk_ HO228.out) hb)
            have n4_ := Aside0.mk (Kd.R_below (rk_ HO231.out) hb)
            have n5_ := Aside0.mk (Kd.R_below (rk_ HO236.out) hb)
            have n6_ := Aside0.mk (Kd.R_below (rk_ HO239.out) hb)
            have n7_ := Aside0.mk (Kd.R_below (rk_ HO244.out) hb)
            have n8_ := Aside0.mk (Kd.R_below (rk_ HO247.out) hb)
            have n9_ := Aside0.mk (Kd.R_below (rk_ HO250.out) hb)
            have n10_ := Aside0.mk (Kd.R_below (rk_ HO256.out) hb)
            have n11_ := Aside0.mk (Kd.R_below (rk_ HO259.out) hb)
            have n12_ := Aside0.mk (Kd.R_below (rk_ HO264.out) hb)
            have n13_ := Aside0.mk (Kd.R_below (rk_ HO267.out) hb)
            have n14_ := Aside0.mk (Kd.R_below (rk_ HO270.out) hb)
            have n15_ := Aside0.mk (Kd.R_below (rk_ HO276.out) hb)
            have n16_ := Aside0.mk (Kd.R_below (rk_ HO279.out) hb)
            have n17_ := Aside0.mk (Kd.R_below (rk_ HO284.out) hb)
            have n18_ := Aside0.mk (Kd.R_below (rk_ HO287.out) hb)
            have n19_ := Aside0.mk (Kd.R_below (rk_ HO290.out) hb)
            have n20_ := Aside0.mk (Kd.R_below (rk_ HO297.out) hb)
            have n21_ := Aside0.mk (Kd.R_below (rk_ HO300.out) hb)
            have n22_ := Aside0.mk (Kd.R_below (rk_ HO305.out) hb)
            have n23_ := Aside0.mk (Kd.R_below (rk_ HO308.out) hb)
            have n24_ := Aside0.mk (Kd.R_below (rk_ HO311.out) hb)
            have n25_ := Aside0.mk (bb_ BK209.out hb)
            have n26_ := Aside0.mk (bb_ BK210.out hb)
            have n27_ := Aside0.mk (bb_ BK271.out hb)
            have n28_ := Aside0.mk (bb_ BK291.out hb)
            have n29_ := Aside0.mk (below_step (bk_ HB.out) hb)
            clear HO217
            clear HO220
            clear HO225
            clear HO228
            clear HO231
            clear HO236
            clear HO239
            clear HO244
            clear HO247
            clear HO250
            clear HO256
            clear HO259
            clear HO264
            clear HO267
            clear HO270
            clear HO276
            clear HO279
            clear HO284
            clear HO287
            clear HO290
            clear HO297
            clear HO300
            clear HO305
            clear HO308
            clear HO311
            clear BK209
            clear BK210
            clear BK271
            clear BK291
            clear HB
            have HO217 := n0_
            have HO220 := n1_
            have HO225 := n2_
            have HO228 := n3_
            have HO231 := n4_
            have HO236 := n5_
            have HO239 := n6_
            have HO244 := n7_
            have HO247 := n8_
            have HO250 := n9_
            have HO256 := n10_
            have HO259 := n11_
            have HO264 := n12_
            have HO267 := n13_
            have HO270 := n14_
            have HO276 := n15_
            have HO279 := n16_
            have HO284 := n17_
            have HO287 := n18_
            have HO290 := n19_
            have HO297 := n20_
            have HO300 := n21_
            have HO305 := n22_
            have HO308 := n23_
            have HO311 := n24_
            have BK209 := n25_
            have BK210 := n26_
            have BK271 := n27_
            have BK291 := n28_
            have HB := n29_
            clear n0_ n1_ n2_ n3_ n4_ n5_ n6_ n7_ n8_ n9_ n10_ n11_ n12_ n13_ n14_ n15_ n16_ n17_ n18_ n19_ n20_ n21_ n22_ n23_ n24_ n25_ n26_ n27_ n28_ n29_
            (try clear hb)
            (try clear hb2)
            (try clear hk)
            (try clear hi)
            refine hK.out _ _ ⟨(blk_cell BK271.out 0).trans rfl, (blk_cell BK271.out 1).trans rfl, (blk_cell BK271.out 2).trans rfl, (blk_cell BK271.out 3).trans rfl, (blk_cell BK271.out 4).trans rfl, (blk_cell BK271.out 5).trans rfl, (blk_cell BK271.out 6).trans rfl, (blk_cell BK271.out 7).trans rfl, (blk_cell BK271.out 8).trans rfl, (blk_cell BK209.out 0).trans rfl, (blk_cell BK209.out 1).trans rfl, (blk_cell BK209.out 2).trans rfl, (blk_cell BK209.out 3).trans rfl, (blk_cell BK209.out 4).trans rfl, (blk_cell BK209.out 5).trans rfl, (blk_cell BK209.out 6).trans rfl, (blk_cell BK209.out 7).trans rfl, (blk_cell BK209.out 8).trans rfl⟩ (fun hHeld => ?_)
            clear hK K
            refine norm_ (a' := ?_) ?_ ?_
            rotate_left
            · show Act.put _ (some 38) _ = _
              simp only [Act.put, List.setIfInBounds_toArray, List.set_cons_zero, List.set_cons_succ, i64_w, i32_w]
              rfl
            refine pure_ (i := 4) (N := some 39) (v := ?_) (a' := ?_) #[true, true, true, true, true] rfl rfl (by kernel_rfl) (fun _ _ _ h => h) (Or.inl ⟨by rfl, ?_⟩) ?_ ?_
            rotate_left
            · intro w'
              go_simp
              with_reducible rfl
            rotate_left
            · simp only [Act.put, List.setIfInBounds_toArray, List.set_cons_zero, List.set_cons_succ, i64_w, i32_w]
              rfl
            refine done_ (by kernel_rfl) ?_
            try go_wp2
            have n0_ := Aside0.mk (Kd.R_drew HO217.out)
            have n1_ := Aside0.mk (Kd.R_drew HO220.out)
            have n2_ := Aside0.mk (Kd.R_drew HO225.out)
            have n3_ := Aside0.mk (Kd.R_drew HO228.out)
            have n4_ := Aside0.mk (Kd.R_drew HO231.out)
            have n5_ := Aside0.mk (Kd.R_drew HO236.out)
            have n6_ := Aside0.mk (Kd.R_drew HO239.out)
            have n7_ := Aside0.mk (Kd.R_drew HO244.out)
            have n8_ := Aside0.mk (Kd.R_drew HO247.out)
            have n9_ := Aside0.mk (Kd.R_drew HO250.out)
            have n10_ := Aside0.mk (Kd.R_drew HO256.out)
            have n11_ := Aside0.mk (Kd.R_drew HO259.out)
            have n12_ := Aside0.mk (Kd.R_drew HO264.out)
            have n13_ := Aside0.mk (Kd.R_drew HO267.out)
            have n14_ := Aside0.mk (Kd.R_drew HO270.out)
            have n15_ := Aside0.mk (Kd.R_drew HO276.out)
            have n16_ := Aside0.mk (Kd.R_drew HO279.out)
            have n17_ := Aside0.mk (Kd.R_drew HO284.out)
            have n18_ := Aside0.mk (Kd.R_drew HO287.out)
            have n19_ := Aside0.mk (Kd.R_drew HO290.out)
            have n20_ := Aside0.mk (Kd.R_drew HO297.out)
            have n21_ := Aside0.mk (Kd.R_drew HO300.out)
            have n22_ := Aside0.mk (Kd.R_drew HO305.out)
            have n23_ := Aside0.mk (Kd.R_drew HO308.out)
            have n24_ := Aside0.mk (Kd.R_drew HO311.out)
            have n25_ := Aside0.mk (blk_drew BK209.out)
            have n26_ := Aside0.mk (blk_drew BK210.out)
            have n27_ := Aside0.mk (blk_drew BK271.out)
            have n28_ := Aside0.mk (blk_drew BK291.out)
            have n29_ := Aside0.mk (below_drew1 HB.out)
            clear HO217
            clear HO220
            clear HO225
            clear HO228
            clear HO231
            clear HO236
            clear HO239
            clear HO244
            clear HO247
            clear HO250
            clear HO256
            clear HO259
            clear HO264
            clear HO267
            clear HO270
            clear HO276
            clear HO279
            clear HO284
            clear HO287
            clear HO290
            clear HO297
            clear HO300
            clear HO305
            clear HO308
            clear HO311
            clear BK209
            clear BK210
            clear BK271
            clear BK291
            clear HB
            have HO217 := n0_
            have HO220 := n1_
            have HO225 := n2_
            have HO228 := n3_
            have HO231 := n4_
            have HO236 := n5_
            have HO239 := n6_
            have HO244 := n7_
            have HO247 := n8_
            have HO250 := n9_
            have HO256 := n10_
            have HO259 := n11_
            have HO264 := n12_
            have HO267 := n13_
            have HO270 := n14_
            have HO276 := n15_
            have HO279 := n16_
            have HO284 := n17_
            have HO287 := n18_
            have HO290 := n19_
            have HO297 := n20_
            have HO300 := n21_
            have HO305 := n22_
            have HO308 := n23_
            have HO311 := n24_
            have BK209 := n25_
            have BK210 := n26_
            have BK271 := n27_
            have BK291 := n28_
            have HB := n29_
            clear n0_ n1_ n2_ n3_ n4_ n5_ n6_ n7_ n8_ n9_ n10_ n11_ n12_ n13_ n14_ n15_ n16_ n17_ n18_ n19_ n20_ n21_ n22_ n23_ n24_ n25_ n26_ n27_ n28_ n29_
            refine start_ (n := 5) (S := fun w' => w'.cell? ⟨gb291, 0, none⟩ = some (.int .i64 t272) ∧ w'.cell? ⟨gb291, 1, none⟩ = some (.int .i64 t273) ∧ w'.cell? ⟨gb291, 2, none⟩ = some (.slice Ao71 t274.length co71) ∧ w'.cell? ⟨gb291, 3, none⟩ = some (.slice Ao72 t277.length co72) ∧ w'.cell? ⟨gb291, 4, none⟩ = some (.int .i64 t280) ∧ w'.cell? ⟨gb291, 5, none⟩ = some (.int .i64 t281) ∧ w'.cell? ⟨gb291, 6, none⟩ = some (.slice Ao73 t282.length co73) ∧ w'.cell? ⟨gb291, 7, none⟩ = some (.slice Ao74 t285.length co74) ∧ w'.cell? ⟨gb291, 8, none⟩ = some (.slice Ao75 t288.length co75) ∧ w'.cell? ⟨gb210, 0, none⟩ = some (.int .i64 a1_0) ∧ w'.cell? ⟨gb210, 1, none⟩ = some (.int .i64 a1_1) ∧ w'.cell? ⟨gb210, 2, none⟩ = some (.slice A1_2 l1_2.length c1_2) ∧ w'.cell? ⟨gb210, 3, none⟩ = some (.slice A1_3 l1_3.length c1_3) ∧ w'.cell? ⟨gb210, 4, none⟩ = some (.int .i64 a1_4) ∧ w'.cell? ⟨gb210, 5, none⟩ = some (.int .i64 a1_5) ∧ w'.cell? ⟨gb210, 6, none⟩ = some (.slice A1_6 l1_6.length c1_6) ∧ w'.cell? ⟨gb210, 7, none⟩ = some (.slice A1_7 l1_7.length c1_7) ∧ w'.cell? ⟨gb210, 8, none⟩ = some (.slice A1_8 l1_8.length c1_8)) (ds := []) #[false, false, false, false, false] (by kernel_rfl) rfl rfl ⟨(blk_cell BK291.out 0).trans rfl, (blk_cell BK291.out 1).trans rfl, (blk_cell BK291.out 2).trans rfl, (blk_cell BK291.out 3).trans rfl, (blk_cell BK291.out 4).trans rfl, (blk_cell BK291.out 5).trans rfl, (blk_cell BK291.out 6).trans rfl, (blk_cell BK291.out 7).trans rfl, (blk_cell BK291.out 8).trans rfl, (blk_cell BK210.out 0).trans rfl, (blk_cell BK210.out 1).trans rfl, (blk_cell BK210.out 2).trans rfl, (blk_cell BK210.out 3).trans rfl, (blk_cell BK210.out 4).trans rfl, (blk_cell BK210.out 5).trans rfl, (blk_cell BK210.out 6).trans rfl, (blk_cell BK210.out 7).trans rfl, (blk_cell BK210.out 8).trans rfl⟩ (fun hHeld => ?_)
            generalize w85.drew = w86 at HO217 HO220 HO225 HO228 HO231 HO236 HO239 HO244 HO247 HO250 HO256 HO259 HO264 HO267 HO270 HO276 HO279 HO284 HO287 HO290 HO297 HO300 HO305 HO308 HO311 BK209 BK210 BK271 BK291 HB hHeld ⊢
            refine take_ (i := 0) (N := some 40) (v := ?_) (a' := ?_) #[true, false, false, false, false] rfl rfl (by kernel_rfl) (fun _ _ _ h => h) (Or.inl ⟨by rfl, ?_⟩) hHeld ?_ ?_
            rotate_left
            · rintro w' ⟨s0, s1, s2, s3, s4, s5, s6, s7, s8, s9, s10, s11, s12, s13, s14, s15, s16, s17⟩
              go_simp
              with_reducible rfl
            rotate_left
            · simp only [Act.put, List.setIfInBounds_toArray, List.set_cons_zero, List.set_cons_succ, i64_w, i32_w]
              rfl
            refine take_ (i := 1) (N := some 41) (v := ?_) (a' := ?_) #[true, true, false, false, false] rfl rfl (by kernel_rfl) (fun _ _ _ h => h) (Or.inl ⟨by rfl, ?_⟩) hHeld ?_ ?_
            rotate_left
            · rintro w' ⟨s0, s1, s2, s3, s4, s5, s6, s7, s8, s9, s10, s11, s12, s13, s14, s15, s16, s17⟩
              go_simp
              with_reducible rfl
            rotate_left
            · simp only [Act.put, List.setIfInBounds_toArray, List.set_cons_zero, List.set_cons_succ, i64_w, i32_w]
              rfl
            refine one_ (i := 2) (N := some 42) #[true, true, true, false, false] rfl rfl (by kernel_rfl) (by decide) (fun K hK => ?_)
            refine goes_ Try.func28 (by kernel_rfl) rfl #[.agg #[.int .i64 a1_0, .int .i64 a1_1, .slice A1_2 l1_2.length c1_2, .slice A1_3 l1_3.length c1_3, .int .i64 a1_4, .int .i64 a1_5, .slice A1_6 l1_6.length c1_6, .slice A1_7 l1_7.length c1_7, .slice A1_8 l1_8.length c1_8]] (by rfl) rfl rfl (by (try simp only [List.map_toArray, List.map_cons, List.map_nil]); first | done | rfl | (simp only [List.length_drop, List.length_take]; rfl)) ?_
            with_reducible refine (laws_toDesk.calls k a1_0 a1_1 _ _ l1_2 _ _ l1_3 a1_4 a1_5 _ _ l1_6 _ _ l1_7 _ _ l1_8 t313 t314 t315 t318 t321 t322 t323 t326 t329 _ ?side1 ?side2 ?side3 ?side4 ?side5 ?side6 ?side7 ?side8 ?side9 ?side10 A29.out).mono ?_
            (case side1 => exact ck_ (Kd.C_below HR1_2.out HB.out))
            (case side2 => exact HC1_2.out)
            (case side3 => exact ck_ (Kd.C_below HR1_3.out HB.out))
            (case side4 => exact HC1_3.out)
            (case side5 => exact ck_ (Kd.C_below HR1_6.out HB.out))
            (case side6 => exact HC1_6.out)
            (case side7 => exact ck_ (Kd.C_below HR1_7.out HB.out))
            (case side8 => exact HC1_7.out)
            (case side9 => exact ck_ (Kd.C_below HR1_8.out HB.out))
            (case side10 => exact HC1_8.out)
            rintro e w87 ⟨v316, v319, v324, v327, v330, rfl, ho0, ho1, ho2, ho3, ho4, hb⟩
            refine ⟨_, rfl, ?_⟩
            have n0_ := Aside0.mk (Kd.R_mono (Kd.R_told (Kd.R_told (Kd.R_told (Kd.R_told (Kd.R_told (Kd.R_old (rk_ HO217.out) hb) (Kd.R_base ho0)) (Kd.R_base ho1)) (Kd.R_base ho2)) (Kd.R_base ho3)) (Kd.R_base ho4)) (fun _ h_ => h_.1))
            have n1_ := Aside0.mk (Kd.R_mono (Kd.R_told (Kd.R_told (Kd.R_told (Kd.R_told (Kd.R_told (Kd.R_old (rk_ HO220.out) hb) (Kd.R_base ho0)) (Kd.R_base ho1)) (Kd.R_base ho2)) (Kd.R_base ho3)) (Kd.R_base ho4)) (fun _ h_ => h_.1))
            have n2_ := Aside0.mk (Kd.R_mono (Kd.R_told (Kd.R_told (Kd.R_told (Kd.R_told (Kd.R_told (Kd.R_old (rk_ HO225.out) hb) (Kd.R_base ho0)) (Kd.R_base ho1)) (Kd.R_base ho2)) (Kd.R_base ho3)) (Kd.R_base ho4)) (fun _ h_ => h_.1))
            have n3_ := Aside0.mk (Kd.R_mono (Kd.R_told (Kd.R_told (Kd.R_told (Kd.R_told (Kd.R_told (Kd.R_old (rk_ HO228.out) hb) (Kd.R_base ho0)) (Kd.R_base ho1)) (Kd.R_base ho2)) (Kd.R_base ho3)) (Kd.R_base ho4)) (fun _ h_ => h_.1))
            have n4_ := Aside0.mk (Kd.R_mono (Kd.R_told (Kd.R_told (Kd.R_told (Kd.R_told (Kd.R_told (Kd.R_old (rk_ HO231.out) hb) (Kd.R_base ho0)) (Kd.R_base ho1)) (Kd.R_base ho2)) (Kd.R_base ho3)) (Kd.R_base ho4)) (fun _ h_ => h_.1))
            have n5_ := Aside0.mk (Kd.R_mono (Kd.R_told (Kd.R_told (Kd.R_told (Kd.R_told (Kd.R_told (Kd.R_old (rk_ HO236.out) hb) (Kd.R_base ho0)) (Kd.R_base ho1)) (Kd.R_base ho2)) (Kd.R_base ho3)) (Kd.R_base ho4)) (fun _ h_ => h_.1))
            have n6_ := Aside0.mk (Kd.R_mono (Kd.R_told (Kd.R_told (Kd.R_told (Kd.R_told (Kd.R_told (Kd.R_old (rk_ HO239.out) hb) (Kd.R_base ho0)) (Kd.R_base ho1)) (Kd.R_base ho2)) (Kd.R_base ho3)) (Kd.R_base ho4)) (fun _ h_ => h_.1))
            have n7_ := Aside0.mk (Kd.R_mono (Kd.R_told (Kd.R_told (Kd.R_told (Kd.R_told (Kd.R_told (Kd.R_old (rk_ HO244.out) hb) (Kd.R_base ho0)) (Kd.R_base ho1)) (Kd.R_base ho2)) (Kd.R_base ho3)) (Kd.R_base ho4)) (fun _ h_ => h_.1))
            have n8_ := Aside0.mk (Kd.R_mono (Kd.R_told (Kd.R_told (Kd.R_told (Kd.R_told (Kd.R_told (Kd.R_old (rk_ HO247.out) hb) (Kd.R_base ho0)) (Kd.R_base ho1)) (Kd.R_base ho2)) (Kd.R_base ho3)) (Kd.R_base ho4)) (fun _ h_ => h_.1))
            have n9_ := Aside0.mk (Kd.R_mono (Kd.R_told (Kd.R_told (Kd.R_told (Kd.R_told (Kd.R_told (Kd.R_old (rk_ HO250.out) hb) (Kd.R_base ho0)) (Kd.R_base ho1)) (Kd.R_base ho2)) (Kd.R_base ho3)) (Kd.R_base ho4)) (fun _ h_ => h_.1))
            have n10_ := Aside0.mk (Kd.R_mono (Kd.R_told (Kd.R_told (Kd.R_told (Kd.R_told (Kd.R_told (Kd.R_old (rk_ HO256.out) hb) (Kd.R_base ho0)) (Kd.R_base ho1)) (Kd.R_base ho2)) (Kd.R_base ho3)) (Kd.R_base ho4)) (fun _ h_ => h_.1))
            have n11_ := Aside0.mk (Kd.R_mono (Kd.R_told (Kd.R_told (Kd.R_told (Kd.R_told (Kd.R_told (Kd.R_old (rk_ HO259.out) hb) (Kd.R_base ho0)) (Kd.R_base ho1)) (Kd.R_base ho2)) (Kd.R_base ho3)) (Kd.R_base ho4)) (fun _ h_ => h_.1))
            have n12_ := Aside0.mk (Kd.R_mono (Kd.R_told (Kd.R_told (Kd.R_told (Kd.R_told (Kd.R_told (Kd.R_old (rk_ HO264.out) hb) (Kd.R_base ho0)) (Kd.R_base ho1)) (Kd.R_base ho2)) (Kd.R_base ho3)) (Kd.R_base ho4)) (fun _ h_ => h_.1))
            have n13_ := Aside0.mk (Kd.R_mono (Kd.R_told (Kd.R_told (Kd.R_told (Kd.R_told (Kd.R_told (Kd.R_old (rk_ HO267.out) hb) (Kd.R_base ho0)) (Kd.R_base ho1)) (Kd.R_base ho2)) (Kd.R_base ho3)) (Kd.R_base ho4)) (fun _ h_ => h_.1))
            have n14_ := Aside0.mk (Kd.R_mono (Kd.R_told (Kd.R_told (Kd.R_told (Kd.R_told (Kd.R_told (Kd.R_old (rk_ HO270.out) hb) (Kd.R_base ho0)) (Kd.R_base ho1)) (Kd.R_base ho2)) (Kd.R_base ho3)) (Kd.R_base ho4)) (fun _ h_ => h_.1))
            have n15_ := Aside0.mk (Kd.R_mono (Kd.R_told (Kd.R_told (Kd.R_told (Kd.R_told (Kd.R_told (Kd.R_old (rk_ HO276.out) hb) (Kd.R_base ho0)) (Kd.R_base ho1)) (Kd.R_base ho2)) (Kd.R_base ho3)) (Kd.R_base ho4)) (fun _ h_ => h_.1))
            have n16_ := Aside0.mk (Kd.R_mono (Kd.R_told (Kd.R_told (Kd.R_told (Kd.R_told (Kd.R_told (Kd.R_old (rk_ HO279.out) hb) (Kd.R_base ho0)) (Kd.R_base ho1)) (Kd.R_base ho2)) (Kd.R_base ho3)) (Kd.R_base ho4)) (fun _ h_ => h_.1))
            have n17_ := Aside0.mk (Kd.R_mono (Kd.R_told (Kd.R_told (Kd.R_told (Kd.R_told (Kd.R_told (Kd.R_old (rk_ HO284.out) hb) (Kd.R_base ho0)) (Kd.R_base ho1)) (Kd.R_base ho2)) (Kd.R_base ho3)) (Kd.R_base ho4)) (fun _ h_ => h_.1))
            have n18_ := Aside0.mk (Kd.R_mono (Kd.R_told (Kd.R_told (Kd.R_told (Kd.R_told (Kd.R_told (Kd.R_old (rk_ HO287.out) hb) (Kd.R_base ho0)) (Kd.R_base ho1)) (Kd.R_base ho2)) (Kd.R_base ho3)) (Kd.R_base ho4)) (fun _ h_ => h_.1))
            have n19_ := Aside0.mk (Kd.R_mono (Kd.R_told (Kd.R_told (Kd.R_told (Kd.R_told (Kd.R_told (Kd.R_old (rk_ HO290.out) hb) (Kd.R_base ho0)) (Kd.R_base ho1)) (Kd.R_base ho2)) (Kd.R_base ho3)) (Kd.R_base ho4)) (fun _ h_ => h_.1))
            have n20_ := Aside0.mk (Kd.R_mono (Kd.R_told (Kd.R_told (Kd.R_told (Kd.R_told (Kd.R_told (Kd.R_old (rk_ HO297.out) hb) (Kd.R_base ho0)) (Kd.R_base ho1)) (Kd.R_base ho2)) (Kd.R_base ho3)) (Kd.R_base ho4)) (fun _ h_ => h_.1))
            have n21_ := Aside0.mk (Kd.R_mono (Kd.R_told (Kd.R_told (Kd.R_told (Kd.R_told (Kd.R_told (Kd.R_old (rk_ HO300.out) hb) (Kd.R_base ho0)) (Kd.R_base ho1)) (Kd.R_base ho2)) (Kd.R_base ho3)) (Kd.R_base ho4)) (fun _ h_ => h_.1))
            have n22_ := Aside0.mk (Kd.R_mono (Kd.R_told (Kd.R_told (Kd.R_told (Kd.R_told (Kd.R_told (Kd.R_old (rk_ HO305.out) hb) (Kd.R_base ho0)) (Kd.R_base ho1)) (Kd.R_base ho2)) (Kd.R_base ho3)) (Kd.R_base ho4)) (fun _ h_ => h_.1))
            have n23_ := Aside0.mk (Kd.R_mono (Kd.R_told (Kd.R_told (Kd.R_told (Kd.R_told (Kd.R_told (Kd.R_old (rk_ HO308.out) hb) (Kd.R_base ho0)) (Kd.R_base ho1)) (Kd.R_base ho2)) (Kd.R_base ho3)) (Kd.R_base ho4)) (fun _ h_ => h_.1))
            have n24_ := Aside0.mk (Kd.R_mono (Kd.R_told (Kd.R_told (Kd.R_told (Kd.R_told (Kd.R_told (Kd.R_old (rk_ HO311.out) hb) (Kd.R_base ho0)) (Kd.R_base ho1)) (Kd.R_base ho2)) (Kd.R_base ho3)) (Kd.R_base ho4)) (fun _ h_ => h_.1))
            have n25_ := Aside0.mk (Kd.R_lower (Kd.R_new' (Kd.R_new' (Kd.R_new' (Kd.R_new' (Kd.R_new' (Kd.R_new' (Kd.R_new' (Kd.R_new' (Kd.R_new' (Kd.R_new' (Kd.R_new' (Kd.R_new' (Kd.R_new' (Kd.R_new' (Kd.R_new' (Kd.R_new' (Kd.R_new' (Kd.R_new' (Kd.R_new' (Kd.R_new' (Kd.R_new' (Kd.R_new' (Kd.R_new' (Kd.R_new' (Kd.R_new' ho0 (Kd.R_lt (rk_ HO217.out))) (Kd.R_lt (rk_ HO220.out))) (Kd.R_lt (rk_ HO225.out))) (Kd.R_lt (rk_ HO228.out))) (Kd.R_lt (rk_ HO231.out))) (Kd.R_lt (rk_ HO236.out))) (Kd.R_lt (rk_ HO239.out))) (Kd.R_lt (rk_ HO244.out))) (Kd.R_lt (rk_ HO247.out))) (Kd.R_lt (rk_ HO250.out))) (Kd.R_lt (rk_ HO256.out))) (Kd.R_lt (rk_ HO259.out))) (Kd.R_lt (rk_ HO264.out))) (Kd.R_lt (rk_ HO267.out))) (Kd.R_lt (rk_ HO270.out))) (Kd.R_lt (rk_ HO276.out))) (Kd.R_lt (rk_ HO279.out))) (Kd.R_lt (rk_ HO284.out))) (Kd.R_lt (rk_ HO287.out))) (Kd.R_lt (rk_ HO290.out))) (Kd.R_lt (rk_ HO297.out))) (Kd.R_lt (rk_ HO300.out))) (Kd.R_lt (rk_ HO305.out))) (Kd.R_lt (rk_ HO308.out))) (Kd.R_lt (rk_ HO311.out))) (below_size (bk_ HB.out)))
            have n26_ := Aside0.mk (Kd.R_lower (Kd.R_new' (Kd.R_new' (Kd.R_new' (Kd.R_new' (Kd.R_new' (Kd.R_new' (Kd.R_new' (Kd.R_new' (Kd.R_new' (Kd.R_new' (Kd.R_new' (Kd.R_new' (Kd.R_new' (Kd.R_new' (Kd.R_new' (Kd.R_new' (Kd.R_new' (Kd.R_new' (Kd.R_new' (Kd.R_new' (Kd.R_new' (Kd.R_new' (Kd.R_new' (Kd.R_new' (Kd.R_new' ho1 (Kd.R_lt (rk_ HO217.out))) (Kd.R_lt (rk_ HO220.out))) (Kd.R_lt (rk_ HO225.out))) (Kd.R_lt (rk_ HO228.out))) (Kd.R_lt (rk_ HO231.out))) (Kd.R_lt (rk_ HO236.out))) (Kd.R_lt (rk_ HO239.out))) (Kd.R_lt (rk_ HO244.out))) (Kd.R_lt (rk_ HO247.out))) (Kd.R_lt (rk_ HO250.out))) (Kd.R_lt (rk_ HO256.out))) (Kd.R_lt (rk_ HO259.out))) (Kd.R_lt (rk_ HO264.out))) (Kd.R_lt (rk_ HO267.out))) (Kd.R_lt (rk_ HO270.out))) (Kd.R_lt (rk_ HO276.out))) (Kd.R_lt (rk_ HO279.out))) (Kd.R_lt (rk_ HO284.out))) (Kd.R_lt (rk_ HO287.out))) (Kd.R_lt (rk_ HO290.out))) (Kd.R_lt (rk_ HO297.out))) (Kd.R_lt (rk_ HO300.out))) (Kd.R_lt (rk_ HO305.out))) (Kd.R_lt (rk_ HO308.out))) (Kd.R_lt (rk_ HO311.out))) (below_size (bk_ HB.out)))
            have n27_ := Aside0.mk (Kd.R_lower (Kd.R_new' (Kd.R_new' (Kd.R_new' (Kd.R_new' (Kd.R_new' (Kd.R_new' (Kd.R_new' (Kd.R_new' (Kd.R_new' (Kd.R_new' (Kd.R_new' (Kd.R_new' (Kd.R_new' (Kd.R_new' (Kd.R_new' (Kd.R_new' (Kd.R_new' (Kd.R_new' (Kd.R_new' (Kd.R_new' (Kd.R_new' (Kd.R_new' (Kd.R_new' (Kd.R_new' (Kd.R_new' ho2 (Kd.R_lt (rk_ HO217.out))) (Kd.R_lt (rk_ HO220.out))) (Kd.R_lt (rk_ HO225.out))) (Kd.R_lt (rk_ HO228.out))) (Kd.R_lt (rk_ HO231.out))) (Kd.R_lt (rk_ HO236.out))) (Kd.R_lt (rk_ HO239.out))) (Kd.R_lt (rk_ HO244.out))) (Kd.R_lt (rk_ HO247.out))) (Kd.R_lt (rk_ HO250.out))) (Kd.R_lt (rk_ HO256.out))) (Kd.R_lt (rk_ HO259.out))) (Kd.R_lt (rk_ HO264.out))) (Kd.R_lt (rk_ HO267.out))) (Kd.R_lt (rk_ HO270.out))) (Kd.R_lt (rk_ HO276.out))) (Kd.R_lt (rk_ HO279.out))) (Kd.R_lt (rk_ HO284.out))) (Kd.R_lt (rk_ HO287.out))) (Kd.R_lt (rk_ HO290.out))) (Kd.R_lt (rk_ HO297.out))) (Kd.R_lt (rk_ HO300.out))) (Kd.R_lt (rk_ HO305.out))) (Kd.R_lt (rk_ HO308.out))) (Kd.R_lt (rk_ HO311.out))) (below_size (bk_ HB.out)))
            have n28_ := Aside0.mk (Kd.R_lower (Kd.R_new' (Kd.R_new' (Kd.R_new' (Kd.R_new' (Kd.R_new' (Kd.R_new' (Kd.R_new' (Kd.R_new' (Kd.R_new' (Kd.R_new' (Kd.R_new' (Kd.R_new' (Kd.R_new' (Kd.R_new' (Kd.R_new' (Kd.R_new' (Kd.R_new' (Kd.R_new' (Kd.R_new' (Kd.R_new' (Kd.R_new' (Kd.R_new' (Kd.R_new' (Kd.R_new' (Kd.R_new' ho3 (Kd.R_lt (rk_ HO217.out))) (Kd.R_lt (rk_ HO220.out))) (Kd.R_lt (rk_ HO225.out))) (Kd.R_lt (rk_ HO228.out))) (Kd.R_lt (rk_ HO231.out))) (Kd.R_lt (rk_ HO236.out))) (Kd.R_lt (rk_ HO239.out))) (Kd.R_lt (rk_ HO244.out))) (Kd.R_lt (rk_ HO247.out))) (Kd.R_lt (rk_ HO250.out))) (Kd.R_lt (rk_ HO256.out))) (Kd.R_lt (rk_ HO259.out))) (Kd.R_lt (rk_ HO264.out))) (Kd.R_lt (rk_ HO267.out))) (Kd.R_lt (rk_ HO270.out))) (Kd.R_lt (rk_ HO276.out))) (Kd.R_lt (rk_ HO279.out))) (Kd.R_lt (rk_ HO284.out))) (Kd.R_lt (rk_ HO287.out))) (Kd.R_lt (rk_ HO290.out))) (Kd.R_lt (rk_ HO297.out))) (Kd.R_lt (rk_ HO300.out))) (Kd.R_lt (rk_ HO305.out))) (Kd.R_lt (rk_ HO308.out))) (Kd.R_lt (rk_ HO311.out))) (below_size (bk_ HB.out)))
            have n29_ := Aside0.mk (Kd.R_lower (Kd.R_new' (Kd.R_new' (Kd.R_new' (Kd.R_new' (Kd.R_new' (Kd.R_new' (Kd.R_new' (Kd.R_new' (Kd.R_new' (Kd.R_new' (Kd.R_new' (Kd.R_new' (Kd.R_new' (Kd.R_new' (Kd.R_new' (Kd.R_new' (Kd.R_new' (Kd.R_new' (Kd.R_new' (Kd.R_new' (Kd.R_new' (Kd.R_new' (Kd.R_new' (Kd.R_new' (Kd.R_new' ho4 (Kd.R_lt (rk_ HO217.out))) (Kd.R_lt (rk_ HO220.out))) (Kd.R_lt (rk_ HO225.out))) (Kd.R_lt (rk_ HO228.out))) (Kd.R_lt (rk_ HO231.out))) (Kd.R_lt (rk_ HO236.out))) (Kd.R_lt (rk_ HO239.out))) (Kd.R_lt (rk_ HO244.out))) (Kd.R_lt (rk_ HO247.out))) (Kd.R_lt (rk_ HO250.out))) (Kd.R_lt (rk_ HO256.out))) (Kd.R_lt (rk_ HO259.out))) (Kd.R_lt (rk_ HO264.out))) (Kd.R_lt (rk_ HO267.out))) (Kd.R_lt (rk_ HO270.out))) (Kd.R_lt (rk_ HO276.out))) (Kd.R_lt (rk_ HO279.out))) (Kd.R_lt (rk_ HO284.out))) (Kd.R_lt (rk_ HO287.out))) (Kd.R_lt (rk_ HO290.out))) (Kd.R_lt (rk_ HO297.out))) (Kd.R_lt (rk_ HO300.out))) (Kd.R_lt (rk_ HO305.out))) (Kd.R_lt (rk_ HO308.out))) (Kd.R_lt (rk_ HO311.out))) (below_size (bk_ HB.out)))
            have n30_ := Aside0.mk (bb_ BK209.out hb)
            have n31_ := Aside0.mk (bb_ BK210.out hb)
            have n32_ := Aside0.mk (bb_ BK271.out hb)
            have n33_ := Aside0.mk (bb_ BK291.out hb)
            have n34_ := Aside0.mk (below_step (bk_ HB.out) hb)
            clear HO217
            clear HO220
            clear HO225
            clear HO228
            clear HO231
            clear HO236
            clear HO239
            clear HO244
            clear HO247
            clear HO250
            clear HO256
            clear HO259
            clear HO264
            clear HO267
            clear HO270
            clear HO276
            clear HO279
            clear HO284
            clear HO287
            clear HO290
            clear HO297
            clear HO300
            clear HO305
            clear HO308
            clear HO311
            clear BK209
            clear BK210
            clear BK271
            clear BK291
            clear HB
            have HO217 := n0_
            have HO220 := n1_
            have HO225 := n2_
            have HO228 := n3_
            have HO231 := n4_
            have HO236 := n5_
            have HO239 := n6_
            have HO244 := n7_
            have HO247 := n8_
            have HO250 := n9_
            have HO256 := n10_
            have HO259 := n11_
            have HO264 := n12_
            have HO267 := n13_
            have HO270 := n14_
            have HO276 := n15_
            have HO279 := n16_
            have HO284 := n17_
            have HO287 := n18_
            have HO290 := n19_
            have HO297 := n20_
            have HO300 := n21_
            have HO305 := n22_
            have HO308 := n23_
            have HO311 := n24_
            have HO317 := n25_
            have HO320 := n26_
            have HO325 := n27_
            have HO328 := n28_
            have HO331 := n29_
            have BK209 := n30_
            have BK210 := n31_
            have BK271 := n32_
            have BK291 := n33_
            have HB := n34_
            clear n0_ n1_ n2_ n3_ n4_ n5_ n6_ n7_ n8_ n9_ n10_ n11_ n12_ n13_ n14_ n15_ n16_ n17_ n18_ n19_ n20_ n21_ n22_ n23_ n24_ n25_ n26_ n27_ n28_ n29_ n30_ n31_ n32_ n33_ n34_
            (try clear hb)
            (try clear hb2)
            (try clear hk)
            (try clear hi)
            (try clear ho0)
            (try clear ho1)
            (try clear ho2)
            (try clear ho3)
            (try clear ho4)
            obtain ⟨Ao88, co88, eo88⟩ := Kd.R_slice HO317.out
            (first | subst eo88 | (injection eo88 with f1_ f2_ f3_; have f4_ := f1_.symm; have f5_ := f3_.symm; clear f1_ f2_ f3_; subst f4_; subst f5_))
            obtain ⟨Ao89, co89, eo89⟩ := Kd.R_slice HO320.out
            (first | subst eo89 | (injection eo89 with f1_ f2_ f3_; have f4_ := f1_.symm; have f5_ := f3_.symm; clear f1_ f2_ f3_; subst f4_; subst f5_))
            obtain ⟨Ao90, co90, eo90⟩ := Kd.R_slice HO325.out
            (first | subst eo90 | (injection eo90 with f1_ f2_ f3_; have f4_ := f1_.symm; have f5_ := f3_.symm; clear f1_ f2_ f3_; subst f4_; subst f5_))
            obtain ⟨Ao91, co91, eo91⟩ := Kd.R_slice HO328.out
            (first | subst eo91 | (injection eo91 with f1_ f2_ f3_; have f4_ := f1_.symm; have f5_ := f3_.symm; clear f1_ f2_ f3_; subst f4_; subst f5_))
            obtain ⟨Ao92, co92, eo92⟩ := Kd.R_slice HO331.out
            (first | subst eo92 | (injection eo92 with f1_ f2_ f3_; have f4_ := f1_.symm; have f5_ := f3_.symm; clear f1_ f2_ f3_; subst f4_; subst f5_))
            refine hK.out _ _ ⟨(blk_cell BK291.out 0).trans rfl, (blk_cell BK291.out 1).trans rfl, (blk_cell BK291.out 2).trans rfl, (blk_cell BK291.out 3).trans rfl, (blk_cell BK291.out 4).trans rfl, (blk_cell BK291.out 5).trans rfl, (blk_cell BK291.out 6).trans rfl, (blk_cell BK291.out 7).trans rfl, (blk_cell BK291.out 8).trans rfl, (blk_cell BK210.out 0).trans rfl, (blk_cell BK210.out 1).trans rfl, (blk_cell BK210.out 2).trans rfl, (blk_cell BK210.out 3).trans rfl, (blk_cell BK210.out 4).trans rfl, (blk_cell BK210.out 5).trans rfl, (blk_cell BK210.out 6).trans rfl, (blk_cell BK210.out 7).trans rfl, (blk_cell BK210.out 8).trans rfl⟩ (fun hHeld => ?_)
            clear hK K
            refine norm_ (a' := ?_) ?_ ?_
            rotate_left
            · show Act.put _ (some 42) _ = _
              simp only [Act.put, List.setIfInBounds_toArray, List.set_cons_zero, List.set_cons_succ, i64_w, i32_w]
              rfl
            refine one_ (i := 3) (N := some 43) #[true, true, true, true, false] rfl rfl (by kernel_rfl) (by decide) (fun K hK => ?_)
            refine goes_ Try.func30 (by kernel_rfl) rfl #[.agg #[.int .i64 t272, .int .i64 t273, .slice Ao71 t274.length co71, .slice Ao72 t277.length co72, .int .i64 t280, .int .i64 t281, .slice Ao73 t282.length co73, .slice Ao74 t285.length co74, .slice Ao75 t288.length co75], .agg #[.int .i64 t313, .int .i64 t314, .slice Ao88 t315.length co88, .slice Ao89 t318.length co89, .int .i64 t321, .int .i64 t322, .slice Ao90 t323.length co90, .slice Ao91 t326.length co91, .slice Ao92 t329.length co92]] (by rfl) rfl rfl (by (try simp only [List.map_toArray, List.map_cons, List.map_nil]); first | done | rfl | (simp only [List.length_drop, List.length_take]; rfl)) ?_
            with_reducible refine (laws_eqDesk.calls k t272 t273 _ _ t274 _ _ t277 t280 t281 _ _ t282 _ _ t285 _ _ t288 t313 t314 _ _ t315 _ _ t318 t321 t322 _ _ t323 _ _ t326 _ _ t329 true _ ?side1 ?side2 ?side3 ?side4 ?side5 ?side6 ?side7 ?side8 ?side9 ?side10 ?side11 ?side12 ?side13 ?side14 ?side15 ?side16 ?side17 ?side18 ?side19 ?side20 A30.out).mono ?_
            (case side1 => repeat (first | exact (Kd.R_reads' HO276.out).2.2 | (with_reducible refine Kd.C_alloc ?_ _) | (with_reducible refine Kd.C_drewN ?_ _) | (with_reducible refine Kd.C_drew ?_)))
            (case side2 => exact (Kd.R_reads' HO276.out).2.1)
            (case side3 => repeat (first | exact (Kd.R_reads' HO279.out).2.2 | (with_reducible refine Kd.C_alloc ?_ _) | (with_reducible refine Kd.C_drewN ?_ _) | (with_reducible refine Kd.C_drew ?_)))
            (case side4 => exact (Kd.R_reads' HO279.out).2.1)
            (case side5 => repeat (first | exact (Kd.R_reads' HO284.out).2.2 | (with_reducible refine Kd.C_alloc ?_ _) | (with_reducible refine Kd.C_drewN ?_ _) | (with_reducible refine Kd.C_drew ?_)))
            (case side6 => exact (Kd.R_reads' HO284.out).2.1)
            (case side7 => repeat (first | exact (Kd.R_reads' HO287.out).2.2 | (with_reducible refine Kd.C_alloc ?_ _) | (with_reducible refine Kd.C_drewN ?_ _) | (with_reducible refine Kd.C_drew ?_)))
            (case side8 => exact (Kd.R_reads' HO287.out).2.1)
            (case side9 => repeat (first | exact (Kd.R_reads' HO290.out).2.2 | (with_reducible refine Kd.C_alloc ?_ _) | (with_reducible refine Kd.C_drewN ?_ _) | (with_reducible refine Kd.C_drew ?_)))
            (case side10 => exact (Kd.R_reads' HO290.out).2.1)
            (case side11 => repeat (first | exact (Kd.R_reads' HO317.out).2.2 | (with_reducible refine Kd.C_alloc ?_ _) | (with_reducible refine Kd.C_drewN ?_ _) | (with_reducible refine Kd.C_drew ?_)))
            (case side12 => exact (Kd.R_reads' HO317.out).2.1)
            (case side13 => repeat (first | exact (Kd.R_reads' HO320.out).2.2 | (with_reducible refine Kd.C_alloc ?_ _) | (with_reducible refine Kd.C_drewN ?_ _) | (with_reducible refine Kd.C_drew ?_)))
            (case side14 => exact (Kd.R_reads' HO320.out).2.1)
            (case side15 => repeat (first | exact (Kd.R_reads' HO325.out).2.2 | (with_reducible refine Kd.C_alloc ?_ _) | (with_reducible refine Kd.C_drewN ?_ _) | (with_reducible refine Kd.C_drew ?_)))
            (case side16 => exact (Kd.R_reads' HO325.out).2.1)
            (case side17 => repeat (first | exact (Kd.R_reads' HO328.out).2.2 | (with_reducible refine Kd.C_alloc ?_ _) | (with_reducible refine Kd.C_drewN ?_ _) | (with_reducible refine Kd.C_drew ?_)))
            (case side18 => exact (Kd.R_reads' HO328.out).2.1)
            (case side19 => repeat (first | exact (Kd.R_reads' HO331.out).2.2 | (with_reducible refine Kd.C_alloc ?_ _) | (with_reducible refine Kd.C_drewN ?_ _) | (with_reducible refine Kd.C_drew ?_)))
            (case side20 => exact (Kd.R_reads' HO331.out).2.1)
            rintro e w93 ⟨rfl, hb⟩
            refine ⟨_, rfl, ?_⟩
            have n0_ := Aside0.mk (Kd.R_below (rk_ HO217.out) hb)
            have n1_ := Aside0.mk (Kd.R_below (rk_ HO220.out) hb)
            have n2_ := Aside0.mk (Kd.R_below (rk_ HO225.out) hb)
            have n3_ := Aside0.mk (Kd.R_below (rk_ HO228.out) hb)
            have n4_ := Aside0.mk (Kd.R_below (rk_ HO231.out) hb)
            have n5_ := Aside0.mk (Kd.R_below (rk_ HO236.out) hb)
            have n6_ := Aside0.mk (Kd.R_below (rk_ HO239.out) hb)
            have n7_ := Aside0.mk (Kd.R_below (rk_ HO244.out) hb)
            have n8_ := Aside0.mk (Kd.R_below (rk_ HO247.out) hb)
            have n9_ := Aside0.mk (Kd.R_below (rk_ HO250.out) hb)
            have n10_ := Aside0.mk (Kd.R_below (rk_ HO256.out) hb)
            have n11_ := Aside0.mk (Kd.R_below (rk_ HO259.out) hb)
            have n12_ := Aside0.mk (Kd.R_below (rk_ HO264.out) hb)
            have n13_ := Aside0.mk (Kd.R_below (rk_ HO267.out) hb)
            have n14_ := Aside0.mk (Kd.R_below (rk_ HO270.out) hb)
            have n15_ := Aside0.mk (Kd.R_below (rk_ HO276.out) hb)
            have n16_ := Aside0.mk (Kd.R_below (rk_ HO279.out) hb)
            have n17_ := Aside0.mk (Kd.R_below (rk_ HO284.out) hb)
            have n18_ := Aside0.mk (Kd.R_below (rk_ HO287.out) hb)
            have n19_ := Aside0.mk (Kd.R_below (rk_ HO290.out) hb)
            have n20_ := Aside0.mk (Kd.R_below (rk_ HO297.out) hb)
            have n21_ := Aside0.mk (Kd.R_below (rk_ HO300.out) hb)
            have n22_ := Aside0.mk (Kd.R_below (rk_ HO305.out) hb)
            have n23_ := Aside0.mk (Kd.R_below (rk_ HO308.out) hb)
            have n24_ := Aside0.mk (Kd.R_below (rk_ HO311.out) hb)
            have n25_ := Aside0.mk (Kd.R_below (rk_ HO317.out) hb)
            have n26_ := Aside0.mk (Kd.R_below (rk_ HO320.out) hb)
            have n27_ := Aside0.mk (Kd.R_below (rk_ HO325.out) hb)
            have n28_ := Aside0.mk (Kd.R_below (rk_ HO328.out) hb)
            have n29_ := Aside0.mk (Kd.R_below (rk_ HO331.out) hb)
            have n30_ := Aside0.mk (bb_ BK209.out hb)
            have n31_ := Aside0.mk (bb_ BK210.out hb)
            have n32_ := Aside0.mk (bb_ BK271.out hb)
            have n33_ := Aside0.mk (bb_ BK291.out hb)
            have n34_ := Aside0.mk (below_step (bk_ HB.out) hb)
            clear HO217
            clear HO220
            clear HO225
            clear HO228
            clear HO231
            clear HO236
            clear HO239
            clear HO244
            clear HO247
            clear HO250
            clear HO256
            clear HO259
            clear HO264
            clear HO267
            clear HO270
            clear HO276
            clear HO279
            clear HO284
            clear HO287
            clear HO290
            clear HO297
            clear HO300
            clear HO305
            clear HO308
            clear HO311
            clear HO317
            clear HO320
            clear HO325
            clear HO328
            clear HO331
            clear BK209
            clear BK210
            clear BK271
            clear BK291
            clear HB
            have HO217 := n0_
            have HO220 := n1_
            have HO225 := n2_
            have HO228 := n3_
            have HO231 := n4_
            have HO236 := n5_
            have HO239 := n6_
            have HO244 := n7_
            have HO247 := n8_
            have HO250 := n9_
            have HO256 := n10_
            have HO259 := n11_
            have HO264 := n12_
            have HO267 := n13_
            have HO270 := n14_
            have HO276 := n15_
            have HO279 := n16_
            have HO284 := n17_
            have HO287 := n18_
            have HO290 := n19_
            have HO297 := n20_
            have HO300 := n21_
            have HO305 := n22_
            have HO308 := n23_
            have HO311 := n24_
            have HO317 := n25_
            have HO320 := n26_
            have HO325 := n27_
            have HO328 := n28_
            have HO331 := n29_
            have BK209 := n30_
            have BK210 := n31_
            have BK271 := n32_
            have BK291 := n33_
            have HB := n34_
            clear n0_ n1_ n2_ n3_ n4_ n5_ n6_ n7_ n8_ n9_ n10_ n11_ n12_ n13_ n14_ n15_ n16_ n17_ n18_ n19_ n20_ n21_ n22_ n23_ n24_ n25_ n26_ n27_ n28_ n29_ n30_ n31_ n32_ n33_ n34_
            (try clear hb)
            (try clear hb2)
            (try clear hk)
            (try clear hi)
            refine hK.out _ _ ⟨(blk_cell BK291.out 0).trans rfl, (blk_cell BK291.out 1).trans rfl, (blk_cell BK291.out 2).trans rfl, (blk_cell BK291.out 3).trans rfl, (blk_cell BK291.out 4).trans rfl, (blk_cell BK291.out 5).trans rfl, (blk_cell BK291.out 6).trans rfl, (blk_cell BK291.out 7).trans rfl, (blk_cell BK291.out 8).trans rfl, (blk_cell BK210.out 0).trans rfl, (blk_cell BK210.out 1).trans rfl, (blk_cell BK210.out 2).trans rfl, (blk_cell BK210.out 3).trans rfl, (blk_cell BK210.out 4).trans rfl, (blk_cell BK210.out 5).trans rfl, (blk_cell BK210.out 6).trans rfl, (blk_cell BK210.out 7).trans rfl, (blk_cell BK210.out 8).trans rfl⟩ (fun hHeld => ?_)
            clear hK K
            refine norm_ (a' := ?_) ?_ ?_
            rotate_left
            · show Act.put _ (some 43) _ = _
              simp only [Act.put, List.setIfInBounds_toArray, List.set_cons_zero, List.set_cons_succ, i64_w, i32_w]
              rfl
            refine pure_ (i := 4) (N := some 44) (v := ?_) (a' := ?_) #[true, true, true, true, true] rfl rfl (by kernel_rfl) (fun _ _ _ h => h) (Or.inl ⟨by rfl, ?_⟩) ?_ ?_
            rotate_left
            · intro w'
              go_simp
              with_reducible rfl
            rotate_left
            · simp only [Act.put, List.setIfInBounds_toArray, List.set_cons_zero, List.set_cons_succ, i64_w, i32_w]
              rfl
            refine done_ (by kernel_rfl) ?_
            try go_wp2
            go_ret
            exact ⟨by first | rfl | (simp [errW_none, errW_some] <;> rfl) | (simp [*, errW_none, errW_some] <;> rfl), bk_ HB.out⟩
          · replace c31 := Bool.eq_false_iff.mpr c31
            subst c31
            have H1 : (some false) = some r := by rw [if_neg (show ¬ (false = true) by decide)] at H; exact H
            clear H
            have H := H1
            clear H1
            exact absurd (Option.some.inj H) (by rw [hr_]; decide)
        · replace c28 := Bool.eq_false_iff.mpr c28
          subst c28
          have H1 : (some false) = some r := by rw [if_neg (show ¬ (false = true) by decide)] at H; exact H
          clear H
          have H := H1
          clear H1
          exact absurd (Option.some.inj H) (by rw [hr_]; decide)

/-- THE ONE PURE STATEMENT of laws_FnExactSameDesk. -/
def laws_FnExactSameDesk.Pure : Prop := ∀ (a0_0 : Int) (a0_1 : Int) (l0_2 : List Int) (l0_3 : List Int) (a0_4 : Int) (a0_5 : Int) (l0_6 : List Int) (l0_7 : List Int) (l0_8 : List Int) (a1_0 : Int) (a1_1 : Int) (l1_2 : List Int) (l1_3 : List Int) (a1_4 : Int) (a1_5 : Int) (l1_6 : List Int) (l1_7 : List Int) (l1_8 : List Int), ((Lit.int .i64 a0_0).wf = true) → ((Lit.int .i64 a0_1).wf = true) → ((∀ x0_ ∈ l0_2, (Lit.int .i64 x0_).wf = true) ∧ l0_2.length * 8 ≤ 140737488351232 ∧ l0_2.length ≤ 9223372036854775807) → ((∀ x0_ ∈ l0_3, (Lit.int .i64 x0_).wf = true) ∧ l0_3.length * 8 ≤ 140737488351232 ∧ l0_3.length ≤ 9223372036854775807) → ((Lit.int .i64 a0_4).wf = true) → ((Lit.int .i64 a0_5).wf = true) → ((∀ x0_ ∈ l0_6, (Lit.int .i64 x0_).wf = true) ∧ l0_6.length * 8 ≤ 140737488351232 ∧ l0_6.length ≤ 9223372036854775807) → ((∀ x0_ ∈ l0_7, (Lit.int .i64 x0_).wf = true) ∧ l0_7.length * 8 ≤ 140737488351232 ∧ l0_7.length ≤ 9223372036854775807) → ((∀ x0_ ∈ l0_8, (Lit.int .i64 x0_).wf = true) ∧ l0_8.length * 8 ≤ 140737488351232 ∧ l0_8.length ≤ 9223372036854775807) → ((Lit.int .i64 a1_0).wf = true) → ((Lit.int .i64 a1_1).wf = true) → ((∀ x0_ ∈ l1_2, (Lit.int .i64 x0_).wf = true) ∧ l1_2.length * 8 ≤ 140737488351232 ∧ l1_2.length ≤ 9223372036854775807) → ((∀ x0_ ∈ l1_3, (Lit.int .i64 x0_).wf = true) ∧ l1_3.length * 8 ≤ 140737488351232 ∧ l1_3.length ≤ 9223372036854775807) → ((Lit.int .i64 a1_4).wf = true) → ((Lit.int .i64 a1_5).wf = true) → ((∀ x0_ ∈ l1_6, (Lit.int .i64 x0_).wf = true) ∧ l1_6.length * 8 ≤ 140737488351232 ∧ l1_6.length ≤ 9223372036854775807) → ((∀ x0_ ∈ l1_7, (Lit.int .i64 x0_).wf = true) ∧ l1_7.length * 8 ≤ 140737488351232 ∧ l1_7.length ≤ 9223372036854775807) → ((∀ x0_ ∈ l1_8, (Lit.int .i64 x0_).wf = true) ∧ l1_8.length * 8 ≤ 140737488351232 ∧ l1_8.length ≤ 9223372036854775807) → ∃ k, laws_FnExactSameDesk.f k a0_0 a0_1 l0_2 l0_3 a0_4 a0_5 l0_6 l0_7 l0_8 a1_0 a1_1 l1_2 l1_3 a1_4 a1_5 l1_6 l1_7 l1_8 = some true
theorem laws_FnExactSameDesk.walk (P : laws_FnExactSameDesk.Pure) (a0_0 : Int) (a0_1 : Int) (A0_2 : Option Addr) (c0_2 : Nat) (l0_2 : List Int) (A0_3 : Option Addr) (c0_3 : Nat) (l0_3 : List Int) (a0_4 : Int) (a0_5 : Int) (A0_6 : Option Addr) (c0_6 : Nat) (l0_6 : List Int) (A0_7 : Option Addr) (c0_7 : Nat) (l0_7 : List Int) (A0_8 : Option Addr) (c0_8 : Nat) (l0_8 : List Int) (a1_0 : Int) (a1_1 : Int) (A1_2 : Option Addr) (c1_2 : Nat) (l1_2 : List Int) (A1_3 : Option Addr) (c1_3 : Nat) (l1_3 : List Int) (a1_4 : Int) (a1_5 : Int) (A1_6 : Option Addr) (c1_6 : Nat) (l1_6 : List Int) (A1_7 : Option Addr) (c1_7 : Nat) (l1_7 : List Int) (A1_8 : Option Addr) (c1_8 : Nat) (l1_8 : List Int) (w : World) (hr0_2 : Kd.C (Kd.int .i64) w A0_2 l0_2.length l0_2) (hc0_2 : l0_2.length ≤ c0_2) (hr0_3 : Kd.C (Kd.int .i64) w A0_3 l0_3.length l0_3) (hc0_3 : l0_3.length ≤ c0_3) (hr0_6 : Kd.C (Kd.int .i64) w A0_6 l0_6.length l0_6) (hc0_6 : l0_6.length ≤ c0_6) (hr0_7 : Kd.C (Kd.int .i64) w A0_7 l0_7.length l0_7) (hc0_7 : l0_7.length ≤ c0_7) (hr0_8 : Kd.C (Kd.int .i64) w A0_8 l0_8.length l0_8) (hc0_8 : l0_8.length ≤ c0_8) (hr1_2 : Kd.C (Kd.int .i64) w A1_2 l1_2.length l1_2) (hc1_2 : l1_2.length ≤ c1_2) (hr1_3 : Kd.C (Kd.int .i64) w A1_3 l1_3.length l1_3) (hc1_3 : l1_3.length ≤ c1_3) (hr1_6 : Kd.C (Kd.int .i64) w A1_6 l1_6.length l1_6) (hc1_6 : l1_6.length ≤ c1_6) (hr1_7 : Kd.C (Kd.int .i64) w A1_7 l1_7.length l1_7) (hc1_7 : l1_7.length ≤ c1_7) (hr1_8 : Kd.C (Kd.int .i64) w A1_8 l1_8.length l1_8) (hc1_8 : l1_8.length ≤ c1_8) (G0_0 : (Lit.int .i64 a0_0).wf = true) (G0_1 : (Lit.int .i64 a0_1).wf = true) (G0_2 : (∀ x0_ ∈ l0_2, (Lit.int .i64 x0_).wf = true) ∧ l0_2.length * 8 ≤ 140737488351232 ∧ l0_2.length ≤ 9223372036854775807) (G0_3 : (∀ x0_ ∈ l0_3, (Lit.int .i64 x0_).wf = true) ∧ l0_3.length * 8 ≤ 140737488351232 ∧ l0_3.length ≤ 9223372036854775807) (G0_4 : (Lit.int .i64 a0_4).wf = true) (G0_5 : (Lit.int .i64 a0_5).wf = true) (G0_6 : (∀ x0_ ∈ l0_6, (Lit.int .i64 x0_).wf = true) ∧ l0_6.length * 8 ≤ 140737488351232 ∧ l0_6.length ≤ 9223372036854775807) (G0_7 : (∀ x0_ ∈ l0_7, (Lit.int .i64 x0_).wf = true) ∧ l0_7.length * 8 ≤ 140737488351232 ∧ l0_7.length ≤ 9223372036854775807) (G0_8 : (∀ x0_ ∈ l0_8, (Lit.int .i64 x0_).wf = true) ∧ l0_8.length * 8 ≤ 140737488351232 ∧ l0_8.length ≤ 9223372036854775807) (G1_0 : (Lit.int .i64 a1_0).wf = true) (G1_1 : (Lit.int .i64 a1_1).wf = true) (G1_2 : (∀ x0_ ∈ l1_2, (Lit.int .i64 x0_).wf = true) ∧ l1_2.length * 8 ≤ 140737488351232 ∧ l1_2.length ≤ 9223372036854775807) (G1_3 : (∀ x0_ ∈ l1_3, (Lit.int .i64 x0_).wf = true) ∧ l1_3.length * 8 ≤ 140737488351232 ∧ l1_3.length ≤ 9223372036854775807) (G1_4 : (Lit.int .i64 a1_4).wf = true) (G1_5 : (Lit.int .i64 a1_5).wf = true) (G1_6 : (∀ x0_ ∈ l1_6, (Lit.int .i64 x0_).wf = true) ∧ l1_6.length * 8 ≤ 140737488351232 ∧ l1_6.length ≤ 9223372036854775807) (G1_7 : (∀ x0_ ∈ l1_7, (Lit.int .i64 x0_).wf = true) ∧ l1_7.length * 8 ≤ 140737488351232 ∧ l1_7.length ≤ 9223372036854775807) (G1_8 : (∀ x0_ ∈ l1_8, (Lit.int .i64 x0_).wf = true) ∧ l1_8.length * 8 ≤ 140737488351232 ∧ l1_8.length ≤ 9223372036854775807) :
    Calls Try.prog 5 #[.agg #[.int .i64 a0_0, .int .i64 a0_1, .slice A0_2 l0_2.length c0_2, .slice A0_3 l0_3.length c0_3, .int .i64 a0_4, .int .i64 a0_5, .slice A0_6 l0_6.length c0_6, .slice A0_7 l0_7.length c0_7, .slice A0_8 l0_8.length c0_8], .agg #[.int .i64 a1_0, .int .i64 a1_1, .slice A1_2 l1_2.length c1_2, .slice A1_3 l1_3.length c1_3, .int .i64 a1_4, .int .i64 a1_5, .slice A1_6 l1_6.length c1_6, .slice A1_7 l1_7.length c1_7, .slice A1_8 l1_8.length c1_8]] w fun e w' => e = .returned (.bool true) ∧ Below w.heap.size w w' := by
  obtain ⟨k, h⟩ := P a0_0 a0_1 l0_2 l0_3 a0_4 a0_5 l0_6 l0_7 l0_8 a1_0 a1_1 l1_2 l1_3 a1_4 a1_5 l1_6 l1_7 l1_8 G0_0 G0_1 G0_2 G0_3 G0_4 G0_5 G0_6 G0_7 G0_8 G1_0 G1_1 G1_2 G1_3 G1_4 G1_5 G1_6 G1_7 G1_8
  refine (laws_FnExactSameDesk.calls k a0_0 a0_1 A0_2 c0_2 l0_2 A0_3 c0_3 l0_3 a0_4 a0_5 A0_6 c0_6 l0_6 A0_7 c0_7 l0_7 A0_8 c0_8 l0_8 a1_0 a1_1 A1_2 c1_2 l1_2 A1_3 c1_3 l1_3 a1_4 a1_5 A1_6 c1_6 l1_6 A1_7 c1_7 l1_7 A1_8 c1_8 l1_8 true w hr0_2 hc0_2 hr0_3 hc0_3 hr0_6 hc0_6 hr0_7 hc0_7 hr0_8 hc0_8 hr1_2 hc1_2 hr1_3 hc1_3 hr1_6 hc1_6 hr1_7 hc1_7 hr1_8 hc1_8 rfl h).mono ?_
  rintro e w' ⟨rfl, hd⟩
  exact ⟨rfl, hd⟩

end Go.Proofs.Ytbeinhdoggfgkaa.PFnExactSameDesk

-- Written by a program of this session (its own print).
import Derived.Test.YtjhodohmifemiaaPFnExactCollideGasx0
import Derived.Test.YtjhodohmifemiaaPFnExactCollideGasx1
import Derived.Test.YtjhodohmifemiaaPFnExactCollideGasx2
import Derived.Test.YtjhodohmifemiaaPFnExactCollideGasx6
import Derived.Test.YtjhodohmifemiaaPFnExactCollideGasx10
namespace Go.Proofs.Ytjhodohmifemiaa.PFnExactCollideGas
open Go.RowKit Go.Proofs.YtjhodohmifemiaaW.PrintWords Go.Proofs.YtjhodohmifemiaaW.PrintLast Go.Proofs.YtjhodohmifemiaaW.PrintMore
attribute [local go_sem] max2_int min2_int max_two min_two max_three min_three max_four min_four   -- for this text's walks alone
set_option linter.unusedVariables false
set_option linter.unusedSimpArgs false

/-! ### laws_FnExactCollideGas: function 4 -/
mutual
def laws_FnExactCollideGas.j0 : Nat → Bool → Bool → Bool → Bool → Int → Int → Int → List Int → List Bool → Int → Int → Int → List Int → List Bool → Int → Int → Int → List Int → List Bool → Int → Int → Int → List Int → List Bool → Option (Bool)
  | 0, _, _, _, _, _, _, _, _, _, _, _, _, _, _, _, _, _, _, _, _, _, _, _, _ => none
  | k + 1, x1, x7, x10, x44, x260000, x260001, x260002, x260003, x260004, x281000, x281001, x281002, x281003, x281004, x291000, x291001, x291002, x291003, x291004, x302000, x302001, x302002, x302003, x302004 => if x44 = true then (some false) else ((laws_toGas.f k x260000 x260001 x260002 x260003 x260004).bind fun bt303 => ((laws_eqGas.f k x291000 x291001 x291002 x291003 x291004 bt303.1 bt303.2.1 bt303.2.2.1 bt303.2.2.2.1 bt303.2.2.2.2).bind fun t312 => (if t312 = true then ((laws_markGas.f k x291000 x291001 x291002 x291003 x291004 1).bind fun bt313 => (if bt313.1 < 0 then (laws_FnExactCollideGas.j1 k x1 x7 true x260000 x260001 x260002 x260003 x260004 x281000 x281001 x281002 x281003 x281004 x302000 x302001 x302002 x302003 x302004) else ((laws_eqGas.f k x302000 x302001 x302002 x302003 x302004 x281000 x281001 x281002 x281003 x281004).bind fun t316 => (if t316 = true then (laws_FnExactCollideGas.j1 k x1 x7 (x10 != x7) x260000 x260001 x260002 x260003 x260004 x281000 x281001 x281002 x281003 x281004 x302000 x302001 x302002 x302003 x302004) else (laws_FnExactCollideGas.j1 k x1 x7 true x260000 x260001 x260002 x260003 x260004 x281000 x281001 x281002 x281003 x281004 x302000 x302001 x302002 x302003 x302004))))) else (some false))))
def laws_FnExactCollideGas.j1 : Nat → Bool → Bool → Bool → Int → Int → Int → List Int → List Bool → Int → Int → Int → List Int → List Bool → Int → Int → Int → List Int → List Bool → Option (Bool)
  | 0, _, _, _, _, _, _, _, _, _, _, _, _, _, _, _, _, _, _ => none
  | k + 1, x1, x7, x65, x260000, x260001, x260002, x260003, x260004, x281000, x281001, x281002, x281003, x281004, x302000, x302001, x302002, x302003, x302004 => if x65 = true then (some false) else ((laws_markGas.f k x302000 x302001 x302002 x302003 x302004 1).bind fun bt317 => ((laws_heldGas.f k x302000 x302001 x302002 bt317.2.1 bt317.2.2 1).bind fun t320 => (if t320 < 0 then (some false) else (if t320 = bt317.1 then ((laws_toGas.f k x260000 x260001 x260002 x260003 x260004).bind fun bt321 => ((impl_CollideGas.f k bt321.1 bt321.2.1 bt321.2.2.1 bt321.2.2.2.1 bt321.2.2.2.2 x1).bind fun bt330 => ((laws_eqGas.f k bt330.1 bt330.2.1 bt330.2.2.1 bt330.2.2.2.1 bt330.2.2.2.2.1 x281000 x281001 x281002 x281003 x281004).bind fun t341 => (if t341 = true then (laws_FnExactCollideGas.j2 k bt317.1 (bt330.2.2.2.2.2 != x7) x302000 x302001 x302002 bt317.2.1 bt317.2.2) else (laws_FnExactCollideGas.j2 k bt317.1 true x302000 x302001 x302002 bt317.2.1 bt317.2.2))))) else (some false)))))
def laws_FnExactCollideGas.j2 : Nat → Int → Bool → Int → Int → Int → List Int → List Bool → Option (Bool)
  | 0, _, _, _, _, _, _, _ => none
  | k + 1, x12, x92, x302000, x302001, x302002, x302003, x302004 => if x92 = true then (some false) else ((laws_heldGas.f k x302000 x302001 x302002 x302003 x302004 1).bind fun t342 => (if t342 < 0 then (some false) else (if t342 = x12 then (some true) else (some false))))
end
def laws_FnExactCollideGas.f (k : Nat) (a0_0 : Int) (a0_1 : Int) (a0_2 : Int) (l0_3 : List Int) (l0_4 : List Bool) (a1 : Bool) : Option (Bool) := (laws_szGas.f a0_0 a0_1 a0_2 l0_3 l0_4 1048576).bind fun t260 => (if t260 < 0 then (some true) else ((laws_toGas.f k a0_0 a0_1 a0_2 l0_3 l0_4).bind fun bt261 => ((spec_CollideGas.f k bt261.1 bt261.2.1 bt261.2.2.1 bt261.2.2.2.1 bt261.2.2.2.2 a1).bind fun bt270 => ((laws_toGas.f k a0_0 a0_1 a0_2 l0_3 l0_4).bind fun bt281 => ((impl_CollideGas.f k bt281.1 bt281.2.1 bt281.2.2.1 bt281.2.2.2.1 bt281.2.2.2.2 a1).bind fun bt291 => ((laws_eqGas.f k bt291.1 bt291.2.1 bt291.2.2.1 bt291.2.2.2.1 bt291.2.2.2.2.1 bt270.1 bt270.2.1 bt270.2.2.1 bt270.2.2.2.1 bt270.2.2.2.2.1).bind fun t302 => (if t302 = true then (laws_FnExactCollideGas.j0 k a1 bt270.2.2.2.2.2 bt291.2.2.2.2.2 (bt291.2.2.2.2.2 != bt270.2.2.2.2.2) a0_0 a0_1 a0_2 l0_3 l0_4 bt270.1 bt270.2.1 bt270.2.2.1 bt270.2.2.2.1 bt270.2.2.2.2.1 bt281.1 bt281.2.1 bt281.2.2.1 bt281.2.2.2.1 bt281.2.2.2.2 bt291.1 bt291.2.1 bt291.2.2.1 bt291.2.2.2.1 bt291.2.2.2.2.1) else (laws_FnExactCollideGas.j0 k a1 bt270.2.2.2.2.2 bt291.2.2.2.2.2 true a0_0 a0_1 a0_2 l0_3 l0_4 bt270.1 bt270.2.1 bt270.2.2.1 bt270.2.2.2.1 bt270.2.2.2.2.1 bt281.1 bt281.2.1 bt281.2.2.1 bt281.2.2.2.1 bt281.2.2.2.2 bt291.1 bt291.2.1 bt291.2.2.1 bt291.2.2.2.1 bt291.2.2.2.2.1))))))))
theorem laws_FnExactCollideGas.mono_l : ∀ k, (∀ y0 y1 y2 y3 y4 y5 y6 y7 y8 y9 y10 y11 y12 y13 y14 y15 y16 y17 y18 y19 y20 y21 y22 y23, LeO (laws_FnExactCollideGas.j0 k y0 y1 y2 y3 y4 y5 y6 y7 y8 y9 y10 y11 y12 y13 y14 y15 y16 y17 y18 y19 y20 y21 y22 y23) (laws_FnExactCollideGas.j0 (k + 1) y0 y1 y2 y3 y4 y5 y6 y7 y8 y9 y10 y11 y12 y13 y14 y15 y16 y17 y18 y19 y20 y21 y22 y23)) ∧ (∀ y0 y1 y2 y3 y4 y5 y6 y7 y8 y9 y10 y11 y12 y13 y14 y15 y16 y17, LeO (laws_FnExactCollideGas.j1 k y0 y1 y2 y3 y4 y5 y6 y7 y8 y9 y10 y11 y12 y13 y14 y15 y16 y17) (laws_FnExactCollideGas.j1 (k + 1) y0 y1 y2 y3 y4 y5 y6 y7 y8 y9 y10 y11 y12 y13 y14 y15 y16 y17)) ∧ (∀ y0 y1 y2 y3 y4 y5 y6, LeO (laws_FnExactCollideGas.j2 k y0 y1 y2 y3 y4 y5 y6) (laws_FnExactCollideGas.j2 (k + 1) y0 y1 y2 y3 y4 y5 y6))
  | 0 => ⟨fun _ _ _ _ _ _ _ _ _ _ _ _ _ _ _ _ _ _ _ _ _ _ _ _ r h => by simp [laws_FnExactCollideGas.j0] at h, fun _ _ _ _ _ _ _ _ _ _ _ _ _ _ _ _ _ _ r h => by simp [laws_FnExactCollideGas.j1] at h, fun _ _ _ _ _ _ _ r h => by simp [laws_FnExactCollideGas.j2] at h⟩
  | k + 1 => by
    obtain ⟨ih0, ih1, ih2⟩ := laws_FnExactCollideGas.mono_l k
    refine ⟨?_, ?_, ?_⟩
    · intro y0 y1 y2 y3 y4 y5 y6 y7 y8 y9 y10 y11 y12 y13 y14 y15 y16 y17 y18 y19 y20 y21 y22 y23
      unfold laws_FnExactCollideGas.j0
      repeat' first
      | (with_reducible exact ih0 _ _ _ _ _ _ _ _ _ _ _ _ _ _ _ _ _ _ _ _ _ _ _ _)
      | (with_reducible exact ih1 _ _ _ _ _ _ _ _ _ _ _ _ _ _ _ _ _ _)
      | (with_reducible exact ih2 _ _ _ _ _ _ _)
      | (with_reducible exact impl_CollideGas.mono _ _ _ _ _ _ _)
      | (with_reducible exact laws_eqGas.mono _ _ _ _ _ _ _ _ _ _ _)
      | (with_reducible exact laws_heldGas.mono _ _ _ _ _ _ _)
      | (with_reducible exact laws_markGas.mono _ _ _ _ _ _ _)
      | (with_reducible exact laws_toGas.mono _ _ _ _ _ _)
      | (with_reducible exact spec_CollideGas.mono _ _ _ _ _ _ _)
      | (with_reducible exact LeO.refl _)
      | (with_reducible exact LeO.none _)
      | (with_reducible refine LeO.ite ?_ ?_)
      | (with_reducible refine LeO.bind ?_ (fun _ => ?_))
      | exact ih0 _ _ _ _ _ _ _ _ _ _ _ _ _ _ _ _ _ _ _ _ _ _ _ _
      | exact ih1 _ _ _ _ _ _ _ _ _ _ _ _ _ _ _ _ _ _
      | exact ih2 _ _ _ _ _ _ _
      | exact impl_CollideGas.mono _ _ _ _ _ _ _
      | exact laws_eqGas.mono _ _ _ _ _ _ _ _ _ _ _
      | exact laws_heldGas.mono _ _ _ _ _ _ _
      | exact laws_markGas.mono _ _ _ _ _ _ _
      | exact laws_toGas.mono _ _ _ _ _ _
      | exact spec_CollideGas.mono _ _ _ _ _ _ _
      | exact LeO.none _
      | refine LeO.ite ?_ ?_
      | refine LeO.bind ?_ (fun _ => ?_)
    · intro y0 y1 y2 y3 y4 y5 y6 y7 y8 y9 y10 y11 y12 y13 y14 y15 y16 y17
      unfold laws_FnExactCollideGas.j1
      repeat' first
      | (with_reducible exact ih0 _ _ _ _ _ _ _ _ _ _ _ _ _ _ _ _ _ _ _ _ _ _ _ _)
      | (with_reducible exact ih1 _ _ _ _ _ _ _ _ _ _ _ _ _ _ _ _ _ _)
      | (with_reducible exact ih2 _ _ _ _ _ _ _)
      | (with_reducible exact impl_CollideGas.mono _ _ _ _ _ _ _)
      | (with_reducible exact laws_eqGas.mono _ _ _ _ _ _ _ _ _ _ _)
      | (with_reducible exact laws_heldGas.mono _ _ _ _ _ _ _)
      | (with_reducible exact laws_markGas.mono _ _ _ _ _ _ _)
      | (with_reducible exact laws_toGas.mono _ _ _ _ _ _)
      | (with_reducible exact spec_CollideGas.mono _ _ _ _ _ _ _)
      | (with_reducible exact LeO.refl _)
      | (with_reducible exact LeO.none _)
      | (with_reducible refine LeO.ite ?_ ?_)
      | (with_reducible refine LeO.bind ?_ (fun _ => ?_))
      | exact ih0 _ _ _ _ _ _ _ _ _ _ _ _ _ _ _ _ _ _ _ _ _ _ _ _
      | exact ih1 _ _ _ _ _ _ _ _ _ _ _ _ _ _ _ _ _ _
      | exact ih2 _ _ _ _ _ _ _
      | exact impl_CollideGas.mono _ _ _ _ _ _ _
      | exact laws_eqGas.mono _ _ _ _ _ _ _ _ _ _ _
      | exact laws_heldGas.mono _ _ _ _ _ _ _
      | exact laws_markGas.mono _ _ _ _ _ _ _
      | exact laws_toGas.mono _ _ _ _ _ _
      | exact spec_CollideGas.mono _ _ _ _ _ _ _
      | exact LeO.none _
      | refine LeO.ite ?_ ?_
      | refine LeO.bind ?_ (fun _ => ?_)
    · intro y0 y1 y2 y3 y4 y5 y6
      unfold laws_FnExactCollideGas.j2
      repeat' first
      | (with_reducible exact ih0 _ _ _ _ _ _ _ _ _ _ _ _ _ _ _ _ _ _ _ _ _ _ _ _)
      | (with_reducible exact ih1 _ _ _ _ _ _ _ _ _ _ _ _ _ _ _ _ _ _)
      | (with_reducible exact ih2 _ _ _ _ _ _ _)
      | (with_reducible exact impl_CollideGas.mono _ _ _ _ _ _ _)
      | (with_reducible exact laws_eqGas.mono _ _ _ _ _ _ _ _ _ _ _)
      | (with_reducible exact laws_heldGas.mono _ _ _ _ _ _ _)
      | (with_reducible exact laws_markGas.mono _ _ _ _ _ _ _)
      | (with_reducible exact laws_toGas.mono _ _ _ _ _ _)
      | (with_reducible exact spec_CollideGas.mono _ _ _ _ _ _ _)
      | (with_reducible exact LeO.refl _)
      | (with_reducible exact LeO.none _)
      | (with_reducible refine LeO.ite ?_ ?_)
      | (with_reducible refine LeO.bind ?_ (fun _ => ?_))
      | exact ih0 _ _ _ _ _ _ _ _ _ _ _ _ _ _ _ _ _ _ _ _ _ _ _ _
      | exact ih1 _ _ _ _ _ _ _ _ _ _ _ _ _ _ _ _ _ _
      | exact ih2 _ _ _ _ _ _ _
      | exact impl_CollideGas.mono _ _ _ _ _ _ _
      | exact laws_eqGas.mono _ _ _ _ _ _ _ _ _ _ _
      | exact laws_heldGas.mono _ _ _ _ _ _ _
      | exact laws_markGas.mono _ _ _ _ _ _ _
      | exact laws_toGas.mono _ _ _ _ _ _
      | exact spec_CollideGas.mono _ _ _ _ _ _ _
      | exact LeO.none _
      | refine LeO.ite ?_ ?_
      | refine LeO.bind ?_ (fun _ => ?_)
theorem laws_FnExactCollideGas.mono : ∀ a0 a1 a2 a3 a4 a5 k, LeO (laws_FnExactCollideGas.f k a0 a1 a2 a3 a4 a5) (laws_FnExactCollideGas.f (k + 1) a0 a1 a2 a3 a4 a5) := by
  intro a0 a1 a2 a3 a4 a5 k
  obtain ⟨ih0, ih1, ih2⟩ := laws_FnExactCollideGas.mono_l k
  unfold laws_FnExactCollideGas.f
  repeat' first
      | (with_reducible exact ih0 _ _ _ _ _ _ _ _ _ _ _ _ _ _ _ _ _ _ _ _ _ _ _ _)
      | (with_reducible exact ih1 _ _ _ _ _ _ _ _ _ _ _ _ _ _ _ _ _ _)
      | (with_reducible exact ih2 _ _ _ _ _ _ _)
      | (with_reducible exact impl_CollideGas.mono _ _ _ _ _ _ _)
      | (with_reducible exact laws_eqGas.mono _ _ _ _ _ _ _ _ _ _ _)
      | (with_reducible exact laws_heldGas.mono _ _ _ _ _ _ _)
      | (with_reducible exact laws_markGas.mono _ _ _ _ _ _ _)
      | (with_reducible exact laws_toGas.mono _ _ _ _ _ _)
      | (with_reducible exact spec_CollideGas.mono _ _ _ _ _ _ _)
      | (with_reducible exact LeO.refl _)
      | (with_reducible exact LeO.none _)
      | (with_reducible refine LeO.ite ?_ ?_)
      | (with_reducible refine LeO.bind ?_ (fun _ => ?_))
      | exact ih0 _ _ _ _ _ _ _ _ _ _ _ _ _ _ _ _ _ _ _ _ _ _ _ _
      | exact ih1 _ _ _ _ _ _ _ _ _ _ _ _ _ _ _ _ _ _
      | exact ih2 _ _ _ _ _ _ _
      | exact impl_CollideGas.mono _ _ _ _ _ _ _
      | exact laws_eqGas.mono _ _ _ _ _ _ _ _ _ _ _
      | exact laws_heldGas.mono _ _ _ _ _ _ _
      | exact laws_markGas.mono _ _ _ _ _ _ _
      | exact laws_toGas.mono _ _ _ _ _ _
      | exact spec_CollideGas.mono _ _ _ _ _ _ _
      | exact LeO.none _
      | refine LeO.ite ?_ ?_
      | refine LeO.bind ?_ (fun _ => ?_)
set_option maxHeartbeats 8000000 in
set_option maxRecDepth 100000 in
theorem laws_FnExactCollideGas.calls (k : Nat) (a0_0 : Int) (a0_1 : Int) (a0_2 : Int) (A0_3 : Option Addr) (c0_3 : Nat) (l0_3 : List Int) (A0_4 : Option Addr) (c0_4 : Nat) (l0_4 : List Bool) (a1 : Bool) (r : Bool) (w : World) (hr0_3 : Kd.C (Kd.int .i64) w A0_3 l0_3.length l0_3) (hc0_3 : l0_3.length ≤ c0_3) (hr0_4 : Kd.C Kd.bool w A0_4 l0_4.length l0_4) (hc0_4 : l0_4.length ≤ c0_4) (h : laws_FnExactCollideGas.f k a0_0 a0_1 a0_2 l0_3 l0_4 a1 = some r) :
    Calls Try.prog 4 #[.agg #[.int .i64 a0_0, .int .i64 a0_1, .int .i64 a0_2, .slice A0_3 l0_3.length c0_3, .slice A0_4 l0_4.length c0_4], .bool a1] w fun e w' => e = .returned (.bool r) ∧ Below w.heap.size w w' := by
  have hu25 := Try.underlying25
  have hu27 := Try.underlying27
  have HR0_3 := Aside0.mk hr0_3
  have HC0_3 := Aside0.mk hc0_3
  clear hr0_3 hc0_3
  have HR0_4 := Aside0.mk hr0_4
  have HC0_4 := Aside0.mk hc0_4
  clear hr0_4 hc0_4
  have HB := Aside0.mk (Below.refl w.heap.size w)
  have H : ((laws_szGas.f a0_0 a0_1 a0_2 l0_3 l0_4 1048576).bind fun t260 => (if t260 < 0 then (some true) else ((laws_toGas.f k a0_0 a0_1 a0_2 l0_3 l0_4).bind fun bt261 => ((spec_CollideGas.f k bt261.1 bt261.2.1 bt261.2.2.1 bt261.2.2.2.1 bt261.2.2.2.2 a1).bind fun bt270 => ((laws_toGas.f k a0_0 a0_1 a0_2 l0_3 l0_4).bind fun bt281 => ((impl_CollideGas.f k bt281.1 bt281.2.1 bt281.2.2.1 bt281.2.2.2.1 bt281.2.2.2.2 a1).bind fun bt291 => ((laws_eqGas.f k bt291.1 bt291.2.1 bt291.2.2.1 bt291.2.2.2.1 bt291.2.2.2.2.1 bt270.1 bt270.2.1 bt270.2.2.1 bt270.2.2.2.1 bt270.2.2.2.2.1).bind fun t302 => (if t302 = true then (laws_FnExactCollideGas.j0 k a1 bt270.2.2.2.2.2 bt291.2.2.2.2.2 (bt291.2.2.2.2.2 != bt270.2.2.2.2.2) a0_0 a0_1 a0_2 l0_3 l0_4 bt270.1 bt270.2.1 bt270.2.2.1 bt270.2.2.2.1 bt270.2.2.2.2.1 bt281.1 bt281.2.1 bt281.2.2.1 bt281.2.2.2.1 bt281.2.2.2.2 bt291.1 bt291.2.1 bt291.2.2.1 bt291.2.2.2.1 bt291.2.2.2.2.1) else (laws_FnExactCollideGas.j0 k a1 bt270.2.2.2.2.2 bt291.2.2.2.2.2 true a0_0 a0_1 a0_2 l0_3 l0_4 bt270.1 bt270.2.1 bt270.2.2.1 bt270.2.2.2.1 bt270.2.2.2.2.1 bt281.1 bt281.2.1 bt281.2.2.1 bt281.2.2.2.1 bt281.2.2.2.2 bt291.1 bt291.2.1 bt291.2.2.1 bt291.2.2.2.1 bt291.2.2.2.2.1))))))))) = some r := h
  clear h
  replace H := Option.bind_eq_some_iff.mp H
  obtain ⟨t260, A30, H⟩ := H
  replace H : (if t260 < 0 then (some true) else ((laws_toGas.f k a0_0 a0_1 a0_2 l0_3 l0_4).bind fun bt261 => ((spec_CollideGas.f k bt261.1 bt261.2.1 bt261.2.2.1 bt261.2.2.2.1 bt261.2.2.2.2 a1).bind fun bt270 => ((laws_toGas.f k a0_0 a0_1 a0_2 l0_3 l0_4).bind fun bt281 => ((impl_CollideGas.f k bt281.1 bt281.2.1 bt281.2.2.1 bt281.2.2.2.1 bt281.2.2.2.2 a1).bind fun bt291 => ((laws_eqGas.f k bt291.1 bt291.2.1 bt291.2.2.1 bt291.2.2.2.1 bt291.2.2.2.2.1 bt270.1 bt270.2.1 bt270.2.2.1 bt270.2.2.2.1 bt270.2.2.2.2.1).bind fun t302 => (if t302 = true then (laws_FnExactCollideGas.j0 k a1 bt270.2.2.2.2.2 bt291.2.2.2.2.2 (bt291.2.2.2.2.2 != bt270.2.2.2.2.2) a0_0 a0_1 a0_2 l0_3 l0_4 bt270.1 bt270.2.1 bt270.2.2.1 bt270.2.2.2.1 bt270.2.2.2.2.1 bt281.1 bt281.2.1 bt281.2.2.1 bt281.2.2.2.1 bt281.2.2.2.2 bt291.1 bt291.2.1 bt291.2.2.1 bt291.2.2.2.1 bt291.2.2.2.2.1) else (laws_FnExactCollideGas.j0 k a1 bt270.2.2.2.2.2 bt291.2.2.2.2.2 true a0_0 a0_1 a0_2 l0_3 l0_4 bt270.1 bt270.2.1 bt270.2.2.1 bt270.2.2.2.1 bt270.2.2.2.2.1 bt281.1 bt281.2.1 bt281.2.2.1 bt281.2.2.2.1 bt281.2.2.2.2 bt291.1 bt291.2.1 bt291.2.2.1 bt291.2.2.2.1 bt291.2.2.2.2.1)))))))) = some r := H
  have A3 := Aside0.mk A30
  clear A30
  by_cases c4 : t260 < 0
  · rw [if_pos c4] at H
    have c4b0 : decide (t260 < 0) = true := decide_eq_true c4
    clear c4
    obtain rfl := Option.some.inj H
    go_enter Try.func4, Try.ntmps4
    go_wp2_with (first | ((with_reducible refine gate_dst (N := 2) rfl ?_); refine box_event ?hg (N := 2) ?hd (cs := #[.int .i64 a0_0, .int .i64 a0_1, .int .i64 a0_2, .slice A0_3 l0_3.length c0_3, .slice A0_4 l0_4.length c0_4]) (t := 25) ?hr ?_; (case hd => rfl); (case hg => rfl); (case hr => first | (go_simp; done) | (go_simp; rfl)); intro gb259 hg w5 hbox hb; have n0_ := Aside0.mk (below_step (bk_ HB.out) hb); have n1_ := Aside0.mk (hbox); have n2_ := Aside0.mk ((by rw [hg]; exact (below_size (bk_ HB.out)) : w.heap.size ≤ gb259)); have n3_ := Aside0.mk ((by rw [hg]; exact (below_size (bk_ HB.out)) : w.heap.size ≤ gb259)); clear HB; have HB := n0_; have BK259 := n1_; have GW259 := n2_; have GE259 := n3_; clear n0_ n1_ n2_ n3_; clear hb hbox hg; have hcz6_0 := bc_ BK259.out 0 (.int .i64 a0_0); have hcz6_1 := bc_ BK259.out 1 (.int .i64 a0_1); have hcz6_2 := bc_ BK259.out 2 (.int .i64 a0_2); have hcz6_3 := bc_ BK259.out 3 (.slice A0_3 l0_3.length c0_3); have hcz6_4 := bc_ BK259.out 4 (.slice A0_4 l0_4.length c0_4); have hfz6_0 := blk_frozen BK259.out 0; have hfz6_1 := blk_frozen BK259.out 1; have hfz6_2 := blk_frozen BK259.out 2; have hfz6_3 := blk_frozen BK259.out 3; have hfz6_4 := blk_frozen BK259.out 4) | ((with_reducible refine gate_callee (f := 13) rfl ?_); refine goesL_ (some 18) rfl rfl Try.func13 (by kernel_rfl) rfl #[.agg #[.int .i64 a0_0, .int .i64 a0_1, .int .i64 a0_2, .slice A0_3 l0_3.length c0_3, .slice A0_4 l0_4.length c0_4], .int .i64 1048576] rfl (by (try simp only [List.map_toArray, List.map_cons, List.map_nil]); first | done | rfl | (simp only [List.length_drop, List.length_take]; rfl)) ?_; (with_reducible refine (laws_szGas.calls a0_0 a0_1 a0_2 _ _ l0_3 _ _ l0_4 1048576 t260 _ ?side1 ?side2 ?side3 ?side4 A3.out).mono ?_); (case side1 => exact ck_ (Kd.C_below HR0_3.out HB.out)); (case side2 => exact HC0_3.out); (case side3 => exact ck_ (Kd.C_below HR0_4.out HB.out)); (case side4 => exact HC0_4.out); rintro e w7 ⟨rfl, hb⟩; refine ⟨_, rfl, ?_⟩; have n0_ := Aside0.mk (bb_ BK259.out hb); have n1_ := Aside0.mk (below_step (bk_ HB.out) hb); clear BK259; clear HB; have BK259 := n0_; have HB := n1_; clear n0_ n1_; (try clear hb); (try clear hb2); (try clear hk); (try clear hi)))
    go_ret
    exact ⟨by first | rfl | (simp [errW_none, errW_some] <;> rfl) | (simp [*, errW_none, errW_some] <;> rfl), bk_ HB.out⟩
  · rw [if_neg c4] at H
    have c4b0 : decide (t260 < 0) = false := decide_eq_false c4
    clear c4
    replace H := Option.bind_eq_some_iff.mp H
    obtain ⟨⟨t261, t262, t263, t264, t267⟩, A80, H⟩ := H
    replace H : ((spec_CollideGas.f k t261 t262 t263 t264 t267 a1).bind fun bt270 => ((laws_toGas.f k a0_0 a0_1 a0_2 l0_3 l0_4).bind fun bt281 => ((impl_CollideGas.f k bt281.1 bt281.2.1 bt281.2.2.1 bt281.2.2.2.1 bt281.2.2.2.2 a1).bind fun bt291 => ((laws_eqGas.f k bt291.1 bt291.2.1 bt291.2.2.1 bt291.2.2.2.1 bt291.2.2.2.2.1 bt270.1 bt270.2.1 bt270.2.2.1 bt270.2.2.2.1 bt270.2.2.2.2.1).bind fun t302 => (if t302 = true then (laws_FnExactCollideGas.j0 k a1 bt270.2.2.2.2.2 bt291.2.2.2.2.2 (bt291.2.2.2.2.2 != bt270.2.2.2.2.2) a0_0 a0_1 a0_2 l0_3 l0_4 bt270.1 bt270.2.1 bt270.2.2.1 bt270.2.2.2.1 bt270.2.2.2.2.1 bt281.1 bt281.2.1 bt281.2.2.1 bt281.2.2.2.1 bt281.2.2.2.2 bt291.1 bt291.2.1 bt291.2.2.1 bt291.2.2.2.1 bt291.2.2.2.2.1) else (laws_FnExactCollideGas.j0 k a1 bt270.2.2.2.2.2 bt291.2.2.2.2.2 true a0_0 a0_1 a0_2 l0_3 l0_4 bt270.1 bt270.2.1 bt270.2.2.1 bt270.2.2.2.1 bt270.2.2.2.2.1 bt281.1 bt281.2.1 bt281.2.2.1 bt281.2.2.2.1 bt281.2.2.2.2 bt291.1 bt291.2.1 bt291.2.2.1 bt291.2.2.2.1 bt291.2.2.2.2.1)))))) = some r := H
    have A8 := Aside0.mk A80
    clear A80
    replace H := Option.bind_eq_some_iff.mp H
    obtain ⟨⟨t270, t271, t272, t273, t276, t279⟩, A90, H⟩ := H
    replace H : ((laws_toGas.f k a0_0 a0_1 a0_2 l0_3 l0_4).bind fun bt281 => ((impl_CollideGas.f k bt281.1 bt281.2.1 bt281.2.2.1 bt281.2.2.2.1 bt281.2.2.2.2 a1).bind fun bt291 => ((laws_eqGas.f k bt291.1 bt291.2.1 bt291.2.2.1 bt291.2.2.2.1 bt291.2.2.2.2.1 t270 t271 t272 t273 t276).bind fun t302 => (if t302 = true then (laws_FnExactCollideGas.j0 k a1 t279 bt291.2.2.2.2.2 (bt291.2.2.2.2.2 != t279) a0_0 a0_1 a0_2 l0_3 l0_4 t270 t271 t272 t273 t276 bt281.1 bt281.2.1 bt281.2.2.1 bt281.2.2.2.1 bt281.2.2.2.2 bt291.1 bt291.2.1 bt291.2.2.1 bt291.2.2.2.1 bt291.2.2.2.2.1) else (laws_FnExactCollideGas.j0 k a1 t279 bt291.2.2.2.2.2 true a0_0 a0_1 a0_2 l0_3 l0_4 t270 t271 t272 t273 t276 bt281.1 bt281.2.1 bt281.2.2.1 bt281.2.2.2.1 bt281.2.2.2.2 bt291.1 bt291.2.1 bt291.2.2.1 bt291.2.2.2.1 bt291.2.2.2.2.1))))) = some r := H
    have A9 := Aside0.mk A90
    clear A90
    replace H := Option.bind_eq_some_iff.mp H
    obtain ⟨⟨t281, t282, t283, t284, t287⟩, A100, H⟩ := H
    replace H : ((impl_CollideGas.f k t281 t282 t283 t284 t287 a1).bind fun bt291 => ((laws_eqGas.f k bt291.1 bt291.2.1 bt291.2.2.1 bt291.2.2.2.1 bt291.2.2.2.2.1 t270 t271 t272 t273 t276).bind fun t302 => (if t302 = true then (laws_FnExactCollideGas.j0 k a1 t279 bt291.2.2.2.2.2 (bt291.2.2.2.2.2 != t279) a0_0 a0_1 a0_2 l0_3 l0_4 t270 t271 t272 t273 t276 t281 t282 t283 t284 t287 bt291.1 bt291.2.1 bt291.2.2.1 bt291.2.2.2.1 bt291.2.2.2.2.1) else (laws_FnExactCollideGas.j0 k a1 t279 bt291.2.2.2.2.2 true a0_0 a0_1 a0_2 l0_3 l0_4 t270 t271 t272 t273 t276 t281 t282 t283 t284 t287 bt291.1 bt291.2.1 bt291.2.2.1 bt291.2.2.2.1 bt291.2.2.2.2.1)))) = some r := H
    have A10 := Aside0.mk A100
    clear A100
    replace H := Option.bind_eq_some_iff.mp H
    obtain ⟨⟨t291, t292, t293, t294, t297, t300⟩, A110, H⟩ := H
    replace H : ((laws_eqGas.f k t291 t292 t293 t294 t297 t270 t271 t272 t273 t276).bind fun t302 => (if t302 = true then (laws_FnExactCollideGas.j0 k a1 t279 t300 (t300 != t279) a0_0 a0_1 a0_2 l0_3 l0_4 t270 t271 t272 t273 t276 t281 t282 t283 t284 t287 t291 t292 t293 t294 t297) else (laws_FnExactCollideGas.j0 k a1 t279 t300 true a0_0 a0_1 a0_2 l0_3 l0_4 t270 t271 t272 t273 t276 t281 t282 t283 t284 t287 t291 t292 t293 t294 t297))) = some r := H
    have A11 := Aside0.mk A110
    clear A110
    have HC12 := Aside0.mk H
    clear H
    go_enter Try.func4, Try.ntmps4
    go_upto_region 8 with (first | ((with_reducible refine gate_dst (N := 2) rfl ?_); refine box_event ?hg (N := 2) ?hd (cs := #[.int .i64 a0_0, .int .i64 a0_1, .int .i64 a0_2, .slice A0_3 l0_3.length c0_3, .slice A0_4 l0_4.length c0_4]) (t := 25) ?hr ?_; (case hd => rfl); (case hg => rfl); (case hr => first | (go_simp; done) | (go_simp; rfl)); intro gb259 hg w13 hbox hb; have n0_ := Aside0.mk (below_step (bk_ HB.out) hb); have n1_ := Aside0.mk (hbox); have n2_ := Aside0.mk ((by rw [hg]; exact (below_size (bk_ HB.out)) : w.heap.size ≤ gb259)); have n3_ := Aside0.mk ((by rw [hg]; exact (below_size (bk_ HB.out)) : w.heap.size ≤ gb259)); clear HB; have HB := n0_; have BK259 := n1_; have GW259 := n2_; have GE259 := n3_; clear n0_ n1_ n2_ n3_; clear hb hbox hg; have hcz14_0 := bc_ BK259.out 0 (.int .i64 a0_0); have hcz14_1 := bc_ BK259.out 1 (.int .i64 a0_1); have hcz14_2 := bc_ BK259.out 2 (.int .i64 a0_2); have hcz14_3 := bc_ BK259.out 3 (.slice A0_3 l0_3.length c0_3); have hcz14_4 := bc_ BK259.out 4 (.slice A0_4 l0_4.length c0_4); have hfz14_0 := blk_frozen BK259.out 0; have hfz14_1 := blk_frozen BK259.out 1; have hfz14_2 := blk_frozen BK259.out 2; have hfz14_3 := blk_frozen BK259.out 3; have hfz14_4 := blk_frozen BK259.out 4) | ((with_reducible refine gate_callee (f := 13) rfl ?_); refine goesL_ (some 18) rfl rfl Try.func13 (by kernel_rfl) rfl #[.agg #[.int .i64 a0_0, .int .i64 a0_1, .int .i64 a0_2, .slice A0_3 l0_3.length c0_3, .slice A0_4 l0_4.length c0_4], .int .i64 1048576] rfl (by (try simp only [List.map_toArray, List.map_cons, List.map_nil]); first | done | rfl | (simp only [List.length_drop, List.length_take]; rfl)) ?_; (with_reducible refine (laws_szGas.calls a0_0 a0_1 a0_2 _ _ l0_3 _ _ l0_4 1048576 t260 _ ?side1 ?side2 ?side3 ?side4 A3.out).mono ?_); (case side1 => exact ck_ (Kd.C_below HR0_3.out HB.out)); (case side2 => exact HC0_3.out); (case side3 => exact ck_ (Kd.C_below HR0_4.out HB.out)); (case side4 => exact HC0_4.out); rintro e w15 ⟨rfl, hb⟩; refine ⟨_, rfl, ?_⟩; have n0_ := Aside0.mk (bb_ BK259.out hb); have n1_ := Aside0.mk (below_step (bk_ HB.out) hb); clear BK259; clear HB; have BK259 := n0_; have HB := n1_; clear n0_ n1_; (try clear hb); (try clear hb2); (try clear hk); (try clear hi); have hcz16_0 := bc_ BK259.out 0 (.int .i64 a0_0); have hcz16_1 := bc_ BK259.out 1 (.int .i64 a0_1); have hcz16_2 := bc_ BK259.out 2 (.int .i64 a0_2); have hcz16_3 := bc_ BK259.out 3 (.slice A0_3 l0_3.length c0_3); have hcz16_4 := bc_ BK259.out 4 (.slice A0_4 l0_4.length c0_4); have hfz16_0 := blk_frozen BK259.out 0; have hfz16_1 := blk_frozen BK259.out 1; have hfz16_2 := blk_frozen BK259.out 2; have hfz16_3 := blk_frozen BK259.out 3; have hfz16_4 := blk_frozen BK259.out 4) | ((with_reducible refine gate_callee (f := 15) rfl ?_); refine goesL_ (some 23) rfl rfl Try.func15 (by kernel_rfl) rfl #[.agg #[.int .i64 a0_0, .int .i64 a0_1, .int .i64 a0_2, .slice A0_3 l0_3.length c0_3, .slice A0_4 l0_4.length c0_4]] rfl (by (try simp only [List.map_toArray, List.map_cons, List.map_nil]); first | done | rfl | (simp only [List.length_drop, List.length_take]; rfl)) ?_; (with_reducible refine (laws_toGas.calls k a0_0 a0_1 a0_2 _ _ l0_3 _ _ l0_4 t261 t262 t263 t264 t267 _ ?side1 ?side2 ?side3 ?side4 A8.out).mono ?_); (case side1 => exact ck_ (Kd.C_below HR0_3.out HB.out)); (case side2 => exact HC0_3.out); (case side3 => exact ck_ (Kd.C_below HR0_4.out HB.out)); (case side4 => exact HC0_4.out); rintro e w17 ⟨v265, v268, rfl, ho0, ho1, hb⟩; refine ⟨_, rfl, ?_⟩; have n0_ := Aside0.mk (Kd.R_lower ho0 (below_size (bk_ HB.out))); have n1_ := Aside0.mk (Kd.R_lower ho1 (below_size (bk_ HB.out))); have n2_ := Aside0.mk (bb_ BK259.out hb); have n3_ := Aside0.mk (below_step (bk_ HB.out) hb); clear BK259; clear HB; have HO266 := n0_; have HO269 := n1_; have BK259 := n2_; have HB := n3_; clear n0_ n1_ n2_ n3_; (try clear hb); (try clear hb2); (try clear hk); (try clear hi); (try clear ho0); (try clear ho1); obtain ⟨Ao18, co18, eo18⟩ := Kd.R_slice HO266.out; subst eo18; obtain ⟨Ao19, co19, eo19⟩ := Kd.R_slice HO269.out; subst eo19) | ((with_reducible refine gate_callee (f := 20) rfl ?_); refine goesL_ (some 25) rfl rfl Try.func20 (by kernel_rfl) rfl #[.agg #[.int .i64 t261, .int .i64 t262, .int .i64 t263, .slice Ao18 t264.length co18, .slice Ao19 t267.length co19], .bool a1] rfl (by (try simp only [List.map_toArray, List.map_cons, List.map_nil]); first | done | rfl | (simp only [List.length_drop, List.length_take]; rfl)) ?_; (with_reducible refine (spec_CollideGas.calls k t261 t262 t263 _ _ t264 _ _ t267 a1 t270 t271 t272 t273 t276 t279 _ ?side1 ?side2 ?side3 ?side4 A9.out).mono ?_); (case side1 => repeat (first | exact (Kd.R_reads' HO266.out).2.2 | (with_reducible refine Kd.C_alloc ?_ _) | (with_reducible refine Kd.C_drewN ?_ _) | (with_reducible refine Kd.C_drew ?_))); (case side2 => exact (Kd.R_reads' HO266.out).2.1); (case side3 => repeat (first | exact (Kd.R_reads' HO269.out).2.2 | (with_reducible refine Kd.C_alloc ?_ _) | (with_reducible refine Kd.C_drewN ?_ _) | (with_reducible refine Kd.C_drew ?_))); (case side4 => exact (Kd.R_reads' HO269.out).2.1); rintro e w20 ⟨v274, v277, rfl, ho0, ho1, hb⟩; refine ⟨_, rfl, ?_⟩; have n0_ := Aside0.mk (Kd.R_elder' (rk_ HO266.out) (Kd.R_base ho0) hb); have n1_ := Aside0.mk (Kd.R_elder' (rk_ HO269.out) (Kd.R_base ho1) hb); have n2_ := Aside0.mk (Kd.R_lower (Kd.R_new' ho0 (Kd.R_lt (rk_ HO266.out))) (below_size (bk_ HB.out))); have n3_ := Aside0.mk (Kd.R_lower (Kd.R_new' ho1 (Kd.R_lt (rk_ HO269.out))) (below_size (bk_ HB.out))); have n4_ := Aside0.mk (bb_ BK259.out hb); have n5_ := Aside0.mk (below_step (bk_ HB.out) hb); clear HO266; clear HO269; clear BK259; clear HB; have HO266 := n0_; have HO269 := n1_; have HO275 := n2_; have HO278 := n3_; have BK259 := n4_; have HB := n5_; clear n0_ n1_ n2_ n3_ n4_ n5_; (try clear hb); (try clear hb2); (try clear hk); (try clear hi); (try clear ho0); (try clear ho1)) | ((with_reducible refine gate_dst (N := 6) rfl ?_); refine box_event ?hg (N := 6) ?hd (cs := #[.int .i64 0, .int .i64 0, .int .i64 0, .slice none 0 0, .slice none 0 0]) (t := 27) ?hr ?_; (case hd => rfl); (case hg => rfl); (case hr => first | (go_simp; done) | (go_simp; rfl)); intro gb280 hg w21 hbox hb; have n0_ := Aside0.mk (Kd.R_below (rk_ HO266.out) hb); have n1_ := Aside0.mk (Kd.R_below (rk_ HO269.out) hb); have n2_ := Aside0.mk (Kd.R_below (rk_ HO275.out) hb); have n3_ := Aside0.mk (Kd.R_below (rk_ HO278.out) hb); have n4_ := Aside0.mk (bb_ BK259.out hb); have n5_ := Aside0.mk (below_step (bk_ HB.out) hb); have n6_ := Aside0.mk (hbox); have n7_ := Aside0.mk ((by rw [hg]; exact (below_size (bk_ HB.out)) : w.heap.size ≤ gb280)); have n8_ := Aside0.mk ((by rw [hg]; exact (below_size (bk_ HB.out)) : w.heap.size ≤ gb280)); have n9_ := Aside0.mk ((by rw [hg]; exact Nat.ne_of_lt (bl_ BK259.out) : gb259 ≠ gb280)); have n10_ := Aside0.mk ((by rw [hg]; exact Nat.ne_of_gt (bl_ BK259.out) : gb280 ≠ gb259)); clear HO266; clear HO269; clear HO275; clear HO278; clear BK259; clear HB; have HO266 := n0_; have HO269 := n1_; have HO275 := n2_; have HO278 := n3_; have BK259 := n4_; have HB := n5_; have BK280 := n6_; have GW280 := n7_; have GE280 := n8_; have NB259_280 := n9_; have NB280_259 := n10_; clear n0_ n1_ n2_ n3_ n4_ n5_ n6_ n7_ n8_ n9_ n10_; clear hb hbox hg; have hnb22 := NB280_259.out; have hnc22 := NB259_280.out; have hcz23_0 := bc_ BK280.out 0 (.int .i64 0); have hcz23_1 := bc_ BK280.out 1 (.int .i64 0); have hcz23_2 := bc_ BK280.out 2 (.int .i64 0); have hcz23_3 := bc_ BK280.out 3 (.slice none 0 0); have hcz23_4 := bc_ BK280.out 4 (.slice none 0 0); have hfz23_0 := blk_frozen BK280.out 0; have hfz23_1 := blk_frozen BK280.out 1; have hfz23_2 := blk_frozen BK280.out 2; have hfz23_3 := blk_frozen BK280.out 3; have hfz23_4 := blk_frozen BK280.out 4; obtain ⟨Ao24, co24, eo24⟩ := Kd.R_slice HO275.out; subst eo24; obtain ⟨Ao25, co25, eo25⟩ := Kd.R_slice HO278.out; subst eo25; have hcz26_0 := bc_ BK259.out 0 (.int .i64 a0_0); have hcz26_1 := bc_ BK259.out 1 (.int .i64 a0_1); have hcz26_2 := bc_ BK259.out 2 (.int .i64 a0_2); have hcz26_3 := bc_ BK259.out 3 (.slice A0_3 l0_3.length c0_3); have hcz26_4 := bc_ BK259.out 4 (.slice A0_4 l0_4.length c0_4); have hfz26_0 := blk_frozen BK259.out 0; have hfz26_1 := blk_frozen BK259.out 1; have hfz26_2 := blk_frozen BK259.out 2; have hfz26_3 := blk_frozen BK259.out 3; have hfz26_4 := blk_frozen BK259.out 4) | ((with_reducible refine gate_callee (f := 15) rfl ?_); refine goesL_ (some 29) rfl rfl Try.func15 (by kernel_rfl) rfl #[.agg #[.int .i64 a0_0, .int .i64 a0_1, .int .i64 a0_2, .slice A0_3 l0_3.length c0_3, .slice A0_4 l0_4.length c0_4]] rfl (by (try simp only [List.map_toArray, List.map_cons, List.map_nil]); first | done | rfl | (simp only [List.length_drop, List.length_take]; rfl)) ?_; (with_reducible refine (laws_toGas.calls k a0_0 a0_1 a0_2 _ _ l0_3 _ _ l0_4 t281 t282 t283 t284 t287 _ ?side1 ?side2 ?side3 ?side4 A10.out).mono ?_); (case side1 => exact Kd.C_below HR0_3.out (bk_ HB.out)); (case side2 => exact HC0_3.out); (case side3 => exact Kd.C_below HR0_4.out (bk_ HB.out)); (case side4 => exact HC0_4.out); rintro e w27 ⟨v285, v288, rfl, ho0, ho1, hb⟩; refine ⟨_, rfl, ?_⟩; have n0_ := Aside0.mk (Kd.R_elder' (by (with_reducible repeat (first | apply Kd.R_alloc | apply Kd.R_drewN | apply Kd.R_drew)); exact (Kd.R_mono (Kd.R_far (p := ⟨gb280, 4, none⟩) (Kd.R_far (p := ⟨gb280, 3, none⟩) (Kd.R_far (p := ⟨gb280, 2, none⟩) (Kd.R_far (p := ⟨gb280, 1, none⟩) (Kd.R_far (p := ⟨gb280, 0, none⟩) (Kd.R_types HO266.out BK280.out (by decide)) (fun _ hk => hk.2) (.int .i64 t270)) (fun _ hk => hk.2) (.int .i64 t271)) (fun _ hk => hk.2) (.int .i64 t272)) (fun _ hk => hk.2) (.slice Ao24 t273.length co24)) (fun _ hk => hk.2) (.slice Ao25 t276.length co25)) (fun _ h_ => h_.1))) (Kd.R_base ho0) hb); have n1_ := Aside0.mk (Kd.R_elder' (by (with_reducible repeat (first | apply Kd.R_alloc | apply Kd.R_drewN | apply Kd.R_drew)); exact (Kd.R_mono (Kd.R_far (p := ⟨gb280, 4, none⟩) (Kd.R_far (p := ⟨gb280, 3, none⟩) (Kd.R_far (p := ⟨gb280, 2, none⟩) (Kd.R_far (p := ⟨gb280, 1, none⟩) (Kd.R_far (p := ⟨gb280, 0, none⟩) (Kd.R_types HO269.out BK280.out (by decide)) (fun _ hk => hk.2) (.int .i64 t270)) (fun _ hk => hk.2) (.int .i64 t271)) (fun _ hk => hk.2) (.int .i64 t272)) (fun _ hk => hk.2) (.slice Ao24 t273.length co24)) (fun _ hk => hk.2) (.slice Ao25 t276.length co25)) (fun _ h_ => h_.1))) (Kd.R_base ho1) hb); have n2_ := Aside0.mk (Kd.R_elder' (by (with_reducible repeat (first | apply Kd.R_alloc | apply Kd.R_drewN | apply Kd.R_drew)); exact (Kd.R_mono (Kd.R_far (p := ⟨gb280, 4, none⟩) (Kd.R_far (p := ⟨gb280, 3, none⟩) (Kd.R_far (p := ⟨gb280, 2, none⟩) (Kd.R_far (p := ⟨gb280, 1, none⟩) (Kd.R_far (p := ⟨gb280, 0, none⟩) (Kd.R_types HO275.out BK280.out (by decide)) (fun _ hk => hk.2) (.int .i64 t270)) (fun _ hk => hk.2) (.int .i64 t271)) (fun _ hk => hk.2) (.int .i64 t272)) (fun _ hk => hk.2) (.slice Ao24 t273.length co24)) (fun _ hk => hk.2) (.slice Ao25 t276.length co25)) (fun _ h_ => h_.1))) (Kd.R_base ho0) hb); have n3_ := Aside0.mk (Kd.R_elder' (by (with_reducible repeat (first | apply Kd.R_alloc | apply Kd.R_drewN | apply Kd.R_drew)); exact (Kd.R_mono (Kd.R_far (p := ⟨gb280, 4, none⟩) (Kd.R_far (p := ⟨gb280, 3, none⟩) (Kd.R_far (p := ⟨gb280, 2, none⟩) (Kd.R_far (p := ⟨gb280, 1, none⟩) (Kd.R_far (p := ⟨gb280, 0, none⟩) (Kd.R_types HO278.out BK280.out (by decide)) (fun _ hk => hk.2) (.int .i64 t270)) (fun _ hk => hk.2) (.int .i64 t271)) (fun _ hk => hk.2) (.int .i64 t272)) (fun _ hk => hk.2) (.slice Ao24 t273.length co24)) (fun _ hk => hk.2) (.slice Ao25 t276.length co25)) (fun _ h_ => h_.1))) (Kd.R_base ho1) hb); have n4_ := Aside0.mk (Kd.R_lower (Kd.R_new' (Kd.R_new' ho0 (Kd.R_lt (by (with_reducible repeat (first | apply Kd.R_alloc | apply Kd.R_drewN | apply Kd.R_drew)); exact (Kd.R_mono (Kd.R_far (p := ⟨gb280, 4, none⟩) (Kd.R_far (p := ⟨gb280, 3, none⟩) (Kd.R_far (p := ⟨gb280, 2, none⟩) (Kd.R_far (p := ⟨gb280, 1, none⟩) (Kd.R_far (p := ⟨gb280, 0, none⟩) (Kd.R_types HO266.out BK280.out (by decide)) (fun _ hk => hk.2) (.int .i64 t270)) (fun _ hk => hk.2) (.int .i64 t271)) (fun _ hk => hk.2) (.int .i64 t272)) (fun _ hk => hk.2) (.slice Ao24 t273.length co24)) (fun _ hk => hk.2) (.slice Ao25 t276.length co25)) (fun _ h_ => h_.1))))) (Kd.R_lt (by (with_reducible repeat (first | apply Kd.R_alloc | apply Kd.R_drewN | apply Kd.R_drew)); exact (Kd.R_mono (Kd.R_far (p := ⟨gb280, 4, none⟩) (Kd.R_far (p := ⟨gb280, 3, none⟩) (Kd.R_far (p := ⟨gb280, 2, none⟩) (Kd.R_far (p := ⟨gb280, 1, none⟩) (Kd.R_far (p := ⟨gb280, 0, none⟩) (Kd.R_types HO275.out BK280.out (by decide)) (fun _ hk => hk.2) (.int .i64 t270)) (fun _ hk => hk.2) (.int .i64 t271)) (fun _ hk => hk.2) (.int .i64 t272)) (fun _ hk => hk.2) (.slice Ao24 t273.length co24)) (fun _ hk => hk.2) (.slice Ao25 t276.length co25)) (fun _ h_ => h_.1))))) (below_size (bk_ HB.out))); have n5_ := Aside0.mk (Kd.R_lower (Kd.R_new' (Kd.R_new' ho1 (Kd.R_lt (by (with_reducible repeat (first | apply Kd.R_alloc | apply Kd.R_drewN | apply Kd.R_drew)); exact (Kd.R_mono (Kd.R_far (p := ⟨gb280, 4, none⟩) (Kd.R_far (p := ⟨gb280, 3, none⟩) (Kd.R_far (p := ⟨gb280, 2, none⟩) (Kd.R_far (p := ⟨gb280, 1, none⟩) (Kd.R_far (p := ⟨gb280, 0, none⟩) (Kd.R_types HO269.out BK280.out (by decide)) (fun _ hk => hk.2) (.int .i64 t270)) (fun _ hk => hk.2) (.int .i64 t271)) (fun _ hk => hk.2) (.int .i64 t272)) (fun _ hk => hk.2) (.slice Ao24 t273.length co24)) (fun _ hk => hk.2) (.slice Ao25 t276.length co25)) (fun _ h_ => h_.1))))) (Kd.R_lt (by (with_reducible repeat (first | apply Kd.R_alloc | apply Kd.R_drewN | apply Kd.R_drew)); exact (Kd.R_mono (Kd.R_far (p := ⟨gb280, 4, none⟩) (Kd.R_far (p := ⟨gb280, 3, none⟩) (Kd.R_far (p := ⟨gb280, 2, none⟩) (Kd.R_far (p := ⟨gb280, 1, none⟩) (Kd.R_far (p := ⟨gb280, 0, none⟩) (Kd.R_types HO278.out BK280.out (by decide)) (fun _ hk => hk.2) (.int .i64 t270)) (fun _ hk => hk.2) (.int .i64 t271)) (fun _ hk => hk.2) (.int .i64 t272)) (fun _ hk => hk.2) (.slice Ao24 t273.length co24)) (fun _ hk => hk.2) (.slice Ao25 t276.length co25)) (fun _ h_ => h_.1))))) (below_size (bk_ HB.out))); have n6_ := Aside0.mk (blk_below (g := gb259) (o := .cells #[.int .i64 a0_0, .int .i64 a0_1, .int .i64 a0_2, .slice A0_3 l0_3.length c0_3, .slice A0_4 l0_4.length c0_4] 25 (0, 0)) (by (with_reducible repeat (first | refine blk_drewN ?_ _ | refine blk_drew ?_ | refine blk_alloc ?_ _)); refine blk_far ?_ NB259_280.out _; (with_reducible repeat (first | refine blk_drewN ?_ _ | refine blk_drew ?_ | refine blk_alloc ?_ _)); refine blk_far ?_ NB259_280.out _; (with_reducible repeat (first | refine blk_drewN ?_ _ | refine blk_drew ?_ | refine blk_alloc ?_ _)); refine blk_far ?_ NB259_280.out _; (with_reducible repeat (first | refine blk_drewN ?_ _ | refine blk_drew ?_ | refine blk_alloc ?_ _)); refine blk_far ?_ NB259_280.out _; (with_reducible repeat (first | refine blk_drewN ?_ _ | refine blk_drew ?_ | refine blk_alloc ?_ _)); refine blk_far ?_ NB259_280.out _; (with_reducible repeat (first | refine blk_drewN ?_ _ | refine blk_drew ?_ | refine blk_alloc ?_ _)); exact BK259.out) hb); have n7_ := Aside0.mk (blk_below (g := gb280) (o := .cells #[.int .i64 t270, .int .i64 t271, .int .i64 t272, .slice Ao24 t273.length co24, .slice Ao25 t276.length co25] 27 (0, 0)) (by (with_reducible repeat (first | refine blk_drewN ?_ _ | refine blk_drew ?_ | refine blk_alloc ?_ _)); refine blk_put (cs := #[.int .i64 t270, .int .i64 t271, .int .i64 t272, .slice Ao24 t273.length co24, .slice none 0 0]) ?_ 4 _ rfl; (with_reducible repeat (first | refine blk_drewN ?_ _ | refine blk_drew ?_ | refine blk_alloc ?_ _)); refine blk_put (cs := #[.int .i64 t270, .int .i64 t271, .int .i64 t272, .slice none 0 0, .slice none 0 0]) ?_ 3 _ rfl; (with_reducible repeat (first | refine blk_drewN ?_ _ | refine blk_drew ?_ | refine blk_alloc ?_ _)); refine blk_put (cs := #[.int .i64 t270, .int .i64 t271, .int .i64 0, .slice none 0 0, .slice none 0 0]) ?_ 2 _ rfl; (with_reducible repeat (first | refine blk_drewN ?_ _ | refine blk_drew ?_ | refine blk_alloc ?_ _)); refine blk_put (cs := #[.int .i64 t270, .int .i64 0, .int .i64 0, .slice none 0 0, .slice none 0 0]) ?_ 1 _ rfl; (with_reducible repeat (first | refine blk_drewN ?_ _ | refine blk_drew ?_ | refine blk_alloc ?_ _)); refine blk_put (cs := #[.int .i64 0, .int .i64 0, .int .i64 0, .slice none 0 0, .slice none 0 0]) ?_ 0 _ rfl; (with_reducible repeat (first | refine blk_drewN ?_ _ | refine blk_drew ?_ | refine blk_alloc ?_ _)); exact BK280.out) hb); have n8_ := Aside0.mk (below_step (bk_ HB.out) hb); clear HO266; clear HO269; clear HO275; clear HO278; clear BK259; clear BK280; clear HB; have HO266 := n0_; have HO269 := n1_; have HO275 := n2_; have HO278 := n3_; have HO286 := n4_; have HO289 := n5_; have BK259 := n6_; have BK280 := n7_; have HB := n8_; clear n0_ n1_ n2_ n3_ n4_ n5_ n6_ n7_ n8_; (try clear hb); (try clear hb2); (try clear hk); (try clear hi); (try clear ho0); (try clear ho1)) | ((with_reducible refine gate_dst (N := 8) rfl ?_); refine box_event ?hg (N := 8) ?hd (cs := #[.int .i64 0, .int .i64 0, .int .i64 0, .slice none 0 0, .slice none 0 0]) (t := 27) ?hr ?_; (case hd => rfl); (case hg => rfl); (case hr => first | (go_simp; done) | (go_simp; rfl)); intro gb290 hg w28 hbox hb; have n0_ := Aside0.mk (Kd.R_below (rk_ HO266.out) hb); have n1_ := Aside0.mk (Kd.R_below (rk_ HO269.out) hb); have n2_ := Aside0.mk (Kd.R_below (rk_ HO275.out) hb); have n3_ := Aside0.mk (Kd.R_below (rk_ HO278.out) hb); have n4_ := Aside0.mk (Kd.R_below (rk_ HO286.out) hb); have n5_ := Aside0.mk (Kd.R_below (rk_ HO289.out) hb); have n6_ := Aside0.mk (bb_ BK259.out hb); have n7_ := Aside0.mk (bb_ BK280.out hb); have n8_ := Aside0.mk (below_step (bk_ HB.out) hb); have n9_ := Aside0.mk (hbox); have n10_ := Aside0.mk ((by rw [hg]; exact (below_size (bk_ HB.out)) : w.heap.size ≤ gb290)); have n11_ := Aside0.mk ((by rw [hg]; exact (below_size (bk_ HB.out)) : w.heap.size ≤ gb290)); have n12_ := Aside0.mk ((by rw [hg]; exact Nat.ne_of_lt (bl_ BK259.out) : gb259 ≠ gb290)); have n13_ := Aside0.mk ((by rw [hg]; exact Nat.ne_of_gt (bl_ BK259.out) : gb290 ≠ gb259)); have n14_ := Aside0.mk ((by rw [hg]; exact Nat.ne_of_lt (bl_ BK280.out) : gb280 ≠ gb290)); have n15_ := Aside0.mk ((by rw [hg]; exact Nat.ne_of_gt (bl_ BK280.out) : gb290 ≠ gb280)); clear HO266; clear HO269; clear HO275; clear HO278; clear HO286; clear HO289; clear BK259; clear BK280; clear HB; have HO266 := n0_; have HO269 := n1_; have HO275 := n2_; have HO278 := n3_; have HO286 := n4_; have HO289 := n5_; have BK259 := n6_; have BK280 := n7_; have HB := n8_; have BK290 := n9_; have GW290 := n10_; have GE290 := n11_; have NB259_290 := n12_; have NB290_259 := n13_; have NB280_290 := n14_; have NB290_280 := n15_; clear n0_ n1_ n2_ n3_ n4_ n5_ n6_ n7_ n8_ n9_ n10_ n11_ n12_ n13_ n14_ n15_; clear hb hbox hg; have hnb29 := NB290_259.out; have hnc29 := NB259_290.out; have hnb30 := NB290_280.out; have hnc30 := NB280_290.out; have hcz31_0 := bc_ BK290.out 0 (.int .i64 0); have hcz31_1 := bc_ BK290.out 1 (.int .i64 0); have hcz31_2 := bc_ BK290.out 2 (.int .i64 0); have hcz31_3 := bc_ BK290.out 3 (.slice none 0 0); have hcz31_4 := bc_ BK290.out 4 (.slice none 0 0); have hfz31_0 := blk_frozen BK290.out 0; have hfz31_1 := blk_frozen BK290.out 1; have hfz31_2 := blk_frozen BK290.out 2; have hfz31_3 := blk_frozen BK290.out 3; have hfz31_4 := blk_frozen BK290.out 4; obtain ⟨Ao32, co32, eo32⟩ := Kd.R_slice HO286.out; subst eo32; obtain ⟨Ao33, co33, eo33⟩ := Kd.R_slice HO289.out; subst eo33) | ((with_reducible refine gate_callee (f := 21) rfl ?_); refine goesL_ (some 33) rfl rfl Try.func21 (by kernel_rfl) rfl #[.agg #[.int .i64 t281, .int .i64 t282, .int .i64 t283, .slice Ao32 t284.length co32, .slice Ao33 t287.length co33], .bool a1] rfl (by (try simp only [List.map_toArray, List.map_cons, List.map_nil]); first | done | rfl | (simp only [List.length_drop, List.length_take]; rfl)) ?_; (with_reducible refine (impl_CollideGas.calls k t281 t282 t283 _ _ t284 _ _ t287 a1 t291 t292 t293 t294 t297 t300 _ ?side1 ?side2 ?side3 ?side4 A11.out).mono ?_); (case side1 => refine (Kd.R_reads' (e := 2) (base := w.heap.size) (ok := fun k_ => ((True ∧ some k_ ≠ (.slice Ao18 t264.length co18 : Value).ownBlock) ∧ some k_ ≠ (.slice Ao24 t273.length co24 : Value).ownBlock)) (n := t284.length) (c := co32) ?_).2.2; exact (by (with_reducible repeat (first | apply Kd.R_alloc | apply Kd.R_drewN | apply Kd.R_drew)); exact (Kd.R_mono (Kd.R_far (p := ⟨gb290, 4, none⟩) (Kd.R_far (p := ⟨gb290, 3, none⟩) (Kd.R_far (p := ⟨gb290, 2, none⟩) (Kd.R_far (p := ⟨gb290, 1, none⟩) (Kd.R_far (p := ⟨gb290, 0, none⟩) (Kd.R_types HO286.out BK290.out (by decide)) (fun _ hk => hk.2) (.int .i64 t281)) (fun _ hk => hk.2) (.int .i64 t282)) (fun _ hk => hk.2) (.int .i64 t283)) (fun _ hk => hk.2) (.slice Ao32 t284.length co32)) (fun _ hk => hk.2) (.slice Ao33 t287.length co33)) (fun _ h_ => h_.1)))); (case side2 => exact (Kd.R_reads' HO286.out).2.1); (case side3 => refine (Kd.R_reads' (e := 4) (base := w.heap.size) (ok := fun k_ => ((True ∧ some k_ ≠ (.slice Ao19 t267.length co19 : Value).ownBlock) ∧ some k_ ≠ (.slice Ao25 t276.length co25 : Value).ownBlock)) (n := t287.length) (c := co33) ?_).2.2; exact (by (with_reducible repeat (first | apply Kd.R_alloc | apply Kd.R_drewN | apply Kd.R_drew)); exact (Kd.R_mono (Kd.R_far (p := ⟨gb290, 4, none⟩) (Kd.R_far (p := ⟨gb290, 3, none⟩) (Kd.R_far (p := ⟨gb290, 2, none⟩) (Kd.R_far (p := ⟨gb290, 1, none⟩) (Kd.R_far (p := ⟨gb290, 0, none⟩) (Kd.R_types HO289.out BK290.out (by decide)) (fun _ hk => hk.2) (.int .i64 t281)) (fun _ hk => hk.2) (.int .i64 t282)) (fun _ hk => hk.2) (.int .i64 t283)) (fun _ hk => hk.2) (.slice Ao32 t284.length co32)) (fun _ hk => hk.2) (.slice Ao33 t287.length co33)) (fun _ h_ => h_.1)))); (case side4 => exact (Kd.R_reads' HO289.out).2.1); rintro e w34 ⟨v295, v298, rfl, ho0, ho1, hb⟩; refine ⟨_, rfl, ?_⟩; have n0_ := Aside0.mk (Kd.R_elder' (by (with_reducible repeat (first | apply Kd.R_alloc | apply Kd.R_drewN | apply Kd.R_drew)); exact (Kd.R_mono (Kd.R_far (p := ⟨gb290, 4, none⟩) (Kd.R_far (p := ⟨gb290, 3, none⟩) (Kd.R_far (p := ⟨gb290, 2, none⟩) (Kd.R_far (p := ⟨gb290, 1, none⟩) (Kd.R_far (p := ⟨gb290, 0, none⟩) (Kd.R_types HO266.out BK290.out (by decide)) (fun _ hk => hk.2) (.int .i64 t281)) (fun _ hk => hk.2) (.int .i64 t282)) (fun _ hk => hk.2) (.int .i64 t283)) (fun _ hk => hk.2) (.slice Ao32 t284.length co32)) (fun _ hk => hk.2) (.slice Ao33 t287.length co33)) (fun _ h_ => h_.1))) (Kd.R_base ho0) hb); have n1_ := Aside0.mk (Kd.R_elder' (by (with_reducible repeat (first | apply Kd.R_alloc | apply Kd.R_drewN | apply Kd.R_drew)); exact (Kd.R_mono (Kd.R_far (p := ⟨gb290, 4, none⟩) (Kd.R_far (p := ⟨gb290, 3, none⟩) (Kd.R_far (p := ⟨gb290, 2, none⟩) (Kd.R_far (p := ⟨gb290, 1, none⟩) (Kd.R_far (p := ⟨gb290, 0, none⟩) (Kd.R_types HO269.out BK290.out (by decide)) (fun _ hk => hk.2) (.int .i64 t281)) (fun _ hk => hk.2) (.int .i64 t282)) (fun _ hk => hk.2) (.int .i64 t283)) (fun _ hk => hk.2) (.slice Ao32 t284.length co32)) (fun _ hk => hk.2) (.slice Ao33 t287.length co33)) (fun _ h_ => h_.1))) (Kd.R_base ho1) hb); have n2_ := Aside0.mk (Kd.R_elder' (by (with_reducible repeat (first | apply Kd.R_alloc | apply Kd.R_drewN | apply Kd.R_drew)); exact (Kd.R_mono (Kd.R_far (p := ⟨gb290, 4, none⟩) (Kd.R_far (p := ⟨gb290, 3, none⟩) (Kd.R_far (p := ⟨gb290, 2, none⟩) (Kd.R_far (p := ⟨gb290, 1, none⟩) (Kd.R_far (p := ⟨gb290, 0, none⟩) (Kd.R_types HO275.out BK290.out (by decide)) (fun _ hk => hk.2) (.int .i64 t281)) (fun _ hk => hk.2) (.int .i64 t282)) (fun _ hk => hk.2) (.int .i64 t283)) (fun _ hk => hk.2) (.slice Ao32 t284.length co32)) (fun _ hk => hk.2) (.slice Ao33 t287.length co33)) (fun _ h_ => h_.1))) (Kd.R_base ho0) hb); have n3_ := Aside0.mk (Kd.R_elder' (by (with_reducible repeat (first | apply Kd.R_alloc | apply Kd.R_drewN | apply Kd.R_drew)); exact (Kd.R_mono (Kd.R_far (p := ⟨gb290, 4, none⟩) (Kd.R_far (p := ⟨gb290, 3, none⟩) (Kd.R_far (p := ⟨gb290, 2, none⟩) (Kd.R_far (p := ⟨gb290, 1, none⟩) (Kd.R_far (p := ⟨gb290, 0, none⟩) (Kd.R_types HO278.out BK290.out (by decide)) (fun _ hk => hk.2) (.int .i64 t281)) (fun _ hk => hk.2) (.int .i64 t282)) (fun _ hk => hk.2) (.int .i64 t283)) (fun _ hk => hk.2) (.slice Ao32 t284.length co32)) (fun _ hk => hk.2) (.slice Ao33 t287.length co33)) (fun _ h_ => h_.1))) (Kd.R_base ho1) hb); have n4_ := Aside0.mk (Kd.R_elder' (by (with_reducible repeat (first | apply Kd.R_alloc | apply Kd.R_drewN | apply Kd.R_drew)); exact (Kd.R_mono (Kd.R_far (p := ⟨gb290, 4, none⟩) (Kd.R_far (p := ⟨gb290, 3, none⟩) (Kd.R_far (p := ⟨gb290, 2, none⟩) (Kd.R_far (p := ⟨gb290, 1, none⟩) (Kd.R_far (p := ⟨gb290, 0, none⟩) (Kd.R_types HO286.out BK290.out (by decide)) (fun _ hk => hk.2) (.int .i64 t281)) (fun _ hk => hk.2) (.int .i64 t282)) (fun _ hk => hk.2) (.int .i64 t283)) (fun _ hk => hk.2) (.slice Ao32 t284.length co32)) (fun _ hk => hk.2) (.slice Ao33 t287.length co33)) (fun _ h_ => h_.1))) (Kd.R_base ho0) hb); have n5_ := Aside0.mk (Kd.R_elder' (by (with_reducible repeat (first | apply Kd.R_alloc | apply Kd.R_drewN | apply Kd.R_drew)); exact (Kd.R_mono (Kd.R_far (p := ⟨gb290, 4, none⟩) (Kd.R_far (p := ⟨gb290, 3, none⟩) (Kd.R_far (p := ⟨gb290, 2, none⟩) (Kd.R_far (p := ⟨gb290, 1, none⟩) (Kd.R_far (p := ⟨gb290, 0, none⟩) (Kd.R_types HO289.out BK290.out (by decide)) (fun _ hk => hk.2) (.int .i64 t281)) (fun _ hk => hk.2) (.int .i64 t282)) (fun _ hk => hk.2) (.int .i64 t283)) (fun _ hk => hk.2) (.slice Ao32 t284.length co32)) (fun _ hk => hk.2) (.slice Ao33 t287.length co33)) (fun _ h_ => h_.1))) (Kd.R_base ho1) hb); have n6_ := Aside0.mk (Kd.R_lower (Kd.R_new' (Kd.R_new' (Kd.R_new' ho0 (Kd.R_lt (by (with_reducible repeat (first | apply Kd.R_alloc | apply Kd.R_drewN | apply Kd.R_drew)); exact (Kd.R_mono (Kd.R_far (p := ⟨gb290, 4, none⟩) (Kd.R_far (p := ⟨gb290, 3, none⟩) (Kd.R_far (p := ⟨gb290, 2, none⟩) (Kd.R_far (p := ⟨gb290, 1, none⟩) (Kd.R_far (p := ⟨gb290, 0, none⟩) (Kd.R_types HO266.out BK290.out (by decide)) (fun _ hk => hk.2) (.int .i64 t281)) (fun _ hk => hk.2) (.int .i64 t282)) (fun _ hk => hk.2) (.int .i64 t283)) (fun _ hk => hk.2) (.slice Ao32 t284.length co32)) (fun _ hk => hk.2) (.slice Ao33 t287.length co33)) (fun _ h_ => h_.1))))) (Kd.R_lt (by (with_reducible repeat (first | apply Kd.R_alloc | apply Kd.R_drewN | apply Kd.R_drew)); exact (Kd.R_mono (Kd.R_far (p := ⟨gb290, 4, none⟩) (Kd.R_far (p := ⟨gb290, 3, none⟩) (Kd.R_far (p := ⟨gb290, 2, none⟩) (Kd.R_far (p := ⟨gb290, 1, none⟩) (Kd.R_far (p := ⟨gb290, 0, none⟩) (Kd.R_types HO275.out BK290.out (by decide)) (fun _ hk => hk.2) (.int .i64 t281)) (fun _ hk => hk.2) (.int .i64 t282)) (fun _ hk => hk.2) (.int .i64 t283)) (fun _ hk => hk.2) (.slice Ao32 t284.length co32)) (fun _ hk => hk.2) (.slice Ao33 t287.length co33)) (fun _ h_ => h_.1))))) (Kd.R_lt (by (with_reducible repeat (first | apply Kd.R_alloc | apply Kd.R_drewN | apply Kd.R_drew)); exact (Kd.R_mono (Kd.R_far (p := ⟨gb290, 4, none⟩) (Kd.R_far (p := ⟨gb290, 3, none⟩) (Kd.R_far (p := ⟨gb290, 2, none⟩) (Kd.R_far (p := ⟨gb290, 1, none⟩) (Kd.R_far (p := ⟨gb290, 0, none⟩) (Kd.R_types HO286.out BK290.out (by decide)) (fun _ hk => hk.2) (.int .i64 t281)) (fun _ hk => hk.2) (.int .i64 t282)) (fun _ hk => hk.2) (.int .i64 t283)) (fun _ hk => hk.2) (.slice Ao32 t284.length co32)) (fun _ hk => hk.2) (.slice Ao33 t287.length co33)) (fun _ h_ => h_.1))))) (below_size (bk_ HB.out))); have n7_ := Aside0.mk (Kd.R_lower (Kd.R_new' (Kd.R_new' (Kd.R_new' ho1 (Kd.R_lt (by (with_reducible repeat (first | apply Kd.R_alloc | apply Kd.R_drewN | apply Kd.R_drew)); exact (Kd.R_mono (Kd.R_far (p := ⟨gb290, 4, none⟩) (Kd.R_far (p := ⟨gb290, 3, none⟩) (Kd.R_far (p := ⟨gb290, 2, none⟩) (Kd.R_far (p := ⟨gb290, 1, none⟩) (Kd.R_far (p := ⟨gb290, 0, none⟩) (Kd.R_types HO269.out BK290.out (by decide)) (fun _ hk => hk.2) (.int .i64 t281)) (fun _ hk => hk.2) (.int .i64 t282)) (fun _ hk => hk.2) (.int .i64 t283)) (fun _ hk => hk.2) (.slice Ao32 t284.length co32)) (fun _ hk => hk.2) (.slice Ao33 t287.length co33)) (fun _ h_ => h_.1))))) (Kd.R_lt (by (with_reducible repeat (first | apply Kd.R_alloc | apply Kd.R_drewN | apply Kd.R_drew)); exact (Kd.R_mono (Kd.R_far (p := ⟨gb290, 4, none⟩) (Kd.R_far (p := ⟨gb290, 3, none⟩) (Kd.R_far (p := ⟨gb290, 2, none⟩) (Kd.R_far (p := ⟨gb290, 1, none⟩) (Kd.R_far (p := ⟨gb290, 0, none⟩) (Kd.R_types HO278.out BK290.out (by decide)) (fun _ hk => hk.2) (.int .i64 t281)) (fun _ hk => hk.2) (.int .i64 t282)) (fun _ hk => hk.2) (.int .i64 t283)) (fun _ hk => hk.2) (.slice Ao32 t284.length co32)) (fun _ hk => hk.2) (.slice Ao33 t287.length co33)) (fun _ h_ => h_.1))))) (Kd.R_lt (by (with_reducible repeat (first | apply Kd.R_alloc | apply Kd.R_drewN | apply Kd.R_drew)); exact (Kd.R_mono (Kd.R_far (p := ⟨gb290, 4, none⟩) (Kd.R_far (p := ⟨gb290, 3, none⟩) (Kd.R_far (p := ⟨gb290, 2, none⟩) (Kd.R_far (p := ⟨gb290, 1, none⟩) (Kd.R_far (p := ⟨gb290, 0, none⟩) (Kd.R_types HO289.out BK290.out (by decide)) (fun _ hk => hk.2) (.int .i64 t281)) (fun _ hk => hk.2) (.int .i64 t282)) (fun _ hk => hk.2) (.int .i64 t283)) (fun _ hk => hk.2) (.slice Ao32 t284.length co32)) (fun _ hk => hk.2) (.slice Ao33 t287.length co33)) (fun _ h_ => h_.1))))) (below_size (bk_ HB.out))); have n8_ := Aside0.mk (blk_below (g := gb259) (o := .cells #[.int .i64 a0_0, .int .i64 a0_1, .int .i64 a0_2, .slice A0_3 l0_3.length c0_3, .slice A0_4 l0_4.length c0_4] 25 (0, 0)) (by (with_reducible repeat (first | refine blk_drewN ?_ _ | refine blk_drew ?_ | refine blk_alloc ?_ _)); refine blk_far ?_ NB259_290.out _; (with_reducible repeat (first | refine blk_drewN ?_ _ | refine blk_drew ?_ | refine blk_alloc ?_ _)); refine blk_far ?_ NB259_290.out _; (with_reducible repeat (first | refine blk_drewN ?_ _ | refine blk_drew ?_ | refine blk_alloc ?_ _)); refine blk_far ?_ NB259_290.out _; (with_reducible repeat (first | refine blk_drewN ?_ _ | refine blk_drew ?_ | refine blk_alloc ?_ _)); refine blk_far ?_ NB259_290.out _; (with_reducible repeat (first | refine blk_drewN ?_ _ | refine blk_drew ?_ | refine blk_alloc ?_ _)); refine blk_far ?_ NB259_290.out _; (with_reducible repeat (first | refine blk_drewN ?_ _ | refine blk_drew ?_ | refine blk_alloc ?_ _)); exact BK259.out) hb); have n9_ := Aside0.mk (blk_below (g := gb280) (o := .cells #[.int .i64 t270, .int .i64 t271, .int .i64 t272, .slice Ao24 t273.length co24, .slice Ao25 t276.length co25] 27 (0, 0)) (by (with_reducible repeat (first | refine blk_drewN ?_ _ | refine blk_drew ?_ | refine blk_alloc ?_ _)); refine blk_far ?_ NB280_290.out _; (with_reducible repeat (first | refine blk_drewN ?_ _ | refine blk_drew ?_ | refine blk_alloc ?_ _)); refine blk_far ?_ NB280_290.out _; (with_reducible repeat (first | refine blk_drewN ?_ _ | refine blk_drew ?_ | refine blk_alloc ?_ _)); refine blk_far ?_ NB280_290.out _; (with_reducible repeat (first | refine blk_drewN ?_ _ | refine blk_drew ?_ | refine blk_alloc ?_ _)); refine blk_far ?_ NB280_290.out _; (with_reducible repeat (first | refine blk_drewN ?_ _ | refine blk_drew ?_ | refine blk_alloc ?_ _)); refine blk_far ?_ NB280_290.out _; (with_reducible repeat (first | refine blk_drewN ?_ _ | refine blk_drew ?_ | refine blk_alloc ?_ _)); exact BK280.out) hb); have n10_ := Aside0.mk (blk_below (g := gb290) (o := .cells #[.int .i64 t281, .int .i64 t282, .int .i64 t283, .slice Ao32 t284.length co32, .slice Ao33 t287.length co33] 27 (0, 0)) (by (with_reducible repeat (first | refine blk_drewN ?_ _ | refine blk_drew ?_ | refine blk_alloc ?_ _)); refine blk_put (cs := #[.int .i64 t281, .int .i64 t282, .int .i64 t283, .slice Ao32 t284.length co32, .slice none 0 0]) ?_ 4 _ rfl; (with_reducible repeat (first | refine blk_drewN ?_ _ | refine blk_drew ?_ | refine blk_alloc ?_ _)); refine blk_put (cs := #[.int .i64 t281, .int .i64 t282, .int .i64 t283, .slice none 0 0, .slice none 0 0]) ?_ 3 _ rfl; (with_reducible repeat (first | refine blk_drewN ?_ _ | refine blk_drew ?_ | refine blk_alloc ?_ _)); refine blk_put (cs := #[.int .i64 t281, .int .i64 t282, .int .i64 0, .slice none 0 0, .slice none 0 0]) ?_ 2 _ rfl; (with_reducible repeat (first | refine blk_drewN ?_ _ | refine blk_drew ?_ | refine blk_alloc ?_ _)); refine blk_put (cs := #[.int .i64 t281, .int .i64 0, .int .i64 0, .slice none 0 0, .slice none 0 0]) ?_ 1 _ rfl; (with_reducible repeat (first | refine blk_drewN ?_ _ | refine blk_drew ?_ | refine blk_alloc ?_ _)); refine blk_put (cs := #[.int .i64 0, .int .i64 0, .int .i64 0, .slice none 0 0, .slice none 0 0]) ?_ 0 _ rfl; (with_reducible repeat (first | refine blk_drewN ?_ _ | refine blk_drew ?_ | refine blk_alloc ?_ _)); exact BK290.out) hb); have n11_ := Aside0.mk (below_step (bk_ HB.out) hb); clear HO266; clear HO269; clear HO275; clear HO278; clear HO286; clear HO289; clear BK259; clear BK280; clear BK290; clear HB; have HO266 := n0_; have HO269 := n1_; have HO275 := n2_; have HO278 := n3_; have HO286 := n4_; have HO289 := n5_; have HO296 := n6_; have HO299 := n7_; have BK259 := n8_; have BK280 := n9_; have BK290 := n10_; have HB := n11_; clear n0_ n1_ n2_ n3_ n4_ n5_ n6_ n7_ n8_ n9_ n10_ n11_; (try clear hb); (try clear hb2); (try clear hk); (try clear hi); (try clear ho0); (try clear ho1)) | ((with_reducible refine gate_dst (N := 9) rfl ?_); refine box_event ?hg (N := 9) ?hd (cs := #[.int .i64 0, .int .i64 0, .int .i64 0, .slice none 0 0, .slice none 0 0]) (t := 27) ?hr ?_; (case hd => rfl); (case hg => rfl); (case hr => first | (go_simp; done) | (go_simp; rfl)); intro gb301 hg w35 hbox hb; have n0_ := Aside0.mk (Kd.R_below (rk_ HO266.out) hb); have n1_ := Aside0.mk (Kd.R_below (rk_ HO269.out) hb); have n2_ := Aside0.mk (Kd.R_below (rk_ HO275.out) hb); have n3_ := Aside0.mk (Kd.R_below (rk_ HO278.out) hb); have n4_ := Aside0.mk (Kd.R_below (rk_ HO286.out) hb); have n5_ := Aside0.mk (Kd.R_below (rk_ HO289.out) hb); have n6_ := Aside0.mk (Kd.R_below (rk_ HO296.out) hb); have n7_ := Aside0.mk (Kd.R_below (rk_ HO299.out) hb); have n8_ := Aside0.mk (bb_ BK259.out hb); have n9_ := Aside0.mk (bb_ BK280.out hb); have n10_ := Aside0.mk (bb_ BK290.out hb); have n11_ := Aside0.mk (below_step (bk_ HB.out) hb); have n12_ := Aside0.mk (hbox); have n13_ := Aside0.mk ((by rw [hg]; exact (below_size (bk_ HB.out)) : w.heap.size ≤ gb301)); have n14_ := Aside0.mk ((by rw [hg]; exact (below_size (bk_ HB.out)) : w.heap.size ≤ gb301)); have n15_ := Aside0.mk ((by rw [hg]; exact Nat.ne_of_lt (bl_ BK259.out) : gb259 ≠ gb301)); have n16_ := Aside0.mk ((by rw [hg]; exact Nat.ne_of_gt (bl_ BK259.out) : gb301 ≠ gb259)); have n17_ := Aside0.mk ((by rw [hg]; exact Nat.ne_of_lt (bl_ BK280.out) : gb280 ≠ gb301)); have n18_ := Aside0.mk ((by rw [hg]; exact Nat.ne_of_gt (bl_ BK280.out) : gb301 ≠ gb280)); have n19_ := Aside0.mk ((by rw [hg]; exact Nat.ne_of_lt (bl_ BK290.out) : gb290 ≠ gb301)); have n20_ := Aside0.mk ((by rw [hg]; exact Nat.ne_of_gt (bl_ BK290.out) : gb301 ≠ gb290)); clear HO266; clear HO269; clear HO275; clear HO278; clear HO286; clear HO289; clear HO296; clear HO299; clear BK259; clear BK280; clear BK290; clear HB; have HO266 := n0_; have HO269 := n1_; have HO275 := n2_; have HO278 := n3_; have HO286 := n4_; have HO289 := n5_; have HO296 := n6_; have HO299 := n7_; have BK259 := n8_; have BK280 := n9_; have BK290 := n10_; have HB := n11_; have BK301 := n12_; have GW301 := n13_; have GE301 := n14_; have NB259_301 := n15_; have NB301_259 := n16_; have NB280_301 := n17_; have NB301_280 := n18_; have NB290_301 := n19_; have NB301_290 := n20_; clear n0_ n1_ n2_ n3_ n4_ n5_ n6_ n7_ n8_ n9_ n10_ n11_ n12_ n13_ n14_ n15_ n16_ n17_ n18_ n19_ n20_; clear hb hbox hg; have hnb36 := NB301_259.out; have hnc36 := NB259_301.out; have hnb37 := NB301_280.out; have hnc37 := NB280_301.out; have hnb38 := NB301_290.out; have hnc38 := NB290_301.out; have hcz39_0 := bc_ BK301.out 0 (.int .i64 0); have hcz39_1 := bc_ BK301.out 1 (.int .i64 0); have hcz39_2 := bc_ BK301.out 2 (.int .i64 0); have hcz39_3 := bc_ BK301.out 3 (.slice none 0 0); have hcz39_4 := bc_ BK301.out 4 (.slice none 0 0); have hfz39_0 := blk_frozen BK301.out 0; have hfz39_1 := blk_frozen BK301.out 1; have hfz39_2 := blk_frozen BK301.out 2; have hfz39_3 := blk_frozen BK301.out 3; have hfz39_4 := blk_frozen BK301.out 4; obtain ⟨Ao40, co40, eo40⟩ := Kd.R_slice HO296.out; subst eo40; obtain ⟨Ao41, co41, eo41⟩ := Kd.R_slice HO299.out; subst eo41))
    (try simp only [Act.put, List.setIfInBounds_toArray, List.set_cons_zero, List.set_cons_succ])
    go_cut [44] (fun v44 wc => ∃ (kq : Nat) (x44_11 : Bool), v44 = .bool x44_11 ∧ Aside0 (laws_FnExactCollideGas.j0 kq a1 t279 t300 x44_11 a0_0 a0_1 a0_2 l0_3 l0_4 t270 t271 t272 t273 t276 t281 t282 t283 t284 t287 t291 t292 t293 t294 t297 = some r) ∧ Aside0 (kq ≤ k) ∧ Aside0 (Kd.R (Kd.int .i64) 2 wc w.heap.size (fun k_ => some k_ ≠ ((.slice Ao32 t284.length co32) : Value).ownBlock ∧ some k_ ≠ ((.slice Ao40 t294.length co40) : Value).ownBlock) (.slice Ao24 t273.length co24) t273) ∧ Aside0 (Kd.R Kd.bool 4 wc w.heap.size (fun k_ => some k_ ≠ ((.slice Ao33 t287.length co33) : Value).ownBlock ∧ some k_ ≠ ((.slice Ao41 t297.length co41) : Value).ownBlock) (.slice Ao25 t276.length co25) t276) ∧ Aside0 (Kd.R (Kd.int .i64) 2 wc w.heap.size (fun k_ => some k_ ≠ ((.slice Ao24 t273.length co24) : Value).ownBlock ∧ some k_ ≠ ((.slice Ao40 t294.length co40) : Value).ownBlock) (.slice Ao32 t284.length co32) t284) ∧ Aside0 (Kd.R Kd.bool 4 wc w.heap.size (fun k_ => some k_ ≠ ((.slice Ao25 t276.length co25) : Value).ownBlock ∧ some k_ ≠ ((.slice Ao41 t297.length co41) : Value).ownBlock) (.slice Ao33 t287.length co33) t287) ∧ Aside0 (Kd.R (Kd.int .i64) 2 wc w.heap.size (fun k_ => some k_ ≠ ((.slice Ao24 t273.length co24) : Value).ownBlock ∧ some k_ ≠ ((.slice Ao32 t284.length co32) : Value).ownBlock) (.slice Ao40 t294.length co40) t294) ∧ Aside0 (Kd.R Kd.bool 4 wc w.heap.size (fun k_ => some k_ ≠ ((.slice Ao25 t276.length co25) : Value).ownBlock ∧ some k_ ≠ ((.slice Ao33 t287.length co33) : Value).ownBlock) (.slice Ao41 t297.length co41) t297) ∧ Aside0 (wc.heap[gb259]? = some (.cells #[.int .i64 a0_0, .int .i64 a0_1, .int .i64 a0_2, (.slice A0_3 l0_3.length c0_3), (.slice A0_4 l0_4.length c0_4)] 25 (0, 0))) ∧ Aside0 (wc.heap[gb280]? = some (.cells #[.int .i64 t270, .int .i64 t271, .int .i64 t272, (.slice Ao24 t273.length co24), (.slice Ao25 t276.length co25)] 27 (0, 0))) ∧ Aside0 (wc.heap[gb290]? = some (.cells #[.int .i64 t281, .int .i64 t282, .int .i64 t283, (.slice Ao32 t284.length co32), (.slice Ao33 t287.length co33)] 27 (0, 0))) ∧ Aside0 (wc.heap[gb301]? = some (.cells #[.int .i64 t291, .int .i64 t292, .int .i64 t293, (.slice Ao40 t294.length co40), (.slice Ao41 t297.length co41)] 27 (0, 0))) ∧ Aside0 (Below w.heap.size w wc))
    case first =>
      have H := HC12.out
      clear HC12
      replace H := Option.bind_eq_some_iff.mp H
      obtain ⟨t302, A420, H⟩ := H
      replace H : (if t302 = true then (laws_FnExactCollideGas.j0 k a1 t279 t300 (t300 != t279) a0_0 a0_1 a0_2 l0_3 l0_4 t270 t271 t272 t273 t276 t281 t282 t283 t284 t287 t291 t292 t293 t294 t297) else (laws_FnExactCollideGas.j0 k a1 t279 t300 true a0_0 a0_1 a0_2 l0_3 l0_4 t270 t271 t272 t273 t276 t281 t282 t283 t284 t287 t291 t292 t293 t294 t297)) = some r := H
      have A42 := Aside0.mk A420
      clear A420
      by_cases c43 : t302 = true
      · subst c43
        have H1 : (laws_FnExactCollideGas.j0 k a1 t279 t300 (t300 != t279) a0_0 a0_1 a0_2 l0_3 l0_4 t270 t271 t272 t273 t276 t281 t282 t283 t284 t287 t291 t292 t293 t294 t297) = some r := by rw [if_pos rfl] at H; exact H
        clear H
        have H := H1
        clear H1
        have H' := Aside0.mk H
        clear H
        have hnb44 := NB301_259.out
        have hnc44 := NB259_301.out
        have hnb45 := NB301_280.out
        have hnc45 := NB280_301.out
        have hnb46 := NB301_290.out
        have hnc46 := NB290_301.out
        have hcz47_0 := bc_ BK301.out 0 (.int .i64 0)
        have hcz47_1 := bc_ BK301.out 1 (.int .i64 0)
        have hcz47_2 := bc_ BK301.out 2 (.int .i64 0)
        have hcz47_3 := bc_ BK301.out 3 (.slice none 0 0)
        have hcz47_4 := bc_ BK301.out 4 (.slice none 0 0)
        have hfz47_0 := blk_frozen BK301.out 0
        have hfz47_1 := blk_frozen BK301.out 1
        have hfz47_2 := blk_frozen BK301.out 2
        have hfz47_3 := blk_frozen BK301.out 3
        have hfz47_4 := blk_frozen BK301.out 4
        have hnb48 := NB280_259.out
        have hnc48 := NB259_280.out
        have hnb49 := NB280_290.out
        have hnc49 := NB290_280.out
        have hcz50_0 := bc_ BK280.out 0 (.int .i64 t270)
        have hcz50_1 := bc_ BK280.out 1 (.int .i64 t271)
        have hcz50_2 := bc_ BK280.out 2 (.int .i64 t272)
        have hcz50_3 := bc_ BK280.out 3 (.slice Ao24 t273.length co24)
        have hcz50_4 := bc_ BK280.out 4 (.slice Ao25 t276.length co25)
        have hfz50_0 := blk_frozen BK280.out 0
        have hfz50_1 := blk_frozen BK280.out 1
        have hfz50_2 := blk_frozen BK280.out 2
        have hfz50_3 := blk_frozen BK280.out 3
        have hfz50_4 := blk_frozen BK280.out 4
        go_wp2_with (first | ((with_reducible refine gate_callee (f := 17) rfl ?_); refine goesL_ (some 38) rfl rfl Try.func17 (by kernel_rfl) rfl #[.agg #[.int .i64 t291, .int .i64 t292, .int .i64 t293, .slice Ao40 t294.length co40, .slice Ao41 t297.length co41], .agg #[.int .i64 t270, .int .i64 t271, .int .i64 t272, .slice Ao24 t273.length co24, .slice Ao25 t276.length co25]] rfl (by (try simp only [List.map_toArray, List.map_cons, List.map_nil]); first | done | rfl | (simp only [List.length_drop, List.length_take]; rfl)) ?_; (with_reducible refine (laws_eqGas.calls k t291 t292 t293 _ _ t294 _ _ t297 t270 t271 t272 _ _ t273 _ _ t276 true _ ?side1 ?side2 ?side3 ?side4 ?side5 ?side6 ?side7 ?side8 A42.out).mono ?_); (case side1 => refine (Kd.R_reads' (e := 2) (base := w.heap.size) (ok := fun k_ => (((True ∧ some k_ ≠ (.slice Ao18 t264.length co18 : Value).ownBlock) ∧ some k_ ≠ (.slice Ao24 t273.length co24 : Value).ownBlock) ∧ some k_ ≠ (.slice Ao32 t284.length co32 : Value).ownBlock)) (n := t294.length) (c := co40) ?_).2.2; exact (by (with_reducible repeat (first | apply Kd.R_alloc | apply Kd.R_drewN | apply Kd.R_drew)); exact (Kd.R_mono (Kd.R_far (p := ⟨gb301, 4, none⟩) (Kd.R_far (p := ⟨gb301, 3, none⟩) (Kd.R_far (p := ⟨gb301, 2, none⟩) (Kd.R_far (p := ⟨gb301, 1, none⟩) (Kd.R_far (p := ⟨gb301, 0, none⟩) (Kd.R_types HO296.out BK301.out (by decide)) (fun _ hk => hk.2) (.int .i64 t291)) (fun _ hk => hk.2) (.int .i64 t292)) (fun _ hk => hk.2) (.int .i64 t293)) (fun _ hk => hk.2) (.slice Ao40 t294.length co40)) (fun _ hk => hk.2) (.slice Ao41 t297.length co41)) (fun _ h_ => h_.1)))); (case side2 => exact (Kd.R_reads' HO296.out).2.1); (case side3 => refine (Kd.R_reads' (e := 4) (base := w.heap.size) (ok := fun k_ => (((True ∧ some k_ ≠ (.slice Ao19 t267.length co19 : Value).ownBlock) ∧ some k_ ≠ (.slice Ao25 t276.length co25 : Value).ownBlock) ∧ some k_ ≠ (.slice Ao33 t287.length co33 : Value).ownBlock)) (n := t297.length) (c := co41) ?_).2.2; exact (by (with_reducible repeat (first | apply Kd.R_alloc | apply Kd.R_drewN | apply Kd.R_drew)); exact (Kd.R_mono (Kd.R_far (p := ⟨gb301, 4, none⟩) (Kd.R_far (p := ⟨gb301, 3, none⟩) (Kd.R_far (p := ⟨gb301, 2, none⟩) (Kd.R_far (p := ⟨gb301, 1, none⟩) (Kd.R_far (p := ⟨gb301, 0, none⟩) (Kd.R_types HO299.out BK301.out (by decide)) (fun _ hk => hk.2) (.int .i64 t291)) (fun _ hk => hk.2) (.int .i64 t292)) (fun _ hk => hk.2) (.int .i64 t293)) (fun _ hk => hk.2) (.slice Ao40 t294.length co40)) (fun _ hk => hk.2) (.slice Ao41 t297.length co41)) (fun _ h_ => h_.1)))); (case side4 => exact (Kd.R_reads' HO299.out).2.1); (case side5 => refine (Kd.R_reads' (e := 2) (base := w.heap.size) (ok := fun k_ => (((True ∧ some k_ ≠ (.slice Ao18 t264.length co18 : Value).ownBlock) ∧ some k_ ≠ (.slice Ao32 t284.length co32 : Value).ownBlock) ∧ some k_ ≠ (.slice Ao40 t294.length co40 : Value).ownBlock)) (n := t273.length) (c := co24) ?_).2.2; exact (by (with_reducible repeat (first | apply Kd.R_alloc | apply Kd.R_drewN | apply Kd.R_drew)); exact (Kd.R_mono (Kd.R_far (p := ⟨gb301, 4, none⟩) (Kd.R_far (p := ⟨gb301, 3, none⟩) (Kd.R_far (p := ⟨gb301, 2, none⟩) (Kd.R_far (p := ⟨gb301, 1, none⟩) (Kd.R_far (p := ⟨gb301, 0, none⟩) (Kd.R_types HO275.out BK301.out (by decide)) (fun _ hk => hk.2) (.int .i64 t291)) (fun _ hk => hk.2) (.int .i64 t292)) (fun _ hk => hk.2) (.int .i64 t293)) (fun _ hk => hk.2) (.slice Ao40 t294.length co40)) (fun _ hk => hk.2) (.slice Ao41 t297.length co41)) (fun _ h_ => h_.1)))); (case side6 => exact (Kd.R_reads' HO275.out).2.1); (case side7 => refine (Kd.R_reads' (e := 4) (base := w.heap.size) (ok := fun k_ => (((True ∧ some k_ ≠ (.slice Ao19 t267.length co19 : Value).ownBlock) ∧ some k_ ≠ (.slice Ao33 t287.length co33 : Value).ownBlock) ∧ some k_ ≠ (.slice Ao41 t297.length co41 : Value).ownBlock)) (n := t276.length) (c := co25) ?_).2.2; exact (by (with_reducible repeat (first | apply Kd.R_alloc | apply Kd.R_drewN | apply Kd.R_drew)); exact (Kd.R_mono (Kd.R_far (p := ⟨gb301, 4, none⟩) (Kd.R_far (p := ⟨gb301, 3, none⟩) (Kd.R_far (p := ⟨gb301, 2, none⟩) (Kd.R_far (p := ⟨gb301, 1, none⟩) (Kd.R_far (p := ⟨gb301, 0, none⟩) (Kd.R_types HO278.out BK301.out (by decide)) (fun _ hk => hk.2) (.int .i64 t291)) (fun _ hk => hk.2) (.int .i64 t292)) (fun _ hk => hk.2) (.int .i64 t293)) (fun _ hk => hk.2) (.slice Ao40 t294.length co40)) (fun _ hk => hk.2) (.slice Ao41 t297.length co41)) (fun _ h_ => h_.1)))); (case side8 => exact (Kd.R_reads' HO278.out).2.1); rintro e w51 ⟨rfl, hb⟩; refine ⟨_, rfl, ?_⟩; have n0_ := Aside0.mk (Kd.R_below (by (with_reducible repeat (first | apply Kd.R_alloc | apply Kd.R_drewN | apply Kd.R_drew)); exact (Kd.R_mono (Kd.R_far (p := ⟨gb301, 4, none⟩) (Kd.R_far (p := ⟨gb301, 3, none⟩) (Kd.R_far (p := ⟨gb301, 2, none⟩) (Kd.R_far (p := ⟨gb301, 1, none⟩) (Kd.R_far (p := ⟨gb301, 0, none⟩) (Kd.R_types HO266.out BK301.out (by decide)) (fun _ hk => hk.2) (.int .i64 t291)) (fun _ hk => hk.2) (.int .i64 t292)) (fun _ hk => hk.2) (.int .i64 t293)) (fun _ hk => hk.2) (.slice Ao40 t294.length co40)) (fun _ hk => hk.2) (.slice Ao41 t297.length co41)) (fun _ h_ => h_.1))) hb); have n1_ := Aside0.mk (Kd.R_below (by (with_reducible repeat (first | apply Kd.R_alloc | apply Kd.R_drewN | apply Kd.R_drew)); exact (Kd.R_mono (Kd.R_far (p := ⟨gb301, 4, none⟩) (Kd.R_far (p := ⟨gb301, 3, none⟩) (Kd.R_far (p := ⟨gb301, 2, none⟩) (Kd.R_far (p := ⟨gb301, 1, none⟩) (Kd.R_far (p := ⟨gb301, 0, none⟩) (Kd.R_types HO269.out BK301.out (by decide)) (fun _ hk => hk.2) (.int .i64 t291)) (fun _ hk => hk.2) (.int .i64 t292)) (fun _ hk => hk.2) (.int .i64 t293)) (fun _ hk => hk.2) (.slice Ao40 t294.length co40)) (fun _ hk => hk.2) (.slice Ao41 t297.length co41)) (fun _ h_ => h_.1))) hb); have n2_ := Aside0.mk (Kd.R_below (by (with_reducible repeat (first | apply Kd.R_alloc | apply Kd.R_drewN | apply Kd.R_drew)); exact (Kd.R_mono (Kd.R_far (p := ⟨gb301, 4, none⟩) (Kd.R_far (p := ⟨gb301, 3, none⟩) (Kd.R_far (p := ⟨gb301, 2, none⟩) (Kd.R_far (p := ⟨gb301, 1, none⟩) (Kd.R_far (p := ⟨gb301, 0, none⟩) (Kd.R_types HO275.out BK301.out (by decide)) (fun _ hk => hk.2) (.int .i64 t291)) (fun _ hk => hk.2) (.int .i64 t292)) (fun _ hk => hk.2) (.int .i64 t293)) (fun _ hk => hk.2) (.slice Ao40 t294.length co40)) (fun _ hk => hk.2) (.slice Ao41 t297.length co41)) (fun _ h_ => h_.1))) hb); have n3_ := Aside0.mk (Kd.R_below (by (with_reducible repeat (first | apply Kd.R_alloc | apply Kd.R_drewN | apply Kd.R_drew)); exact (Kd.R_mono (Kd.R_far (p := ⟨gb301, 4, none⟩) (Kd.R_far (p := ⟨gb301, 3, none⟩) (Kd.R_far (p := ⟨gb301, 2, none⟩) (Kd.R_far (p := ⟨gb301, 1, none⟩) (Kd.R_far (p := ⟨gb301, 0, none⟩) (Kd.R_types HO278.out BK301.out (by decide)) (fun _ hk => hk.2) (.int .i64 t291)) (fun _ hk => hk.2) (.int .i64 t292)) (fun _ hk => hk.2) (.int .i64 t293)) (fun _ hk => hk.2) (.slice Ao40 t294.length co40)) (fun _ hk => hk.2) (.slice Ao41 t297.length co41)) (fun _ h_ => h_.1))) hb); have n4_ := Aside0.mk (Kd.R_below (by (with_reducible repeat (first | apply Kd.R_alloc | apply Kd.R_drewN | apply Kd.R_drew)); exact (Kd.R_mono (Kd.R_far (p := ⟨gb301, 4, none⟩) (Kd.R_far (p := ⟨gb301, 3, none⟩) (Kd.R_far (p := ⟨gb301, 2, none⟩) (Kd.R_far (p := ⟨gb301, 1, none⟩) (Kd.R_far (p := ⟨gb301, 0, none⟩) (Kd.R_types HO286.out BK301.out (by decide)) (fun _ hk => hk.2) (.int .i64 t291)) (fun _ hk => hk.2) (.int .i64 t292)) (fun _ hk => hk.2) (.int .i64 t293)) (fun _ hk => hk.2) (.slice Ao40 t294.length co40)) (fun _ hk => hk.2) (.slice Ao41 t297.length co41)) (fun _ h_ => h_.1))) hb); have n5_ := Aside0.mk (Kd.R_below (by (with_reducible repeat (first | apply Kd.R_alloc | apply Kd.R_drewN | apply Kd.R_drew)); exact (Kd.R_mono (Kd.R_far (p := ⟨gb301, 4, none⟩) (Kd.R_far (p := ⟨gb301, 3, none⟩) (Kd.R_far (p := ⟨gb301, 2, none⟩) (Kd.R_far (p := ⟨gb301, 1, none⟩) (Kd.R_far (p := ⟨gb301, 0, none⟩) (Kd.R_types HO289.out BK301.out (by decide)) (fun _ hk => hk.2) (.int .i64 t291)) (fun _ hk => hk.2) (.int .i64 t292)) (fun _ hk => hk.2) (.int .i64 t293)) (fun _ hk => hk.2) (.slice Ao40 t294.length co40)) (fun _ hk => hk.2) (.slice Ao41 t297.length co41)) (fun _ h_ => h_.1))) hb); have n6_ := Aside0.mk (Kd.R_below (by (with_reducible repeat (first | apply Kd.R_alloc | apply Kd.R_drewN | apply Kd.R_drew)); exact (Kd.R_mono (Kd.R_far (p := ⟨gb301, 4, none⟩) (Kd.R_far (p := ⟨gb301, 3, none⟩) (Kd.R_far (p := ⟨gb301, 2, none⟩) (Kd.R_far (p := ⟨gb301, 1, none⟩) (Kd.R_far (p := ⟨gb301, 0, none⟩) (Kd.R_types HO296.out BK301.out (by decide)) (fun _ hk => hk.2) (.int .i64 t291)) (fun _ hk => hk.2) (.int .i64 t292)) (fun _ hk => hk.2) (.int .i64 t293)) (fun _ hk => hk.2) (.slice Ao40 t294.length co40)) (fun _ hk => hk.2) (.slice Ao41 t297.length co41)) (fun _ h_ => h_.1))) hb); have n7_ := Aside0.mk (Kd.R_below (by (with_reducible repeat (first | apply Kd.R_alloc | apply Kd.R_drewN | apply Kd.R_drew)); exact (Kd.R_mono (Kd.R_far (p := ⟨gb301, 4, none⟩) (Kd.R_far (p := ⟨gb301, 3, none⟩) (Kd.R_far (p := ⟨gb301, 2, none⟩) (Kd.R_far (p := ⟨gb301, 1, none⟩) (Kd.R_far (p := ⟨gb301, 0, none⟩) (Kd.R_types HO299.out BK301.out (by decide)) (fun _ hk => hk.2) (.int .i64 t291)) (fun _ hk => hk.2) (.int .i64 t292)) (fun _ hk => hk.2) (.int .i64 t293)) (fun _ hk => hk.2) (.slice Ao40 t294.length co40)) (fun _ hk => hk.2) (.slice Ao41 t297.length co41)) (fun _ h_ => h_.1))) hb); have n8_ := Aside0.mk (blk_below (g := gb259) (o := .cells #[.int .i64 a0_0, .int .i64 a0_1, .int .i64 a0_2, .slice A0_3 l0_3.length c0_3, .slice A0_4 l0_4.length c0_4] 25 (0, 0)) (by (with_reducible repeat (first | refine blk_drewN ?_ _ | refine blk_drew ?_ | refine blk_alloc ?_ _)); refine blk_far ?_ NB259_301.out _; (with_reducible repeat (first | refine blk_drewN ?_ _ | refine blk_drew ?_ | refine blk_alloc ?_ _)); refine blk_far ?_ NB259_301.out _; (with_reducible repeat (first | refine blk_drewN ?_ _ | refine blk_drew ?_ | refine blk_alloc ?_ _)); refine blk_far ?_ NB259_301.out _; (with_reducible repeat (first | refine blk_drewN ?_ _ | refine blk_drew ?_ | refine blk_alloc ?_ _)); refine blk_far ?_ NB259_301.out _; (with_reducible repeat (first | refine blk_drewN ?_ _ | refine blk_drew ?_ | refine blk_alloc ?_ _)); refine blk_far ?_ NB259_301.out _; (with_reducible repeat (first | refine blk_drewN ?_ _ | refine blk_drew ?_ | refine blk_alloc ?_ _)); exact BK259.out) hb); have n9_ := Aside0.mk (blk_below (g := gb280) (o := .cells #[.int .i64 t270, .int .i64 t271, .int .i64 t272, .slice Ao24 t273.length co24, .slice Ao25 t276.length co25] 27 (0, 0)) (by (with_reducible repeat (first | refine blk_drewN ?_ _ | refine blk_drew ?_ | refine blk_alloc ?_ _)); refine blk_far ?_ NB280_301.out _; (with_reducible repeat (first | refine blk_drewN ?_ _ | refine blk_drew ?_ | refine blk_alloc ?_ _)); refine blk_far ?_ NB280_301.out _; (with_reducible repeat (first | refine blk_drewN ?_ _ | refine blk_drew ?_ | refine blk_alloc ?_ _)); refine blk_far ?_ NB280_301.out _; (with_reducible repeat (first | refine blk_drewN ?_ _ | refine blk_drew ?_ | refine blk_alloc ?_ _)); refine blk_far ?_ NB280_301.out _; (with_reducible repeat (first | refine blk_drewN ?_ _ | refine blk_drew ?_ | refine blk_alloc ?_ _)); refine blk_far ?_ NB280_301.out _; (with_reducible repeat (first | refine blk_drewN ?_ _ | refine blk_drew ?_ | refine blk_alloc ?_ _)); exact BK280.out) hb); have n10_ := Aside0.mk (blk_below (g := gb290) (o := .cells #[.int .i64 t281, .int .i64 t282, .int .i64 t283, .slice Ao32 t284.length co32, .slice Ao33 t287.length co33] 27 (0, 0)) (by (with_reducible repeat (first | refine blk_drewN ?_ _ | refine blk_drew ?_ | refine blk_alloc ?_ _)); refine blk_far ?_ NB290_301.out _; (with_reducible repeat (first | refine blk_drewN ?_ _ | refine blk_drew ?_ | refine blk_alloc ?_ _)); refine blk_far ?_ NB290_301.out _; (with_reducible repeat (first | refine blk_drewN ?_ _ | refine blk_drew ?_ | refine blk_alloc ?_ _)); refine blk_far ?_ NB290_301.out _; (with_reducible repeat (first | refine blk_drewN ?_ _ | refine blk_drew ?_ | refine blk_alloc ?_ _)); refine blk_far ?_ NB290_301.out _; (with_reducible repeat (first | refine blk_drewN ?_ _ | refine blk_drew ?_ | refine blk_alloc ?_ _)); refine blk_far ?_ NB290_301.out _; (with_reducible repeat (first | refine blk_drewN ?_ _ | refine blk_drew ?_ | refine blk_alloc ?_ _)); exact BK290.out) hb); have n11_ := Aside0.mk (blk_below (g := gb301) (o := .cells #[.int .i64 t291, .int .i64 t292, .int .i64 t293, .slice Ao40 t294.length co40, .slice Ao41 t297.length co41] 27 (0, 0)) (by (with_reducible repeat (first | refine blk_drewN ?_ _ | refine blk_drew ?_ | refine blk_alloc ?_ _)); refine blk_put (cs := #[.int .i64 t291, .int .i64 t292, .int .i64 t293, .slice Ao40 t294.length co40, .slice none 0 0]) ?_ 4 _ rfl; (with_reducible repeat (first | refine blk_drewN ?_ _ | refine blk_drew ?_ | refine blk_alloc ?_ _)); refine blk_put (cs := #[.int .i64 t291, .int .i64 t292, .int .i64 t293, .slice none 0 0, .slice none 0 0]) ?_ 3 _ rfl; (with_reducible repeat (first | refine blk_drewN ?_ _ | refine blk_drew ?_ | refine blk_alloc ?_ _)); refine blk_put (cs := #[.int .i64 t291, .int .i64 t292, .int .i64 0, .slice none 0 0, .slice none 0 0]) ?_ 2 _ rfl; (with_reducible repeat (first | refine blk_drewN ?_ _ | refine blk_drew ?_ | refine blk_alloc ?_ _)); refine blk_put (cs := #[.int .i64 t291, .int .i64 0, .int .i64 0, .slice none 0 0, .slice none 0 0]) ?_ 1 _ rfl; (with_reducible repeat (first | refine blk_drewN ?_ _ | refine blk_drew ?_ | refine blk_alloc ?_ _)); refine blk_put (cs := #[.int .i64 0, .int .i64 0, .int .i64 0, .slice none 0 0, .slice none 0 0]) ?_ 0 _ rfl; (with_reducible repeat (first | refine blk_drewN ?_ _ | refine blk_drew ?_ | refine blk_alloc ?_ _)); exact BK301.out) hb); have n12_ := Aside0.mk (below_step (bk_ HB.out) hb); clear HO266; clear HO269; clear HO275; clear HO278; clear HO286; clear HO289; clear HO296; clear HO299; clear BK259; clear BK280; clear BK290; clear BK301; clear HB; have HO266 := n0_; have HO269 := n1_; have HO275 := n2_; have HO278 := n3_; have HO286 := n4_; have HO289 := n5_; have HO296 := n6_; have HO299 := n7_; have BK259 := n8_; have BK280 := n9_; have BK290 := n10_; have BK301 := n11_; have HB := n12_; clear n0_ n1_ n2_ n3_ n4_ n5_ n6_ n7_ n8_ n9_ n10_ n11_ n12_; (try clear hb); (try clear hb2); (try clear hk); (try clear hi)))
        go_meet
        case rel => exact ⟨_, ((t300 != t279)), (by first | rfl | (simp; done) | (simp [i64_w, i32_w]; done) | (simp [*]; done) | (simp [*, i64_w, i32_w]; done)), H', ⟨by first | omega | exact Nat.le_refl _⟩, ⟨by (with_reducible repeat (first | apply Kd.R_alloc | apply Kd.R_drewN | apply Kd.R_drew)); exact Kd.R_mono HO275.out (fun _ hk => ⟨hk.1.2, hk.2⟩)⟩, ⟨by (with_reducible repeat (first | apply Kd.R_alloc | apply Kd.R_drewN | apply Kd.R_drew)); exact Kd.R_mono HO278.out (fun _ hk => ⟨hk.1.2, hk.2⟩)⟩, ⟨by (with_reducible repeat (first | apply Kd.R_alloc | apply Kd.R_drewN | apply Kd.R_drew)); exact Kd.R_mono HO286.out (fun _ hk => ⟨hk.1.2, hk.2⟩)⟩, ⟨by (with_reducible repeat (first | apply Kd.R_alloc | apply Kd.R_drewN | apply Kd.R_drew)); exact Kd.R_mono HO289.out (fun _ hk => ⟨hk.1.2, hk.2⟩)⟩, ⟨by (with_reducible repeat (first | apply Kd.R_alloc | apply Kd.R_drewN | apply Kd.R_drew)); exact Kd.R_mono HO296.out (fun _ hk => ⟨hk.1.2, hk.2⟩)⟩, ⟨by (with_reducible repeat (first | apply Kd.R_alloc | apply Kd.R_drewN | apply Kd.R_drew)); exact Kd.R_mono HO299.out (fun _ hk => ⟨hk.1.2, hk.2⟩)⟩, ⟨pk_ BK259.out⟩, ⟨pk_ BK280.out⟩, ⟨pk_ BK290.out⟩, ⟨pk_ BK301.out⟩, ⟨bk_ HB.out⟩⟩
      · replace c43 := Bool.eq_false_iff.mpr c43
        subst c43
        have H1 : (laws_FnExactCollideGas.j0 k a1 t279 t300 true a0_0 a0_1 a0_2 l0_3 l0_4 t270 t271 t272 t273 t276 t281 t282 t283 t284 t287 t291 t292 t293 t294 t297) = some r := by rw [if_neg (show ¬ (false = true) by decide)] at H; exact H
        clear H
        have H := H1
        clear H1
        have H' := Aside0.mk H
        clear H
        have hnb52 := NB301_259.out
        have hnc52 := NB259_301.out
        have hnb53 := NB301_280.out
        have hnc53 := NB280_301.out
        have hnb54 := NB301_290.out
        have hnc54 := NB290_301.out
        have hcz55_0 := bc_ BK301.out 0 (.int .i64 0)
        have hcz55_1 := bc_ BK301.out 1 (.int .i64 0)
        have hcz55_2 := bc_ BK301.out 2 (.int .i64 0)
        have hcz55_3 := bc_ BK301.out 3 (.slice none 0 0)
        have hcz55_4 := bc_ BK301.out 4 (.slice none 0 0)
        have hfz55_0 := blk_frozen BK301.out 0
        have hfz55_1 := blk_frozen BK301.out 1
        have hfz55_2 := blk_frozen BK301.out 2
        have hfz55_3 := blk_frozen BK301.out 3
        have hfz55_4 := blk_frozen BK301.out 4
        have hnb56 := NB280_259.out
        have hnc56 := NB259_280.out
        have hnb57 := NB280_290.out
        have hnc57 := NB290_280.out
        have hcz58_0 := bc_ BK280.out 0 (.int .i64 t270)
        have hcz58_1 := bc_ BK280.out 1 (.int .i64 t271)
        have hcz58_2 := bc_ BK280.out 2 (.int .i64 t272)
        have hcz58_3 := bc_ BK280.out 3 (.slice Ao24 t273.length co24)
        have hcz58_4 := bc_ BK280.out 4 (.slice Ao25 t276.length co25)
        have hfz58_0 := blk_frozen BK280.out 0
        have hfz58_1 := blk_frozen BK280.out 1
        have hfz58_2 := blk_frozen BK280.out 2
        have hfz58_3 := blk_frozen BK280.out 3
        have hfz58_4 := blk_frozen BK280.out 4
        go_wp2_with (first | ((with_reducible refine gate_callee (f := 17) rfl ?_); refine goesL_ (some 38) rfl rfl Try.func17 (by kernel_rfl) rfl #[.agg #[.int .i64 t291, .int .i64 t292, .int .i64 t293, .slice Ao40 t294.length co40, .slice Ao41 t297.length co41], .agg #[.int .i64 t270, .int .i64 t271, .int .i64 t272, .slice Ao24 t273.length co24, .slice Ao25 t276.length co25]] rfl (by (try simp only [List.map_toArray, List.map_cons, List.map_nil]); first | done | rfl | (simp only [List.length_drop, List.length_take]; rfl)) ?_; (with_reducible refine (laws_eqGas.calls k t291 t292 t293 _ _ t294 _ _ t297 t270 t271 t272 _ _ t273 _ _ t276 false _ ?side1 ?side2 ?side3 ?side4 ?side5 ?side6 ?side7 ?side8 A42.out).mono ?_); (case side1 => refine (Kd.R_reads' (e := 2) (base := w.heap.size) (ok := fun k_ => (((True ∧ some k_ ≠ (.slice Ao18 t264.length co18 : Value).ownBlock) ∧ some k_ ≠ (.slice Ao24 t273.length co24 : Value).ownBlock) ∧ some k_ ≠ (.slice Ao32 t284.length co32 : Value).ownBlock)) (n := t294.length) (c := co40) ?_).2.2; exact (by (with_reducible repeat (first | apply Kd.R_alloc | apply Kd.R_drewN | apply Kd.R_drew)); exact (Kd.R_mono (Kd.R_far (p := ⟨gb301, 4, none⟩) (Kd.R_far (p := ⟨gb301, 3, none⟩) (Kd.R_far (p := ⟨gb301, 2, none⟩) (Kd.R_far (p := ⟨gb301, 1, none⟩) (Kd.R_far (p := ⟨gb301, 0, none⟩) (Kd.R_types HO296.out BK301.out (by decide)) (fun _ hk => hk.2) (.int .i64 t291)) (fun _ hk => hk.2) (.int .i64 t292)) (fun _ hk => hk.2) (.int .i64 t293)) (fun _ hk => hk.2) (.slice Ao40 t294.length co40)) (fun _ hk => hk.2) (.slice Ao41 t297.length co41)) (fun _ h_ => h_.1)))); (case side2 => exact (Kd.R_reads' HO296.out).2.1); (case side3 => refine (Kd.R_reads' (e := 4) (base := w.heap.size) (ok := fun k_ => (((True ∧ some k_ ≠ (.slice Ao19 t267.length co19 : Value).ownBlock) ∧ some k_ ≠ (.slice Ao25 t276.length co25 : Value).ownBlock) ∧ some k_ ≠ (.slice Ao33 t287.length co33 : Value).ownBlock)) (n := t297.length) (c := co41) ?_).2.2; exact (by (with_reducible repeat (first | apply Kd.R_alloc | apply Kd.R_drewN | apply Kd.R_drew)); exact (Kd.R_mono (Kd.R_far (p := ⟨gb301, 4, none⟩) (Kd.R_far (p := ⟨gb301, 3, none⟩) (Kd.R_far (p := ⟨gb301, 2, none⟩) (Kd.R_far (p := ⟨gb301, 1, none⟩) (Kd.R_far (p := ⟨gb301, 0, none⟩) (Kd.R_types HO299.out BK301.out (by decide)) (fun _ hk => hk.2) (.int .i64 t291)) (fun _ hk => hk.2) (.int .i64 t292)) (fun _ hk => hk.2) (.int .i64 t293)) (fun _ hk => hk.2) (.slice Ao40 t294.length co40)) (fun _ hk => hk.2) (.slice Ao41 t297.length co41)) (fun _ h_ => h_.1)))); (case side4 => exact (Kd.R_reads' HO299.out).2.1); (case side5 => refine (Kd.R_reads' (e := 2) (base := w.heap.size) (ok := fun k_ => (((True ∧ some k_ ≠ (.slice Ao18 t264.length co18 : Value).ownBlock) ∧ some k_ ≠ (.slice Ao32 t284.length co32 : Value).ownBlock) ∧ some k_ ≠ (.slice Ao40 t294.length co40 : Value).ownBlock)) (n := t273.length) (c := co24) ?_).2.2; exact (by (with_reducible repeat (first | apply Kd.R_alloc | apply Kd.R_drewN | apply Kd.R_drew)); exact (Kd.R_mono (Kd.R_far (p := ⟨gb301, 4, none⟩) (Kd.R_far (p := ⟨gb301, 3, none⟩) (Kd.R_far (p := ⟨gb301, 2, none⟩) (Kd.R_far (p := ⟨gb301, 1, none⟩) (Kd.R_far (p := ⟨gb301, 0, none⟩) (Kd.R_types HO275.out BK301.out (by decide)) (fun _ hk => hk.2) (.int .i64 t291)) (fun _ hk => hk.2) (.int .i64 t292)) (fun _ hk => hk.2) (.int .i64 t293)) (fun _ hk => hk.2) (.slice Ao40 t294.length co40)) (fun _ hk => hk.2) (.slice Ao41 t297.length co41)) (fun _ h_ => h_.1)))); (case side6 => exact (Kd.R_reads' HO275.out).2.1); (case side7 => refine (Kd.R_reads' (e := 4) (base := w.heap.size) (ok := fun k_ => (((True ∧ some k_ ≠ (.slice Ao19 t267.length co19 : Value).ownBlock) ∧ some k_ ≠ (.slice Ao33 t287.length co33 : Value).ownBlock) ∧ some k_ ≠ (.slice Ao41 t297.length co41 : Value).ownBlock)) (n := t276.length) (c := co25) ?_).2.2; exact (by (with_reducible repeat (first | apply Kd.R_alloc | apply Kd.R_drewN | apply Kd.R_drew)); exact (Kd.R_mono (Kd.R_far (p := ⟨gb301, 4, none⟩) (Kd.R_far (p := ⟨gb301, 3, none⟩) (Kd.R_far (p := ⟨gb301, 2, none⟩) (Kd.R_far (p := ⟨gb301, 1, none⟩) (Kd.R_far (p := ⟨gb301, 0, none⟩) (Kd.R_types HO278.out BK301.out (by decide)) (fun _ hk => hk.2) (.int .i64 t291)) (fun _ hk => hk.2) (.int .i64 t292)) (fun _ hk => hk.2) (.int .i64 t293)) (fun _ hk => hk.2) (.slice Ao40 t294.length co40)) (fun _ hk => hk.2) (.slice Ao41 t297.length co41)) (fun _ h_ => h_.1)))); (case side8 => exact (Kd.R_reads' HO278.out).2.1); rintro e w59 ⟨rfl, hb⟩; refine ⟨_, rfl, ?_⟩; have n0_ := Aside0.mk (Kd.R_below (by (with_reducible repeat (first | apply Kd.R_alloc | apply Kd.R_drewN | apply Kd.R_drew)); exact (Kd.R_mono (Kd.R_far (p := ⟨gb301, 4, none⟩) (Kd.R_far (p := ⟨gb301, 3, none⟩) (Kd.R_far (p := ⟨gb301, 2, none⟩) (Kd.R_far (p := ⟨gb301, 1, none⟩) (Kd.R_far (p := ⟨gb301, 0, none⟩) (Kd.R_types HO266.out BK301.out (by decide)) (fun _ hk => hk.2) (.int .i64 t291)) (fun _ hk => hk.2) (.int .i64 t292)) (fun _ hk => hk.2) (.int .i64 t293)) (fun _ hk => hk.2) (.slice Ao40 t294.length co40)) (fun _ hk => hk.2) (.slice Ao41 t297.length co41)) (fun _ h_ => h_.1))) hb); have n1_ := Aside0.mk (Kd.R_below (by (with_reducible repeat (first | apply Kd.R_alloc | apply Kd.R_drewN | apply Kd.R_drew)); exact (Kd.R_mono (Kd.R_far (p := ⟨gb301, 4, none⟩) (Kd.R_far (p := ⟨gb301, 3, none⟩) (Kd.R_far (p := ⟨gb301, 2, none⟩) (Kd.R_far (p := ⟨gb301, 1, none⟩) (Kd.R_far (p := ⟨gb301, 0, none⟩) (Kd.R_types HO269.out BK301.out (by decide)) (fun _ hk => hk.2) (.int .i64 t291)) (fun _ hk => hk.2) (.int .i64 t292)) (fun _ hk => hk.2) (.int .i64 t293)) (fun _ hk => hk.2) (.slice Ao40 t294.length co40)) (fun _ hk => hk.2) (.slice Ao41 t297.length co41)) (fun _ h_ => h_.1))) hb); have n2_ := Aside0.mk (Kd.R_below (by (with_reducible repeat (first | apply Kd.R_alloc | apply Kd.R_drewN | apply Kd.R_drew)); exact (Kd.R_mono (Kd.R_far (p := ⟨gb301, 4, none⟩) (Kd.R_far (p := ⟨gb301, 3, none⟩) (Kd.R_far (p := ⟨gb301, 2, none⟩) (Kd.R_far (p := ⟨gb301, 1, none⟩) (Kd.R_far (p := ⟨gb301, 0, none⟩) (Kd.R_types HO275.out BK301.out (by decide)) (fun _ hk => hk.2) (.int .i64 t291)) (fun _ hk => hk.2) (.int .i64 t292)) (fun _ hk => hk.2) (.int .i64 t293)) (fun _ hk => hk.2) (.slice Ao40 t294.length co40)) (fun _ hk => hk.2) (.slice Ao41 t297.length co41)) (fun _ h_ => h_.1))) hb); have n3_ := Aside0.mk (Kd.R_below (by (with_reducible repeat (first | apply Kd.R_alloc | apply Kd.R_drewN | apply Kd.R_drew)); exact (Kd.R_mono (Kd.R_far (p := ⟨gb301, 4, none⟩) (Kd.R_far (p := ⟨gb301, 3, none⟩) (Kd.R_far (p := ⟨gb301, 2, none⟩) (Kd.R_far (p := ⟨gb301, 1, none⟩) (Kd.R_far (p := ⟨gb301, 0, none⟩) (Kd.R_types HO278.out BK301.out (by decide)) (fun _ hk => hk.2) (.int .i64 t291)) (fun _ hk => hk.2) (.int .i64 t292)) (fun _ hk => hk.2) (.int .i64 t293)) (fun _ hk => hk.2) (.slice Ao40 t294.length co40)) (fun _ hk => hk.2) (.slice Ao41 t297.length co41)) (fun _ h_ => h_.1))) hb); have n4_ := Aside0.mk (Kd.R_below (by (with_reducible repeat (first | apply Kd.R_alloc | apply Kd.R_drewN | apply Kd.R_drew)); exact (Kd.R_mono (Kd.R_far (p := ⟨gb301, 4, none⟩) (Kd.R_far (p := ⟨gb301, 3, none⟩) (Kd.R_far (p := ⟨gb301, 2, none⟩) (Kd.R_far (p := ⟨gb301, 1, none⟩) (Kd.R_far (p := ⟨gb301, 0, none⟩) (Kd.R_types HO286.out BK301.out (by decide)) (fun _ hk => hk.2) (.int .i64 t291)) (fun _ hk => hk.2) (.int .i64 t292)) (fun _ hk => hk.2) (.int .i64 t293)) (fun _ hk => hk.2) (.slice Ao40 t294.length co40)) (fun _ hk => hk.2) (.slice Ao41 t297.length co41)) (fun _ h_ => h_.1))) hb); have n5_ := Aside0.mk (Kd.R_below (by (with_reducible repeat (first | apply Kd.R_alloc | apply Kd.R_drewN | apply Kd.R_drew)); exact (Kd.R_mono (Kd.R_far (p := ⟨gb301, 4, none⟩) (Kd.R_far (p := ⟨gb301, 3, none⟩) (Kd.R_far (p := ⟨gb301, 2, none⟩) (Kd.R_far (p := ⟨gb301, 1, none⟩) (Kd.R_far (p := ⟨gb301, 0, none⟩) (Kd.R_types HO289.out BK301.out (by decide)) (fun _ hk => hk.2) (.int .i64 t291)) (fun _ hk => hk.2) (.int .i64 t292)) (fun _ hk => hk.2) (.int .i64 t293)) (fun _ hk => hk.2) (.slice Ao40 t294.length co40)) (fun _ hk => hk.2) (.slice Ao41 t297.length co41)) (fun _ h_ => h_.1))) hb); have n6_ := Aside0.mk (Kd.R_below (by (with_reducible repeat (first | apply Kd.R_alloc | apply Kd.R_drewN | apply Kd.R_drew)); exact (Kd.R_mono (Kd.R_far (p := ⟨gb301, 4, none⟩) (Kd.R_far (p := ⟨gb301, 3, none⟩) (Kd.R_far (p := ⟨gb301, 2, none⟩) (Kd.R_far (p := ⟨gb301, 1, none⟩) (Kd.R_far (p := ⟨gb301, 0, none⟩) (Kd.R_types HO296.out BK301.out (by decide)) (fun _ hk => hk.2) (.int .i64 t291)) (fun _ hk => hk.2) (.int .i64 t292)) (fun _ hk => hk.2) (.int .i64 t293)) (fun _ hk => hk.2) (.slice Ao40 t294.length co40)) (fun _ hk => hk.2) (.slice Ao41 t297.length co41)) (fun _ h_ => h_.1))) hb); have n7_ := Aside0.mk (Kd.R_below (by (with_reducible repeat (first | apply Kd.R_alloc | apply Kd.R_drewN | apply Kd.R_drew)); exact (Kd.R_mono (Kd.R_far (p := ⟨gb301, 4, none⟩) (Kd.R_far (p := ⟨gb301, 3, none⟩) (Kd.R_far (p := ⟨gb301, 2, none⟩) (Kd.R_far (p := ⟨gb301, 1, none⟩) (Kd.R_far (p := ⟨gb301, 0, none⟩) (Kd.R_types HO299.out BK301.out (by decide)) (fun _ hk => hk.2) (.int .i64 t291)) (fun _ hk => hk.2) (.int .i64 t292)) (fun _ hk => hk.2) (.int .i64 t293)) (fun _ hk => hk.2) (.slice Ao40 t294.length co40)) (fun _ hk => hk.2) (.slice Ao41 t297.length co41)) (fun _ h_ => h_.1))) hb); have n8_ := Aside0.mk (blk_below (g := gb259) (o := .cells #[.int .i64 a0_0, .int .i64 a0_1, .int .i64 a0_2, .slice A0_3 l0_3.length c0_3, .slice A0_4 l0_4.length c0_4] 25 (0, 0)) (by (with_reducible repeat (first | refine blk_drewN ?_ _ | refine blk_drew ?_ | refine blk_alloc ?_ _)); refine blk_far ?_ NB259_301.out _; (with_reducible repeat (first | refine blk_drewN ?_ _ | refine blk_drew ?_ | refine blk_alloc ?_ _)); refine blk_far ?_ NB259_301.out _; (with_reducible repeat (first | refine blk_drewN ?_ _ | refine blk_drew ?_ | refine blk_alloc ?_ _)); refine blk_far ?_ NB259_301.out _; (with_reducible repeat (first | refine blk_drewN ?_ _ | refine blk_drew ?_ | refine blk_alloc ?_ _)); refine blk_far ?_ NB259_301.out _; (with_reducible repeat (first | refine blk_drewN ?_ _ | refine blk_drew ?_ | refine blk_alloc ?_ _)); refine blk_far ?_ NB259_301.out _; (with_reducible repeat (first | refine blk_drewN ?_ _ | refine blk_drew ?_ | refine blk_alloc ?_ _)); exact BK259.out) hb); have n9_ := Aside0.mk (blk_below (g := gb280) (o := .cells #[.int .i64 t270, .int .i64 t271, .int .i64 t272, .slice Ao24 t273.length co24, .slice Ao25 t276.length co25] 27 (0, 0)) (by (with_reducible repeat (first | refine blk_drewN ?_ _ | refine blk_drew ?_ | refine blk_alloc ?_ _)); refine blk_far ?_ NB280_301.out _; (with_reducible repeat (first | refine blk_drewN ?_ _ | refine blk_drew ?_ | refine blk_alloc ?_ _)); refine blk_far ?_ NB280_301.out _; (with_reducible repeat (first | refine blk_drewN ?_ _ | refine blk_drew ?_ | refine blk_alloc ?_ _)); refine blk_far ?_ NB280_301.out _; (with_reducible repeat (first | refine blk_drewN ?_ _ | refine blk_drew ?_ | refine blk_alloc ?_ _)); refine blk_far ?_ NB280_301.out _; (with_reducible repeat (first | refine blk_drewN ?_ _ | refine blk_drew ?_ | refine blk_alloc ?_ _)); refine blk_far ?_ NB280_301.out _; (with_reducible repeat (first | refine blk_drewN ?_ _ | refine blk_drew ?_ | refine blk_alloc ?_ _)); exact BK280.out) hb); have n10_ := Aside0.mk (blk_below (g := gb290) (o := .cells #[.int .i64 t281, .int .i64 t282, .int .i64 t283, .slice Ao32 t284.length co32, .slice Ao33 t287.length co33] 27 (0, 0)) (by (with_reducible repeat (first | refine blk_drewN ?_ _ | refine blk_drew ?_ | refine blk_alloc ?_ _)); refine blk_far ?_ NB290_301.out _; (with_reducible repeat (first | refine blk_drewN ?_ _ | refine blk_drew ?_ | refine blk_alloc ?_ _)); refine blk_far ?_ NB290_301.out _; (with_reducible repeat (first | refine blk_drewN ?_ _ | refine blk_drew ?_ | refine blk_alloc ?_ _)); refine blk_far ?_ NB290_301.out _; (with_reducible repeat (first | refine blk_drewN ?_ _ | refine blk_drew ?_ | refine blk_alloc ?_ _)); refine blk_far ?_ NB290_301.out _; (with_reducible repeat (first | refine blk_drewN ?_ _ | refine blk_drew ?_ | refine blk_alloc ?_ _)); refine blk_far ?_ NB290_301.out _; (with_reducible repeat (first | refine blk_drewN ?_ _ | refine blk_drew ?_ | refine blk_alloc ?_ _)); exact BK290.out) hb); have n11_ := Aside0.mk (blk_below (g := gb301) (o := .cells #[.int .i64 t291, .int .i64 t292, .int .i64 t293, .slice Ao40 t294.length co40, .slice Ao41 t297.length co41] 27 (0, 0)) (by (with_reducible repeat (first | refine blk_drewN ?_ _ | refine blk_drew ?_ | refine blk_alloc ?_ _)); refine blk_put (cs := #[.int .i64 t291, .int .i64 t292, .int .i64 t293, .slice Ao40 t294.length co40, .slice none 0 0]) ?_ 4 _ rfl; (with_reducible repeat (first | refine blk_drewN ?_ _ | refine blk_drew ?_ | refine blk_alloc ?_ _)); refine blk_put (cs := #[.int .i64 t291, .int .i64 t292, .int .i64 t293, .slice none 0 0, .slice none 0 0]) ?_ 3 _ rfl; (with_reducible repeat (first | refine blk_drewN ?_ _ | refine blk_drew ?_ | refine blk_alloc ?_ _)); refine blk_put (cs := #[.int .i64 t291, .int .i64 t292, .int .i64 0, .slice none 0 0, .slice none 0 0]) ?_ 2 _ rfl; (with_reducible repeat (first | refine blk_drewN ?_ _ | refine blk_drew ?_ | refine blk_alloc ?_ _)); refine blk_put (cs := #[.int .i64 t291, .int .i64 0, .int .i64 0, .slice none 0 0, .slice none 0 0]) ?_ 1 _ rfl; (with_reducible repeat (first | refine blk_drewN ?_ _ | refine blk_drew ?_ | refine blk_alloc ?_ _)); refine blk_put (cs := #[.int .i64 0, .int .i64 0, .int .i64 0, .slice none 0 0, .slice none 0 0]) ?_ 0 _ rfl; (with_reducible repeat (first | refine blk_drewN ?_ _ | refine blk_drew ?_ | refine blk_alloc ?_ _)); exact BK301.out) hb); have n12_ := Aside0.mk (below_step (bk_ HB.out) hb); clear HO266; clear HO269; clear HO275; clear HO278; clear HO286; clear HO289; clear HO296; clear HO299; clear BK259; clear BK280; clear BK290; clear BK301; clear HB; have HO266 := n0_; have HO269 := n1_; have HO275 := n2_; have HO278 := n3_; have HO286 := n4_; have HO289 := n5_; have HO296 := n6_; have HO299 := n7_; have BK259 := n8_; have BK280 := n9_; have BK290 := n10_; have BK301 := n11_; have HB := n12_; clear n0_ n1_ n2_ n3_ n4_ n5_ n6_ n7_ n8_ n9_ n10_ n11_ n12_; (try clear hb); (try clear hb2); (try clear hk); (try clear hi)))
        go_meet
        case rel => exact ⟨_, (true), (by first | rfl | (simp; done) | (simp [i64_w, i32_w]; done) | (simp [*]; done) | (simp [*, i64_w, i32_w]; done)), H', ⟨by first | omega | exact Nat.le_refl _⟩, ⟨by (with_reducible repeat (first | apply Kd.R_alloc | apply Kd.R_drewN | apply Kd.R_drew)); exact Kd.R_mono HO275.out (fun _ hk => ⟨hk.1.2, hk.2⟩)⟩, ⟨by (with_reducible repeat (first | apply Kd.R_alloc | apply Kd.R_drewN | apply Kd.R_drew)); exact Kd.R_mono HO278.out (fun _ hk => ⟨hk.1.2, hk.2⟩)⟩, ⟨by (with_reducible repeat (first | apply Kd.R_alloc | apply Kd.R_drewN | apply Kd.R_drew)); exact Kd.R_mono HO286.out (fun _ hk => ⟨hk.1.2, hk.2⟩)⟩, ⟨by (with_reducible repeat (first | apply Kd.R_alloc | apply Kd.R_drewN | apply Kd.R_drew)); exact Kd.R_mono HO289.out (fun _ hk => ⟨hk.1.2, hk.2⟩)⟩, ⟨by (with_reducible repeat (first | apply Kd.R_alloc | apply Kd.R_drewN | apply Kd.R_drew)); exact Kd.R_mono HO296.out (fun _ hk => ⟨hk.1.2, hk.2⟩)⟩, ⟨by (with_reducible repeat (first | apply Kd.R_alloc | apply Kd.R_drewN | apply Kd.R_drew)); exact Kd.R_mono HO299.out (fun _ hk => ⟨hk.1.2, hk.2⟩)⟩, ⟨pk_ BK259.out⟩, ⟨pk_ BK280.out⟩, ⟨pk_ BK290.out⟩, ⟨pk_ BK301.out⟩, ⟨bk_ HB.out⟩⟩
    case rest =>
      clear HC12
      try clear c1
      try clear c2
      try clear p2
      try clear c3
      try clear c4
      try clear c4b0
      try clear c5
      try clear c13
      try clear c15
      try clear c17
      try clear c20
      try clear c21
      try clear c22
      try clear c29
      try clear c30
      try clear c36
      try clear c37
      try clear c38
      try clear c43
      try clear c44
      try clear c45
      try clear c46
      try clear c48
      try clear c49
      try clear c52
      try clear c53
      try clear c54
      try clear c56
      try clear c57
      try clear hcz14_0
      try clear hcz14_1
      try clear hcz14_2
      try clear hcz14_3
      try clear hcz14_4
      try clear hcz16_0
      try clear hcz16_1
      try clear hcz16_2
      try clear hcz16_3
      try clear hcz16_4
      try clear hcz23_0
      try clear hcz23_1
      try clear hcz23_2
      try clear hcz23_3
      try clear hcz23_4
      try clear hcz26_0
      try clear hcz26_1
      try clear hcz26_2
      try clear hcz26_3
      try clear hcz26_4
      try clear hcz31_0
      try clear hcz31_1
      try clear hcz31_2
      try clear hcz31_3
      try clear hcz31_4
      try clear hcz39_0
      try clear hcz39_1
      try clear hcz39_2
      try clear hcz39_3
      try clear hcz39_4
      try clear hcz47_0
      try clear hcz47_1
      try clear hcz47_2
      try clear hcz47_3
      try clear hcz47_4
      try clear hcz50_0
      try clear hcz50_1
      try clear hcz50_2
      try clear hcz50_3
      try clear hcz50_4
      try clear hcz55_0
      try clear hcz55_1
      try clear hcz55_2
      try clear hcz55_3
      try clear hcz55_4
      try clear hcz58_0
      try clear hcz58_1
      try clear hcz58_2
      try clear hcz58_3
      try clear hcz58_4
      try clear hcz6_0
      try clear hcz6_1
      try clear hcz6_2
      try clear hcz6_3
      try clear hcz6_4
      try clear hfz14_0
      try clear hfz14_1
      try clear hfz14_2
      try clear hfz14_3
      try clear hfz14_4
      try clear hfz16_0
      try clear hfz16_1
      try clear hfz16_2
      try clear hfz16_3
      try clear hfz16_4
      try clear hfz23_0
      try clear hfz23_1
      try clear hfz23_2
      try clear hfz23_3
      try clear hfz23_4
      try clear hfz26_0
      try clear hfz26_1
      try clear hfz26_2
      try clear hfz26_3
      try clear hfz26_4
      try clear hfz31_0
      try clear hfz31_1
      try clear hfz31_2
      try clear hfz31_3
      try clear hfz31_4
      try clear hfz39_0
      try clear hfz39_1
      try clear hfz39_2
      try clear hfz39_3
      try clear hfz39_4
      try clear hfz47_0
      try clear hfz47_1
      try clear hfz47_2
      try clear hfz47_3
      try clear hfz47_4
      try clear hfz50_0
      try clear hfz50_1
      try clear hfz50_2
      try clear hfz50_3
      try clear hfz50_4
      try clear hfz55_0
      try clear hfz55_1
      try clear hfz55_2
      try clear hfz55_3
      try clear hfz55_4
      try clear hfz58_0
      try clear hfz58_1
      try clear hfz58_2
      try clear hfz58_3
      try clear hfz58_4
      try clear hfz6_0
      try clear hfz6_1
      try clear hfz6_2
      try clear hfz6_3
      try clear hfz6_4
      obtain ⟨kq, x44_11, rfl, HA, HJ11, HO_281003, HO_281004, HO_291003, HO_291004, HO_302003, HO_302004, BK259, BK280, BK290, BK301, HB⟩ := hcut
      cases kq with
      | zero => exact absurd HA.out (by simp [laws_FnExactCollideGas.j0])
      | succ kj11 =>
        have H := HA.out
        clear HA
        simp only [laws_FnExactCollideGas.j0] at H
        by_cases c60 : x44_11 = true
        · subst c60
          have H1 : (some false) = some r := by rw [if_pos rfl] at H; exact H
          clear H
          have H := H1
          clear H1
          obtain rfl := Option.some.inj H
          go_wp2
          go_ret
          exact ⟨by first | rfl | (simp [errW_none, errW_some] <;> rfl) | (simp [*, errW_none, errW_some] <;> rfl), bk_ HB.out⟩
        · replace c60 := Bool.eq_false_iff.mpr c60
          subst c60
          have H1 : ((laws_toGas.f kj11 a0_0 a0_1 a0_2 l0_3 l0_4).bind fun bt303 => ((laws_eqGas.f kj11 t281 t282 t283 t284 t287 bt303.1 bt303.2.1 bt303.2.2.1 bt303.2.2.2.1 bt303.2.2.2.2).bind fun t312 => (if t312 = true then ((laws_markGas.f kj11 t281 t282 t283 t284 t287 1).bind fun bt313 => (if bt313.1 < 0 then (laws_FnExactCollideGas.j1 kj11 a1 t279 true a0_0 a0_1 a0_2 l0_3 l0_4 t270 t271 t272 t273 t276 t291 t292 t293 t294 t297) else ((laws_eqGas.f kj11 t291 t292 t293 t294 t297 t270 t271 t272 t273 t276).bind fun t316 => (if t316 = true then (laws_FnExactCollideGas.j1 kj11 a1 t279 (t300 != t279) a0_0 a0_1 a0_2 l0_3 l0_4 t270 t271 t272 t273 t276 t291 t292 t293 t294 t297) else (laws_FnExactCollideGas.j1 kj11 a1 t279 true a0_0 a0_1 a0_2 l0_3 l0_4 t270 t271 t272 t273 t276 t291 t292 t293 t294 t297))))) else (some false)))) = some r := by rw [if_neg (show ¬ (false = true) by decide)] at H; exact H
          clear H
          have H := H1
          clear H1
          replace H := Option.bind_eq_some_iff.mp H
          obtain ⟨⟨t303, t304, t305, t306, t309⟩, A610, H⟩ := H
          replace H : ((laws_eqGas.f kj11 t281 t282 t283 t284 t287 t303 t304 t305 t306 t309).bind fun t312 => (if t312 = true then ((laws_markGas.f kj11 t281 t282 t283 t284 t287 1).bind fun bt313 => (if bt313.1 < 0 then (laws_FnExactCollideGas.j1 kj11 a1 t279 true a0_0 a0_1 a0_2 l0_3 l0_4 t270 t271 t272 t273 t276 t291 t292 t293 t294 t297) else ((laws_eqGas.f kj11 t291 t292 t293 t294 t297 t270 t271 t272 t273 t276).bind fun t316 => (if t316 = true then (laws_FnExactCollideGas.j1 kj11 a1 t279 (t300 != t279) a0_0 a0_1 a0_2 l0_3 l0_4 t270 t271 t272 t273 t276 t291 t292 t293 t294 t297) else (laws_FnExactCollideGas.j1 kj11 a1 t279 true a0_0 a0_1 a0_2 l0_3 l0_4 t270 t271 t272 t273 t276 t291 t292 t293 t294 t297))))) else (some false))) = some r := H
          have A61 := Aside0.mk A610
          clear A610
          replace H := Option.bind_eq_some_iff.mp H
          obtain ⟨t312, A620, H⟩ := H
          replace H : (if t312 = true then ((laws_markGas.f kj11 t281 t282 t283 t284 t287 1).bind fun bt313 => (if bt313.1 < 0 then (laws_FnExactCollideGas.j1 kj11 a1 t279 true a0_0 a0_1 a0_2 l0_3 l0_4 t270 t271 t272 t273 t276 t291 t292 t293 t294 t297) else ((laws_eqGas.f kj11 t291 t292 t293 t294 t297 t270 t271 t272 t273 t276).bind fun t316 => (if t316 = true then (laws_FnExactCollideGas.j1 kj11 a1 t279 (t300 != t279) a0_0 a0_1 a0_2 l0_3 l0_4 t270 t271 t272 t273 t276 t291 t292 t293 t294 t297) else (laws_FnExactCollideGas.j1 kj11 a1 t279 true a0_0 a0_1 a0_2 l0_3 l0_4 t270 t271 t272 t273 t276 t291 t292 t293 t294 t297))))) else (some false)) = some r := H
          have A62 := Aside0.mk A620
          clear A620
          by_cases c63 : t312 = true
          · subst c63
            have H1 : ((laws_markGas.f kj11 t281 t282 t283 t284 t287 1).bind fun bt313 => (if bt313.1 < 0 then (laws_FnExactCollideGas.j1 kj11 a1 t279 true a0_0 a0_1 a0_2 l0_3 l0_4 t270 t271 t272 t273 t276 t291 t292 t293 t294 t297) else ((laws_eqGas.f kj11 t291 t292 t293 t294 t297 t270 t271 t272 t273 t276).bind fun t316 => (if t316 = true then (laws_FnExactCollideGas.j1 kj11 a1 t279 (t300 != t279) a0_0 a0_1 a0_2 l0_3 l0_4 t270 t271 t272 t273 t276 t291 t292 t293 t294 t297) else (laws_FnExactCollideGas.j1 kj11 a1 t279 true a0_0 a0_1 a0_2 l0_3 l0_4 t270 t271 t272 t273 t276 t291 t292 t293 t294 t297))))) = some r := by rw [if_pos rfl] at H; exact H
            clear H
            have H := H1
            clear H1
            replace H := Option.bind_eq_some_iff.mp H
            obtain ⟨⟨t313, t314, t315⟩, A640, H⟩ := H
            replace H : (if t313 < 0 then (laws_FnExactCollideGas.j1 kj11 a1 t279 true a0_0 a0_1 a0_2 l0_3 l0_4 t270 t271 t272 t273 t276 t291 t292 t293 t294 t297) else ((laws_eqGas.f kj11 t291 t292 t293 t294 t297 t270 t271 t272 t273 t276).bind fun t316 => (if t316 = true then (laws_FnExactCollideGas.j1 kj11 a1 t279 (t300 != t279) a0_0 a0_1 a0_2 l0_3 l0_4 t270 t271 t272 t273 t276 t291 t292 t293 t294 t297) else (laws_FnExactCollideGas.j1 kj11 a1 t279 true a0_0 a0_1 a0_2 l0_3 l0_4 t270 t271 t272 t273 t276 t291 t292 t293 t294 t297)))) = some r := H
            have A64 := Aside0.mk A640
            clear A640
            have HC65 := Aside0.mk H
            clear H
            try go_wp2
            have n0_ := Aside0.mk (Kd.R_drew HO_281003.out)
            have n1_ := Aside0.mk (Kd.R_drew HO_281004.out)
            have n2_ := Aside0.mk (Kd.R_drew HO_291003.out)
            have n3_ := Aside0.mk (Kd.R_drew HO_291004.out)
            have n4_ := Aside0.mk (Kd.R_drew HO_302003.out)
            have n5_ := Aside0.mk (Kd.R_drew HO_302004.out)
            have n6_ := Aside0.mk (blk_drew BK259.out)
            have n7_ := Aside0.mk (blk_drew BK280.out)
            have n8_ := Aside0.mk (blk_drew BK290.out)
            have n9_ := Aside0.mk (blk_drew BK301.out)
            have n10_ := Aside0.mk (below_drew1 HB.out)
            clear HO_281003
            clear HO_281004
            clear HO_291003
            clear HO_291004
            clear HO_302003
            clear HO_302004
            clear BK259
            clear BK280
            clear BK290
            clear BK301
            clear HB
            have HO_281003 := n0_
            have HO_281004 := n1_
            have HO_291003 := n2_
            have HO_291004 := n3_
            have HO_302003 := n4_
            have HO_302004 := n5_
            have BK259 := n6_
            have BK280 := n7_
            have BK290 := n8_
            have BK301 := n9_
            have HB := n10_
            clear n0_ n1_ n2_ n3_ n4_ n5_ n6_ n7_ n8_ n9_ n10_
            refine start_ (n := 5) (S := fun w' => w'.cell? ⟨gb290, 0, none⟩ = some (.int .i64 t281) ∧ w'.cell? ⟨gb290, 1, none⟩ = some (.int .i64 t282) ∧ w'.cell? ⟨gb290, 2, none⟩ = some (.int .i64 t283) ∧ w'.cell? ⟨gb290, 3, none⟩ = some (.slice Ao32 t284.length co32) ∧ w'.cell? ⟨gb290, 4, none⟩ = some (.slice Ao33 t287.length co33) ∧ w'.cell? ⟨gb259, 0, none⟩ = some (.int .i64 a0_0) ∧ w'.cell? ⟨gb259, 1, none⟩ = some (.int .i64 a0_1) ∧ w'.cell? ⟨gb259, 2, none⟩ = some (.int .i64 a0_2) ∧ w'.cell? ⟨gb259, 3, none⟩ = some (.slice A0_3 l0_3.length c0_3) ∧ w'.cell? ⟨gb259, 4, none⟩ = some (.slice A0_4 l0_4.length c0_4)) (ds := []) #[false, false, false, false, false] (by kernel_rfl) rfl rfl ⟨(blk_cell BK290.out 0).trans rfl, (blk_cell BK290.out 1).trans rfl, (blk_cell BK290.out 2).trans rfl, (blk_cell BK290.out 3).trans rfl, (blk_cell BK290.out 4).trans rfl, (blk_cell BK259.out 0).trans rfl, (blk_cell BK259.out 1).trans rfl, (blk_cell BK259.out 2).trans rfl, (blk_cell BK259.out 3).trans rfl, (blk_cell BK259.out 4).trans rfl⟩ (fun hHeld => ?_)
            generalize wc.drew = w66 at HO_281003 HO_281004 HO_291003 HO_291004 HO_302003 HO_302004 BK259 BK280 BK290 BK301 HB hHeld ⊢
            refine take_ (i := 0) (N := some 45) (v := ?_) (a' := ?_) #[true, false, false, false, false] rfl rfl (by kernel_rfl) (fun _ _ _ h => h) (Or.inl ⟨by rfl, ?_⟩) hHeld ?_ ?_
            rotate_left
            · rintro w' ⟨s0, s1, s2, s3, s4, s5, s6, s7, s8, s9⟩
              go_simp
              with_reducible rfl
            rotate_left
            · simp only [Act.put, List.setIfInBounds_toArray, List.set_cons_zero, List.set_cons_succ, i64_w, i32_w]
              rfl
            refine take_ (i := 1) (N := some 46) (v := ?_) (a' := ?_) #[true, true, false, false, false] rfl rfl (by kernel_rfl) (fun _ _ _ h => h) (Or.inl ⟨by rfl, ?_⟩) hHeld ?_ ?_
            rotate_left
            · rintro w' ⟨s0, s1, s2, s3, s4, s5, s6, s7, s8, s9⟩
              go_simp
              with_reducible rfl
            rotate_left
            · simp only [Act.put, List.setIfInBounds_toArray, List.set_cons_zero, List.set_cons_succ, i64_w, i32_w]
              rfl
            refine one_ (i := 2) (N := some 47) #[true, true, true, false, false] rfl rfl (by kernel_rfl) (by decide) (fun K hK => ?_)
            refine goes_ Try.func15 (by kernel_rfl) rfl #[.agg #[.int .i64 a0_0, .int .i64 a0_1, .int .i64 a0_2, .slice A0_3 l0_3.length c0_3, .slice A0_4 l0_4.length c0_4]] (by rfl) rfl rfl (by (try simp only [List.map_toArray, List.map_cons, List.map_nil]); first | done | rfl | (simp only [List.length_drop, List.length_take]; rfl)) ?_
            with_reducible refine (laws_toGas.calls kj11 a0_0 a0_1 a0_2 _ _ l0_3 _ _ l0_4 t303 t304 t305 t306 t309 _ ?side1 ?side2 ?side3 ?side4 A61.out).mono ?_
            (case side1 => exact ck_ (Kd.C_below HR0_3.out HB.out))
            (case side2 => exact HC0_3.out)
            (case side3 => exact ck_ (Kd.C_below HR0_4.out HB.out))
            (case side4 => exact HC0_4.out)
            rintro e w67 ⟨v307, v310, rfl, ho0, ho1, hb⟩
            refine ⟨_, rfl, ?_⟩
            have n0_ := Aside0.mk (Kd.R_elder' (rk_ HO_281003.out) (Kd.R_base ho0) hb)
            have n1_ := Aside0.mk (Kd.R_elder' (rk_ HO_281004.out) (Kd.R_base ho1) hb)
            have n2_ := Aside0.mk (Kd.R_elder' (rk_ HO_291003.out) (Kd.R_base ho0) hb)
            have n3_ := Aside0.mk (Kd.R_elder' (rk_ HO_291004.out) (Kd.R_base ho1) hb)
            have n4_ := Aside0.mk (Kd.R_elder' (rk_ HO_302003.out) (Kd.R_base ho0) hb)
            have n5_ := Aside0.mk (Kd.R_elder' (rk_ HO_302004.out) (Kd.R_base ho1) hb)
            have n6_ := Aside0.mk (Kd.R_lower (Kd.R_new' (Kd.R_new' (Kd.R_new' ho0 (Kd.R_lt (rk_ HO_281003.out))) (Kd.R_lt (rk_ HO_291003.out))) (Kd.R_lt (rk_ HO_302003.out))) (below_size (bk_ HB.out)))
            have n7_ := Aside0.mk (Kd.R_lower (Kd.R_new' (Kd.R_new' (Kd.R_new' ho1 (Kd.R_lt (rk_ HO_281004.out))) (Kd.R_lt (rk_ HO_291004.out))) (Kd.R_lt (rk_ HO_302004.out))) (below_size (bk_ HB.out)))
            have n8_ := Aside0.mk (bb_ BK259.out hb)
            have n9_ := Aside0.mk (bb_ BK280.out hb)
            have n10_ := Aside0.mk (bb_ BK290.out hb)
            have n11_ := Aside0.mk (bb_ BK301.out hb)
            have n12_ := Aside0.mk (below_step (bk_ HB.out) hb)
            clear HO_281003
            clear HO_281004
            clear HO_291003
            clear HO_291004
            clear HO_302003
            clear HO_302004
            clear BK259
            clear BK280
            clear BK290
            clear BK301
            clear HB
            have HO_281003 := n0_
            have HO_281004 := n1_
            have HO_291003 := n2_
            have HO_291004 := n3_
            have HO_302003 := n4_
            have HO_302004 := n5_
            have HO308 := n6_
            have HO311 := n7_
            have BK259 := n8_
            have BK280 := n9_
            have BK290 := n10_
            have BK301 := n11_
            have HB := n12_
            clear n0_ n1_ n2_ n3_ n4_ n5_ n6_ n7_ n8_ n9_ n10_ n11_ n12_
            (try clear hb)
            (try clear hb2)
            (try clear hk)
            (try clear hi)
            (try clear ho0)
            (try clear ho1)
            obtain ⟨Ao68, co68, eo68⟩ := Kd.R_slice HO308.out
            (first | subst eo68 | (injection eo68 with f1_ f2_ f3_; have f4_ := f1_.symm; have f5_ := f3_.symm; clear f1_ f2_ f3_; subst f4_; subst f5_))
            obtain ⟨Ao69, co69, eo69⟩ := Kd.R_slice HO311.out
            (first | subst eo69 | (injection eo69 with f1_ f2_ f3_; have f4_ := f1_.symm; have f5_ := f3_.symm; clear f1_ f2_ f3_; subst f4_; subst f5_))
            refine hK.out _ _ ⟨(blk_cell BK290.out 0).trans rfl, (blk_cell BK290.out 1).trans rfl, (blk_cell BK290.out 2).trans rfl, (blk_cell BK290.out 3).trans rfl, (blk_cell BK290.out 4).trans rfl, (blk_cell BK259.out 0).trans rfl, (blk_cell BK259.out 1).trans rfl, (blk_cell BK259.out 2).trans rfl, (blk_cell BK259.out 3).trans rfl, (blk_cell BK259.out 4).trans rfl⟩ (fun hHeld => ?_)
            clear hK K
            refine norm_ (a' := ?_) ?_ ?_
            rotate_left
            · show Act.put _ (some 47) _ = _
              simp only [Act.put, List.setIfInBounds_toArray, List.set_cons_zero, List.set_cons_succ, i64_w, i32_w]
              rfl
            refine one_ (i := 3) (N := some 48) #[true, true, true, true, false] rfl rfl (by kernel_rfl) (by decide) (fun K hK => ?_)
            refine goes_ Try.func17 (by kernel_rfl) rfl #[.agg #[.int .i64 t281, .int .i64 t282, .int .i64 t283, .slice Ao32 t284.length co32, .slice Ao33 t287.length co33], .agg #[.int .i64 t303, .int .i64 t304, .int .i64 t305, .slice Ao68 t306.length co68, .slice Ao69 t309.length co69]] (by rfl) rfl rfl (by (try simp only [List.map_toArray, List.map_cons, List.map_nil]); first | done | rfl | (simp only [List.length_drop, List.length_take]; rfl)) ?_
            with_reducible refine (laws_eqGas.calls kj11 t281 t282 t283 _ _ t284 _ _ t287 t303 t304 t305 _ _ t306 _ _ t309 true _ ?side1 ?side2 ?side3 ?side4 ?side5 ?side6 ?side7 ?side8 A62.out).mono ?_
            (case side1 => repeat (first | exact (Kd.R_reads' HO_291003.out).2.2 | (with_reducible refine Kd.C_alloc ?_ _) | (with_reducible refine Kd.C_drewN ?_ _) | (with_reducible refine Kd.C_drew ?_)))
            (case side2 => exact (Kd.R_reads' HO_291003.out).2.1)
            (case side3 => repeat (first | exact (Kd.R_reads' HO_291004.out).2.2 | (with_reducible refine Kd.C_alloc ?_ _) | (with_reducible refine Kd.C_drewN ?_ _) | (with_reducible refine Kd.C_drew ?_)))
            (case side4 => exact (Kd.R_reads' HO_291004.out).2.1)
            (case side5 => repeat (first | exact (Kd.R_reads' HO308.out).2.2 | (with_reducible refine Kd.C_alloc ?_ _) | (with_reducible refine Kd.C_drewN ?_ _) | (with_reducible refine Kd.C_drew ?_)))
            (case side6 => exact (Kd.R_reads' HO308.out).2.1)
            (case side7 => repeat (first | exact (Kd.R_reads' HO311.out).2.2 | (with_reducible refine Kd.C_alloc ?_ _) | (with_reducible refine Kd.C_drewN ?_ _) | (with_reducible refine Kd.C_drew ?_)))
            (case side8 => exact (Kd.R_reads' HO311.out).2.1)
            rintro e w70 ⟨rfl, hb⟩
            refine ⟨_, rfl, ?_⟩
            have n0_ := Aside0.mk (Kd.R_below (rk_ HO_281003.out) hb)
            have n1_ := Aside0.mk (Kd.R_below (rk_ HO_281004.out) hb)
            have n2_ := Aside0.mk (Kd.R_below (rk_ HO_291003.out) hb)
            have n3_ := Aside0.mk (Kd.R_below (rk_ HO_291004.out) hb)
            have n4_ := Aside0.mk (Kd.R_below (rk_ HO_302003.out) hb)
            have n5_ := Aside0.mk (Kd.R_below (rk_ HO_302004.out) hb)
            have n6_ := Aside0.mk (Kd.R_below (rk_ HO308.out) hb)
            have n7_ := Aside0.mk (Kd.R_below (rk_ HO311.out) hb)
            have n8_ := Aside0.mk (bb_ BK259.out hb)
            have n9_ := Aside0.mk (bb_ BK280.out hb)
            have n10_ := Aside0.mk (bb_ BK290.out hb)
            have n11_ := Aside0.mk (bb_ BK301.out hb)
            have n12_ := Aside0.mk (below_step (bk_ HB.out) hb)
            clear HO_281003
            clear HO_281004
            clear HO_291003
            clear HO_291004
            clear HO_302003
            clear HO_302004
            clear HO308
            clear HO311
            clear BK259
            clear BK280
            clear BK290
            clear BK301
            clear HB
            have HO_281003 := n0_
            have HO_281004 := n1_
            have HO_291003 := n2_
            have HO_291004 := n3_
            have HO_302003 := n4_
            have HO_302004 := n5_
            have HO308 := n6_
            have HO311 := n7_
            have BK259 := n8_
            have BK280 := n9_
            have BK290 := n10_
            have BK301 := n11_
            have HB := n12_
            clear n0_ n1_ n2_ n3_ n4_ n5_ n6_ n7_ n8_ n9_ n10_ n11_ n12_
            (try clear hb)
            (try clear hb2)
            (try clear hk)
            (try clear hi)
            refine hK.out _ _ ⟨(blk_cell BK290.out 0).trans rfl, (blk_cell BK290.out 1).trans rfl, (blk_cell BK290.out 2).trans rfl, (blk_cell BK290.out 3).trans rfl, (blk_cell BK290.out 4).trans rfl, (blk_cell BK259.out 0).trans rfl, (blk_cell BK259.out 1).trans rfl, (blk_cell BK259.out 2).trans rfl, (blk_cell BK259.out 3).trans rfl, (blk_cell BK259.out 4).trans rfl⟩ (fun hHeld => ?_)
            clear hK K
            refine norm_ (a' := ?_) ?_ ?_
            rotate_left
            · show Act.put _ (some 48) _ = _
              simp only [Act.put, List.setIfInBounds_toArray, List.set_cons_zero, List.set_cons_succ, i64_w, i32_w]
              rfl
            refine pure_ (i := 4) (N := some 49) (v := ?_) (a' := ?_) #[true, true, true, true, true] rfl rfl (by kernel_rfl) (fun _ _ _ h => h) (Or.inl ⟨by rfl, ?_⟩) ?_ ?_
            rotate_left
            · intro w'
              go_simp
              with_reducible rfl
            rotate_left
            · simp only [Act.put, List.setIfInBounds_toArray, List.set_cons_zero, List.set_cons_succ, i64_w, i32_w]
              rfl
            refine done_ (by kernel_rfl) ?_
            have hnb71 := NB290_259.out
            have hnc71 := NB259_290.out
            have hnb72 := NB290_280.out
            have hnc72 := NB280_290.out
            have hnb73 := NB290_301.out
            have hnc73 := NB301_290.out
            have hcz74_0 := bc_ BK290.out 0 (.int .i64 t281)
            have hcz74_1 := bc_ BK290.out 1 (.int .i64 t282)
            have hcz74_2 := bc_ BK290.out 2 (.int .i64 t283)
            have hcz74_3 := bc_ BK290.out 3 (.slice Ao32 t284.length co32)
            have hcz74_4 := bc_ BK290.out 4 (.slice Ao33 t287.length co33)
            have hfz74_0 := blk_frozen BK290.out 0
            have hfz74_1 := blk_frozen BK290.out 1
            have hfz74_2 := blk_frozen BK290.out 2
            have hfz74_3 := blk_frozen BK290.out 3
            have hfz74_4 := blk_frozen BK290.out 4
            go_upto_region 14 with (first | ((with_reducible refine gate_callee (f := 18) rfl ?_); refine goesL_ (some 52) rfl rfl Try.func18 (by kernel_rfl) rfl #[.agg #[.int .i64 t281, .int .i64 t282, .int .i64 t283, .slice Ao32 t284.length co32, .slice Ao33 t287.length co33], .int .i64 1] rfl (by (try simp only [List.map_toArray, List.map_cons, List.map_nil]); first | done | rfl | (simp only [List.length_drop, List.length_take]; rfl)) ?_; (with_reducible refine (laws_markGas.calls kj11 t281 t282 t283 (fun k_ => some k_ = (.slice Ao32 t284.length co32 : Value).ownBlock) (.slice Ao32 t284.length co32) t284 (fun k_ => some k_ = (.slice Ao33 t287.length co33 : Value).ownBlock) (.slice Ao33 t287.length co33) t287 1 t313 t314 t315 w _ ?side1 ?side2 ?side3 A64.out).mono ?_); (case side1 => repeat (first | (with_reducible first | exact HB.out | apply below_alloc | apply pw_below_drewN | apply below_drew1 | refine below_set ?_ GE259.out | refine below_set ?_ GE280.out | refine below_set ?_ GE290.out | refine below_set ?_ GE301.out) | exact HB.out)); (case side2 => exact Kd.R_tight rfl HO_291003.out); (case side3 => exact Kd.R_tight rfl HO_291004.out); rintro e w75 ⟨rfl, hy0, hy1, hb, hkp⟩; refine ⟨_, rfl, ?_⟩; have n0_ := Aside0.mk (Kd.R_mono (ok' := fun k_ => some k_ ≠ (.slice Ao32 t284.length co32 : Value).ownBlock ∧ some k_ ≠ (.slice Ao40 t294.length co40 : Value).ownBlock ∧ some k_ ≠ (.slice Ao68 t306.length co68 : Value).ownBlock) (Kd.R_keptB ((Kd.R_apart' HO_281003.out (Kd.R_typed HO_291004.out) (by decide))) hkp (fun k_ hk_ hs_ => Or.elim hs_ (fun e_ => (hk_.1.1.1) e_) (fun e_ => (hk_.2) e_))) (fun k_ hk_ => ⟨hk_.1.1.1.1, hk_.1.1.1.2, hk_.1.1.2⟩)); have n1_ := Aside0.mk (Kd.R_mono (ok' := fun k_ => some k_ ≠ (.slice Ao33 t287.length co33 : Value).ownBlock ∧ some k_ ≠ (.slice Ao41 t297.length co41 : Value).ownBlock ∧ some k_ ≠ (.slice Ao69 t309.length co69 : Value).ownBlock) (Kd.R_keptB ((Kd.R_apart' HO_281004.out (Kd.R_typed HO_291003.out) (by decide))) hkp (fun k_ hk_ hs_ => Or.elim hs_ (fun e_ => (hk_.2) e_) (fun e_ => (hk_.1.1.1) e_))) (fun k_ hk_ => ⟨hk_.1.1.1.1, hk_.1.1.1.2, hk_.1.1.2⟩)); have n2_ := Aside0.mk (Kd.R_reok rfl hy0 (fun k_ e_ => HO_291003.out.1 k_ e_)); have n3_ := Aside0.mk (Kd.R_reok rfl hy1 (fun k_ e_ => HO_291004.out.1 k_ e_)); have n4_ := Aside0.mk (Kd.R_mono (ok' := fun k_ => some k_ ≠ (.slice Ao24 t273.length co24 : Value).ownBlock ∧ some k_ ≠ (.slice Ao32 t284.length co32 : Value).ownBlock ∧ some k_ ≠ (.slice Ao68 t306.length co68 : Value).ownBlock) (Kd.R_keptB ((Kd.R_apart' HO_302003.out (Kd.R_typed HO_291004.out) (by decide))) hkp (fun k_ hk_ hs_ => Or.elim hs_ (fun e_ => (hk_.1.1.2) e_) (fun e_ => (hk_.2) e_))) (fun k_ hk_ => ⟨hk_.1.1.1.1, hk_.1.1.1.2, hk_.1.1.2⟩)); have n5_ := Aside0.mk (Kd.R_mono (ok' := fun k_ => some k_ ≠ (.slice Ao25 t276.length co25 : Value).ownBlock ∧ some k_ ≠ (.slice Ao33 t287.length co33 : Value).ownBlock ∧ some k_ ≠ (.slice Ao69 t309.length co69 : Value).ownBlock) (Kd.R_keptB ((Kd.R_apart' HO_302004.out (Kd.R_typed HO_291003.out) (by decide))) hkp (fun k_ hk_ hs_ => Or.elim hs_ (fun e_ => (hk_.2) e_) (fun e_ => (hk_.1.1.2) e_))) (fun k_ hk_ => ⟨hk_.1.1.1.1, hk_.1.1.1.2, hk_.1.1.2⟩)); have n6_ := Aside0.mk (blk_kept (pk_ BK259.out) hkp (fun hs_ => Or.elim hs_ (fun e_ => (fun e_ => (Kd.R_ne HO_291003.out BK259.out (by decide)) e_) e_) (fun e_ => (fun e_ => (Kd.R_ne HO_291004.out BK259.out (by decide)) e_) e_))); have n7_ := Aside0.mk (blk_kept (pk_ BK280.out) hkp (fun hs_ => Or.elim hs_ (fun e_ => (fun e_ => (Kd.R_ne HO_291003.out BK280.out (by decide)) e_) e_) (fun e_ => (fun e_ => (Kd.R_ne HO_291004.out BK280.out (by decide)) e_) e_))); have n8_ := Aside0.mk (blk_kept (pk_ BK290.out) hkp (fun hs_ => Or.elim hs_ (fun e_ => (fun e_ => (Kd.R_ne HO_291003.out BK290.out (by decide)) e_) e_) (fun e_ => (fun e_ => (Kd.R_ne HO_291004.out BK290.out (by decide)) e_) e_))); have n9_ := Aside0.mk (blk_kept (pk_ BK301.out) hkp (fun hs_ => Or.elim hs_ (fun e_ => (fun e_ => (Kd.R_ne HO_291003.out BK301.out (by decide)) e_) e_) (fun e_ => (fun e_ => (Kd.R_ne HO_291004.out BK301.out (by decide)) e_) e_))); have n10_ := Aside0.mk (Kd.R_mono (ok' := fun k_ => some k_ ≠ (.slice Ao24 t273.length co24 : Value).ownBlock ∧ some k_ ≠ (.slice Ao32 t284.length co32 : Value).ownBlock ∧ some k_ ≠ (.slice Ao40 t294.length co40 : Value).ownBlock) (Kd.R_keptB ((Kd.R_apart' HO308.out (Kd.R_typed HO_291004.out) (by decide))) hkp (fun k_ hk_ hs_ => Or.elim hs_ (fun e_ => (hk_.1.1.2) e_) (fun e_ => (hk_.2) e_))) (fun k_ hk_ => ⟨hk_.1.1.1.1.2, hk_.1.1.1.2, hk_.1.1.2⟩)); have n11_ := Aside0.mk (Kd.R_mono (ok' := fun k_ => some k_ ≠ (.slice Ao25 t276.length co25 : Value).ownBlock ∧ some k_ ≠ (.slice Ao33 t287.length co33 : Value).ownBlock ∧ some k_ ≠ (.slice Ao41 t297.length co41 : Value).ownBlock) (Kd.R_keptB ((Kd.R_apart' HO311.out (Kd.R_typed HO_291003.out) (by decide))) hkp (fun k_ hk_ hs_ => Or.elim hs_ (fun e_ => (hk_.2) e_) (fun e_ => (hk_.1.1.2) e_))) (fun k_ hk_ => ⟨hk_.1.1.1.1.2, hk_.1.1.1.2, hk_.1.1.2⟩)); have n12_ := Aside0.mk (hb); clear HO_281003; clear HO_281004; clear HO_291003; clear HO_291004; clear HO_302003; clear HO_302004; clear BK259; clear BK280; clear BK290; clear BK301; clear HO308; clear HO311; clear HB; have HO_281003 := n0_; have HO_281004 := n1_; have HO_291003 := n2_; have HO_291004 := n3_; have HO_302003 := n4_; have HO_302004 := n5_; have BK259 := n6_; have BK280 := n7_; have BK290 := n8_; have BK301 := n9_; have HO308 := n10_; have HO311 := n11_; have HB := n12_; clear n0_ n1_ n2_ n3_ n4_ n5_ n6_ n7_ n8_ n9_ n10_ n11_ n12_; (try clear hb); (try clear hkp); (try clear hy0); (try clear hy1)))
            (try simp only [Act.put, List.setIfInBounds_toArray, List.set_cons_zero, List.set_cons_succ])
            go_cut [65] (fun v65 wc => ∃ (kq : Nat) (x65_64 : Bool), v65 = .bool x65_64 ∧ Aside0 (laws_FnExactCollideGas.j1 kq a1 t279 x65_64 a0_0 a0_1 a0_2 l0_3 l0_4 t270 t271 t272 t273 t276 t291 t292 t293 t294 t297 = some r) ∧ Aside0 (kq ≤ kj11) ∧ Aside0 (Kd.R (Kd.int .i64) 2 wc w.heap.size (fun k_ => some k_ ≠ ((.slice Ao32 t284.length co32) : Value).ownBlock ∧ some k_ ≠ ((.slice Ao40 t294.length co40) : Value).ownBlock) (.slice Ao24 t273.length co24) t273) ∧ Aside0 (Kd.R Kd.bool 4 wc w.heap.size (fun k_ => some k_ ≠ ((.slice Ao33 t287.length co33) : Value).ownBlock ∧ some k_ ≠ ((.slice Ao41 t297.length co41) : Value).ownBlock) (.slice Ao25 t276.length co25) t276) ∧ Aside0 (Kd.R (Kd.int .i64) 2 wc w.heap.size (fun k_ => some k_ ≠ ((.slice Ao24 t273.length co24) : Value).ownBlock ∧ some k_ ≠ ((.slice Ao40 t294.length co40) : Value).ownBlock) (.slice Ao32 t284.length co32) t314) ∧ Aside0 (Kd.R Kd.bool 4 wc w.heap.size (fun k_ => some k_ ≠ ((.slice Ao25 t276.length co25) : Value).ownBlock ∧ some k_ ≠ ((.slice Ao41 t297.length co41) : Value).ownBlock) (.slice Ao33 t287.length co33) t315) ∧ Aside0 (Kd.R (Kd.int .i64) 2 wc w.heap.size (fun k_ => some k_ ≠ ((.slice Ao24 t273.length co24) : Value).ownBlock ∧ some k_ ≠ ((.slice Ao32 t284.length co32) : Value).ownBlock) (.slice Ao40 t294.length co40) t294) ∧ Aside0 (Kd.R Kd.bool 4 wc w.heap.size (fun k_ => some k_ ≠ ((.slice Ao25 t276.length co25) : Value).ownBlock ∧ some k_ ≠ ((.slice Ao33 t287.length co33) : Value).ownBlock) (.slice Ao41 t297.length co41) t297) ∧ Aside0 (wc.heap[gb259]? = some (.cells #[.int .i64 a0_0, .int .i64 a0_1, .int .i64 a0_2, (.slice A0_3 l0_3.length c0_3), (.slice A0_4 l0_4.length c0_4)] 25 (0, 0))) ∧ Aside0 (wc.heap[gb280]? = some (.cells #[.int .i64 t270, .int .i64 t271, .int .i64 t272, (.slice Ao24 t273.length co24), (.slice Ao25 t276.length co25)] 27 (0, 0))) ∧ Aside0 (wc.heap[gb290]? = some (.cells #[.int .i64 t281, .int .i64 t282, .int .i64 t283, (.slice Ao32 t284.length co32), (.slice Ao33 t287.length co33)] 27 (0, 0))) ∧ Aside0 (wc.heap[gb301]? = some (.cells #[.int .i64 t291, .int .i64 t292, .int .i64 t293, (.slice Ao40 t294.length co40), (.slice Ao41 t297.length co41)] 27 (0, 0))) ∧ Aside0 (Below w.heap.size w wc))
            case first =>
              have H := HC65.out
              clear HC65
              by_cases c76 : t313 < 0
              · rw [if_pos c76] at H
                have c76b0 : decide (t313 < 0) = true := decide_eq_true c76
                clear c76
                (first | rw [c76b0] | (simp only [i64_w, i32_w]; rw [c76b0]) | skip)
                have H' := Aside0.mk H
                clear H
                go_wp2
                go_meet
                case rel => exact ⟨_, (true), (by first | rfl | (simp; done) | (simp [i64_w, i32_w]; done) | (simp [*]; done) | (simp [*, i64_w, i32_w]; done)), H', ⟨by have := HJ11.out; first | omega | exact Nat.le_refl _⟩, ⟨by (with_reducible repeat (first | apply Kd.R_alloc | apply Kd.R_drewN | apply Kd.R_drew)); exact Kd.R_mono HO_281003.out (fun _ hk => ⟨hk.1, hk.2.1⟩)⟩, ⟨by (with_reducible repeat (first | apply Kd.R_alloc | apply Kd.R_drewN | apply Kd.R_drew)); exact Kd.R_mono HO_281004.out (fun _ hk => ⟨hk.1, hk.2.1⟩)⟩, ⟨by (with_reducible repeat (first | apply Kd.R_alloc | apply Kd.R_drewN | apply Kd.R_drew)); exact Kd.R_mono HO_291003.out (fun _ hk => ⟨hk.1.1, hk.1.2⟩)⟩, ⟨by (with_reducible repeat (first | apply Kd.R_alloc | apply Kd.R_drewN | apply Kd.R_drew)); exact Kd.R_mono HO_291004.out (fun _ hk => ⟨hk.1.1, hk.1.2⟩)⟩, ⟨by (with_reducible repeat (first | apply Kd.R_alloc | apply Kd.R_drewN | apply Kd.R_drew)); exact Kd.R_mono HO_302003.out (fun _ hk => ⟨hk.1, hk.2.1⟩)⟩, ⟨by (with_reducible repeat (first | apply Kd.R_alloc | apply Kd.R_drewN | apply Kd.R_drew)); exact Kd.R_mono HO_302004.out (fun _ hk => ⟨hk.1, hk.2.1⟩)⟩, ⟨pk_ BK259.out⟩, ⟨pk_ BK280.out⟩, ⟨pk_ BK290.out⟩, ⟨pk_ BK301.out⟩, ⟨bk_ HB.out⟩⟩
              · rw [if_neg c76] at H
                have c76b0 : decide (t313 < 0) = false := decide_eq_false c76
                clear c76
                (first | rw [c76b0] | (simp only [i64_w, i32_w]; rw [c76b0]) | skip)
                replace H := Option.bind_eq_some_iff.mp H
                obtain ⟨t316, A770, H⟩ := H
                replace H : (if t316 = true then (laws_FnExactCollideGas.j1 kj11 a1 t279 (t300 != t279) a0_0 a0_1 a0_2 l0_3 l0_4 t270 t271 t272 t273 t276 t291 t292 t293 t294 t297) else (laws_FnExactCollideGas.j1 kj11 a1 t279 true a0_0 a0_1 a0_2 l0_3 l0_4 t270 t271 t272 t273 t276 t291 t292 t293 t294 t297)) = some r := H
                have A77 := Aside0.mk A770
                clear A770
                by_cases c78 : t316 = true
                · subst c78
                  have H1 : (laws_FnExactCollideGas.j1 kj11 a1 t279 (t300 != t279) a0_0 a0_1 a0_2 l0_3 l0_4 t270 t271 t272 t273 t276 t291 t292 t293 t294 t297) = some r := by rw [if_pos rfl] at H; exact H
                  clear H
                  have H := H1
                  clear H1
                  have H' := Aside0.mk H
                  clear H
                  have hnb79 := NB301_259.out
                  have hnc79 := NB259_301.out
                  have hnb80 := NB301_280.out
                  have hnc80 := NB280_301.out
                  have hnb81 := NB301_290.out
                  have hnc81 := NB290_301.out
                  have hcz82_0 := bc_ BK301.out 0 (.int .i64 t291)
                  have hcz82_1 := bc_ BK301.out 1 (.int .i64 t292)
                  have hcz82_2 := bc_ BK301.out 2 (.int .i64 t293)
                  have hcz82_3 := bc_ BK301.out 3 (.slice Ao40 t294.length co40)
                  have hcz82_4 := bc_ BK301.out 4 (.slice Ao41 t297.length co41)
                  have hfz82_0 := blk_frozen BK301.out 0
                  have hfz82_1 := blk_frozen BK301.out 1
                  have hfz82_2 := blk_frozen BK301.out 2
                  have hfz82_3 := blk_frozen BK301.out 3
                  have hfz82_4 := blk_frozen BK301.out 4
                  have hnb83 := NB280_259.out
                  have hnc83 := NB259_280.out
                  have hnb84 := NB280_290.out
                  have hnc84 := NB290_280.out
                  have hcz85_0 := bc_ BK280.out 0 (.int .i64 t270)
                  have hcz85_1 := bc_ BK280.out 1 (.int .i64 t271)
                  have hcz85_2 := bc_ BK280.out 2 (.int .i64 t272)
                  have hcz85_3 := bc_ BK280.out 3 (.slice Ao24 t273.length co24)
                  have hcz85_4 := bc_ BK280.out 4 (.slice Ao25 t276.length co25)
                  have hfz85_0 := blk_frozen BK280.out 0
                  have hfz85_1 := blk_frozen BK280.out 1
                  have hfz85_2 := blk_frozen BK280.out 2
                  have hfz85_3 := blk_frozen BK280.out 3
                  have hfz85_4 := blk_frozen BK280.out 4
                  go_wp2_with (first | (go_at_call 17; (with_reducible refine (laws_eqGas.calls kj11 t291 t292 t293 _ _ t294 _ _ t297 t270 t271 t272 _ _ t273 _ _ t276 true _ ?side1 ?side2 ?side3 ?side4 ?side5 ?side6 ?side7 ?side8 A77.out).mono ?_); (case side1 => repeat (first | exact (Kd.R_reads' HO_302003.out).2.2 | (with_reducible refine Kd.C_alloc ?_ _) | (with_reducible refine Kd.C_drewN ?_ _) | (with_reducible refine Kd.C_drew ?_))); (case side2 => exact (Kd.R_reads' HO_302003.out).2.1); (case side3 => repeat (first | exact (Kd.R_reads' HO_302004.out).2.2 | (with_reducible refine Kd.C_alloc ?_ _) | (with_reducible refine Kd.C_drewN ?_ _) | (with_reducible refine Kd.C_drew ?_))); (case side4 => exact (Kd.R_reads' HO_302004.out).2.1); (case side5 => repeat (first | exact (Kd.R_reads' HO_281003.out).2.2 | (with_reducible refine Kd.C_alloc ?_ _) | (with_reducible refine Kd.C_drewN ?_ _) | (with_reducible refine Kd.C_drew ?_))); (case side6 => exact (Kd.R_reads' HO_281003.out).2.1); (case side7 => repeat (first | exact (Kd.R_reads' HO_281004.out).2.2 | (with_reducible refine Kd.C_alloc ?_ _) | (with_reducible refine Kd.C_drewN ?_ _) | (with_reducible refine Kd.C_drew ?_))); (case side8 => exact (Kd.R_reads' HO_281004.out).2.1); rintro e w86 ⟨rfl, hb⟩; have n0_ := Aside0.mk (Kd.R_below (rk_ HO_281003.out) hb); have n1_ := Aside0.mk (Kd.R_below (rk_ HO_281004.out) hb); have n2_ := Aside0.mk (Kd.R_below (rk_ HO_291003.out) hb); have n3_ := Aside0.mk (Kd.R_below (rk_ HO_291004.out) hb); have n4_ := Aside0.mk (Kd.R_below (rk_ HO_302003.out) hb); have n5_ := Aside0.mk (Kd.R_below (rk_ HO_302004.out) hb); have n6_ := Aside0.mk (Kd.R_below (rk_ HO308.out) hb); have n7_ := Aside0.mk (Kd.R_below (rk_ HO311.out) hb); have n8_ := Aside0.mk (bb_ BK259.out hb); have n9_ := Aside0.mk (bb_ BK280.out hb); have n10_ := Aside0.mk (bb_ BK290.out hb); have n11_ := Aside0.mk (bb_ BK301.out hb); have n12_ := Aside0.mk (below_step (bk_ HB.out) hb); clear HO_281003; clear HO_281004; clear HO_291003; clear HO_291004; clear HO_302003; clear HO_302004; clear HO308; clear HO311; clear BK259; clear BK280; clear BK290; clear BK301; clear HB; have HO_281003 := n0_; have HO_281004 := n1_; have HO_291003 := n2_; have HO_291004 := n3_; have HO_302003 := n4_; have HO_302004 := n5_; have HO308 := n6_; have HO311 := n7_; have BK259 := n8_; have BK280 := n9_; have BK290 := n10_; have BK301 := n11_; have HB := n12_; clear n0_ n1_ n2_ n3_ n4_ n5_ n6_ n7_ n8_ n9_ n10_ n11_ n12_; (try clear hb); (try clear hb2); (try clear hk); (try clear hi)))
                  go_meet
                  case rel => exact ⟨_, ((t300 != t279)), (by first | rfl | (simp; done) | (simp [i64_w, i32_w]; done) | (simp [*]; done) | (simp [*, i64_w, i32_w]; done)), H', ⟨by have := HJ11.out; first | omega | exact Nat.le_refl _⟩, ⟨by (with_reducible repeat (first | apply Kd.R_alloc | apply Kd.R_drewN | apply Kd.R_drew)); exact Kd.R_mono HO_281003.out (fun _ hk => ⟨hk.1, hk.2.1⟩)⟩, ⟨by (with_reducible repeat (first | apply Kd.R_alloc | apply Kd.R_drewN | apply Kd.R_drew)); exact Kd.R_mono HO_281004.out (fun _ hk => ⟨hk.1, hk.2.1⟩)⟩, ⟨by (with_reducible repeat (first | apply Kd.R_alloc | apply Kd.R_drewN | apply Kd.R_drew)); exact Kd.R_mono HO_291003.out (fun _ hk => ⟨hk.1.1, hk.1.2⟩)⟩, ⟨by (with_reducible repeat (first | apply Kd.R_alloc | apply Kd.R_drewN | apply Kd.R_drew)); exact Kd.R_mono HO_291004.out (fun _ hk => ⟨hk.1.1, hk.1.2⟩)⟩, ⟨by (with_reducible repeat (first | apply Kd.R_alloc | apply Kd.R_drewN | apply Kd.R_drew)); exact Kd.R_mono HO_302003.out (fun _ hk => ⟨hk.1, hk.2.1⟩)⟩, ⟨by (with_reducible repeat (first | apply Kd.R_alloc | apply Kd.R_drewN | apply Kd.R_drew)); exact Kd.R_mono HO_302004.out (fun _ hk => ⟨hk.1, hk.2.1⟩)⟩, ⟨pk_ BK259.out⟩, ⟨pk_ BK280.out⟩, ⟨pk_ BK290.out⟩, ⟨pk_ BK301.out⟩, ⟨bk_ HB.out⟩⟩
                · replace c78 := Bool.eq_false_iff.mpr c78
                  subst c78
                  have H1 : (laws_FnExactCollideGas.j1 kj11 a1 t279 true a0_0 a0_1 a0_2 l0_3 l0_4 t270 t271 t272 t273 t276 t291 t292 t293 t294 t297) = some r := by rw [if_neg (show ¬ (false = true) by decide)] at H; exact H
                  clear H
                  have H := H1
                  clear H1
                  have H' := Aside0.mk H
                  clear H
                  have hnb87 := NB301_259.out
                  have hnc87 := NB259_301.out
                  have hnb88 := NB301_280.out
                  have hnc88 := NB280_301.out
                  have hnb89 := NB301_290.out
                  have hnc89 := NB290_301.out
                  have hcz90_0 := bc_ BK301.out 0 (.int .i64 t291)
                  have hcz90_1 := bc_ BK301.out 1 (.int .i64 t292)
                  have hcz90_2 := bc_ BK301.out 2 (.int .i64 t293)
                  have hcz90_3 := bc_ BK301.out 3 (.slice Ao40 t294.length co40)
                  have hcz90_4 := bc_ BK301.out 4 (.slice Ao41 t297.length co41)
                  have hfz90_0 := blk_frozen BK301.out 0
                  have hfz90_1 := blk_frozen BK301.out 1
                  have hfz90_2 := blk_frozen BK301.out 2
                  have hfz90_3 := blk_frozen BK301.out 3
                  have hfz90_4 := blk_frozen BK301.out 4
                  have hnb91 := NB280_259.out
                  have hnc91 := NB259_280.out
                  have hnb92 := NB280_290.out
                  have hnc92 := NB290_280.out
                  have hcz93_0 := bc_ BK280.out 0 (.int .i64 t270)
                  have hcz93_1 := bc_ BK280.out 1 (.int .i64 t271)
                  have hcz93_2 := bc_ BK280.out 2 (.int .i64 t272)
                  have hcz93_3 := bc_ BK280.out 3 (.slice Ao24 t273.length co24)
                  have hcz93_4 := bc_ BK280.out 4 (.slice Ao25 t276.length co25)
                  have hfz93_0 := blk_frozen BK280.out 0
                  have hfz93_1 := blk_frozen BK280.out 1
                  have hfz93_2 := blk_frozen BK280.out 2
                  have hfz93_3 := blk_frozen BK280.out 3
                  have hfz93_4 := blk_frozen BK280.out 4
                  go_wp2_with (first | (go_at_call 17; (with_reducible refine (laws_eqGas.calls kj11 t291 t292 t293 _ _ t294 _ _ t297 t270 t271 t272 _ _ t273 _ _ t276 false _ ?side1 ?side2 ?side3 ?side4 ?side5 ?side6 ?side7 ?side8 A77.out).mono ?_); (case side1 => repeat (first | exact (Kd.R_reads' HO_302003.out).2.2 | (with_reducible refine Kd.C_alloc ?_ _) | (with_reducible refine Kd.C_drewN ?_ _) | (with_reducible refine Kd.C_drew ?_))); (case side2 => exact (Kd.R_reads' HO_302003.out).2.1); (case side3 => repeat (first | exact (Kd.R_reads' HO_302004.out).2.2 | (with_reducible refine Kd.C_alloc ?_ _) | (with_reducible refine Kd.C_drewN ?_ _) | (with_reducible refine Kd.C_drew ?_))); (case side4 => exact (Kd.R_reads' HO_302004.out).2.1); (case side5 => repeat (first | exact (Kd.R_reads' HO_281003.out).2.2 | (with_reducible refine Kd.C_alloc ?_ _) | (with_reducible refine Kd.C_drewN ?_ _) | (with_reducible refine Kd.C_drew ?_))); (case side6 => exact (Kd.R_reads' HO_281003.out).2.1); (case side7 => repeat (first | exact (Kd.R_reads' HO_281004.out).2.2 | (with_reducible refine Kd.C_alloc ?_ _) | (with_reducible refine Kd.C_drewN ?_ _) | (with_reducible refine Kd.C_drew ?_))); (case side8 => exact (Kd.R_reads' HO_281004.out).2.1); rintro e w94 ⟨rfl, hb⟩; have n0_ := Aside0.mk (Kd.R_below (rk_ HO_281003.out) hb); have n1_ := Aside0.mk (Kd.R_below (rk_ HO_281004.out) hb); have n2_ := Aside0.mk (Kd.R_below (rk_ HO_291003.out) hb); have n3_ := Aside0.mk (Kd.R_below (rk_ HO_291004.out) hb); have n4_ := Aside0.mk (Kd.R_below (rk_ HO_302003.out) hb); have n5_ := Aside0.mk (Kd.R_below (rk_ HO_302004.out) hb); have n6_ := Aside0.mk (Kd.R_below (rk_ HO308.out) hb); have n7_ := Aside0.mk (Kd.R_below (rk_ HO311.out) hb); have n8_ := Aside0.mk (bb_ BK259.out hb); have n9_ := Aside0.mk (bb_ BK280.out hb); have n10_ := Aside0.mk (bb_ BK290.out hb); have n11_ := Aside0.mk (bb_ BK301.out hb); have n12_ := Aside0.mk (below_step (bk_ HB.out) hb); clear HO_281003; clear HO_281004; clear HO_291003; clear HO_291004; clear HO_302003; clear HO_302004; clear HO308; clear HO311; clear BK259; clear BK280; clear BK290; clear BK301; clear HB; have HO_281003 := n0_; have HO_281004 := n1_; have HO_291003 := n2_; have HO_291004 := n3_; have HO_302003 := n4_; have HO_302004 := n5_; have HO308 := n6_; have HO311 := n7_; have BK259 := n8_; have BK280 := n9_; have BK290 := n10_; have BK301 := n11_; have HB := n12_; clear n0_ n1_ n2_ n3_ n4_ n5_ n6_ n7_ n8_ n9_ n10_ n11_ n12_; (try clear hb); (try clear hb2); (try clear hk); (try clear hi)))
                  go_meet
                  case rel => exact ⟨_, (true), (by first | rfl | (simp; done) | (simp [i64_w, i32_w]; done) | (simp [*]; done) | (simp [*, i64_w, i32_w]; done)), H', ⟨by have := HJ11.out; first | omega | exact Nat.le_refl _⟩, ⟨by (with_reducible repeat (first | apply Kd.R_alloc | apply Kd.R_drewN | apply Kd.R_drew)); exact Kd.R_mono HO_281003.out (fun _ hk => ⟨hk.1, hk.2.1⟩)⟩, ⟨by (with_reducible repeat (first | apply Kd.R_alloc | apply Kd.R_drewN | apply Kd.R_drew)); exact Kd.R_mono HO_281004.out (fun _ hk => ⟨hk.1, hk.2.1⟩)⟩, ⟨by (with_reducible repeat (first | apply Kd.R_alloc | apply Kd.R_drewN | apply Kd.R_drew)); exact Kd.R_mono HO_291003.out (fun _ hk => ⟨hk.1.1, hk.1.2⟩)⟩, ⟨by (with_reducible repeat (first | apply Kd.R_alloc | apply Kd.R_drewN | apply Kd.R_drew)); exact Kd.R_mono HO_291004.out (fun _ hk => ⟨hk.1.1, hk.1.2⟩)⟩, ⟨by (with_reducible repeat (first | apply Kd.R_alloc | apply Kd.R_drewN | apply Kd.R_drew)); exact Kd.R_mono HO_302003.out (fun _ hk => ⟨hk.1, hk.2.1⟩)⟩, ⟨by (with_reducible repeat (first | apply Kd.R_alloc | apply Kd.R_drewN | apply Kd.R_drew)); exact Kd.R_mono HO_302004.out (fun _ hk => ⟨hk.1, hk.2.1⟩)⟩, ⟨pk_ BK259.out⟩, ⟨pk_ BK280.out⟩, ⟨pk_ BK290.out⟩, ⟨pk_ BK301.out⟩, ⟨bk_ HB.out⟩⟩
            case rest =>
              clear HC65
              try clear c1
              try clear c2
              try clear p2
              try clear c3
              try clear c4
              try clear c4b0
              try clear c5
              try clear c6
              try clear c7
              try clear c8
              try clear c9
              try clear c13
              try clear c15
              try clear c17
              try clear c18
              try clear c20
              try clear c21
              try clear c22
              try clear c29
              try clear c30
              try clear c36
              try clear c37
              try clear c38
              try clear c43
              try clear c44
              try clear c45
              try clear c46
              try clear c48
              try clear c49
              try clear c52
              try clear c53
              try clear c54
              try clear c56
              try clear c57
              try clear c60
              try clear c63
              try clear c71
              try clear c72
              try clear c73
              try clear c76
              try clear c76b0
              try clear c78
              try clear c79
              try clear c80
              try clear c81
              try clear c83
              try clear c84
              try clear c87
              try clear c88
              try clear c89
              try clear c91
              try clear c92
              try clear hcz14_0
              try clear hcz14_1
              try clear hcz14_2
              try clear hcz14_3
              try clear hcz14_4
              try clear hcz16_0
              try clear hcz16_1
              try clear hcz16_2
              try clear hcz16_3
              try clear hcz16_4
              try clear hcz23_0
              try clear hcz23_1
              try clear hcz23_2
              try clear hcz23_3
              try clear hcz23_4
              try clear hcz26_0
              try clear hcz26_1
              try clear hcz26_2
              try clear hcz26_3
              try clear hcz26_4
              try clear hcz31_0
              try clear hcz31_1
              try clear hcz31_2
              try clear hcz31_3
              try clear hcz31_4
              try clear hcz39_0
              try clear hcz39_1
              try clear hcz39_2
              try clear hcz39_3
              try clear hcz39_4
              try clear hcz47_0
              try clear hcz47_1
              try clear hcz47_2
              try clear hcz47_3
              try clear hcz47_4
              try clear hcz50_0
              try clear hcz50_1
              try clear hcz50_2
              try clear hcz50_3
              try clear hcz50_4
              try clear hcz55_0
              try clear hcz55_1
              try clear hcz55_2
              try clear hcz55_3
              try clear hcz55_4
              try clear hcz58_0
              try clear hcz58_1
              try clear hcz58_2
              try clear hcz58_3
              try clear hcz58_4
              try clear hcz6_0
              try clear hcz6_1
              try clear hcz6_2
              try clear hcz6_3
              try clear hcz6_4
              try clear hcz74_0
              try clear hcz74_1
              try clear hcz74_2
              try clear hcz74_3
              try clear hcz74_4
              try clear hcz82_0
              try clear hcz82_1
              try clear hcz82_2
              try clear hcz82_3
              try clear hcz82_4
              try clear hcz85_0
              try clear hcz85_1
              try clear hcz85_2
              try clear hcz85_3
              try clear hcz85_4
              try clear hcz90_0
              try clear hcz90_1
              try clear hcz90_2
              try clear hcz90_3
              try clear hcz90_4
              try clear hcz93_0
              try clear hcz93_1
              try clear hcz93_2
              try clear hcz93_3
              try clear hcz93_4
              try clear hfz14_0
              try clear hfz14_1
              try clear hfz14_2
              try clear hfz14_3
              try clear hfz14_4
              try clear hfz16_0
              try clear hfz16_1
              try clear hfz16_2
              try clear hfz16_3
              try clear hfz16_4
              try clear hfz23_0
              try clear hfz23_1
              try clear hfz23_2
              try clear hfz23_3
              try clear hfz23_4
              try clear hfz26_0
              try clear hfz26_1
              try clear hfz26_2
              try clear hfz26_3
              try clear hfz26_4
              try clear hfz31_0
              try clear hfz31_1
              try clear hfz31_2
              try clear hfz31_3
              try clear hfz31_4
              try clear hfz39_0
              try clear hfz39_1
              try clear hfz39_2
              try clear hfz39_3
              try clear hfz39_4
              try clear hfz47_0
              try clear hfz47_1
              try clear hfz47_2
              try clear hfz47_3
              try clear hfz47_4
              try clear hfz50_0
              try clear hfz50_1
              try clear hfz50_2
              try clear hfz50_3
              try clear hfz50_4
              try clear hfz55_0
              try clear hfz55_1
              try clear hfz55_2
              try clear hfz55_3
              try clear hfz55_4
              try clear hfz58_0
              try clear hfz58_1
              try clear hfz58_2
              try clear hfz58_3
              try clear hfz58_4
              try clear hfz6_0
              try clear hfz6_1
              try clear hfz6_2
              try clear hfz6_3
              try clear hfz6_4
              try clear hfz74_0
              try clear hfz74_1
              try clear hfz74_2
              try clear hfz74_3
              try clear hfz74_4
              try clear hfz82_0
              try clear hfz82_1
              try clear hfz82_2
              try clear hfz82_3
              try clear hfz82_4
              try clear hfz85_0
              try clear hfz85_1
              try clear hfz85_2
              try clear hfz85_3
              try clear hfz85_4
              try clear hfz90_0
              try clear hfz90_1
              try clear hfz90_2
              try clear hfz90_3
              try clear hfz90_4
              try clear hfz93_0
              try clear hfz93_1
              try clear hfz93_2
              try clear hfz93_3
              try clear hfz93_4
              try clear p2
              obtain ⟨kq, x65_64, rfl, HA, HJ64, HO_281003, HO_281004, HO_291003, HO_291004, HO_302003, HO_302004, BK259, BK280, BK290, BK301, HB⟩ := hcut
              have hl291003_64 := (Kd.R_reads' HO_291003.out).1
              rw [hl291003_64] at HO_291003
              (try simp only [hl291003_64])
              (try simp only [hl291003_64] at BK259)
              (try simp only [hl291003_64] at BK280)
              (try simp only [hl291003_64] at BK290)
              (try simp only [hl291003_64] at BK301)
              (try simp only [hl291003_64] at HO_281003)
              (try simp only [hl291003_64] at HO_281004)
              (try simp only [hl291003_64] at HO_291004)
              (try simp only [hl291003_64] at HO_302003)
              (try simp only [hl291003_64] at HO_302004)
              have hl291004_64 := (Kd.R_reads' HO_291004.out).1
              rw [hl291004_64] at HO_291004
              (try simp only [hl291004_64])
              (try simp only [hl291004_64] at BK259)
              (try simp only [hl291004_64] at BK280)
              (try simp only [hl291004_64] at BK290)
              (try simp only [hl291004_64] at BK301)
              (try simp only [hl291004_64] at HO_281003)
              (try simp only [hl291004_64] at HO_281004)
              (try simp only [hl291004_64] at HO_291003)
              (try simp only [hl291004_64] at HO_302003)
              (try simp only [hl291004_64] at HO_302004)
              cases kq with
              | zero => exact absurd HA.out (by simp [laws_FnExactCollideGas.j1])
              | succ kj64 =>
                have H := HA.out
                clear HA
                simp only [laws_FnExactCollideGas.j1] at H
                by_cases c95 : x65_64 = true
                · subst c95
                  have H1 : (some false) = some r := by rw [if_pos rfl] at H; exact H
                  clear H
                  have H := H1
                  clear H1
                  obtain rfl := Option.some.inj H
                  go_wp2
                  go_ret
                  exact ⟨by first | rfl | (simp [errW_none, errW_some] <;> rfl) | (simp [*, errW_none, errW_some] <;> rfl), bk_ HB.out⟩
                · replace c95 := Bool.eq_false_iff.mpr c95
                  subst c95
                  have H1 : ((laws_markGas.f kj64 t291 t292 t293 t294 t297 1).bind fun bt317 => ((laws_heldGas.f kj64 t291 t292 t293 bt317.2.1 bt317.2.2 1).bind fun t320 => (if t320 < 0 then (some false) else (if t320 = bt317.1 then ((laws_toGas.f kj64 a0_0 a0_1 a0_2 l0_3 l0_4).bind fun bt321 => ((impl_CollideGas.f kj64 bt321.1 bt321.2.1 bt321.2.2.1 bt321.2.2.2.1 bt321.2.2.2.2 a1).bind fun bt330 => ((laws_eqGas.f kj64 bt330.1 bt330.2.1 bt330.2.2.1 bt330.2.2.2.1 bt330.2.2.2.2.1 t270 t271 t272 t273 t276).bind fun t341 => (if t341 = true then (laws_FnExactCollideGas.j2 kj64 bt317.1 (bt330.2.2.2.2.2 != t279) t291 t292 t293 bt317.2.1 bt317.2.2) else (laws_FnExactCollideGas.j2 kj64 bt317.1 true t291 t292 t293 bt317.2.1 bt317.2.2))))) else (some false))))) = some r := by rw [if_neg (show ¬ (false = true) by decide)] at H; exact H
                  clear H
                  have H := H1
                  clear H1
                  replace H := Option.bind_eq_some_iff.mp H
                  obtain ⟨⟨t317, t318, t319⟩, A960, H⟩ := H
                  replace H : ((laws_heldGas.f kj64 t291 t292 t293 t318 t319 1).bind fun t320 => (if t320 < 0 then (some false) else (if t320 = t317 then ((laws_toGas.f kj64 a0_0 a0_1 a0_2 l0_3 l0_4).bind fun bt321 => ((impl_CollideGas.f kj64 bt321.1 bt321.2.1 bt321.2.2.1 bt321.2.2.2.1 bt321.2.2.2.2 a1).bind fun bt330 => ((laws_eqGas.f kj64 bt330.1 bt330.2.1 bt330.2.2.1 bt330.2.2.2.1 bt330.2.2.2.2.1 t270 t271 t272 t273 t276).bind fun t341 => (if t341 = true then (laws_FnExactCollideGas.j2 kj64 t317 (bt330.2.2.2.2.2 != t279) t291 t292 t293 t318 t319) else (laws_FnExactCollideGas.j2 kj64 t317 true t291 t292 t293 t318 t319))))) else (some false)))) = some r := H
                  have A96 := Aside0.mk A960
                  clear A960
                  replace H := Option.bind_eq_some_iff.mp H
                  obtain ⟨t320, A970, H⟩ := H
                  replace H : (if t320 < 0 then (some false) else (if t320 = t317 then ((laws_toGas.f kj64 a0_0 a0_1 a0_2 l0_3 l0_4).bind fun bt321 => ((impl_CollideGas.f kj64 bt321.1 bt321.2.1 bt321.2.2.1 bt321.2.2.2.1 bt321.2.2.2.2 a1).bind fun bt330 => ((laws_eqGas.f kj64 bt330.1 bt330.2.1 bt330.2.2.1 bt330.2.2.2.1 bt330.2.2.2.2.1 t270 t271 t272 t273 t276).bind fun t341 => (if t341 = true then (laws_FnExactCollideGas.j2 kj64 t317 (bt330.2.2.2.2.2 != t279) t291 t292 t293 t318 t319) else (laws_FnExactCollideGas.j2 kj64 t317 true t291 t292 t293 t318 t319))))) else (some false))) = some r := H
                  have A97 := Aside0.mk A970
                  clear A970
                  by_cases c98 : t320 < 0
                  · rw [if_pos c98] at H
                    have c98b0 : decide (t320 < 0) = true := decide_eq_true c98
                    clear c98
                    obtain rfl := Option.some.inj H
                    have hnb99 := NB301_259.out
                    have hnc99 := NB259_301.out
                    have hnb100 := NB301_280.out
                    have hnc100 := NB280_301.out
                    have hnb101 := NB301_290.out
                    have hnc101 := NB290_301.out
                    have hcz102_0 := bc_ BK301.out 0 (.int .i64 t291)
                    have hcz102_1 := bc_ BK301.out 1 (.int .i64 t292)
                    have hcz102_2 := bc_ BK301.out 2 (.int .i64 t293)
                    have hcz102_3 := bc_ BK301.out 3 (.slice Ao40 t294.length co40)
                    have hcz102_4 := bc_ BK301.out 4 (.slice Ao41 t297.length co41)
                    have hfz102_0 := blk_frozen BK301.out 0
                    have hfz102_1 := blk_frozen BK301.out 1
                    have hfz102_2 := blk_frozen BK301.out 2
                    have hfz102_3 := blk_frozen BK301.out 3
                    have hfz102_4 := blk_frozen BK301.out 4
                    go_wp2_with (first | ((with_reducible refine gate_callee (f := 18) rfl ?_); refine goesL_ (some 68) rfl rfl Try.func18 (by kernel_rfl) rfl #[.agg #[.int .i64 t291, .int .i64 t292, .int .i64 t293, .slice Ao40 t294.length co40, .slice Ao41 t297.length co41], .int .i64 1] rfl (by (try simp only [List.map_toArray, List.map_cons, List.map_nil]); first | done | rfl | (simp only [List.length_drop, List.length_take]; rfl)) ?_; (with_reducible refine (laws_markGas.calls kj64 t291 t292 t293 (fun k_ => some k_ = (.slice Ao40 t294.length co40 : Value).ownBlock) (.slice Ao40 t294.length co40) t294 (fun k_ => some k_ = (.slice Ao41 t297.length co41 : Value).ownBlock) (.slice Ao41 t297.length co41) t297 1 t317 t318 t319 w _ ?side1 ?side2 ?side3 A96.out).mono ?_); (case side1 => repeat (first | (with_reducible first | exact HB.out | apply below_alloc | apply pw_below_drewN | apply below_drew1 | refine below_set ?_ GE259.out | refine below_set ?_ GE280.out | refine below_set ?_ GE290.out | refine below_set ?_ GE301.out) | exact HB.out)); (case side2 => exact Kd.R_tight rfl HO_302003.out); (case side3 => exact Kd.R_tight rfl HO_302004.out); rintro e w103 ⟨rfl, hy0, hy1, hb, hkp⟩; refine ⟨_, rfl, ?_⟩; have n0_ := Aside0.mk (Kd.R_mono (ok' := fun k_ => some k_ ≠ (.slice Ao32 t314.length co32 : Value).ownBlock ∧ some k_ ≠ (.slice Ao40 t294.length co40 : Value).ownBlock) (Kd.R_keptB ((Kd.R_apart' HO_281003.out (Kd.R_typed HO_302004.out) (by decide))) hkp (fun k_ hk_ hs_ => Or.elim hs_ (fun e_ => (hk_.1.2) e_) (fun e_ => (hk_.2) e_))) (fun k_ hk_ => ⟨hk_.1.1.1, hk_.1.1.2⟩)); have n1_ := Aside0.mk (Kd.R_mono (ok' := fun k_ => some k_ ≠ (.slice Ao33 t315.length co33 : Value).ownBlock ∧ some k_ ≠ (.slice Ao41 t297.length co41 : Value).ownBlock) (Kd.R_keptB ((Kd.R_apart' HO_281004.out (Kd.R_typed HO_302003.out) (by decide))) hkp (fun k_ hk_ hs_ => Or.elim hs_ (fun e_ => (hk_.2) e_) (fun e_ => (hk_.1.2) e_))) (fun k_ hk_ => ⟨hk_.1.1.1, hk_.1.1.2⟩)); have n2_ := Aside0.mk (Kd.R_mono (ok' := fun k_ => some k_ ≠ (.slice Ao24 t273.length co24 : Value).ownBlock ∧ some k_ ≠ (.slice Ao40 t294.length co40 : Value).ownBlock) (Kd.R_keptB ((Kd.R_apart' HO_291003.out (Kd.R_typed HO_302004.out) (by decide))) hkp (fun k_ hk_ hs_ => Or.elim hs_ (fun e_ => (hk_.1.2) e_) (fun e_ => (hk_.2) e_))) (fun k_ hk_ => ⟨hk_.1.1.1, hk_.1.1.2⟩)); have n3_ := Aside0.mk (Kd.R_mono (ok' := fun k_ => some k_ ≠ (.slice Ao25 t276.length co25 : Value).ownBlock ∧ some k_ ≠ (.slice Ao41 t297.length co41 : Value).ownBlock) (Kd.R_keptB ((Kd.R_apart' HO_291004.out (Kd.R_typed HO_302003.out) (by decide))) hkp (fun k_ hk_ hs_ => Or.elim hs_ (fun e_ => (hk_.2) e_) (fun e_ => (hk_.1.2) e_))) (fun k_ hk_ => ⟨hk_.1.1.1, hk_.1.1.2⟩)); have n4_ := Aside0.mk (Kd.R_reok rfl hy0 (fun k_ e_ => HO_302003.out.1 k_ e_)); have n5_ := Aside0.mk (Kd.R_reok rfl hy1 (fun k_ e_ => HO_302004.out.1 k_ e_)); have n6_ := Aside0.mk (blk_kept (pk_ BK259.out) hkp (fun hs_ => Or.elim hs_ (fun e_ => (fun e_ => (Kd.R_ne HO_302003.out BK259.out (by decide)) e_) e_) (fun e_ => (fun e_ => (Kd.R_ne HO_302004.out BK259.out (by decide)) e_) e_))); have n7_ := Aside0.mk (blk_kept (pk_ BK280.out) hkp (fun hs_ => Or.elim hs_ (fun e_ => (fun e_ => (Kd.R_ne HO_302003.out BK280.out (by decide)) e_) e_) (fun e_ => (fun e_ => (Kd.R_ne HO_302004.out BK280.out (by decide)) e_) e_))); have n8_ := Aside0.mk (blk_kept (pk_ BK290.out) hkp (fun hs_ => Or.elim hs_ (fun e_ => (fun e_ => (Kd.R_ne HO_302003.out BK290.out (by decide)) e_) e_) (fun e_ => (fun e_ => (Kd.R_ne HO_302004.out BK290.out (by decide)) e_) e_))); have n9_ := Aside0.mk (blk_kept (pk_ BK301.out) hkp (fun hs_ => Or.elim hs_ (fun e_ => (fun e_ => (Kd.R_ne HO_302003.out BK301.out (by decide)) e_) e_) (fun e_ => (fun e_ => (Kd.R_ne HO_302004.out BK301.out (by decide)) e_) e_))); have n10_ := Aside0.mk (hb); clear HO_281003; clear HO_281004; clear HO_291003; clear HO_291004; clear HO_302003; clear HO_302004; clear BK259; clear BK280; clear BK290; clear BK301; clear HB; have HO_281003 := n0_; have HO_281004 := n1_; have HO_291003 := n2_; have HO_291004 := n3_; have HO_302003 := n4_; have HO_302004 := n5_; have BK259 := n6_; have BK280 := n7_; have BK290 := n8_; have BK301 := n9_; have HB := n10_; clear n0_ n1_ n2_ n3_ n4_ n5_ n6_ n7_ n8_ n9_ n10_; (try clear hb); (try clear hkp); (try clear hy0); (try clear hy1); have hcz104_0 := bc_ BK301.out 0 (.int .i64 t291); have hcz104_1 := bc_ BK301.out 1 (.int .i64 t292); have hcz104_2 := bc_ BK301.out 2 (.int .i64 t293); have hcz104_3 := bc_ BK301.out 3 (.slice Ao40 t294.length co40); have hcz104_4 := bc_ BK301.out 4 (.slice Ao41 t297.length co41); have hfz104_0 := blk_frozen BK301.out 0; have hfz104_1 := blk_frozen BK301.out 1; have hfz104_2 := blk_frozen BK301.out 2; have hfz104_3 := blk_frozen BK301.out 3; have hfz104_4 := blk_frozen BK301.out 4) | ((with_reducible refine gate_callee (f := 19) rfl ?_); refine goesL_ (some 71) rfl rfl Try.func19 (by kernel_rfl) rfl #[.agg #[.int .i64 t291, .int .i64 t292, .int .i64 t293, .slice Ao40 t318.length co40, .slice Ao41 t319.length co41], .int .i64 1] rfl (by (try simp only [List.map_toArray, List.map_cons, List.map_nil]); first | done | (rw [show t318.length = t294.length from (Kd.R_reads' HO_302003.out).1.symm, show t319.length = t297.length from (Kd.R_reads' HO_302004.out).1.symm] <;> rfl) | rfl | (simp only [List.length_drop, List.length_take]; rfl)) ?_; (with_reducible refine (laws_heldGas.calls kj64 t291 t292 t293 _ _ t318 _ _ t319 1 t320 _ ?side1 ?side2 ?side3 ?side4 A97.out).mono ?_); (case side1 => repeat (first | exact (Kd.R_reads' HO_302003.out).2.2 | (with_reducible refine Kd.C_alloc ?_ _) | (with_reducible refine Kd.C_drewN ?_ _) | (with_reducible refine Kd.C_drew ?_))); (case side2 => rw [show t318.length = t294.length from (Kd.R_reads' HO_302003.out).1.symm]; exact (Kd.R_reads' HO_302003.out).2.1); (case side3 => repeat (first | exact (Kd.R_reads' HO_302004.out).2.2 | (with_reducible refine Kd.C_alloc ?_ _) | (with_reducible refine Kd.C_drewN ?_ _) | (with_reducible refine Kd.C_drew ?_))); (case side4 => rw [show t319.length = t297.length from (Kd.R_reads' HO_302004.out).1.symm]; exact (Kd.R_reads' HO_302004.out).2.1); rintro e w105 ⟨rfl, hb⟩; refine ⟨_, rfl, ?_⟩; have n0_ := Aside0.mk (Kd.R_below (rk_ HO_281003.out) hb); have n1_ := Aside0.mk (Kd.R_below (rk_ HO_281004.out) hb); have n2_ := Aside0.mk (Kd.R_below (rk_ HO_291003.out) hb); have n3_ := Aside0.mk (Kd.R_below (rk_ HO_291004.out) hb); have n4_ := Aside0.mk (Kd.R_below (rk_ HO_302003.out) hb); have n5_ := Aside0.mk (Kd.R_below (rk_ HO_302004.out) hb); have n6_ := Aside0.mk (bb_ BK259.out hb); have n7_ := Aside0.mk (bb_ BK280.out hb); have n8_ := Aside0.mk (bb_ BK290.out hb); have n9_ := Aside0.mk (bb_ BK301.out hb); have n10_ := Aside0.mk (below_step (bk_ HB.out) hb); clear HO_281003; clear HO_281004; clear HO_291003; clear HO_291004; clear HO_302003; clear HO_302004; clear BK259; clear BK280; clear BK290; clear BK301; clear HB; have HO_281003 := n0_; have HO_281004 := n1_; have HO_291003 := n2_; have HO_291004 := n3_; have HO_302003 := n4_; have HO_302004 := n5_; have BK259 := n6_; have BK280 := n7_; have BK290 := n8_; have BK301 := n9_; have HB := n10_; clear n0_ n1_ n2_ n3_ n4_ n5_ n6_ n7_ n8_ n9_ n10_; (try clear hb); (try clear hb2); (try clear hk); (try clear hi)))
                    go_ret
                    exact ⟨by first | rfl | (simp [errW_none, errW_some] <;> rfl) | (simp [*, errW_none, errW_some] <;> rfl), bk_ HB.out⟩
                  · rw [if_neg c98] at H
                    have c98b0 : decide (t320 < 0) = false := decide_eq_false c98
                    clear c98
                    by_cases c106 : t320 = t317
                    · rw [if_pos c106] at H
                      have c106b0 : (t320 == t317) = true := beq_iff_eq.mpr c106
                      have c106b1 : (t320 != t317) = false := bne_eq_false_iff_eq.mpr c106
                      clear c106
                      replace H := Option.bind_eq_some_iff.mp H
                      obtain ⟨⟨t321, t322, t323, t324, t327⟩, A1070, H⟩ := H
                      replace H : ((impl_CollideGas.f kj64 t321 t322 t323 t324 t327 a1).bind fun bt330 => ((laws_eqGas.f kj64 bt330.1 bt330.2.1 bt330.2.2.1 bt330.2.2.2.1 bt330.2.2.2.2.1 t270 t271 t272 t273 t276).bind fun t341 => (if t341 = true then (laws_FnExactCollideGas.j2 kj64 t317 (bt330.2.2.2.2.2 != t279) t291 t292 t293 t318 t319) else (laws_FnExactCollideGas.j2 kj64 t317 true t291 t292 t293 t318 t319)))) = some r := H
                      have A107 := Aside0.mk A1070
                      clear A1070
                      replace H := Option.bind_eq_some_iff.mp H
                      obtain ⟨⟨t330, t331, t332, t333, t336, t339⟩, A1080, H⟩ := H
                      replace H : ((laws_eqGas.f kj64 t330 t331 t332 t333 t336 t270 t271 t272 t273 t276).bind fun t341 => (if t341 = true then (laws_FnExactCollideGas.j2 kj64 t317 (t339 != t279) t291 t292 t293 t318 t319) else (laws_FnExactCollideGas.j2 kj64 t317 true t291 t292 t293 t318 t319))) = some r := H
                      have A108 := Aside0.mk A1080
                      clear A1080
                      have HC109 := Aside0.mk H
                      clear H
                      have hnb110 := NB301_259.out
                      have hnc110 := NB259_301.out
                      have hnb111 := NB301_280.out
                      have hnc111 := NB280_301.out
                      have hnb112 := NB301_290.out
                      have hnc112 := NB290_301.out
                      have hcz113_0 := bc_ BK301.out 0 (.int .i64 t291)
                      have hcz113_1 := bc_ BK301.out 1 (.int .i64 t292)
                      have hcz113_2 := bc_ BK301.out 2 (.int .i64 t293)
                      have hcz113_3 := bc_ BK301.out 3 (.slice Ao40 t294.length co40)
                      have hcz113_4 := bc_ BK301.out 4 (.slice Ao41 t297.length co41)
                      have hfz113_0 := blk_frozen BK301.out 0
                      have hfz113_1 := blk_frozen BK301.out 1
                      have hfz113_2 := blk_frozen BK301.out 2
                      have hfz113_3 := blk_frozen BK301.out 3
                      have hfz113_4 := blk_frozen BK301.out 4
                      go_upto_region 25 with (first | ((with_reducible refine gate_callee (f := 18) rfl ?_); refine goesL_ (some 68) rfl rfl Try.func18 (by kernel_rfl) rfl #[.agg #[.int .i64 t291, .int .i64 t292, .int .i64 t293, .slice Ao40 t294.length co40, .slice Ao41 t297.length co41], .int .i64 1] rfl (by (try simp only [List.map_toArray, List.map_cons, List.map_nil]); first | done | rfl | (simp only [List.length_drop, List.length_take]; rfl)) ?_; (with_reducible refine (laws_markGas.calls kj64 t291 t292 t293 (fun k_ => some k_ = (.slice Ao40 t294.length co40 : Value).ownBlock) (.slice Ao40 t294.length co40) t294 (fun k_ => some k_ = (.slice Ao41 t297.length co41 : Value).ownBlock) (.slice Ao41 t297.length co41) t297 1 t317 t318 t319 w _ ?side1 ?side2 ?side3 A96.out).mono ?_); (case side1 => repeat (first | (with_reducible first | exact HB.out | apply below_alloc | apply pw_below_drewN | apply below_drew1 | refine below_set ?_ GE259.out | refine below_set ?_ GE280.out | refine below_set ?_ GE290.out | refine below_set ?_ GE301.out) | exact HB.out)); (case side2 => exact Kd.R_tight rfl HO_302003.out); (case side3 => exact Kd.R_tight rfl HO_302004.out); rintro e w114 ⟨rfl, hy0, hy1, hb, hkp⟩; refine ⟨_, rfl, ?_⟩; have n0_ := Aside0.mk (Kd.R_mono (ok' := fun k_ => some k_ ≠ (.slice Ao32 t314.length co32 : Value).ownBlock ∧ some k_ ≠ (.slice Ao40 t294.length co40 : Value).ownBlock) (Kd.R_keptB ((Kd.R_apart' HO_281003.out (Kd.R_typed HO_302004.out) (by decide))) hkp (fun k_ hk_ hs_ => Or.elim hs_ (fun e_ => (hk_.1.2) e_) (fun e_ => (hk_.2) e_))) (fun k_ hk_ => ⟨hk_.1.1.1, hk_.1.1.2⟩)); have n1_ := Aside0.mk (Kd.R_mono (ok' := fun k_ => some k_ ≠ (.slice Ao33 t315.length co33 : Value).ownBlock ∧ some k_ ≠ (.slice Ao41 t297.length co41 : Value).ownBlock) (Kd.R_keptB ((Kd.R_apart' HO_281004.out (Kd.R_typed HO_302003.out) (by decide))) hkp (fun k_ hk_ hs_ => Or.elim hs_ (fun e_ => (hk_.2) e_) (fun e_ => (hk_.1.2) e_))) (fun k_ hk_ => ⟨hk_.1.1.1, hk_.1.1.2⟩)); have n2_ := Aside0.mk (Kd.R_mono (ok' := fun k_ => some k_ ≠ (.slice Ao24 t273.length co24 : Value).ownBlock ∧ some k_ ≠ (.slice Ao40 t294.length co40 : Value).ownBlock) (Kd.R_keptB ((Kd.R_apart' HO_291003.out (Kd.R_typed HO_302004.out) (by decide))) hkp (fun k_ hk_ hs_ => Or.elim hs_ (fun e_ => (hk_.1.2) e_) (fun e_ => (hk_.2) e_))) (fun k_ hk_ => ⟨hk_.1.1.1, hk_.1.1.2⟩)); have n3_ := Aside0.mk (Kd.R_mono (ok' := fun k_ => some k_ ≠ (.slice Ao25 t276.length co25 : Value).ownBlock ∧ some k_ ≠ (.slice Ao41 t297.length co41 : Value).ownBlock) (Kd.R_keptB ((Kd.R_apart' HO_291004.out (Kd.R_typed HO_302003.out) (by decide))) hkp (fun k_ hk_ hs_ => Or.elim hs_ (fun e_ => (hk_.2) e_) (fun e_ => (hk_.1.2) e_))) (fun k_ hk_ => ⟨hk_.1.1.1, hk_.1.1.2⟩)); have n4_ := Aside0.mk (Kd.R_reok rfl hy0 (fun k_ e_ => HO_302003.out.1 k_ e_)); have n5_ := Aside0.mk (Kd.R_reok rfl hy1 (fun k_ e_ => HO_302004.out.1 k_ e_)); have n6_ := Aside0.mk (blk_kept (pk_ BK259.out) hkp (fun hs_ => Or.elim hs_ (fun e_ => (fun e_ => (Kd.R_ne HO_302003.out BK259.out (by decide)) e_) e_) (fun e_ => (fun e_ => (Kd.R_ne HO_302004.out BK259.out (by decide)) e_) e_))); have n7_ := Aside0.mk (blk_kept (pk_ BK280.out) hkp (fun hs_ => Or.elim hs_ (fun e_ => (fun e_ => (Kd.R_ne HO_302003.out BK280.out (by decide)) e_) e_) (fun e_ => (fun e_ => (Kd.R_ne HO_302004.out BK280.out (by decide)) e_) e_))); have n8_ := Aside0.mk (blk_kept (pk_ BK290.out) hkp (fun hs_ => Or.elim hs_ (fun e_ => (fun e_ => (Kd.R_ne HO_302003.out BK290.out (by decide)) e_) e_) (fun e_ => (fun e_ => (Kd.R_ne HO_302004.out BK290.out (by decide)) e_) e_))); have n9_ := Aside0.mk (blk_kept (pk_ BK301.out) hkp (fun hs_ => Or.elim hs_ (fun e_ => (fun e_ => (Kd.R_ne HO_302003.out BK301.out (by decide)) e_) e_) (fun e_ => (fun e_ => (Kd.R_ne HO_302004.out BK301.out (by decide)) e_) e_))); have n10_ := Aside0.mk (hb); clear HO_281003; clear HO_281004; clear HO_291003; clear HO_291004; clear HO_302003; clear HO_302004; clear BK259; clear BK280; clear BK290; clear BK301; clear HB; have HO_281003 := n0_; have HO_281004 := n1_; have HO_291003 := n2_; have HO_291004 := n3_; have HO_302003 := n4_; have HO_302004 := n5_; have BK259 := n6_; have BK280 := n7_; have BK290 := n8_; have BK301 := n9_; have HB := n10_; clear n0_ n1_ n2_ n3_ n4_ n5_ n6_ n7_ n8_ n9_ n10_; (try clear hb); (try clear hkp); (try clear hy0); (try clear hy1); have hcz115_0 := bc_ BK301.out 0 (.int .i64 t291); have hcz115_1 := bc_ BK301.out 1 (.int .i64 t292); have hcz115_2 := bc_ BK301.out 2 (.int .i64 t293); have hcz115_3 := bc_ BK301.out 3 (.slice Ao40 t294.length co40); have hcz115_4 := bc_ BK301.out 4 (.slice Ao41 t297.length co41); have hfz115_0 := blk_frozen BK301.out 0; have hfz115_1 := blk_frozen BK301.out 1; have hfz115_2 := blk_frozen BK301.out 2; have hfz115_3 := blk_frozen BK301.out 3; have hfz115_4 := blk_frozen BK301.out 4) | ((with_reducible refine gate_callee (f := 19) rfl ?_); refine goesL_ (some 71) rfl rfl Try.func19 (by kernel_rfl) rfl #[.agg #[.int .i64 t291, .int .i64 t292, .int .i64 t293, .slice Ao40 t318.length co40, .slice Ao41 t319.length co41], .int .i64 1] rfl (by (try simp only [List.map_toArray, List.map_cons, List.map_nil]); first | done | (rw [show t318.length = t294.length from (Kd.R_reads' HO_302003.out).1.symm, show t319.length = t297.length from (Kd.R_reads' HO_302004.out).1.symm] <;> rfl) | rfl | (simp only [List.length_drop, List.length_take]; rfl)) ?_; (with_reducible refine (laws_heldGas.calls kj64 t291 t292 t293 _ _ t318 _ _ t319 1 t320 _ ?side1 ?side2 ?side3 ?side4 A97.out).mono ?_); (case side1 => repeat (first | exact (Kd.R_reads' HO_302003.out).2.2 | (with_reducible refine Kd.C_alloc ?_ _) | (with_reducible refine Kd.C_drewN ?_ _) | (with_reducible refine Kd.C_drew ?_))); (case side2 => rw [show t318.length = t294.length from (Kd.R_reads' HO_302003.out).1.symm]; exact (Kd.R_reads' HO_302003.out).2.1); (case side3 => repeat (first | exact (Kd.R_reads' HO_302004.out).2.2 | (with_reducible refine Kd.C_alloc ?_ _) | (with_reducible refine Kd.C_drewN ?_ _) | (with_reducible refine Kd.C_drew ?_))); (case side4 => rw [show t319.length = t297.length from (Kd.R_reads' HO_302004.out).1.symm]; exact (Kd.R_reads' HO_302004.out).2.1); rintro e w116 ⟨rfl, hb⟩; refine ⟨_, rfl, ?_⟩; have n0_ := Aside0.mk (Kd.R_below (rk_ HO_281003.out) hb); have n1_ := Aside0.mk (Kd.R_below (rk_ HO_281004.out) hb); have n2_ := Aside0.mk (Kd.R_below (rk_ HO_291003.out) hb); have n3_ := Aside0.mk (Kd.R_below (rk_ HO_291004.out) hb); have n4_ := Aside0.mk (Kd.R_below (rk_ HO_302003.out) hb); have n5_ := Aside0.mk (Kd.R_below (rk_ HO_302004.out) hb); have n6_ := Aside0.mk (bb_ BK259.out hb); have n7_ := Aside0.mk (bb_ BK280.out hb); have n8_ := Aside0.mk (bb_ BK290.out hb); have n9_ := Aside0.mk (bb_ BK301.out hb); have n10_ := Aside0.mk (below_step (bk_ HB.out) hb); clear HO_281003; clear HO_281004; clear HO_291003; clear HO_291004; clear HO_302003; clear HO_302004; clear BK259; clear BK280; clear BK290; clear BK301; clear HB; have HO_281003 := n0_; have HO_281004 := n1_; have HO_291003 := n2_; have HO_291004 := n3_; have HO_302003 := n4_; have HO_302004 := n5_; have BK259 := n6_; have BK280 := n7_; have BK290 := n8_; have BK301 := n9_; have HB := n10_; clear n0_ n1_ n2_ n3_ n4_ n5_ n6_ n7_ n8_ n9_ n10_; (try clear hb); (try clear hb2); (try clear hk); (try clear hi); have hnb117 := NB259_280.out; have hnc117 := NB280_259.out; have hnb118 := NB259_290.out; have hnc118 := NB290_259.out; have hcz119_0 := bc_ BK259.out 0 (.int .i64 a0_0); have hcz119_1 := bc_ BK259.out 1 (.int .i64 a0_1); have hcz119_2 := bc_ BK259.out 2 (.int .i64 a0_2); have hcz119_3 := bc_ BK259.out 3 (.slice A0_3 l0_3.length c0_3); have hcz119_4 := bc_ BK259.out 4 (.slice A0_4 l0_4.length c0_4); have hfz119_0 := blk_frozen BK259.out 0; have hfz119_1 := blk_frozen BK259.out 1; have hfz119_2 := blk_frozen BK259.out 2; have hfz119_3 := blk_frozen BK259.out 3; have hfz119_4 := blk_frozen BK259.out 4) | ((with_reducible refine gate_callee (f := 15) rfl ?_); refine goesL_ (some 79) rfl rfl Try.func15 (by kernel_rfl) rfl #[.agg #[.int .i64 a0_0, .int .i64 a0_1, .int .i64 a0_2, .slice A0_3 l0_3.length c0_3, .slice A0_4 l0_4.length c0_4]] rfl (by (try simp only [List.map_toArray, List.map_cons, List.map_nil]); first | done | rfl | (simp only [List.length_drop, List.length_take]; rfl)) ?_; (with_reducible refine (laws_toGas.calls kj64 a0_0 a0_1 a0_2 _ _ l0_3 _ _ l0_4 t321 t322 t323 t324 t327 _ ?side1 ?side2 ?side3 ?side4 A107.out).mono ?_); (case side1 => exact ck_ (Kd.C_below HR0_3.out HB.out)); (case side2 => exact HC0_3.out); (case side3 => exact ck_ (Kd.C_below HR0_4.out HB.out)); (case side4 => exact HC0_4.out); rintro e w120 ⟨v325, v328, rfl, ho0, ho1, hb⟩; refine ⟨_, rfl, ?_⟩; have n0_ := Aside0.mk (Kd.R_elder' (rk_ HO_281003.out) (Kd.R_base ho0) hb); have n1_ := Aside0.mk (Kd.R_elder' (rk_ HO_281004.out) (Kd.R_base ho1) hb); have n2_ := Aside0.mk (Kd.R_elder' (rk_ HO_291003.out) (Kd.R_base ho0) hb); have n3_ := Aside0.mk (Kd.R_elder' (rk_ HO_291004.out) (Kd.R_base ho1) hb); have n4_ := Aside0.mk (Kd.R_elder' (rk_ HO_302003.out) (Kd.R_base ho0) hb); have n5_ := Aside0.mk (Kd.R_elder' (rk_ HO_302004.out) (Kd.R_base ho1) hb); have n6_ := Aside0.mk (Kd.R_lower (Kd.R_new' (Kd.R_new' (Kd.R_new' ho0 (Kd.R_lt (rk_ HO_281003.out))) (Kd.R_lt (rk_ HO_291003.out))) (Kd.R_lt (rk_ HO_302003.out))) (below_size (bk_ HB.out))); have n7_ := Aside0.mk (Kd.R_lower (Kd.R_new' (Kd.R_new' (Kd.R_new' ho1 (Kd.R_lt (rk_ HO_281004.out))) (Kd.R_lt (rk_ HO_291004.out))) (Kd.R_lt (rk_ HO_302004.out))) (below_size (bk_ HB.out))); have n8_ := Aside0.mk (bb_ BK259.out hb); have n9_ := Aside0.mk (bb_ BK280.out hb); have n10_ := Aside0.mk (bb_ BK290.out hb); have n11_ := Aside0.mk (bb_ BK301.out hb); have n12_ := Aside0.mk (below_step (bk_ HB.out) hb); clear HO_281003; clear HO_281004; clear HO_291003; clear HO_291004; clear HO_302003; clear HO_302004; clear BK259; clear BK280; clear BK290; clear BK301; clear HB; have HO_281003 := n0_; have HO_281004 := n1_; have HO_291003 := n2_; have HO_291004 := n3_; have HO_302003 := n4_; have HO_302004 := n5_; have HO326 := n6_; have HO329 := n7_; have BK259 := n8_; have BK280 := n9_; have BK290 := n10_; have BK301 := n11_; have HB := n12_; clear n0_ n1_ n2_ n3_ n4_ n5_ n6_ n7_ n8_ n9_ n10_ n11_ n12_; (try clear hb); (try clear hb2); (try clear hk); (try clear hi); (try clear ho0); (try clear ho1); obtain ⟨Ao121, co121, eo121⟩ := Kd.R_slice HO326.out; subst eo121; obtain ⟨Ao122, co122, eo122⟩ := Kd.R_slice HO329.out; subst eo122) | ((with_reducible refine gate_callee (f := 21) rfl ?_); refine goesL_ (some 81) rfl rfl Try.func21 (by kernel_rfl) rfl #[.agg #[.int .i64 t321, .int .i64 t322, .int .i64 t323, .slice Ao121 t324.length co121, .slice Ao122 t327.length co122], .bool a1] rfl (by (try simp only [List.map_toArray, List.map_cons, List.map_nil]); first | done | rfl | (simp only [List.length_drop, List.length_take]; rfl)) ?_; (with_reducible refine (impl_CollideGas.calls kj64 t321 t322 t323 _ _ t324 _ _ t327 a1 t330 t331 t332 t333 t336 t339 _ ?side1 ?side2 ?side3 ?side4 A108.out).mono ?_); (case side1 => repeat (first | exact (Kd.R_reads' HO326.out).2.2 | (with_reducible refine Kd.C_alloc ?_ _) | (with_reducible refine Kd.C_drewN ?_ _) | (with_reducible refine Kd.C_drew ?_))); (case side2 => exact (Kd.R_reads' HO326.out).2.1); (case side3 => repeat (first | exact (Kd.R_reads' HO329.out).2.2 | (with_reducible refine Kd.C_alloc ?_ _) | (with_reducible refine Kd.C_drewN ?_ _) | (with_reducible refine Kd.C_drew ?_))); (case side4 => exact (Kd.R_reads' HO329.out).2.1); rintro e w123 ⟨v334, v337, rfl, ho0, ho1, hb⟩; refine ⟨_, rfl, ?_⟩; have n0_ := Aside0.mk (Kd.R_elder' (rk_ HO_281003.out) (Kd.R_base ho0) hb); have n1_ := Aside0.mk (Kd.R_elder' (rk_ HO_281004.out) (Kd.R_base ho1) hb); have n2_ := Aside0.mk (Kd.R_elder' (rk_ HO_291003.out) (Kd.R_base ho0) hb); have n3_ := Aside0.mk (Kd.R_elder' (rk_ HO_291004.out) (Kd.R_base ho1) hb); have n4_ := Aside0.mk (Kd.R_elder' (rk_ HO_302003.out) (Kd.R_base ho0) hb); have n5_ := Aside0.mk (Kd.R_elder' (rk_ HO_302004.out) (Kd.R_base ho1) hb); have n6_ := Aside0.mk (Kd.R_elder' (rk_ HO326.out) (Kd.R_base ho0) hb); have n7_ := Aside0.mk (Kd.R_elder' (rk_ HO329.out) (Kd.R_base ho1) hb); have n8_ := Aside0.mk (Kd.R_lower (Kd.R_new' (Kd.R_new' (Kd.R_new' (Kd.R_new' ho0 (Kd.R_lt (rk_ HO_281003.out))) (Kd.R_lt (rk_ HO_291003.out))) (Kd.R_lt (rk_ HO_302003.out))) (Kd.R_lt (rk_ HO326.out))) (below_size (bk_ HB.out))); have n9_ := Aside0.mk (Kd.R_lower (Kd.R_new' (Kd.R_new' (Kd.R_new' (Kd.R_new' ho1 (Kd.R_lt (rk_ HO_281004.out))) (Kd.R_lt (rk_ HO_291004.out))) (Kd.R_lt (rk_ HO_302004.out))) (Kd.R_lt (rk_ HO329.out))) (below_size (bk_ HB.out))); have n10_ := Aside0.mk (bb_ BK259.out hb); have n11_ := Aside0.mk (bb_ BK280.out hb); have n12_ := Aside0.mk (bb_ BK290.out hb); have n13_ := Aside0.mk (bb_ BK301.out hb); have n14_ := Aside0.mk (below_step (bk_ HB.out) hb); clear HO_281003; clear HO_281004; clear HO_291003; clear HO_291004; clear HO_302003; clear HO_302004; clear HO326; clear HO329; clear BK259; clear BK280; clear BK290; clear BK301; clear HB; have HO_281003 := n0_; have HO_281004 := n1_; have HO_291003 := n2_; have HO_291004 := n3_; have HO_302003 := n4_; have HO_302004 := n5_; have HO326 := n6_; have HO329 := n7_; have HO335 := n8_; have HO338 := n9_; have BK259 := n10_; have BK280 := n11_; have BK290 := n12_; have BK301 := n13_; have HB := n14_; clear n0_ n1_ n2_ n3_ n4_ n5_ n6_ n7_ n8_ n9_ n10_ n11_ n12_ n13_ n14_; (try clear hb); (try clear hb2); (try clear hk); (try clear hi); (try clear ho0); (try clear ho1)) | ((with_reducible refine gate_dst (N := 14) rfl ?_); refine box_event ?hg (N := 14) ?hd (cs := #[.int .i64 0, .int .i64 0, .int .i64 0, .slice none 0 0, .slice none 0 0]) (t := 27) ?hr ?_; (case hd => rfl); (case hg => rfl); (case hr => first | (go_simp; done) | (go_simp; rfl)); intro gb340 hg w124 hbox hb; have n0_ := Aside0.mk (Kd.R_below (rk_ HO_281003.out) hb); have n1_ := Aside0.mk (Kd.R_below (rk_ HO_281004.out) hb); have n2_ := Aside0.mk (Kd.R_below (rk_ HO_291003.out) hb); have n3_ := Aside0.mk (Kd.R_below (rk_ HO_291004.out) hb); have n4_ := Aside0.mk (Kd.R_below (rk_ HO_302003.out) hb); have n5_ := Aside0.mk (Kd.R_below (rk_ HO_302004.out) hb); have n6_ := Aside0.mk (Kd.R_below (rk_ HO326.out) hb); have n7_ := Aside0.mk (Kd.R_below (rk_ HO329.out) hb); have n8_ := Aside0.mk (Kd.R_below (rk_ HO335.out) hb); have n9_ := Aside0.mk (Kd.R_below (rk_ HO338.out) hb); have n10_ := Aside0.mk (bb_ BK259.out hb); have n11_ := Aside0.mk (bb_ BK280.out hb); have n12_ := Aside0.mk (bb_ BK290.out hb); have n13_ := Aside0.mk (bb_ BK301.out hb); have n14_ := Aside0.mk (below_step (bk_ HB.out) hb); have n15_ := Aside0.mk (hbox); have n16_ := Aside0.mk ((by rw [hg]; exact (below_size (bk_ HB.out)) : w.heap.size ≤ gb340)); have n17_ := Aside0.mk ((by rw [hg]; exact (below_size (bk_ HB.out)) : w.heap.size ≤ gb340)); have n18_ := Aside0.mk ((by rw [hg]; exact Nat.ne_of_lt (bl_ BK259.out) : gb259 ≠ gb340)); have n19_ := Aside0.mk ((by rw [hg]; exact Nat.ne_of_gt (bl_ BK259.out) : gb340 ≠ gb259)); have n20_ := Aside0.mk ((by rw [hg]; exact Nat.ne_of_lt (bl_ BK280.out) : gb280 ≠ gb340)); have n21_ := Aside0.mk ((by rw [hg]; exact Nat.ne_of_gt (bl_ BK280.out) : gb340 ≠ gb280)); have n22_ := Aside0.mk ((by rw [hg]; exact Nat.ne_of_lt (bl_ BK290.out) : gb290 ≠ gb340)); have n23_ := Aside0.mk ((by rw [hg]; exact Nat.ne_of_gt (bl_ BK290.out) : gb340 ≠ gb290)); have n24_ := Aside0.mk ((by rw [hg]; exact Nat.ne_of_lt (bl_ BK301.out) : gb301 ≠ gb340)); have n25_ := Aside0.mk ((by rw [hg]; exact Nat.ne_of_gt (bl_ BK301.out) : gb340 ≠ gb301)); clear HO_281003; clear HO_281004; clear HO_291003; clear HO_291004; clear HO_302003; clear HO_302004; clear HO326; clear HO329; clear HO335; clear HO338; clear BK259; clear BK280; clear BK290; clear BK301; clear HB; have HO_281003 := n0_; have HO_281004 := n1_; have HO_291003 := n2_; have HO_291004 := n3_; have HO_302003 := n4_; have HO_302004 := n5_; have HO326 := n6_; have HO329 := n7_; have HO335 := n8_; have HO338 := n9_; have BK259 := n10_; have BK280 := n11_; have BK290 := n12_; have BK301 := n13_; have HB := n14_; have BK340 := n15_; have GW340 := n16_; have GE340 := n17_; have NB259_340 := n18_; have NB340_259 := n19_; have NB280_340 := n20_; have NB340_280 := n21_; have NB290_340 := n22_; have NB340_290 := n23_; have NB301_340 := n24_; have NB340_301 := n25_; clear n0_ n1_ n2_ n3_ n4_ n5_ n6_ n7_ n8_ n9_ n10_ n11_ n12_ n13_ n14_ n15_ n16_ n17_ n18_ n19_ n20_ n21_ n22_ n23_ n24_ n25_; clear hb hbox hg; have hnb125 := NB340_259.out; have hnc125 := NB259_340.out; have hnb126 := NB340_280.out; have hnc126 := NB280_340.out; have hnb127 := NB340_290.out; have hnc127 := NB290_340.out; have hnb128 := NB340_301.out; have hnc128 := NB301_340.out; have hcz129_0 := bc_ BK340.out 0 (.int .i64 0); have hcz129_1 := bc_ BK340.out 1 (.int .i64 0); have hcz129_2 := bc_ BK340.out 2 (.int .i64 0); have hcz129_3 := bc_ BK340.out 3 (.slice none 0 0); have hcz129_4 := bc_ BK340.out 4 (.slice none 0 0); have hfz129_0 := blk_frozen BK340.out 0; have hfz129_1 := blk_frozen BK340.out 1; have hfz129_2 := blk_frozen BK340.out 2; have hfz129_3 := blk_frozen BK340.out 3; have hfz129_4 := blk_frozen BK340.out 4; obtain ⟨Ao130, co130, eo130⟩ := Kd.R_slice HO335.out; subst eo130; obtain ⟨Ao131, co131, eo131⟩ := Kd.R_slice HO338.out; subst eo131))
                      (try simp only [Act.put, List.setIfInBounds_toArray, List.set_cons_zero, List.set_cons_succ])
                      go_cut [92] (fun v92 wc => ∃ (kq : Nat) (x92_108 : Bool), v92 = .bool x92_108 ∧ Aside0 (laws_FnExactCollideGas.j2 kq t317 x92_108 t291 t292 t293 t318 t319 = some r) ∧ Aside0 (kq ≤ kj64) ∧ Aside0 (Kd.R (Kd.int .i64) 2 wc w.heap.size (fun k_ => some k_ ≠ ((.slice Ao32 t314.length co32) : Value).ownBlock ∧ some k_ ≠ ((.slice Ao40 t294.length co40) : Value).ownBlock ∧ some k_ ≠ ((.slice Ao130 t333.length co130) : Value).ownBlock) (.slice Ao24 t273.length co24) t273) ∧ Aside0 (Kd.R Kd.bool 4 wc w.heap.size (fun k_ => some k_ ≠ ((.slice Ao33 t315.length co33) : Value).ownBlock ∧ some k_ ≠ ((.slice Ao41 t297.length co41) : Value).ownBlock ∧ some k_ ≠ ((.slice Ao131 t336.length co131) : Value).ownBlock) (.slice Ao25 t276.length co25) t276) ∧ Aside0 (Kd.R (Kd.int .i64) 2 wc w.heap.size (fun k_ => some k_ ≠ ((.slice Ao24 t273.length co24) : Value).ownBlock ∧ some k_ ≠ ((.slice Ao40 t294.length co40) : Value).ownBlock ∧ some k_ ≠ ((.slice Ao130 t333.length co130) : Value).ownBlock) (.slice Ao32 t314.length co32) t314) ∧ Aside0 (Kd.R Kd.bool 4 wc w.heap.size (fun k_ => some k_ ≠ ((.slice Ao25 t276.length co25) : Value).ownBlock ∧ some k_ ≠ ((.slice Ao41 t297.length co41) : Value).ownBlock ∧ some k_ ≠ ((.slice Ao131 t336.length co131) : Value).ownBlock) (.slice Ao33 t315.length co33) t315) ∧ Aside0 (Kd.R (Kd.int .i64) 2 wc w.heap.size (fun k_ => some k_ ≠ ((.slice Ao24 t273.length co24) : Value).ownBlock ∧ some k_ ≠ ((.slice Ao32 t314.length co32) : Value).ownBlock ∧ some k_ ≠ ((.slice Ao130 t333.length co130) : Value).ownBlock) (.slice Ao40 t294.length co40) t318) ∧ Aside0 (Kd.R Kd.bool 4 wc w.heap.size (fun k_ => some k_ ≠ ((.slice Ao25 t276.length co25) : Value).ownBlock ∧ some k_ ≠ ((.slice Ao33 t315.length co33) : Value).ownBlock ∧ some k_ ≠ ((.slice Ao131 t336.length co131) : Value).ownBlock) (.slice Ao41 t297.length co41) t319) ∧ Aside0 (Kd.R (Kd.int .i64) 2 wc w.heap.size (fun k_ => some k_ ≠ ((.slice Ao24 t273.length co24) : Value).ownBlock ∧ some k_ ≠ ((.slice Ao32 t314.length co32) : Value).ownBlock ∧ some k_ ≠ ((.slice Ao40 t294.length co40) : Value).ownBlock) (.slice Ao130 t333.length co130) t333) ∧ Aside0 (Kd.R Kd.bool 4 wc w.heap.size (fun k_ => some k_ ≠ ((.slice Ao25 t276.length co25) : Value).ownBlock ∧ some k_ ≠ ((.slice Ao33 t315.length co33) : Value).ownBlock ∧ some k_ ≠ ((.slice Ao41 t297.length co41) : Value).ownBlock) (.slice Ao131 t336.length co131) t336) ∧ Aside0 (wc.heap[gb259]? = some (.cells #[.int .i64 a0_0, .int .i64 a0_1, .int .i64 a0_2, (.slice A0_3 l0_3.length c0_3), (.slice A0_4 l0_4.length c0_4)] 25 (0, 0))) ∧ Aside0 (wc.heap[gb280]? = some (.cells #[.int .i64 t270, .int .i64 t271, .int .i64 t272, (.slice Ao24 t273.length co24), (.slice Ao25 t276.length co25)] 27 (0, 0))) ∧ Aside0 (wc.heap[gb290]? = some (.cells #[.int .i64 t281, .int .i64 t282, .int .i64 t283, (.slice Ao32 t314.length co32), (.slice Ao33 t315.length co33)] 27 (0, 0))) ∧ Aside0 (wc.heap[gb301]? = some (.cells #[.int .i64 t291, .int .i64 t292, .int .i64 t293, (.slice Ao40 t294.length co40), (.slice Ao41 t297.length co41)] 27 (0, 0))) ∧ Aside0 (wc.heap[gb340]? = some (.cells #[.int .i64 t330, .int .i64 t331, .int .i64 t332, (.slice Ao130 t333.length co130), (.slice Ao131 t336.length co131)] 27 (0, 0))) ∧ Aside0 (Below w.heap.size w wc))
                      case first =>
                        have H := HC109.out
                        clear HC109
                        replace H := Option.bind_eq_some_iff.mp H
                        obtain ⟨t341, A1320, H⟩ := H
                        replace H : (if t341 = true then (laws_FnExactCollideGas.j2 kj64 t317 (t339 != t279) t291 t292 t293 t318 t319) else (laws_FnExactCollideGas.j2 kj64 t317 true t291 t292 t293 t318 t319)) = some r := H
                        have A132 := Aside0.mk A1320
                        clear A1320
                        by_cases c133 : t341 = true
                        · subst c133
                          have H1 : (laws_FnExactCollideGas.j2 kj64 t317 (t339 != t279) t291 t292 t293 t318 t319) = some r := by rw [if_pos rfl] at H; exact H
                          clear H
                          have H := H1
                          clear H1
                          have H' := Aside0.mk H
                          clear H
                          have hnb134 := NB340_259.out
                          have hnc134 := NB259_340.out
                          have hnb135 := NB340_280.out
                          have hnc135 := NB280_340.out
                          have hnb136 := NB340_290.out
                          have hnc136 := NB290_340.out
                          have hnb137 := NB340_301.out
                          have hnc137 := NB301_340.out
                          have hcz138_0 := bc_ BK340.out 0 (.int .i64 0)
                          have hcz138_1 := bc_ BK340.out 1 (.int .i64 0)
                          have hcz138_2 := bc_ BK340.out 2 (.int .i64 0)
                          have hcz138_3 := bc_ BK340.out 3 (.slice none 0 0)
                          have hcz138_4 := bc_ BK340.out 4 (.slice none 0 0)
                          have hfz138_0 := blk_frozen BK340.out 0
                          have hfz138_1 := blk_frozen BK340.out 1
                          have hfz138_2 := blk_frozen BK340.out 2
                          have hfz138_3 := blk_frozen BK340.out 3
                          have hfz138_4 := blk_frozen BK340.out 4
                          have hnb139 := NB280_259.out
                          have hnc139 := NB259_280.out
                          have hnb140 := NB280_290.out
                          have hnc140 := NB290_280.out
                          have hnb141 := NB280_301.out
                          have hnc141 := NB301_280.out
                          have hcz142_0 := bc_ BK280.out 0 (.int .i64 t270)
                          have hcz142_1 := bc_ BK280.out 1 (.int .i64 t271)
                          have hcz142_2 := bc_ BK280.out 2 (.int .i64 t272)
                          have hcz142_3 := bc_ BK280.out 3 (.slice Ao24 t273.length co24)
                          have hcz142_4 := bc_ BK280.out 4 (.slice Ao25 t276.length co25)
                          have hfz142_0 := blk_frozen BK280.out 0
                          have hfz142_1 := blk_frozen BK280.out 1
                          have hfz142_2 := blk_frozen BK280.out 2
                          have hfz142_3 := blk_frozen BK280.out 3
                          have hfz142_4 := blk_frozen BK280.out 4
                          go_wp2_with (first | ((with_reducible refine gate_callee (f := 17) rfl ?_); refine goesL_ (some 86) rfl rfl Try.func17 (by kernel_rfl) rfl #[.agg #[.int .i64 t330, .int .i64 t331, .int .i64 t332, .slice Ao130 t333.length co130, .slice Ao131 t336.length co131], .agg #[.int .i64 t270, .int .i64 t271, .int .i64 t272, .slice Ao24 t273.length co24, .slice Ao25 t276.length co25]] rfl (by (try simp only [List.map_toArray, List.map_cons, List.map_nil]); first | done | rfl | (simp only [List.length_drop, List.length_take]; rfl)) ?_; (with_reducible refine (laws_eqGas.calls kj64 t330 t331 t332 _ _ t333 _ _ t336 t270 t271 t272 _ _ t273 _ _ t276 true _ ?side1 ?side2 ?side3 ?side4 ?side5 ?side6 ?side7 ?side8 A132.out).mono ?_); (case side1 => refine (Kd.R_reads' (e := 2) (base := w.heap.size) (ok := fun k_ => ((((True ∧ some k_ ≠ (.slice Ao24 t273.length co24 : Value).ownBlock) ∧ some k_ ≠ (.slice Ao32 t314.length co32 : Value).ownBlock) ∧ some k_ ≠ (.slice Ao40 t294.length co40 : Value).ownBlock) ∧ some k_ ≠ (.slice Ao121 t324.length co121 : Value).ownBlock)) (n := t333.length) (c := co130) ?_).2.2; exact (by (with_reducible repeat (first | apply Kd.R_alloc | apply Kd.R_drewN | apply Kd.R_drew)); exact (Kd.R_mono (Kd.R_far (p := ⟨gb340, 4, none⟩) (Kd.R_far (p := ⟨gb340, 3, none⟩) (Kd.R_far (p := ⟨gb340, 2, none⟩) (Kd.R_far (p := ⟨gb340, 1, none⟩) (Kd.R_far (p := ⟨gb340, 0, none⟩) (Kd.R_types HO335.out BK340.out (by decide)) (fun _ hk => hk.2) (.int .i64 t330)) (fun _ hk => hk.2) (.int .i64 t331)) (fun _ hk => hk.2) (.int .i64 t332)) (fun _ hk => hk.2) (.slice Ao130 t333.length co130)) (fun _ hk => hk.2) (.slice Ao131 t336.length co131)) (fun _ h_ => h_.1)))); (case side2 => exact (Kd.R_reads' HO335.out).2.1); (case side3 => refine (Kd.R_reads' (e := 4) (base := w.heap.size) (ok := fun k_ => ((((True ∧ some k_ ≠ (.slice Ao25 t276.length co25 : Value).ownBlock) ∧ some k_ ≠ (.slice Ao33 t315.length co33 : Value).ownBlock) ∧ some k_ ≠ (.slice Ao41 t297.length co41 : Value).ownBlock) ∧ some k_ ≠ (.slice Ao122 t327.length co122 : Value).ownBlock)) (n := t336.length) (c := co131) ?_).2.2; exact (by (with_reducible repeat (first | apply Kd.R_alloc | apply Kd.R_drewN | apply Kd.R_drew)); exact (Kd.R_mono (Kd.R_far (p := ⟨gb340, 4, none⟩) (Kd.R_far (p := ⟨gb340, 3, none⟩) (Kd.R_far (p := ⟨gb340, 2, none⟩) (Kd.R_far (p := ⟨gb340, 1, none⟩) (Kd.R_far (p := ⟨gb340, 0, none⟩) (Kd.R_types HO338.out BK340.out (by decide)) (fun _ hk => hk.2) (.int .i64 t330)) (fun _ hk => hk.2) (.int .i64 t331)) (fun _ hk => hk.2) (.int .i64 t332)) (fun _ hk => hk.2) (.slice Ao130 t333.length co130)) (fun _ hk => hk.2) (.slice Ao131 t336.length co131)) (fun _ h_ => h_.1)))); (case side4 => exact (Kd.R_reads' HO338.out).2.1); (case side5 => refine (Kd.R_reads' (e := 2) (base := w.heap.size) (ok := fun k_ => (((some k_ ≠ (.slice Ao32 t314.length co32 : Value).ownBlock ∧ some k_ ≠ (.slice Ao40 t294.length co40 : Value).ownBlock) ∧ some k_ ≠ (.slice Ao121 t324.length co121 : Value).ownBlock) ∧ some k_ ≠ (.slice Ao130 t333.length co130 : Value).ownBlock)) (n := t273.length) (c := co24) ?_).2.2; exact (by (with_reducible repeat (first | apply Kd.R_alloc | apply Kd.R_drewN | apply Kd.R_drew)); exact (Kd.R_mono (Kd.R_far (p := ⟨gb340, 4, none⟩) (Kd.R_far (p := ⟨gb340, 3, none⟩) (Kd.R_far (p := ⟨gb340, 2, none⟩) (Kd.R_far (p := ⟨gb340, 1, none⟩) (Kd.R_far (p := ⟨gb340, 0, none⟩) (Kd.R_types HO_281003.out BK340.out (by decide)) (fun _ hk => hk.2) (.int .i64 t330)) (fun _ hk => hk.2) (.int .i64 t331)) (fun _ hk => hk.2) (.int .i64 t332)) (fun _ hk => hk.2) (.slice Ao130 t333.length co130)) (fun _ hk => hk.2) (.slice Ao131 t336.length co131)) (fun _ h_ => h_.1)))); (case side6 => exact (Kd.R_reads' HO_281003.out).2.1); (case side7 => refine (Kd.R_reads' (e := 4) (base := w.heap.size) (ok := fun k_ => (((some k_ ≠ (.slice Ao33 t315.length co33 : Value).ownBlock ∧ some k_ ≠ (.slice Ao41 t297.length co41 : Value).ownBlock) ∧ some k_ ≠ (.slice Ao122 t327.length co122 : Value).ownBlock) ∧ some k_ ≠ (.slice Ao131 t336.length co131 : Value).ownBlock)) (n := t276.length) (c := co25) ?_).2.2; exact (by (with_reducible repeat (first | apply Kd.R_alloc | apply Kd.R_drewN | apply Kd.R_drew)); exact (Kd.R_mono (Kd.R_far (p := ⟨gb340, 4, none⟩) (Kd.R_far (p := ⟨gb340, 3, none⟩) (Kd.R_far (p := ⟨gb340, 2, none⟩) (Kd.R_far (p := ⟨gb340, 1, none⟩) (Kd.R_far (p := ⟨gb340, 0, none⟩) (Kd.R_types HO_281004.out BK340.out (by decide)) (fun _ hk => hk.2) (.int .i64 t330)) (fun _ hk => hk.2) (.int .i64 t331)) (fun _ hk => hk.2) (.int .i64 t332)) (fun _ hk => hk.2) (.slice Ao130 t333.length co130)) (fun _ hk => hk.2) (.slice Ao131 t336.length co131)) (fun _ h_ => h_.1)))); (case side8 => exact (Kd.R_reads' HO_281004.out).2.1); rintro e w143 ⟨rfl, hb⟩; refine ⟨_, rfl, ?_⟩; have n0_ := Aside0.mk (Kd.R_below (by (with_reducible repeat (first | apply Kd.R_alloc | apply Kd.R_drewN | apply Kd.R_drew)); exact (Kd.R_mono (Kd.R_far (p := ⟨gb340, 4, none⟩) (Kd.R_far (p := ⟨gb340, 3, none⟩) (Kd.R_far (p := ⟨gb340, 2, none⟩) (Kd.R_far (p := ⟨gb340, 1, none⟩) (Kd.R_far (p := ⟨gb340, 0, none⟩) (Kd.R_types HO_281003.out BK340.out (by decide)) (fun _ hk => hk.2) (.int .i64 t330)) (fun _ hk => hk.2) (.int .i64 t331)) (fun _ hk => hk.2) (.int .i64 t332)) (fun _ hk => hk.2) (.slice Ao130 t333.length co130)) (fun _ hk => hk.2) (.slice Ao131 t336.length co131)) (fun _ h_ => h_.1))) hb); have n1_ := Aside0.mk (Kd.R_below (by (with_reducible repeat (first | apply Kd.R_alloc | apply Kd.R_drewN | apply Kd.R_drew)); exact (Kd.R_mono (Kd.R_far (p := ⟨gb340, 4, none⟩) (Kd.R_far (p := ⟨gb340, 3, none⟩) (Kd.R_far (p := ⟨gb340, 2, none⟩) (Kd.R_far (p := ⟨gb340, 1, none⟩) (Kd.R_far (p := ⟨gb340, 0, none⟩) (Kd.R_types HO_281004.out BK340.out (by decide)) (fun _ hk => hk.2) (.int .i64 t330)) (fun _ hk => hk.2) (.int .i64 t331)) (fun _ hk => hk.2) (.int .i64 t332)) (fun _ hk => hk.2) (.slice Ao130 t333.length co130)) (fun _ hk => hk.2) (.slice Ao131 t336.length co131)) (fun _ h_ => h_.1))) hb); have n2_ := Aside0.mk (Kd.R_below (by (with_reducible repeat (first | apply Kd.R_alloc | apply Kd.R_drewN | apply Kd.R_drew)); exact (Kd.R_mono (Kd.R_far (p := ⟨gb340, 4, none⟩) (Kd.R_far (p := ⟨gb340, 3, none⟩) (Kd.R_far (p := ⟨gb340, 2, none⟩) (Kd.R_far (p := ⟨gb340, 1, none⟩) (Kd.R_far (p := ⟨gb340, 0, none⟩) (Kd.R_types HO_291003.out BK340.out (by decide)) (fun _ hk => hk.2) (.int .i64 t330)) (fun _ hk => hk.2) (.int .i64 t331)) (fun _ hk => hk.2) (.int .i64 t332)) (fun _ hk => hk.2) (.slice Ao130 t333.length co130)) (fun _ hk => hk.2) (.slice Ao131 t336.length co131)) (fun _ h_ => h_.1))) hb); have n3_ := Aside0.mk (Kd.R_below (by (with_reducible repeat (first | apply Kd.R_alloc | apply Kd.R_drewN | apply Kd.R_drew)); exact (Kd.R_mono (Kd.R_far (p := ⟨gb340, 4, none⟩) (Kd.R_far (p := ⟨gb340, 3, none⟩) (Kd.R_far (p := ⟨gb340, 2, none⟩) (Kd.R_far (p := ⟨gb340, 1, none⟩) (Kd.R_far (p := ⟨gb340, 0, none⟩) (Kd.R_types HO_291004.out BK340.out (by decide)) (fun _ hk => hk.2) (.int .i64 t330)) (fun _ hk => hk.2) (.int .i64 t331)) (fun _ hk => hk.2) (.int .i64 t332)) (fun _ hk => hk.2) (.slice Ao130 t333.length co130)) (fun _ hk => hk.2) (.slice Ao131 t336.length co131)) (fun _ h_ => h_.1))) hb); have n4_ := Aside0.mk (Kd.R_below (by (with_reducible repeat (first | apply Kd.R_alloc | apply Kd.R_drewN | apply Kd.R_drew)); exact (Kd.R_mono (Kd.R_far (p := ⟨gb340, 4, none⟩) (Kd.R_far (p := ⟨gb340, 3, none⟩) (Kd.R_far (p := ⟨gb340, 2, none⟩) (Kd.R_far (p := ⟨gb340, 1, none⟩) (Kd.R_far (p := ⟨gb340, 0, none⟩) (Kd.R_types HO_302003.out BK340.out (by decide)) (fun _ hk => hk.2) (.int .i64 t330)) (fun _ hk => hk.2) (.int .i64 t331)) (fun _ hk => hk.2) (.int .i64 t332)) (fun _ hk => hk.2) (.slice Ao130 t333.length co130)) (fun _ hk => hk.2) (.slice Ao131 t336.length co131)) (fun _ h_ => h_.1))) hb); have n5_ := Aside0.mk (Kd.R_below (by (with_reducible repeat (first | apply Kd.R_alloc | apply Kd.R_drewN | apply Kd.R_drew)); exact (Kd.R_mono (Kd.R_far (p := ⟨gb340, 4, none⟩) (Kd.R_far (p := ⟨gb340, 3, none⟩) (Kd.R_far (p := ⟨gb340, 2, none⟩) (Kd.R_far (p := ⟨gb340, 1, none⟩) (Kd.R_far (p := ⟨gb340, 0, none⟩) (Kd.R_types HO_302004.out BK340.out (by decide)) (fun _ hk => hk.2) (.int .i64 t330)) (fun _ hk => hk.2) (.int .i64 t331)) (fun _ hk => hk.2) (.int .i64 t332)) (fun _ hk => hk.2) (.slice Ao130 t333.length co130)) (fun _ hk => hk.2) (.slice Ao131 t336.length co131)) (fun _ h_ => h_.1))) hb); have n6_ := Aside0.mk (Kd.R_below (by (with_reducible repeat (first | apply Kd.R_alloc | apply Kd.R_drewN | apply Kd.R_drew)); exact (Kd.R_mono (Kd.R_far (p := ⟨gb340, 4, none⟩) (Kd.R_far (p := ⟨gb340, 3, none⟩) (Kd.R_far (p := ⟨gb340, 2, none⟩) (Kd.R_far (p := ⟨gb340, 1, none⟩) (Kd.R_far (p := ⟨gb340, 0, none⟩) (Kd.R_types HO326.out BK340.out (by decide)) (fun _ hk => hk.2) (.int .i64 t330)) (fun _ hk => hk.2) (.int .i64 t331)) (fun _ hk => hk.2) (.int .i64 t332)) (fun _ hk => hk.2) (.slice Ao130 t333.length co130)) (fun _ hk => hk.2) (.slice Ao131 t336.length co131)) (fun _ h_ => h_.1))) hb); have n7_ := Aside0.mk (Kd.R_below (by (with_reducible repeat (first | apply Kd.R_alloc | apply Kd.R_drewN | apply Kd.R_drew)); exact (Kd.R_mono (Kd.R_far (p := ⟨gb340, 4, none⟩) (Kd.R_far (p := ⟨gb340, 3, none⟩) (Kd.R_far (p := ⟨gb340, 2, none⟩) (Kd.R_far (p := ⟨gb340, 1, none⟩) (Kd.R_far (p := ⟨gb340, 0, none⟩) (Kd.R_types HO329.out BK340.out (by decide)) (fun _ hk => hk.2) (.int .i64 t330)) (fun _ hk => hk.2) (.int .i64 t331)) (fun _ hk => hk.2) (.int .i64 t332)) (fun _ hk => hk.2) (.slice Ao130 t333.length co130)) (fun _ hk => hk.2) (.slice Ao131 t336.length co131)) (fun _ h_ => h_.1))) hb); have n8_ := Aside0.mk (Kd.R_below (by (with_reducible repeat (first | apply Kd.R_alloc | apply Kd.R_drewN | apply Kd.R_drew)); exact (Kd.R_mono (Kd.R_far (p := ⟨gb340, 4, none⟩) (Kd.R_far (p := ⟨gb340, 3, none⟩) (Kd.R_far (p := ⟨gb340, 2, none⟩) (Kd.R_far (p := ⟨gb340, 1, none⟩) (Kd.R_far (p := ⟨gb340, 0, none⟩) (Kd.R_types HO335.out BK340.out (by decide)) (fun _ hk => hk.2) (.int .i64 t330)) (fun _ hk => hk.2) (.int .i64 t331)) (fun _ hk => hk.2) (.int .i64 t332)) (fun _ hk => hk.2) (.slice Ao130 t333.length co130)) (fun _ hk => hk.2) (.slice Ao131 t336.length co131)) (fun _ h_ => h_.1))) hb); have n9_ := Aside0.mk (Kd.R_below (by (with_reducible repeat (first | apply Kd.R_alloc | apply Kd.R_drewN | apply Kd.R_drew)); exact (Kd.R_mono (Kd.R_far (p := ⟨gb340, 4, none⟩) (Kd.R_far (p := ⟨gb340, 3, none⟩) (Kd.R_far (p := ⟨gb340, 2, none⟩) (Kd.R_far (p := ⟨gb340, 1, none⟩) (Kd.R_far (p := ⟨gb340, 0, none⟩) (Kd.R_types HO338.out BK340.out (by decide)) (fun _ hk => hk.2) (.int .i64 t330)) (fun _ hk => hk.2) (.int .i64 t331)) (fun _ hk => hk.2) (.int .i64 t332)) (fun _ hk => hk.2) (.slice Ao130 t333.length co130)) (fun _ hk => hk.2) (.slice Ao131 t336.length co131)) (fun _ h_ => h_.1))) hb); have n10_ := Aside0.mk (blk_below (g := gb259) (o := .cells #[.int .i64 a0_0, .int .i64 a0_1, .int .i64 a0_2, .slice A0_3 l0_3.length c0_3, .slice A0_4 l0_4.length c0_4] 25 (0, 0)) (by (with_reducible repeat (first | refine blk_drewN ?_ _ | refine blk_drew ?_ | refine blk_alloc ?_ _)); refine blk_far ?_ NB259_340.out _; (with_reducible repeat (first | refine blk_drewN ?_ _ | refine blk_drew ?_ | refine blk_alloc ?_ _)); refine blk_far ?_ NB259_340.out _; (with_reducible repeat (first | refine blk_drewN ?_ _ | refine blk_drew ?_ | refine blk_alloc ?_ _)); refine blk_far ?_ NB259_340.out _; (with_reducible repeat (first | refine blk_drewN ?_ _ | refine blk_drew ?_ | refine blk_alloc ?_ _)); refine blk_far ?_ NB259_340.out _; (with_reducible repeat (first | refine blk_drewN ?_ _ | refine blk_drew ?_ | refine blk_alloc ?_ _)); refine blk_far ?_ NB259_340.out _; (with_reducible repeat (first | refine blk_drewN ?_ _ | refine blk_drew ?_ | refine blk_alloc ?_ _)); exact BK259.out) hb); have n11_ := Aside0.mk (blk_below (g := gb280) (o := .cells #[.int .i64 t270, .int .i64 t271, .int .i64 t272, .slice Ao24 t273.length co24, .slice Ao25 t276.length co25] 27 (0, 0)) (by (with_reducible repeat (first | refine blk_drewN ?_ _ | refine blk_drew ?_ | refine blk_alloc ?_ _)); refine blk_far ?_ NB280_340.out _; (with_reducible repeat (first | refine blk_drewN ?_ _ | refine blk_drew ?_ | refine blk_alloc ?_ _)); refine blk_far ?_ NB280_340.out _; (with_reducible repeat (first | refine blk_drewN ?_ _ | refine blk_drew ?_ | refine blk_alloc ?_ _)); refine blk_far ?_ NB280_340.out _; (with_reducible repeat (first | refine blk_drewN ?_ _ | refine blk_drew ?_ | refine blk_alloc ?_ _)); refine blk_far ?_ NB280_340.out _; (with_reducible repeat (first | refine blk_drewN ?_ _ | refine blk_drew ?_ | refine blk_alloc ?_ _)); refine blk_far ?_ NB280_340.out _; (with_reducible repeat (first | refine blk_drewN ?_ _ | refine blk_drew ?_ | refine blk_alloc ?_ _)); exact BK280.out) hb); have n12_ := Aside0.mk (blk_below (g := gb290) (o := .cells #[.int .i64 t281, .int .i64 t282, .int .i64 t283, .slice Ao32 t314.length co32, .slice Ao33 t315.length co33] 27 (0, 0)) (by (with_reducible repeat (first | refine blk_drewN ?_ _ | refine blk_drew ?_ | refine blk_alloc ?_ _)); refine blk_far ?_ NB290_340.out _; (with_reducible repeat (first | refine blk_drewN ?_ _ | refine blk_drew ?_ | refine blk_alloc ?_ _)); refine blk_far ?_ NB290_340.out _; (with_reducible repeat (first | refine blk_drewN ?_ _ | refine blk_drew ?_ | refine blk_alloc ?_ _)); refine blk_far ?_ NB290_340.out _; (with_reducible repeat (first | refine blk_drewN ?_ _ | refine blk_drew ?_ | refine blk_alloc ?_ _)); refine blk_far ?_ NB290_340.out _; (with_reducible repeat (first | refine blk_drewN ?_ _ | refine blk_drew ?_ | refine blk_alloc ?_ _)); refine blk_far ?_ NB290_340.out _; (with_reducible repeat (first | refine blk_drewN ?_ _ | refine blk_drew ?_ | refine blk_alloc ?_ _)); exact BK290.out) hb); have n13_ := Aside0.mk (blk_below (g := gb301) (o := .cells #[.int .i64 t291, .int .i64 t292, .int .i64 t293, .slice Ao40 t294.length co40, .slice Ao41 t297.length co41] 27 (0, 0)) (by (with_reducible repeat (first | refine blk_drewN ?_ _ | refine blk_drew ?_ | refine blk_alloc ?_ _)); refine blk_far ?_ NB301_340.out _; (with_reducible repeat (first | refine blk_drewN ?_ _ | refine blk_drew ?_ | refine blk_alloc ?_ _)); refine blk_far ?_ NB301_340.out _; (with_reducible repeat (first | refine blk_drewN ?_ _ | refine blk_drew ?_ | refine blk_alloc ?_ _)); refine blk_far ?_ NB301_340.out _; (with_reducible repeat (first | refine blk_drewN ?_ _ | refine blk_drew ?_ | refine blk_alloc ?_ _)); refine blk_far ?_ NB301_340.out _; (with_reducible repeat (first | refine blk_drewN ?_ _ | refine blk_drew ?_ | refine blk_alloc ?_ _)); refine blk_far ?_ NB301_340.out _; (with_reducible repeat (first | refine blk_drewN ?_ _ | refine blk_drew ?_ | refine blk_alloc ?_ _)); exact BK301.out) hb); have n14_ := Aside0.mk (blk_below (g := gb340) (o := .cells #[.int .i64 t330, .int .i64 t331, .int .i64 t332, .slice Ao130 t333.length co130, .slice Ao131 t336.length co131] 27 (0, 0)) (by (with_reducible repeat (first | refine blk_drewN ?_ _ | refine blk_drew ?_ | refine blk_alloc ?_ _)); refine blk_put (cs := #[.int .i64 t330, .int .i64 t331, .int .i64 t332, .slice Ao130 t333.length co130, .slice none 0 0]) ?_ 4 _ rfl; (with_reducible repeat (first | refine blk_drewN ?_ _ | refine blk_drew ?_ | refine blk_alloc ?_ _)); refine blk_put (cs := #[.int .i64 t330, .int .i64 t331, .int .i64 t332, .slice none 0 0, .slice none 0 0]) ?_ 3 _ rfl; (with_reducible repeat (first | refine blk_drewN ?_ _ | refine blk_drew ?_ | refine blk_alloc ?_ _)); refine blk_put (cs := #[.int .i64 t330, .int .i64 t331, .int .i64 0, .slice none 0 0, .slice none 0 0]) ?_ 2 _ rfl; (with_reducible repeat (first | refine blk_drewN ?_ _ | refine blk_drew ?_ | refine blk_alloc ?_ _)); refine blk_put (cs := #[.int .i64 t330, .int .i64 0, .int .i64 0, .slice none 0 0, .slice none 0 0]) ?_ 1 _ rfl; (with_reducible repeat (first | refine blk_drewN ?_ _ | refine blk_drew ?_ | refine blk_alloc ?_ _)); refine blk_put (cs := #[.int .i64 0, .int .i64 0, .int .i64 0, .slice none 0 0, .slice none 0 0]) ?_ 0 _ rfl; (with_reducible repeat (first | refine blk_drewN ?_ _ | refine blk_drew ?_ | refine blk_alloc ?_ _)); exact BK340.out) hb); have n15_ := Aside0.mk (below_step (bk_ HB.out) hb); clear HO_281003; clear HO_281004; clear HO_291003; clear HO_291004; clear HO_302003; clear HO_302004; clear HO326; clear HO329; clear HO335; clear HO338; clear BK259; clear BK280; clear BK290; clear BK301; clear BK340; clear HB; have HO_281003 := n0_; have HO_281004 := n1_; have HO_291003 := n2_; have HO_291004 := n3_; have HO_302003 := n4_; have HO_302004 := n5_; have HO326 := n6_; have HO329 := n7_; have HO335 := n8_; have HO338 := n9_; have BK259 := n10_; have BK280 := n11_; have BK290 := n12_; have BK301 := n13_; have BK340 := n14_; have HB := n15_; clear n0_ n1_ n2_ n3_ n4_ n5_ n6_ n7_ n8_ n9_ n10_ n11_ n12_ n13_ n14_ n15_; (try clear hb); (try clear hb2); (try clear hk); (try clear hi)))
                          go_meet
                          case rel => exact ⟨_, ((t339 != t279)), (by first | rfl | (simp; done) | (simp [i64_w, i32_w]; done) | (simp [*]; done) | (simp [*, i64_w, i32_w]; done)), H', ⟨by have := HJ11.out; have := HJ64.out; first | omega | exact Nat.le_refl _⟩, ⟨by (try simp only [hl291003_64]); (try simp only [hl291004_64]); (with_reducible repeat (first | apply Kd.R_alloc | apply Kd.R_drewN | apply Kd.R_drew)); exact Kd.R_mono HO_281003.out (fun _ hk => ⟨hk.1.1.1, ⟨hk.1.1.2, hk.2⟩⟩)⟩, ⟨by (try simp only [hl291003_64]); (try simp only [hl291004_64]); (with_reducible repeat (first | apply Kd.R_alloc | apply Kd.R_drewN | apply Kd.R_drew)); exact Kd.R_mono HO_281004.out (fun _ hk => ⟨hk.1.1.1, ⟨hk.1.1.2, hk.2⟩⟩)⟩, ⟨by (try simp only [hl291003_64]); (try simp only [hl291004_64]); (with_reducible repeat (first | apply Kd.R_alloc | apply Kd.R_drewN | apply Kd.R_drew)); exact Kd.R_mono HO_291003.out (fun _ hk => ⟨hk.1.1.1, ⟨hk.1.1.2, hk.2⟩⟩)⟩, ⟨by (try simp only [hl291003_64]); (try simp only [hl291004_64]); (with_reducible repeat (first | apply Kd.R_alloc | apply Kd.R_drewN | apply Kd.R_drew)); exact Kd.R_mono HO_291004.out (fun _ hk => ⟨hk.1.1.1, ⟨hk.1.1.2, hk.2⟩⟩)⟩, ⟨by (try simp only [hl291003_64]); (try simp only [hl291004_64]); (with_reducible repeat (first | apply Kd.R_alloc | apply Kd.R_drewN | apply Kd.R_drew)); exact Kd.R_mono HO_302003.out (fun _ hk => ⟨hk.1.1.1, ⟨hk.1.1.2, hk.2⟩⟩)⟩, ⟨by (try simp only [hl291003_64]); (try simp only [hl291004_64]); (with_reducible repeat (first | apply Kd.R_alloc | apply Kd.R_drewN | apply Kd.R_drew)); exact Kd.R_mono HO_302004.out (fun _ hk => ⟨hk.1.1.1, ⟨hk.1.1.2, hk.2⟩⟩)⟩, ⟨by (try simp only [hl291003_64]); (try simp only [hl291004_64]); (with_reducible repeat (first | apply Kd.R_alloc | apply Kd.R_drewN | apply Kd.R_drew)); exact Kd.R_mono HO335.out (fun _ hk => ⟨hk.1.1.1.2, ⟨hk.1.1.2, hk.1.2⟩⟩)⟩, ⟨by (try simp only [hl291003_64]); (try simp only [hl291004_64]); (with_reducible repeat (first | apply Kd.R_alloc | apply Kd.R_drewN | apply Kd.R_drew)); exact Kd.R_mono HO338.out (fun _ hk => ⟨hk.1.1.1.2, ⟨hk.1.1.2, hk.1.2⟩⟩)⟩, ⟨by (try simp only [hl291003_64]); (try simp only [hl291004_64]); (with_reducible repeat (first | refine blk_drewN ?_ _ | refine blk_drew ?_ | refine blk_alloc ?_ _)); exact BK259.out⟩, ⟨by (try simp only [hl291003_64]); (try simp only [hl291004_64]); (with_reducible repeat (first | refine blk_drewN ?_ _ | refine blk_drew ?_ | refine blk_alloc ?_ _)); exact BK280.out⟩, ⟨by (try simp only [hl291003_64]); (try simp only [hl291004_64]); (with_reducible repeat (first | refine blk_drewN ?_ _ | refine blk_drew ?_ | refine blk_alloc ?_ _)); exact BK290.out⟩, ⟨by (try simp only [hl291003_64]); (try simp only [hl291004_64]); (with_reducible repeat (first | refine blk_drewN ?_ _ | refine blk_drew ?_ | refine blk_alloc ?_ _)); exact BK301.out⟩, ⟨by (try simp only [hl291003_64]); (try simp only [hl291004_64]); (with_reducible repeat (first | refine blk_drewN ?_ _ | refine blk_drew ?_ | refine blk_alloc ?_ _)); exact BK340.out⟩, ⟨bk_ HB.out⟩⟩
                        · replace c133 := Bool.eq_false_iff.mpr c133
                          subst c133
                          have H1 : (laws_FnExactCollideGas.j2 kj64 t317 true t291 t292 t293 t318 t319) = some r := by rw [if_neg (show ¬ (false = true) by decide)] at H; exact H
                          clear H
                          have H := H1
                          clear H1
                          have H' := Aside0.mk H
                          clear H
                          have hnb144 := NB340_259.out
                          have hnc144 := NB259_340.out
                          have hnb145 := NB340_280.out
                          have hnc145 := NB280_340.out
                          have hnb146 := NB340_290.out
                          have hnc146 := NB290_340.out
                          have hnb147 := NB340_301.out
                          have hnc147 := NB301_340.out
                          have hcz148_0 := bc_ BK340.out 0 (.int .i64 0)
                          have hcz148_1 := bc_ BK340.out 1 (.int .i64 0)
                          have hcz148_2 := bc_ BK340.out 2 (.int .i64 0)
                          have hcz148_3 := bc_ BK340.out 3 (.slice none 0 0)
                          have hcz148_4 := bc_ BK340.out 4 (.slice none 0 0)
                          have hfz148_0 := blk_frozen BK340.out 0
                          have hfz148_1 := blk_frozen BK340.out 1
                          have hfz148_2 := blk_frozen BK340.out 2
                          have hfz148_3 := blk_frozen BK340.out 3
                          have hfz148_4 := blk_frozen BK340.out 4
                          have hnb149 := NB280_259.out
                          have hnc149 := NB259_280.out
                          have hnb150 := NB280_290.out
                          have hnc150 := NB290_280.out
                          have hnb151 := NB280_301.out
                          have hnc151 := NB301_280.out
                          have hcz152_0 := bc_ BK280.out 0 (.int .i64 t270)
                          have hcz152_1 := bc_ BK280.out 1 (.int .i64 t271)
                          have hcz152_2 := bc_ BK280.out 2 (.int .i64 t272)
                          have hcz152_3 := bc_ BK280.out 3 (.slice Ao24 t273.length co24)
                          have hcz152_4 := bc_ BK280.out 4 (.slice Ao25 t276.length co25)
                          have hfz152_0 := blk_frozen BK280.out 0
                          have hfz152_1 := blk_frozen BK280.out 1
                          have hfz152_2 := blk_frozen BK280.out 2
                          have hfz152_3 := blk_frozen BK280.out 3
                          have hfz152_4 := blk_frozen BK280.out 4
                          go_wp2_with (first | ((with_reducible refine gate_callee (f := 17) rfl ?_); refine goesL_ (some 86) rfl rfl Try.func17 (by kernel_rfl) rfl #[.agg #[.int .i64 t330, .int .i64 t331, .int .i64 t332, .slice Ao130 t333.length co130, .slice Ao131 t336.length co131], .agg #[.int .i64 t270, .int .i64 t271, .int .i64 t272, .slice Ao24 t273.length co24, .slice Ao25 t276.length co25]] rfl (by (try simp only [List.map_toArray, List.map_cons, List.map_nil]); first | done | rfl | (simp only [List.length_drop, List.length_take]; rfl)) ?_; (with_reducible refine (laws_eqGas.calls kj64 t330 t331 t332 _ _ t333 _ _ t336 t270 t271 t272 _ _ t273 _ _ t276 false _ ?side1 ?side2 ?side3 ?side4 ?side5 ?side6 ?side7 ?side8 A132.out).mono ?_); (case side1 => refine (Kd.R_reads' (e := 2) (base := w.heap.size) (ok := fun k_ => ((((True ∧ some k_ ≠ (.slice Ao24 t273.length co24 : Value).ownBlock) ∧ some k_ ≠ (.slice Ao32 t314.length co32 : Value).ownBlock) ∧ some k_ ≠ (.slice Ao40 t294.length co40 : Value).ownBlock) ∧ some k_ ≠ (.slice Ao121 t324.length co121 : Value).ownBlock)) (n := t333.length) (c := co130) ?_).2.2; exact (by (with_reducible repeat (first | apply Kd.R_alloc | apply Kd.R_drewN | apply Kd.R_drew)); exact (Kd.R_mono (Kd.R_far (p := ⟨gb340, 4, none⟩) (Kd.R_far (p := ⟨gb340, 3, none⟩) (Kd.R_far (p := ⟨gb340, 2, none⟩) (Kd.R_far (p := ⟨gb340, 1, none⟩) (Kd.R_far (p := ⟨gb340, 0, none⟩) (Kd.R_types HO335.out BK340.out (by decide)) (fun _ hk => hk.2) (.int .i64 t330)) (fun _ hk => hk.2) (.int .i64 t331)) (fun _ hk => hk.2) (.int .i64 t332)) (fun _ hk => hk.2) (.slice Ao130 t333.length co130)) (fun _ hk => hk.2) (.slice Ao131 t336.length co131)) (fun _ h_ => h_.1)))); (case side2 => exact (Kd.R_reads' HO335.out).2.1); (case side3 => refine (Kd.R_reads' (e := 4) (base := w.heap.size) (ok := fun k_ => ((((True ∧ some k_ ≠ (.slice Ao25 t276.length co25 : Value).ownBlock) ∧ some k_ ≠ (.slice Ao33 t315.length co33 : Value).ownBlock) ∧ some k_ ≠ (.slice Ao41 t297.length co41 : Value).ownBlock) ∧ some k_ ≠ (.slice Ao122 t327.length co122 : Value).ownBlock)) (n := t336.length) (c := co131) ?_).2.2; exact (by (with_reducible repeat (first | apply Kd.R_alloc | apply Kd.R_drewN | apply Kd.R_drew)); exact (Kd.R_mono (Kd.R_far (p := ⟨gb340, 4, none⟩) (Kd.R_far (p := ⟨gb340, 3, none⟩) (Kd.R_far (p := ⟨gb340, 2, none⟩) (Kd.R_far (p := ⟨gb340, 1, none⟩) (Kd.R_far (p := ⟨gb340, 0, none⟩) (Kd.R_types HO338.out BK340.out (by decide)) (fun _ hk => hk.2) (.int .i64 t330)) (fun _ hk => hk.2) (.int .i64 t331)) (fun _ hk => hk.2) (.int .i64 t332)) (fun _ hk => hk.2) (.slice Ao130 t333.length co130)) (fun _ hk => hk.2) (.slice Ao131 t336.length co131)) (fun _ h_ => h_.1)))); (case side4 => exact (Kd.R_reads' HO338.out).2.1); (case side5 => refine (Kd.R_reads' (e := 2) (base := w.heap.size) (ok := fun k_ => (((some k_ ≠ (.slice Ao32 t314.length co32 : Value).ownBlock ∧ some k_ ≠ (.slice Ao40 t294.length co40 : Value).ownBlock) ∧ some k_ ≠ (.slice Ao121 t324.length co121 : Value).ownBlock) ∧ some k_ ≠ (.slice Ao130 t333.length co130 : Value).ownBlock)) (n := t273.length) (c := co24) ?_).2.2; exact (by (with_reducible repeat (first | apply Kd.R_alloc | apply Kd.R_drewN | apply Kd.R_drew)); exact (Kd.R_mono (Kd.R_far (p := ⟨gb340, 4, none⟩) (Kd.R_far (p := ⟨gb340, 3, none⟩) (Kd.R_far (p := ⟨gb340, 2, none⟩) (Kd.R_far (p := ⟨gb340, 1, none⟩) (Kd.R_far (p := ⟨gb340, 0, none⟩) (Kd.R_types HO_281003.out BK340.out (by decide)) (fun _ hk => hk.2) (.int .i64 t330)) (fun _ hk => hk.2) (.int .i64 t331)) (fun _ hk => hk.2) (.int .i64 t332)) (fun _ hk => hk.2) (.slice Ao130 t333.length co130)) (fun _ hk => hk.2) (.slice Ao131 t336.length co131)) (fun _ h_ => h_.1)))); (case side6 => exact (Kd.R_reads' HO_281003.out).2.1); (case side7 => refine (Kd.R_reads' (e := 4) (base := w.heap.size) (ok := fun k_ => (((some k_ ≠ (.slice Ao33 t315.length co33 : Value).ownBlock ∧ some k_ ≠ (.slice Ao41 t297.length co41 : Value).ownBlock) ∧ some k_ ≠ (.slice Ao122 t327.length co122 : Value).ownBlock) ∧ some k_ ≠ (.slice Ao131 t336.length co131 : Value).ownBlock)) (n := t276.length) (c := co25) ?_).2.2; exact (by (with_reducible repeat (first | apply Kd.R_alloc | apply Kd.R_drewN | apply Kd.R_drew)); exact (Kd.R_mono (Kd.R_far (p := ⟨gb340, 4, none⟩) (Kd.R_far (p := ⟨gb340, 3, none⟩) (Kd.R_far (p := ⟨gb340, 2, none⟩) (Kd.R_far (p := ⟨gb340, 1, none⟩) (Kd.R_far (p := ⟨gb340, 0, none⟩) (Kd.R_types HO_281004.out BK340.out (by decide)) (fun _ hk => hk.2) (.int .i64 t330)) (fun _ hk => hk.2) (.int .i64 t331)) (fun _ hk => hk.2) (.int .i64 t332)) (fun _ hk => hk.2) (.slice Ao130 t333.length co130)) (fun _ hk => hk.2) (.slice Ao131 t336.length co131)) (fun _ h_ => h_.1)))); (case side8 => exact (Kd.R_reads' HO_281004.out).2.1); rintro e w153 ⟨rfl, hb⟩; refine ⟨_, rfl, ?_⟩; have n0_ := Aside0.mk (Kd.R_below (by (with_reducible repeat (first | apply Kd.R_alloc | apply Kd.R_drewN | apply Kd.R_drew)); exact (Kd.R_mono (Kd.R_far (p := ⟨gb340, 4, none⟩) (Kd.R_far (p := ⟨gb340, 3, none⟩) (Kd.R_far (p := ⟨gb340, 2, none⟩) (Kd.R_far (p := ⟨gb340, 1, none⟩) (Kd.R_far (p := ⟨gb340, 0, none⟩) (Kd.R_types HO_281003.out BK340.out (by decide)) (fun _ hk => hk.2) (.int .i64 t330)) (fun _ hk => hk.2) (.int .i64 t331)) (fun _ hk => hk.2) (.int .i64 t332)) (fun _ hk => hk.2) (.slice Ao130 t333.length co130)) (fun _ hk => hk.2) (.slice Ao131 t336.length co131)) (fun _ h_ => h_.1))) hb); have n1_ := Aside0.mk (Kd.R_below (by (with_reducible repeat (first | apply Kd.R_alloc | apply Kd.R_drewN | apply Kd.R_drew)); exact (Kd.R_mono (Kd.R_far (p := ⟨gb340, 4, none⟩) (Kd.R_far (p := ⟨gb340, 3, none⟩) (Kd.R_far (p := ⟨gb340, 2, none⟩) (Kd.R_far (p := ⟨gb340, 1, none⟩) (Kd.R_far (p := ⟨gb340, 0, none⟩) (Kd.R_types HO_281004.out BK340.out (by decide)) (fun _ hk => hk.2) (.int .i64 t330)) (fun _ hk => hk.2) (.int .i64 t331)) (fun _ hk => hk.2) (.int .i64 t332)) (fun _ hk => hk.2) (.slice Ao130 t333.length co130)) (fun _ hk => hk.2) (.slice Ao131 t336.length co131)) (fun _ h_ => h_.1))) hb); have n2_ := Aside0.mk (Kd.R_below (by (with_reducible repeat (first | apply Kd.R_alloc | apply Kd.R_drewN | apply Kd.R_drew)); exact (Kd.R_mono (Kd.R_far (p := ⟨gb340, 4, none⟩) (Kd.R_far (p := ⟨gb340, 3, none⟩) (Kd.R_far (p := ⟨gb340, 2, none⟩) (Kd.R_far (p := ⟨gb340, 1, none⟩) (Kd.R_far (p := ⟨gb340, 0, none⟩) (Kd.R_types HO_291003.out BK340.out (by decide)) (fun _ hk => hk.2) (.int .i64 t330)) (fun _ hk => hk.2) (.int .i64 t331)) (fun _ hk => hk.2) (.int .i64 t332)) (fun _ hk => hk.2) (.slice Ao130 t333.length co130)) (fun _ hk => hk.2) (.slice Ao131 t336.length co131)) (fun _ h_ => h_.1))) hb); have n3_ := Aside0.mk (Kd.R_below (by (with_reducible repeat (first | apply Kd.R_alloc | apply Kd.R_drewN | apply Kd.R_drew)); exact (Kd.R_mono (Kd.R_far (p := ⟨gb340, 4, none⟩) (Kd.R_far (p := ⟨gb340, 3, none⟩) (Kd.R_far (p := ⟨gb340, 2, none⟩) (Kd.R_far (p := ⟨gb340, 1, none⟩) (Kd.R_far (p := ⟨gb340, 0, none⟩) (Kd.R_types HO_291004.out BK340.out (by decide)) (fun _ hk => hk.2) (.int .i64 t330)) (fun _ hk => hk.2) (.int .i64 t331)) (fun _ hk => hk.2) (.int .i64 t332)) (fun _ hk => hk.2) (.slice Ao130 t333.length co130)) (fun _ hk => hk.2) (.slice Ao131 t336.length co131)) (fun _ h_ => h_.1))) hb); have n4_ := Aside0.mk (Kd.R_below (by (with_reducible repeat (first | apply Kd.R_alloc | apply Kd.R_drewN | apply Kd.R_drew)); exact (Kd.R_mono (Kd.R_far (p := ⟨gb340, 4, none⟩) (Kd.R_far (p := ⟨gb340, 3, none⟩) (Kd.R_far (p := ⟨gb340, 2, none⟩) (Kd.R_far (p := ⟨gb340, 1, none⟩) (Kd.R_far (p := ⟨gb340, 0, none⟩) (Kd.R_types HO_302003.out BK340.out (by decide)) (fun _ hk => hk.2) (.int .i64 t330)) (fun _ hk => hk.2) (.int .i64 t331)) (fun _ hk => hk.2) (.int .i64 t332)) (fun _ hk => hk.2) (.slice Ao130 t333.length co130)) (fun _ hk => hk.2) (.slice Ao131 t336.length co131)) (fun _ h_ => h_.1))) hb); have n5_ := Aside0.mk (Kd.R_below (by (with_reducible repeat (first | apply Kd.R_alloc | apply Kd.R_drewN | apply Kd.R_drew)); exact (Kd.R_mono (Kd.R_far (p := ⟨gb340, 4, none⟩) (Kd.R_far (p := ⟨gb340, 3, none⟩) (Kd.R_far (p := ⟨gb340, 2, none⟩) (Kd.R_far (p := ⟨gb340, 1, none⟩) (Kd.R_far (p := ⟨gb340, 0, none⟩) (Kd.R_types HO_302004.out BK340.out (by decide)) (fun _ hk => hk.2) (.int .i64 t330)) (fun _ hk => hk.2) (.int .i64 t331)) (fun _ hk => hk.2) (.int .i64 t332)) (fun _ hk => hk.2) (.slice Ao130 t333.length co130)) (fun _ hk => hk.2) (.slice Ao131 t336.length co131)) (fun _ h_ => h_.1))) hb); have n6_ := Aside0.mk (Kd.R_below (by (with_reducible repeat (first | apply Kd.R_alloc | apply Kd.R_drewN | apply Kd.R_drew)); exact (Kd.R_mono (Kd.R_far (p := ⟨gb340, 4, none⟩) (Kd.R_far (p := ⟨gb340, 3, none⟩) (Kd.R_far (p := ⟨gb340, 2, none⟩) (Kd.R_far (p := ⟨gb340, 1, none⟩) (Kd.R_far (p := ⟨gb340, 0, none⟩) (Kd.R_types HO326.out BK340.out (by decide)) (fun _ hk => hk.2) (.int .i64 t330)) (fun _ hk => hk.2) (.int .i64 t331)) (fun _ hk => hk.2) (.int .i64 t332)) (fun _ hk => hk.2) (.slice Ao130 t333.length co130)) (fun _ hk => hk.2) (.slice Ao131 t336.length co131)) (fun _ h_ => h_.1))) hb); have n7_ := Aside0.mk (Kd.R_below (by (with_reducible repeat (first | apply Kd.R_alloc | apply Kd.R_drewN | apply Kd.R_drew)); exact (Kd.R_mono (Kd.R_far (p := ⟨gb340, 4, none⟩) (Kd.R_far (p := ⟨gb340, 3, none⟩) (Kd.R_far (p := ⟨gb340, 2, none⟩) (Kd.R_far (p := ⟨gb340, 1, none⟩) (Kd.R_far (p := ⟨gb340, 0, none⟩) (Kd.R_types HO329.out BK340.out (by decide)) (fun _ hk => hk.2) (.int .i64 t330)) (fun _ hk => hk.2) (.int .i64 t331)) (fun _ hk => hk.2) (.int .i64 t332)) (fun _ hk => hk.2) (.slice Ao130 t333.length co130)) (fun _ hk => hk.2) (.slice Ao131 t336.length co131)) (fun _ h_ => h_.1))) hb); have n8_ := Aside0.mk (Kd.R_below (by (with_reducible repeat (first | apply Kd.R_alloc | apply Kd.R_drewN | apply Kd.R_drew)); exact (Kd.R_mono (Kd.R_far (p := ⟨gb340, 4, none⟩) (Kd.R_far (p := ⟨gb340, 3, none⟩) (Kd.R_far (p := ⟨gb340, 2, none⟩) (Kd.R_far (p := ⟨gb340, 1, none⟩) (Kd.R_far (p := ⟨gb340, 0, none⟩) (Kd.R_types HO335.out BK340.out (by decide)) (fun _ hk => hk.2) (.int .i64 t330)) (fun _ hk => hk.2) (.int .i64 t331)) (fun _ hk => hk.2) (.int .i64 t332)) (fun _ hk => hk.2) (.slice Ao130 t333.length co130)) (fun _ hk => hk.2) (.slice Ao131 t336.length co131)) (fun _ h_ => h_.1))) hb); have n9_ := Aside0.mk (Kd.R_below (by (with_reducible repeat (first | apply Kd.R_alloc | apply Kd.R_drewN | apply Kd.R_drew)); exact (Kd.R_mono (Kd.R_far (p := ⟨gb340, 4, none⟩) (Kd.R_far (p := ⟨gb340, 3, none⟩) (Kd.R_far (p := ⟨gb340, 2, none⟩) (Kd.R_far (p := ⟨gb340, 1, none⟩) (Kd.R_far (p := ⟨gb340, 0, none⟩) (Kd.R_types HO338.out BK340.out (by decide)) (fun _ hk => hk.2) (.int .i64 t330)) (fun _ hk => hk.2) (.int .i64 t331)) (fun _ hk => hk.2) (.int .i64 t332)) (fun _ hk => hk.2) (.slice Ao130 t333.length co130)) (fun _ hk => hk.2) (.slice Ao131 t336.length co131)) (fun _ h_ => h_.1))) hb); have n10_ := Aside0.mk (blk_below (g := gb259) (o := .cells #[.int .i64 a0_0, .int .i64 a0_1, .int .i64 a0_2, .slice A0_3 l0_3.length c0_3, .slice A0_4 l0_4.length c0_4] 25 (0, 0)) (by (with_reducible repeat (first | refine blk_drewN ?_ _ | refine blk_drew ?_ | refine blk_alloc ?_ _)); refine blk_far ?_ NB259_340.out _; (with_reducible repeat (first | refine blk_drewN ?_ _ | refine blk_drew ?_ | refine blk_alloc ?_ _)); refine blk_far ?_ NB259_340.out _; (with_reducible repeat (first | refine blk_drewN ?_ _ | refine blk_drew ?_ | refine blk_alloc ?_ _)); refine blk_far ?_ NB259_340.out _; (with_reducible repeat (first | refine blk_drewN ?_ _ | refine blk_drew ?_ | refine blk_alloc ?_ _)); refine blk_far ?_ NB259_340.out _; (with_reducible repeat (first | refine blk_drewN ?_ _ | refine blk_drew ?_ | refine blk_alloc ?_ _)); refine blk_far ?_ NB259_340.out _; (with_reducible repeat (first | refine blk_drewN ?_ _ | refine blk_drew ?_ | refine blk_alloc ?_ _)); exact BK259.out) hb); have n11_ := Aside0.mk (blk_below (g := gb280) (o := .cells #[.int .i64 t270, .int .i64 t271, .int .i64 t272, .slice Ao24 t273.length co24, .slice Ao25 t276.length co25] 27 (0, 0)) (by (with_reducible repeat (first | refine blk_drewN ?_ _ | refine blk_drew ?_ | refine blk_alloc ?_ _)); refine blk_far ?_ NB280_340.out _; (with_reducible repeat (first | refine blk_drewN ?_ _ | refine blk_drew ?_ | refine blk_alloc ?_ _)); refine blk_far ?_ NB280_340.out _; (with_reducible repeat (first | refine blk_drewN ?_ _ | refine blk_drew ?_ | refine blk_alloc ?_ _)); refine blk_far ?_ NB280_340.out _; (with_reducible repeat (first | refine blk_drewN ?_ _ | refine blk_drew ?_ | refine blk_alloc ?_ _)); refine blk_far ?_ NB280_340.out _; (with_reducible repeat (first | refine blk_drewN ?_ _ | refine blk_drew ?_ | refine blk_alloc ?_ _)); refine blk_far ?_ NB280_340.out _; (with_reducible repeat (first | refine blk_drewN ?_ _ | refine blk_drew ?_ | refine blk_alloc ?_ _)); exact BK280.out) hb); have n12_ := Aside0.mk (blk_below (g := gb290) (o := .cells #[.int .i64 t281, .int .i64 t282, .int .i64 t283, .slice Ao32 t314.length co32, .slice Ao33 t315.length co33] 27 (0, 0)) (by (with_reducible repeat (first | refine blk_drewN ?_ _ | refine blk_drew ?_ | refine blk_alloc ?_ _)); refine blk_far ?_ NB290_340.out _; (with_reducible repeat (first | refine blk_drewN ?_ _ | refine blk_drew ?_ | refine blk_alloc ?_ _)); refine blk_far ?_ NB290_340.out _; (with_reducible repeat (first | refine blk_drewN ?_ _ | refine blk_drew ?_ | refine blk_alloc ?_ _)); refine blk_far ?_ NB290_340.out _; (with_reducible repeat (first | refine blk_drewN ?_ _ | refine blk_drew ?_ | refine blk_alloc ?_ _)); refine blk_far ?_ NB290_340.out _; (with_reducible repeat (first | refine blk_drewN ?_ _ | refine blk_drew ?_ | refine blk_alloc ?_ _)); refine blk_far ?_ NB290_340.out _; (with_reducible repeat (first | refine blk_drewN ?_ _ | refine blk_drew ?_ | refine blk_alloc ?_ _)); exact BK290.out) hb); have n13_ := Aside0.mk (blk_below (g := gb301) (o := .cells #[.int .i64 t291, .int .i64 t292, .int .i64 t293, .slice Ao40 t294.length co40, .slice Ao41 t297.length co41] 27 (0, 0)) (by (with_reducible repeat (first | refine blk_drewN ?_ _ | refine blk_drew ?_ | refine blk_alloc ?_ _)); refine blk_far ?_ NB301_340.out _; (with_reducible repeat (first | refine blk_drewN ?_ _ | refine blk_drew ?_ | refine blk_alloc ?_ _)); refine blk_far ?_ NB301_340.out _; (with_reducible repeat (first | refine blk_drewN ?_ _ | refine blk_drew ?_ | refine blk_alloc ?_ _)); refine blk_far ?_ NB301_340.out _; (with_reducible repeat (first | refine blk_drewN ?_ _ | refine blk_drew ?_ | refine blk_alloc ?_ _)); refine blk_far ?_ NB301_340.out _; (with_reducible repeat (first | refine blk_drewN ?_ _ | refine blk_drew ?_ | refine blk_alloc ?_ _)); refine blk_far ?_ NB301_340.out _; (with_reducible repeat (first | refine blk_drewN ?_ _ | refine blk_drew ?_ | refine blk_alloc ?_ _)); exact BK301.out) hb); have n14_ := Aside0.mk (blk_below (g := gb340) (o := .cells #[.int .i64 t330, .int .i64 t331, .int .i64 t332, .slice Ao130 t333.length co130, .slice Ao131 t336.length co131] 27 (0, 0)) (by (with_reducible repeat (first | refine blk_drewN ?_ _ | refine blk_drew ?_ | refine blk_alloc ?_ _)); refine blk_put (cs := #[.int .i64 t330, .int .i64 t331, .int .i64 t332, .slice Ao130 t333.length co130, .slice none 0 0]) ?_ 4 _ rfl; (with_reducible repeat (first | refine blk_drewN ?_ _ | refine blk_drew ?_ | refine blk_alloc ?_ _)); refine blk_put (cs := #[.int .i64 t330, .int .i64 t331, .int .i64 t332, .slice none 0 0, .slice none 0 0]) ?_ 3 _ rfl; (with_reducible repeat (first | refine blk_drewN ?_ _ | refine blk_drew ?_ | refine blk_alloc ?_ _)); refine blk_put (cs := #[.int .i64 t330, .int .i64 t331, .int .i64 0, .slice none 0 0, .slice none 0 0]) ?_ 2 _ rfl; (with_reducible repeat (first | refine blk_drewN ?_ _ | refine blk_drew ?_ | refine blk_alloc ?_ _)); refine blk_put (cs := #[.int .i64 t330, .int .i64 0, .int .i64 0, .slice none 0 0, .slice none 0 0]) ?_ 1 _ rfl; (with_reducible repeat (first | refine blk_drewN ?_ _ | refine blk_drew ?_ | refine blk_alloc ?_ _)); refine blk_put (cs := #[.int .i64 0, .int .i64 0, .int .i64 0, .slice none 0 0, .slice none 0 0]) ?_ 0 _ rfl; (with_reducible repeat (first | refine blk_drewN ?_ _ | refine blk_drew ?_ | refine blk_alloc ?_ _)); exact BK340.out) hb); have n15_ := Aside0.mk (below_step (bk_ HB.out) hb); clear HO_281003; clear HO_281004; clear HO_291003; clear HO_291004; clear HO_302003; clear HO_302004; clear HO326; clear HO329; clear HO335; clear HO338; clear BK259; clear BK280; clear BK290; clear BK301; clear BK340; clear HB; have HO_281003 := n0_; have HO_281004 := n1_; have HO_291003 := n2_; have HO_291004 := n3_; have HO_302003 := n4_; have HO_302004 := n5_; have HO326 := n6_; have HO329 := n7_; have HO335 := n8_; have HO338 := n9_; have BK259 := n10_; have BK280 := n11_; have BK290 := n12_; have BK301 := n13_; have BK340 := n14_; have HB := n15_; clear n0_ n1_ n2_ n3_ n4_ n5_ n6_ n7_ n8_ n9_ n10_ n11_ n12_ n13_ n14_ n15_; (try clear hb); (try clear hb2); (try clear hk); (try clear hi)))
                          go_meet
                          case rel => exact ⟨_, (true), (by first | rfl | (simp; done) | (simp [i64_w, i32_w]; done) | (simp [*]; done) | (simp [*, i64_w, i32_w]; done)), H', ⟨by have := HJ11.out; have := HJ64.out; first | omega | exact Nat.le_refl _⟩, ⟨by (try simp only [hl291003_64]); (try simp only [hl291004_64]); (with_reducible repeat (first | apply Kd.R_alloc | apply Kd.R_drewN | apply Kd.R_drew)); exact Kd.R_mono HO_281003.out (fun _ hk => ⟨hk.1.1.1, ⟨hk.1.1.2, hk.2⟩⟩)⟩, ⟨by (try simp only [hl291003_64]); (try simp only [hl291004_64]); (with_reducible repeat (first | apply Kd.R_alloc | apply Kd.R_drewN | apply Kd.R_drew)); exact Kd.R_mono HO_281004.out (fun _ hk => ⟨hk.1.1.1, ⟨hk.1.1.2, hk.2⟩⟩)⟩, ⟨by (try simp only [hl291003_64]); (try simp only [hl291004_64]); (with_reducible repeat (first | apply Kd.R_alloc | apply Kd.R_drewN | apply Kd.R_drew)); exact Kd.R_mono HO_291003.out (fun _ hk => ⟨hk.1.1.1, ⟨hk.1.1.2, hk.2⟩⟩)⟩, ⟨by (try simp only [hl291003_64]); (try simp only [hl291004_64]); (with_reducible repeat (first | apply Kd.R_alloc | apply Kd.R_drewN | apply Kd.R_drew)); exact Kd.R_mono HO_291004.out (fun _ hk => ⟨hk.1.1.1, ⟨hk.1.1.2, hk.2⟩⟩)⟩, ⟨by (try simp only [hl291003_64]); (try simp only [hl291004_64]); (with_reducible repeat (first | apply Kd.R_alloc | apply Kd.R_drewN | apply Kd.R_drew)); exact Kd.R_mono HO_302003.out (fun _ hk => ⟨hk.1.1.1, ⟨hk.1.1.2, hk.2⟩⟩)⟩, ⟨by (try simp only [hl291003_64]); (try simp only [hl291004_64]); (with_reducible repeat (first | apply Kd.R_alloc | apply Kd.R_drewN | apply Kd.R_drew)); exact Kd.R_mono HO_302004.out (fun _ hk => ⟨hk.1.1.1, ⟨hk.1.1.2, hk.2⟩⟩)⟩, ⟨by (try simp only [hl291003_64]); (try simp only [hl291004_64]); (with_reducible repeat (first | apply Kd.R_alloc | apply Kd.R_drewN | apply Kd.R_drew)); exact Kd.R_mono HO335.out (fun _ hk => ⟨hk.1.1.1.2, ⟨hk.1.1.2, hk.1.2⟩⟩)⟩, ⟨by (try simp only [hl291003_64]); (try simp only [hl291004_64]); (with_reducible repeat (first | apply Kd.R_alloc | apply Kd.R_drewN | apply Kd.R_drew)); exact Kd.R_mono HO338.out (fun _ hk => ⟨hk.1.1.1.2, ⟨hk.1.1.2, hk.1.2⟩⟩)⟩, ⟨by (try simp only [hl291003_64]); (try simp only [hl291004_64]); (with_reducible repeat (first | refine blk_drewN ?_ _ | refine blk_drew ?_ | refine blk_alloc ?_ _)); exact BK259.out⟩, ⟨by (try simp only [hl291003_64]); (try simp only [hl291004_64]); (with_reducible repeat (first | refine blk_drewN ?_ _ | refine blk_drew ?_ | refine blk_alloc ?_ _)); exact BK280.out⟩, ⟨by (try simp only [hl291003_64]); (try simp only [hl291004_64]); (with_reducible repeat (first | refine blk_drewN ?_ _ | refine blk_drew ?_ | refine blk_alloc ?_ _)); exact BK290.out⟩, ⟨by (try simp only [hl291003_64]); (try simp only [hl291004_64]); (with_reducible repeat (first | refine blk_drewN ?_ _ | refine blk_drew ?_ | refine blk_alloc ?_ _)); exact BK301.out⟩, ⟨by (try simp only [hl291003_64]); (try simp only [hl291004_64]); (with_reducible repeat (first | refine blk_drewN ?_ _ | refine blk_drew ?_ | refine blk_alloc ?_ _)); exact BK340.out⟩, ⟨bk_ HB.out⟩⟩
                      case rest =>
                        clear HC109
                        try clear c1
                        try clear c2
                        try clear p2
                        try clear c3
                        try clear c4
                        try clear c4b0
                        try clear c5
                        try clear c6
                        try clear c7
                        try clear c8
                        try clear c9
                        try clear c10
                        try clear c11
                        try clear c12
                        try clear c13
                        try clear c14
                        try clear c15
                        try clear c17
                        try clear c18
                        try clear c19
                        try clear c20
                        try clear c21
                        try clear c22
                        try clear c29
                        try clear c30
                        try clear c36
                        try clear c37
                        try clear c38
                        try clear c43
                        try clear c44
                        try clear c45
                        try clear c46
                        try clear c48
                        try clear c49
                        try clear c52
                        try clear c53
                        try clear c54
                        try clear c56
                        try clear c57
                        try clear c60
                        try clear c63
                        try clear c71
                        try clear c72
                        try clear c73
                        try clear c76
                        try clear c76b0
                        try clear c78
                        try clear c79
                        try clear c80
                        try clear c81
                        try clear c83
                        try clear c84
                        try clear c87
                        try clear c88
                        try clear c89
                        try clear c91
                        try clear c92
                        try clear c95
                        try clear c98
                        try clear c98b0
                        try clear c99
                        try clear c100
                        try clear c101
                        try clear c106
                        try clear c106b0
                        try clear c106b1
                        try clear c110
                        try clear c111
                        try clear c112
                        try clear c117
                        try clear c118
                        try clear c125
                        try clear c126
                        try clear c127
                        try clear c128
                        try clear c133
                        try clear c134
                        try clear c135
                        try clear c136
                        try clear c137
                        try clear c139
                        try clear c140
                        try clear c141
                        try clear c144
                        try clear c145
                        try clear c146
                        try clear c147
                        try clear c149
                        try clear c150
                        try clear c151
                        try clear hcz102_0
                        try clear hcz102_1
                        try clear hcz102_2
                        try clear hcz102_3
                        try clear hcz102_4
                        try clear hcz104_0
                        try clear hcz104_1
                        try clear hcz104_2
                        try clear hcz104_3
                        try clear hcz104_4
                        try clear hcz113_0
                        try clear hcz113_1
                        try clear hcz113_2
                        try clear hcz113_3
                        try clear hcz113_4
                        try clear hcz115_0
                        try clear hcz115_1
                        try clear hcz115_2
                        try clear hcz115_3
                        try clear hcz115_4
                        try clear hcz119_0
                        try clear hcz119_1
                        try clear hcz119_2
                        try clear hcz119_3
                        try clear hcz119_4
                        try clear hcz129_0
                        try clear hcz129_1
                        try clear hcz129_2
                        try clear hcz129_3
                        try clear hcz129_4
                        try clear hcz138_0
                        try clear hcz138_1
                        try clear hcz138_2
                        try clear hcz138_3
                        try clear hcz138_4
                        try clear hcz142_0
                        try clear hcz142_1
                        try clear hcz142_2
                        try clear hcz142_3
                        try clear hcz142_4
                        try clear hcz148_0
                        try clear hcz148_1
                        try clear hcz148_2
                        try clear hcz148_3
                        try clear hcz148_4
                        try clear hcz14_0
                        try clear hcz14_1
                        try clear hcz14_2
                        try clear hcz14_3
                        try clear hcz14_4
                        try clear hcz152_0
                        try clear hcz152_1
                        try clear hcz152_2
                        try clear hcz152_3
                        try clear hcz152_4
                        try clear hcz16_0
                        try clear hcz16_1
                        try clear hcz16_2
                        try clear hcz16_3
                        try clear hcz16_4
                        try clear hcz23_0
                        try clear hcz23_1
                        try clear hcz23_2
                        try clear hcz23_3
                        try clear hcz23_4
                        try clear hcz26_0
                        try clear hcz26_1
                        try clear hcz26_2
                        try clear hcz26_3
                        try clear hcz26_4
                        try clear hcz31_0
                        try clear hcz31_1
                        try clear hcz31_2
                        try clear hcz31_3
                        try clear hcz31_4
                        try clear hcz39_0
                        try clear hcz39_1
                        try clear hcz39_2
                        try clear hcz39_3
                        try clear hcz39_4
                        try clear hcz47_0
                        try clear hcz47_1
                        try clear hcz47_2
                        try clear hcz47_3
                        try clear hcz47_4
                        try clear hcz50_0
                        try clear hcz50_1
                        try clear hcz50_2
                        try clear hcz50_3
                        try clear hcz50_4
                        try clear hcz55_0
                        try clear hcz55_1
                        try clear hcz55_2
                        try clear hcz55_3
                        try clear hcz55_4
                        try clear hcz58_0
                        try clear hcz58_1
                        try clear hcz58_2
                        try clear hcz58_3
                        try clear hcz58_4
                        try clear hcz6_0
                        try clear hcz6_1
                        try clear hcz6_2
                        try clear hcz6_3
                        try clear hcz6_4
                        try clear hcz74_0
                        try clear hcz74_1
                        try clear hcz74_2
                        try clear hcz74_3
                        try clear hcz74_4
                        try clear hcz82_0
                        try clear hcz82_1
                        try clear hcz82_2
                        try clear hcz82_3
                        try clear hcz82_4
                        try clear hcz85_0
                        try clear hcz85_1
                        try clear hcz85_2
                        try clear hcz85_3
                        try clear hcz85_4
                        try clear hcz90_0
                        try clear hcz90_1
                        try clear hcz90_2
                        try clear hcz90_3
                        try clear hcz90_4
                        try clear hcz93_0
                        try clear hcz93_1
                        try clear hcz93_2
                        try clear hcz93_3
                        try clear hcz93_4
                        try clear hfz102_0
                        try clear hfz102_1
                        try clear hfz102_2
                        try clear hfz102_3
                        try clear hfz102_4
                        try clear hfz104_0
                        try clear hfz104_1
                        try clear hfz104_2
                        try clear hfz104_3
                        try clear hfz104_4
                        try clear hfz113_0
                        try clear hfz113_1
                        try clear hfz113_2
                        try clear hfz113_3
                        try clear hfz113_4
                        try clear hfz115_0
                        try clear hfz115_1
                        try clear hfz115_2
                        try clear hfz115_3
                        try clear hfz115_4
                        try clear hfz119_0
                        try clear hfz119_1
                        try clear hfz119_2
                        try clear hfz119_3
                        try clear hfz119_4
                        try clear hfz129_0
                        try clear hfz129_1
                        try clear hfz129_2
                        try clear hfz129_3
                        try clear hfz129_4
                        try clear hfz138_0
                        try clear hfz138_1
                        try clear hfz138_2
                        try clear hfz138_3
                        try clear hfz138_4
                        try clear hfz142_0
                        try clear hfz142_1
                        try clear hfz142_2
                        try clear hfz142_3
                        try clear hfz142_4
                        try clear hfz148_0
                        try clear hfz148_1
                        try clear hfz148_2
                        try clear hfz148_3
                        try clear hfz148_4
                        try clear hfz14_0
                        try clear hfz14_1
                        try clear hfz14_2
                        try clear hfz14_3
                        try clear hfz14_4
                        try clear hfz152_0
                        try clear hfz152_1
                        try clear hfz152_2
                        try clear hfz152_3
                        try clear hfz152_4
                        try clear hfz16_0
                        try clear hfz16_1
                        try clear hfz16_2
                        try clear hfz16_3
                        try clear hfz16_4
                        try clear hfz23_0
                        try clear hfz23_1
                        try clear hfz23_2
                        try clear hfz23_3
                        try clear hfz23_4
                        try clear hfz26_0
                        try clear hfz26_1
                        try clear hfz26_2
                        try clear hfz26_3
                        try clear hfz26_4
                        try clear hfz31_0
                        try clear hfz31_1
                        try clear hfz31_2
                        try clear hfz31_3
                        try clear hfz31_4
                        try clear hfz39_0
                        try clear hfz39_1
                        try clear hfz39_2
                        try clear hfz39_3
                        try clear hfz39_4
                        try clear hfz47_0
                        try clear hfz47_1
                        try clear hfz47_2
                        try clear hfz47_3
                        try clear hfz47_4
                        try clear hfz50_0
                        try clear hfz50_1
                        try clear hfz50_2
                        try clear hfz50_3
                        try clear hfz50_4
                        try clear hfz55_0
                        try clear hfz55_1
                        try clear hfz55_2
                        try clear hfz55_3
                        try clear hfz55_4
                        try clear hfz58_0
                        try clear hfz58_1
                        try clear hfz58_2
                        try clear hfz58_3
                        try clear hfz58_4
                        try clear hfz6_0
                        try clear hfz6_1
                        try clear hfz6_2
                        try clear hfz6_3
                        try clear hfz6_4
                        try clear hfz74_0
                        try clear hfz74_1
                        try clear hfz74_2
                        try clear hfz74_3
                        try clear hfz74_4
                        try clear hfz82_0
                        try clear hfz82_1
                        try clear hfz82_2
                        try clear hfz82_3
                        try clear hfz82_4
                        try clear hfz85_0
                        try clear hfz85_1
                        try clear hfz85_2
                        try clear hfz85_3
                        try clear hfz85_4
                        try clear hfz90_0
                        try clear hfz90_1
                        try clear hfz90_2
                        try clear hfz90_3
                        try clear hfz90_4
                        try clear hfz93_0
                        try clear hfz93_1
                        try clear hfz93_2
                        try clear hfz93_3
                        try clear hfz93_4
                        try clear p2
                        obtain ⟨kq, x92_108, rfl, HA, HJ108, HO_281003, HO_281004, HO_291003, HO_291004, HO_302003, HO_302004, HO_341003, HO_341004, BK259, BK280, BK290, BK301, BK340, HB⟩ := hcut
                        have hl302003_108 := (Kd.R_reads' HO_302003.out).1
                        rw [hl302003_108] at HO_302003
                        (try simp only [hl302003_108])
                        (try simp only [hl302003_108] at BK259)
                        (try simp only [hl302003_108] at BK280)
                        (try simp only [hl302003_108] at BK290)
                        (try simp only [hl302003_108] at BK301)
                        (try simp only [hl302003_108] at BK340)
                        (try simp only [hl302003_108] at HO_281003)
                        (try simp only [hl302003_108] at HO_281004)
                        (try simp only [hl302003_108] at HO_291003)
                        (try simp only [hl302003_108] at HO_291004)
                        (try simp only [hl302003_108] at HO_302004)
                        (try simp only [hl302003_108] at HO_341003)
                        (try simp only [hl302003_108] at HO_341004)
                        have hl302004_108 := (Kd.R_reads' HO_302004.out).1
                        rw [hl302004_108] at HO_302004
                        (try simp only [hl302004_108])
                        (try simp only [hl302004_108] at BK259)
                        (try simp only [hl302004_108] at BK280)
                        (try simp only [hl302004_108] at BK290)
                        (try simp only [hl302004_108] at BK301)
                        (try simp only [hl302004_108] at BK340)
                        (try simp only [hl302004_108] at HO_281003)
                        (try simp only [hl302004_108] at HO_281004)
                        (try simp only [hl302004_108] at HO_291003)
                        (try simp only [hl302004_108] at HO_291004)
                        (try simp only [hl302004_108] at HO_302003)
                        (try simp only [hl302004_108] at HO_341003)
                        (try simp only [hl302004_108] at HO_341004)
                        cases kq with
                        | zero => exact absurd HA.out (by simp [laws_FnExactCollideGas.j2])
                        | succ kj108 =>
                          have H := HA.out
                          clear HA
                          simp only [laws_FnExactCollideGas.j2] at H
                          by_cases c154 : x92_108 = true
                          · subst c154
                            have H1 : (some false) = some r := by rw [if_pos rfl] at H; exact H
                            clear H
                            have H := H1
                            clear H1
                            obtain rfl := Option.some.inj H
                            go_wp2
                            go_ret
                            exact ⟨by first | rfl | (simp [errW_none, errW_some] <;> rfl) | (simp [*, errW_none, errW_some] <;> rfl), bk_ HB.out⟩
                          · replace c154 := Bool.eq_false_iff.mpr c154
                            subst c154
                            have H1 : ((laws_heldGas.f kj108 t291 t292 t293 t318 t319 1).bind fun t342 => (if t342 < 0 then (some false) else (if t342 = t317 then (some true) else (some false)))) = some r := by rw [if_neg (show ¬ (false = true) by decide)] at H; exact H
                            clear H
                            have H := H1
                            clear H1
                            replace H := Option.bind_eq_some_iff.mp H
                            obtain ⟨t342, A1550, H⟩ := H
                            replace H : (if t342 < 0 then (some false) else (if t342 = t317 then (some true) else (some false))) = some r := H
                            have A155 := Aside0.mk A1550
                            clear A1550
                            by_cases c156 : t342 < 0
                            · rw [if_pos c156] at H
                              have c156b0 : decide (t342 < 0) = true := decide_eq_true c156
                              clear c156
                              obtain rfl := Option.some.inj H
                              have hnb157 := NB301_259.out
                              have hnc157 := NB259_301.out
                              have hnb158 := NB301_280.out
                              have hnc158 := NB280_301.out
                              have hnb159 := NB301_290.out
                              have hnc159 := NB290_301.out
                              have hnb160 := NB301_340.out
                              have hnc160 := NB340_301.out
                              have hcz161_0 := bc_ BK301.out 0 (.int .i64 t291)
                              have hcz161_1 := bc_ BK301.out 1 (.int .i64 t292)
                              have hcz161_2 := bc_ BK301.out 2 (.int .i64 t293)
                              have hcz161_3 := bc_ BK301.out 3 (.slice Ao40 t318.length co40)
                              have hcz161_4 := bc_ BK301.out 4 (.slice Ao41 t319.length co41)
                              have hfz161_0 := blk_frozen BK301.out 0
                              have hfz161_1 := blk_frozen BK301.out 1
                              have hfz161_2 := blk_frozen BK301.out 2
                              have hfz161_3 := blk_frozen BK301.out 3
                              have hfz161_4 := blk_frozen BK301.out 4
                              go_wp2_with (first | ((with_reducible refine gate_callee (f := 19) rfl ?_); refine goesL_ (some 95) rfl rfl Try.func19 (by kernel_rfl) rfl #[.agg #[.int .i64 t291, .int .i64 t292, .int .i64 t293, .slice Ao40 t318.length co40, .slice Ao41 t319.length co41], .int .i64 1] rfl (by (try simp only [List.map_toArray, List.map_cons, List.map_nil]); first | done | rfl | (simp only [List.length_drop, List.length_take]; rfl)) ?_; (with_reducible refine (laws_heldGas.calls kj108 t291 t292 t293 _ _ t318 _ _ t319 1 t342 _ ?side1 ?side2 ?side3 ?side4 A155.out).mono ?_); (case side1 => repeat (first | exact (Kd.R_reads' HO_302003.out).2.2 | (with_reducible refine Kd.C_alloc ?_ _) | (with_reducible refine Kd.C_drewN ?_ _) | (with_reducible refine Kd.C_drew ?_))); (case side2 => exact (Kd.R_reads' HO_302003.out).2.1); (case side3 => repeat (first | exact (Kd.R_reads' HO_302004.out).2.2 | (with_reducible refine Kd.C_alloc ?_ _) | (with_reducible refine Kd.C_drewN ?_ _) | (with_reducible refine Kd.C_drew ?_))); (case side4 => exact (Kd.R_reads' HO_302004.out).2.1); rintro e w162 ⟨rfl, hb⟩; refine ⟨_, rfl, ?_⟩; have n0_ := Aside0.mk (Kd.R_below (rk_ HO_281003.out) hb); have n1_ := Aside0.mk (Kd.R_below (rk_ HO_281004.out) hb); have n2_ := Aside0.mk (Kd.R_below (rk_ HO_291003.out) hb); have n3_ := Aside0.mk (Kd.R_below (rk_ HO_291004.out) hb); have n4_ := Aside0.mk (Kd.R_below (rk_ HO_302003.out) hb); have n5_ := Aside0.mk (Kd.R_below (rk_ HO_302004.out) hb); have n6_ := Aside0.mk (Kd.R_below (rk_ HO_341003.out) hb); have n7_ := Aside0.mk (Kd.R_below (rk_ HO_341004.out) hb); have n8_ := Aside0.mk (bb_ BK259.out hb); have n9_ := Aside0.mk (bb_ BK280.out hb); have n10_ := Aside0.mk (bb_ BK290.out hb); have n11_ := Aside0.mk (bb_ BK301.out hb); have n12_ := Aside0.mk (bb_ BK340.out hb); have n13_ := Aside0.mk (below_step (bk_ HB.out) hb); clear HO_281003; clear HO_281004; clear HO_291003; clear HO_291004; clear HO_302003; clear HO_302004; clear HO_341003; clear HO_341004; clear BK259; clear BK280; clear BK290; clear BK301; clear BK340; clear HB; have HO_281003 := n0_; have HO_281004 := n1_; have HO_291003 := n2_; have HO_291004 := n3_; have HO_302003 := n4_; have HO_302004 := n5_; have HO_341003 := n6_; have HO_341004 := n7_; have BK259 := n8_; have BK280 := n9_; have BK290 := n10_; have BK301 := n11_; have BK340 := n12_; have HB := n13_; clear n0_ n1_ n2_ n3_ n4_ n5_ n6_ n7_ n8_ n9_ n10_ n11_ n12_ n13_; (try clear hb); (try clear hb2); (try clear hk); (try clear hi)))
                              go_ret
                              exact ⟨by first | rfl | (simp [errW_none, errW_some] <;> rfl) | (simp [*, errW_none, errW_some] <;> rfl), bk_ HB.out⟩
                            · rw [if_neg c156] at H
                              have c156b0 : decide (t342 < 0) = false := decide_eq_false c156
                              clear c156
                              by_cases c163 : t342 = t317
                              · rw [if_pos c163] at H
                                have c163b0 : (t342 == t317) = true := beq_iff_eq.mpr c163
                                have c163b1 : (t342 != t317) = false := bne_eq_false_iff_eq.mpr c163
                                clear c163
                                obtain rfl := Option.some.inj H
                                have hnb164 := NB301_259.out
                                have hnc164 := NB259_301.out
                                have hnb165 := NB301_280.out
                                have hnc165 := NB280_301.out
                                have hnb166 := NB301_290.out
                                have hnc166 := NB290_301.out
                                have hnb167 := NB301_340.out
                                have hnc167 := NB340_301.out
                                have hcz168_0 := bc_ BK301.out 0 (.int .i64 t291)
                                have hcz168_1 := bc_ BK301.out 1 (.int .i64 t292)
                                have hcz168_2 := bc_ BK301.out 2 (.int .i64 t293)
                                have hcz168_3 := bc_ BK301.out 3 (.slice Ao40 t318.length co40)
                                have hcz168_4 := bc_ BK301.out 4 (.slice Ao41 t319.length co41)
                                have hfz168_0 := blk_frozen BK301.out 0
                                have hfz168_1 := blk_frozen BK301.out 1
                                have hfz168_2 := blk_frozen BK301.out 2
                                have hfz168_3 := blk_frozen BK301.out 3
                                have hfz168_4 := blk_frozen BK301.out 4
                                go_wp2_with (first | ((with_reducible refine gate_callee (f := 19) rfl ?_); refine goesL_ (some 95) rfl rfl Try.func19 (by kernel_rfl) rfl #[.agg #[.int .i64 t291, .int .i64 t292, .int .i64 t293, .slice Ao40 t318.length co40, .slice Ao41 t319.length co41], .int .i64 1] rfl (by (try simp only [List.map_toArray, List.map_cons, List.map_nil]); first | done | rfl | (simp only [List.length_drop, List.length_take]; rfl)) ?_; (with_reducible refine (laws_heldGas.calls kj108 t291 t292 t293 _ _ t318 _ _ t319 1 t342 _ ?side1 ?side2 ?side3 ?side4 A155.out).mono ?_); (case side1 => repeat (first | exact (Kd.R_reads' HO_302003.out).2.2 | (with_reducible refine Kd.C_alloc ?_ _) | (with_reducible refine Kd.C_drewN ?_ _) | (with_reducible refine Kd.C_drew ?_))); (case side2 => exact (Kd.R_reads' HO_302003.out).2.1); (case side3 => repeat (first | exact (Kd.R_reads' HO_302004.out).2.2 | (with_reducible refine Kd.C_alloc ?_ _) | (with_reducible refine Kd.C_drewN ?_ _) | (with_reducible refine Kd.C_drew ?_))); (case side4 => exact (Kd.R_reads' HO_302004.out).2.1); rintro e w169 ⟨rfl, hb⟩; refine ⟨_, rfl, ?_⟩; have n0_ := Aside0.mk (Kd.R_below (rk_ HO_281003.out) hb); have n1_ := Aside0.mk (Kd.R_below (rk_ HO_281004.out) hb); have n2_ := Aside0.mk (Kd.R_below (rk_ HO_291003.out) hb); have n3_ := Aside0.mk (Kd.R_below (rk_ HO_291004.out) hb); have n4_ := Aside0.mk (Kd.R_below (rk_ HO_302003.out) hb); have n5_ := Aside0.mk (Kd.R_below (rk_ HO_302004.out) hb); have n6_ := Aside0.mk (Kd.R_below (rk_ HO_341003.out) hb); have n7_ := Aside0.mk (Kd.R_below (rk_ HO_341004.out) hb); have n8_ := Aside0.mk (bb_ BK259.out hb); have n9_ := Aside0.mk (bb_ BK280.out hb); have n10_ := Aside0.mk (bb_ BK290.out hb); have n11_ := Aside0.mk (bb_ BK301.out hb); have n12_ := Aside0.mk (bb_ BK340.out hb); have n13_ := Aside0.mk (below_step (bk_ HB.out) hb); clear HO_281003; clear HO_281004; clear HO_291003; clear HO_291004; clear HO_302003; clear HO_302004; clear HO_341003; clear HO_341004; clear BK259; clear BK280; clear BK290; clear BK301; clear BK340; clear HB; have HO_281003 := n0_; have HO_281004 := n1_; have HO_291003 := n2_; have HO_291004 := n3_; have HO_302003 := n4_; have HO_302004 := n5_; have HO_341003 := n6_; have HO_341004 := n7_; have BK259 := n8_; have BK280 := n9_; have BK290 := n10_; have BK301 := n11_; have BK340 := n12_; have HB := n13_; clear n0_ n1_ n2_ n3_ n4_ n5_ n6_ n7_ n8_ n9_ n10_ n11_ n12_ n13_; (try clear hb); (try clear hb2); (try clear hk); (try clear hi)))
                                go_ret
                                exact ⟨by first | rfl | (simp [errW_none, errW_some] <;> rfl) | (simp [*, errW_none, errW_some] <;> rfl), bk_ HB.out⟩
                              · rw [if_neg c163] at H
                                have c163b0 : (t342 == t317) = false := beq_eq_false_iff_ne.mpr c163
                                have c163b1 : (t342 != t317) = true := bne_iff_ne.mpr c163
                                obtain rfl := Option.some.inj H
                                have hnb170 := NB301_259.out
                                have hnc170 := NB259_301.out
                                have hnb171 := NB301_280.out
                                have hnc171 := NB280_301.out
                                have hnb172 := NB301_290.out
                                have hnc172 := NB290_301.out
                                have hnb173 := NB301_340.out
                                have hnc173 := NB340_301.out
                                have hcz174_0 := bc_ BK301.out 0 (.int .i64 t291)
                                have hcz174_1 := bc_ BK301.out 1 (.int .i64 t292)
                                have hcz174_2 := bc_ BK301.out 2 (.int .i64 t293)
                                have hcz174_3 := bc_ BK301.out 3 (.slice Ao40 t318.length co40)
                                have hcz174_4 := bc_ BK301.out 4 (.slice Ao41 t319.length co41)
                                have hfz174_0 := blk_frozen BK301.out 0
                                have hfz174_1 := blk_frozen BK301.out 1
                                have hfz174_2 := blk_frozen BK301.out 2
                                have hfz174_3 := blk_frozen BK301.out 3
                                have hfz174_4 := blk_frozen BK301.out 4
                                go_wp2_with (first | ((with_reducible refine gate_callee (f := 19) rfl ?_); refine goesL_ (some 95) rfl rfl Try.func19 (by kernel_rfl) rfl #[.agg #[.int .i64 t291, .int .i64 t292, .int .i64 t293, .slice Ao40 t318.length co40, .slice Ao41 t319.length co41], .int .i64 1] rfl (by (try simp only [List.map_toArray, List.map_cons, List.map_nil]); first | done | rfl | (simp only [List.length_drop, List.length_take]; rfl)) ?_; (with_reducible refine (laws_heldGas.calls kj108 t291 t292 t293 _ _ t318 _ _ t319 1 t342 _ ?side1 ?side2 ?side3 ?side4 A155.out).mono ?_); (case side1 => repeat (first | exact (Kd.R_reads' HO_302003.out).2.2 | (with_reducible refine Kd.C_alloc ?_ _) | (with_reducible refine Kd.C_drewN ?_ _) | (with_reducible refine Kd.C_drew ?_))); (case side2 => exact (Kd.R_reads' HO_302003.out).2.1); (case side3 => repeat (first | exact (Kd.R_reads' HO_302004.out).2.2 | (with_reducible refine Kd.C_alloc ?_ _) | (with_reducible refine Kd.C_drewN ?_ _) | (with_reducible refine Kd.C_drew ?_))); (case side4 => exact (Kd.R_reads' HO_302004.out).2.1); rintro e w175 ⟨rfl, hb⟩; refine ⟨_, rfl, ?_⟩; have n0_ := Aside0.mk (Kd.R_below (rk_ HO_281003.out) hb); have n1_ := Aside0.mk (Kd.R_below (rk_ HO_281004.out) hb); have n2_ := Aside0.mk (Kd.R_below (rk_ HO_291003.out) hb); have n3_ := Aside0.mk (Kd.R_below (rk_ HO_291004.out) hb); have n4_ := Aside0.mk (Kd.R_below (rk_ HO_302003.out) hb); have n5_ := Aside0.mk (Kd.R_below (rk_ HO_302004.out) hb); have n6_ := Aside0.mk (Kd.R_below (rk_ HO_341003.out) hb); have n7_ := Aside0.mk (Kd.R_below (rk_ HO_341004.out) hb); have n8_ := Aside0.mk (bb_ BK259.out hb); have n9_ := Aside0.mk (bb_ BK280.out hb); have n10_ := Aside0.mk (bb_ BK290.out hb); have n11_ := Aside0.mk (bb_ BK301.out hb); have n12_ := Aside0.mk (bb_ BK340.out hb); have n13_ := Aside0.mk (below_step (bk_ HB.out) hb); clear HO_281003; clear HO_281004; clear HO_291003; clear HO_291004; clear HO_302003; clear HO_302004; clear HO_341003; clear HO_341004; clear BK259; clear BK280; clear BK290; clear BK301; clear BK340; clear HB; have HO_281003 := n0_; have HO_281004 := n1_; have HO_291003 := n2_; have HO_291004 := n3_; have HO_302003 := n4_; have HO_302004 := n5_; have HO_341003 := n6_; have HO_341004 := n7_; have BK259 := n8_; have BK280 := n9_; have BK290 := n10_; have BK301 := n11_; have BK340 := n12_; have HB := n13_; clear n0_ n1_ n2_ n3_ n4_ n5_ n6_ n7_ n8_ n9_ n10_ n11_ n12_ n13_; (try clear hb); (try clear hb2); (try clear hk); (try clear hi)))
                                go_ret
                                exact ⟨by first | rfl | (simp [errW_none, errW_some] <;> rfl) | (simp [*, errW_none, errW_some] <;> rfl), bk_ HB.out⟩
                    · rw [if_neg c106] at H
                      have c106b0 : (t320 == t317) = false := beq_eq_false_iff_ne.mpr c106
                      have c106b1 : (t320 != t317) = true := bne_iff_ne.mpr c106
                      obtain rfl := Option.some.inj H
                      have hnb176 := NB301_259.out
                      have hnc176 := NB259_301.out
                      have hnb177 := NB301_280.out
                      have hnc177 := NB280_301.out
                      have hnb178 := NB301_290.out
                      have hnc178 := NB290_301.out
                      have hcz179_0 := bc_ BK301.out 0 (.int .i64 t291)
                      have hcz179_1 := bc_ BK301.out 1 (.int .i64 t292)
                      have hcz179_2 := bc_ BK301.out 2 (.int .i64 t293)
                      have hcz179_3 := bc_ BK301.out 3 (.slice Ao40 t294.length co40)
                      have hcz179_4 := bc_ BK301.out 4 (.slice Ao41 t297.length co41)
                      have hfz179_0 := blk_frozen BK301.out 0
                      have hfz179_1 := blk_frozen BK301.out 1
                      have hfz179_2 := blk_frozen BK301.out 2
                      have hfz179_3 := blk_frozen BK301.out 3
                      have hfz179_4 := blk_frozen BK301.out 4
                      go_wp2_with (first | ((with_reducible refine gate_callee (f := 18) rfl ?_); refine goesL_ (some 68) rfl rfl Try.func18 (by kernel_rfl) rfl #[.agg #[.int .i64 t291, .int .i64 t292, .int .i64 t293, .slice Ao40 t294.length co40, .slice Ao41 t297.length co41], .int .i64 1] rfl (by (try simp only [List.map_toArray, List.map_cons, List.map_nil]); first | done | rfl | (simp only [List.length_drop, List.length_take]; rfl)) ?_; (with_reducible refine (laws_markGas.calls kj64 t291 t292 t293 (fun k_ => some k_ = (.slice Ao40 t294.length co40 : Value).ownBlock) (.slice Ao40 t294.length co40) t294 (fun k_ => some k_ = (.slice Ao41 t297.length co41 : Value).ownBlock) (.slice Ao41 t297.length co41) t297 1 t317 t318 t319 w _ ?side1 ?side2 ?side3 A96.out).mono ?_); (case side1 => repeat (first | (with_reducible first | exact HB.out | apply below_alloc | apply pw_below_drewN | apply below_drew1 | refine below_set ?_ GE259.out | refine below_set ?_ GE280.out | refine below_set ?_ GE290.out | refine below_set ?_ GE301.out) | exact HB.out)); (case side2 => exact Kd.R_tight rfl HO_302003.out); (case side3 => exact Kd.R_tight rfl HO_302004.out); rintro e w180 ⟨rfl, hy0, hy1, hb, hkp⟩; refine ⟨_, rfl, ?_⟩; have n0_ := Aside0.mk (Kd.R_mono (ok' := fun k_ => some k_ ≠ (.slice Ao32 t314.length co32 : Value).ownBlock ∧ some k_ ≠ (.slice Ao40 t294.length co40 : Value).ownBlock) (Kd.R_keptB ((Kd.R_apart' HO_281003.out (Kd.R_typed HO_302004.out) (by decide))) hkp (fun k_ hk_ hs_ => Or.elim hs_ (fun e_ => (hk_.1.2) e_) (fun e_ => (hk_.2) e_))) (fun k_ hk_ => ⟨hk_.1.1.1, hk_.1.1.2⟩)); have n1_ := Aside0.mk (Kd.R_mono (ok' := fun k_ => some k_ ≠ (.slice Ao33 t315.length co33 : Value).ownBlock ∧ some k_ ≠ (.slice Ao41 t297.length co41 : Value).ownBlock) (Kd.R_keptB ((Kd.R_apart' HO_281004.out (Kd.R_typed HO_302003.out) (by decide))) hkp (fun k_ hk_ hs_ => Or.elim hs_ (fun e_ => (hk_.2) e_) (fun e_ => (hk_.1.2) e_))) (fun k_ hk_ => ⟨hk_.1.1.1, hk_.1.1.2⟩)); have n2_ := Aside0.mk (Kd.R_mono (ok' := fun k_ => some k_ ≠ (.slice Ao24 t273.length co24 : Value).ownBlock ∧ some k_ ≠ (.slice Ao40 t294.length co40 : Value).ownBlock) (Kd.R_keptB ((Kd.R_apart' HO_291003.out (Kd.R_typed HO_302004.out) (by decide))) hkp (fun k_ hk_ hs_ => Or.elim hs_ (fun e_ => (hk_.1.2) e_) (fun e_ => (hk_.2) e_))) (fun k_ hk_ => ⟨hk_.1.1.1, hk_.1.1.2⟩)); have n3_ := Aside0.mk (Kd.R_mono (ok' := fun k_ => some k_ ≠ (.slice Ao25 t276.length co25 : Value).ownBlock ∧ some k_ ≠ (.slice Ao41 t297.length co41 : Value).ownBlock) (Kd.R_keptB ((Kd.R_apart' HO_291004.out (Kd.R_typed HO_302003.out) (by decide))) hkp (fun k_ hk_ hs_ => Or.elim hs_ (fun e_ => (hk_.2) e_) (fun e_ => (hk_.1.2) e_))) (fun k_ hk_ => ⟨hk_.1.1.1, hk_.1.1.2⟩)); have n4_ := Aside0.mk (Kd.R_reok rfl hy0 (fun k_ e_ => HO_302003.out.1 k_ e_)); have n5_ := Aside0.mk (Kd.R_reok rfl hy1 (fun k_ e_ => HO_302004.out.1 k_ e_)); have n6_ := Aside0.mk (blk_kept (pk_ BK259.out) hkp (fun hs_ => Or.elim hs_ (fun e_ => (fun e_ => (Kd.R_ne HO_302003.out BK259.out (by decide)) e_) e_) (fun e_ => (fun e_ => (Kd.R_ne HO_302004.out BK259.out (by decide)) e_) e_))); have n7_ := Aside0.mk (blk_kept (pk_ BK280.out) hkp (fun hs_ => Or.elim hs_ (fun e_ => (fun e_ => (Kd.R_ne HO_302003.out BK280.out (by decide)) e_) e_) (fun e_ => (fun e_ => (Kd.R_ne HO_302004.out BK280.out (by decide)) e_) e_))); have n8_ := Aside0.mk (blk_kept (pk_ BK290.out) hkp (fun hs_ => Or.elim hs_ (fun e_ => (fun e_ => (Kd.R_ne HO_302003.out BK290.out (by decide)) e_) e_) (fun e_ => (fun e_ => (Kd.R_ne HO_302004.out BK290.out (by decide)) e_) e_))); have n9_ := Aside0.mk (blk_kept (pk_ BK301.out) hkp (fun hs_ => Or.elim hs_ (fun e_ => (fun e_ => (Kd.R_ne HO_302003.out BK301.out (by decide)) e_) e_) (fun e_ => (fun e_ => (Kd.R_ne HO_302004.out BK301.out (by decide)) e_) e_))); have n10_ := Aside0.mk (hb); clear HO_281003; clear HO_281004; clear HO_291003; clear HO_291004; clear HO_302003; clear HO_302004; clear BK259; clear BK280; clear BK290; clear BK301; clear HB; have HO_281003 := n0_; have HO_281004 := n1_; have HO_291003 := n2_; have HO_291004 := n3_; have HO_302003 := n4_; have HO_302004 := n5_; have BK259 := n6_; have BK280 := n7_; have BK290 := n8_; have BK301 := n9_; have HB := n10_; clear n0_ n1_ n2_ n3_ n4_ n5_ n6_ n7_ n8_ n9_ n10_; (try clear hb); (try clear hkp); (try clear hy0); (try clear hy1); have hcz181_0 := bc_ BK301.out 0 (.int .i64 t291); have hcz181_1 := bc_ BK301.out 1 (.int .i64 t292); have hcz181_2 := bc_ BK301.out 2 (.int .i64 t293); have hcz181_3 := bc_ BK301.out 3 (.slice Ao40 t294.length co40); have hcz181_4 := bc_ BK301.out 4 (.slice Ao41 t297.length co41); have hfz181_0 := blk_frozen BK301.out 0; have hfz181_1 := blk_frozen BK301.out 1; have hfz181_2 := blk_frozen BK301.out 2; have hfz181_3 := blk_frozen BK301.out 3; have hfz181_4 := blk_frozen BK301.out 4) | ((with_reducible refine gate_callee (f := 19) rfl ?_); refine goesL_ (some 71) rfl rfl Try.func19 (by kernel_rfl) rfl #[.agg #[.int .i64 t291, .int .i64 t292, .int .i64 t293, .slice Ao40 t318.length co40, .slice Ao41 t319.length co41], .int .i64 1] rfl (by (try simp only [List.map_toArray, List.map_cons, List.map_nil]); first | done | (rw [show t318.length = t294.length from (Kd.R_reads' HO_302003.out).1.symm, show t319.length = t297.length from (Kd.R_reads' HO_302004.out).1.symm] <;> rfl) | rfl | (simp only [List.length_drop, List.length_take]; rfl)) ?_; (with_reducible refine (laws_heldGas.calls kj64 t291 t292 t293 _ _ t318 _ _ t319 1 t320 _ ?side1 ?side2 ?side3 ?side4 A97.out).mono ?_); (case side1 => repeat (first | exact (Kd.R_reads' HO_302003.out).2.2 | (with_reducible refine Kd.C_alloc ?_ _) | (with_reducible refine Kd.C_drewN ?_ _) | (with_reducible refine Kd.C_drew ?_))); (case side2 => rw [show t318.length = t294.length from (Kd.R_reads' HO_302003.out).1.symm]; exact (Kd.R_reads' HO_302003.out).2.1); (case side3 => repeat (first | exact (Kd.R_reads' HO_302004.out).2.2 | (with_reducible refine Kd.C_alloc ?_ _) | (with_reducible refine Kd.C_drewN ?_ _) | (with_reducible refine Kd.C_drew ?_))); (case side4 => rw [show t319.length = t297.length from (Kd.R_reads' HO_302004.out).1.symm]; exact (Kd.R_reads' HO_302004.out).2.1); rintro e w182 ⟨rfl, hb⟩; refine ⟨_, rfl, ?_⟩; have n0_ := Aside0.mk (Kd.R_below (rk_ HO_281003.out) hb); have n1_ := Aside0.mk (Kd.R_below (rk_ HO_281004.out) hb); have n2_ := Aside0.mk (Kd.R_below (rk_ HO_291003.out) hb); have n3_ := Aside0.mk (Kd.R_below (rk_ HO_291004.out) hb); have n4_ := Aside0.mk (Kd.R_below (rk_ HO_302003.out) hb); have n5_ := Aside0.mk (Kd.R_below (rk_ HO_302004.out) hb); have n6_ := Aside0.mk (bb_ BK259.out hb); have n7_ := Aside0.mk (bb_ BK280.out hb); have n8_ := Aside0.mk (bb_ BK290.out hb); have n9_ := Aside0.mk (bb_ BK301.out hb); have n10_ := Aside0.mk (below_step (bk_ HB.out) hb); clear HO_281003; clear HO_281004; clear HO_291003; clear HO_291004; clear HO_302003; clear HO_302004; clear BK259; clear BK280; clear BK290; clear BK301; clear HB; have HO_281003 := n0_; have HO_281004 := n1_; have HO_291003 := n2_; have HO_291004 := n3_; have HO_302003 := n4_; have HO_302004 := n5_; have BK259 := n6_; have BK280 := n7_; have BK290 := n8_; have BK301 := n9_; have HB := n10_; clear n0_ n1_ n2_ n3_ n4_ n5_ n6_ n7_ n8_ n9_ n10_; (try clear hb); (try clear hb2); (try clear hk); (try clear hi)))
                      go_ret
                      exact ⟨by first | rfl | (simp [errW_none, errW_some] <;> rfl) | (simp [*, errW_none, errW_some] <;> rfl), bk_ HB.out⟩
          · replace c63 := Bool.eq_false_iff.mpr c63
            subst c63
            have H1 : (some false) = some r := by rw [if_neg (show ¬ (false = true) by decide)] at H; exact H
            clear H
            have H := H1
            clear H1
            obtain rfl := Option.some.inj H
            try go_wp2
            have n0_ := Aside0.mk (Kd.R_drew HO_281003.out)
            have n1_ := Aside0.mk (Kd.R_drew HO_281004.out)
            have n2_ := Aside0.mk (Kd.R_drew HO_291003.out)
            have n3_ := Aside0.mk (Kd.R_drew HO_291004.out)
            have n4_ := Aside0.mk (Kd.R_drew HO_302003.out)
            have n5_ := Aside0.mk (Kd.R_drew HO_302004.out)
            have n6_ := Aside0.mk (blk_drew BK259.out)
            have n7_ := Aside0.mk (blk_drew BK280.out)
            have n8_ := Aside0.mk (blk_drew BK290.out)
            have n9_ := Aside0.mk (blk_drew BK301.out)
            have n10_ := Aside0.mk (below_drew1 HB.out)
            clear HO_281003
            clear HO_281004
            clear HO_291003
            clear HO_291004
            clear HO_302003
            clear HO_302004
            clear BK259
            clear BK280
            clear BK290
            clear BK301
            clear HB
            have HO_281003 := n0_
            have HO_281004 := n1_
            have HO_291003 := n2_
            have HO_291004 := n3_
            have HO_302003 := n4_
            have HO_302004 := n5_
            have BK259 := n6_
            have BK280 := n7_
            have BK290 := n8_
            have BK301 := n9_
            have HB := n10_
            clear n0_ n1_ n2_ n3_ n4_ n5_ n6_ n7_ n8_ n9_ n10_
            refine start_ (n := 5) (S := fun w' => w'.cell? ⟨gb290, 0, none⟩ = some (.int .i64 t281) ∧ w'.cell? ⟨gb290, 1, none⟩ = some (.int .i64 t282) ∧ w'.cell? ⟨gb290, 2, none⟩ = some (.int .i64 t283) ∧ w'.cell? ⟨gb290, 3, none⟩ = some (.slice Ao32 t284.length co32) ∧ w'.cell? ⟨gb290, 4, none⟩ = some (.slice Ao33 t287.length co33) ∧ w'.cell? ⟨gb259, 0, none⟩ = some (.int .i64 a0_0) ∧ w'.cell? ⟨gb259, 1, none⟩ = some (.int .i64 a0_1) ∧ w'.cell? ⟨gb259, 2, none⟩ = some (.int .i64 a0_2) ∧ w'.cell? ⟨gb259, 3, none⟩ = some (.slice A0_3 l0_3.length c0_3) ∧ w'.cell? ⟨gb259, 4, none⟩ = some (.slice A0_4 l0_4.length c0_4)) (ds := []) #[false, false, false, false, false] (by kernel_rfl) rfl rfl ⟨(blk_cell BK290.out 0).trans rfl, (blk_cell BK290.out 1).trans rfl, (blk_cell BK290.out 2).trans rfl, (blk_cell BK290.out 3).trans rfl, (blk_cell BK290.out 4).trans rfl, (blk_cell BK259.out 0).trans rfl, (blk_cell BK259.out 1).trans rfl, (blk_cell BK259.out 2).trans rfl, (blk_cell BK259.out 3).trans rfl, (blk_cell BK259.out 4).trans rfl⟩ (fun hHeld => ?_)
            generalize wc.drew = w183 at HO_281003 HO_281004 HO_291003 HO_291004 HO_302003 HO_302004 BK259 BK280 BK290 BK301 HB hHeld ⊢
            refine take_ (i := 0) (N := some 45) (v := ?_) (a' := ?_) #[true, false, false, false, false] rfl rfl (by kernel_rfl) (fun _ _ _ h => h) (Or.inl ⟨by rfl, ?_⟩) hHeld ?_ ?_
            rotate_left
            · rintro w' ⟨s0, s1, s2, s3, s4, s5, s6, s7, s8, s9⟩
              go_simp
              with_reducible rfl
            rotate_left
            · simp only [Act.put, List.setIfInBounds_toArray, List.set_cons_zero, List.set_cons_succ, i64_w, i32_w]
              rfl
            refine take_ (i := 1) (N := some 46) (v := ?_) (a' := ?_) #[true, true, false, false, false] rfl rfl (by kernel_rfl) (fun _ _ _ h => h) (Or.inl ⟨by rfl, ?_⟩) hHeld ?_ ?_
            rotate_left
            · rintro w' ⟨s0, s1, s2, s3, s4, s5, s6, s7, s8, s9⟩
              go_simp
              with_reducible rfl
            rotate_left
            · simp only [Act.put, List.setIfInBounds_toArray, List.set_cons_zero, List.set_cons_succ, i64_w, i32_w]
              rfl
            refine one_ (i := 2) (N := some 47) #[true, true, true, false, false] rfl rfl (by kernel_rfl) (by decide) (fun K hK => ?_)
            refine goes_ Try.func15 (by kernel_rfl) rfl #[.agg #[.int .i64 a0_0, .int .i64 a0_1, .int .i64 a0_2, .slice A0_3 l0_3.length c0_3, .slice A0_4 l0_4.length c0_4]] (by rfl) rfl rfl (by (try simp only [List.map_toArray, List.map_cons, List.map_nil]); first | done | rfl | (simp only [List.length_drop, List.length_take]; rfl)) ?_
            with_reducible refine (laws_toGas.calls kj11 a0_0 a0_1 a0_2 _ _ l0_3 _ _ l0_4 t303 t304 t305 t306 t309 _ ?side1 ?side2 ?side3 ?side4 A61.out).mono ?_
            (case side1 => exact ck_ (Kd.C_below HR0_3.out HB.out))
            (case side2 => exact HC0_3.out)
            (case side3 => exact ck_ (Kd.C_below HR0_4.out HB.out))
            (case side4 => exact HC0_4.out)
            rintro e w184 ⟨v307, v310, rfl, ho0, ho1, hb⟩
            refine ⟨_, rfl, ?_⟩
            have n0_ := Aside0.mk (Kd.R_elder' (rk_ HO_281003.out) (Kd.R_base ho0) hb)
            have n1_ := Aside0.mk (Kd.R_elder' (rk_ HO_281004.out) (Kd.R_base ho1) hb)
            have n2_ := Aside0.mk (Kd.R_elder' (rk_ HO_291003.out) (Kd.R_base ho0) hb)
            have n3_ := Aside0.mk (Kd.R_elder' (rk_ HO_291004.out) (Kd.R_base ho1) hb)
            have n4_ := Aside0.mk (Kd.R_elder' (rk_ HO_302003.out) (Kd.R_base ho0) hb)
            have n5_ := Aside0.mk (Kd.R_elder' (rk_ HO_302004.out) (Kd.R_base ho1) hb)
            have n6_ := Aside0.mk (Kd.R_lower (Kd.R_new' (Kd.R_new' (Kd.R_new' ho0 (Kd.R_lt (rk_ HO_281003.out))) (Kd.R_lt (rk_ HO_291003.out))) (Kd.R_lt (rk_ HO_302003.out))) (below_size (bk_ HB.out)))
            have n7_ := Aside0.mk (Kd.R_lower (Kd.R_new' (Kd.R_new' (Kd.R_new' ho1 (Kd.R_lt (rk_ HO_281004.out))) (Kd.R_lt (rk_ HO_291004.out))) (Kd.R_lt (rk_ HO_302004.out))) (below_size (bk_ HB.out)))
            have n8_ := Aside0.mk (bb_ BK259.out hb)
            have n9_ := Aside0.mk (bb_ BK280.out hb)
            have n10_ := Aside0.mk (bb_ BK290.out hb)
            have n11_ := Aside0.mk (bb_ BK301.out hb)
            have n12_ := Aside0.mk (below_step (bk_ HB.out) hb)
            clear HO_281003
            clear HO_281004
            clear HO_291003
            clear HO_291004
            clear HO_302003
            clear HO_302004
            clear BK259
            clear BK280
            clear BK290
            clear BK301
            clear HB
            have HO_281003 := n0_
            have HO_281004 := n1_
            have HO_291003 := n2_
            have HO_291004 := n3_
            have HO_302003 := n4_
            have HO_302004 := n5_
            have HO308 := n6_
            have HO311 := n7_
            have BK259 := n8_
            have BK280 := n9_
            have BK290 := n10_
            have BK301 := n11_
            have HB := n12_
            clear n0_ n1_ n2_ n3_ n4_ n5_ n6_ n7_ n8_ n9_ n10_ n11_ n12_
            (try clear hb)
            (try clear hb2)
            (try clear hk)
            (try clear hi)
            (try clear ho0)
            (try clear ho1)
            obtain ⟨Ao185, co185, eo185⟩ := Kd.R_slice HO308.out
            (first | subst eo185 | (injection eo185 with f1_ f2_ f3_; have f4_ := f1_.symm; have f5_ := f3_.symm; clear f1_ f2_ f3_; subst f4_; subst f5_))
            obtain ⟨Ao186, co186, eo186⟩ := Kd.R_slice HO311.out
            (first | subst eo186 | (injection eo186 with f1_ f2_ f3_; have f4_ := f1_.symm; have f5_ := f3_.symm; clear f1_ f2_ f3_; subst f4_; subst f5_))
            refine hK.out _ _ ⟨(blk_cell BK290.out 0).trans rfl, (blk_cell BK290.out 1).trans rfl, (blk_cell BK290.out 2).trans rfl, (blk_cell BK290.out 3).trans rfl, (blk_cell BK290.out 4).trans rfl, (blk_cell BK259.out 0).trans rfl, (blk_cell BK259.out 1).trans rfl, (blk_cell BK259.out 2).trans rfl, (blk_cell BK259.out 3).trans rfl, (blk_cell BK259.out 4).trans rfl⟩ (fun hHeld => ?_)
            clear hK K
            refine norm_ (a' := ?_) ?_ ?_
            rotate_left
            · show Act.put _ (some 47) _ = _
              simp only [Act.put, List.setIfInBounds_toArray, List.set_cons_zero, List.set_cons_succ, i64_w, i32_w]
              rfl
            refine one_ (i := 3) (N := some 48) #[true, true, true, true, false] rfl rfl (by kernel_rfl) (by decide) (fun K hK => ?_)
            refine goes_ Try.func17 (by kernel_rfl) rfl #[.agg #[.int .i64 t281, .int .i64 t282, .int .i64 t283, .slice Ao32 t284.length co32, .slice Ao33 t287.length co33], .agg #[.int .i64 t303, .int .i64 t304, .int .i64 t305, .slice Ao185 t306.length co185, .slice Ao186 t309.length co186]] (by rfl) rfl rfl (by (try simp only [List.map_toArray, List.map_cons, List.map_nil]); first | done | rfl | (simp only [List.length_drop, List.length_take]; rfl)) ?_
            with_reducible refine (laws_eqGas.calls kj11 t281 t282 t283 _ _ t284 _ _ t287 t303 t304 t305 _ _ t306 _ _ t309 false _ ?side1 ?side2 ?side3 ?side4 ?side5 ?side6 ?side7 ?side8 A62.out).mono ?_
            (case side1 => repeat (first | exact (Kd.R_reads' HO_291003.out).2.2 | (with_reducible refine Kd.C_alloc ?_ _) | (with_reducible refine Kd.C_drewN ?_ _) | (with_reducible refine Kd.C_drew ?_)))
            (case side2 => exact (Kd.R_reads' HO_291003.out).2.1)
            (case side3 => repeat (first | exact (Kd.R_reads' HO_291004.out).2.2 | (with_reducible refine Kd.C_alloc ?_ _) | (with_reducible refine Kd.C_drewN ?_ _) | (with_reducible refine Kd.C_drew ?_)))
            (case side4 => exact (Kd.R_reads' HO_291004.out).2.1)
            (case side5 => repeat (first | exact (Kd.R_reads' HO308.out).2.2 | (with_reducible refine Kd.C_alloc ?_ _) | (with_reducible refine Kd.C_drewN ?_ _) | (with_reducible refine Kd.C_drew ?_)))
            (case side6 => exact (Kd.R_reads' HO308.out).2.1)
            (case side7 => repeat (first | exact (Kd.R_reads' HO311.out).2.2 | (with_reducible refine Kd.C_alloc ?_ _) | (with_reducible refine Kd.C_drewN ?_ _) | (with_reducible refine Kd.C_drew ?_)))
            (case side8 => exact (Kd.R_reads' HO311.out).2.1)
            rintro e w187 ⟨rfl, hb⟩
            refine ⟨_, rfl, ?_⟩
            have n0_ := Aside0.mk (Kd.R_below (rk_ HO_281003.out) hb)
            have n1_ := Aside0.mk (Kd.R_below (rk_ HO_281004.out) hb)
            have n2_ := Aside0.mk (Kd.R_below (rk_ HO_291003.out) hb)
            have n3_ := Aside0.mk (Kd.R_below (rk_ HO_291004.out) hb)
            have n4_ := Aside0.mk (Kd.R_below (rk_ HO_302003.out) hb)
            have n5_ := Aside0.mk (Kd.R_below (rk_ HO_302004.out) hb)
            have n6_ := Aside0.mk (Kd.R_below (rk_ HO308.out) hb)
            have n7_ := Aside0.mk (Kd.R_below (rk_ HO311.out) hb)
            have n8_ := Aside0.mk (bb_ BK259.out hb)
            have n9_ := Aside0.mk (bb_ BK280.out hb)
            have n10_ := Aside0.mk (bb_ BK290.out hb)
            have n11_ := Aside0.mk (bb_ BK301.out hb)
            have n12_ := Aside0.mk (below_step (bk_ HB.out) hb)
            clear HO_281003
            clear HO_281004
            clear HO_291003
            clear HO_291004
            clear HO_302003
            clear HO_302004
            clear HO308
            clear HO311
            clear BK259
            clear BK280
            clear BK290
            clear BK301
            clear HB
            have HO_281003 := n0_
            have HO_281004 := n1_
            have HO_291003 := n2_
            have HO_291004 := n3_
            have HO_302003 := n4_
            have HO_302004 := n5_
            have HO308 := n6_
            have HO311 := n7_
            have BK259 := n8_
            have BK280 := n9_
            have BK290 := n10_
            have BK301 := n11_
            have HB := n12_
            clear n0_ n1_ n2_ n3_ n4_ n5_ n6_ n7_ n8_ n9_ n10_ n11_ n12_
            (try clear hb)
            (try clear hb2)
            (try clear hk)
            (try clear hi)
            refine hK.out _ _ ⟨(blk_cell BK290.out 0).trans rfl, (blk_cell BK290.out 1).trans rfl, (blk_cell BK290.out 2).trans rfl, (blk_cell BK290.out 3).trans rfl, (blk_cell BK290.out 4).trans rfl, (blk_cell BK259.out 0).trans rfl, (blk_cell BK259.out 1).trans rfl, (blk_cell BK259.out 2).trans rfl, (blk_cell BK259.out 3).trans rfl, (blk_cell BK259.out 4).trans rfl⟩ (fun hHeld => ?_)
            clear hK K
            refine norm_ (a' := ?_) ?_ ?_
            rotate_left
            · show Act.put _ (some 48) _ = _
              simp only [Act.put, List.setIfInBounds_toArray, List.set_cons_zero, List.set_cons_succ, i64_w, i32_w]
              rfl
            refine pure_ (i := 4) (N := some 49) (v := ?_) (a' := ?_) #[true, true, true, true, true] rfl rfl (by kernel_rfl) (fun _ _ _ h => h) (Or.inl ⟨by rfl, ?_⟩) ?_ ?_
            rotate_left
            · intro w'
              go_simp
              with_reducible rfl
            rotate_left
            · simp only [Act.put, List.setIfInBounds_toArray, List.set_cons_zero, List.set_cons_succ, i64_w, i32_w]
              rfl
            refine done_ (by kernel_rfl) ?_
            try go_wp2
            go_ret
            exact ⟨by first | rfl | (simp [errW_none, errW_some] <;> rfl) | (simp [*, errW_none, errW_some] <;> rfl), bk_ HB.out⟩

/-- THE ONE PURE STATEMENT of laws_FnExactCollideGas. -/
def laws_FnExactCollideGas.Pure : Prop := ∀ (a0_0 : Int) (a0_1 : Int) (a0_2 : Int) (l0_3 : List Int) (l0_4 : List Bool) (a1 : Bool), ((Lit.int .i64 a0_0).wf = true) → ((Lit.int .i64 a0_1).wf = true) → ((Lit.int .i64 a0_2).wf = true) → ((∀ x0_ ∈ l0_3, (Lit.int .i64 x0_).wf = true) ∧ l0_3.length * 8 ≤ 140737488351232 ∧ l0_3.length ≤ 9223372036854775807) → ((∀ x0_ ∈ l0_4, True) ∧ l0_4.length * 1 ≤ 140737488351232 ∧ l0_4.length ≤ 9223372036854775807) → ∃ k, laws_FnExactCollideGas.f k a0_0 a0_1 a0_2 l0_3 l0_4 a1 = some true
theorem laws_FnExactCollideGas.walk (P : laws_FnExactCollideGas.Pure) (a0_0 : Int) (a0_1 : Int) (a0_2 : Int) (A0_3 : Option Addr) (c0_3 : Nat) (l0_3 : List Int) (A0_4 : Option Addr) (c0_4 : Nat) (l0_4 : List Bool) (a1 : Bool) (w : World) (hr0_3 : Kd.C (Kd.int .i64) w A0_3 l0_3.length l0_3) (hc0_3 : l0_3.length ≤ c0_3) (hr0_4 : Kd.C Kd.bool w A0_4 l0_4.length l0_4) (hc0_4 : l0_4.length ≤ c0_4) (G0_0 : (Lit.int .i64 a0_0).wf = true) (G0_1 : (Lit.int .i64 a0_1).wf = true) (G0_2 : (Lit.int .i64 a0_2).wf = true) (G0_3 : (∀ x0_ ∈ l0_3, (Lit.int .i64 x0_).wf = true) ∧ l0_3.length * 8 ≤ 140737488351232 ∧ l0_3.length ≤ 9223372036854775807) (G0_4 : (∀ x0_ ∈ l0_4, True) ∧ l0_4.length * 1 ≤ 140737488351232 ∧ l0_4.length ≤ 9223372036854775807) :
    Calls Try.prog 4 #[.agg #[.int .i64 a0_0, .int .i64 a0_1, .int .i64 a0_2, .slice A0_3 l0_3.length c0_3, .slice A0_4 l0_4.length c0_4], .bool a1] w fun e w' => e = .returned (.bool true) ∧ Below w.heap.size w w' := by
  obtain ⟨k, h⟩ := P a0_0 a0_1 a0_2 l0_3 l0_4 a1 G0_0 G0_1 G0_2 G0_3 G0_4
  refine (laws_FnExactCollideGas.calls k a0_0 a0_1 a0_2 A0_3 c0_3 l0_3 A0_4 c0_4 l0_4 a1 true w hr0_3 hc0_3 hr0_4 hc0_4 h).mono ?_
  rintro e w' ⟨rfl, hd⟩
  exact ⟨rfl, hd⟩

end Go.Proofs.Ytjhodohmifemiaa.PFnExactCollideGas

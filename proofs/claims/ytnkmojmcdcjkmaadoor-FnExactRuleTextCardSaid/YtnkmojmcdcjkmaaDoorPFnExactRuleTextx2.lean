-- Written by a program of this session (its own print).
import Derived.Test.YtnkmojmcdcjkmaaDoorPFnExactRuleTextx0
import Derived.Test.YtnkmojmcdcjkmaaDoorPFnExactRuleTextx1
namespace Go.Proofs.YtnkmojmcdcjkmaaDoor.PFnExactRuleText
open Go.RowKit Go.Proofs.YtnkmojmcdcjkmaaDoorW.PrintWords Go.Proofs.YtnkmojmcdcjkmaaDoorW.PrintLast Go.Proofs.YtnkmojmcdcjkmaaDoorW.PrintMore
attribute [local go_sem] max2_int min2_int max_two min_two max_three min_three max_four min_four   -- for this text's walks alone
set_option linter.unusedVariables false
set_option linter.unusedSimpArgs false

/-! ### impl_areWithin: function 90 -/
def impl_areWithin.l0 : Nat → Int → Int → List Int → Int → Int → Option (Bool)
  | 0, _, _, _, _, _ => none
  | k + 1, x1, x2, x9, x10, x11 => if x11 < x10 then (if 0 ≤ x11 then (if x11 < (x9.length : Int) then ((impl_within.f (rd x9 x11) x1 x2).bind fun t189 => (if t189 = true then (impl_areWithin.l0 k x1 x2 x9 x10 (wrap64 (x11 + 1))) else (some false))) else (none)) else (none)) else (some true)
def impl_areWithin.f (k : Nat) (l0 : List Int) (a1 : Int) (a2 : Int) : Option (Bool) := impl_areWithin.l0 k a1 a2 l0 (l0.length : Int) 0
theorem impl_areWithin.mono_l : ∀ k, (∀ y0 y1 y2 y3 y4, LeO (impl_areWithin.l0 k y0 y1 y2 y3 y4) (impl_areWithin.l0 (k + 1) y0 y1 y2 y3 y4))
  | 0 => fun _ _ _ _ _ r h => by simp [impl_areWithin.l0] at h
  | k + 1 => by
    have ih0 := impl_areWithin.mono_l k
    · intro y0 y1 y2 y3 y4
      unfold impl_areWithin.l0
      repeat' first
      | (with_reducible exact ih0 _ _ _ _ _)
      | (with_reducible exact LeO.refl _)
      | (with_reducible exact LeO.none _)
      | (with_reducible refine LeO.ite ?_ ?_)
      | (with_reducible refine LeO.bind ?_ (fun _ => ?_))
      | exact ih0 _ _ _ _ _
      | exact LeO.none _
      | refine LeO.ite ?_ ?_
      | refine LeO.bind ?_ (fun _ => ?_)
theorem impl_areWithin.mono : ∀ a0 a1 a2 k, LeO (impl_areWithin.f k a0 a1 a2) (impl_areWithin.f (k + 1) a0 a1 a2) := by
 intro a0 a1 a2 k; have ih0 := impl_areWithin.mono_l k; unfold impl_areWithin.f; repeat' first
  | (with_reducible exact ih0 _ _ _ _ _)
  | (with_reducible exact LeO.refl _)
  | (with_reducible exact LeO.none _)
  | (with_reducible refine LeO.ite ?_ ?_)
  | (with_reducible refine LeO.bind ?_ (fun _ => ?_))
  | exact ih0 _ _ _ _ _
  | exact LeO.none _
  | refine LeO.ite ?_ ?_
  | refine LeO.bind ?_ (fun _ => ?_)
set_option maxHeartbeats 8000000 in
set_option maxRecDepth 100000 in
theorem impl_areWithin.calls (k : Nat) (A0 : Option Addr) (c0 : Nat) (l0 : List Int) (a1 : Int) (a2 : Int) (r : Bool) (w : World) (hr0 : Kd.C (Kd.int .i64) w A0 l0.length l0) (hc0 : l0.length ≤ c0) (h : impl_areWithin.f k l0 a1 a2 = some r) :
    Calls Tryd.prog 90 #[.slice A0 l0.length c0, .int .i64 a1, .int .i64 a2] w fun e w' => e = .returned (.bool r) ∧ Drawn0 w w' := by
 have HR0 := Aside0.mk hr0; have HC0 := Aside0.mk hc0; clear hr0 hc0; have H : (impl_areWithin.l0 k a1 a2 l0 (l0.length : Int) 0) = some r := h; clear h; have H' := Aside0.mk H; clear H; go_enter Tryd.func90, Tryd.ntmps90; go_wp2; go_loopg [11] k (fun kq v11 w' => ∃ (x11_1 : Int), v11 = .int .i64 x11_1 ∧ Aside0 (impl_areWithin.l0 kq a1 a2 l0 (l0.length : Int) x11_1 = some r) ∧ Aside0 (kq ≤ k) ∧ Drawn0 w w'); case atStart => exact ⟨(0), (by first | rfl | (simp; done) | (simp [i64_w, i32_w]; done) | (simp [*]; done) | (simp [*, i64_w, i32_w]; done)), H', ⟨Nat.le_refl _⟩, by repeat (first | exact Drawn0.refl _ | apply Drawn0.step)⟩
 case round =>
  clear H'; (try clear p2); obtain ⟨x11_1, rfl, HA, HK1, ⟨m1, rfl⟩⟩ := hrel; cases gk with
  | zero => exact absurd HA.out (by simp [impl_areWithin.l0])
  | succ k1 =>
   have H := HA.out; clear HA; simp only [impl_areWithin.l0] at H; by_cases c4 : x11_1 < (l0.length : Int)
   · rw [if_pos c4] at H; have c4b0 : decide (x11_1 < (l0.length : Int)) = true := decide_eq_true c4; clear c4; by_cases c5 : 0 ≤ x11_1
     · rw [if_pos c5] at H; have c5b0 : decide (0 ≤ x11_1) = true := decide_eq_true c5; clear c5; by_cases c6 : x11_1 < (l0.length : Int)
       · rw [if_pos c6] at H; have c6b0 : decide (x11_1 < (l0.length : Int)) = true := decide_eq_true c6; clear c6; replace H := Option.bind_eq_some_iff.mp H; obtain ⟨t189, A70, H⟩ := H; replace H : (if t189 = true then (impl_areWithin.l0 k1 a1 a2 l0 (l0.length : Int) (wrap64 (x11_1 + 1))) else (some false)) = some r := H; have A7 := Aside0.mk A70; clear A70; by_cases c8 : t189 = true
         · subst c8; have H1 : (impl_areWithin.l0 k1 a1 a2 l0 (l0.length : Int) (wrap64 (x11_1 + 1))) = some r := by rw [if_pos rfl] at H; exact H
           clear H; have H := H1; clear H1; have H' := Aside0.mk H; clear H; have p188 : 0 ≤ (x11_1 : Int) := of_decide_eq_true (by first | (with_reducible assumption) | assumption); have q188 : x11_1 < (l0.length : Int) := of_decide_eq_true (by first | (with_reducible assumption) | assumption); obtain ⟨ad188, e188, hx188_0⟩ := Kd.at_int HR0.out x11_1 p188 q188; cases e188
           replace p188 := eq_true p188; replace q188 := eq_true q188; go_wp2_with (first | ((with_reducible refine gate_callee (f := 64) rfl ?_); refine gL_ (some 18) Tryd.func64 #[.int .i64 (rd l0 x11_1), .int .i64 a1, .int .i64 a2] ?_; (with_reducible refine (impl_within.calls (rd l0 x11_1) a1 a2 true _ A7.out).mono ?_); rintro e w' ⟨rfl, ⟨nd, rfl⟩⟩; refine ⟨_, rfl, ?_⟩)); go_roundg k1; case measure => have := HK1.out; omega
           case rel => exact ⟨(wrap64 (x11_1 + 1)), (by first | rfl | (simp; done) | (simp [i64_w, i32_w]; done) | (simp [*]; done) | (simp [*, i64_w, i32_w]; done)), H', ⟨by have := HK1.out; omega⟩, by repeat (first | exact Drawn0.refl _ | apply Drawn0.step)⟩
         · replace c8 := Bool.eq_false_iff.mpr c8; subst c8; have H1 : (some false) = some r := by rw [if_neg (show ¬ (false = true) by decide)] at H; exact H
           clear H; have H := H1; clear H1; obtain rfl := Option.some.inj H; have p188 : 0 ≤ (x11_1 : Int) := of_decide_eq_true (by first | (with_reducible assumption) | assumption); have q188 : x11_1 < (l0.length : Int) := of_decide_eq_true (by first | (with_reducible assumption) | assumption); obtain ⟨ad188, e188, hx188_0⟩ := Kd.at_int HR0.out x11_1 p188 q188; cases e188
           replace p188 := eq_true p188; replace q188 := eq_true q188; go_wp2_with (first | ((with_reducible refine gate_callee (f := 64) rfl ?_); refine gL_ (some 18) Tryd.func64 #[.int .i64 (rd l0 x11_1), .int .i64 a1, .int .i64 a2] ?_; (with_reducible refine (impl_within.calls (rd l0 x11_1) a1 a2 false _ A7.out).mono ?_); rintro e w' ⟨rfl, ⟨nd, rfl⟩⟩; refine ⟨_, rfl, ?_⟩)); go_ret; exact ⟨by first | rfl | (simp; done) | (simp [i64_w, i32_w]; done) | (simp [*]; done) | (simp [*, i64_w, i32_w]; done), by repeat (first | exact Drawn0.refl _ | apply Drawn0.step)⟩
       · rw [if_neg c6] at H; exact absurd H (by simp)
     · rw [if_neg c5] at H; exact absurd H (by simp)
   · rw [if_neg c4] at H; have c4b0 : decide (x11_1 < (l0.length : Int)) = false := decide_eq_false c4; clear c4; obtain rfl := Option.some.inj H; go_wp2; go_ret; exact ⟨by first | rfl | (simp; done) | (simp [i64_w, i32_w]; done) | (simp [*]; done) | (simp [*, i64_w, i32_w]; done), by repeat (first | exact Drawn0.refl _ | apply Drawn0.step)⟩

/-! ### impl_areMany: function 71 -/
def impl_areMany.f (k : Nat) (l0 : List Int) (a1 : Int) (a2 : Int) (a3 : Int) (a4 : Int) : Option (Bool) := (impl_within.f (l0.length : Int) a1 a2).bind fun t190 => (if t190 = true then ((impl_areWithin.f k l0 a3 a4).bind fun t191 => (some t191)) else (some false))
theorem impl_areMany.mono : ∀ a0 a1 a2 a3 a4 k, LeO (impl_areMany.f k a0 a1 a2 a3 a4) (impl_areMany.f (k + 1) a0 a1 a2 a3 a4) := by
 intro a0 a1 a2 a3 a4 k; unfold impl_areMany.f; repeat' first
  | (with_reducible exact impl_areWithin.mono _ _ _ _)
  | (with_reducible exact LeO.refl _)
  | (with_reducible exact LeO.none _)
  | (with_reducible refine LeO.ite ?_ ?_)
  | (with_reducible refine LeO.bind ?_ (fun _ => ?_))
  | exact impl_areWithin.mono _ _ _ _
  | exact LeO.none _
  | refine LeO.ite ?_ ?_
  | refine LeO.bind ?_ (fun _ => ?_)
set_option maxHeartbeats 8000000 in
set_option maxRecDepth 100000 in
theorem impl_areMany.calls (k : Nat) (A0 : Option Addr) (c0 : Nat) (l0 : List Int) (a1 : Int) (a2 : Int) (a3 : Int) (a4 : Int) (r : Bool) (w : World) (hr0 : Kd.C (Kd.int .i64) w A0 l0.length l0) (hc0 : l0.length ≤ c0) (h : impl_areMany.f k l0 a1 a2 a3 a4 = some r) :
    Calls Tryd.prog 71 #[.slice A0 l0.length c0, .int .i64 a1, .int .i64 a2, .int .i64 a3, .int .i64 a4] w fun e w' => e = .returned (.bool r) ∧ Drawn0 w w' := by
 have HR0 := Aside0.mk hr0; have HC0 := Aside0.mk hc0; clear hr0 hc0; have H : ((impl_within.f (l0.length : Int) a1 a2).bind fun t190 => (if t190 = true then ((impl_areWithin.f k l0 a3 a4).bind fun t191 => (some t191)) else (some false))) = some r := h; clear h; replace H := Option.bind_eq_some_iff.mp H; obtain ⟨t190, A60, H⟩ := H; replace H : (if t190 = true then ((impl_areWithin.f k l0 a3 a4).bind fun t191 => (some t191)) else (some false)) = some r := H; have A6 := Aside0.mk A60; clear A60; by_cases c7 : t190 = true
 · subst c7; have H1 : ((impl_areWithin.f k l0 a3 a4).bind fun t191 => (some t191)) = some r := by rw [if_pos rfl] at H; exact H
   clear H; have H := H1; clear H1; replace H := Option.bind_eq_some_iff.mp H; obtain ⟨t191, A80, H⟩ := H; replace H : (some t191) = some r := H; have A8 := Aside0.mk A80; clear A80; obtain rfl := Option.some.inj H; go_enter Tryd.func71, Tryd.ntmps71; go_wp2_with (first | ((with_reducible refine gate_callee (f := 64) rfl ?_); refine gL_ (some 15) Tryd.func64 #[.int .i64 (l0.length : Int), .int .i64 a1, .int .i64 a2] ?_; (with_reducible refine (impl_within.calls (l0.length : Int) a1 a2 true _ A6.out).mono ?_); rintro e w' ⟨rfl, ⟨nd, rfl⟩⟩; refine ⟨_, rfl, ?_⟩) | (go_at_call 90; (with_reducible refine (impl_areWithin.calls k _ _ l0 a3 a4 t191 _ ?side1 ?side2 A8.out).mono ?_); (case side1 => repeat (first | exact HR0.out | (with_reducible refine Kd.C_alloc ?_ _) | (with_reducible refine Kd.C_drewN ?_ _) | (with_reducible refine Kd.C_drew ?_))); (case side2 => exact HC0.out); rintro e w' ⟨rfl, ⟨nd, rfl⟩⟩)); go_ret; exact ⟨by first | rfl | (simp; done) | (simp [i64_w, i32_w]; done) | (simp [*]; done) | (simp [*, i64_w, i32_w]; done), by repeat (first | exact Drawn0.refl _ | apply Drawn0.step)⟩
 · replace c7 := Bool.eq_false_iff.mpr c7; subst c7; have H1 : (some false) = some r := by rw [if_neg (show ¬ (false = true) by decide)] at H; exact H
   clear H; have H := H1; clear H1; obtain rfl := Option.some.inj H; go_enter Tryd.func71, Tryd.ntmps71; go_wp2_with (first | ((with_reducible refine gate_callee (f := 64) rfl ?_); refine gL_ (some 15) Tryd.func64 #[.int .i64 (l0.length : Int), .int .i64 a1, .int .i64 a2] ?_; (with_reducible refine (impl_within.calls (l0.length : Int) a1 a2 false _ A6.out).mono ?_); rintro e w' ⟨rfl, ⟨nd, rfl⟩⟩; refine ⟨_, rfl, ?_⟩)); go_ret; exact ⟨by first | rfl | (simp; done) | (simp [i64_w, i32_w]; done) | (simp [*]; done) | (simp [*, i64_w, i32_w]; done), by repeat (first | exact Drawn0.refl _ | apply Drawn0.step)⟩

/-! ### impl_areStates: function 78 -/
def impl_areStates.f (a0 : Int) : Option (Bool) := if a0 = 2 then (some true) else (some (a0 == 3))
set_option maxHeartbeats 8000000 in
set_option maxRecDepth 100000 in
theorem impl_areStates.calls (a0 : Int) (r : Bool) (w : World) (h : impl_areStates.f a0 = some r) :
    Calls Tryd.prog 78 #[.int .i64 a0] w fun e w' => e = .returned (.bool r) ∧ Drawn0 w w' := by
 have H : (if a0 = 2 then (some true) else (some (a0 == 3))) = some r := h; clear h; by_cases c2 : a0 = 2
 · rw [if_pos c2] at H; have c2b0 : (a0 == 2) = true := beq_iff_eq.mpr c2; have c2b1 : (a0 != 2) = false := bne_eq_false_iff_eq.mpr c2; clear c2; obtain rfl := Option.some.inj H; go_enter Tryd.func78, Tryd.ntmps78; go_wp2; go_ret; exact ⟨by first | rfl | (simp; done) | (simp [i64_w, i32_w]; done) | (simp [*]; done) | (simp [*, i64_w, i32_w]; done), by repeat (first | exact Drawn0.refl _ | apply Drawn0.step)⟩
 · rw [if_neg c2] at H; have c2b0 : (a0 == 2) = false := beq_eq_false_iff_ne.mpr c2; have c2b1 : (a0 != 2) = true := bne_iff_ne.mpr c2; obtain rfl := Option.some.inj H; go_enter Tryd.func78, Tryd.ntmps78; go_wp2; go_ret; exact ⟨by first | rfl | (simp; done) | (simp [i64_w, i32_w]; done) | (simp [*]; done) | (simp [*, i64_w, i32_w]; done), by repeat (first | exact Drawn0.refl _ | apply Drawn0.step)⟩

/-! ### impl_isReach: function 79 -/
def impl_isReach.f (a0 : Int) : Option (Bool) := (impl_within.f a0 0 2).bind fun t192 => (some t192)
set_option maxHeartbeats 8000000 in
set_option maxRecDepth 100000 in
theorem impl_isReach.calls (a0 : Int) (r : Bool) (w : World) (h : impl_isReach.f a0 = some r) :
    Calls Tryd.prog 79 #[.int .i64 a0] w fun e w' => e = .returned (.bool r) ∧ Drawn0 w w' := by
 have H : ((impl_within.f a0 0 2).bind fun t192 => (some t192)) = some r := h; clear h; replace H := Option.bind_eq_some_iff.mp H; obtain ⟨t192, A20, H⟩ := H; replace H : (some t192) = some r := H; have A2 := Aside0.mk A20; clear A20; obtain rfl := Option.some.inj H; go_enter Tryd.func79, Tryd.ntmps79; go_wp2_with (first | ((with_reducible refine gate_callee (f := 64) rfl ?_); refine gL_ (some 4) Tryd.func64 #[.int .i64 a0, .int .i64 0, .int .i64 2] ?_; (with_reducible refine (impl_within.calls a0 0 2 t192 _ A2.out).mono ?_); rintro e w' ⟨rfl, ⟨nd, rfl⟩⟩; refine ⟨_, rfl, ?_⟩)); go_ret; exact ⟨by first | rfl | (simp; done) | (simp [i64_w, i32_w]; done) | (simp [*]; done) | (simp [*, i64_w, i32_w]; done), by repeat (first | exact Drawn0.refl _ | apply Drawn0.step)⟩

/-! ### impl_raised: function 80 -/
def impl_raised.l0 : Nat → Int → Int → Int → Int → Option (Int)
  | 0, _, _, _, _ => none
  | k + 1, x0, x5, x6, x7 => if x7 < x6 then (impl_raised.l0 k x0 (wrap64 (x5 * x0)) x6 (wrap64 (x7 + 1))) else (some x5)
def impl_raised.f (k : Nat) (a0 : Int) (a1 : Int) : Option (Int) := impl_raised.l0 k a0 1 a1 0
theorem impl_raised.mono_l : ∀ k, (∀ y0 y1 y2 y3, LeO (impl_raised.l0 k y0 y1 y2 y3) (impl_raised.l0 (k + 1) y0 y1 y2 y3))
  | 0 => fun _ _ _ _ r h => by simp [impl_raised.l0] at h
  | k + 1 => by
    have ih0 := impl_raised.mono_l k
    · intro y0 y1 y2 y3
      unfold impl_raised.l0
      repeat' first
      | (with_reducible exact ih0 _ _ _ _)
      | (with_reducible exact LeO.refl _)
      | (with_reducible exact LeO.none _)
      | (with_reducible refine LeO.ite ?_ ?_)
      | (with_reducible refine LeO.bind ?_ (fun _ => ?_))
      | exact ih0 _ _ _ _
      | exact LeO.none _
      | refine LeO.ite ?_ ?_
      | refine LeO.bind ?_ (fun _ => ?_)
theorem impl_raised.mono : ∀ a0 a1 k, LeO (impl_raised.f k a0 a1) (impl_raised.f (k + 1) a0 a1) := by
 intro a0 a1 k; have ih0 := impl_raised.mono_l k; unfold impl_raised.f; repeat' first
  | (with_reducible exact ih0 _ _ _ _)
  | (with_reducible exact LeO.refl _)
  | (with_reducible exact LeO.none _)
  | (with_reducible refine LeO.ite ?_ ?_)
  | (with_reducible refine LeO.bind ?_ (fun _ => ?_))
  | exact ih0 _ _ _ _
  | exact LeO.none _
  | refine LeO.ite ?_ ?_
  | refine LeO.bind ?_ (fun _ => ?_)
set_option maxHeartbeats 8000000 in
set_option maxRecDepth 100000 in
theorem impl_raised.calls (k : Nat) (a0 : Int) (a1 : Int) (r : Int) (w : World) (h : impl_raised.f k a0 a1 = some r) :
    Calls Tryd.prog 80 #[.int .i64 a0, .int .i64 a1] w fun e w' => e = .returned (.int .i64 r) ∧ Drawn0 w w' := by
 have H : (impl_raised.l0 k a0 1 a1 0) = some r := h; clear h; have H' := Aside0.mk H; clear H; go_enter Tryd.func80, Tryd.ntmps80; go_wp2; go_loopg [5, 7] k (fun kq v5 v7 w' => ∃ (x5_1 : Int) (x7_1 : Int), v5 = .int .i64 x5_1 ∧ v7 = .int .i64 x7_1 ∧ Aside0 (impl_raised.l0 kq a0 x5_1 a1 x7_1 = some r) ∧ Aside0 (kq ≤ k) ∧ Drawn0 w w'); case atStart => exact ⟨(1), (0), (by first | rfl | (simp; done) | (simp [i64_w, i32_w]; done) | (simp [*]; done) | (simp [*, i64_w, i32_w]; done)), (by first | rfl | (simp; done) | (simp [i64_w, i32_w]; done) | (simp [*]; done) | (simp [*, i64_w, i32_w]; done)), H', ⟨Nat.le_refl _⟩, by repeat (first | exact Drawn0.refl _ | apply Drawn0.step)⟩
 case round =>
  clear H'; (try clear p2); obtain ⟨x5_1, x7_1, rfl, rfl, HA, HK1, ⟨m1, rfl⟩⟩ := hrel; cases gk with
  | zero => exact absurd HA.out (by simp [impl_raised.l0])
  | succ k1 =>
   have H := HA.out; clear HA; simp only [impl_raised.l0] at H; by_cases c3 : x7_1 < a1
   · rw [if_pos c3] at H; have c3b0 : decide (x7_1 < a1) = true := decide_eq_true c3; clear c3; have H' := Aside0.mk H; clear H; go_wp2; go_roundg k1; case measure => have := HK1.out; omega
     case rel => exact ⟨(wrap64 (x5_1 * a0)), (wrap64 (x7_1 + 1)), (by first | rfl | (simp; done) | (simp [i64_w, i32_w]; done) | (simp [*]; done) | (simp [*, i64_w, i32_w]; done)), (by first | rfl | (simp; done) | (simp [i64_w, i32_w]; done) | (simp [*]; done) | (simp [*, i64_w, i32_w]; done)), H', ⟨by have := HK1.out; omega⟩, by repeat (first | exact Drawn0.refl _ | apply Drawn0.step)⟩
   · rw [if_neg c3] at H; have c3b0 : decide (x7_1 < a1) = false := decide_eq_false c3; clear c3; obtain rfl := Option.some.inj H; go_wp2; go_ret; exact ⟨by first | rfl | (simp; done) | (simp [i64_w, i32_w]; done) | (simp [*]; done) | (simp [*, i64_w, i32_w]; done), by repeat (first | exact Drawn0.refl _ | apply Drawn0.step)⟩

/-! ### impl_Rule_cells: function 81 -/
def impl_Rule_cells.f (a0_0 : Int) (a0_1 : Int) (l0_2 : List Int) : Option (Int) := some (wrap64 ((wrap64 (2 * a0_1)) + 1))
set_option maxHeartbeats 8000000 in
set_option maxRecDepth 100000 in
theorem impl_Rule_cells.calls (a0_0 : Int) (a0_1 : Int) (A0_2 : Option Addr) (c0_2 : Nat) (l0_2 : List Int) (r : Int) (w : World) (hr0_2 : Kd.C (Kd.int .i64) w A0_2 l0_2.length l0_2) (hc0_2 : l0_2.length ≤ c0_2) (h : impl_Rule_cells.f a0_0 a0_1 l0_2 = some r) :
    Calls Tryd.prog 81 #[.agg #[.int .i64 a0_0, .int .i64 a0_1, .slice A0_2 l0_2.length c0_2]] w fun e w' => e = .returned (.int .i64 r) ∧ Below w.heap.size w w' := by
 have hu45 := Tryd.underlying45; have HR0_2 := Aside0.mk hr0_2; have HC0_2 := Aside0.mk hc0_2; clear hr0_2 hc0_2; have HB := Aside0.mk (Below.refl w.heap.size w); have H : (some (wrap64 ((wrap64 (2 * a0_1)) + 1))) = some r := h; clear h; obtain rfl := Option.some.inj H; go_enter Tryd.func81, Tryd.ntmps81; go_wp2_with (first | ((with_reducible refine gate_dst (N := 1) rfl ?_); refine box_event ?hg (N := 1) ?hd (cs := #[.int .i64 a0_0, .int .i64 a0_1, .slice A0_2 l0_2.length c0_2]) (t := 45) ?hr ?_; (case hd => rfl); (case hg => rfl); (case hr => first | (go_simp; done) | (go_simp; rfl)); intro gb193 hg w2 hbox hb; have n0_ := Aside0.mk (below_step (bk_ HB.out) hb); have n1_ := Aside0.mk (hbox); have n2_ := Aside0.mk ((by rw [hg]; exact (below_size (bk_ HB.out)) : w.heap.size ≤ gb193)); have n3_ := Aside0.mk ((by rw [hg]; exact (below_size (bk_ HB.out)) : w.heap.size ≤ gb193)); clear HB; have HB := n0_; have BK193 := n1_; have GW193 := n2_; have GE193 := n3_; clear n0_ n1_ n2_ n3_ hb hbox hg; have hcz3_0 := bc_ BK193.out 0 (.int .i64 a0_0); have hcz3_1 := bc_ BK193.out 1 (.int .i64 a0_1); have hcz3_2 := bc_ BK193.out 2 (.slice A0_2 l0_2.length c0_2); have hfz3_0 := blk_frozen BK193.out 0; have hfz3_1 := blk_frozen BK193.out 1; have hfz3_2 := blk_frozen BK193.out 2)); go_ret; exact ⟨by first | rfl | (simp [errW_none, errW_some] <;> rfl) | (simp [*, errW_none, errW_some] <;> rfl), bk_ HB.out⟩

/-! ### impl_ValidRule: function 55 -/
def impl_ValidRule.j0 : Nat → Bool → Int → Int → List Int → Option (Bool)
  | 0, _, _, _, _ => none
  | k + 1, x13, x195000, x195001, x195002 => if x13 = true then (some false) else ((impl_Rule_cells.f x195000 x195001 x195002).bind fun t197 => ((impl_raised.f k x195000 t197).bind fun t198 => ((impl_areMany.f k x195002 t198 t198 0 (wrap64 (x195000 - 1))).bind fun t199 => (some t199))))
def impl_ValidRule.f (k : Nat) (a0_0 : Int) (a0_1 : Int) (l0_2 : List Int) : Option (Bool) := (impl_areStates.f a0_0).bind fun t195 => (if t195 = true then ((impl_isReach.f a0_1).bind fun t196 => (impl_ValidRule.j0 k (!t196) a0_0 a0_1 l0_2)) else (impl_ValidRule.j0 k true a0_0 a0_1 l0_2))
theorem impl_ValidRule.mono_l : ∀ k, (∀ y0 y1 y2 y3, LeO (impl_ValidRule.j0 k y0 y1 y2 y3) (impl_ValidRule.j0 (k + 1) y0 y1 y2 y3))
  | 0 => fun _ _ _ _ r h => by simp [impl_ValidRule.j0] at h
  | k + 1 => by
    have ih0 := impl_ValidRule.mono_l k
    · intro y0 y1 y2 y3
      unfold impl_ValidRule.j0
      repeat' first
      | (with_reducible exact ih0 _ _ _ _)
      | (with_reducible exact impl_areMany.mono _ _ _ _ _ _)
      | (with_reducible exact impl_raised.mono _ _ _)
      | (with_reducible exact LeO.refl _)
      | (with_reducible exact LeO.none _)
      | (with_reducible refine LeO.ite ?_ ?_)
      | (with_reducible refine LeO.bind ?_ (fun _ => ?_))
      | exact ih0 _ _ _ _
      | exact impl_areMany.mono _ _ _ _ _ _
      | exact impl_raised.mono _ _ _
      | exact LeO.none _
      | refine LeO.ite ?_ ?_
      | refine LeO.bind ?_ (fun _ => ?_)
theorem impl_ValidRule.mono : ∀ a0 a1 a2 k, LeO (impl_ValidRule.f k a0 a1 a2) (impl_ValidRule.f (k + 1) a0 a1 a2) := by
 intro a0 a1 a2 k; have ih0 := impl_ValidRule.mono_l k; unfold impl_ValidRule.f; repeat' first
  | (with_reducible exact ih0 _ _ _ _)
  | (with_reducible exact impl_areMany.mono _ _ _ _ _ _)
  | (with_reducible exact impl_raised.mono _ _ _)
  | (with_reducible exact LeO.refl _)
  | (with_reducible exact LeO.none _)
  | (with_reducible refine LeO.ite ?_ ?_)
  | (with_reducible refine LeO.bind ?_ (fun _ => ?_))
  | exact ih0 _ _ _ _
  | exact impl_areMany.mono _ _ _ _ _ _
  | exact impl_raised.mono _ _ _
  | exact LeO.none _
  | refine LeO.ite ?_ ?_
  | refine LeO.bind ?_ (fun _ => ?_)
set_option maxHeartbeats 8000000 in
set_option maxRecDepth 100000 in
theorem impl_ValidRule.calls (k : Nat) (a0_0 : Int) (a0_1 : Int) (A0_2 : Option Addr) (c0_2 : Nat) (l0_2 : List Int) (r : Bool) (w : World) (hr0_2 : Kd.C (Kd.int .i64) w A0_2 l0_2.length l0_2) (hc0_2 : l0_2.length ≤ c0_2) (h : impl_ValidRule.f k a0_0 a0_1 l0_2 = some r) :
    Calls Tryd.prog 55 #[.agg #[.int .i64 a0_0, .int .i64 a0_1, .slice A0_2 l0_2.length c0_2]] w fun e w' => e = .returned (.bool r) ∧ Below w.heap.size w w' := by
 have hu45 := Tryd.underlying45; have HR0_2 := Aside0.mk hr0_2; have HC0_2 := Aside0.mk hc0_2; clear hr0_2 hc0_2; have HB := Aside0.mk (Below.refl w.heap.size w); have H : ((impl_areStates.f a0_0).bind fun t195 => (if t195 = true then ((impl_isReach.f a0_1).bind fun t196 => (impl_ValidRule.j0 k (!t196) a0_0 a0_1 l0_2)) else (impl_ValidRule.j0 k true a0_0 a0_1 l0_2))) = some r := h; clear h; have HC2 := Aside0.mk H; clear H; go_enter Tryd.func55, Tryd.ntmps55; go_upto_region 1 with (first | ((with_reducible refine gate_dst (N := 1) rfl ?_); refine box_event ?hg (N := 1) ?hd (cs := #[.int .i64 a0_0, .int .i64 a0_1, .slice A0_2 l0_2.length c0_2]) (t := 45) ?hr ?_; (case hd => rfl); (case hg => rfl); (case hr => first | (go_simp; done) | (go_simp; rfl)); intro gb194 hg w3 hbox hb; have n0_ := Aside0.mk (below_step (bk_ HB.out) hb); have n1_ := Aside0.mk (hbox); have n2_ := Aside0.mk ((by rw [hg]; exact (below_size (bk_ HB.out)) : w.heap.size ≤ gb194)); have n3_ := Aside0.mk ((by rw [hg]; exact (below_size (bk_ HB.out)) : w.heap.size ≤ gb194)); clear HB; have HB := n0_; have BK194 := n1_; have GW194 := n2_; have GE194 := n3_; clear n0_ n1_ n2_ n3_ hb hbox hg)); (try simp only [Act.put, List.setIfInBounds_toArray, List.set_cons_zero, List.set_cons_succ]); go_cut [13] (fun v13 wc => ∃ (kq : Nat) (x13_1 : Bool), v13 = .bool x13_1 ∧ Aside0 (impl_ValidRule.j0 kq x13_1 a0_0 a0_1 l0_2 = some r) ∧ Aside0 (kq ≤ k) ∧ Aside0 (wc.heap[gb194]? = some (.cells #[.int .i64 a0_0, .int .i64 a0_1, (.slice A0_2 l0_2.length c0_2)] 45 (0, 0))) ∧ Aside0 (Below w.heap.size w wc))
 case first =>
  have H := HC2.out; clear HC2; replace H := Option.bind_eq_some_iff.mp H; obtain ⟨t195, A40, H⟩ := H; replace H : (if t195 = true then ((impl_isReach.f a0_1).bind fun t196 => (impl_ValidRule.j0 k (!t196) a0_0 a0_1 l0_2)) else (impl_ValidRule.j0 k true a0_0 a0_1 l0_2)) = some r := H; have A4 := Aside0.mk A40; clear A40; by_cases c5 : t195 = true
  · subst c5; have H1 : ((impl_isReach.f a0_1).bind fun t196 => (impl_ValidRule.j0 k (!t196) a0_0 a0_1 l0_2)) = some r := by rw [if_pos rfl] at H; exact H
    clear H; have H := H1; clear H1; replace H := Option.bind_eq_some_iff.mp H; obtain ⟨t196, A60, H⟩ := H; replace H : (impl_ValidRule.j0 k (!t196) a0_0 a0_1 l0_2) = some r := H; have A6 := Aside0.mk A60; clear A60; have H' := Aside0.mk H; clear H; have hcz7_0 := bc_ BK194.out 0 (.int .i64 a0_0); have hcz7_1 := bc_ BK194.out 1 (.int .i64 a0_1); have hcz7_2 := bc_ BK194.out 2 (.slice A0_2 l0_2.length c0_2); have hfz7_0 := blk_frozen BK194.out 0; have hfz7_1 := blk_frozen BK194.out 1; have hfz7_2 := blk_frozen BK194.out 2; go_wp2_with (first | ((with_reducible refine gate_callee (f := 78) rfl ?_); refine gL_ (some 6) Tryd.func78 #[.int .i64 a0_0] ?_; (with_reducible refine (impl_areStates.calls a0_0 true _ A4.out).mono ?_); rintro e w' ⟨rfl, ⟨nd, rfl⟩⟩; refine ⟨_, rfl, ?_⟩) | (go_at_call 79; (with_reducible refine (impl_isReach.calls a0_1 t196 _ A6.out).mono ?_); rintro e w' ⟨rfl, ⟨nd, rfl⟩⟩)); go_meet; case rel => exact ⟨_, (!t196), (by first | rfl | (simp; done) | (simp [i64_w, i32_w]; done) | (simp [*]; done) | (simp [*, i64_w, i32_w]; done)), H', ⟨by first | omega | exact Nat.le_refl _⟩, ⟨pk_ BK194.out⟩, ⟨bk_ HB.out⟩⟩
  · replace c5 := Bool.eq_false_iff.mpr c5; subst c5; have H1 : (impl_ValidRule.j0 k true a0_0 a0_1 l0_2) = some r := by rw [if_neg (show ¬ (false = true) by decide)] at H; exact H
    clear H; have H := H1; clear H1; have H' := Aside0.mk H; clear H; have hcz8_0 := bc_ BK194.out 0 (.int .i64 a0_0); have hcz8_1 := bc_ BK194.out 1 (.int .i64 a0_1); have hcz8_2 := bc_ BK194.out 2 (.slice A0_2 l0_2.length c0_2); have hfz8_0 := blk_frozen BK194.out 0; have hfz8_1 := blk_frozen BK194.out 1; have hfz8_2 := blk_frozen BK194.out 2; go_wp2_with (first | ((with_reducible refine gate_callee (f := 78) rfl ?_); refine gL_ (some 6) Tryd.func78 #[.int .i64 a0_0] ?_; (with_reducible refine (impl_areStates.calls a0_0 false _ A4.out).mono ?_); rintro e w' ⟨rfl, ⟨nd, rfl⟩⟩; refine ⟨_, rfl, ?_⟩)); go_meet; case rel => exact ⟨_, (true), (by first | rfl | (simp; done) | (simp [i64_w, i32_w]; done) | (simp [*]; done) | (simp [*, i64_w, i32_w]; done)), H', ⟨by first | omega | exact Nat.le_refl _⟩, ⟨pk_ BK194.out⟩, ⟨bk_ HB.out⟩⟩
 case rest =>
  clear HC2; (try clear p2); (try clear c5); (try clear c7); (try clear hcz7_0); (try clear hcz7_1); (try clear hcz7_2); (try clear hcz8_0); (try clear hcz8_1); (try clear hcz8_2); (try clear hfz7_0); (try clear hfz7_1); (try clear hfz7_2); (try clear hfz8_0); (try clear hfz8_1); (try clear hfz8_2); obtain ⟨kq, x13_1, rfl, HA, HJ1, BK194, HB⟩ := hcut; cases kq with
  | zero => exact absurd HA.out (by simp [impl_ValidRule.j0])
  | succ kj1 =>
   have H := HA.out; clear HA; simp only [impl_ValidRule.j0] at H; by_cases c9 : x13_1 = true
   · subst c9; have H1 : (some false) = some r := by rw [if_pos rfl] at H; exact H
     clear H; have H := H1; clear H1; obtain rfl := Option.some.inj H; go_wp2; go_ret; exact ⟨by first | rfl | (simp [errW_none, errW_some] <;> rfl) | (simp [*, errW_none, errW_some] <;> rfl), bk_ HB.out⟩
   · replace c9 := Bool.eq_false_iff.mpr c9; subst c9; have H1 : ((impl_Rule_cells.f a0_0 a0_1 l0_2).bind fun t197 => ((impl_raised.f kj1 a0_0 t197).bind fun t198 => ((impl_areMany.f kj1 l0_2 t198 t198 0 (wrap64 (a0_0 - 1))).bind fun t199 => (some t199)))) = some r := by rw [if_neg (show ¬ (false = true) by decide)] at H; exact H
     clear H; have H := H1; clear H1; replace H := Option.bind_eq_some_iff.mp H; obtain ⟨t197, A100, H⟩ := H; replace H : ((impl_raised.f kj1 a0_0 t197).bind fun t198 => ((impl_areMany.f kj1 l0_2 t198 t198 0 (wrap64 (a0_0 - 1))).bind fun t199 => (some t199))) = some r := H; have A10 := Aside0.mk A100; clear A100; replace H := Option.bind_eq_some_iff.mp H; obtain ⟨t198, A110, H⟩ := H; replace H : ((impl_areMany.f kj1 l0_2 t198 t198 0 (wrap64 (a0_0 - 1))).bind fun t199 => (some t199)) = some r := H; have A11 := Aside0.mk A110; clear A110; replace H := Option.bind_eq_some_iff.mp H; obtain ⟨t199, A120, H⟩ := H; replace H : (some t199) = some r := H; have A12 := Aside0.mk A120; clear A120; obtain rfl := Option.some.inj H; (try go_wp2); have n0_ := Aside0.mk (blk_drew BK194.out); have n1_ := Aside0.mk (below_drew1 HB.out); clear BK194 HB; have BK194 := n0_; have HB := n1_; clear n0_ n1_; refine start_ (n := 6) (S := fun w' => w'.cell? ⟨gb194, 0, none⟩ = some (.int .i64 a0_0) ∧ w'.cell? ⟨gb194, 1, none⟩ = some (.int .i64 a0_1) ∧ w'.cell? ⟨gb194, 2, none⟩ = some (.slice A0_2 l0_2.length c0_2)) (ds := []) #[false, false, false, false, false, false] (by kernel_rfl) rfl rfl ⟨(blk_cell BK194.out 0).trans rfl, (blk_cell BK194.out 1).trans rfl, (blk_cell BK194.out 2).trans rfl⟩ (fun hHeld => ?_); generalize wc.drew = w13 at BK194 HB hHeld ⊢; refine pure_ (i := 0) (N := some 14) (v := ?_) (a' := ?_) #[true, false, false, false, false, false] rfl rfl (by kernel_rfl) (fun _ _ _ h => h) (Or.inl ⟨by rfl, ?_⟩) ?_ ?_
     rotate_left
     · intro w'; go_simp; (with_reducible rfl)
     rotate_left
     · simp only [Act.put, List.setIfInBounds_toArray, List.set_cons_zero, List.set_cons_succ, i64_w, i32_w]; rfl
     refine take_ (i := 1) (N := some 15) (v := ?_) (a' := ?_) #[true, true, false, false, false, false] rfl rfl (by kernel_rfl) (fun _ _ _ h => h) (Or.inl ⟨by rfl, ?_⟩) hHeld ?_ ?_; rotate_left
     · rintro w' ⟨s0, s1, s2⟩; go_simp; (with_reducible rfl)
     rotate_left
     · simp only [Act.put, List.setIfInBounds_toArray, List.set_cons_zero, List.set_cons_succ, i64_w, i32_w]; rfl
     refine take_ (i := 2) (N := some 16) (v := ?_) (a' := ?_) #[true, true, true, false, false, false] rfl rfl (by kernel_rfl) (fun _ _ _ h => h) (Or.inl ⟨by rfl, ?_⟩) hHeld ?_ ?_; rotate_left
     · rintro w' ⟨s0, s1, s2⟩; go_simp; (with_reducible rfl)
     rotate_left
     · simp only [Act.put, List.setIfInBounds_toArray, List.set_cons_zero, List.set_cons_succ, i64_w, i32_w]; rfl
     refine one_ (i := 3) (N := some 17) #[true, true, true, true, false, false] rfl rfl (by kernel_rfl) (by decide) (fun K hK => ?_); refine gO_ Tryd.func81 #[.agg #[.int .i64 a0_0, .int .i64 a0_1, .slice A0_2 l0_2.length c0_2]] ?_; (with_reducible refine (impl_Rule_cells.calls a0_0 a0_1 _ _ l0_2 t197 _ ?side1 ?side2 A10.out).mono ?_); (case side1 => exact ck_ (Kd.C_below HR0_2.out HB.out)); (case side2 => exact HC0_2.out); rintro e w14 ⟨rfl, hb⟩; refine ⟨_, rfl, ?_⟩; have n0_ := Aside0.mk (bb_ BK194.out hb); have n1_ := Aside0.mk (below_step (bk_ HB.out) hb); clear BK194 HB; have BK194 := n0_; have HB := n1_; clear n0_ n1_; (try clear hb); (try clear hb2); (try clear hk); (try clear hi); refine hK.out _ _ ⟨(blk_cell BK194.out 0).trans rfl, (blk_cell BK194.out 1).trans rfl, (blk_cell BK194.out 2).trans rfl⟩ (fun hHeld => ?_); clear hK K; refine norm_ (a' := ?_) ?_ ?_; rotate_left
     · show Act.put _ (some 17) _ = _
       simp only [Act.put, List.setIfInBounds_toArray, List.set_cons_zero, List.set_cons_succ, i64_w, i32_w]; rfl
     refine one_ (i := 4) (N := some 18) #[true, true, true, true, true, false] rfl rfl (by kernel_rfl) (by decide) (fun K hK => ?_); refine gO_ Tryd.func80 #[.int .i64 a0_0, .int .i64 t197] ?_; (with_reducible refine (impl_raised.calls kj1 a0_0 t197 t198 _ A11.out).mono ?_); rintro e w' ⟨rfl, ⟨nd, rfl⟩⟩; refine ⟨_, rfl, ?_⟩; refine hK.out _ _ ⟨(blk_cell BK194.out 0).trans rfl, (blk_cell BK194.out 1).trans rfl, (blk_cell BK194.out 2).trans rfl⟩ (fun hHeld => ?_); clear hK K; refine norm_ (a' := ?_) ?_ ?_; rotate_left
     · show Act.put _ (some 18) _ = _
       simp only [Act.put, List.setIfInBounds_toArray, List.set_cons_zero, List.set_cons_succ, i64_w, i32_w]; rfl
     refine pure_ (i := 5) (N := some 3) (v := ?_) (a' := ?_) #[true, true, true, true, true, true] rfl rfl (by kernel_rfl) (fun _ _ _ h => h) (Or.inl ⟨by rfl, ?_⟩) ?_ ?_; rotate_left
     · intro w'; go_simp; (with_reducible rfl)
     rotate_left
     · simp only [Act.put, List.setIfInBounds_toArray, List.set_cons_zero, List.set_cons_succ, i64_w, i32_w]; rfl
     refine done_ (by kernel_rfl) ?_; (try (rw [drewN_self w14]; generalize hq_ : World.drewN w14 _ = w14; have n0_ : Aside0 (w14.heap[gb194]? = some (.cells #[.int .i64 a0_0, .int .i64 a0_1, .slice A0_2 l0_2.length c0_2] 45 (0, 0))) := ⟨by rw [← hq_]; exact (pk_ BK194.out)⟩; have n1_ : Aside0 (Below w.heap.size w w14) := ⟨by rw [← hq_]; exact (bk_ HB.out)⟩; clear BK194 HB hq_; have BK194 := n0_; have HB := n1_; clear n0_ n1_)); have hcz15_0 := bc_ BK194.out 0 (.int .i64 a0_0); have hcz15_1 := bc_ BK194.out 1 (.int .i64 a0_1); have hcz15_2 := bc_ BK194.out 2 (.slice A0_2 l0_2.length c0_2); have hfz15_0 := blk_frozen BK194.out 0; have hfz15_1 := blk_frozen BK194.out 1; have hfz15_2 := blk_frozen BK194.out 2; (try go_wp2_with (first | ((with_reducible refine gate_callee (f := 71) rfl ?_); refine gL_ (some 26) Tryd.func71 #[.slice A0_2 l0_2.length c0_2, .int .i64 t198, .int .i64 t198, .int .i64 0, .int .i64 (wrap64 (a0_0 - 1))] ?_; (with_reducible refine (impl_areMany.calls kj1 _ _ l0_2 t198 t198 0 (wrap64 (a0_0 - 1)) t199 _ ?side1 ?side2 A12.out).mono ?_); (case side1 => exact ck_ (Kd.C_below HR0_2.out HB.out)); (case side2 => exact HC0_2.out); rintro e w' ⟨rfl, ⟨nd, rfl⟩⟩; refine ⟨_, rfl, ?_⟩))); go_ret; exact ⟨by first | rfl | (simp [errW_none, errW_some] <;> rfl) | (simp [*, errW_none, errW_some] <;> rfl), bk_ HB.out⟩

/-! ### impl_RuleText: function 26 -/
def impl_RuleText.f (k : Nat) (a0_0 : Int) (a0_1 : Int) (l0_2 : List Int) : Option (ByteArray × Bool) := (impl_ValidRule.f k a0_0 a0_1 l0_2).bind fun t201 => (if t201 = true then ((impl_headed.f k a0_0 a0_1 l0_2).bind fun bt202 => (some (bt202.1, bt202.2))) else (some ((⟨#[]⟩ : ByteArray), false)))
theorem impl_RuleText.mono : ∀ a0 a1 a2 k, LeO (impl_RuleText.f k a0 a1 a2) (impl_RuleText.f (k + 1) a0 a1 a2) := by
 intro a0 a1 a2 k; unfold impl_RuleText.f; repeat' first
  | (with_reducible exact impl_ValidRule.mono _ _ _ _)
  | (with_reducible exact impl_headed.mono _ _ _ _)
  | (with_reducible exact LeO.refl _)
  | (with_reducible exact LeO.none _)
  | (with_reducible refine LeO.ite ?_ ?_)
  | (with_reducible refine LeO.bind ?_ (fun _ => ?_))
  | exact impl_ValidRule.mono _ _ _ _
  | exact impl_headed.mono _ _ _ _
  | exact LeO.none _
  | refine LeO.ite ?_ ?_
  | refine LeO.bind ?_ (fun _ => ?_)
set_option maxHeartbeats 8000000 in
set_option maxRecDepth 100000 in
theorem impl_RuleText.calls (k : Nat) (a0_0 : Int) (a0_1 : Int) (A0_2 : Option Addr) (c0_2 : Nat) (l0_2 : List Int) (r1 : ByteArray) (r2 : Bool) (w : World) (hr0_2 : Kd.C (Kd.int .i64) w A0_2 l0_2.length l0_2) (hc0_2 : l0_2.length ≤ c0_2) (h : impl_RuleText.f k a0_0 a0_1 l0_2 = some (r1, r2)) :
    Calls Tryd.prog 26 #[.agg #[.int .i64 a0_0, .int .i64 a0_1, .slice A0_2 l0_2.length c0_2]] w fun e w' => e = .returned (.tuple #[.string r1, .bool r2]) ∧ Below w.heap.size w w' := by
 have hu45 := Tryd.underlying45; have HR0_2 := Aside0.mk hr0_2; have HC0_2 := Aside0.mk hc0_2; clear hr0_2 hc0_2; have HB := Aside0.mk (Below.refl w.heap.size w); have H : ((impl_ValidRule.f k a0_0 a0_1 l0_2).bind fun t201 => (if t201 = true then ((impl_headed.f k a0_0 a0_1 l0_2).bind fun bt202 => (some (bt202.1, bt202.2))) else (some ((⟨#[]⟩ : ByteArray), false)))) = some (r1, r2) := h; clear h; replace H := Option.bind_eq_some_iff.mp H; obtain ⟨t201, A20, H⟩ := H; replace H : (if t201 = true then ((impl_headed.f k a0_0 a0_1 l0_2).bind fun bt202 => (some (bt202.1, bt202.2))) else (some ((⟨#[]⟩ : ByteArray), false))) = some (r1, r2) := H; have A2 := Aside0.mk A20; clear A20; by_cases c3 : t201 = true
 · subst c3; have H1 : ((impl_headed.f k a0_0 a0_1 l0_2).bind fun bt202 => (some (bt202.1, bt202.2))) = some (r1, r2) := by rw [if_pos rfl] at H; exact H
   clear H; have H := H1; clear H1; replace H := Option.bind_eq_some_iff.mp H; obtain ⟨⟨t202, t203⟩, A40, H⟩ := H; replace H : (some (t202, t203)) = some (r1, r2) := H; have A4 := Aside0.mk A40; clear A40; simp only [Option.some.injEq, Prod.mk.injEq] at H; obtain ⟨rfl, rfl⟩ := H; go_enter Tryd.func26, Tryd.ntmps26; go_wp2_with (first | ((with_reducible refine gate_dst (N := 1) rfl ?_); refine box_event ?hg (N := 1) ?hd (cs := #[.int .i64 a0_0, .int .i64 a0_1, .slice A0_2 l0_2.length c0_2]) (t := 45) ?hr ?_; (case hd => rfl); (case hg => rfl); (case hr => first | (go_simp; done) | (go_simp; rfl)); intro gb200 hg w5 hbox hb; have n0_ := Aside0.mk (below_step (bk_ HB.out) hb); have n1_ := Aside0.mk (hbox); have n2_ := Aside0.mk ((by rw [hg]; exact (below_size (bk_ HB.out)) : w.heap.size ≤ gb200)); have n3_ := Aside0.mk ((by rw [hg]; exact (below_size (bk_ HB.out)) : w.heap.size ≤ gb200)); clear HB; have HB := n0_; have BK200 := n1_; have GW200 := n2_; have GE200 := n3_; clear n0_ n1_ n2_ n3_ hb hbox hg; have hcz6_0 := bc_ BK200.out 0 (.int .i64 a0_0); have hcz6_1 := bc_ BK200.out 1 (.int .i64 a0_1); have hcz6_2 := bc_ BK200.out 2 (.slice A0_2 l0_2.length c0_2); have hfz6_0 := blk_frozen BK200.out 0; have hfz6_1 := blk_frozen BK200.out 1; have hfz6_2 := blk_frozen BK200.out 2) | ((with_reducible refine gate_callee (f := 55) rfl ?_); refine gL_ (some 5) Tryd.func55 #[.agg #[.int .i64 a0_0, .int .i64 a0_1, .slice A0_2 l0_2.length c0_2]] ?_; (with_reducible refine (impl_ValidRule.calls k a0_0 a0_1 _ _ l0_2 true _ ?side1 ?side2 A2.out).mono ?_); (case side1 => exact ck_ (Kd.C_below HR0_2.out HB.out)); (case side2 => exact HC0_2.out); rintro e w7 ⟨rfl, hb⟩; refine ⟨_, rfl, ?_⟩; have n0_ := Aside0.mk (bb_ BK200.out hb); have n1_ := Aside0.mk (below_step (bk_ HB.out) hb); clear BK200 HB; have BK200 := n0_; have HB := n1_; clear n0_ n1_; (try clear hb); (try clear hb2); (try clear hk); (try clear hi); have hcz8_0 := bc_ BK200.out 0 (.int .i64 a0_0); have hcz8_1 := bc_ BK200.out 1 (.int .i64 a0_1); have hcz8_2 := bc_ BK200.out 2 (.slice A0_2 l0_2.length c0_2); have hfz8_0 := blk_frozen BK200.out 0; have hfz8_1 := blk_frozen BK200.out 1; have hfz8_2 := blk_frozen BK200.out 2) | ((with_reducible refine gate_callee (f := 48) rfl ?_); refine gL_ (some 13) Tryd.func48 #[.int .i64 a0_0, .int .i64 a0_1, .slice A0_2 l0_2.length c0_2] ?_; (with_reducible refine (impl_headed.calls k a0_0 a0_1 _ _ l0_2 t202 t203 _ ?side1 ?side2 A4.out).mono ?_); (case side1 => exact ck_ (Kd.C_below HR0_2.out HB.out)); (case side2 => exact HC0_2.out); rintro e w9 ⟨rfl, hb⟩; refine ⟨_, rfl, ?_⟩; have n0_ := Aside0.mk (bb_ BK200.out hb); have n1_ := Aside0.mk (below_step (bk_ HB.out) hb); clear BK200 HB; have BK200 := n0_; have HB := n1_; clear n0_ n1_; (try clear hb); (try clear hb2); (try clear hk); (try clear hi)))
   go_ret2; exact ⟨by first | rfl | (simp [errW_none, errW_some] <;> rfl) | (simp [*, errW_none, errW_some] <;> rfl), bk_ HB.out⟩
 · replace c3 := Bool.eq_false_iff.mpr c3; subst c3; have H1 : (some ((⟨#[]⟩ : ByteArray), false)) = some (r1, r2) := by rw [if_neg (show ¬ (false = true) by decide)] at H; exact H
   clear H; have H := H1; clear H1; simp only [Option.some.injEq, Prod.mk.injEq] at H; obtain ⟨rfl, rfl⟩ := H; go_enter Tryd.func26, Tryd.ntmps26; go_wp2_with (first | ((with_reducible refine gate_dst (N := 1) rfl ?_); refine box_event ?hg (N := 1) ?hd (cs := #[.int .i64 a0_0, .int .i64 a0_1, .slice A0_2 l0_2.length c0_2]) (t := 45) ?hr ?_; (case hd => rfl); (case hg => rfl); (case hr => first | (go_simp; done) | (go_simp; rfl)); intro gb200 hg w10 hbox hb; have n0_ := Aside0.mk (below_step (bk_ HB.out) hb); have n1_ := Aside0.mk (hbox); have n2_ := Aside0.mk ((by rw [hg]; exact (below_size (bk_ HB.out)) : w.heap.size ≤ gb200)); have n3_ := Aside0.mk ((by rw [hg]; exact (below_size (bk_ HB.out)) : w.heap.size ≤ gb200)); clear HB; have HB := n0_; have BK200 := n1_; have GW200 := n2_; have GE200 := n3_; clear n0_ n1_ n2_ n3_ hb hbox hg; have hcz11_0 := bc_ BK200.out 0 (.int .i64 a0_0); have hcz11_1 := bc_ BK200.out 1 (.int .i64 a0_1); have hcz11_2 := bc_ BK200.out 2 (.slice A0_2 l0_2.length c0_2); have hfz11_0 := blk_frozen BK200.out 0; have hfz11_1 := blk_frozen BK200.out 1; have hfz11_2 := blk_frozen BK200.out 2) | ((with_reducible refine gate_callee (f := 55) rfl ?_); refine gL_ (some 5) Tryd.func55 #[.agg #[.int .i64 a0_0, .int .i64 a0_1, .slice A0_2 l0_2.length c0_2]] ?_; (with_reducible refine (impl_ValidRule.calls k a0_0 a0_1 _ _ l0_2 false _ ?side1 ?side2 A2.out).mono ?_); (case side1 => exact ck_ (Kd.C_below HR0_2.out HB.out)); (case side2 => exact HC0_2.out); rintro e w12 ⟨rfl, hb⟩; refine ⟨_, rfl, ?_⟩; have n0_ := Aside0.mk (bb_ BK200.out hb); have n1_ := Aside0.mk (below_step (bk_ HB.out) hb); clear BK200 HB; have BK200 := n0_; have HB := n1_; clear n0_ n1_; (try clear hb); (try clear hb2); (try clear hk); (try clear hi)))
   go_ret2; exact ⟨by first | rfl | (simp [errW_none, errW_some] <;> rfl) | (simp [*, errW_none, errW_some] <;> rfl), bk_ HB.out⟩

/-! ### laws_eqInt64S: function 49 -/
def laws_eqInt64S.l0 : Nat → List Int → List Int → Int → Option (Bool)
  | 0, _, _, _ => none
  | k + 1, x0, x1, x5 => if x5 < (x0.length : Int) then (if 0 ≤ x5 then (if x5 < (x1.length : Int) then (if (rd x0 x5) = (rd x1 x5) then (laws_eqInt64S.l0 k x0 x1 (wrap64 (x5 + 1))) else (some false)) else (none)) else (none)) else (some true)
def laws_eqInt64S.f (k : Nat) (l0 : List Int) (l1 : List Int) : Option (Bool) := if (l0.length : Int) = (l1.length : Int) then (laws_eqInt64S.l0 k l0 l1 0) else (some false)
theorem laws_eqInt64S.mono_l : ∀ k, (∀ y0 y1 y2, LeO (laws_eqInt64S.l0 k y0 y1 y2) (laws_eqInt64S.l0 (k + 1) y0 y1 y2))
  | 0 => fun _ _ _ r h => by simp [laws_eqInt64S.l0] at h
  | k + 1 => by
    have ih0 := laws_eqInt64S.mono_l k
    · intro y0 y1 y2
      unfold laws_eqInt64S.l0
      repeat' first
      | (with_reducible exact ih0 _ _ _)
      | (with_reducible exact LeO.refl _)
      | (with_reducible exact LeO.none _)
      | (with_reducible refine LeO.ite ?_ ?_)
      | (with_reducible refine LeO.bind ?_ (fun _ => ?_))
      | exact ih0 _ _ _
      | exact LeO.none _
      | refine LeO.ite ?_ ?_
      | refine LeO.bind ?_ (fun _ => ?_)
theorem laws_eqInt64S.mono : ∀ a0 a1 k, LeO (laws_eqInt64S.f k a0 a1) (laws_eqInt64S.f (k + 1) a0 a1) := by
 intro a0 a1 k; have ih0 := laws_eqInt64S.mono_l k; unfold laws_eqInt64S.f; repeat' first
  | (with_reducible exact ih0 _ _ _)
  | (with_reducible exact LeO.refl _)
  | (with_reducible exact LeO.none _)
  | (with_reducible refine LeO.ite ?_ ?_)
  | (with_reducible refine LeO.bind ?_ (fun _ => ?_))
  | exact ih0 _ _ _
  | exact LeO.none _
  | refine LeO.ite ?_ ?_
  | refine LeO.bind ?_ (fun _ => ?_)
set_option maxHeartbeats 8000000 in
set_option maxRecDepth 100000 in
theorem laws_eqInt64S.calls (k : Nat) (A0 : Option Addr) (c0 : Nat) (l0 : List Int) (A1 : Option Addr) (c1 : Nat) (l1 : List Int) (r : Bool) (w : World) (hr0 : Kd.C (Kd.int .i64) w A0 l0.length l0) (hc0 : l0.length ≤ c0) (hr1 : Kd.C (Kd.int .i64) w A1 l1.length l1) (hc1 : l1.length ≤ c1) (h : laws_eqInt64S.f k l0 l1 = some r) :
    Calls Tryd.prog 49 #[.slice A0 l0.length c0, .slice A1 l1.length c1] w fun e w' => e = .returned (.bool r) ∧ Drawn0 w w' := by
 have HR0 := Aside0.mk hr0; have HC0 := Aside0.mk hc0; clear hr0 hc0; have HR1 := Aside0.mk hr1; have HC1 := Aside0.mk hc1; clear hr1 hc1; have H : (if (l0.length : Int) = (l1.length : Int) then (laws_eqInt64S.l0 k l0 l1 0) else (some false)) = some r := h; clear h; by_cases c3 : (l0.length : Int) = (l1.length : Int)
 · rw [if_pos c3] at H; have c3b0 : ((l0.length : Int) == (l1.length : Int)) = true := beq_iff_eq.mpr c3; have c3b1 : ((l0.length : Int) != (l1.length : Int)) = false := bne_eq_false_iff_eq.mpr c3; have c3b2 : (l0.length == l1.length) = true := by first | simpa using c3 | (simp at c3 ⊢; omega)
   clear c3; have H' := Aside0.mk H; clear H; go_enter Tryd.func49, Tryd.ntmps49; go_wp2; repeat (go_quiet (fail); try go_wp2)
   go_loopg [5] k (fun kq v5 w' => ∃ (x5_1 : Int), v5 = .int .i64 x5_1 ∧ Aside0 (laws_eqInt64S.l0 kq l0 l1 x5_1 = some r) ∧ Aside0 (kq ≤ k) ∧ Drawn0 w w'); case atStart => exact ⟨(0), (by first | rfl | (simp; done) | (simp [i64_w, i32_w]; done) | (simp [*]; done) | (simp [*, i64_w, i32_w]; done)), H', ⟨Nat.le_refl _⟩, by repeat (first | exact Drawn0.refl _ | apply Drawn0.step)⟩
   case round =>
    clear H'; (try clear c1); (try clear p2); (try clear c3); (try clear c3b0); (try clear c3b1); (try clear c3b2); obtain ⟨x5_1, rfl, HA, HK1, ⟨m1, rfl⟩⟩ := hrel; cases gk with
    | zero => exact absurd HA.out (by simp [laws_eqInt64S.l0])
    | succ k1 =>
     have H := HA.out; clear HA; simp only [laws_eqInt64S.l0] at H; by_cases c4 : x5_1 < (l0.length : Int)
     · rw [if_pos c4] at H; have c4b0 : decide (x5_1 < (l0.length : Int)) = true := decide_eq_true c4; clear c4; by_cases c5 : 0 ≤ x5_1
       · rw [if_pos c5] at H; have c5b0 : decide (0 ≤ x5_1) = true := decide_eq_true c5; clear c5; by_cases c6 : x5_1 < (l1.length : Int)
         · rw [if_pos c6] at H; have c6b0 : decide (x5_1 < (l1.length : Int)) = true := decide_eq_true c6; clear c6; by_cases c7 : (rd l0 x5_1) = (rd l1 x5_1)
           · rw [if_pos c7] at H; have c7b0 : ((rd l0 x5_1) == (rd l1 x5_1)) = true := beq_iff_eq.mpr c7; have c7b1 : ((rd l0 x5_1) != (rd l1 x5_1)) = false := bne_eq_false_iff_eq.mpr c7; clear c7; have H' := Aside0.mk H; clear H; have p204 : 0 ≤ (x5_1 : Int) := of_decide_eq_true (by first | (with_reducible assumption) | assumption); have q204 : x5_1 < (l0.length : Int) := of_decide_eq_true (by first | (with_reducible assumption) | assumption); obtain ⟨ad204, e204, hx204_0⟩ := Kd.at_int HR0.out x5_1 p204 q204; cases e204
             replace p204 := eq_true p204; replace q204 := eq_true q204; have p205 : 0 ≤ (x5_1 : Int) := of_decide_eq_true (by first | (with_reducible assumption) | assumption); have q205 : x5_1 < (l1.length : Int) := of_decide_eq_true (by first | (with_reducible assumption) | assumption); obtain ⟨ad205, e205, hx205_0⟩ := Kd.at_int HR1.out x5_1 p205 q205; cases e205
             replace p205 := eq_true p205; replace q205 := eq_true q205; go_wp2; repeat (go_quiet (fail); try go_wp2)
             go_roundg k1; case measure => have := HK1.out; omega
             case rel => exact ⟨(wrap64 (x5_1 + 1)), (by first | rfl | (simp; done) | (simp [i64_w, i32_w]; done) | (simp [*]; done) | (simp [*, i64_w, i32_w]; done)), H', ⟨by have := HK1.out; omega⟩, by repeat (first | exact Drawn0.refl _ | apply Drawn0.step)⟩
           · rw [if_neg c7] at H; have c7b0 : ((rd l0 x5_1) == (rd l1 x5_1)) = false := beq_eq_false_iff_ne.mpr c7; have c7b1 : ((rd l0 x5_1) != (rd l1 x5_1)) = true := bne_iff_ne.mpr c7; obtain rfl := Option.some.inj H; have p204 : 0 ≤ (x5_1 : Int) := of_decide_eq_true (by first | (with_reducible assumption) | assumption); have q204 : x5_1 < (l0.length : Int) := of_decide_eq_true (by first | (with_reducible assumption) | assumption); obtain ⟨ad204, e204, hx204_0⟩ := Kd.at_int HR0.out x5_1 p204 q204; cases e204
             replace p204 := eq_true p204; replace q204 := eq_true q204; have p205 : 0 ≤ (x5_1 : Int) := of_decide_eq_true (by first | (with_reducible assumption) | assumption); have q205 : x5_1 < (l1.length : Int) := of_decide_eq_true (by first | (with_reducible assumption) | assumption); obtain ⟨ad205, e205, hx205_0⟩ := Kd.at_int HR1.out x5_1 p205 q205; cases e205
             replace p205 := eq_true p205; replace q205 := eq_true q205; go_wp2; repeat (go_quiet (fail); try go_wp2)
             go_ret; exact ⟨by first | rfl | (simp; done) | (simp [i64_w, i32_w]; done) | (simp [*]; done) | (simp [*, i64_w, i32_w]; done), by repeat (first | exact Drawn0.refl _ | apply Drawn0.step)⟩
         · rw [if_neg c6] at H; exact absurd H (by simp)
       · rw [if_neg c5] at H; exact absurd H (by simp)
     · rw [if_neg c4] at H; have c4b0 : decide (x5_1 < (l0.length : Int)) = false := decide_eq_false c4; clear c4; obtain rfl := Option.some.inj H; go_wp2; repeat (go_quiet (fail); try go_wp2)
       go_ret; exact ⟨by first | rfl | (simp; done) | (simp [i64_w, i32_w]; done) | (simp [*]; done) | (simp [*, i64_w, i32_w]; done), by repeat (first | exact Drawn0.refl _ | apply Drawn0.step)⟩
 · rw [if_neg c3] at H; have c3b0 : ((l0.length : Int) == (l1.length : Int)) = false := beq_eq_false_iff_ne.mpr c3; have c3b1 : ((l0.length : Int) != (l1.length : Int)) = true := bne_iff_ne.mpr c3; have c3b2 : (l0.length == l1.length) = false := by first | simpa using c3 | (simp at c3 ⊢; omega)
   obtain rfl := Option.some.inj H; go_enter Tryd.func49, Tryd.ntmps49; go_wp2; repeat (go_quiet (fail); try go_wp2)
   go_ret; exact ⟨by first | rfl | (simp; done) | (simp [i64_w, i32_w]; done) | (simp [*]; done) | (simp [*, i64_w, i32_w]; done), by repeat (first | exact Drawn0.refl _ | apply Drawn0.step)⟩

/-! ### laws_eqRule: function 27 -/
def laws_eqRule.f (k : Nat) (a0_0 : Int) (a0_1 : Int) (l0_2 : List Int) (a1_0 : Int) (a1_1 : Int) (l1_2 : List Int) : Option (Bool) := if a0_0 = a1_0 then (if a0_1 = a1_1 then ((laws_eqInt64S.f k l0_2 l1_2).bind fun t208 => (if t208 = true then (some true) else (some false))) else (some false)) else (some false)
theorem laws_eqRule.mono : ∀ a0 a1 a2 a3 a4 a5 k, LeO (laws_eqRule.f k a0 a1 a2 a3 a4 a5) (laws_eqRule.f (k + 1) a0 a1 a2 a3 a4 a5) := by
 intro a0 a1 a2 a3 a4 a5 k; unfold laws_eqRule.f; repeat' first
  | (with_reducible exact laws_eqInt64S.mono _ _ _)
  | (with_reducible exact LeO.refl _)
  | (with_reducible exact LeO.none _)
  | (with_reducible refine LeO.ite ?_ ?_)
  | (with_reducible refine LeO.bind ?_ (fun _ => ?_))
  | exact laws_eqInt64S.mono _ _ _
  | exact LeO.none _
  | refine LeO.ite ?_ ?_
  | refine LeO.bind ?_ (fun _ => ?_)
set_option maxHeartbeats 8000000 in
set_option maxRecDepth 100000 in
theorem laws_eqRule.calls (k : Nat) (a0_0 : Int) (a0_1 : Int) (A0_2 : Option Addr) (c0_2 : Nat) (l0_2 : List Int) (a1_0 : Int) (a1_1 : Int) (A1_2 : Option Addr) (c1_2 : Nat) (l1_2 : List Int) (r : Bool) (w : World) (hr0_2 : Kd.C (Kd.int .i64) w A0_2 l0_2.length l0_2) (hc0_2 : l0_2.length ≤ c0_2) (hr1_2 : Kd.C (Kd.int .i64) w A1_2 l1_2.length l1_2) (hc1_2 : l1_2.length ≤ c1_2) (h : laws_eqRule.f k a0_0 a0_1 l0_2 a1_0 a1_1 l1_2 = some r) :
    Calls Tryd.prog 27 #[.agg #[.int .i64 a0_0, .int .i64 a0_1, .slice A0_2 l0_2.length c0_2], .agg #[.int .i64 a1_0, .int .i64 a1_1, .slice A1_2 l1_2.length c1_2]] w fun e w' => e = .returned (.bool r) ∧ Below w.heap.size w w' := by
 have hu45 := Tryd.underlying45; have HR0_2 := Aside0.mk hr0_2; have HC0_2 := Aside0.mk hc0_2; clear hr0_2 hc0_2; have HR1_2 := Aside0.mk hr1_2; have HC1_2 := Aside0.mk hc1_2; clear hr1_2 hc1_2; have HB := Aside0.mk (Below.refl w.heap.size w); have H : (if a0_0 = a1_0 then (if a0_1 = a1_1 then ((laws_eqInt64S.f k l0_2 l1_2).bind fun t208 => (if t208 = true then (some true) else (some false))) else (some false)) else (some false)) = some r := h; clear h; by_cases c3 : a0_0 = a1_0
 · rw [if_pos c3] at H; have c3b0 : (a0_0 == a1_0) = true := beq_iff_eq.mpr c3; have c3b1 : (a0_0 != a1_0) = false := bne_eq_false_iff_eq.mpr c3; clear c3; by_cases c4 : a0_1 = a1_1
   · rw [if_pos c4] at H; have c4b0 : (a0_1 == a1_1) = true := beq_iff_eq.mpr c4; have c4b1 : (a0_1 != a1_1) = false := bne_eq_false_iff_eq.mpr c4; clear c4; replace H := Option.bind_eq_some_iff.mp H; obtain ⟨t208, A50, H⟩ := H; replace H : (if t208 = true then (some true) else (some false)) = some r := H; have A5 := Aside0.mk A50; clear A50; by_cases c6 : t208 = true
     · subst c6; have H1 : (some true) = some r := by rw [if_pos rfl] at H; exact H
       clear H; have H := H1; clear H1; obtain rfl := Option.some.inj H; go_enter Tryd.func27, Tryd.ntmps27; go_wp2_with (first | ((with_reducible refine gate_dst (N := 2) rfl ?_); refine box_event ?hg (N := 2) ?hd (cs := #[.int .i64 a0_0, .int .i64 a0_1, .slice A0_2 l0_2.length c0_2]) (t := 45) ?hr ?_; (case hd => rfl); (case hg => rfl); (case hr => first | (go_simp; done) | (go_simp; rfl)); intro gb206 hg w7 hbox hb; have n0_ := Aside0.mk (below_step (bk_ HB.out) hb); have n1_ := Aside0.mk (hbox); have n2_ := Aside0.mk ((by rw [hg]; exact (below_size (bk_ HB.out)) : w.heap.size ≤ gb206)); have n3_ := Aside0.mk ((by rw [hg]; exact (below_size (bk_ HB.out)) : w.heap.size ≤ gb206)); clear HB; have HB := n0_; have BK206 := n1_; have GW206 := n2_; have GE206 := n3_; clear n0_ n1_ n2_ n3_ hb hbox hg) | ((with_reducible refine gate_dst (N := 3) rfl ?_); refine box_event ?hg (N := 3) ?hd (cs := #[.int .i64 a1_0, .int .i64 a1_1, .slice A1_2 l1_2.length c1_2]) (t := 45) ?hr ?_; (case hd => rfl); (case hg => rfl); (case hr => first | (go_simp; done) | (go_simp; rfl)); intro gb207 hg w8 hbox hb; have n0_ := Aside0.mk (bb_ BK206.out hb); have n1_ := Aside0.mk (below_step (bk_ HB.out) hb); have n2_ := Aside0.mk (hbox); have n3_ := Aside0.mk ((by rw [hg]; exact (below_size (bk_ HB.out)) : w.heap.size ≤ gb207)); have n4_ := Aside0.mk ((by rw [hg]; exact (below_size (bk_ HB.out)) : w.heap.size ≤ gb207)); have n5_ := Aside0.mk ((by rw [hg]; exact Nat.ne_of_lt (bl_ BK206.out) : gb206 ≠ gb207)); have n6_ := Aside0.mk ((by rw [hg]; exact Nat.ne_of_gt (bl_ BK206.out) : gb207 ≠ gb206)); clear BK206 HB; have BK206 := n0_; have HB := n1_; have BK207 := n2_; have GW207 := n3_; have GE207 := n4_; have NB206_207 := n5_; have NB207_206 := n6_; clear n0_ n1_ n2_ n3_ n4_ n5_ n6_ hb hbox hg; have hnb9 := NB206_207.out; have hnc9 := NB207_206.out; have hcz10_0 := bc_ BK206.out 0 (.int .i64 a0_0); have hcz10_1 := bc_ BK206.out 1 (.int .i64 a0_1); have hcz10_2 := bc_ BK206.out 2 (.slice A0_2 l0_2.length c0_2); have hfz10_0 := blk_frozen BK206.out 0; have hfz10_1 := blk_frozen BK206.out 1; have hfz10_2 := blk_frozen BK206.out 2; have hcz11_0 := bc_ BK207.out 0 (.int .i64 a1_0); have hcz11_1 := bc_ BK207.out 1 (.int .i64 a1_1); have hcz11_2 := bc_ BK207.out 2 (.slice A1_2 l1_2.length c1_2); have hfz11_0 := blk_frozen BK207.out 0; have hfz11_1 := blk_frozen BK207.out 1; have hfz11_2 := blk_frozen BK207.out 2) | ((with_reducible refine gate_callee (f := 49) rfl ?_); refine gL_ (some 19) Tryd.func49 #[.slice A0_2 l0_2.length c0_2, .slice A1_2 l1_2.length c1_2] ?_; (with_reducible refine (laws_eqInt64S.calls k _ _ l0_2 _ _ l1_2 true _ ?side1 ?side2 ?side3 ?side4 A5.out).mono ?_); (case side1 => exact ck_ (Kd.C_below HR0_2.out HB.out)); (case side2 => exact HC0_2.out); (case side3 => exact ck_ (Kd.C_below HR1_2.out HB.out)); (case side4 => exact HC1_2.out); rintro e w' ⟨rfl, ⟨nd, rfl⟩⟩; refine ⟨_, rfl, ?_⟩))
       go_ret; exact ⟨by first | rfl | (simp [errW_none, errW_some] <;> rfl) | (simp [*, errW_none, errW_some] <;> rfl), bk_ HB.out⟩
     · replace c6 := Bool.eq_false_iff.mpr c6; subst c6; have H1 : (some false) = some r := by rw [if_neg (show ¬ (false = true) by decide)] at H; exact H
       clear H; have H := H1; clear H1; obtain rfl := Option.some.inj H; go_enter Tryd.func27, Tryd.ntmps27; go_wp2_with (first | ((with_reducible refine gate_dst (N := 2) rfl ?_); refine box_event ?hg (N := 2) ?hd (cs := #[.int .i64 a0_0, .int .i64 a0_1, .slice A0_2 l0_2.length c0_2]) (t := 45) ?hr ?_; (case hd => rfl); (case hg => rfl); (case hr => first | (go_simp; done) | (go_simp; rfl)); intro gb206 hg w12 hbox hb; have n0_ := Aside0.mk (below_step (bk_ HB.out) hb); have n1_ := Aside0.mk (hbox); have n2_ := Aside0.mk ((by rw [hg]; exact (below_size (bk_ HB.out)) : w.heap.size ≤ gb206)); have n3_ := Aside0.mk ((by rw [hg]; exact (below_size (bk_ HB.out)) : w.heap.size ≤ gb206)); clear HB; have HB := n0_; have BK206 := n1_; have GW206 := n2_; have GE206 := n3_; clear n0_ n1_ n2_ n3_ hb hbox hg) | ((with_reducible refine gate_dst (N := 3) rfl ?_); refine box_event ?hg (N := 3) ?hd (cs := #[.int .i64 a1_0, .int .i64 a1_1, .slice A1_2 l1_2.length c1_2]) (t := 45) ?hr ?_; (case hd => rfl); (case hg => rfl); (case hr => first | (go_simp; done) | (go_simp; rfl)); intro gb207 hg w13 hbox hb; have n0_ := Aside0.mk (bb_ BK206.out hb); have n1_ := Aside0.mk (below_step (bk_ HB.out) hb); have n2_ := Aside0.mk (hbox); have n3_ := Aside0.mk ((by rw [hg]; exact (below_size (bk_ HB.out)) : w.heap.size ≤ gb207)); have n4_ := Aside0.mk ((by rw [hg]; exact (below_size (bk_ HB.out)) : w.heap.size ≤ gb207)); have n5_ := Aside0.mk ((by rw [hg]; exact Nat.ne_of_lt (bl_ BK206.out) : gb206 ≠ gb207)); have n6_ := Aside0.mk ((by rw [hg]; exact Nat.ne_of_gt (bl_ BK206.out) : gb207 ≠ gb206)); clear BK206 HB; have BK206 := n0_; have HB := n1_; have BK207 := n2_; have GW207 := n3_; have GE207 := n4_; have NB206_207 := n5_; have NB207_206 := n6_; clear n0_ n1_ n2_ n3_ n4_ n5_ n6_ hb hbox hg; have hnb14 := NB206_207.out; have hnc14 := NB207_206.out; have hcz15_0 := bc_ BK206.out 0 (.int .i64 a0_0); have hcz15_1 := bc_ BK206.out 1 (.int .i64 a0_1); have hcz15_2 := bc_ BK206.out 2 (.slice A0_2 l0_2.length c0_2); have hfz15_0 := blk_frozen BK206.out 0; have hfz15_1 := blk_frozen BK206.out 1; have hfz15_2 := blk_frozen BK206.out 2; have hcz16_0 := bc_ BK207.out 0 (.int .i64 a1_0); have hcz16_1 := bc_ BK207.out 1 (.int .i64 a1_1); have hcz16_2 := bc_ BK207.out 2 (.slice A1_2 l1_2.length c1_2); have hfz16_0 := blk_frozen BK207.out 0; have hfz16_1 := blk_frozen BK207.out 1; have hfz16_2 := blk_frozen BK207.out 2) | ((with_reducible refine gate_callee (f := 49) rfl ?_); refine gL_ (some 19) Tryd.func49 #[.slice A0_2 l0_2.length c0_2, .slice A1_2 l1_2.length c1_2] ?_; (with_reducible refine (laws_eqInt64S.calls k _ _ l0_2 _ _ l1_2 false _ ?side1 ?side2 ?side3 ?side4 A5.out).mono ?_); (case side1 => exact ck_ (Kd.C_below HR0_2.out HB.out)); (case side2 => exact HC0_2.out); (case side3 => exact ck_ (Kd.C_below HR1_2.out HB.out)); (case side4 => exact HC1_2.out); rintro e w' ⟨rfl, ⟨nd, rfl⟩⟩; refine ⟨_, rfl, ?_⟩))
       go_ret; exact ⟨by first | rfl | (simp [errW_none, errW_some] <;> rfl) | (simp [*, errW_none, errW_some] <;> rfl), bk_ HB.out⟩
   · rw [if_neg c4] at H; have c4b0 : (a0_1 == a1_1) = false := beq_eq_false_iff_ne.mpr c4; have c4b1 : (a0_1 != a1_1) = true := bne_iff_ne.mpr c4; obtain rfl := Option.some.inj H; go_enter Tryd.func27, Tryd.ntmps27; go_wp2_with (first | ((with_reducible refine gate_dst (N := 2) rfl ?_); refine box_event ?hg (N := 2) ?hd (cs := #[.int .i64 a0_0, .int .i64 a0_1, .slice A0_2 l0_2.length c0_2]) (t := 45) ?hr ?_; (case hd => rfl); (case hg => rfl); (case hr => first | (go_simp; done) | (go_simp; rfl)); intro gb206 hg w17 hbox hb; have n0_ := Aside0.mk (below_step (bk_ HB.out) hb); have n1_ := Aside0.mk (hbox); have n2_ := Aside0.mk ((by rw [hg]; exact (below_size (bk_ HB.out)) : w.heap.size ≤ gb206)); have n3_ := Aside0.mk ((by rw [hg]; exact (below_size (bk_ HB.out)) : w.heap.size ≤ gb206)); clear HB; have HB := n0_; have BK206 := n1_; have GW206 := n2_; have GE206 := n3_; clear n0_ n1_ n2_ n3_ hb hbox hg) | ((with_reducible refine gate_dst (N := 3) rfl ?_); refine box_event ?hg (N := 3) ?hd (cs := #[.int .i64 a1_0, .int .i64 a1_1, .slice A1_2 l1_2.length c1_2]) (t := 45) ?hr ?_; (case hd => rfl); (case hg => rfl); (case hr => first | (go_simp; done) | (go_simp; rfl)); intro gb207 hg w18 hbox hb; have n0_ := Aside0.mk (bb_ BK206.out hb); have n1_ := Aside0.mk (below_step (bk_ HB.out) hb); have n2_ := Aside0.mk (hbox); have n3_ := Aside0.mk ((by rw [hg]; exact (below_size (bk_ HB.out)) : w.heap.size ≤ gb207)); have n4_ := Aside0.mk ((by rw [hg]; exact (below_size (bk_ HB.out)) : w.heap.size ≤ gb207)); have n5_ := Aside0.mk ((by rw [hg]; exact Nat.ne_of_lt (bl_ BK206.out) : gb206 ≠ gb207)); have n6_ := Aside0.mk ((by rw [hg]; exact Nat.ne_of_gt (bl_ BK206.out) : gb207 ≠ gb206)); clear BK206 HB; have BK206 := n0_; have HB := n1_; have BK207 := n2_; have GW207 := n3_; have GE207 := n4_; have NB206_207 := n5_; have NB207_206 := n6_; clear n0_ n1_ n2_ n3_ n4_ n5_ n6_ hb hbox hg; have hnb19 := NB206_207.out; have hnc19 := NB207_206.out; have hcz20_0 := bc_ BK206.out 0 (.int .i64 a0_0); have hcz20_1 := bc_ BK206.out 1 (.int .i64 a0_1); have hcz20_2 := bc_ BK206.out 2 (.slice A0_2 l0_2.length c0_2); have hfz20_0 := blk_frozen BK206.out 0; have hfz20_1 := blk_frozen BK206.out 1; have hfz20_2 := blk_frozen BK206.out 2; have hcz21_0 := bc_ BK207.out 0 (.int .i64 a1_0); have hcz21_1 := bc_ BK207.out 1 (.int .i64 a1_1); have hcz21_2 := bc_ BK207.out 2 (.slice A1_2 l1_2.length c1_2); have hfz21_0 := blk_frozen BK207.out 0; have hfz21_1 := blk_frozen BK207.out 1; have hfz21_2 := blk_frozen BK207.out 2))
     go_ret; exact ⟨by first | rfl | (simp [errW_none, errW_some] <;> rfl) | (simp [*, errW_none, errW_some] <;> rfl), bk_ HB.out⟩
 · rw [if_neg c3] at H; have c3b0 : (a0_0 == a1_0) = false := beq_eq_false_iff_ne.mpr c3; have c3b1 : (a0_0 != a1_0) = true := bne_iff_ne.mpr c3; obtain rfl := Option.some.inj H; go_enter Tryd.func27, Tryd.ntmps27; go_wp2_with (first | ((with_reducible refine gate_dst (N := 2) rfl ?_); refine box_event ?hg (N := 2) ?hd (cs := #[.int .i64 a0_0, .int .i64 a0_1, .slice A0_2 l0_2.length c0_2]) (t := 45) ?hr ?_; (case hd => rfl); (case hg => rfl); (case hr => first | (go_simp; done) | (go_simp; rfl)); intro gb206 hg w22 hbox hb; have n0_ := Aside0.mk (below_step (bk_ HB.out) hb); have n1_ := Aside0.mk (hbox); have n2_ := Aside0.mk ((by rw [hg]; exact (below_size (bk_ HB.out)) : w.heap.size ≤ gb206)); have n3_ := Aside0.mk ((by rw [hg]; exact (below_size (bk_ HB.out)) : w.heap.size ≤ gb206)); clear HB; have HB := n0_; have BK206 := n1_; have GW206 := n2_; have GE206 := n3_; clear n0_ n1_ n2_ n3_ hb hbox hg) | ((with_reducible refine gate_dst (N := 3) rfl ?_); refine box_event ?hg (N := 3) ?hd (cs := #[.int .i64 a1_0, .int .i64 a1_1, .slice A1_2 l1_2.length c1_2]) (t := 45) ?hr ?_; (case hd => rfl); (case hg => rfl); (case hr => first | (go_simp; done) | (go_simp; rfl)); intro gb207 hg w23 hbox hb; have n0_ := Aside0.mk (bb_ BK206.out hb); have n1_ := Aside0.mk (below_step (bk_ HB.out) hb); have n2_ := Aside0.mk (hbox); have n3_ := Aside0.mk ((by rw [hg]; exact (below_size (bk_ HB.out)) : w.heap.size ≤ gb207)); have n4_ := Aside0.mk ((by rw [hg]; exact (below_size (bk_ HB.out)) : w.heap.size ≤ gb207)); have n5_ := Aside0.mk ((by rw [hg]; exact Nat.ne_of_lt (bl_ BK206.out) : gb206 ≠ gb207)); have n6_ := Aside0.mk ((by rw [hg]; exact Nat.ne_of_gt (bl_ BK206.out) : gb207 ≠ gb206)); clear BK206 HB; have BK206 := n0_; have HB := n1_; have BK207 := n2_; have GW207 := n3_; have GE207 := n4_; have NB206_207 := n5_; have NB207_206 := n6_; clear n0_ n1_ n2_ n3_ n4_ n5_ n6_ hb hbox hg; have hnb24 := NB206_207.out; have hnc24 := NB207_206.out; have hcz25_0 := bc_ BK206.out 0 (.int .i64 a0_0); have hcz25_1 := bc_ BK206.out 1 (.int .i64 a0_1); have hcz25_2 := bc_ BK206.out 2 (.slice A0_2 l0_2.length c0_2); have hfz25_0 := blk_frozen BK206.out 0; have hfz25_1 := blk_frozen BK206.out 1; have hfz25_2 := blk_frozen BK206.out 2; have hcz26_0 := bc_ BK207.out 0 (.int .i64 a1_0); have hcz26_1 := bc_ BK207.out 1 (.int .i64 a1_1); have hcz26_2 := bc_ BK207.out 2 (.slice A1_2 l1_2.length c1_2); have hfz26_0 := blk_frozen BK207.out 0; have hfz26_1 := blk_frozen BK207.out 1; have hfz26_2 := blk_frozen BK207.out 2))
   go_ret; exact ⟨by first | rfl | (simp [errW_none, errW_some] <;> rfl) | (simp [*, errW_none, errW_some] <;> rfl), bk_ HB.out⟩

/-! ### laws_FnExactRuleText: function 6 -/
def laws_FnExactRuleText.j0 : Nat → Bool → Int → Int → List Int → Int → Int → List Int → Option (Bool)
  | 0, _, _, _, _, _, _, _ => none
  | k + 1, x34, x210000, x210001, x210002, x224000, x224001, x224002 => if x34 = true then (some false) else ((laws_toRule.f k x210000 x210001 x210002).bind fun bt226 => ((laws_eqRule.f k x224000 x224001 x224002 bt226.1 bt226.2.1 bt226.2.2).bind fun t231 => (if t231 = true then (some true) else (some false))))
def laws_FnExactRuleText.f (k : Nat) (a0_0 : Int) (a0_1 : Int) (l0_2 : List Int) : Option (Bool) := (laws_szRule.f a0_0 a0_1 l0_2 1048576).bind fun t210 => (if t210 < 0 then (some true) else ((laws_toRule.f k a0_0 a0_1 l0_2).bind fun bt211 => ((spec_RuleText.f k bt211.1 bt211.2.1 bt211.2.2).bind fun bt216 => ((laws_toRule.f k a0_0 a0_1 l0_2).bind fun bt218 => ((impl_RuleText.f k bt218.1 bt218.2.1 bt218.2.2).bind fun bt224 => (if bt224.1.toList = bt216.1.toList then (laws_FnExactRuleText.j0 k (bt224.2 != bt216.2) a0_0 a0_1 l0_2 bt218.1 bt218.2.1 bt218.2.2) else (laws_FnExactRuleText.j0 k true a0_0 a0_1 l0_2 bt218.1 bt218.2.1 bt218.2.2)))))))
theorem laws_FnExactRuleText.mono_l : ∀ k, (∀ y0 y1 y2 y3 y4 y5 y6, LeO (laws_FnExactRuleText.j0 k y0 y1 y2 y3 y4 y5 y6) (laws_FnExactRuleText.j0 (k + 1) y0 y1 y2 y3 y4 y5 y6))
  | 0 => fun _ _ _ _ _ _ _ r h => by simp [laws_FnExactRuleText.j0] at h
  | k + 1 => by
    have ih0 := laws_FnExactRuleText.mono_l k
    · intro y0 y1 y2 y3 y4 y5 y6
      unfold laws_FnExactRuleText.j0
      repeat' first
      | (with_reducible exact ih0 _ _ _ _ _ _ _)
      | (with_reducible exact impl_RuleText.mono _ _ _ _)
      | (with_reducible exact laws_eqRule.mono _ _ _ _ _ _ _)
      | (with_reducible exact laws_toRule.mono _ _ _ _)
      | (with_reducible exact spec_RuleText.mono _ _ _ _)
      | (with_reducible exact LeO.refl _)
      | (with_reducible exact LeO.none _)
      | (with_reducible refine LeO.ite ?_ ?_)
      | (with_reducible refine LeO.bind ?_ (fun _ => ?_))
      | exact ih0 _ _ _ _ _ _ _
      | exact impl_RuleText.mono _ _ _ _
      | exact laws_eqRule.mono _ _ _ _ _ _ _
      | exact laws_toRule.mono _ _ _ _
      | exact spec_RuleText.mono _ _ _ _
      | exact LeO.none _
      | refine LeO.ite ?_ ?_
      | refine LeO.bind ?_ (fun _ => ?_)
theorem laws_FnExactRuleText.mono : ∀ a0 a1 a2 k, LeO (laws_FnExactRuleText.f k a0 a1 a2) (laws_FnExactRuleText.f (k + 1) a0 a1 a2) := by
 intro a0 a1 a2 k; have ih0 := laws_FnExactRuleText.mono_l k; unfold laws_FnExactRuleText.f; repeat' first
  | (with_reducible exact ih0 _ _ _ _ _ _ _)
  | (with_reducible exact impl_RuleText.mono _ _ _ _)
  | (with_reducible exact laws_eqRule.mono _ _ _ _ _ _ _)
  | (with_reducible exact laws_toRule.mono _ _ _ _)
  | (with_reducible exact spec_RuleText.mono _ _ _ _)
  | (with_reducible exact LeO.refl _)
  | (with_reducible exact LeO.none _)
  | (with_reducible refine LeO.ite ?_ ?_)
  | (with_reducible refine LeO.bind ?_ (fun _ => ?_))
  | exact ih0 _ _ _ _ _ _ _
  | exact impl_RuleText.mono _ _ _ _
  | exact laws_eqRule.mono _ _ _ _ _ _ _
  | exact laws_toRule.mono _ _ _ _
  | exact spec_RuleText.mono _ _ _ _
  | exact LeO.none _
  | refine LeO.ite ?_ ?_
  | refine LeO.bind ?_ (fun _ => ?_)
set_option maxHeartbeats 8000000 in
set_option maxRecDepth 100000 in
theorem laws_FnExactRuleText.calls (k : Nat) (a0_0 : Int) (a0_1 : Int) (A0_2 : Option Addr) (c0_2 : Nat) (l0_2 : List Int) (r : Bool) (w : World) (hr0_2 : Kd.C (Kd.int .i64) w A0_2 l0_2.length l0_2) (hc0_2 : l0_2.length ≤ c0_2) (hr_ : r = true) (h : laws_FnExactRuleText.f k a0_0 a0_1 l0_2 = some r) :
    Calls Tryd.prog 6 #[.agg #[.int .i64 a0_0, .int .i64 a0_1, .slice A0_2 l0_2.length c0_2]] w fun e w' => e = .returned (.bool r) ∧ Below w.heap.size w w' := by
 have hu42 := Tryd.underlying42; have hu45 := Tryd.underlying45; have HR0_2 := Aside0.mk hr0_2; have HC0_2 := Aside0.mk hc0_2; clear hr0_2 hc0_2; have HB := Aside0.mk (Below.refl w.heap.size w); have H : ((laws_szRule.f a0_0 a0_1 l0_2 1048576).bind fun t210 => (if t210 < 0 then (some true) else ((laws_toRule.f k a0_0 a0_1 l0_2).bind fun bt211 => ((spec_RuleText.f k bt211.1 bt211.2.1 bt211.2.2).bind fun bt216 => ((laws_toRule.f k a0_0 a0_1 l0_2).bind fun bt218 => ((impl_RuleText.f k bt218.1 bt218.2.1 bt218.2.2).bind fun bt224 => (if bt224.1.toList = bt216.1.toList then (laws_FnExactRuleText.j0 k (bt224.2 != bt216.2) a0_0 a0_1 l0_2 bt218.1 bt218.2.1 bt218.2.2) else (laws_FnExactRuleText.j0 k true a0_0 a0_1 l0_2 bt218.1 bt218.2.1 bt218.2.2)))))))) = some r := h; clear h; replace H := Option.bind_eq_some_iff.mp H; obtain ⟨t210, A20, H⟩ := H; replace H : (if t210 < 0 then (some true) else ((laws_toRule.f k a0_0 a0_1 l0_2).bind fun bt211 => ((spec_RuleText.f k bt211.1 bt211.2.1 bt211.2.2).bind fun bt216 => ((laws_toRule.f k a0_0 a0_1 l0_2).bind fun bt218 => ((impl_RuleText.f k bt218.1 bt218.2.1 bt218.2.2).bind fun bt224 => (if bt224.1.toList = bt216.1.toList then (laws_FnExactRuleText.j0 k (bt224.2 != bt216.2) a0_0 a0_1 l0_2 bt218.1 bt218.2.1 bt218.2.2) else (laws_FnExactRuleText.j0 k true a0_0 a0_1 l0_2 bt218.1 bt218.2.1 bt218.2.2))))))) = some r := H; have A2 := Aside0.mk A20; clear A20; by_cases c3 : t210 < 0
 · rw [if_pos c3] at H; have c3b0 : decide (t210 < 0) = true := decide_eq_true c3; clear c3; obtain rfl := Option.some.inj H; go_enter Tryd.func6, Tryd.ntmps6; go_wp2_with (first | ((with_reducible refine gate_dst (N := 1) rfl ?_); refine box_event ?hg (N := 1) ?hd (cs := #[.int .i64 a0_0, .int .i64 a0_1, .slice A0_2 l0_2.length c0_2]) (t := 42) ?hr ?_; (case hd => rfl); (case hg => rfl); (case hr => first | (go_simp; done) | (go_simp; rfl)); intro gb209 hg w4 hbox hb; have n0_ := Aside0.mk (below_step (bk_ HB.out) hb); have n1_ := Aside0.mk (hbox); have n2_ := Aside0.mk ((by rw [hg]; exact (below_size (bk_ HB.out)) : w.heap.size ≤ gb209)); have n3_ := Aside0.mk ((by rw [hg]; exact (below_size (bk_ HB.out)) : w.heap.size ≤ gb209)); clear HB; have HB := n0_; have BK209 := n1_; have GW209 := n2_; have GE209 := n3_; clear n0_ n1_ n2_ n3_ hb hbox hg; have hcz5_0 := bc_ BK209.out 0 (.int .i64 a0_0); have hcz5_1 := bc_ BK209.out 1 (.int .i64 a0_1); have hcz5_2 := bc_ BK209.out 2 (.slice A0_2 l0_2.length c0_2); have hfz5_0 := blk_frozen BK209.out 0; have hfz5_1 := blk_frozen BK209.out 1; have hfz5_2 := blk_frozen BK209.out 2) | ((with_reducible refine gate_callee (f := 23) rfl ?_); refine gL_ (some 11) Tryd.func23 #[.agg #[.int .i64 a0_0, .int .i64 a0_1, .slice A0_2 l0_2.length c0_2], .int .i64 1048576] ?_; (with_reducible refine (laws_szRule.calls a0_0 a0_1 _ _ l0_2 1048576 t210 _ ?side1 ?side2 A2.out).mono ?_); (case side1 => exact ck_ (Kd.C_below HR0_2.out HB.out)); (case side2 => exact HC0_2.out); rintro e w6 ⟨rfl, hb⟩; refine ⟨_, rfl, ?_⟩; have n0_ := Aside0.mk (bb_ BK209.out hb); have n1_ := Aside0.mk (below_step (bk_ HB.out) hb); clear BK209 HB; have BK209 := n0_; have HB := n1_; clear n0_ n1_; (try clear hb); (try clear hb2); (try clear hk); (try clear hi)))
   go_ret; exact ⟨by first | rfl | (simp [errW_none, errW_some] <;> rfl) | (simp [*, errW_none, errW_some] <;> rfl), bk_ HB.out⟩
 · rw [if_neg c3] at H; have c3b0 : decide (t210 < 0) = false := decide_eq_false c3; clear c3; replace H := Option.bind_eq_some_iff.mp H; obtain ⟨⟨t211, t212, t213⟩, A70, H⟩ := H; replace H : ((spec_RuleText.f k t211 t212 t213).bind fun bt216 => ((laws_toRule.f k a0_0 a0_1 l0_2).bind fun bt218 => ((impl_RuleText.f k bt218.1 bt218.2.1 bt218.2.2).bind fun bt224 => (if bt224.1.toList = bt216.1.toList then (laws_FnExactRuleText.j0 k (bt224.2 != bt216.2) a0_0 a0_1 l0_2 bt218.1 bt218.2.1 bt218.2.2) else (laws_FnExactRuleText.j0 k true a0_0 a0_1 l0_2 bt218.1 bt218.2.1 bt218.2.2))))) = some r := H; have A7 := Aside0.mk A70; clear A70; replace H := Option.bind_eq_some_iff.mp H; obtain ⟨⟨t216, t217⟩, A80, H⟩ := H; replace H : ((laws_toRule.f k a0_0 a0_1 l0_2).bind fun bt218 => ((impl_RuleText.f k bt218.1 bt218.2.1 bt218.2.2).bind fun bt224 => (if bt224.1.toList = t216.toList then (laws_FnExactRuleText.j0 k (bt224.2 != t217) a0_0 a0_1 l0_2 bt218.1 bt218.2.1 bt218.2.2) else (laws_FnExactRuleText.j0 k true a0_0 a0_1 l0_2 bt218.1 bt218.2.1 bt218.2.2)))) = some r := H; have A8 := Aside0.mk A80; clear A80; replace H := Option.bind_eq_some_iff.mp H; obtain ⟨⟨t218, t219, t220⟩, A90, H⟩ := H; replace H : ((impl_RuleText.f k t218 t219 t220).bind fun bt224 => (if bt224.1.toList = t216.toList then (laws_FnExactRuleText.j0 k (bt224.2 != t217) a0_0 a0_1 l0_2 t218 t219 t220) else (laws_FnExactRuleText.j0 k true a0_0 a0_1 l0_2 t218 t219 t220))) = some r := H; have A9 := Aside0.mk A90; clear A90; replace H := Option.bind_eq_some_iff.mp H
   obtain ⟨⟨t224, t225⟩, A100, H⟩ := H; replace H : (if t224.toList = t216.toList then (laws_FnExactRuleText.j0 k (t225 != t217) a0_0 a0_1 l0_2 t218 t219 t220) else (laws_FnExactRuleText.j0 k true a0_0 a0_1 l0_2 t218 t219 t220)) = some r := H; have A10 := Aside0.mk A100; clear A100; have HC11 := Aside0.mk H; clear H; go_enter Tryd.func6, Tryd.ntmps6; go_upto_region 8 with (first | ((with_reducible refine gate_dst (N := 1) rfl ?_); refine box_event ?hg (N := 1) ?hd (cs := #[.int .i64 a0_0, .int .i64 a0_1, .slice A0_2 l0_2.length c0_2]) (t := 42) ?hr ?_; (case hd => rfl); (case hg => rfl); (case hr => first | (go_simp; done) | (go_simp; rfl)); intro gb209 hg w12 hbox hb; have n0_ := Aside0.mk (below_step (bk_ HB.out) hb); have n1_ := Aside0.mk (hbox); have n2_ := Aside0.mk ((by rw [hg]; exact (below_size (bk_ HB.out)) : w.heap.size ≤ gb209)); have n3_ := Aside0.mk ((by rw [hg]; exact (below_size (bk_ HB.out)) : w.heap.size ≤ gb209)); clear HB; have HB := n0_; have BK209 := n1_; have GW209 := n2_; have GE209 := n3_; clear n0_ n1_ n2_ n3_ hb hbox hg; have hcz13_0 := bc_ BK209.out 0 (.int .i64 a0_0); have hcz13_1 := bc_ BK209.out 1 (.int .i64 a0_1); have hcz13_2 := bc_ BK209.out 2 (.slice A0_2 l0_2.length c0_2); have hfz13_0 := blk_frozen BK209.out 0; have hfz13_1 := blk_frozen BK209.out 1; have hfz13_2 := blk_frozen BK209.out 2) | ((with_reducible refine gate_callee (f := 23) rfl ?_); refine gL_ (some 11) Tryd.func23 #[.agg #[.int .i64 a0_0, .int .i64 a0_1, .slice A0_2 l0_2.length c0_2], .int .i64 1048576] ?_; (with_reducible refine (laws_szRule.calls a0_0 a0_1 _ _ l0_2 1048576 t210 _ ?side1 ?side2 A2.out).mono ?_); (case side1 => exact ck_ (Kd.C_below HR0_2.out HB.out)); (case side2 => exact HC0_2.out); rintro e w14 ⟨rfl, hb⟩; refine ⟨_, rfl, ?_⟩; have n0_ := Aside0.mk (bb_ BK209.out hb); have n1_ := Aside0.mk (below_step (bk_ HB.out) hb); clear BK209 HB; have BK209 := n0_; have HB := n1_; clear n0_ n1_; (try clear hb); (try clear hb2); (try clear hk); (try clear hi); have hcz15_0 := bc_ BK209.out 0 (.int .i64 a0_0); have hcz15_1 := bc_ BK209.out 1 (.int .i64 a0_1); have hcz15_2 := bc_ BK209.out 2 (.slice A0_2 l0_2.length c0_2); have hfz15_0 := blk_frozen BK209.out 0; have hfz15_1 := blk_frozen BK209.out 1; have hfz15_2 := blk_frozen BK209.out 2) | ((with_reducible refine gate_callee (f := 25) rfl ?_); refine gL_ (some 16) Tryd.func25 #[.agg #[.int .i64 a0_0, .int .i64 a0_1, .slice A0_2 l0_2.length c0_2]] ?_; (with_reducible refine (laws_toRule.calls k a0_0 a0_1 _ _ l0_2 t211 t212 t213 _ ?side1 ?side2 A7.out).mono ?_); (case side1 => exact ck_ (Kd.C_below HR0_2.out HB.out)); (case side2 => exact HC0_2.out); rintro e w16 ⟨v214, rfl, ho0, hb⟩; refine ⟨_, rfl, ?_⟩; have n0_ := Aside0.mk (Kd.R_lower ho0 (below_size (bk_ HB.out))); have n1_ := Aside0.mk (bb_ BK209.out hb); have n2_ := Aside0.mk (below_step (bk_ HB.out) hb); clear BK209 HB; have HO215 := n0_; have BK209 := n1_; have HB := n2_; clear n0_ n1_ n2_; (try clear hb); (try clear hb2); (try clear hk); (try clear hi); (try clear ho0); obtain ⟨Ao17, co17, eo17⟩ := Kd.R_slice HO215.out; subst eo17) | ((with_reducible refine gate_callee (f := 24) rfl ?_); refine gL_ (some 17) Tryd.func24 #[.agg #[.int .i64 t211, .int .i64 t212, .slice Ao17 t213.length co17]] ?_; (with_reducible refine (spec_RuleText.calls k t211 t212 _ _ t213 t216 t217 _ ?side1 ?side2 A8.out).mono ?_); (case side1 => exact ck_ (Kd.R_reads' HO215.out).2.2); (case side2 => exact (Kd.R_reads' HO215.out).2.1); rintro e w18 ⟨rfl, hb⟩; refine ⟨_, rfl, ?_⟩; have n0_ := Aside0.mk (Kd.R_below (rk_ HO215.out) hb); have n1_ := Aside0.mk (bb_ BK209.out hb); have n2_ := Aside0.mk (below_step (bk_ HB.out) hb); clear HO215 BK209 HB; have HO215 := n0_; have BK209 := n1_; have HB := n2_; clear n0_ n1_ n2_; (try clear hb); (try clear hb2); (try clear hk); (try clear hi); have hcz19_0 := bc_ BK209.out 0 (.int .i64 a0_0); have hcz19_1 := bc_ BK209.out 1 (.int .i64 a0_1); have hcz19_2 := bc_ BK209.out 2 (.slice A0_2 l0_2.length c0_2); have hfz19_0 := blk_frozen BK209.out 0; have hfz19_1 := blk_frozen BK209.out 1; have hfz19_2 := blk_frozen BK209.out 2) | ((with_reducible refine gate_callee (f := 25) rfl ?_); refine gL_ (some 21) Tryd.func25 #[.agg #[.int .i64 a0_0, .int .i64 a0_1, .slice A0_2 l0_2.length c0_2]] ?_; (with_reducible refine (laws_toRule.calls k a0_0 a0_1 _ _ l0_2 t218 t219 t220 _ ?side1 ?side2 A9.out).mono ?_); (case side1 => exact ck_ (Kd.C_below HR0_2.out HB.out)); (case side2 => exact HC0_2.out); rintro e w20 ⟨v221, rfl, ho0, hb⟩; refine ⟨_, rfl, ?_⟩; have n0_ := Aside0.mk (Kd.R_elder' (rk_ HO215.out) (Kd.R_base ho0) hb); have n1_ := Aside0.mk (Kd.R_lower (Kd.R_new' ho0 (Kd.R_lt (rk_ HO215.out))) (below_size (bk_ HB.out))); have n2_ := Aside0.mk (bb_ BK209.out hb); have n3_ := Aside0.mk (below_step (bk_ HB.out) hb); clear HO215 BK209 HB; have HO215 := n0_; have HO222 := n1_; have BK209 := n2_; have HB := n3_; clear n0_ n1_ n2_ n3_; (try clear hb); (try clear hb2); (try clear hk); (try clear hi); (try clear ho0)) | ((with_reducible refine gate_dst (N := 6) rfl ?_); refine box_event ?hg (N := 6) ?hd (cs := #[.int .i64 0, .int .i64 0, .slice none 0 0]) (t := 45) ?hr ?_; (case hd => rfl); (case hg => rfl); (case hr => first | (go_simp; done) | (go_simp; rfl)); intro gb223 hg w21 hbox hb; have n0_ := Aside0.mk (Kd.R_below (rk_ HO215.out) hb); have n1_ := Aside0.mk (Kd.R_below (rk_ HO222.out) hb); have n2_ := Aside0.mk (bb_ BK209.out hb); have n3_ := Aside0.mk (below_step (bk_ HB.out) hb); have n4_ := Aside0.mk (hbox); have n5_ := Aside0.mk ((by rw [hg]; exact (below_size (bk_ HB.out)) : w.heap.size ≤ gb223)); have n6_ := Aside0.mk ((by rw [hg]; exact (below_size (bk_ HB.out)) : w.heap.size ≤ gb223)); have n7_ := Aside0.mk ((by rw [hg]; exact Nat.ne_of_lt (bl_ BK209.out) : gb209 ≠ gb223)); have n8_ := Aside0.mk ((by rw [hg]; exact Nat.ne_of_gt (bl_ BK209.out) : gb223 ≠ gb209)); clear HO215 HO222 BK209 HB; have HO215 := n0_; have HO222 := n1_; have BK209 := n2_; have HB := n3_; have BK223 := n4_; have GW223 := n5_; have GE223 := n6_; have NB209_223 := n7_; have NB223_209 := n8_; clear n0_ n1_ n2_ n3_ n4_ n5_ n6_ n7_ n8_ hb hbox hg; have hnb22 := NB223_209.out; have hnc22 := NB209_223.out; have hcz23_0 := bc_ BK223.out 0 (.int .i64 0); have hcz23_1 := bc_ BK223.out 1 (.int .i64 0); have hcz23_2 := bc_ BK223.out 2 (.slice none 0 0); have hfz23_0 := blk_frozen BK223.out 0; have hfz23_1 := blk_frozen BK223.out 1; have hfz23_2 := blk_frozen BK223.out 2; obtain ⟨Ao24, co24, eo24⟩ := Kd.R_slice HO222.out; subst eo24) | ((with_reducible refine gate_callee (f := 26) rfl ?_); refine gL_ (some 24) Tryd.func26 #[.agg #[.int .i64 t218, .int .i64 t219, .slice Ao24 t220.length co24]] ?_; (with_reducible refine (impl_RuleText.calls k t218 t219 _ _ t220 t224 t225 _ ?side1 ?side2 A10.out).mono ?_); (case side1 => refine (Kd.R_reads' (e := 2) (base := w.heap.size) (ok := fun k_ => (True ∧ some k_ ≠ (.slice Ao17 t213.length co17 : Value).ownBlock)) (n := t220.length) (c := co24) ?_).2.2; exact (rx_ HO222.out BK223.out)); (case side2 => exact (Kd.R_reads' HO222.out).2.1); rintro e w25 ⟨rfl, hb⟩; refine ⟨_, rfl, ?_⟩; have n0_ := Aside0.mk (Kd.R_below (rx_ HO215.out BK223.out) hb); have n1_ := Aside0.mk (Kd.R_below (rx_ HO222.out BK223.out) hb); have n2_ := Aside0.mk (blk_below (g := gb209) (o := .cells #[.int .i64 a0_0, .int .i64 a0_1, .slice A0_2 l0_2.length c0_2] 42 (0, 0)) (pf_ BK209.out) hb); have n3_ := Aside0.mk (blk_below (g := gb223) (o := .cells #[.int .i64 t218, .int .i64 t219, .slice Ao24 t220.length co24] 45 (0, 0)) (by (with_reducible repeat (first | refine blk_drewN ?_ _ | refine blk_drew ?_ | refine blk_alloc ?_ _)); refine blk_put (cs := #[.int .i64 t218, .int .i64 t219, .slice none 0 0]) ?_ 2 _ rfl; (with_reducible repeat (first | refine blk_drewN ?_ _ | refine blk_drew ?_ | refine blk_alloc ?_ _)); refine blk_put (cs := #[.int .i64 t218, .int .i64 0, .slice none 0 0]) ?_ 1 _ rfl; (with_reducible repeat (first | refine blk_drewN ?_ _ | refine blk_drew ?_ | refine blk_alloc ?_ _)); refine blk_put (cs := #[.int .i64 0, .int .i64 0, .slice none 0 0]) ?_ 0 _ rfl; (with_reducible repeat (first | refine blk_drewN ?_ _ | refine blk_drew ?_ | refine blk_alloc ?_ _)); exact BK223.out) hb); have n4_ := Aside0.mk (below_step (bk_ HB.out) hb); clear HO215 HO222 BK209 BK223 HB; have HO215 := n0_; have HO222 := n1_; have BK209 := n2_; have BK223 := n3_; have HB := n4_; clear n0_ n1_ n2_ n3_ n4_; (try clear hb); (try clear hb2); (try clear hk); (try clear hi)))
   (try simp only [Act.put, List.setIfInBounds_toArray, List.set_cons_zero, List.set_cons_succ]); go_cut [34] (fun v34 wc => ∃ (kq : Nat) (x34_10 : Bool), v34 = .bool x34_10 ∧ Aside0 (laws_FnExactRuleText.j0 kq x34_10 a0_0 a0_1 l0_2 t218 t219 t220 = some r) ∧ Aside0 (kq ≤ k) ∧ Aside0 (Kd.R (Kd.int .i64) 2 wc w.heap.size (fun _ => True) (.slice Ao24 t220.length co24) t220) ∧ Aside0 (wc.heap[gb209]? = some (.cells #[.int .i64 a0_0, .int .i64 a0_1, (.slice A0_2 l0_2.length c0_2)] 42 (0, 0))) ∧ Aside0 (wc.heap[gb223]? = some (.cells #[.int .i64 t218, .int .i64 t219, (.slice Ao24 t220.length co24)] 45 (0, 0))) ∧ Aside0 (Below w.heap.size w wc)); case first =>
    have H := HC11.out; clear HC11; by_cases c26 : t224.toList = t216.toList
    · rw [if_pos c26] at H; have c26b0 : (t224.toList == t216.toList) = true := beq_iff_eq.mpr c26; have c26b1 : (t224.toList != t216.toList) = false := bne_eq_false_iff_eq.mpr c26; clear c26; (first | rw [c26b0] | (simp only [i64_w, i32_w]; rw [c26b0]) | skip); have H' := Aside0.mk H; clear H; go_wp2; go_meet; case rel => exact ⟨_, ((t225 != t217)), (by first | rfl | (simp; done) | (simp [i64_w, i32_w]; done) | (simp [*]; done) | (simp [*, i64_w, i32_w]; done)), H', ⟨by first | omega | exact Nat.le_refl _⟩, ⟨by (with_reducible repeat (first | apply Kd.R_alloc | apply Kd.R_drewN | apply Kd.R_drew)); exact Kd.R_mono HO222.out (fun _ hk => trivial)⟩, ⟨pk_ BK209.out⟩, ⟨pk_ BK223.out⟩, ⟨bk_ HB.out⟩⟩
    · rw [if_neg c26] at H; have c26b0 : (t224.toList == t216.toList) = false := beq_eq_false_iff_ne.mpr c26; have c26b1 : (t224.toList != t216.toList) = true := bne_iff_ne.mpr c26; (first | rw [c26b0] | (simp only [i64_w, i32_w]; rw [c26b0]) | skip); have H' := Aside0.mk H; clear H; go_wp2; go_meet; case rel => exact ⟨_, (true), (by first | rfl | (simp; done) | (simp [i64_w, i32_w]; done) | (simp [*]; done) | (simp [*, i64_w, i32_w]; done)), H', ⟨by first | omega | exact Nat.le_refl _⟩, ⟨by (with_reducible repeat (first | apply Kd.R_alloc | apply Kd.R_drewN | apply Kd.R_drew)); exact Kd.R_mono HO222.out (fun _ hk => trivial)⟩, ⟨pk_ BK209.out⟩, ⟨pk_ BK223.out⟩, ⟨bk_ HB.out⟩⟩
   case rest =>
    clear HC11; (try clear c2); (try clear p2); (try clear c3); (try clear c3b0); (try clear c6); (try clear c22); (try clear c23); (try clear c24); (try clear c25); (try clear c26); (try clear c26b0); (try clear c26b1); (try clear hcz13_0); (try clear hcz13_1); (try clear hcz13_2); (try clear hcz15_0); (try clear hcz15_1); (try clear hcz15_2); (try clear hcz19_0); (try clear hcz19_1); (try clear hcz19_2); (try clear hcz23_0); (try clear hcz23_1); (try clear hcz23_2); (try clear hcz5_0); (try clear hcz5_1); (try clear hcz5_2); (try clear hfz13_0); (try clear hfz13_1); (try clear hfz13_2); (try clear hfz15_0); (try clear hfz15_1); (try clear hfz15_2); (try clear hfz19_0); (try clear hfz19_1); (try clear hfz19_2); (try clear hfz23_0); (try clear hfz23_1); (try clear hfz23_2); (try clear hfz5_0); (try clear hfz5_1); (try clear hfz5_2); obtain ⟨kq, x34_10, rfl, HA, HJ10, HO_224002, BK209, BK223, HB⟩ := hcut; cases kq with
    | zero => exact absurd HA.out (by simp [laws_FnExactRuleText.j0])
    | succ kj10 =>
     have H := HA.out; clear HA; simp only [laws_FnExactRuleText.j0] at H; by_cases c27 : x34_10 = true
     · subst c27; have H1 : (some false) = some r := by rw [if_pos rfl] at H; exact H
       clear H; have H := H1; clear H1; exact absurd (Option.some.inj H) (by rw [hr_]; decide)
     · replace c27 := Bool.eq_false_iff.mpr c27; subst c27; have H1 : ((laws_toRule.f kj10 a0_0 a0_1 l0_2).bind fun bt226 => ((laws_eqRule.f kj10 t218 t219 t220 bt226.1 bt226.2.1 bt226.2.2).bind fun t231 => (if t231 = true then (some true) else (some false)))) = some r := by rw [if_neg (show ¬ (false = true) by decide)] at H; exact H
       clear H; have H := H1; clear H1; replace H := Option.bind_eq_some_iff.mp H; obtain ⟨⟨t226, t227, t228⟩, A280, H⟩ := H; replace H : ((laws_eqRule.f kj10 t218 t219 t220 t226 t227 t228).bind fun t231 => (if t231 = true then (some true) else (some false))) = some r := H; have A28 := Aside0.mk A280; clear A280; replace H := Option.bind_eq_some_iff.mp H; obtain ⟨t231, A290, H⟩ := H; replace H : (if t231 = true then (some true) else (some false)) = some r := H; have A29 := Aside0.mk A290; clear A290; by_cases c30 : t231 = true
       · subst c30; have H1 : (some true) = some r := by rw [if_pos rfl] at H; exact H
         clear H; have H := H1; clear H1; obtain rfl := Option.some.inj H; (try go_wp2); have n0_ := Aside0.mk (Kd.R_drew HO_224002.out); have n1_ := Aside0.mk (blk_drew BK209.out); have n2_ := Aside0.mk (blk_drew BK223.out); have n3_ := Aside0.mk (below_drew1 HB.out); clear HO_224002 BK209 BK223 HB; have HO_224002 := n0_; have BK209 := n1_; have BK223 := n2_; have HB := n3_; clear n0_ n1_ n2_ n3_; refine start_ (n := 5) (S := fun w' => w'.cell? ⟨gb223, 0, none⟩ = some (.int .i64 t218) ∧ w'.cell? ⟨gb223, 1, none⟩ = some (.int .i64 t219) ∧ w'.cell? ⟨gb223, 2, none⟩ = some (.slice Ao24 t220.length co24) ∧ w'.cell? ⟨gb209, 0, none⟩ = some (.int .i64 a0_0) ∧ w'.cell? ⟨gb209, 1, none⟩ = some (.int .i64 a0_1) ∧ w'.cell? ⟨gb209, 2, none⟩ = some (.slice A0_2 l0_2.length c0_2)) (ds := []) #[false, false, false, false, false] (by kernel_rfl) rfl rfl ⟨(blk_cell BK223.out 0).trans rfl, (blk_cell BK223.out 1).trans rfl, (blk_cell BK223.out 2).trans rfl, (blk_cell BK209.out 0).trans rfl, (blk_cell BK209.out 1).trans rfl, (blk_cell BK209.out 2).trans rfl⟩ (fun hHeld => ?_); generalize wc.drew = w31 at HO_224002 BK209 BK223 HB hHeld ⊢; refine take_ (i := 0) (N := some 35) (v := ?_) (a' := ?_) #[true, false, false, false, false] rfl rfl (by kernel_rfl) (fun _ _ _ h => h) (Or.inl ⟨by rfl, ?_⟩) hHeld ?_ ?_; rotate_left
         · rintro w' ⟨s0, s1, s2, s3, s4, s5⟩; go_simp; (with_reducible rfl)
         rotate_left
         · simp only [Act.put, List.setIfInBounds_toArray, List.set_cons_zero, List.set_cons_succ, i64_w, i32_w]; rfl
         refine take_ (i := 1) (N := some 36) (v := ?_) (a' := ?_) #[true, true, false, false, false] rfl rfl (by kernel_rfl) (fun _ _ _ h => h) (Or.inl ⟨by rfl, ?_⟩) hHeld ?_ ?_; rotate_left
         · rintro w' ⟨s0, s1, s2, s3, s4, s5⟩; go_simp; (with_reducible rfl)
         rotate_left
         · simp only [Act.put, List.setIfInBounds_toArray, List.set_cons_zero, List.set_cons_succ, i64_w, i32_w]; rfl
         refine one_ (i := 2) (N := some 37) #[true, true, true, false, false] rfl rfl (by kernel_rfl) (by decide) (fun K hK => ?_); refine gO_ Tryd.func25 #[.agg #[.int .i64 a0_0, .int .i64 a0_1, .slice A0_2 l0_2.length c0_2]] ?_; (with_reducible refine (laws_toRule.calls kj10 a0_0 a0_1 _ _ l0_2 t226 t227 t228 _ ?side1 ?side2 A28.out).mono ?_); (case side1 => exact ck_ (Kd.C_below HR0_2.out HB.out)); (case side2 => exact HC0_2.out); rintro e w32 ⟨v229, rfl, ho0, hb⟩; refine ⟨_, rfl, ?_⟩; have n0_ := Aside0.mk (Kd.R_elder' (rk_ HO_224002.out) (Kd.R_base ho0) hb); have n1_ := Aside0.mk (Kd.R_lower (Kd.R_new' ho0 (Kd.R_lt (rk_ HO_224002.out))) (below_size (bk_ HB.out))); have n2_ := Aside0.mk (bb_ BK209.out hb); have n3_ := Aside0.mk (bb_ BK223.out hb); have n4_ := Aside0.mk (below_step (bk_ HB.out) hb); clear HO_224002 BK209 BK223 HB; have HO_224002 := n0_; have HO230 := n1_; have BK209 := n2_; have BK223 := n3_; have HB := n4_; clear n0_ n1_ n2_ n3_ n4_; (try clear hb); (try clear hb2); (try clear hk); (try clear hi); (try clear ho0); obtain ⟨Ao33, co33, eo33⟩ := Kd.R_slice HO230.out; (first | subst eo33 | (injection eo33 with f1_ f2_ f3_; have f4_ := f1_.symm; have f5_ := f3_.symm; clear f1_ f2_ f3_; subst f4_; subst f5_)); refine hK.out _ _ ⟨(blk_cell BK223.out 0).trans rfl, (blk_cell BK223.out 1).trans rfl, (blk_cell BK223.out 2).trans rfl, (blk_cell BK209.out 0).trans rfl, (blk_cell BK209.out 1).trans rfl, (blk_cell BK209.out 2).trans rfl⟩ (fun hHeld => ?_); clear hK K; refine norm_ (a' := ?_) ?_ ?_
         rotate_left
         · show Act.put _ (some 37) _ = _
           simp only [Act.put, List.setIfInBounds_toArray, List.set_cons_zero, List.set_cons_succ, i64_w, i32_w]; rfl
         refine one_ (i := 3) (N := some 38) #[true, true, true, true, false] rfl rfl (by kernel_rfl) (by decide) (fun K hK => ?_); refine gO_ Tryd.func27 #[.agg #[.int .i64 t218, .int .i64 t219, .slice Ao24 t220.length co24], .agg #[.int .i64 t226, .int .i64 t227, .slice Ao33 t228.length co33]] ?_; (with_reducible refine (laws_eqRule.calls kj10 t218 t219 _ _ t220 t226 t227 _ _ t228 true _ ?side1 ?side2 ?side3 ?side4 A29.out).mono ?_); (case side1 => exact ck_ (Kd.R_reads' HO_224002.out).2.2); (case side2 => exact (Kd.R_reads' HO_224002.out).2.1); (case side3 => exact ck_ (Kd.R_reads' HO230.out).2.2); (case side4 => exact (Kd.R_reads' HO230.out).2.1); rintro e w34 ⟨rfl, hb⟩; refine ⟨_, rfl, ?_⟩; have n0_ := Aside0.mk (Kd.R_below (rk_ HO_224002.out) hb); have n1_ := Aside0.mk (Kd.R_below (rk_ HO230.out) hb); have n2_ := Aside0.mk (bb_ BK209.out hb); have n3_ := Aside0.mk (bb_ BK223.out hb); have n4_ := Aside0.mk (below_step (bk_ HB.out) hb); clear HO_224002 HO230 BK209 BK223 HB; have HO_224002 := n0_; have HO230 := n1_; have BK209 := n2_; have BK223 := n3_; have HB := n4_; clear n0_ n1_ n2_ n3_ n4_; (try clear hb); (try clear hb2); (try clear hk); (try clear hi); refine hK.out _ _ ⟨(blk_cell BK223.out 0).trans rfl, (blk_cell BK223.out 1).trans rfl, (blk_cell BK223.out 2).trans rfl, (blk_cell BK209.out 0).trans rfl, (blk_cell BK209.out 1).trans rfl, (blk_cell BK209.out 2).trans rfl⟩ (fun hHeld => ?_); clear hK K; refine norm_ (a' := ?_) ?_ ?_; rotate_left
         · show Act.put _ (some 38) _ = _
           simp only [Act.put, List.setIfInBounds_toArray, List.set_cons_zero, List.set_cons_succ, i64_w, i32_w]; rfl
         refine pure_ (i := 4) (N := some 39) (v := ?_) (a' := ?_) #[true, true, true, true, true] rfl rfl (by kernel_rfl) (fun _ _ _ h => h) (Or.inl ⟨by rfl, ?_⟩) ?_ ?_; rotate_left
         · intro w'; go_simp; (with_reducible rfl)
         rotate_left
         · simp only [Act.put, List.setIfInBounds_toArray, List.set_cons_zero, List.set_cons_succ, i64_w, i32_w]; rfl
         refine done_ (by kernel_rfl) ?_; (try go_wp2); go_ret; exact ⟨by first | rfl | (simp [errW_none, errW_some] <;> rfl) | (simp [*, errW_none, errW_some] <;> rfl), bk_ HB.out⟩
       · replace c30 := Bool.eq_false_iff.mpr c30; subst c30; have H1 : (some false) = some r := by rw [if_neg (show ¬ (false = true) by decide)] at H; exact H
         clear H; have H := H1; clear H1; exact absurd (Option.some.inj H) (by rw [hr_]; decide)

/-- THE ONE PURE STATEMENT of laws_FnExactRuleText. -/
def laws_FnExactRuleText.Pure : Prop := ∀ (a0_0 : Int) (a0_1 : Int) (l0_2 : List Int), ((Lit.int .i64 a0_0).wf = true) → ((Lit.int .i64 a0_1).wf = true) → ((∀ x0_ ∈ l0_2, (Lit.int .i64 x0_).wf = true) ∧ l0_2.length * 8 ≤ 140737488351232 ∧ l0_2.length ≤ 9223372036854775807) → ∃ k, laws_FnExactRuleText.f k a0_0 a0_1 l0_2 = some true
theorem laws_FnExactRuleText.walk (P : laws_FnExactRuleText.Pure) (a0_0 : Int) (a0_1 : Int) (A0_2 : Option Addr) (c0_2 : Nat) (l0_2 : List Int) (w : World) (hr0_2 : Kd.C (Kd.int .i64) w A0_2 l0_2.length l0_2) (hc0_2 : l0_2.length ≤ c0_2) (G0_0 : (Lit.int .i64 a0_0).wf = true) (G0_1 : (Lit.int .i64 a0_1).wf = true) (G0_2 : (∀ x0_ ∈ l0_2, (Lit.int .i64 x0_).wf = true) ∧ l0_2.length * 8 ≤ 140737488351232 ∧ l0_2.length ≤ 9223372036854775807) :
    Calls Tryd.prog 6 #[.agg #[.int .i64 a0_0, .int .i64 a0_1, .slice A0_2 l0_2.length c0_2]] w fun e w' => e = .returned (.bool true) ∧ Below w.heap.size w w' := by
 obtain ⟨k, h⟩ := P a0_0 a0_1 l0_2 G0_0 G0_1 G0_2; refine (laws_FnExactRuleText.calls k a0_0 a0_1 A0_2 c0_2 l0_2 true w hr0_2 hc0_2 rfl h).mono ?_; rintro e w' ⟨rfl, hd⟩; exact ⟨rfl, hd⟩

end Go.Proofs.YtnkmojmcdcjkmaaDoor.PFnExactRuleText

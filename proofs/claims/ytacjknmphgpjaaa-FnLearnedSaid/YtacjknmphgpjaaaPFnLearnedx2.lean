-- Written by a program of this session (its own print).
import Derived.Test.YtacjknmphgpjaaaPFnLearnedx0
import Derived.Test.YtacjknmphgpjaaaPFnLearnedx1
namespace Go.Proofs.Ytacjknmphgpjaaa.PFnLearned
open Go.RowKit Go.Proofs.YtacjknmphgpjaaaW.PrintWords Go.Proofs.YtacjknmphgpjaaaW.PrintLast Go.Proofs.YtacjknmphgpjaaaW.PrintMore
attribute [local go_sem] max2_int min2_int max_two min_two max_three min_three max_four min_four   -- for this text's walks alone
set_option linter.unusedVariables false
set_option linter.unusedSimpArgs false

/-! ### spec_LeastReach: function 39 -/
def spec_LeastReach.l0 : Nat → Int → List (List Int) → List (List Int) → Int → Option (Int × Bool)
  | 0, _, _, _, _ => none
  | k + 1, x0, x1, x2, x8 => if x8 ≤ 2 then ((spec_l07Rings.f k x0 x8 x1 x2).bind fun t159 => (if t159 = true then ((spec_l07Learn.f k x0 x8 x1 x2).bind fun bt160 => (if bt160.2 = true then (some (x8, true)) else (spec_LeastReach.l0 k x0 x1 x2 (wrap64 (x8 + 1))))) else (some (0, false)))) else (some (0, false))
def spec_LeastReach.f (k : Nat) (a0 : Int) (l1 : List (List Int)) (l2 : List (List Int)) : Option (Int × Bool) := spec_LeastReach.l0 k a0 l1 l2 0
theorem spec_LeastReach.mono_l : ∀ k, (∀ y0 y1 y2 y3, LeO (spec_LeastReach.l0 k y0 y1 y2 y3) (spec_LeastReach.l0 (k + 1) y0 y1 y2 y3))
  | 0 => fun _ _ _ _ r h => by simp [spec_LeastReach.l0] at h
  | k + 1 => by
    have ih0 := spec_LeastReach.mono_l k
    · intro y0 y1 y2 y3
      unfold spec_LeastReach.l0
      repeat' first
      | (with_reducible exact ih0 _ _ _ _)
      | (with_reducible exact spec_l07Learn.mono _ _ _ _ _)
      | (with_reducible exact spec_l07Rings.mono _ _ _ _ _)
      | (with_reducible exact LeO.refl _)
      | (with_reducible exact LeO.none _)
      | (with_reducible refine LeO.ite ?_ ?_)
      | (with_reducible refine LeO.bind ?_ (fun _ => ?_))
      | exact ih0 _ _ _ _
      | exact spec_l07Learn.mono _ _ _ _ _
      | exact spec_l07Rings.mono _ _ _ _ _
      | exact LeO.none _
      | refine LeO.ite ?_ ?_
      | refine LeO.bind ?_ (fun _ => ?_)
theorem spec_LeastReach.mono : ∀ a0 a1 a2 k, LeO (spec_LeastReach.f k a0 a1 a2) (spec_LeastReach.f (k + 1) a0 a1 a2) := by
 intro a0 a1 a2 k; have ih0 := spec_LeastReach.mono_l k; unfold spec_LeastReach.f; repeat' first
  | (with_reducible exact ih0 _ _ _ _)
  | (with_reducible exact spec_l07Learn.mono _ _ _ _ _)
  | (with_reducible exact spec_l07Rings.mono _ _ _ _ _)
  | (with_reducible exact LeO.refl _)
  | (with_reducible exact LeO.none _)
  | (with_reducible refine LeO.ite ?_ ?_)
  | (with_reducible refine LeO.bind ?_ (fun _ => ?_))
  | exact ih0 _ _ _ _
  | exact spec_l07Learn.mono _ _ _ _ _
  | exact spec_l07Rings.mono _ _ _ _ _
  | exact LeO.none _
  | refine LeO.ite ?_ ?_
  | refine LeO.bind ?_ (fun _ => ?_)
set_option maxHeartbeats 8000000 in
set_option maxRecDepth 100000 in
theorem spec_LeastReach.calls (k : Nat) (a0 : Int) (A1 : Option Addr) (c1 : Nat) (l1 : List (List Int)) (A2 : Option Addr) (c2 : Nat) (l2 : List (List Int)) (r1 : Int) (r2 : Bool) (w : World) (hr1 : Kd.C (Kd.slice 2 (Kd.int .i64)) w A1 l1.length l1) (hc1 : l1.length ≤ c1) (hr2 : Kd.C (Kd.slice 2 (Kd.int .i64)) w A2 l2.length l2) (hc2 : l2.length ≤ c2) (h : spec_LeastReach.f k a0 l1 l2 = some (r1, r2)) :
    Calls Try.prog 39 #[.int .i64 a0, .slice A1 l1.length c1, .slice A2 l2.length c2] w fun e w' => e = .returned (.tuple #[.int .i64 r1, .bool r2]) ∧ Below w.heap.size w w' := by
 have HR1 := Aside0.mk hr1; have HC1 := Aside0.mk hc1; clear hr1 hc1; have HR2 := Aside0.mk hr2; have HC2 := Aside0.mk hc2; clear hr2 hc2; have HB := Aside0.mk (Below.refl w.heap.size w); have H : (spec_LeastReach.l0 k a0 l1 l2 0) = some (r1, r2) := h; clear h; have H' := Aside0.mk H; clear H; go_enter Try.func39, Try.ntmps39; go_wp2; go_loopg [8] k (fun kq v8 w' => ∃ (x8_1 : Int), v8 = .int .i64 x8_1 ∧ Aside0 (spec_LeastReach.l0 kq a0 l1 l2 x8_1 = some (r1, r2)) ∧ Aside0 (kq ≤ k) ∧ Aside0 (Below w.heap.size w w')); case atStart => exact ⟨(0), (by first | rfl | (simp; done) | (simp [i64_w, i32_w]; done) | (simp [*]; done) | (simp [*, i64_w, i32_w]; done)), H', ⟨Nat.le_refl _⟩, ⟨bk_ HB.out⟩⟩
 case round =>
  clear H'; (try clear c1); (try clear c2); (try clear p2); (try clear c3); obtain ⟨x8_1, rfl, HA, HK1, HB⟩ := hrel; cases gk with
  | zero => exact absurd HA.out (by simp [spec_LeastReach.l0])
  | succ k1 =>
   have H := HA.out; clear HA; simp only [spec_LeastReach.l0] at H; by_cases c4 : x8_1 ≤ 2
   · rw [if_pos c4] at H; have c4b0 : decide (x8_1 ≤ 2) = true := decide_eq_true c4; clear c4; replace H := Option.bind_eq_some_iff.mp H; obtain ⟨t159, A50, H⟩ := H; replace H : (if t159 = true then ((spec_l07Learn.f k1 a0 x8_1 l1 l2).bind fun bt160 => (if bt160.2 = true then (some (x8_1, true)) else (spec_LeastReach.l0 k1 a0 l1 l2 (wrap64 (x8_1 + 1))))) else (some (0, false))) = some (r1, r2) := H; have A5 := Aside0.mk A50; clear A50; by_cases c6 : t159 = true
     · subst c6; have H1 : ((spec_l07Learn.f k1 a0 x8_1 l1 l2).bind fun bt160 => (if bt160.2 = true then (some (x8_1, true)) else (spec_LeastReach.l0 k1 a0 l1 l2 (wrap64 (x8_1 + 1))))) = some (r1, r2) := by rw [if_pos rfl] at H; exact H
       clear H; have H := H1; clear H1; replace H := Option.bind_eq_some_iff.mp H; obtain ⟨⟨t160, t161⟩, A70, H⟩ := H; replace H : (if t161 = true then (some (x8_1, true)) else (spec_LeastReach.l0 k1 a0 l1 l2 (wrap64 (x8_1 + 1)))) = some (r1, r2) := H; have A7 := Aside0.mk A70; clear A70; by_cases c8 : t161 = true
       · subst c8; have H1 : (some (x8_1, true)) = some (r1, r2) := by rw [if_pos rfl] at H; exact H
         clear H; have H := H1; clear H1; simp only [Option.some.injEq, Prod.mk.injEq] at H; obtain ⟨rfl, rfl⟩ := H; go_wp2_with (first | ((with_reducible refine gate_callee (f := 86) rfl ?_); refine gL_ (some 19) Try.func86 #[.int .i64 a0, .int .i64 x8_1, .slice A1 l1.length c1, .slice A2 l2.length c2] ?_; (with_reducible refine (spec_l07Rings.calls k1 a0 x8_1 _ _ l1 _ _ l2 true _ ?side1 ?side2 ?side3 ?side4 A5.out).mono ?_); (case side1 => exact ck_ (Kd.C_below HR1.out HB.out)); (case side2 => exact HC1.out); (case side3 => exact ck_ (Kd.C_below HR2.out HB.out)); (case side4 => exact HC2.out); rintro e w9 ⟨rfl, hb⟩; refine ⟨_, rfl, ?_⟩; have n0_ := Aside0.mk (below_step (bk_ HB.out) hb); clear HB; have HB := n0_; clear n0_; (try clear hb); (try clear hb2); (try clear hk); (try clear hi)) | ((with_reducible refine gate_callee (f := 87) rfl ?_); refine gL_ (some 26) Try.func87 #[.int .i64 a0, .int .i64 x8_1, .slice A1 l1.length c1, .slice A2 l2.length c2] ?_; (with_reducible refine (spec_l07Learn.calls k1 a0 x8_1 _ _ l1 _ _ l2 t160 true _ ?side1 ?side2 ?side3 ?side4 A7.out).mono ?_); (case side1 => exact ck_ (Kd.C_below HR1.out HB.out)); (case side2 => exact HC1.out); (case side3 => exact ck_ (Kd.C_below HR2.out HB.out)); (case side4 => exact HC2.out); rintro e w10 ⟨v162, rfl, ho0, hb⟩; refine ⟨_, rfl, ?_⟩; have n0_ := Aside0.mk (Kd.R_lower ho0 (below_size (bk_ HB.out))); have n1_ := Aside0.mk (below_step (bk_ HB.out) hb); clear HB; have HO163 := n0_; have HB := n1_; clear n0_ n1_; (try clear hb); (try clear hb2); (try clear hk); (try clear hi); (try clear ho0)))
         go_ret2; exact ⟨by first | rfl | (simp [errW_none, errW_some] <;> rfl) | (simp [*, errW_none, errW_some] <;> rfl), bk_ HB.out⟩
       · replace c8 := Bool.eq_false_iff.mpr c8; subst c8; have H1 : (spec_LeastReach.l0 k1 a0 l1 l2 (wrap64 (x8_1 + 1))) = some (r1, r2) := by rw [if_neg (show ¬ (false = true) by decide)] at H; exact H
         clear H; have H := H1; clear H1; have H' := Aside0.mk H; clear H; go_wp2_with (first | ((with_reducible refine gate_callee (f := 86) rfl ?_); refine gL_ (some 19) Try.func86 #[.int .i64 a0, .int .i64 x8_1, .slice A1 l1.length c1, .slice A2 l2.length c2] ?_; (with_reducible refine (spec_l07Rings.calls k1 a0 x8_1 _ _ l1 _ _ l2 true _ ?side1 ?side2 ?side3 ?side4 A5.out).mono ?_); (case side1 => exact ck_ (Kd.C_below HR1.out HB.out)); (case side2 => exact HC1.out); (case side3 => exact ck_ (Kd.C_below HR2.out HB.out)); (case side4 => exact HC2.out); rintro e w11 ⟨rfl, hb⟩; refine ⟨_, rfl, ?_⟩; have n0_ := Aside0.mk (below_step (bk_ HB.out) hb); clear HB; have HB := n0_; clear n0_; (try clear hb); (try clear hb2); (try clear hk); (try clear hi)) | ((with_reducible refine gate_callee (f := 87) rfl ?_); refine gL_ (some 26) Try.func87 #[.int .i64 a0, .int .i64 x8_1, .slice A1 l1.length c1, .slice A2 l2.length c2] ?_; (with_reducible refine (spec_l07Learn.calls k1 a0 x8_1 _ _ l1 _ _ l2 t160 false _ ?side1 ?side2 ?side3 ?side4 A7.out).mono ?_); (case side1 => exact ck_ (Kd.C_below HR1.out HB.out)); (case side2 => exact HC1.out); (case side3 => exact ck_ (Kd.C_below HR2.out HB.out)); (case side4 => exact HC2.out); rintro e w12 ⟨v162, rfl, ho0, hb⟩; refine ⟨_, rfl, ?_⟩; have n0_ := Aside0.mk (Kd.R_lower ho0 (below_size (bk_ HB.out))); have n1_ := Aside0.mk (below_step (bk_ HB.out) hb); clear HB; have HO163 := n0_; have HB := n1_; clear n0_ n1_; (try clear hb); (try clear hb2); (try clear hk); (try clear hi); (try clear ho0)))
         go_roundg k1; case measure => have := HK1.out; omega
         case rel => exact ⟨(wrap64 (x8_1 + 1)), (by first | rfl | (simp; done) | (simp [i64_w, i32_w]; done) | (simp [*]; done) | (simp [*, i64_w, i32_w]; done)), H', ⟨by have := HK1.out; omega⟩, ⟨bk_ HB.out⟩⟩
     · replace c6 := Bool.eq_false_iff.mpr c6; subst c6; have H1 : (some (0, false)) = some (r1, r2) := by rw [if_neg (show ¬ (false = true) by decide)] at H; exact H
       clear H; have H := H1; clear H1; simp only [Option.some.injEq, Prod.mk.injEq] at H; obtain ⟨rfl, rfl⟩ := H; go_wp2_with (first | ((with_reducible refine gate_callee (f := 86) rfl ?_); refine gL_ (some 19) Try.func86 #[.int .i64 a0, .int .i64 x8_1, .slice A1 l1.length c1, .slice A2 l2.length c2] ?_; (with_reducible refine (spec_l07Rings.calls k1 a0 x8_1 _ _ l1 _ _ l2 false _ ?side1 ?side2 ?side3 ?side4 A5.out).mono ?_); (case side1 => exact ck_ (Kd.C_below HR1.out HB.out)); (case side2 => exact HC1.out); (case side3 => exact ck_ (Kd.C_below HR2.out HB.out)); (case side4 => exact HC2.out); rintro e w13 ⟨rfl, hb⟩; refine ⟨_, rfl, ?_⟩; have n0_ := Aside0.mk (below_step (bk_ HB.out) hb); clear HB; have HB := n0_; clear n0_; (try clear hb); (try clear hb2); (try clear hk); (try clear hi))); go_ret2; exact ⟨by first | rfl | (simp [errW_none, errW_some] <;> rfl) | (simp [*, errW_none, errW_some] <;> rfl), bk_ HB.out⟩
   · rw [if_neg c4] at H; have c4b0 : decide (x8_1 ≤ 2) = false := decide_eq_false c4; clear c4; simp only [Option.some.injEq, Prod.mk.injEq] at H; obtain ⟨rfl, rfl⟩ := H; go_wp2; go_ret2; exact ⟨by first | rfl | (simp [errW_none, errW_some] <;> rfl) | (simp [*, errW_none, errW_some] <;> rfl), bk_ HB.out⟩

/-! ### impl_IsRing: function 62 -/
def impl_IsRing.f (k : Nat) (l0 : List Int) (a1 : Int) : Option (Bool) := (impl_areStates.f a1).bind fun t164 => (if t164 = true then ((impl_areMany.f k l0 1 64 0 (wrap64 (a1 - 1))).bind fun t165 => (some t165)) else (some false))
theorem impl_IsRing.mono : ∀ a0 a1 k, LeO (impl_IsRing.f k a0 a1) (impl_IsRing.f (k + 1) a0 a1) := by
 intro a0 a1 k; unfold impl_IsRing.f; repeat' first
  | (with_reducible exact impl_areMany.mono _ _ _ _ _ _)
  | (with_reducible exact LeO.refl _)
  | (with_reducible exact LeO.none _)
  | (with_reducible refine LeO.ite ?_ ?_)
  | (with_reducible refine LeO.bind ?_ (fun _ => ?_))
  | exact impl_areMany.mono _ _ _ _ _ _
  | exact LeO.none _
  | refine LeO.ite ?_ ?_
  | refine LeO.bind ?_ (fun _ => ?_)
set_option maxHeartbeats 8000000 in
set_option maxRecDepth 100000 in
theorem impl_IsRing.calls (k : Nat) (A0 : Option Addr) (c0 : Nat) (l0 : List Int) (a1 : Int) (r : Bool) (w : World) (hr0 : Kd.C (Kd.int .i64) w A0 l0.length l0) (hc0 : l0.length ≤ c0) (h : impl_IsRing.f k l0 a1 = some r) :
    Calls Try.prog 62 #[.slice A0 l0.length c0, .int .i64 a1] w fun e w' => e = .returned (.bool r) ∧ Drawn0 w w' := by
 have HR0 := Aside0.mk hr0; have HC0 := Aside0.mk hc0; clear hr0 hc0; have H : ((impl_areStates.f a1).bind fun t164 => (if t164 = true then ((impl_areMany.f k l0 1 64 0 (wrap64 (a1 - 1))).bind fun t165 => (some t165)) else (some false))) = some r := h; clear h; replace H := Option.bind_eq_some_iff.mp H; obtain ⟨t164, A30, H⟩ := H; replace H : (if t164 = true then ((impl_areMany.f k l0 1 64 0 (wrap64 (a1 - 1))).bind fun t165 => (some t165)) else (some false)) = some r := H; have A3 := Aside0.mk A30; clear A30; by_cases c4 : t164 = true
 · subst c4; have H1 : ((impl_areMany.f k l0 1 64 0 (wrap64 (a1 - 1))).bind fun t165 => (some t165)) = some r := by rw [if_pos rfl] at H; exact H
   clear H; have H := H1; clear H1; replace H := Option.bind_eq_some_iff.mp H; obtain ⟨t165, A50, H⟩ := H; replace H : (some t165) = some r := H; have A5 := Aside0.mk A50; clear A50; obtain rfl := Option.some.inj H; go_enter Try.func62, Try.ntmps62; go_wp2_with (first | ((with_reducible refine gate_callee (f := 71) rfl ?_); refine gL_ (some 6) Try.func71 #[.int .i64 a1] ?_; (with_reducible refine (impl_areStates.calls a1 true _ A3.out).mono ?_); rintro e w' ⟨rfl, ⟨nd, rfl⟩⟩; refine ⟨_, rfl, ?_⟩) | (go_at_call 105; (with_reducible refine (impl_areMany.calls k _ _ l0 1 64 0 (wrap64 (a1 - 1)) t165 _ ?side1 ?side2 A5.out).mono ?_); (case side1 => repeat (first | exact HR0.out | (with_reducible refine Kd.C_alloc ?_ _) | (with_reducible refine Kd.C_drewN ?_ _) | (with_reducible refine Kd.C_drew ?_))); (case side2 => exact HC0.out); rintro e w' ⟨rfl, ⟨nd, rfl⟩⟩)); go_ret; exact ⟨by first | rfl | (simp; done) | (simp [i64_w, i32_w]; done) | (simp [*]; done) | (simp [*, i64_w, i32_w]; done), by repeat (first | exact Drawn0.refl _ | apply Drawn0.step)⟩
 · replace c4 := Bool.eq_false_iff.mpr c4; subst c4; have H1 : (some false) = some r := by rw [if_neg (show ¬ (false = true) by decide)] at H; exact H
   clear H; have H := H1; clear H1; obtain rfl := Option.some.inj H; go_enter Try.func62, Try.ntmps62; go_wp2_with (first | ((with_reducible refine gate_callee (f := 71) rfl ?_); refine gL_ (some 6) Try.func71 #[.int .i64 a1] ?_; (with_reducible refine (impl_areStates.calls a1 false _ A3.out).mono ?_); rintro e w' ⟨rfl, ⟨nd, rfl⟩⟩; refine ⟨_, rfl, ?_⟩)); go_ret; exact ⟨by first | rfl | (simp; done) | (simp [i64_w, i32_w]; done) | (simp [*]; done) | (simp [*, i64_w, i32_w]; done), by repeat (first | exact Drawn0.refl _ | apply Drawn0.step)⟩

/-! ### bits_Mul32: function 134 -/
def bits_Mul32.f (a0 : Int) (a1 : Int) : Option (Int × Int) := some (((IntKind.u64.wrap ((IntKind.u64.wrap (a0)) * (IntKind.u64.wrap (a1)))) / 4294967296) % 4294967296, (IntKind.u64.wrap ((IntKind.u64.wrap (a0)) * (IntKind.u64.wrap (a1)))) % 4294967296)
set_option maxHeartbeats 8000000 in
set_option maxRecDepth 100000 in
theorem bits_Mul32.calls (a0 : Int) (a1 : Int) (r1 : Int) (r2 : Int) (w : World) (h : bits_Mul32.f a0 a1 = some (r1, r2)) :
    Calls Try.prog 134 #[.int .u32 a0, .int .u32 a1] w fun e w' => e = .returned (.tuple #[.int .u32 r1, .int .u32 r2]) ∧ Drawn0 w w' := by
 have H : (some (((IntKind.u64.wrap ((IntKind.u64.wrap (a0)) * (IntKind.u64.wrap (a1)))) / 4294967296) % 4294967296, (IntKind.u64.wrap ((IntKind.u64.wrap (a0)) * (IntKind.u64.wrap (a1)))) % 4294967296)) = some (r1, r2) := h; clear h; simp only [Option.some.injEq, Prod.mk.injEq] at H; obtain ⟨rfl, rfl⟩ := H; go_enter Try.func134, Try.ntmps134; go_wp2; go_ret2; exact ⟨by first | rfl | (simp; done) | (simp [i64_w, i32_w]; done) | (simp [*]; done) | (simp [*, i64_w, i32_w]; done), by repeat (first | exact Drawn0.refl _ | apply Drawn0.step)⟩

/-! ### bits_Mul64: function 135 -/
def bits_Mul64.f (a0 : Int) (a1 : Int) : Option (Int × Int) := some (IntKind.u64.wrap ((IntKind.u64.wrap ((IntKind.u64.wrap ((a0 / 4294967296) * (a1 / 4294967296))) + ((IntKind.u64.wrap ((IntKind.u64.wrap ((a0 / 4294967296) * (Go.bits .and .u64 a1 4294967295))) + ((IntKind.u64.wrap ((Go.bits .and .u64 a0 4294967295) * (Go.bits .and .u64 a1 4294967295))) / 4294967296))) / 4294967296))) + ((IntKind.u64.wrap ((Go.bits .and .u64 (IntKind.u64.wrap ((IntKind.u64.wrap ((a0 / 4294967296) * (Go.bits .and .u64 a1 4294967295))) + ((IntKind.u64.wrap ((Go.bits .and .u64 a0 4294967295) * (Go.bits .and .u64 a1 4294967295))) / 4294967296))) 4294967295) + (IntKind.u64.wrap ((Go.bits .and .u64 a0 4294967295) * (a1 / 4294967296))))) / 4294967296)), IntKind.u64.wrap (a0 * a1))
set_option maxHeartbeats 8000000 in
set_option maxRecDepth 100000 in
theorem bits_Mul64.calls (a0 : Int) (a1 : Int) (r1 : Int) (r2 : Int) (w : World) (h : bits_Mul64.f a0 a1 = some (r1, r2)) :
    Calls Try.prog 135 #[.int .u64 a0, .int .u64 a1] w fun e w' => e = .returned (.tuple #[.int .u64 r1, .int .u64 r2]) ∧ Drawn0 w w' := by
 have H : (some (IntKind.u64.wrap ((IntKind.u64.wrap ((IntKind.u64.wrap ((a0 / 4294967296) * (a1 / 4294967296))) + ((IntKind.u64.wrap ((IntKind.u64.wrap ((a0 / 4294967296) * (Go.bits .and .u64 a1 4294967295))) + ((IntKind.u64.wrap ((Go.bits .and .u64 a0 4294967295) * (Go.bits .and .u64 a1 4294967295))) / 4294967296))) / 4294967296))) + ((IntKind.u64.wrap ((Go.bits .and .u64 (IntKind.u64.wrap ((IntKind.u64.wrap ((a0 / 4294967296) * (Go.bits .and .u64 a1 4294967295))) + ((IntKind.u64.wrap ((Go.bits .and .u64 a0 4294967295) * (Go.bits .and .u64 a1 4294967295))) / 4294967296))) 4294967295) + (IntKind.u64.wrap ((Go.bits .and .u64 a0 4294967295) * (a1 / 4294967296))))) / 4294967296)), IntKind.u64.wrap (a0 * a1))) = some (r1, r2) := h; clear h; simp only [Option.some.injEq, Prod.mk.injEq] at H; obtain ⟨rfl, rfl⟩ := H; go_enter Try.func135, Try.ntmps135; go_wp2; go_ret2; exact ⟨by first | rfl | (simp; done) | (simp [i64_w, i32_w]; done) | (simp [*]; done) | (simp [*, i64_w, i32_w]; done), by repeat (first | exact Drawn0.refl _ | apply Drawn0.step)⟩

/-! ### bits_Mul: function 131 -/
def bits_Mul.f (a0 : Int) (a1 : Int) : Option (Int × Int) := (bits_Mul64.f a0 a1).bind fun bt166 => (some (bt166.1, bt166.2))
set_option maxHeartbeats 8000000 in
set_option maxRecDepth 100000 in
theorem bits_Mul.calls (a0 : Int) (a1 : Int) (r1 : Int) (r2 : Int) (w : World) (h : bits_Mul.f a0 a1 = some (r1, r2)) :
    Calls Try.prog 131 #[.int .u64 a0, .int .u64 a1] w fun e w' => e = .returned (.tuple #[.int .u64 r1, .int .u64 r2]) ∧ Drawn0 w w' := by
 have H : ((bits_Mul64.f a0 a1).bind fun bt166 => (some (bt166.1, bt166.2))) = some (r1, r2) := h; clear h; replace H := Option.bind_eq_some_iff.mp H; obtain ⟨⟨t166, t167⟩, A30, H⟩ := H; replace H : (some (t166, t167)) = some (r1, r2) := H; have A3 := Aside0.mk A30; clear A30; simp only [Option.some.injEq, Prod.mk.injEq] at H; obtain ⟨rfl, rfl⟩ := H; go_enter Try.func131, Try.ntmps131; go_wp2_with (first | ((with_reducible refine gate_callee (f := 135) rfl ?_); refine gL_ (some 25) Try.func135 #[.int .u64 a0, .int .u64 a1] ?_; (with_reducible refine (bits_Mul64.calls a0 a1 t166 t167 _ A3.out).mono ?_); rintro e w' ⟨rfl, ⟨nd, rfl⟩⟩; refine ⟨_, rfl, ?_⟩)); go_ret2; exact ⟨by first | rfl | (simp; done) | (simp [i64_w, i32_w]; done) | (simp [*]; done) | (simp [*, i64_w, i32_w]; done), by repeat (first | exact Drawn0.refl _ | apply Drawn0.step)⟩

/-! ### slices_Repeat_int64_int64: function 120 -/
def slices_Repeat_int64_int64.f (l0 : List Int) (a1 : Int) : Option (List Int) := if l0.length = 1 then (if 1 ≤ a1 then (if a1 ≤ 1000 then some (List.replicate a1.toNat (rd l0 0)) else none) else none) else none
theorem rep_mul (m : Fin 1001) : bits_Mul.f 1 (m.val : Int) = some (0, (m.val : Int)) := by
  revert m; decide +kernel
/-- The block in which the first n cells are told. -/
structure RepI (w w' : World) (g cap m n : Nat) (y : Int) : Prop where
  blk : ∃ cur, w'.heap[g]? = some (.cells cur 2 (0, 0)) ∧ cur.size = cap ∧ ∀ j, j < n → cur[j]? = some (.int .i64 y)
  bel : Below w.heap.size w w'
theorem RepI.fill {w w' : World} {g cap m n : Nat} {y : Int} (h : RepI w w' g cap m n y) (hg : w.heap.size ≤ g) (q : Nat) (hq : n + q ≤ cap) : RepI w (w'.setCells g n (List.replicate q (.int .i64 y))) g cap m (n + q) y := by
  induction q generalizing n w' with
  | zero => exact h
  | succ q ih =>
    rw [List.replicate_succ, World.setCells]
    have hs : RepI w (w'.setCell ⟨g, n, none⟩ (.int .i64 y)) g cap m (n + 1) y := by
      obtain ⟨cur, hb, hc, hj⟩ := h.blk
      refine ⟨⟨cur.setIfInBounds n (.int .i64 y), blk_set hb n _, by simpa using hc, fun j hjn => ?_⟩, below_set h.bel hg⟩
      by_cases e : j = n
      · subst e
        rw [Array.getElem?_setIfInBounds_self]
        rw [if_pos (by omega)]
      · rw [Array.getElem?_setIfInBounds_ne (by omega)]
        exact hj j (by omega)
    have := ih hs (by omega)
    rw [show n + 1 + q = n + (q + 1) by omega] at this
    exact this
theorem RepI.row {w w' : World} {g cap m : Nat} {y : Int} (h : RepI w w' g cap m m y) (hg : w.heap.size ≤ g) (h0 : m ≤ cap) (h1 : cap ≤ maxLen) : Kd.R (Kd.int .i64) 2 w' w.heap.size (fun _ => True) (.slice (some ⟨g, 0, none⟩) m cap) (List.replicate m y) := by
  obtain ⟨cur, hb, hc, hj⟩ := h.blk
  have e : cur.toList.take (m * 1) = List.replicate m (Value.int .i64 y) := by
    apply List.ext_getElem?
    intro j
    by_cases hjm : j < m
    · rw [List.getElem?_take, if_pos (by omega), Array.getElem?_toList, hj j hjm, List.getElem?_replicate, if_pos hjm]
    · rw [List.getElem?_eq_none (by simp; omega), List.getElem?_eq_none (by simp; omega)]
  refine ⟨fun _ _ => trivial, List.replicate m (.int .i64 y), ⟨by simp only [List.length_replicate]; exact (Nat.mul_one m).symm, .inr ⟨g, cap, cur, by rw [List.length_replicate], hg, hb, by simpa using h0, h1, by rw [hc]; exact (Nat.mul_one _).symm, by rw [List.length_replicate]; exact e⟩⟩, ?_⟩
  have := Kd.reps_scalar (enc := Value.int .i64) (List.replicate m y)
  rw [show encs (Value.int .i64) (List.replicate m y) = List.replicate m (.int .i64 y) by simp [encs]] at this
  exact this
theorem copy_step {P : Program} {ops : Array Oper} {o : Oper} {a : Act} {Q : Exit → Act → World → Prop} {Kc : Act → World → Prop} {W w1 : World} {v1 v2 r : Value} {N : Option Tmp} (hw : Region.wanted o (yielded ops a.tmps) = true) (hN : o.dst = N) (s x : Operand) (t t' : TypeId)
    (ho : o.op = .call { callee := .builtin .copy, args := #[s, x], argTypes := #[t, t'] }) (hs : a.eval s = v1) (hx : a.eval x = v2) (hr : (Builtin.copy_ #[t, t'] o.type #[v1, v2]).run P W = .ok r w1) (h : Kc (a.put N r) w1) :
    if Region.wanted o (yielded ops a.tmps) = true then Oper.wp P o a W Kc Q else Kc (a.put N undef) W := by
  subst hN
  rw [if_pos hw]
  unfold Oper.wp execOp
  simp only [ho, resolve, invoke, builtin, Sem.run_bind, Sem.run_pure, Result.andThen_ok, List.map_toArray, List.map_cons, List.map_nil, hs, hx, hr]
  exact h
set_option maxHeartbeats 8000000 in
set_option maxRecDepth 100000 in
theorem slices_Repeat_int64_int64.calls (A0 : Option Addr) (c0 : Nat) (l0 : List Int) (a1 : Int) (r : List Int) (w : World) (hr0 : Kd.C (Kd.int .i64) w A0 l0.length l0) (hc0 : l0.length ≤ c0) (h : slices_Repeat_int64_int64.f l0 a1 = some r) :
    Calls Try.prog 120 #[.slice A0 l0.length c0, .int .i64 a1] w fun e w' => ∃ v0_ : Value, e = .returned (v0_) ∧ Kd.R (Kd.int .i64) 2 w' w.heap.size (fun _ => True) v0_ r ∧ Below w.heap.size w w' := by
  unfold slices_Repeat_int64_int64.f at h
  by_cases c1 : l0.length = 1
  · rw [if_pos c1] at h
    by_cases c2 : 1 ≤ a1
    · rw [if_pos c2] at h
      by_cases c3 : a1 ≤ 1000
      · rw [if_pos c3] at h
        obtain ⟨m, rfl⟩ := Int.eq_ofNat_of_zero_le (show 0 ≤ a1 by omega)
        have hm0 : 1 ≤ m := by omega
        have hm : m ≤ 1000 := by omega
        obtain ⟨y, rfl⟩ : ∃ y, l0 = [y] := by
          match l0, c1 with
          | [y], _ => exact ⟨y, rfl⟩
        have hh := Option.some.inj h
        have hy : rd [y] 0 = y := rfl
        rw [hy, Int.toNat_natCast] at hh
        subst hh
        clear h hy c1 c2 c3
        have hmul := rep_mul ⟨m, by omega⟩
        replace hmul : bits_Mul.f 1 (m : Int) = some (0, (m : Int)) := hmul
        have hw1 : IntKind.u64.wrap (m : Int) = (m : Int) := by
          have : ∀ m : Fin 1001, IntKind.u64.wrap (m.val : Int) = (m.val : Int) := by decide +kernel
          exact this ⟨m, by omega⟩
        have hw2 : IntKind.u64.wrap (1 : Int) = 1 := by decide +kernel
        have hw3 : wrap64 (m : Int) = (m : Int) := by unfold wrap64; omega
        have e1 : decide ((m : Int) < 0) = false := decide_eq_false (by omega)
        have e1' : ((m : Int) < 0) = False := eq_false (by omega)
        have e2 : decide (9223372036854775807 < (m : Int)) = false := decide_eq_false (by omega)
        have e2' : (9223372036854775807 < (m : Int)) = False := eq_false (by omega)
        obtain ⟨i0, hi0, hz0⟩ := Option.map_eq_some_iff.1 info2
        simp only [Prod.mk.injEq] at hz0
        have hinfo : (Try.prog.info? 2).map (·.size) = some 1 := by rw [hi0]; exact congrArg some hz0.2.1
        obtain ⟨ad, hx1, hx2⟩ : ∃ ad, A0 = some ad ∧ w.cell? ad = some (.int .i64 y) := by
          obtain ⟨ad, e, hx⟩ := Kd.at_int hr0 0 (by omega) (by simp)
          have hx' : w.cell? (ad.add 0) = some (.int .i64 y) := hx
          rw [Addr.add_zero'] at hx'
          exact ⟨ad, e, hx'⟩
        subst hx1
        have HB := Aside0.mk (Below.refl w.heap.size w)
        show Calls Try.prog 120 #[.slice (some ad) 1 c0, .int .i64 (m : Int)] w _
        go_enter Try.func120, Try.ntmps120
        go_wp2_with (first | ((with_reducible refine gate_callee (f := 131) rfl ?_); refine gL_ (some 18) Try.func131 #[.int .u64 1, .int .u64 (m : Int)] ?_; (with_reducible refine (bits_Mul.calls 1 (m : Int) 0 (m : Int) _ hmul).mono ?_); rintro e w2 ⟨rfl, hdr⟩; replace HB := Aside0.mk (below_step HB.out (by exact hdr.below)); refine ⟨_, rfl, ?_⟩) | ((with_reducible refine gate_dst (N := 30) rfl ?_); refine Kd.R_make (Kd.int .i64) _ 2 rfl (N := 30) rfl 22 _ _ rfl (m : Int) rfl rfl Try.underlying22 (.int .i64 0) 8 info2 rfl (by decide) (by omega) 0 (ok := fun _ => True) (okp := fun _ => True) rfl (fun _ hk => hk) trivial (by omega) (by rw [Int.toNat_natCast]; omega) (Below.refl _ _) (Nat.le_refl _) ?_; intro v30 w3 ho hb hg hnew))
        have hB3 : Below w.heap.size w w3 := below_step HB.out hb
        obtain ⟨g, cap, hv, hgw, hmc, hcm, hI0⟩ : ∃ g cap, v30 = .slice (some ⟨g, 0, none⟩) m cap ∧ w.heap.size ≤ g ∧ m ≤ cap ∧ cap ≤ maxLen ∧ RepI w w3 g cap m 0 y := by
          obtain ⟨_, inner, hown, _⟩ := ho
          rcases hown.2 with ⟨_, hn⟩ | ⟨g, cap, cur, rfl, hgb, hblk, h1, h2, h3, h4⟩
          · simp at hn; omega
          · exact ⟨g, cap, by simp, by have := below_size HB.out; omega, by simpa using h1, h2, ⟨⟨cur, hblk, by rw [h3]; exact Nat.mul_one _, fun j hj => by omega⟩, hB3⟩⟩
        subst hv
        have hcp : (Builtin.copy_ #[22, 22] 3 #[.slice (some ⟨g, 0, none⟩) m cap, .slice (some ad) 1 c0]).run Try.prog w3 = .ok (.int .i64 1) (w3.setCells g 0 [.int .i64 y]) := by
          obtain ⟨cur, hblk, hcur, _⟩ := hI0.blk
          have := run_copy_cells (P := Try.prog) w3 22 22 3 2 g 0 m cap ad 1 c0 [.int .i64 y] Try.underlying22 hinfo (by show 1 = min 1 m; omega) (fun j v hj => by
            have hj0 : j = 0 := by have := (List.getElem?_eq_some_iff.1 hj).1; simp at this; omega
            subst hj0
            have : v = .int .i64 y := by simpa using hj.symm
            subst this
            rw [Addr.add_zero']
            exact hB3.cell (World.block_lt_of_cell? w _ hx2) ▸ hx2)
            (fun j hj => by
              have hj0 : j = 0 := by simp at hj; omega
              subst hj0
              rw [blk_cell hblk, Nat.add_zero, Array.getElem?_eq_getElem (by omega)]
              rfl)
            (fun j hj => blk_frozen hblk _) (by intro v hv; simp at hv; subst hv; rfl)
          exact this
        have hI1 : RepI w (w3.setCells g 0 [.int .i64 y]) g cap m 1 y := hI0.fill hgw 1 (by omega)
        generalize w3.setCells g 0 [.int .i64 y] = w4 at hcp hI1
        simp only [hcp, Result.andThen_ok]
        go_wp2
        go_loopg [8] m (fun kq v8 w' => ∃ (n : Nat), v8 = .int .i64 (n : Int) ∧ Aside0 (1 ≤ n ∧ n ≤ m ∧ m - n ≤ kq) ∧ Aside0 (RepI w w' g cap m n y))
        case atStart => exact ⟨1, rfl, ⟨by omega⟩, ⟨hI1⟩⟩
        case round =>
          obtain ⟨n, rfl, hn, hI⟩ := hrel
          obtain ⟨hn1, hn2, hn3⟩ := hn.out
          by_cases hlt : n < m
          · obtain ⟨k1, rfl⟩ : ∃ k1, gk = k1 + 1 := ⟨gk - 1, by omega⟩
            have hfin : 1 ≤ n + min n (m - n) ∧ n + min n (m - n) ≤ m ∧ m - (n + min n (m - n)) ≤ k1 := by omega
            have hk1 : k1 < k1 + 1 := Nat.lt_succ_self _
            have d1 : decide ((n : Int) < (m : Int)) = true := decide_eq_true (by omega)
            go_wp2
            have hs41 : ∀ W : World, (Instr.slice 22 (.slice (some ⟨g, 0, none⟩) m cap) (some (.int .i64 (n : Int))) none none).run Try.prog W = .ok (.slice (some ⟨g, n, none⟩) (m - n) (cap - n)) W := by
              intro W
              have h_ := cut_from (P := Try.prog) 22 2 .i64 Try.underlying22 hi0 1 hz0.2.1 (some ⟨g, 0, none⟩) m cap (n : Int) (by omega) (by omega) W
              rw [Int.toNat_natCast, if_neg (by omega)] at h_
              have ea : (Option.map (fun x => Addr.add x (n * 1)) (some (⟨g, 0, none⟩ : Addr))) = some ⟨g, n, none⟩ := by
                rw [Option.map_some, Nat.mul_one, add0_]
              rw [ea] at h_
              exact h_
            have hs44 : ∀ W : World, (Instr.slice 22 (.slice (some ⟨g, 0, none⟩) m cap) none (some (.int .i64 (n : Int))) none).run Try.prog W = .ok (.slice (some ⟨g, 0, none⟩) n cap) W := by
              intro W
              have h_ := cut_to (P := Try.prog) 22 2 .i64 Try.underlying22 hi0 (some ⟨g, 0, none⟩) m cap (n : Int) (by omega) (by omega) hmc W
              rw [Int.toNat_natCast] at h_
              exact h_
            have hI5 : RepI w wr.drew g cap m n y := by
              obtain ⟨cur, hblk, hcur, hj⟩ := hI.out.blk
              exact ⟨⟨cur, blk_drew hblk, hcur, hj⟩, below_drew1 hI.out.bel⟩
            have hcp9 : (Builtin.copy_ #[22, 22] 3 #[.slice (some ⟨g, n, none⟩) (m - n) (cap - n), .slice (some ⟨g, 0, none⟩) n cap]).run Try.prog wr.drew = .ok (.int .i64 ((min n (m - n) : Nat) : Int)) (wr.drew.setCells g n (List.replicate (min n (m - n)) (.int .i64 y))) := by
              obtain ⟨cur, hblk, hcur, hj⟩ := hI5.blk
              have h_ := run_copy_cells (P := Try.prog) wr.drew 22 22 3 2 g n (m - n) (cap - n) ⟨g, 0, none⟩ n cap (List.replicate (min n (m - n)) (.int .i64 y)) Try.underlying22 hinfo (by simp) (fun j v hj' => by
                have hjl : j < min n (m - n) := by have := (List.getElem?_eq_some_iff.1 hj').1; simpa using this
                have hv : v = .int .i64 y := by
                  rw [List.getElem?_replicate, if_pos hjl] at hj'
                  exact (Option.some.inj hj').symm
                subst hv
                rw [add0_, blk_cell hblk]
                exact hj j (by omega))
                (fun j hj' => by
                  have hjl : j < min n (m - n) := by simpa using hj'
                  rw [blk_cell hblk, Array.getElem?_eq_getElem (by omega)]
                  rfl)
                (fun j hj' => blk_frozen hblk _) (by intro v hv; rw [List.eq_of_mem_replicate hv]; rfl)
              rw [List.length_replicate] at h_
              exact h_
            have hI6 : RepI w (wr.drew.setCells g n (List.replicate (min n (m - n)) (.int .i64 y))) g cap m (n + min n (m - n)) y := hI5.fill hgw _ (by omega)
            generalize wr.drew.setCells g n (List.replicate (min n (m - n)) (.int .i64 y)) = w6 at hcp9 hI6
            have hw9 : wrap64 ((n : Int) + ((min n (m - n) : Nat) : Int)) = ((n + min n (m - n) : Nat) : Int) := by unfold wrap64; omega
            refine start_ (n := 10) (S := fun _ => True) (ds := []) (bm_ 10 0) (by kernel_rfl) rfl rfl trivial (fun hHeld => ?_)
            refine pure_ (i := 0) (N := some 38) (v := ?_) (a' := ?_) (bm_ 10 1) rfl rfl (by kernel_rfl) (fun _ _ _ h => h) (Or.inl ⟨by rfl, ?_⟩) ?_ ?_; rotate_left
            · intro w'; go_simp; (with_reducible rfl)
            rotate_left
            · simp only [Act.put, List.setIfInBounds_toArray, List.set_cons_zero, List.set_cons_succ]; rfl
            refine pure_ (i := 1) (N := some 39) (v := ?_) (a' := ?_) (bm_ 10 3) rfl rfl (by kernel_rfl) (fun _ _ _ h => h) (Or.inl ⟨by rfl, ?_⟩) ?_ ?_; rotate_left
            · intro w'; go_simp; (with_reducible rfl)
            rotate_left
            · simp only [Act.put, List.setIfInBounds_toArray, List.set_cons_zero, List.set_cons_succ]; rfl
            refine pure_ (i := 2) (N := some 40) (v := ?_) (a' := ?_) (bm_ 10 7) rfl rfl (by kernel_rfl) (fun _ _ _ h => h) (Or.inl ⟨by rfl, ?_⟩) ?_ ?_; rotate_left
            · intro w'; go_simp; (with_reducible rfl)
            rotate_left
            · simp only [Act.put, List.setIfInBounds_toArray, List.set_cons_zero, List.set_cons_succ]; rfl
            refine pure_ (i := 3) (N := some 41) (v := ?_) (a' := ?_) (bm_ 10 15) rfl rfl (by kernel_rfl) (fun _ _ _ h => h) (Or.inl ⟨by rfl, ?_⟩) ?_ ?_; rotate_left
            · intro w'; go_simp; (with_reducible rfl)
            rotate_left
            · simp only [Act.put, List.setIfInBounds_toArray, List.set_cons_zero, List.set_cons_succ]; rfl
            refine pure_ (i := 4) (N := some 42) (v := ?_) (a' := ?_) (bm_ 10 31) rfl rfl (by kernel_rfl) (fun _ _ _ h => h) (Or.inl ⟨by rfl, ?_⟩) ?_ ?_; rotate_left
            · intro w'; go_simp; (with_reducible rfl)
            rotate_left
            · simp only [Act.put, List.setIfInBounds_toArray, List.set_cons_zero, List.set_cons_succ]; rfl
            refine pure_ (i := 5) (N := some 43) (v := ?_) (a' := ?_) (bm_ 10 63) rfl rfl (by kernel_rfl) (fun _ _ _ h => h) (Or.inl ⟨by rfl, ?_⟩) ?_ ?_; rotate_left
            · intro w'; go_simp; (with_reducible rfl)
            rotate_left
            · simp only [Act.put, List.setIfInBounds_toArray, List.set_cons_zero, List.set_cons_succ]; rfl
            refine pure_ (i := 6) (N := some 44) (v := ?_) (a' := ?_) (bm_ 10 127) rfl rfl (by kernel_rfl) (fun _ _ _ h => h) (Or.inl ⟨by rfl, ?_⟩) ?_ ?_; rotate_left
            · intro w'; go_simp; (with_reducible rfl)
            rotate_left
            · simp only [Act.put, List.setIfInBounds_toArray, List.set_cons_zero, List.set_cons_succ]; rfl
            refine one_ (i := 7) (N := some 45) (bm_ 10 255) rfl rfl (by kernel_rfl) (by decide) (fun K hK => ?_)
            refine copy_step (N := some 45) (by rfl) rfl (.tmp 41) (.tmp 44) 22 22 rfl rfl rfl hcp9 ?_
            refine hK.out _ _ trivial (fun _ => ?_)
            refine pure_ (i := 8) (N := some 46) (v := ?_) (a' := ?_) (bm_ 10 511) rfl rfl (by kernel_rfl) (fun _ _ _ h => h) (Or.inl ⟨by rfl, ?_⟩) ?_ ?_; rotate_left
            · intro w'; go_simp; (with_reducible rfl)
            rotate_left
            · simp only [Act.put, List.setIfInBounds_toArray, List.set_cons_zero, List.set_cons_succ]; rfl
            refine pure_ (i := 9) (N := some 8) (v := ?_) (a' := ?_) (bm_ 10 1023) rfl rfl (by kernel_rfl) (fun _ _ _ h => h) (Or.inl ⟨by rfl, ?_⟩) ?_ ?_; rotate_left
            · intro w'; go_simp; (with_reducible rfl)
            rotate_left
            · simp only [Act.put, List.setIfInBounds_toArray, List.set_cons_zero, List.set_cons_succ]; rfl
            refine done_ (by kernel_rfl) ?_
            (try go_wp2)
            go_roundg k1
            case measure => exact hk1
            case rel => exact ⟨n + min n (m - n), by first | rfl | (rw [hw9]) | (rw [i64_w, hw9]), ⟨hfin⟩, ⟨hI6⟩⟩
          · have d1 : decide ((n : Int) < (m : Int)) = false := decide_eq_false (by omega)
            obtain rfl : n = m := by omega
            go_wp2
            go_ret
            exact ⟨_, rfl, hI.out.row hgw hmc hcm, hI.out.bel⟩
      · rw [if_neg c3] at h; exact absurd h (by simp)
    · rw [if_neg c2] at h; exact absurd h (by simp)
  · rw [if_neg c1] at h; exact absurd h (by simp)

/-! ### impl_floorMod: function 121 -/
def impl_floorMod.f (a0 : Int) (a1 : Int) : Option (Int) := if a1 = 0 then (none) else (some (Int.tmod (wrap64 ((Int.tmod a0 a1) + a1)) a1))
set_option maxHeartbeats 8000000 in
set_option maxRecDepth 100000 in
theorem impl_floorMod.calls (a0 : Int) (a1 : Int) (r : Int) (w : World) (h : impl_floorMod.f a0 a1 = some r) :
    Calls Try.prog 121 #[.int .i64 a0, .int .i64 a1] w fun e w' => e = .returned (.int .i64 r) ∧ Drawn0 w w' := by
 have H : (if a1 = 0 then (none) else (some (Int.tmod (wrap64 ((Int.tmod a0 a1) + a1)) a1))) = some r := h; clear h; by_cases c3 : a1 = 0
 · rw [if_pos c3] at H; exact absurd H (by simp)
 · rw [if_neg c3] at H; have c3b0 : (a1 == 0) = false := beq_eq_false_iff_ne.mpr c3; have c3b1 : (a1 != 0) = true := bne_iff_ne.mpr c3; obtain rfl := Option.some.inj H; go_enter Try.func121, Try.ntmps121; go_wp2; go_ret; exact ⟨by first | rfl | (simp; done) | (simp [i64_w, i32_w]; done) | (simp [*]; done) | (simp [*, i64_w, i32_w]; done), by repeat (first | exact Drawn0.refl _ | apply Drawn0.step)⟩

/-! ### impl_learn: function 88 -/
mutual
def impl_learn.j0 : Nat → Int → Int → List (List Int) → List (List Int) → Bool → Option (List Int × Bool)
  | 0, _, _, _, _, _ => none
  | k + 1, x0, x1, x2, x3, x43 => if x43 = true then (some (([] : List Int), false)) else ((impl_Rule_cells.f x0 x1 ([] : List Int)).bind fun t174 => ((impl_raised.f k x0 t174).bind fun t175 => ((slices_Repeat_int64_int64.f (([(-1)] : List Int)) t175).bind fun t176 => (impl_learn.l0 k x0 x1 x3 t176 x2 (x2.length : Int) 0 x0 x1))))
def impl_learn.l0 : Nat → Int → Int → List (List Int) → List Int → List (List Int) → Int → Int → Int → Int → Option (List Int × Bool)
  | 0, _, _, _, _, _, _, _, _, _ => none
  | k + 1, x0, x1, x3, x11, x53, x54, x55, x171000, x171001 => if x55 < x54 then (if 0 ≤ x55 then (if x55 < (x53.length : Int) then ((impl_IsRing.f k (rd_L1 x53 x55) x0).bind fun t180 => (if t180 = true then (if x55 < (x3.length : Int) then ((impl_IsRing.f k (rd_L1 x3 x55) x0).bind fun t182 => (if t182 = true then (if ((rd_L1 x53 x55).length : Int) = ((rd_L1 x3 x55).length : Int) then ((impl_Rule_cells.f x171000 x171001 ([] : List Int)).bind fun t184 => (impl_learn.j2 k x0 x1 x3 x11 x55 (rd_L1 x53 x55) x53 x54 x55 (decide (((rd_L1 x53 x55).length : Int) < t184)) x171000 x171001)) else (impl_learn.j2 k x0 x1 x3 x11 x55 (rd_L1 x53 x55) x53 x54 x55 true x171000 x171001)) else (impl_learn.j2 k x0 x1 x3 x11 x55 (rd_L1 x53 x55) x53 x54 x55 true x171000 x171001))) else (none)) else (impl_learn.j2 k x0 x1 x3 x11 x55 (rd_L1 x53 x55) x53 x54 x55 true x171000 x171001))) else (none)) else (none)) else (some (x11, true))
def impl_learn.j2 : Nat → Int → Int → List (List Int) → List Int → Int → List Int → List (List Int) → Int → Int → Bool → Int → Int → Option (List Int × Bool)
  | 0, _, _, _, _, _, _, _, _, _, _, _, _ => none
  | k + 1, x0, x1, x3, x11, x12, x13, x53, x54, x55, x89, x171000, x171001 => if x89 = true then (some (([] : List Int), false)) else (if 0 ≤ x12 then (if x12 < (x3.length : Int) then (impl_learn.l1 k x0 x1 x3 x11 x13 x53 x54 x55 (rd_L1 x3 x12) ((rd_L1 x3 x12).length : Int) 0 x171000 x171001) else (none)) else (none))
def impl_learn.l1 : Nat → Int → Int → List (List Int) → List Int → List Int → List (List Int) → Int → Int → List Int → Int → Int → Int → Int → Option (List Int × Bool)
  | 0, _, _, _, _, _, _, _, _, _, _, _, _, _ => none
  | k + 1, x0, x1, x3, x11, x13, x53, x54, x55, x93, x94, x95, x171000, x171001 => if x95 < x94 then (if 0 ≤ x95 then (if x95 < (x93.length : Int) then (impl_learn.l2 k x0 x1 x3 x11 x13 x95 (rd x93 x95) 0 (wrap64 (x95 - x1)) x53 x54 x55 x93 x94 x95 x171000 x171001) else (none)) else (none)) else (impl_learn.l0 k x0 x1 x3 x11 x53 x54 (wrap64 (x55 + 1)) x171000 x171001)
def impl_learn.l2 : Nat → Int → Int → List (List Int) → List Int → List Int → Int → Int → Int → Int → List (List Int) → Int → Int → List Int → Int → Int → Int → Int → Option (List Int × Bool)
  | 0, _, _, _, _, _, _, _, _, _, _, _, _, _, _, _, _, _ => none
  | k + 1, x0, x1, x3, x11, x13, x14, x15, x16, x17, x53, x54, x55, x93, x94, x95, x171000, x171001 => if x17 ≤ (wrap64 (x14 + x1)) then ((impl_floorMod.f x17 (x13.length : Int)).bind fun t187 => (if 0 ≤ t187 then (if t187 < (x13.length : Int) then (impl_learn.l2 k x0 x1 x3 x11 x13 x14 x15 (wrap64 ((wrap64 (x16 * x0)) + (rd x13 t187))) (wrap64 (x17 + 1)) x53 x54 x55 x93 x94 x95 x171000 x171001) else (none)) else (none))) else (if 0 ≤ x16 then (if x16 < (x11.length : Int) then (if (rd x11 x16) ≥ 0 then (if (rd x11 x16) = x15 then (impl_learn.l1 k x0 x1 x3 (x11.set (x16 : Int).toNat x15) x13 x53 x54 x55 x93 x94 (wrap64 (x95 + 1)) x171000 x171001) else (some (([] : List Int), false))) else (impl_learn.l1 k x0 x1 x3 (x11.set (x16 : Int).toNat x15) x13 x53 x54 x55 x93 x94 (wrap64 (x95 + 1)) x171000 x171001)) else (none)) else (none))
end
def impl_learn.f (k : Nat) (a0 : Int) (a1 : Int) (l2 : List (List Int)) (l3 : List (List Int)) : Option (List Int × Bool) := (impl_areStates.f a0).bind fun t168 => (if t168 = true then ((impl_isReach.f a1).bind fun t169 => (if t169 = true then (if (l2.length : Int) < 1 then (impl_learn.j0 k a0 a1 l2 l3 true) else (if (l2.length : Int) > 32 then (impl_learn.j0 k a0 a1 l2 l3 true) else (impl_learn.j0 k a0 a1 l2 l3 ((l2.length : Int) != (l3.length : Int))))) else (impl_learn.j0 k a0 a1 l2 l3 true))) else (impl_learn.j0 k a0 a1 l2 l3 true))
theorem impl_learn.mono_l : ∀ k, (∀ y0 y1 y2 y3 y4, LeO (impl_learn.j0 k y0 y1 y2 y3 y4) (impl_learn.j0 (k + 1) y0 y1 y2 y3 y4)) ∧ (∀ y0 y1 y2 y3 y4 y5 y6 y7 y8, LeO (impl_learn.l0 k y0 y1 y2 y3 y4 y5 y6 y7 y8) (impl_learn.l0 (k + 1) y0 y1 y2 y3 y4 y5 y6 y7 y8)) ∧ (∀ y0 y1 y2 y3 y4 y5 y6 y7 y8 y9 y10 y11, LeO (impl_learn.j2 k y0 y1 y2 y3 y4 y5 y6 y7 y8 y9 y10 y11) (impl_learn.j2 (k + 1) y0 y1 y2 y3 y4 y5 y6 y7 y8 y9 y10 y11)) ∧ (∀ y0 y1 y2 y3 y4 y5 y6 y7 y8 y9 y10 y11 y12, LeO (impl_learn.l1 k y0 y1 y2 y3 y4 y5 y6 y7 y8 y9 y10 y11 y12) (impl_learn.l1 (k + 1) y0 y1 y2 y3 y4 y5 y6 y7 y8 y9 y10 y11 y12)) ∧ (∀ y0 y1 y2 y3 y4 y5 y6 y7 y8 y9 y10 y11 y12 y13 y14 y15 y16, LeO (impl_learn.l2 k y0 y1 y2 y3 y4 y5 y6 y7 y8 y9 y10 y11 y12 y13 y14 y15 y16) (impl_learn.l2 (k + 1) y0 y1 y2 y3 y4 y5 y6 y7 y8 y9 y10 y11 y12 y13 y14 y15 y16))
  | 0 => ⟨fun _ _ _ _ _ r h => by simp [impl_learn.j0] at h, fun _ _ _ _ _ _ _ _ _ r h => by simp [impl_learn.l0] at h, fun _ _ _ _ _ _ _ _ _ _ _ _ r h => by simp [impl_learn.j2] at h, fun _ _ _ _ _ _ _ _ _ _ _ _ _ r h => by simp [impl_learn.l1] at h, fun _ _ _ _ _ _ _ _ _ _ _ _ _ _ _ _ _ r h => by simp [impl_learn.l2] at h⟩
  | k + 1 => by
    obtain ⟨ih0, ih1, ih2, ih3, ih4⟩ := impl_learn.mono_l k
    refine ⟨?_, ?_, ?_, ?_, ?_⟩
    · intro y0 y1 y2 y3 y4
      unfold impl_learn.j0
      repeat' first
      | (with_reducible exact ih0 _ _ _ _ _)
      | (with_reducible exact ih1 _ _ _ _ _ _ _ _ _)
      | (with_reducible exact ih2 _ _ _ _ _ _ _ _ _ _ _ _)
      | (with_reducible exact ih3 _ _ _ _ _ _ _ _ _ _ _ _ _)
      | (with_reducible exact ih4 _ _ _ _ _ _ _ _ _ _ _ _ _ _ _ _ _)
      | (with_reducible exact impl_IsRing.mono _ _ _)
      | (with_reducible exact impl_raised.mono _ _ _)
      | (with_reducible exact LeO.refl _)
      | (with_reducible exact LeO.none _)
      | (with_reducible refine LeO.ite ?_ ?_)
      | (with_reducible refine LeO.bind ?_ (fun _ => ?_))
      | exact ih0 _ _ _ _ _
      | exact ih1 _ _ _ _ _ _ _ _ _
      | exact ih2 _ _ _ _ _ _ _ _ _ _ _ _
      | exact ih3 _ _ _ _ _ _ _ _ _ _ _ _ _
      | exact ih4 _ _ _ _ _ _ _ _ _ _ _ _ _ _ _ _ _
      | exact impl_IsRing.mono _ _ _
      | exact impl_raised.mono _ _ _
      | exact LeO.none _
      | refine LeO.ite ?_ ?_
      | refine LeO.bind ?_ (fun _ => ?_)
    · intro y0 y1 y2 y3 y4 y5 y6 y7 y8
      unfold impl_learn.l0
      repeat' first
      | (with_reducible exact ih0 _ _ _ _ _)
      | (with_reducible exact ih1 _ _ _ _ _ _ _ _ _)
      | (with_reducible exact ih2 _ _ _ _ _ _ _ _ _ _ _ _)
      | (with_reducible exact ih3 _ _ _ _ _ _ _ _ _ _ _ _ _)
      | (with_reducible exact ih4 _ _ _ _ _ _ _ _ _ _ _ _ _ _ _ _ _)
      | (with_reducible exact impl_IsRing.mono _ _ _)
      | (with_reducible exact impl_raised.mono _ _ _)
      | (with_reducible exact LeO.refl _)
      | (with_reducible exact LeO.none _)
      | (with_reducible refine LeO.ite ?_ ?_)
      | (with_reducible refine LeO.bind ?_ (fun _ => ?_))
      | exact ih0 _ _ _ _ _
      | exact ih1 _ _ _ _ _ _ _ _ _
      | exact ih2 _ _ _ _ _ _ _ _ _ _ _ _
      | exact ih3 _ _ _ _ _ _ _ _ _ _ _ _ _
      | exact ih4 _ _ _ _ _ _ _ _ _ _ _ _ _ _ _ _ _
      | exact impl_IsRing.mono _ _ _
      | exact impl_raised.mono _ _ _
      | exact LeO.none _
      | refine LeO.ite ?_ ?_
      | refine LeO.bind ?_ (fun _ => ?_)
    · intro y0 y1 y2 y3 y4 y5 y6 y7 y8 y9 y10 y11
      unfold impl_learn.j2
      repeat' first
      | (with_reducible exact ih0 _ _ _ _ _)
      | (with_reducible exact ih1 _ _ _ _ _ _ _ _ _)
      | (with_reducible exact ih2 _ _ _ _ _ _ _ _ _ _ _ _)
      | (with_reducible exact ih3 _ _ _ _ _ _ _ _ _ _ _ _ _)
      | (with_reducible exact ih4 _ _ _ _ _ _ _ _ _ _ _ _ _ _ _ _ _)
      | (with_reducible exact impl_IsRing.mono _ _ _)
      | (with_reducible exact impl_raised.mono _ _ _)
      | (with_reducible exact LeO.refl _)
      | (with_reducible exact LeO.none _)
      | (with_reducible refine LeO.ite ?_ ?_)
      | (with_reducible refine LeO.bind ?_ (fun _ => ?_))
      | exact ih0 _ _ _ _ _
      | exact ih1 _ _ _ _ _ _ _ _ _
      | exact ih2 _ _ _ _ _ _ _ _ _ _ _ _
      | exact ih3 _ _ _ _ _ _ _ _ _ _ _ _ _
      | exact ih4 _ _ _ _ _ _ _ _ _ _ _ _ _ _ _ _ _
      | exact impl_IsRing.mono _ _ _
      | exact impl_raised.mono _ _ _
      | exact LeO.none _
      | refine LeO.ite ?_ ?_
      | refine LeO.bind ?_ (fun _ => ?_)
    · intro y0 y1 y2 y3 y4 y5 y6 y7 y8 y9 y10 y11 y12
      unfold impl_learn.l1
      repeat' first
      | (with_reducible exact ih0 _ _ _ _ _)
      | (with_reducible exact ih1 _ _ _ _ _ _ _ _ _)
      | (with_reducible exact ih2 _ _ _ _ _ _ _ _ _ _ _ _)
      | (with_reducible exact ih3 _ _ _ _ _ _ _ _ _ _ _ _ _)
      | (with_reducible exact ih4 _ _ _ _ _ _ _ _ _ _ _ _ _ _ _ _ _)
      | (with_reducible exact impl_IsRing.mono _ _ _)
      | (with_reducible exact impl_raised.mono _ _ _)
      | (with_reducible exact LeO.refl _)
      | (with_reducible exact LeO.none _)
      | (with_reducible refine LeO.ite ?_ ?_)
      | (with_reducible refine LeO.bind ?_ (fun _ => ?_))
      | exact ih0 _ _ _ _ _
      | exact ih1 _ _ _ _ _ _ _ _ _
      | exact ih2 _ _ _ _ _ _ _ _ _ _ _ _
      | exact ih3 _ _ _ _ _ _ _ _ _ _ _ _ _
      | exact ih4 _ _ _ _ _ _ _ _ _ _ _ _ _ _ _ _ _
      | exact impl_IsRing.mono _ _ _
      | exact impl_raised.mono _ _ _
      | exact LeO.none _
      | refine LeO.ite ?_ ?_
      | refine LeO.bind ?_ (fun _ => ?_)
    · intro y0 y1 y2 y3 y4 y5 y6 y7 y8 y9 y10 y11 y12 y13 y14 y15 y16
      unfold impl_learn.l2
      repeat' first
      | (with_reducible exact ih0 _ _ _ _ _)
      | (with_reducible exact ih1 _ _ _ _ _ _ _ _ _)
      | (with_reducible exact ih2 _ _ _ _ _ _ _ _ _ _ _ _)
      | (with_reducible exact ih3 _ _ _ _ _ _ _ _ _ _ _ _ _)
      | (with_reducible exact ih4 _ _ _ _ _ _ _ _ _ _ _ _ _ _ _ _ _)
      | (with_reducible exact impl_IsRing.mono _ _ _)
      | (with_reducible exact impl_raised.mono _ _ _)
      | (with_reducible exact LeO.refl _)
      | (with_reducible exact LeO.none _)
      | (with_reducible refine LeO.ite ?_ ?_)
      | (with_reducible refine LeO.bind ?_ (fun _ => ?_))
      | exact ih0 _ _ _ _ _
      | exact ih1 _ _ _ _ _ _ _ _ _
      | exact ih2 _ _ _ _ _ _ _ _ _ _ _ _
      | exact ih3 _ _ _ _ _ _ _ _ _ _ _ _ _
      | exact ih4 _ _ _ _ _ _ _ _ _ _ _ _ _ _ _ _ _
      | exact impl_IsRing.mono _ _ _
      | exact impl_raised.mono _ _ _
      | exact LeO.none _
      | refine LeO.ite ?_ ?_
      | refine LeO.bind ?_ (fun _ => ?_)
theorem impl_learn.mono : ∀ a0 a1 a2 a3 k, LeO (impl_learn.f k a0 a1 a2 a3) (impl_learn.f (k + 1) a0 a1 a2 a3) := by
 intro a0 a1 a2 a3 k; obtain ⟨ih0, ih1, ih2, ih3, ih4⟩ := impl_learn.mono_l k; unfold impl_learn.f; repeat' first
  | (with_reducible exact ih0 _ _ _ _ _)
  | (with_reducible exact ih1 _ _ _ _ _ _ _ _ _)
  | (with_reducible exact ih2 _ _ _ _ _ _ _ _ _ _ _ _)
  | (with_reducible exact ih3 _ _ _ _ _ _ _ _ _ _ _ _ _)
  | (with_reducible exact ih4 _ _ _ _ _ _ _ _ _ _ _ _ _ _ _ _ _)
  | (with_reducible exact impl_IsRing.mono _ _ _)
  | (with_reducible exact impl_raised.mono _ _ _)
  | (with_reducible exact LeO.refl _)
  | (with_reducible exact LeO.none _)
  | (with_reducible refine LeO.ite ?_ ?_)
  | (with_reducible refine LeO.bind ?_ (fun _ => ?_))
  | exact ih0 _ _ _ _ _
  | exact ih1 _ _ _ _ _ _ _ _ _
  | exact ih2 _ _ _ _ _ _ _ _ _ _ _ _
  | exact ih3 _ _ _ _ _ _ _ _ _ _ _ _ _
  | exact ih4 _ _ _ _ _ _ _ _ _ _ _ _ _ _ _ _ _
  | exact impl_IsRing.mono _ _ _
  | exact impl_raised.mono _ _ _
  | exact LeO.none _
  | refine LeO.ite ?_ ?_
  | refine LeO.bind ?_ (fun _ => ?_)
set_option maxHeartbeats 8000000 in
set_option maxRecDepth 100000 in
theorem impl_learn.calls (k : Nat) (a0 : Int) (a1 : Int) (A2 : Option Addr) (c2 : Nat) (l2 : List (List Int)) (A3 : Option Addr) (c3 : Nat) (l3 : List (List Int)) (r1 : List Int) (r2 : Bool) (w : World) (hr2 : Kd.C (Kd.slice 2 (Kd.int .i64)) w A2 l2.length l2) (hc2 : l2.length ≤ c2) (hr3 : Kd.C (Kd.slice 2 (Kd.int .i64)) w A3 l3.length l3) (hc3 : l3.length ≤ c3) (h : impl_learn.f k a0 a1 l2 l3 = some (r1, r2)) :
    Calls Try.prog 88 #[.int .i64 a0, .int .i64 a1, .slice A2 l2.length c2, .slice A3 l3.length c3] w fun e w' => ∃ v0_ : Value, e = .returned (.tuple #[v0_, .bool r2]) ∧ Kd.R (Kd.int .i64) 2 w' w.heap.size (fun _ => True) v0_ r1 ∧ Below w.heap.size w w' := by
 have hu38 := Try.underlying38; have HR2 := Aside0.mk hr2; have HC2 := Aside0.mk hc2; clear hr2 hc2; have HR3 := Aside0.mk hr3; have HC3 := Aside0.mk hc3; clear hr3 hc3; have HB := Aside0.mk (Below.refl w.heap.size w); have H : ((impl_areStates.f a0).bind fun t168 => (if t168 = true then ((impl_isReach.f a1).bind fun t169 => (if t169 = true then (if (l2.length : Int) < 1 then (impl_learn.j0 k a0 a1 l2 l3 true) else (if (l2.length : Int) > 32 then (impl_learn.j0 k a0 a1 l2 l3 true) else (impl_learn.j0 k a0 a1 l2 l3 ((l2.length : Int) != (l3.length : Int))))) else (impl_learn.j0 k a0 a1 l2 l3 true))) else (impl_learn.j0 k a0 a1 l2 l3 true))) = some (r1, r2) := h; clear h; have HC5 := Aside0.mk H; clear H; go_enter Try.func88, Try.ntmps88; go_upto_region 1 with (fail); go_cut [43] (fun v43 wc => ∃ (kq : Nat) (x43_4 : Bool), v43 = .bool x43_4 ∧ Aside0 (impl_learn.j0 kq a0 a1 l2 l3 x43_4 = some (r1, r2)) ∧ Aside0 (kq ≤ k) ∧ Aside0 (Below w.heap.size w wc)); case first =>
  have H := HC5.out; clear HC5; replace H := Option.bind_eq_some_iff.mp H; obtain ⟨t168, A60, H⟩ := H; replace H : (if t168 = true then ((impl_isReach.f a1).bind fun t169 => (if t169 = true then (if (l2.length : Int) < 1 then (impl_learn.j0 k a0 a1 l2 l3 true) else (if (l2.length : Int) > 32 then (impl_learn.j0 k a0 a1 l2 l3 true) else (impl_learn.j0 k a0 a1 l2 l3 ((l2.length : Int) != (l3.length : Int))))) else (impl_learn.j0 k a0 a1 l2 l3 true))) else (impl_learn.j0 k a0 a1 l2 l3 true)) = some (r1, r2) := H; have A6 := Aside0.mk A60; clear A60; by_cases c7 : t168 = true
  · subst c7; have H1 : ((impl_isReach.f a1).bind fun t169 => (if t169 = true then (if (l2.length : Int) < 1 then (impl_learn.j0 k a0 a1 l2 l3 true) else (if (l2.length : Int) > 32 then (impl_learn.j0 k a0 a1 l2 l3 true) else (impl_learn.j0 k a0 a1 l2 l3 ((l2.length : Int) != (l3.length : Int))))) else (impl_learn.j0 k a0 a1 l2 l3 true))) = some (r1, r2) := by rw [if_pos rfl] at H; exact H
    clear H; have H := H1; clear H1; replace H := Option.bind_eq_some_iff.mp H; obtain ⟨t169, A80, H⟩ := H; replace H : (if t169 = true then (if (l2.length : Int) < 1 then (impl_learn.j0 k a0 a1 l2 l3 true) else (if (l2.length : Int) > 32 then (impl_learn.j0 k a0 a1 l2 l3 true) else (impl_learn.j0 k a0 a1 l2 l3 ((l2.length : Int) != (l3.length : Int))))) else (impl_learn.j0 k a0 a1 l2 l3 true)) = some (r1, r2) := H; have A8 := Aside0.mk A80; clear A80; by_cases c9 : t169 = true
    · subst c9; have H1 : (if (l2.length : Int) < 1 then (impl_learn.j0 k a0 a1 l2 l3 true) else (if (l2.length : Int) > 32 then (impl_learn.j0 k a0 a1 l2 l3 true) else (impl_learn.j0 k a0 a1 l2 l3 ((l2.length : Int) != (l3.length : Int))))) = some (r1, r2) := by rw [if_pos rfl] at H; exact H
      clear H; have H := H1; clear H1; by_cases c10 : (l2.length : Int) < 1
      · rw [if_pos c10] at H; have c10b0 : decide ((l2.length : Int) < 1) = true := decide_eq_true c10; have c10b1 : decide (l2.length < 1) = true := decide_eq_true (by omega); clear c10; (first | rw [c10b0] | (simp only [i64_w, i32_w]; rw [c10b0]) | skip); have H' := Aside0.mk H; clear H; go_wp2_with (first | ((with_reducible refine gate_callee (f := 71) rfl ?_); refine gL_ (some 20) Try.func71 #[.int .i64 a0] ?_; (with_reducible refine (impl_areStates.calls a0 true _ A6.out).mono ?_); rintro e w' ⟨rfl, ⟨nd, rfl⟩⟩; refine ⟨_, rfl, ?_⟩) | (go_at_call 72; (with_reducible refine (impl_isReach.calls a1 true _ A8.out).mono ?_); rintro e w' ⟨rfl, ⟨nd, rfl⟩⟩)); go_meet; case rel => exact ⟨_, (true), (by first | rfl | (simp; done) | (simp [i64_w, i32_w]; done) | (simp [*]; done) | (simp [*, i64_w, i32_w]; done)), H', ⟨by first | omega | exact Nat.le_refl _⟩, ⟨bk_ HB.out⟩⟩
      · rw [if_neg c10] at H; have c10b0 : decide ((l2.length : Int) < 1) = false := decide_eq_false c10; have c10b1 : decide (l2.length < 1) = false := decide_eq_false (by omega); clear c10; (first | rw [c10b0] | (simp only [i64_w, i32_w]; rw [c10b0]) | skip); by_cases c11 : (l2.length : Int) > 32
        · rw [if_pos c11] at H; have c11b0 : decide (32 < (l2.length : Int)) = true := decide_eq_true c11; have c11b1 : decide (32 < l2.length) = true := decide_eq_true (by omega); clear c11; have H' := Aside0.mk H; clear H; go_wp2_with (first | ((with_reducible refine gate_callee (f := 71) rfl ?_); refine gL_ (some 20) Try.func71 #[.int .i64 a0] ?_; (with_reducible refine (impl_areStates.calls a0 true _ A6.out).mono ?_); rintro e w' ⟨rfl, ⟨nd, rfl⟩⟩; refine ⟨_, rfl, ?_⟩) | (go_at_call 72; (with_reducible refine (impl_isReach.calls a1 true _ A8.out).mono ?_); rintro e w' ⟨rfl, ⟨nd, rfl⟩⟩)); go_meet; case rel => exact ⟨_, (true), (by first | rfl | (simp; done) | (simp [i64_w, i32_w]; done) | (simp [*]; done) | (simp [*, i64_w, i32_w]; done)), H', ⟨by first | omega | exact Nat.le_refl _⟩, ⟨bk_ HB.out⟩⟩
        · rw [if_neg c11] at H; have c11b0 : decide (32 < (l2.length : Int)) = false := decide_eq_false c11; have c11b1 : decide (32 < l2.length) = false := decide_eq_false (by omega); clear c11; have H' := Aside0.mk H; clear H; go_wp2_with (first | ((with_reducible refine gate_callee (f := 71) rfl ?_); refine gL_ (some 20) Try.func71 #[.int .i64 a0] ?_; (with_reducible refine (impl_areStates.calls a0 true _ A6.out).mono ?_); rintro e w' ⟨rfl, ⟨nd, rfl⟩⟩; refine ⟨_, rfl, ?_⟩) | (go_at_call 72; (with_reducible refine (impl_isReach.calls a1 true _ A8.out).mono ?_); rintro e w' ⟨rfl, ⟨nd, rfl⟩⟩)); go_meet; case rel => exact ⟨_, (((l2.length : Int) != (l3.length : Int))), (by first | rfl | (simp; done) | (simp [i64_w, i32_w]; done) | (simp [*]; done) | (simp [*, i64_w, i32_w]; done)), H', ⟨by first | omega | exact Nat.le_refl _⟩, ⟨bk_ HB.out⟩⟩
    · replace c9 := Bool.eq_false_iff.mpr c9; subst c9; have H1 : (impl_learn.j0 k a0 a1 l2 l3 true) = some (r1, r2) := by rw [if_neg (show ¬ (false = true) by decide)] at H; exact H
      clear H; have H := H1; clear H1; have H' := Aside0.mk H; clear H; go_wp2_with (first | ((with_reducible refine gate_callee (f := 71) rfl ?_); refine gL_ (some 20) Try.func71 #[.int .i64 a0] ?_; (with_reducible refine (impl_areStates.calls a0 true _ A6.out).mono ?_); rintro e w' ⟨rfl, ⟨nd, rfl⟩⟩; refine ⟨_, rfl, ?_⟩) | (go_at_call 72; (with_reducible refine (impl_isReach.calls a1 false _ A8.out).mono ?_); rintro e w' ⟨rfl, ⟨nd, rfl⟩⟩)); go_meet; case rel => exact ⟨_, (true), (by first | rfl | (simp; done) | (simp [i64_w, i32_w]; done) | (simp [*]; done) | (simp [*, i64_w, i32_w]; done)), H', ⟨by first | omega | exact Nat.le_refl _⟩, ⟨bk_ HB.out⟩⟩
  · replace c7 := Bool.eq_false_iff.mpr c7; subst c7; have H1 : (impl_learn.j0 k a0 a1 l2 l3 true) = some (r1, r2) := by rw [if_neg (show ¬ (false = true) by decide)] at H; exact H
    clear H; have H := H1; clear H1; have H' := Aside0.mk H; clear H; go_wp2_with (first | ((with_reducible refine gate_callee (f := 71) rfl ?_); refine gL_ (some 20) Try.func71 #[.int .i64 a0] ?_; (with_reducible refine (impl_areStates.calls a0 false _ A6.out).mono ?_); rintro e w' ⟨rfl, ⟨nd, rfl⟩⟩; refine ⟨_, rfl, ?_⟩)); go_meet; case rel => exact ⟨_, (true), (by first | rfl | (simp; done) | (simp [i64_w, i32_w]; done) | (simp [*]; done) | (simp [*, i64_w, i32_w]; done)), H', ⟨by first | omega | exact Nat.le_refl _⟩, ⟨bk_ HB.out⟩⟩
 case rest =>
  clear HC5; (try clear c1); (try clear c2); (try clear p2); (try clear c3); (try clear c7); (try clear c8); (try clear c9); (try clear c10); (try clear c10b0); (try clear c10b1); (try clear c11); (try clear c11b0); (try clear c11b1); obtain ⟨kq, x43_4, rfl, HA, HJ4, HB⟩ := hcut; cases kq with
  | zero => exact absurd HA.out (by simp [impl_learn.j0])
  | succ kj4 =>
   have H := HA.out; clear HA; simp only [impl_learn.j0] at H; by_cases c12 : x43_4 = true
   · subst c12; have H1 : (some (([] : List Int), false)) = some (r1, r2) := by rw [if_pos rfl] at H; exact H
     clear H; have H := H1; clear H1; simp only [Option.some.injEq, Prod.mk.injEq] at H; obtain ⟨rfl, rfl⟩ := H; go_wp2; go_ret2; exact ⟨_, by first | rfl | (simp [errW_none, errW_some] <;> rfl) | (simp [*, errW_none, errW_some] <;> rfl), by first | exact Kd.R_nil _ _ _ _ _ | exact Kd.N_nil _ _ _ _ _ | exact Kd.V_nil _ _ _ _ _ | exact Kd.Q_nil _ _ _ _ _ | exact Kd.S_nil _ _ _ _ _, bk_ HB.out⟩
   · replace c12 := Bool.eq_false_iff.mpr c12; subst c12; have H1 : ((impl_Rule_cells.f a0 a1 ([] : List Int)).bind fun t174 => ((impl_raised.f kj4 a0 t174).bind fun t175 => ((slices_Repeat_int64_int64.f (([(-1)] : List Int)) t175).bind fun t176 => (impl_learn.l0 kj4 a0 a1 l3 t176 l2 (l2.length : Int) 0 a0 a1)))) = some (r1, r2) := by rw [if_neg (show ¬ (false = true) by decide)] at H; exact H
     clear H; have H := H1; clear H1; obtain ⟨y171, hy171⟩ : ∃ y_ : List Int, y_ = (([(-1)] : List Int)) := ⟨_, rfl⟩; replace H : ((impl_Rule_cells.f a0 a1 ([] : List Int)).bind fun t174 => ((impl_raised.f kj4 a0 t174).bind fun t175 => ((slices_Repeat_int64_int64.f y171 t175).bind fun t176 => (impl_learn.l0 kj4 a0 a1 l3 t176 l2 (l2.length : Int) 0 a0 a1)))) = some (r1, r2) := by first | (rw [hy171]; with_reducible exact H) | (have H2_ := (Option.bind_some _ _).symm.trans H; rw [hy171]; with_reducible exact H2_) | (have H2_ := (Option.bind_some _ _).symm.trans H; with_reducible exact H2_) | with_reducible exact H | (rw [hy171]; exact H) | exact H
     have Ny171 := Aside0.mk hy171; clear hy171; replace H := Option.bind_eq_some_iff.mp H; obtain ⟨t174, A130, H⟩ := H; replace H : ((impl_raised.f kj4 a0 t174).bind fun t175 => ((slices_Repeat_int64_int64.f y171 t175).bind fun t176 => (impl_learn.l0 kj4 a0 a1 l3 t176 l2 (l2.length : Int) 0 a0 a1))) = some (r1, r2) := H; have A13 := Aside0.mk A130; clear A130; replace H := Option.bind_eq_some_iff.mp H; obtain ⟨t175, A140, H⟩ := H; replace H : ((slices_Repeat_int64_int64.f y171 t175).bind fun t176 => (impl_learn.l0 kj4 a0 a1 l3 t176 l2 (l2.length : Int) 0 a0 a1)) = some (r1, r2) := H; have A14 := Aside0.mk A140; clear A140; replace H := Option.bind_eq_some_iff.mp H; obtain ⟨t176, A150, H⟩ := H; replace H : (impl_learn.l0 kj4 a0 a1 l3 t176 l2 (l2.length : Int) 0 a0 a1) = some (r1, r2) := H; have A15 := Aside0.mk A150; clear A150; have H' := Aside0.mk H; clear H; go_wp2_with (first | ((with_reducible refine gate_dst (N := 10) rfl ?_); (try (refine gate_guard (by rfl) ?_; dsimp only)); refine box_event ?hg (N := 10) ?hd (cs := #[.int .i64 0, .int .i64 0, .slice none 0 0]) (t := 38) ?hr ?_; (case hd => rfl); (case hg => rfl); (case hr => first | (go_simp; done) | (go_simp; rfl)); intro gb170 hg w16 hbox hb; have n0_ := Aside0.mk (below_step (bk_ HB.out) hb); have n1_ := Aside0.mk (hbox); have n2_ := Aside0.mk ((by rw [hg]; exact (below_size (bk_ HB.out)) : w.heap.size ≤ gb170)); have n3_ := Aside0.mk ((by rw [hg]; exact (below_size (bk_ HB.out)) : w.heap.size ≤ gb170)); clear HB; have HB := n0_; have BK170 := n1_; have GW170 := n2_; have GE170 := n3_; clear n0_ n1_ n2_ n3_ hb hbox hg; have hcz17_0 := bc_ BK170.out 0 (.int .i64 0); have hcz17_1 := bc_ BK170.out 1 (.int .i64 0); have hcz17_2 := bc_ BK170.out 2 (.slice none 0 0); have hfz17_0 := blk_frozen BK170.out 0; have hfz17_1 := blk_frozen BK170.out 1; have hfz17_2 := blk_frozen BK170.out 2) | ((with_reducible refine gate_dst (N := 47) rfl ?_); (try (refine gate_guard (by rfl) ?_; dsimp only)); refine Kd.R_lit (Kd.int .i64) _ 2 ?hg (N := 47) ?hd (xs := ([(-1)] : List Int)) (inner := [.int .i64 (-1)]) (ok := fun _ => True) (okp := fun _ => True) ?hr ?hp (fun _ hk => hk) trivial (Below.refl _ _) (Nat.le_refl _) (by simp) ?_; (case hd => rfl); (case hg => rfl); (case hr => first | (go_simp; done) | (go_simp; rfl)); (case hp => exact (Reps.one (show Kd.M (Kd.int .i64) _ _ _ (-1) [.int .i64 (-1)] from rfl) (Reps.none _ _))); intro v172 w18 ho19 hb hg_ hnew_; clear hg_ hnew_; (first | rw [← Ny171.out] at ho19 | (simp only [Int.reduceToNat] at ho19; rw [← Ny171.out] at ho19)); have n0_ := Aside0.mk (Kd.R_lower ho19 (below_size (bk_ HB.out))); have n1_ := Aside0.mk (blk_below (g := gb170) (o := .cells #[.int .i64 a0, .int .i64 a1, .slice none 0 0] 38 (0, 0)) (by (with_reducible repeat (first | refine blk_drewN ?_ _ | refine blk_drew ?_ | refine blk_alloc ?_ _)); refine blk_put (cs := #[.int .i64 a0, .int .i64 a1, .slice none 0 0]) ?_ 2 _ rfl; (with_reducible repeat (first | refine blk_drewN ?_ _ | refine blk_drew ?_ | refine blk_alloc ?_ _)); refine blk_put (cs := #[.int .i64 a0, .int .i64 0, .slice none 0 0]) ?_ 1 _ rfl; (with_reducible repeat (first | refine blk_drewN ?_ _ | refine blk_drew ?_ | refine blk_alloc ?_ _)); refine blk_put (cs := #[.int .i64 0, .int .i64 0, .slice none 0 0]) ?_ 0 _ rfl; (with_reducible repeat (first | refine blk_drewN ?_ _ | refine blk_drew ?_ | refine blk_alloc ?_ _)); exact BK170.out) hb); have n2_ := Aside0.mk (below_step (bk_ HB.out) hb); clear BK170 HB; have HO173 := n0_; have BK170 := n1_; have HB := n2_; clear n0_ n1_ n2_ hb ho19; have hcz20_0 := bc_ BK170.out 0 (.int .i64 a0); have hcz20_1 := bc_ BK170.out 1 (.int .i64 a1); have hcz20_2 := bc_ BK170.out 2 (.slice none 0 0); have hfz20_0 := blk_frozen BK170.out 0; have hfz20_1 := blk_frozen BK170.out 1; have hfz20_2 := blk_frozen BK170.out 2) | ((with_reducible refine gate_callee (f := 111) rfl ?_); refine gL_ (some 50) Try.func111 #[.agg #[.int .i64 a0, .int .i64 a1, .slice none 0 0]] ?_; (refine (impl_Rule_cells.calls a0 a1 _ _ ([] : List Int) t174 _ ?side1 ?side2 A13.out).mono ?_); (case side1 => exact Kd.C_nil _ _); (case side2 => exact Nat.le_refl _); rintro e w21 ⟨rfl, hb⟩; refine ⟨_, rfl, ?_⟩; have n0_ := Aside0.mk (Kd.R_below (rk_ HO173.out) hb); have n1_ := Aside0.mk (bb_ BK170.out hb); have n2_ := Aside0.mk (below_step (bk_ HB.out) hb); clear HO173 BK170 HB; have HO173 := n0_; have BK170 := n1_; have HB := n2_; clear n0_ n1_ n2_; (try clear hb); (try clear hb2); (try clear hk); (try clear hi)) | ((with_reducible refine gate_callee (f := 110) rfl ?_); refine gL_ (some 51) Try.func110 #[.int .i64 a0, .int .i64 t174] ?_; (with_reducible refine (impl_raised.calls kj4 a0 t174 t175 _ A14.out).mono ?_); rintro e w' ⟨rfl, ⟨nd, rfl⟩⟩; refine ⟨_, rfl, ?_⟩; obtain ⟨Ao22, co22, eo22⟩ := Kd.R_slice HO173.out; subst eo22) | ((with_reducible refine gate_callee (f := 120) rfl ?_); refine gL_ (some 52) Try.func120 #[.slice Ao22 y171.length co22, .int .i64 t175] ?_; (with_reducible refine (slices_Repeat_int64_int64.calls _ _ y171 t175 t176 _ ?side1 ?side2 A15.out).mono ?_); (case side1 => exact ck_ (Kd.R_reads' HO173.out).2.2); (case side2 => exact (Kd.R_reads' HO173.out).2.1); rintro e w23 ⟨v177, rfl, ho0, hb⟩; refine ⟨_, rfl, ?_⟩; have n0_ := Aside0.mk (Kd.R_elder' (rk_ HO173.out) (Kd.R_base ho0) hb); have n1_ := Aside0.mk (Kd.R_lower (Kd.R_new' ho0 (Kd.R_lt (rk_ HO173.out))) (below_size (bk_ HB.out))); have n2_ := Aside0.mk (bb_ BK170.out hb); have n3_ := Aside0.mk (below_step (bk_ HB.out) hb); clear HO173 BK170 HB; have HO173 := n0_; have HO178 := n1_; have BK170 := n2_; have HB := n3_; clear n0_ n1_ n2_ n3_; (try clear hb); (try clear hb2); (try clear hk); (try clear hi); (try clear ho0)))
     go_loopg [55] kj4 (fun kq v55 w' => ∃ (x11_2 : List Int) (x55_2 : Int), v55 = .int .i64 x55_2 ∧ Aside0 (impl_learn.l0 kq a0 a1 l3 x11_2 l2 (l2.length : Int) x55_2 a0 a1 = some (r1, r2)) ∧ Aside0 (kq ≤ kj4) ∧ Aside0 (Kd.R (Kd.int .i64) 2 w' w.heap.size (fun _ => True) v177 x11_2) ∧ Aside0 (w'.heap[gb170]? = some (.cells #[.int .i64 a0, .int .i64 a1, (.slice none 0 0)] 38 (0, 0))) ∧ Aside0 (Below w.heap.size w w')); case atStart => exact ⟨(t176), (0), (by first | rfl | (simp; done) | (simp [i64_w, i32_w]; done) | (simp [*]; done) | (simp [*, i64_w, i32_w]; done)), H', ⟨Nat.le_refl _⟩, ⟨by (with_reducible repeat (first | apply Kd.R_alloc | apply Kd.R_drewN | apply Kd.R_drew)); exact Kd.R_mono HO178.out (fun _ hk => trivial)⟩, ⟨pk_ BK170.out⟩, ⟨bk_ HB.out⟩⟩
     case round =>
      clear H'; (try clear c1); (try clear c2); (try clear p2); (try clear c3); (try clear c7); (try clear c8); (try clear c9); (try clear c10); (try clear c10b0); (try clear c10b1); (try clear c11); (try clear c11b0); (try clear c11b1); (try clear c12); (try clear hcz17_0); (try clear hcz17_1); (try clear hcz17_2); (try clear hcz20_0); (try clear hcz20_1); (try clear hcz20_2); (try clear hfz17_0); (try clear hfz17_1); (try clear hfz17_2); (try clear hfz20_0); (try clear hfz20_1); (try clear hfz20_2); (try clear p2); obtain ⟨x11_2, x55_2, rfl, HA, HK2, HO_11, BK170, HB⟩ := hrel; cases gk with
      | zero => exact absurd HA.out (by simp [impl_learn.l0])
      | succ k2 =>
       have H := HA.out; clear HA; simp only [impl_learn.l0] at H; by_cases c24 : x55_2 < (l2.length : Int)
       · rw [if_pos c24] at H; have c24b0 : decide (x55_2 < (l2.length : Int)) = true := decide_eq_true c24; clear c24; by_cases c25 : 0 ≤ x55_2
         · rw [if_pos c25] at H; have c25b0 : decide (0 ≤ x55_2) = true := decide_eq_true c25; clear c25; by_cases c26 : x55_2 < (l2.length : Int)
           · rw [if_pos c26] at H; have c26b0 : decide (x55_2 < (l2.length : Int)) = true := decide_eq_true c26; clear c26; have HC27 := Aside0.mk H; clear H; have p179 : 0 ≤ (x55_2 : Int) := of_decide_eq_true (by first | (with_reducible assumption) | assumption); have q179 : x55_2 < (l2.length : Int) := of_decide_eq_true (by first | (with_reducible assumption) | assumption); obtain ⟨ad179, A179_0, c179_0, e179, hx179_0, hl179_0, hi179_0⟩ := at_L1 HR2.out x55_2 p179 q179; cases e179
             replace hx179_0 := (HB.out.cell (World.block_lt_of_cell? w _ hx179_0)).trans hx179_0; have HR179_0 := Aside0.mk hi179_0; have HC179_0 := Aside0.mk hl179_0; clear hi179_0 hl179_0; replace p179 := eq_true p179; replace q179 := eq_true q179; go_upto_region 8 with (fail); go_cut [89] (fun v89 wc => ∃ (kq : Nat) (x89_26 : Bool), v89 = .bool x89_26 ∧ Aside0 (impl_learn.j2 kq a0 a1 l3 x11_2 x55_2 (rd_L1 l2 x55_2) l2 (l2.length : Int) x55_2 x89_26 a0 a1 = some (r1, r2)) ∧ Aside0 (kq ≤ k2) ∧ Aside0 (Kd.R (Kd.int .i64) 2 wc w.heap.size (fun _ => True) v177 x11_2) ∧ Aside0 (wc.heap[gb170]? = some (.cells #[.int .i64 a0, .int .i64 a1, (.slice none 0 0)] 38 (0, 0))) ∧ Aside0 (Below w.heap.size w wc)); case first =>
              have H := HC27.out; clear HC27; replace H := Option.bind_eq_some_iff.mp H; obtain ⟨t180, A280, H⟩ := H; replace H : (if t180 = true then (if x55_2 < (l3.length : Int) then ((impl_IsRing.f k2 (rd_L1 l3 x55_2) a0).bind fun t182 => (if t182 = true then (if ((rd_L1 l2 x55_2).length : Int) = ((rd_L1 l3 x55_2).length : Int) then ((impl_Rule_cells.f a0 a1 ([] : List Int)).bind fun t184 => (impl_learn.j2 k2 a0 a1 l3 x11_2 x55_2 (rd_L1 l2 x55_2) l2 (l2.length : Int) x55_2 (decide (((rd_L1 l2 x55_2).length : Int) < t184)) a0 a1)) else (impl_learn.j2 k2 a0 a1 l3 x11_2 x55_2 (rd_L1 l2 x55_2) l2 (l2.length : Int) x55_2 true a0 a1)) else (impl_learn.j2 k2 a0 a1 l3 x11_2 x55_2 (rd_L1 l2 x55_2) l2 (l2.length : Int) x55_2 true a0 a1))) else (none)) else (impl_learn.j2 k2 a0 a1 l3 x11_2 x55_2 (rd_L1 l2 x55_2) l2 (l2.length : Int) x55_2 true a0 a1)) = some (r1, r2) := H; have A28 := Aside0.mk A280; clear A280; by_cases c29 : t180 = true
              · subst c29; have H1 : (if x55_2 < (l3.length : Int) then ((impl_IsRing.f k2 (rd_L1 l3 x55_2) a0).bind fun t182 => (if t182 = true then (if ((rd_L1 l2 x55_2).length : Int) = ((rd_L1 l3 x55_2).length : Int) then ((impl_Rule_cells.f a0 a1 ([] : List Int)).bind fun t184 => (impl_learn.j2 k2 a0 a1 l3 x11_2 x55_2 (rd_L1 l2 x55_2) l2 (l2.length : Int) x55_2 (decide (((rd_L1 l2 x55_2).length : Int) < t184)) a0 a1)) else (impl_learn.j2 k2 a0 a1 l3 x11_2 x55_2 (rd_L1 l2 x55_2) l2 (l2.length : Int) x55_2 true a0 a1)) else (impl_learn.j2 k2 a0 a1 l3 x11_2 x55_2 (rd_L1 l2 x55_2) l2 (l2.length : Int) x55_2 true a0 a1))) else (none)) = some (r1, r2) := by rw [if_pos rfl] at H; exact H
                clear H; have H := H1; clear H1; by_cases c30 : x55_2 < (l3.length : Int)
                · rw [if_pos c30] at H; have c30b0 : decide (x55_2 < (l3.length : Int)) = true := decide_eq_true c30; clear c30; (first | rw [c30b0] | (simp only [i64_w, i32_w]; rw [c30b0]) | skip); replace H := Option.bind_eq_some_iff.mp H; obtain ⟨t182, A310, H⟩ := H; replace H : (if t182 = true then (if ((rd_L1 l2 x55_2).length : Int) = ((rd_L1 l3 x55_2).length : Int) then ((impl_Rule_cells.f a0 a1 ([] : List Int)).bind fun t184 => (impl_learn.j2 k2 a0 a1 l3 x11_2 x55_2 (rd_L1 l2 x55_2) l2 (l2.length : Int) x55_2 (decide (((rd_L1 l2 x55_2).length : Int) < t184)) a0 a1)) else (impl_learn.j2 k2 a0 a1 l3 x11_2 x55_2 (rd_L1 l2 x55_2) l2 (l2.length : Int) x55_2 true a0 a1)) else (impl_learn.j2 k2 a0 a1 l3 x11_2 x55_2 (rd_L1 l2 x55_2) l2 (l2.length : Int) x55_2 true a0 a1)) = some (r1, r2) := H; have A31 := Aside0.mk A310; clear A310; by_cases c32 : t182 = true
                  · subst c32; have H1 : (if ((rd_L1 l2 x55_2).length : Int) = ((rd_L1 l3 x55_2).length : Int) then ((impl_Rule_cells.f a0 a1 ([] : List Int)).bind fun t184 => (impl_learn.j2 k2 a0 a1 l3 x11_2 x55_2 (rd_L1 l2 x55_2) l2 (l2.length : Int) x55_2 (decide (((rd_L1 l2 x55_2).length : Int) < t184)) a0 a1)) else (impl_learn.j2 k2 a0 a1 l3 x11_2 x55_2 (rd_L1 l2 x55_2) l2 (l2.length : Int) x55_2 true a0 a1)) = some (r1, r2) := by rw [if_pos rfl] at H; exact H
                    clear H; have H := H1; clear H1; by_cases c33 : ((rd_L1 l2 x55_2).length : Int) = ((rd_L1 l3 x55_2).length : Int)
                    · rw [if_pos c33] at H; have c33b0 : (((rd_L1 l2 x55_2).length : Int) == ((rd_L1 l3 x55_2).length : Int)) = true := beq_iff_eq.mpr c33; have c33b1 : (((rd_L1 l2 x55_2).length : Int) != ((rd_L1 l3 x55_2).length : Int)) = false := bne_eq_false_iff_eq.mpr c33; have c33b2 : ((rd_L1 l2 x55_2).length == (rd_L1 l3 x55_2).length) = true := by first | simpa using c33 | (simp at c33 ⊢; omega)
                      clear c33; replace H := Option.bind_eq_some_iff.mp H; obtain ⟨t184, A340, H⟩ := H; replace H : (impl_learn.j2 k2 a0 a1 l3 x11_2 x55_2 (rd_L1 l2 x55_2) l2 (l2.length : Int) x55_2 (decide (((rd_L1 l2 x55_2).length : Int) < t184)) a0 a1) = some (r1, r2) := H; have A34 := Aside0.mk A340; clear A340; have H' := Aside0.mk H; clear H; go_wp2_with (first | ((with_reducible refine gate_callee (f := 62) rfl ?_); refine gL_ (some 62) Try.func62 #[.slice A179_0 (rd_L1 l2 x55_2).length c179_0, .int .i64 a0] ?_; (with_reducible refine (impl_IsRing.calls k2 _ _ (rd_L1 l2 x55_2) a0 true _ ?side1 ?side2 A28.out).mono ?_); (case side1 => exact ck_ (Kd.C_below HR179_0.out HB.out)); (case side2 => exact HC179_0.out); rintro e w' ⟨rfl, ⟨nd, rfl⟩⟩; refine ⟨_, rfl, ?_⟩; have p181 : 0 ≤ (x55_2 : Int) := of_decide_eq_true (by first | (with_reducible assumption) | assumption); have q181 : x55_2 < (l3.length : Int) := of_decide_eq_true (by first | (with_reducible assumption) | assumption); obtain ⟨ad181, A181_0, c181_0, e181, hx181_0, hl181_0, hi181_0⟩ := at_L1 HR3.out x55_2 p181 q181; cases e181; replace hx181_0 := (HB.out.cell (World.block_lt_of_cell? w _ hx181_0)).trans hx181_0; have HR181_0 := Aside0.mk hi181_0; have HC181_0 := Aside0.mk hl181_0; clear hi181_0 hl181_0; replace p181 := eq_true p181; replace q181 := eq_true q181) | (go_at_call 62; (with_reducible refine (impl_IsRing.calls k2 _ _ (rd_L1 l3 x55_2) a0 true _ ?side1 ?side2 A31.out).mono ?_); (case side1 => repeat (first | exact (Kd.C_below HR181_0.out (bk_ HB.out)) | (with_reducible refine Kd.C_alloc ?_ _) | (with_reducible refine Kd.C_drewN ?_ _) | (with_reducible refine Kd.C_drew ?_))); (case side2 => exact HC181_0.out); rintro e w' ⟨rfl, ⟨nd, rfl⟩⟩; have p183 : 0 ≤ (x55_2 : Int) := of_decide_eq_true (by first | (with_reducible assumption) | assumption); have q183 : x55_2 < (l3.length : Int) := of_decide_eq_true (by first | (with_reducible assumption) | assumption); obtain ⟨ad183, A183_0, c183_0, e183, hx183_0, hl183_0, hi183_0⟩ := at_L1 HR3.out x55_2 p183 q183; obtain rfl : ad181 = ad183 := (by injection e183); replace hx183_0 := (HB.out.cell (World.block_lt_of_cell? w _ hx183_0)).trans hx183_0; have HR183_0 := Aside0.mk hi183_0; have HC183_0 := Aside0.mk hl183_0; clear hi183_0 hl183_0; replace p183 := eq_true p183; replace q183 := eq_true q183; have ea_ := Option.some.inj (hx181_0.symm.trans hx183_0); injection ea_ with ea_ en_ ec_; subst ea_; subst ec_; clear en_; have hcz35_0 := bc_ BK170.out 0 (.int .i64 a0); have hcz35_1 := bc_ BK170.out 1 (.int .i64 a1); have hcz35_2 := bc_ BK170.out 2 (.slice none 0 0); have hfz35_0 := blk_frozen BK170.out 0; have hfz35_1 := blk_frozen BK170.out 1; have hfz35_2 := blk_frozen BK170.out 2) | (go_at_call 111; (refine (impl_Rule_cells.calls a0 a1 _ _ ([] : List Int) t184 _ ?side1 ?side2 A34.out).mono ?_); (case side1 => exact Kd.C_nil _ _); (case side2 => exact Nat.le_refl _); rintro e w36 ⟨rfl, hb⟩; have n0_ := Aside0.mk (Kd.R_below (rk_ HO_11.out) hb); have n1_ := Aside0.mk (bb_ BK170.out hb); have n2_ := Aside0.mk (below_step (bk_ HB.out) hb); clear HO_11 BK170 HB; have HO_11 := n0_; have BK170 := n1_; have HB := n2_; clear n0_ n1_ n2_; (try clear hb); (try clear hb2); (try clear hk); (try clear hi)))
                      go_meet; case rel => exact ⟨_, (decide (((rd_L1 l2 x55_2).length : Int) < t184)), (by first | rfl | (simp; done) | (simp [i64_w, i32_w]; done) | (simp [*]; done) | (simp [*, i64_w, i32_w]; done)), H', ⟨by have := HJ4.out; have := HK2.out; first | omega | exact Nat.le_refl _⟩, ⟨rk_ HO_11.out⟩, ⟨pk_ BK170.out⟩, ⟨bk_ HB.out⟩⟩
                    · rw [if_neg c33] at H; have c33b0 : (((rd_L1 l2 x55_2).length : Int) == ((rd_L1 l3 x55_2).length : Int)) = false := beq_eq_false_iff_ne.mpr c33; have c33b1 : (((rd_L1 l2 x55_2).length : Int) != ((rd_L1 l3 x55_2).length : Int)) = true := bne_iff_ne.mpr c33; have c33b2 : ((rd_L1 l2 x55_2).length == (rd_L1 l3 x55_2).length) = false := by first | simpa using c33 | (simp at c33 ⊢; omega)
                      have H' := Aside0.mk H; clear H; go_wp2_with (first | ((with_reducible refine gate_callee (f := 62) rfl ?_); refine gL_ (some 62) Try.func62 #[.slice A179_0 (rd_L1 l2 x55_2).length c179_0, .int .i64 a0] ?_; (with_reducible refine (impl_IsRing.calls k2 _ _ (rd_L1 l2 x55_2) a0 true _ ?side1 ?side2 A28.out).mono ?_); (case side1 => exact ck_ (Kd.C_below HR179_0.out HB.out)); (case side2 => exact HC179_0.out); rintro e w' ⟨rfl, ⟨nd, rfl⟩⟩; refine ⟨_, rfl, ?_⟩; have p181 : 0 ≤ (x55_2 : Int) := of_decide_eq_true (by first | (with_reducible assumption) | assumption); have q181 : x55_2 < (l3.length : Int) := of_decide_eq_true (by first | (with_reducible assumption) | assumption); obtain ⟨ad181, A181_0, c181_0, e181, hx181_0, hl181_0, hi181_0⟩ := at_L1 HR3.out x55_2 p181 q181; cases e181; replace hx181_0 := (HB.out.cell (World.block_lt_of_cell? w _ hx181_0)).trans hx181_0; have HR181_0 := Aside0.mk hi181_0; have HC181_0 := Aside0.mk hl181_0; clear hi181_0 hl181_0; replace p181 := eq_true p181; replace q181 := eq_true q181) | (go_at_call 62; (with_reducible refine (impl_IsRing.calls k2 _ _ (rd_L1 l3 x55_2) a0 true _ ?side1 ?side2 A31.out).mono ?_); (case side1 => repeat (first | exact (Kd.C_below HR181_0.out (bk_ HB.out)) | (with_reducible refine Kd.C_alloc ?_ _) | (with_reducible refine Kd.C_drewN ?_ _) | (with_reducible refine Kd.C_drew ?_))); (case side2 => exact HC181_0.out); rintro e w' ⟨rfl, ⟨nd, rfl⟩⟩; have p183 : 0 ≤ (x55_2 : Int) := of_decide_eq_true (by first | (with_reducible assumption) | assumption); have q183 : x55_2 < (l3.length : Int) := of_decide_eq_true (by first | (with_reducible assumption) | assumption); obtain ⟨ad183, A183_0, c183_0, e183, hx183_0, hl183_0, hi183_0⟩ := at_L1 HR3.out x55_2 p183 q183; obtain rfl : ad181 = ad183 := (by injection e183); replace hx183_0 := (HB.out.cell (World.block_lt_of_cell? w _ hx183_0)).trans hx183_0; have HR183_0 := Aside0.mk hi183_0; have HC183_0 := Aside0.mk hl183_0; clear hi183_0 hl183_0; replace p183 := eq_true p183; replace q183 := eq_true q183; have ea_ := Option.some.inj (hx181_0.symm.trans hx183_0); injection ea_ with ea_ en_ ec_; subst ea_; subst ec_; clear en_))
                      go_meet; case rel => exact ⟨_, (true), (by first | rfl | (simp; done) | (simp [i64_w, i32_w]; done) | (simp [*]; done) | (simp [*, i64_w, i32_w]; done)), H', ⟨by have := HJ4.out; have := HK2.out; first | omega | exact Nat.le_refl _⟩, ⟨rk_ HO_11.out⟩, ⟨pk_ BK170.out⟩, ⟨bk_ HB.out⟩⟩
                  · replace c32 := Bool.eq_false_iff.mpr c32; subst c32; have H1 : (impl_learn.j2 k2 a0 a1 l3 x11_2 x55_2 (rd_L1 l2 x55_2) l2 (l2.length : Int) x55_2 true a0 a1) = some (r1, r2) := by rw [if_neg (show ¬ (false = true) by decide)] at H; exact H
                    clear H; have H := H1; clear H1; have H' := Aside0.mk H; clear H; go_wp2_with (first | ((with_reducible refine gate_callee (f := 62) rfl ?_); refine gL_ (some 62) Try.func62 #[.slice A179_0 (rd_L1 l2 x55_2).length c179_0, .int .i64 a0] ?_; (with_reducible refine (impl_IsRing.calls k2 _ _ (rd_L1 l2 x55_2) a0 true _ ?side1 ?side2 A28.out).mono ?_); (case side1 => exact ck_ (Kd.C_below HR179_0.out HB.out)); (case side2 => exact HC179_0.out); rintro e w' ⟨rfl, ⟨nd, rfl⟩⟩; refine ⟨_, rfl, ?_⟩; have p181 : 0 ≤ (x55_2 : Int) := of_decide_eq_true (by first | (with_reducible assumption) | assumption); have q181 : x55_2 < (l3.length : Int) := of_decide_eq_true (by first | (with_reducible assumption) | assumption); obtain ⟨ad181, A181_0, c181_0, e181, hx181_0, hl181_0, hi181_0⟩ := at_L1 HR3.out x55_2 p181 q181; cases e181; replace hx181_0 := (HB.out.cell (World.block_lt_of_cell? w _ hx181_0)).trans hx181_0; have HR181_0 := Aside0.mk hi181_0; have HC181_0 := Aside0.mk hl181_0; clear hi181_0 hl181_0; replace p181 := eq_true p181; replace q181 := eq_true q181) | (go_at_call 62; (with_reducible refine (impl_IsRing.calls k2 _ _ (rd_L1 l3 x55_2) a0 false _ ?side1 ?side2 A31.out).mono ?_); (case side1 => repeat (first | exact (Kd.C_below HR181_0.out (bk_ HB.out)) | (with_reducible refine Kd.C_alloc ?_ _) | (with_reducible refine Kd.C_drewN ?_ _) | (with_reducible refine Kd.C_drew ?_))); (case side2 => exact HC181_0.out); rintro e w' ⟨rfl, ⟨nd, rfl⟩⟩)); go_meet; case rel => exact ⟨_, (true), (by first | rfl | (simp; done) | (simp [i64_w, i32_w]; done) | (simp [*]; done) | (simp [*, i64_w, i32_w]; done)), H', ⟨by have := HJ4.out; have := HK2.out; first | omega | exact Nat.le_refl _⟩, ⟨rk_ HO_11.out⟩, ⟨pk_ BK170.out⟩, ⟨bk_ HB.out⟩⟩
                · rw [if_neg c30] at H; exact absurd H (by simp)
              · replace c29 := Bool.eq_false_iff.mpr c29; subst c29; have H1 : (impl_learn.j2 k2 a0 a1 l3 x11_2 x55_2 (rd_L1 l2 x55_2) l2 (l2.length : Int) x55_2 true a0 a1) = some (r1, r2) := by rw [if_neg (show ¬ (false = true) by decide)] at H; exact H
                clear H; have H := H1; clear H1; have H' := Aside0.mk H; clear H; go_wp2_with (first | ((with_reducible refine gate_callee (f := 62) rfl ?_); refine gL_ (some 62) Try.func62 #[.slice A179_0 (rd_L1 l2 x55_2).length c179_0, .int .i64 a0] ?_; (with_reducible refine (impl_IsRing.calls k2 _ _ (rd_L1 l2 x55_2) a0 false _ ?side1 ?side2 A28.out).mono ?_); (case side1 => exact ck_ (Kd.C_below HR179_0.out HB.out)); (case side2 => exact HC179_0.out); rintro e w' ⟨rfl, ⟨nd, rfl⟩⟩; refine ⟨_, rfl, ?_⟩)); go_meet; case rel => exact ⟨_, (true), (by first | rfl | (simp; done) | (simp [i64_w, i32_w]; done) | (simp [*]; done) | (simp [*, i64_w, i32_w]; done)), H', ⟨by have := HJ4.out; have := HK2.out; first | omega | exact Nat.le_refl _⟩, ⟨rk_ HO_11.out⟩, ⟨pk_ BK170.out⟩, ⟨bk_ HB.out⟩⟩
             case rest =>
              clear HC27; (try clear c1); (try clear p1); (try clear q1); (try clear hx1); (try clear c2); (try clear p2); (try clear c3); (try clear c6); (try clear c7); (try clear c8); (try clear c9); (try clear c10); (try clear c10b0); (try clear c10b1); (try clear c11); (try clear c11b0); (try clear c11b1); (try clear c12); (try clear c17); (try clear p17); (try clear q17); (try clear hx17); (try clear c18); (try clear p18); (try clear q18); (try clear hx18); (try clear c24); (try clear c24b0); (try clear c25); (try clear c25b0); (try clear c26); (try clear c26b0); (try clear c29); (try clear c30); (try clear c30b0); (try clear c32); (try clear c33); (try clear c33b0); (try clear c33b1); (try clear c33b2); (try clear hcz17_0); (try clear hcz17_1); (try clear hcz17_2); (try clear hcz20_0); (try clear hcz20_1); (try clear hcz20_2); (try clear hcz35_0); (try clear hcz35_1); (try clear hcz35_2); (try clear hfz17_0); (try clear hfz17_1); (try clear hfz17_2); (try clear hfz20_0); (try clear hfz20_1); (try clear hfz20_2); (try clear hfz35_0); (try clear hfz35_1); (try clear hfz35_2); (try clear hx179_0); (try clear hx181_0); (try clear hx183_0); (try clear p179); (try clear p181); (try clear p183); (try clear p2); (try clear q179); (try clear q181); (try clear q183); obtain ⟨kq, x89_26, rfl, HA, HJ26, HO_11, BK170, HB⟩ := hcut; cases kq with
              | zero => exact absurd HA.out (by simp [impl_learn.j2])
              | succ kj26 =>
               have H := HA.out; clear HA; simp only [impl_learn.j2] at H; by_cases c37 : x89_26 = true
               · subst c37; have H1 : (some (([] : List Int), false)) = some (r1, r2) := by rw [if_pos rfl] at H; exact H
                 clear H; have H := H1; clear H1; simp only [Option.some.injEq, Prod.mk.injEq] at H; obtain ⟨rfl, rfl⟩ := H; go_wp2; go_ret2; exact ⟨_, by first | rfl | (simp [errW_none, errW_some] <;> rfl) | (simp [*, errW_none, errW_some] <;> rfl), by first | exact Kd.R_nil _ _ _ _ _ | exact Kd.N_nil _ _ _ _ _ | exact Kd.V_nil _ _ _ _ _ | exact Kd.Q_nil _ _ _ _ _ | exact Kd.S_nil _ _ _ _ _, bk_ HB.out⟩
               · replace c37 := Bool.eq_false_iff.mpr c37; subst c37; have H1 : (if 0 ≤ x55_2 then (if x55_2 < (l3.length : Int) then (impl_learn.l1 kj26 a0 a1 l3 x11_2 (rd_L1 l2 x55_2) l2 (l2.length : Int) x55_2 (rd_L1 l3 x55_2) ((rd_L1 l3 x55_2).length : Int) 0 a0 a1) else (none)) else (none)) = some (r1, r2) := by rw [if_neg (show ¬ (false = true) by decide)] at H; exact H
                 clear H; have H := H1; clear H1; by_cases c38 : 0 ≤ x55_2
                 · rw [if_pos c38] at H; have c38b0 : decide (0 ≤ x55_2) = true := decide_eq_true c38; clear c38; by_cases c39 : x55_2 < (l3.length : Int)
                   · rw [if_pos c39] at H; have c39b0 : decide (x55_2 < (l3.length : Int)) = true := decide_eq_true c39; clear c39; have H' := Aside0.mk H; clear H; have p185 : 0 ≤ (x55_2 : Int) := of_decide_eq_true (by first | (with_reducible assumption) | assumption); have q185 : x55_2 < (l3.length : Int) := of_decide_eq_true (by first | (with_reducible assumption) | assumption); obtain ⟨ad185, A185_0, c185_0, e185, hx185_0, hl185_0, hi185_0⟩ := at_L1 HR3.out x55_2 p185 q185; cases e185
                     replace hx185_0 := (HB.out.cell (World.block_lt_of_cell? w _ hx185_0)).trans hx185_0; have HR185_0 := Aside0.mk hi185_0; have HC185_0 := Aside0.mk hl185_0; clear hi185_0 hl185_0; replace p185 := eq_true p185; replace q185 := eq_true q185; go_wp2; go_loopg [95] kj26 (fun kq v95 w' => ∃ (x11_4 : List Int) (x95_4 : Int), v95 = .int .i64 x95_4 ∧ Aside0 (impl_learn.l1 kq a0 a1 l3 x11_4 (rd_L1 l2 x55_2) l2 (l2.length : Int) x55_2 (rd_L1 l3 x55_2) ((rd_L1 l3 x55_2).length : Int) x95_4 a0 a1 = some (r1, r2)) ∧ Aside0 (kq ≤ kj26) ∧ Aside0 (Kd.R (Kd.int .i64) 2 w' w.heap.size (fun _ => True) v177 x11_4) ∧ Aside0 (w'.heap[gb170]? = some (.cells #[.int .i64 a0, .int .i64 a1, (.slice none 0 0)] 38 (0, 0))) ∧ Aside0 (Below w.heap.size w w')); case atStart => exact ⟨(x11_2), (0), (by first | rfl | (simp; done) | (simp [i64_w, i32_w]; done) | (simp [*]; done) | (simp [*, i64_w, i32_w]; done)), H', ⟨Nat.le_refl _⟩, ⟨rk_ HO_11.out⟩, ⟨pk_ BK170.out⟩, ⟨bk_ HB.out⟩⟩
                     case round =>
                      clear H'; (try clear c1); (try clear p1); (try clear q1); (try clear hx1); (try clear c2); (try clear p2); (try clear c3); (try clear c6); (try clear c7); (try clear c8); (try clear c9); (try clear c10); (try clear c10b0); (try clear c10b1); (try clear c11); (try clear c11b0); (try clear c11b1); (try clear c12); (try clear c17); (try clear p17); (try clear q17); (try clear hx17); (try clear c18); (try clear p18); (try clear q18); (try clear hx18); (try clear c24); (try clear c24b0); (try clear c25); (try clear c25b0); (try clear c26); (try clear c26b0); (try clear c29); (try clear c30); (try clear c30b0); (try clear c32); (try clear c33); (try clear c33b0); (try clear c33b1); (try clear c33b2); (try clear c37); (try clear c38); (try clear c38b0); (try clear c39); (try clear c39b0); (try clear hcz17_0); (try clear hcz17_1); (try clear hcz17_2); (try clear hcz20_0); (try clear hcz20_1); (try clear hcz20_2); (try clear hcz35_0); (try clear hcz35_1); (try clear hcz35_2); (try clear hfz17_0); (try clear hfz17_1); (try clear hfz17_2); (try clear hfz20_0); (try clear hfz20_1); (try clear hfz20_2); (try clear hfz35_0); (try clear hfz35_1); (try clear hfz35_2); (try clear hx179_0); (try clear hx181_0); (try clear hx183_0); (try clear hx185_0); (try clear p1); (try clear p17); (try clear p179); (try clear p18); (try clear p181); (try clear p183); (try clear p185); (try clear p2); (try clear q1); (try clear q17); (try clear q179); (try clear q18); (try clear q181); (try clear q183); (try clear q185)
                      obtain ⟨x11_4, x95_4, rfl, HA, HK4, HO_11, BK170, HB⟩ := hrel; cases gk with
                      | zero => exact absurd HA.out (by simp [impl_learn.l1])
                      | succ k4 =>
                       have H := HA.out; clear HA; simp only [impl_learn.l1] at H; by_cases c40 : x95_4 < ((rd_L1 l3 x55_2).length : Int)
                       · rw [if_pos c40] at H; have c40b0 : decide (x95_4 < ((rd_L1 l3 x55_2).length : Int)) = true := decide_eq_true c40; clear c40; by_cases c41 : 0 ≤ x95_4
                         · rw [if_pos c41] at H; have c41b0 : decide (0 ≤ x95_4) = true := decide_eq_true c41; clear c41; by_cases c42 : x95_4 < ((rd_L1 l3 x55_2).length : Int)
                           · rw [if_pos c42] at H; have c42b0 : decide (x95_4 < ((rd_L1 l3 x55_2).length : Int)) = true := decide_eq_true c42; clear c42; have H' := Aside0.mk H; clear H; have p186 : 0 ≤ (x95_4 : Int) := of_decide_eq_true (by first | (with_reducible assumption) | assumption); have q186 : x95_4 < ((rd_L1 l3 x55_2).length : Int) := of_decide_eq_true (by first | (with_reducible assumption) | assumption); obtain ⟨ad186, e186, hx186_0⟩ := Kd.at_int HR185_0.out x95_4 p186 q186; cases e186
                             replace hx186_0 := (HB.out.cell (World.block_lt_of_cell? w _ hx186_0)).trans hx186_0; replace p186 := eq_true p186; replace q186 := eq_true q186; go_wp2; go_loopg [16, 17] k4 (fun kq v16 v17 w' => ∃ (x16_5 : Int) (x17_5 : Int), v16 = .int .i64 x16_5 ∧ v17 = .int .i64 x17_5 ∧ Aside0 (impl_learn.l2 kq a0 a1 l3 x11_4 (rd_L1 l2 x55_2) x95_4 (rd (rd_L1 l3 x55_2) x95_4) x16_5 x17_5 l2 (l2.length : Int) x55_2 (rd_L1 l3 x55_2) ((rd_L1 l3 x55_2).length : Int) x95_4 a0 a1 = some (r1, r2)) ∧ Aside0 (kq ≤ k4) ∧ Aside0 (Kd.R (Kd.int .i64) 2 w' w.heap.size (fun _ => True) v177 x11_4) ∧ Aside0 (w'.heap[gb170]? = some (.cells #[.int .i64 a0, .int .i64 a1, (.slice none 0 0)] 38 (0, 0))) ∧ Aside0 (Below w.heap.size w w')); case atStart => exact ⟨(0), (wrap64 (x95_4 - a1)), (by first | rfl | (simp; done) | (simp [i64_w, i32_w]; done) | (simp [*]; done) | (simp [*, i64_w, i32_w]; done)), (by first | rfl | (simp; done) | (simp [i64_w, i32_w]; done) | (simp [*]; done) | (simp [*, i64_w, i32_w]; done)), H', ⟨Nat.le_refl _⟩, ⟨rk_ HO_11.out⟩, ⟨pk_ BK170.out⟩, ⟨bk_ HB.out⟩⟩
                             case round =>
                              clear H'; (try clear c1); (try clear p1); (try clear q1); (try clear hx1); (try clear c2); (try clear p2); (try clear c3); (try clear c4); (try clear c6); (try clear p6); (try clear c7); (try clear c8); (try clear c9); (try clear c10); (try clear c10b0); (try clear c10b1); (try clear c11); (try clear c11b0); (try clear c11b1); (try clear c12); (try clear c17); (try clear p17); (try clear q17); (try clear hx17); (try clear c18); (try clear p18); (try clear q18); (try clear hx18); (try clear c24); (try clear c24b0); (try clear c25); (try clear c25b0); (try clear c26); (try clear c26b0); (try clear c29); (try clear c30); (try clear c30b0); (try clear c32); (try clear c33); (try clear c33b0); (try clear c33b1); (try clear c33b2); (try clear c37); (try clear c38); (try clear c38b0); (try clear c39); (try clear c39b0); (try clear c40); (try clear c40b0); (try clear c41); (try clear c41b0); (try clear c42); (try clear c42b0); (try clear hcz17_0); (try clear hcz17_1); (try clear hcz17_2); (try clear hcz20_0); (try clear hcz20_1); (try clear hcz20_2); (try clear hcz35_0); (try clear hcz35_1); (try clear hcz35_2); (try clear hfz17_0); (try clear hfz17_1); (try clear hfz17_2); (try clear hfz20_0); (try clear hfz20_1); (try clear hfz20_2); (try clear hfz35_0); (try clear hfz35_1); (try clear hfz35_2); (try clear hx179_0); (try clear hx181_0); (try clear hx183_0); (try clear hx185_0); (try clear hx186_0); (try clear p1); (try clear p17); (try clear p179); (try clear p18); (try clear p181)
                              (try clear p183); (try clear p185); (try clear p186); (try clear p2); (try clear q1); (try clear q17); (try clear q179); (try clear q18); (try clear q181); (try clear q183); (try clear q185); (try clear q186); obtain ⟨x16_5, x17_5, rfl, rfl, HA, HK5, HO_11, BK170, HB⟩ := hrel; cases gk with
                              | zero => exact absurd HA.out (by simp [impl_learn.l2])
                              | succ k5 =>
                               have H := HA.out; clear HA; simp only [impl_learn.l2] at H; by_cases c43 : x17_5 ≤ (wrap64 (x95_4 + a1))
                               · rw [if_pos c43] at H; have c43b0 : decide (x17_5 ≤ (wrap64 (x95_4 + a1))) = true := decide_eq_true c43; clear c43; replace H := Option.bind_eq_some_iff.mp H; obtain ⟨t187, A440, H⟩ := H; replace H : (if 0 ≤ t187 then (if t187 < ((rd_L1 l2 x55_2).length : Int) then (impl_learn.l2 k5 a0 a1 l3 x11_4 (rd_L1 l2 x55_2) x95_4 (rd (rd_L1 l3 x55_2) x95_4) (wrap64 ((wrap64 (x16_5 * a0)) + (rd (rd_L1 l2 x55_2) t187))) (wrap64 (x17_5 + 1)) l2 (l2.length : Int) x55_2 (rd_L1 l3 x55_2) ((rd_L1 l3 x55_2).length : Int) x95_4 a0 a1) else (none)) else (none)) = some (r1, r2) := H; have A44 := Aside0.mk A440; clear A440; by_cases c45 : 0 ≤ t187
                                 · rw [if_pos c45] at H; have c45b0 : decide (0 ≤ t187) = true := decide_eq_true c45; clear c45; by_cases c46 : t187 < ((rd_L1 l2 x55_2).length : Int)
                                   · rw [if_pos c46] at H; have c46b0 : decide (t187 < ((rd_L1 l2 x55_2).length : Int)) = true := decide_eq_true c46; clear c46; have H' := Aside0.mk H; clear H; go_wp2_with (first | ((with_reducible refine gate_callee (f := 121) rfl ?_); refine gL_ (some 117) Try.func121 #[.int .i64 x17_5, .int .i64 ((rd_L1 l2 x55_2).length : Int)] ?_; (with_reducible refine (impl_floorMod.calls x17_5 ((rd_L1 l2 x55_2).length : Int) t187 _ A44.out).mono ?_); rintro e w' ⟨rfl, ⟨nd, rfl⟩⟩; refine ⟨_, rfl, ?_⟩; have p188 : 0 ≤ (t187 : Int) := of_decide_eq_true (by first | (with_reducible assumption) | assumption); have q188 : t187 < ((rd_L1 l2 x55_2).length : Int) := of_decide_eq_true (by first | (with_reducible assumption) | assumption); obtain ⟨ad188, e188, hx188_0⟩ := Kd.at_int HR179_0.out t187 p188 q188; cases e188; replace hx188_0 := (HB.out.cell (World.block_lt_of_cell? w _ hx188_0)).trans hx188_0; replace p188 := eq_true p188; replace q188 := eq_true q188)); go_roundg k5; case measure => have := HJ4.out; have := HK2.out; have := HJ26.out; have := HK4.out; have := HK5.out; omega
                                     case rel => exact ⟨(wrap64 ((wrap64 (x16_5 * a0)) + (rd (rd_L1 l2 x55_2) t187))), (wrap64 (x17_5 + 1)), (by first | rfl | (simp; done) | (simp [i64_w, i32_w]; done) | (simp [*]; done) | (simp [*, i64_w, i32_w]; done)), (by first | rfl | (simp; done) | (simp [i64_w, i32_w]; done) | (simp [*]; done) | (simp [*, i64_w, i32_w]; done)), H', ⟨by have := HJ4.out; have := HK2.out; have := HJ26.out; have := HK4.out; have := HK5.out; omega⟩, ⟨rk_ HO_11.out⟩, ⟨pk_ BK170.out⟩, ⟨bk_ HB.out⟩⟩
                                   · rw [if_neg c46] at H; exact absurd H (by simp)
                                 · rw [if_neg c45] at H; exact absurd H (by simp)
                               · rw [if_neg c43] at H; have c43b0 : decide (x17_5 ≤ (wrap64 (x95_4 + a1))) = false := decide_eq_false c43; clear c43; by_cases c47 : 0 ≤ x16_5
                                 · rw [if_pos c47] at H; have c47b0 : decide (0 ≤ x16_5) = true := decide_eq_true c47; clear c47; by_cases c48 : x16_5 < (x11_4.length : Int)
                                   · rw [if_pos c48] at H; have c48b0 : decide (x16_5 < (x11_4.length : Int)) = true := decide_eq_true c48; clear c48; by_cases c49 : (rd x11_4 x16_5) ≥ 0
                                     · rw [if_pos c49] at H; have c49b0 : decide (0 ≤ (rd x11_4 x16_5)) = true := decide_eq_true c49; clear c49; by_cases c50 : (rd x11_4 x16_5) = (rd (rd_L1 l3 x55_2) x95_4)
                                       · rw [if_pos c50] at H; have c50b0 : ((rd x11_4 x16_5) == (rd (rd_L1 l3 x55_2) x95_4)) = true := beq_iff_eq.mpr c50; have c50b1 : ((rd x11_4 x16_5) != (rd (rd_L1 l3 x55_2) x95_4)) = false := bne_eq_false_iff_eq.mpr c50; clear c50; obtain ⟨y190, hy190⟩ : ∃ y_ : List Int, y_ = (x11_4.set (x16_5 : Int).toNat (rd (rd_L1 l3 x55_2) x95_4)) := ⟨_, rfl⟩; replace H : (impl_learn.l1 k5 a0 a1 l3 y190 (rd_L1 l2 x55_2) l2 (l2.length : Int) x55_2 (rd_L1 l3 x55_2) ((rd_L1 l3 x55_2).length : Int) (wrap64 (x95_4 + 1)) a0 a1) = some (r1, r2) := by first | (rw [hy190]; with_reducible exact H) | (have H2_ := (Option.bind_some _ _).symm.trans H; rw [hy190]; with_reducible exact H2_) | (have H2_ := (Option.bind_some _ _).symm.trans H; with_reducible exact H2_) | with_reducible exact H | (rw [hy190]; exact H) | exact H
                                         have Ny190 := Aside0.mk hy190; clear hy190; have H' := Aside0.mk H; clear H; obtain ⟨Ao52, co52, eo52⟩ := Kd.R_slice HO_11.out; subst eo52; have p189 : 0 ≤ (x16_5 : Int) := of_decide_eq_true (by first | (with_reducible assumption) | assumption); have q189 : x16_5 < (x11_4.length : Int) := of_decide_eq_true (by first | (with_reducible assumption) | assumption); obtain ⟨ad189, e189, hx189_0⟩ := Kd.at_int (Kd.R_reads' HO_11.out).2.2 x16_5 p189 q189; cases e189
                                         replace p189 := eq_true p189; replace q189 := eq_true q189; have p51 : 0 ≤ (x16_5 : Int) := of_decide_eq_true (by first | (with_reducible assumption) | assumption); have q51 : (x16_5 : Int) < ((x11_4.length : Int) : Int) := of_decide_eq_true (by first | (with_reducible assumption) | assumption); obtain ⟨go51, co51, eo51, gb51, gl51, cl51, HG51⟩ := Kd.R_form HO_11.out (by omega); (first | cases eo51 | (injection eo51 with ea_ en_ ec_; (first | subst ea_ | (injection ea_ with ea_; subst ea_)); subst ec_; clear en_)); have GB51 := Aside0.mk gb51; have GG51 := Aside0.mk HG51; clear gb51 gl51 HG51; (first | simp only [add_plain] at hx189_0 | skip); obtain ⟨hx51_0, hf51_0⟩ := Kd.R_celln 0 HO_11.out (x16_5 : Int) p51 q51; replace p51 := eq_true p51; replace q51 := eq_true q51; have HP53 := Kd.R_putg HO_11.out (x16_5 : Int) (rd (rd_L1 l3 x55_2) x95_4); go_wp2_with (first | ((with_reducible refine gate_store (t := 2) (p := 135) rfl ?_); refine store_event (t := 2) (p := 135) (v := ?vo_w54) (w1 := (wr.setCell ⟨go51, (x16_5 : Int).toNat, none⟩ (.int .i64 (rd (rd_L1 l3 x55_2) x95_4)))) ?hg ?ho ?hn ?hr ?_; (case ho => rfl); (case hg => rfl); (case hn => rfl); (case hr => first | (go_simp; done) | (go_simp; rfl)); intro w54 hw; have hg : wr.grownBy w54 (some go51) := (by rw [hw]; exact HP53.2); have hp_ : Kd.R (Kd.int .i64) 2 w54 w.heap.size (fun _ => True) (.slice (some ⟨go51, 0, none⟩) x11_4.length co52) y190 := (by rw [hw, Ny190.out]; exact HP53.1); clear HP53; have n0_ := Aside0.mk (hp_); have n1_ := Aside0.mk (bg_ BK170.out hg (Kd.R_ne HO_11.out BK170.out (by decide))); have n2_ := Aside0.mk ((by rw [hw]; exact below_set (HB.out) GB51.out : Below w.heap.size w w54)); clear HO_11 BK170 HB; have HO_11 := n0_; have BK170 := n1_; have HB := n2_; clear n0_ n1_ n2_ hg hw hp_))
                                         go_roundg k5; case measure => have := HJ4.out; have := HK2.out; have := HJ26.out; have := HK4.out; have := HK5.out; omega
                                         case rel => exact ⟨(y190), (wrap64 (x95_4 + 1)), (by first | rfl | (simp; done) | (simp [i64_w, i32_w]; done) | (simp [*]; done) | (simp [*, i64_w, i32_w]; done)), H', ⟨by have := HJ4.out; have := HK2.out; have := HJ26.out; have := HK4.out; have := HK5.out; omega⟩, ⟨rk_ HO_11.out⟩, ⟨pk_ BK170.out⟩, ⟨bk_ HB.out⟩⟩
                                       · rw [if_neg c50] at H; have c50b0 : ((rd x11_4 x16_5) == (rd (rd_L1 l3 x55_2) x95_4)) = false := beq_eq_false_iff_ne.mpr c50; have c50b1 : ((rd x11_4 x16_5) != (rd (rd_L1 l3 x55_2) x95_4)) = true := bne_iff_ne.mpr c50; simp only [Option.some.injEq, Prod.mk.injEq] at H; obtain ⟨rfl, rfl⟩ := H; obtain ⟨Ao55, co55, eo55⟩ := Kd.R_slice HO_11.out; subst eo55; have p189 : 0 ≤ (x16_5 : Int) := of_decide_eq_true (by first | (with_reducible assumption) | assumption); have q189 : x16_5 < (x11_4.length : Int) := of_decide_eq_true (by first | (with_reducible assumption) | assumption); obtain ⟨ad189, e189, hx189_0⟩ := Kd.at_int (Kd.R_reads' HO_11.out).2.2 x16_5 p189 q189; cases e189
                                         replace p189 := eq_true p189; replace q189 := eq_true q189; go_wp2; go_ret2; exact ⟨_, by first | rfl | (simp [errW_none, errW_some] <;> rfl) | (simp [*, errW_none, errW_some] <;> rfl), by first | exact Kd.R_nil _ _ _ _ _ | exact Kd.N_nil _ _ _ _ _ | exact Kd.V_nil _ _ _ _ _ | exact Kd.Q_nil _ _ _ _ _ | exact Kd.S_nil _ _ _ _ _, bk_ HB.out⟩
                                     · rw [if_neg c49] at H; have c49b0 : decide (0 ≤ (rd x11_4 x16_5)) = false := decide_eq_false c49; clear c49; obtain ⟨y191, hy191⟩ : ∃ y_ : List Int, y_ = (x11_4.set (x16_5 : Int).toNat (rd (rd_L1 l3 x55_2) x95_4)) := ⟨_, rfl⟩; replace H : (impl_learn.l1 k5 a0 a1 l3 y191 (rd_L1 l2 x55_2) l2 (l2.length : Int) x55_2 (rd_L1 l3 x55_2) ((rd_L1 l3 x55_2).length : Int) (wrap64 (x95_4 + 1)) a0 a1) = some (r1, r2) := by first | (rw [hy191]; with_reducible exact H) | (have H2_ := (Option.bind_some _ _).symm.trans H; rw [hy191]; with_reducible exact H2_) | (have H2_ := (Option.bind_some _ _).symm.trans H; with_reducible exact H2_) | with_reducible exact H | (rw [hy191]; exact H) | exact H
                                       have Ny191 := Aside0.mk hy191; clear hy191; have H' := Aside0.mk H; clear H; obtain ⟨Ao57, co57, eo57⟩ := Kd.R_slice HO_11.out; subst eo57; have p189 : 0 ≤ (x16_5 : Int) := of_decide_eq_true (by first | (with_reducible assumption) | assumption); have q189 : x16_5 < (x11_4.length : Int) := of_decide_eq_true (by first | (with_reducible assumption) | assumption); obtain ⟨ad189, e189, hx189_0⟩ := Kd.at_int (Kd.R_reads' HO_11.out).2.2 x16_5 p189 q189; cases e189
                                       replace p189 := eq_true p189; replace q189 := eq_true q189; have p56 : 0 ≤ (x16_5 : Int) := of_decide_eq_true (by first | (with_reducible assumption) | assumption); have q56 : (x16_5 : Int) < ((x11_4.length : Int) : Int) := of_decide_eq_true (by first | (with_reducible assumption) | assumption); obtain ⟨go56, co56, eo56, gb56, gl56, cl56, HG56⟩ := Kd.R_form HO_11.out (by omega); (first | cases eo56 | (injection eo56 with ea_ en_ ec_; (first | subst ea_ | (injection ea_ with ea_; subst ea_)); subst ec_; clear en_)); have GB56 := Aside0.mk gb56; have GG56 := Aside0.mk HG56; clear gb56 gl56 HG56; (first | simp only [add_plain] at hx189_0 | skip); obtain ⟨hx56_0, hf56_0⟩ := Kd.R_celln 0 HO_11.out (x16_5 : Int) p56 q56; replace p56 := eq_true p56; replace q56 := eq_true q56; have HP58 := Kd.R_putg HO_11.out (x16_5 : Int) (rd (rd_L1 l3 x55_2) x95_4); go_wp2_with (first | ((with_reducible refine gate_store (t := 2) (p := 135) rfl ?_); refine store_event (t := 2) (p := 135) (v := ?vo_w59) (w1 := (wr.setCell ⟨go56, (x16_5 : Int).toNat, none⟩ (.int .i64 (rd (rd_L1 l3 x55_2) x95_4)))) ?hg ?ho ?hn ?hr ?_; (case ho => rfl); (case hg => rfl); (case hn => rfl); (case hr => first | (go_simp; done) | (go_simp; rfl)); intro w59 hw; have hg : wr.grownBy w59 (some go56) := (by rw [hw]; exact HP58.2); have hp_ : Kd.R (Kd.int .i64) 2 w59 w.heap.size (fun _ => True) (.slice (some ⟨go56, 0, none⟩) x11_4.length co57) y191 := (by rw [hw, Ny191.out]; exact HP58.1); clear HP58; have n0_ := Aside0.mk (hp_); have n1_ := Aside0.mk (bg_ BK170.out hg (Kd.R_ne HO_11.out BK170.out (by decide))); have n2_ := Aside0.mk ((by rw [hw]; exact below_set (HB.out) GB56.out : Below w.heap.size w w59)); clear HO_11 BK170 HB; have HO_11 := n0_; have BK170 := n1_; have HB := n2_; clear n0_ n1_ n2_ hg hw hp_))
                                       go_roundg k5; case measure => have := HJ4.out; have := HK2.out; have := HJ26.out; have := HK4.out; have := HK5.out; omega
                                       case rel => exact ⟨(y191), (wrap64 (x95_4 + 1)), (by first | rfl | (simp; done) | (simp [i64_w, i32_w]; done) | (simp [*]; done) | (simp [*, i64_w, i32_w]; done)), H', ⟨by have := HJ4.out; have := HK2.out; have := HJ26.out; have := HK4.out; have := HK5.out; omega⟩, ⟨rk_ HO_11.out⟩, ⟨pk_ BK170.out⟩, ⟨bk_ HB.out⟩⟩
                                   · rw [if_neg c48] at H; exact absurd H (by simp)
                                 · rw [if_neg c47] at H; exact absurd H (by simp)
                           · rw [if_neg c42] at H; exact absurd H (by simp)
                         · rw [if_neg c41] at H; exact absurd H (by simp)
                       · rw [if_neg c40] at H; have c40b0 : decide (x95_4 < ((rd_L1 l3 x55_2).length : Int)) = false := decide_eq_false c40; clear c40; have H' := Aside0.mk H; clear H; go_wp2; go_roundg k4; case measure => have := HJ4.out; have := HK2.out; have := HJ26.out; have := HK4.out; omega
                         case rel => exact ⟨(x11_4), (wrap64 (x55_2 + 1)), (by first | rfl | (simp; done) | (simp [i64_w, i32_w]; done) | (simp [*]; done) | (simp [*, i64_w, i32_w]; done)), H', ⟨by have := HJ4.out; have := HK2.out; have := HJ26.out; have := HK4.out; omega⟩, ⟨rk_ HO_11.out⟩, ⟨pk_ BK170.out⟩, ⟨bk_ HB.out⟩⟩
                   · rw [if_neg c39] at H; exact absurd H (by simp)
                 · rw [if_neg c38] at H; exact absurd H (by simp)
           · rw [if_neg c26] at H; exact absurd H (by simp)
         · rw [if_neg c25] at H; exact absurd H (by simp)
       · rw [if_neg c24] at H; have c24b0 : decide (x55_2 < (l2.length : Int)) = false := decide_eq_false c24; clear c24; simp only [Option.some.injEq, Prod.mk.injEq] at H; obtain ⟨rfl, rfl⟩ := H; go_wp2; go_ret2; exact ⟨_, by first | rfl | (simp [errW_none, errW_some] <;> rfl) | (simp [*, errW_none, errW_some] <;> rfl), by (with_reducible repeat (first | apply Kd.R_alloc | apply Kd.R_drewN | apply Kd.R_drew)); exact HO_11.out, bk_ HB.out⟩

/-! ### impl_LeastReach: function 41 -/
def impl_LeastReach.l0 : Nat → Int → List (List Int) → List (List Int) → Int → Option (Int × Bool)
  | 0, _, _, _, _ => none
  | k + 1, x0, x1, x2, x11 => if x11 < 3 then ((impl_learn.f k x0 x11 x1 x2).bind fun bt192 => (if bt192.2 = true then (some (x11, true)) else (impl_LeastReach.l0 k x0 x1 x2 (wrap64 (x11 + 1))))) else (some (0, false))
def impl_LeastReach.f (k : Nat) (a0 : Int) (l1 : List (List Int)) (l2 : List (List Int)) : Option (Int × Bool) := impl_LeastReach.l0 k a0 l1 l2 0
theorem impl_LeastReach.mono_l : ∀ k, (∀ y0 y1 y2 y3, LeO (impl_LeastReach.l0 k y0 y1 y2 y3) (impl_LeastReach.l0 (k + 1) y0 y1 y2 y3))
  | 0 => fun _ _ _ _ r h => by simp [impl_LeastReach.l0] at h
  | k + 1 => by
    have ih0 := impl_LeastReach.mono_l k
    · intro y0 y1 y2 y3
      unfold impl_LeastReach.l0
      repeat' first
      | (with_reducible exact ih0 _ _ _ _)
      | (with_reducible exact impl_learn.mono _ _ _ _ _)
      | (with_reducible exact LeO.refl _)
      | (with_reducible exact LeO.none _)
      | (with_reducible refine LeO.ite ?_ ?_)
      | (with_reducible refine LeO.bind ?_ (fun _ => ?_))
      | exact ih0 _ _ _ _
      | exact impl_learn.mono _ _ _ _ _
      | exact LeO.none _
      | refine LeO.ite ?_ ?_
      | refine LeO.bind ?_ (fun _ => ?_)
theorem impl_LeastReach.mono : ∀ a0 a1 a2 k, LeO (impl_LeastReach.f k a0 a1 a2) (impl_LeastReach.f (k + 1) a0 a1 a2) := by
 intro a0 a1 a2 k; have ih0 := impl_LeastReach.mono_l k; unfold impl_LeastReach.f; repeat' first
  | (with_reducible exact ih0 _ _ _ _)
  | (with_reducible exact impl_learn.mono _ _ _ _ _)
  | (with_reducible exact LeO.refl _)
  | (with_reducible exact LeO.none _)
  | (with_reducible refine LeO.ite ?_ ?_)
  | (with_reducible refine LeO.bind ?_ (fun _ => ?_))
  | exact ih0 _ _ _ _
  | exact impl_learn.mono _ _ _ _ _
  | exact LeO.none _
  | refine LeO.ite ?_ ?_
  | refine LeO.bind ?_ (fun _ => ?_)
set_option maxHeartbeats 8000000 in
set_option maxRecDepth 100000 in
theorem impl_LeastReach.calls (k : Nat) (a0 : Int) (A1 : Option Addr) (c1 : Nat) (l1 : List (List Int)) (A2 : Option Addr) (c2 : Nat) (l2 : List (List Int)) (r1 : Int) (r2 : Bool) (w : World) (hr1 : Kd.C (Kd.slice 2 (Kd.int .i64)) w A1 l1.length l1) (hc1 : l1.length ≤ c1) (hr2 : Kd.C (Kd.slice 2 (Kd.int .i64)) w A2 l2.length l2) (hc2 : l2.length ≤ c2) (h : impl_LeastReach.f k a0 l1 l2 = some (r1, r2)) :
    Calls Try.prog 41 #[.int .i64 a0, .slice A1 l1.length c1, .slice A2 l2.length c2] w fun e w' => e = .returned (.tuple #[.int .i64 r1, .bool r2]) ∧ Below w.heap.size w w' := by
 have HR1 := Aside0.mk hr1; have HC1 := Aside0.mk hc1; clear hr1 hc1; have HR2 := Aside0.mk hr2; have HC2 := Aside0.mk hc2; clear hr2 hc2; have HB := Aside0.mk (Below.refl w.heap.size w); have H : (impl_LeastReach.l0 k a0 l1 l2 0) = some (r1, r2) := h; clear h; have H' := Aside0.mk H; clear H; go_enter Try.func41, Try.ntmps41; go_wp2; go_loopg [11] k (fun kq v11 w' => ∃ (x11_1 : Int), v11 = .int .i64 x11_1 ∧ Aside0 (impl_LeastReach.l0 kq a0 l1 l2 x11_1 = some (r1, r2)) ∧ Aside0 (kq ≤ k) ∧ Aside0 (Below w.heap.size w w')); case atStart => exact ⟨(0), (by first | rfl | (simp; done) | (simp [i64_w, i32_w]; done) | (simp [*]; done) | (simp [*, i64_w, i32_w]; done)), H', ⟨Nat.le_refl _⟩, ⟨bk_ HB.out⟩⟩
 case round =>
  clear H'; (try clear c1); (try clear c2); (try clear p2); obtain ⟨x11_1, rfl, HA, HK1, HB⟩ := hrel; cases gk with
  | zero => exact absurd HA.out (by simp [impl_LeastReach.l0])
  | succ k1 =>
   have H := HA.out; clear HA; simp only [impl_LeastReach.l0] at H; by_cases c4 : x11_1 < 3
   · rw [if_pos c4] at H; have c4b0 : decide (x11_1 < 3) = true := decide_eq_true c4; clear c4; replace H := Option.bind_eq_some_iff.mp H; obtain ⟨⟨t192, t193⟩, A50, H⟩ := H; replace H : (if t193 = true then (some (x11_1, true)) else (impl_LeastReach.l0 k1 a0 l1 l2 (wrap64 (x11_1 + 1)))) = some (r1, r2) := H; have A5 := Aside0.mk A50; clear A50; by_cases c6 : t193 = true
     · subst c6; have H1 : (some (x11_1, true)) = some (r1, r2) := by rw [if_pos rfl] at H; exact H
       clear H; have H := H1; clear H1; simp only [Option.some.injEq, Prod.mk.injEq] at H; obtain ⟨rfl, rfl⟩ := H; go_wp2_with (first | ((with_reducible refine gate_callee (f := 88) rfl ?_); refine gL_ (some 19) Try.func88 #[.int .i64 a0, .int .i64 x11_1, .slice A1 l1.length c1, .slice A2 l2.length c2] ?_; (with_reducible refine (impl_learn.calls k1 a0 x11_1 _ _ l1 _ _ l2 t192 true _ ?side1 ?side2 ?side3 ?side4 A5.out).mono ?_); (case side1 => exact ck_ (Kd.C_below HR1.out HB.out)); (case side2 => exact HC1.out); (case side3 => exact ck_ (Kd.C_below HR2.out HB.out)); (case side4 => exact HC2.out); rintro e w7 ⟨v194, rfl, ho0, hb⟩; refine ⟨_, rfl, ?_⟩; have n0_ := Aside0.mk (Kd.R_lower ho0 (below_size (bk_ HB.out))); have n1_ := Aside0.mk (below_step (bk_ HB.out) hb); clear HB; have HO195 := n0_; have HB := n1_; clear n0_ n1_; (try clear hb); (try clear hb2); (try clear hk); (try clear hi); (try clear ho0))); go_ret2; exact ⟨by first | rfl | (simp [errW_none, errW_some] <;> rfl) | (simp [*, errW_none, errW_some] <;> rfl), bk_ HB.out⟩
     · replace c6 := Bool.eq_false_iff.mpr c6; subst c6; have H1 : (impl_LeastReach.l0 k1 a0 l1 l2 (wrap64 (x11_1 + 1))) = some (r1, r2) := by rw [if_neg (show ¬ (false = true) by decide)] at H; exact H
       clear H; have H := H1; clear H1; have H' := Aside0.mk H; clear H; go_wp2_with (first | ((with_reducible refine gate_callee (f := 88) rfl ?_); refine gL_ (some 19) Try.func88 #[.int .i64 a0, .int .i64 x11_1, .slice A1 l1.length c1, .slice A2 l2.length c2] ?_; (with_reducible refine (impl_learn.calls k1 a0 x11_1 _ _ l1 _ _ l2 t192 false _ ?side1 ?side2 ?side3 ?side4 A5.out).mono ?_); (case side1 => exact ck_ (Kd.C_below HR1.out HB.out)); (case side2 => exact HC1.out); (case side3 => exact ck_ (Kd.C_below HR2.out HB.out)); (case side4 => exact HC2.out); rintro e w8 ⟨v194, rfl, ho0, hb⟩; refine ⟨_, rfl, ?_⟩; have n0_ := Aside0.mk (Kd.R_lower ho0 (below_size (bk_ HB.out))); have n1_ := Aside0.mk (below_step (bk_ HB.out) hb); clear HB; have HO195 := n0_; have HB := n1_; clear n0_ n1_; (try clear hb); (try clear hb2); (try clear hk); (try clear hi); (try clear ho0))); go_roundg k1; case measure => have := HK1.out; omega
       case rel => exact ⟨(wrap64 (x11_1 + 1)), (by first | rfl | (simp; done) | (simp [i64_w, i32_w]; done) | (simp [*]; done) | (simp [*, i64_w, i32_w]; done)), H', ⟨by have := HK1.out; omega⟩, ⟨bk_ HB.out⟩⟩
   · rw [if_neg c4] at H; have c4b0 : decide (x11_1 < 3) = false := decide_eq_false c4; clear c4; simp only [Option.some.injEq, Prod.mk.injEq] at H; obtain ⟨rfl, rfl⟩ := H; go_wp2; go_ret2; exact ⟨by first | rfl | (simp [errW_none, errW_some] <;> rfl) | (simp [*, errW_none, errW_some] <;> rfl), bk_ HB.out⟩

/-! ### impl_LearnTable: function 44 -/
def impl_LearnTable.f (k : Nat) (a0 : Int) (a1 : Int) (l2 : List (List Int)) (l3 : List (List Int)) : Option (List Int × Bool) := (impl_learn.f k a0 a1 l2 l3).bind fun bt196 => (some (bt196.1, bt196.2))
theorem impl_LearnTable.mono : ∀ a0 a1 a2 a3 k, LeO (impl_LearnTable.f k a0 a1 a2 a3) (impl_LearnTable.f (k + 1) a0 a1 a2 a3) := by
 intro a0 a1 a2 a3 k; unfold impl_LearnTable.f; repeat' first
  | (with_reducible exact impl_learn.mono _ _ _ _ _)
  | (with_reducible exact LeO.refl _)
  | (with_reducible exact LeO.none _)
  | (with_reducible refine LeO.ite ?_ ?_)
  | (with_reducible refine LeO.bind ?_ (fun _ => ?_))
  | exact impl_learn.mono _ _ _ _ _
  | exact LeO.none _
  | refine LeO.ite ?_ ?_
  | refine LeO.bind ?_ (fun _ => ?_)
set_option maxHeartbeats 8000000 in
set_option maxRecDepth 100000 in
theorem impl_LearnTable.calls (k : Nat) (a0 : Int) (a1 : Int) (A2 : Option Addr) (c2 : Nat) (l2 : List (List Int)) (A3 : Option Addr) (c3 : Nat) (l3 : List (List Int)) (r1 : List Int) (r2 : Bool) (w : World) (hr2 : Kd.C (Kd.slice 2 (Kd.int .i64)) w A2 l2.length l2) (hc2 : l2.length ≤ c2) (hr3 : Kd.C (Kd.slice 2 (Kd.int .i64)) w A3 l3.length l3) (hc3 : l3.length ≤ c3) (h : impl_LearnTable.f k a0 a1 l2 l3 = some (r1, r2)) :
    Calls Try.prog 44 #[.int .i64 a0, .int .i64 a1, .slice A2 l2.length c2, .slice A3 l3.length c3] w fun e w' => ∃ v0_ : Value, e = .returned (.tuple #[v0_, .bool r2]) ∧ Kd.R (Kd.int .i64) 2 w' w.heap.size (fun _ => True) v0_ r1 ∧ Below w.heap.size w w' := by
 have HR2 := Aside0.mk hr2; have HC2 := Aside0.mk hc2; clear hr2 hc2; have HR3 := Aside0.mk hr3; have HC3 := Aside0.mk hc3; clear hr3 hc3; have HB := Aside0.mk (Below.refl w.heap.size w); have H : ((impl_learn.f k a0 a1 l2 l3).bind fun bt196 => (some (bt196.1, bt196.2))) = some (r1, r2) := h; clear h; replace H := Option.bind_eq_some_iff.mp H; obtain ⟨⟨t196, t197⟩, A50, H⟩ := H; replace H : (some (t196, t197)) = some (r1, r2) := H; have A5 := Aside0.mk A50; clear A50; simp only [Option.some.injEq, Prod.mk.injEq] at H; obtain ⟨rfl, rfl⟩ := H; go_enter Try.func44, Try.ntmps44; go_wp2_with (first | ((with_reducible refine gate_callee (f := 88) rfl ?_); refine gL_ (some 14) Try.func88 #[.int .i64 a0, .int .i64 a1, .slice A2 l2.length c2, .slice A3 l3.length c3] ?_; (with_reducible refine (impl_learn.calls k a0 a1 _ _ l2 _ _ l3 t196 t197 _ ?side1 ?side2 ?side3 ?side4 A5.out).mono ?_); (case side1 => repeat (first | exact HR2.out | (with_reducible refine Kd.C_alloc ?_ _) | (with_reducible refine Kd.C_drewN ?_ _) | (with_reducible refine Kd.C_drew ?_))); (case side2 => exact HC2.out); (case side3 => repeat (first | exact HR3.out | (with_reducible refine Kd.C_alloc ?_ _) | (with_reducible refine Kd.C_drewN ?_ _) | (with_reducible refine Kd.C_drew ?_))); (case side4 => exact HC3.out); rintro e w6 ⟨v198, rfl, ho0, hb⟩; refine ⟨_, rfl, ?_⟩; have n0_ := Aside0.mk (Kd.R_lower ho0 (below_size (bk_ HB.out))); have n1_ := Aside0.mk (below_step (bk_ HB.out) hb); clear HB; have HO199 := n0_; have HB := n1_; clear n0_ n1_; (try clear hb); (try clear hb2); (try clear hk); (try clear hi); (try clear ho0)))
 go_ret2; exact ⟨_, by first | rfl | (simp [errW_none, errW_some] <;> rfl) | (simp [*, errW_none, errW_some] <;> rfl), by (with_reducible repeat (first | apply Kd.R_alloc | apply Kd.R_drewN | apply Kd.R_drew)); exact HO199.out, bk_ HB.out⟩

/-! ### laws_b10Long: function 53 -/
def laws_b10Long.f (l0 : List Int) (l1 : List Int) : Option (Bool) := if (l0.length : Int) > 1048576 then (some true) else (some (decide ((l1.length : Int) > 1048576)))
set_option maxHeartbeats 8000000 in
set_option maxRecDepth 100000 in
theorem laws_b10Long.calls (A0 : Option Addr) (c0 : Nat) (l0 : List Int) (A1 : Option Addr) (c1 : Nat) (l1 : List Int) (r : Bool) (w : World) (hr0 : Kd.C (Kd.int .u8) w A0 l0.length l0) (hc0 : l0.length ≤ c0) (hr1 : Kd.C (Kd.int .u8) w A1 l1.length l1) (hc1 : l1.length ≤ c1) (h : laws_b10Long.f l0 l1 = some r) :
    Calls Try.prog 53 #[.slice A0 l0.length c0, .slice A1 l1.length c1] w fun e w' => e = .returned (.bool r) ∧ Drawn0 w w' := by
 have HR0 := Aside0.mk hr0; have HC0 := Aside0.mk hc0; clear hr0 hc0; have HR1 := Aside0.mk hr1; have HC1 := Aside0.mk hc1; clear hr1 hc1; have H : (if (l0.length : Int) > 1048576 then (some true) else (some (decide ((l1.length : Int) > 1048576)))) = some r := h; clear h; by_cases c3 : (l0.length : Int) > 1048576
 · rw [if_pos c3] at H; have c3b0 : decide (1048576 < (l0.length : Int)) = true := decide_eq_true c3; have c3b1 : decide (1048576 < l0.length) = true := decide_eq_true (by omega); clear c3; obtain rfl := Option.some.inj H; go_enter Try.func53, Try.ntmps53; go_wp2; go_ret; exact ⟨by first | rfl | (simp; done) | (simp [i64_w, i32_w]; done) | (simp [*]; done) | (simp [*, i64_w, i32_w]; done), by repeat (first | exact Drawn0.refl _ | apply Drawn0.step)⟩
 · rw [if_neg c3] at H; have c3b0 : decide (1048576 < (l0.length : Int)) = false := decide_eq_false c3; have c3b1 : decide (1048576 < l0.length) = false := decide_eq_false (by omega); clear c3; obtain rfl := Option.some.inj H; go_enter Try.func53, Try.ntmps53; go_wp2; go_ret; exact ⟨by first | rfl | (simp; done) | (simp [i64_w, i32_w]; done) | (simp [*]; done) | (simp [*, i64_w, i32_w]; done), by repeat (first | exact Drawn0.refl _ | apply Drawn0.step)⟩

/-! ### laws_b10At: function 54 -/
def laws_b10At.f (l0 : List Int) (a1 : Int) (a2 : Int) : Option (Int) := if a2 ≤ 1 then (some 0) else (if a1 < (l0.length : Int) then (if 0 ≤ a1 then (if a2 = 0 then (none) else (some (Int.tmod (wrap64 (rd l0 a1)) a2))) else (none)) else (if a2 = 0 then (none) else (some (Int.tmod (wrap64 ((wrap64 (a1 * 37)) + 11)) a2))))
set_option maxHeartbeats 8000000 in
set_option maxRecDepth 100000 in
theorem laws_b10At.calls (A0 : Option Addr) (c0 : Nat) (l0 : List Int) (a1 : Int) (a2 : Int) (r : Int) (w : World) (hr0 : Kd.C (Kd.int .u8) w A0 l0.length l0) (hc0 : l0.length ≤ c0) (h : laws_b10At.f l0 a1 a2 = some r) :
    Calls Try.prog 54 #[.slice A0 l0.length c0, .int .i64 a1, .int .i64 a2] w fun e w' => e = .returned (.int .i64 r) ∧ Drawn0 w w' := by
 have HR0 := Aside0.mk hr0; have HC0 := Aside0.mk hc0; clear hr0 hc0; have H : (if a2 ≤ 1 then (some 0) else (if a1 < (l0.length : Int) then (if 0 ≤ a1 then (if a2 = 0 then (none) else (some (Int.tmod (wrap64 (rd l0 a1)) a2))) else (none)) else (if a2 = 0 then (none) else (some (Int.tmod (wrap64 ((wrap64 (a1 * 37)) + 11)) a2))))) = some r := h; clear h; by_cases c4 : a2 ≤ 1
 · rw [if_pos c4] at H; have c4b0 : decide (a2 ≤ 1) = true := decide_eq_true c4; clear c4; obtain rfl := Option.some.inj H; go_enter Try.func54, Try.ntmps54; go_wp2; go_ret; exact ⟨by first | rfl | (simp; done) | (simp [i64_w, i32_w]; done) | (simp [*]; done) | (simp [*, i64_w, i32_w]; done), by repeat (first | exact Drawn0.refl _ | apply Drawn0.step)⟩
 · rw [if_neg c4] at H; have c4b0 : decide (a2 ≤ 1) = false := decide_eq_false c4; clear c4; by_cases c5 : a1 < (l0.length : Int)
   · rw [if_pos c5] at H; have c5b0 : decide (a1 < (l0.length : Int)) = true := decide_eq_true c5; clear c5; by_cases c6 : 0 ≤ a1
     · rw [if_pos c6] at H; have c6b0 : decide (0 ≤ a1) = true := decide_eq_true c6; clear c6; by_cases c7 : a2 = 0
       · rw [if_pos c7] at H; exact absurd H (by simp)
       · rw [if_neg c7] at H; have c7b0 : (a2 == 0) = false := beq_eq_false_iff_ne.mpr c7; have c7b1 : (a2 != 0) = true := bne_iff_ne.mpr c7; obtain rfl := Option.some.inj H; have p200 : 0 ≤ (a1 : Int) := of_decide_eq_true (by first | (with_reducible assumption) | assumption); have q200 : a1 < (l0.length : Int) := of_decide_eq_true (by first | (with_reducible assumption) | assumption); obtain ⟨ad200, e200, hx200_0⟩ := Kd.at_int HR0.out a1 p200 q200; cases e200
         replace p200 := eq_true p200; replace q200 := eq_true q200; go_enter Try.func54, Try.ntmps54; go_wp2; go_ret; exact ⟨by first | rfl | (simp; done) | (simp [i64_w, i32_w]; done) | (simp [*]; done) | (simp [*, i64_w, i32_w]; done), by repeat (first | exact Drawn0.refl _ | apply Drawn0.step)⟩
     · rw [if_neg c6] at H; exact absurd H (by simp)
   · rw [if_neg c5] at H; have c5b0 : decide (a1 < (l0.length : Int)) = false := decide_eq_false c5; clear c5; by_cases c8 : a2 = 0
     · rw [if_pos c8] at H; exact absurd H (by simp)
     · rw [if_neg c8] at H; have c8b0 : (a2 == 0) = false := beq_eq_false_iff_ne.mpr c8; have c8b1 : (a2 != 0) = true := bne_iff_ne.mpr c8; obtain rfl := Option.some.inj H; go_enter Try.func54, Try.ntmps54; go_wp2; go_ret; exact ⟨by first | rfl | (simp; done) | (simp [i64_w, i32_w]; done) | (simp [*]; done) | (simp [*, i64_w, i32_w]; done), by repeat (first | exact Drawn0.refl _ | apply Drawn0.step)⟩

/-- A state of type 127 at block g of W; what its slices lead to came in by w0. -/
def IsS127 (w0 W : World) (g : Nat) (f0 : List Int) (f1 : Int) (f2 : Int) : Prop := ∃ A0 c0, W.heap[g]? = some (.cells #[.slice A0 f0.length c0, .int .i64 f1, .int .u64 f2] 127 (0, 0)) ∧ w0.heap.size ≤ g ∧ Kd.C (Kd.int .u8) w0 A0 f0.length f0
theorem IsS127.grown {w0 W : World} {g : Nat} {f0 : List Int} {f1 : Int} {f2 : Int} {W1 : World} {row : Option Nat} (h : IsS127 w0 W g f0 f1 f2) (hw : W.grownBy W1 row) (hne : some g ≠ row) : IsS127 w0 W1 g f0 f1 f2 := by
 obtain ⟨A0, c0, hb, hg, hr0⟩ := h; exact ⟨A0, c0, blk_grown hb hw hne, hg, hr0⟩
theorem IsS127.own_neN {w0 W : World} {g : Nat} {f0 : List Int} {f1 : Int} {f2 : Int} {α : Type} {d : Kd α} {e : Nat} {base : Nat} {ok : Nat → Prop} {v : Value} {xs : List α} (h : IsS127 w0 W g f0 f1 f2) (ho : Kd.N d e W base ok v xs) (ht : e ≠ 127) : some g ≠ v.ownBlock := by
 obtain ⟨A0, c0, hb, hg, hr0⟩ := h; exact Kd.N_ne ho hb ht
theorem IsS127.fresh {w0 W : World} {g : Nat} {f0 : List Int} {f1 : Int} {f2 : Int} (h : IsS127 w0 W g f0 f1 f2) : ∀ k, W.heap.size ≤ k → k ≠ g := by
 obtain ⟨A0, c0, hb, hg, hr0⟩ := h; exact Kd.freshB hb
theorem IsS127.kept {w0 W : World} {g : Nat} {f0 : List Int} {f1 : Int} {f2 : Int} {W1 : World} {S : Nat → Prop} (h : IsS127 w0 W g f0 f1 f2) (hk : Kept W W1 S) (hne : ¬ S g) : IsS127 w0 W1 g f0 f1 f2 := by
 obtain ⟨A0, c0, hb, hg, hr0⟩ := h; exact ⟨A0, c0, blk_kept hb hk hne, hg, hr0⟩
theorem IsS127.below {w0 W : World} {g : Nat} {f0 : List Int} {f1 : Int} {f2 : Int} {W1 : World} (h : IsS127 w0 W g f0 f1 f2) (hw : Below W.heap.size W W1) : IsS127 w0 W1 g f0 f1 f2 := h.grown (grown_of_below hw none) (by simp)
theorem IsS127.alloc {w0 W : World} {g : Nat} {f0 : List Int} {f1 : Int} {f2 : Int} (h : IsS127 w0 W g f0 f1 f2) (o : Obj) : IsS127 w0 (W.alloc o) g f0 f1 f2 := h.below (below_alloc (Below.refl _ _) o)
theorem IsS127.drewN {w0 W : World} {g : Nat} {f0 : List Int} {f1 : Int} {f2 : Int} (h : IsS127 w0 W g f0 f1 f2) (m : Nat) : IsS127 w0 (W.drewN m) g f0 f1 f2 := h
theorem IsS127.drew {w0 W : World} {g : Nat} {f0 : List Int} {f1 : Int} {f2 : Int} (h : IsS127 w0 W g f0 f1 f2) : IsS127 w0 W.drew g f0 f1 f2 := h
theorem IsS127.at_ {w0 W : World} {g : Nat} {f0 : List Int} {f1 : Int} {f2 : Int} {w' : World} {m : Nat} (hq : W.drewN m = w') (h : IsS127 w0 W g f0 f1 f2) : IsS127 w0 w' g f0 f1 f2 := by subst hq; exact IsS127.drewN h m
theorem IsS127.apart {w0 W : World} {g : Nat} {f0 : List Int} {f1 : Int} {f2 : Int} {α : Type} {d : Kd α} {e : Nat} {base : Nat} {ok : Nat → Prop} {v : Value} {xs : List α} (h : IsS127 w0 W g f0 f1 f2) (ho : d.R e W base ok v xs) (ht : ∀ q, q ∈ e :: d.E → q ≠ 127) : d.R e W base (fun k => ok k ∧ k ≠ g) v xs := by
 obtain ⟨A0, c0, hb, hg, hr0⟩ := h; exact Kd.R_types ho hb ht
theorem IsS127.own_ne {w0 W : World} {g : Nat} {f0 : List Int} {f1 : Int} {f2 : Int} {α : Type} {d : Kd α} {e : Nat} {base : Nat} {ok : Nat → Prop} {v : Value} {xs : List α} (h : IsS127 w0 W g f0 f1 f2) (ho : d.R e W base ok v xs) (ht : e ≠ 127) : some g ≠ v.ownBlock := by
 obtain ⟨A0, c0, hb, hg, hr0⟩ := h; exact Kd.R_ne ho hb ht
theorem IsS127.apartQ {w0 W : World} {g : Nat} {f0 : List Int} {f1 : Int} {f2 : Int} {α : Type} {d : Kd α} {e : Nat} {base : Nat} {ok : Nat → Prop} {v : Value} {xs : List α} (h : IsS127 w0 W g f0 f1 f2) (ho : d.Q e W base ok v xs) (ht : ∀ q, q ∈ e :: d.E → q ≠ 127) : d.Q e W base (fun k => ok k ∧ k ≠ g) v xs := by
 obtain ⟨A0, c0, hb, hg, hr0⟩ := h; exact Kd.Q_types ho hb ht
theorem IsS127.own_neQ {w0 W : World} {g : Nat} {f0 : List Int} {f1 : Int} {f2 : Int} {α : Type} {d : Kd α} {e : Nat} {base : Nat} {ok : Nat → Prop} {v : Value} {xs : List α} (h : IsS127 w0 W g f0 f1 f2) (ho : d.Q e W base ok v xs) (ht : e ≠ 127) : some g ≠ v.ownBlock := by
 obtain ⟨A0, c0, hb, hg, hr0⟩ := h; exact Kd.Q_ne ho hb ht
theorem IsS127.apartS {w0 W : World} {g : Nat} {f0 : List Int} {f1 : Int} {f2 : Int} {α : Type} {d : Kd α} {e : Nat} {base : Nat} {ok : Nat → Prop} {v : Value} {xs : List α} (h : IsS127 w0 W g f0 f1 f2) (ho : d.S e W base ok v xs) (ht : ∀ q, q ∈ e :: d.E → q ≠ 127) : d.S e W base (fun k => ok k ∧ k ≠ g) v xs := by
 obtain ⟨A0, c0, hb, hg, hr0⟩ := h; exact Kd.S_types ho hb ht
theorem IsS127.own_neS {w0 W : World} {g : Nat} {f0 : List Int} {f1 : Int} {f2 : Int} {α : Type} {d : Kd α} {e : Nat} {base : Nat} {ok : Nat → Prop} {v : Value} {xs : List α} (h : IsS127 w0 W g f0 f1 f2) (ho : d.S e W base ok v xs) (ht : e ≠ 127) : some g ≠ v.ownBlock := by
 obtain ⟨A0, c0, hb, hg, hr0⟩ := h; exact Kd.S_ne ho hb ht
theorem IsS127.lt {w0 W : World} {g : Nat} {f0 : List Int} {f1 : Int} {f2 : Int} (h : IsS127 w0 W g f0 f1 f2) : g < W.heap.size := by
 obtain ⟨A0, c0, hb, hg, hr0⟩ := h; exact blk_lt hb
theorem IsS127.ge {w0 W : World} {g : Nat} {f0 : List Int} {f1 : Int} {f2 : Int} (h : IsS127 w0 W g f0 f1 f2) : w0.heap.size ≤ g := by
 obtain ⟨A0, c0, hb, hg, hr0⟩ := h; exact hg
theorem IsS127.ne_blk {w0 W : World} {g : Nat} {f0 : List Int} {f1 : Int} {f2 : Int} {a : Nat} {cs : Array Value} {t : TypeId} {fr : Nat × Nat} (h : IsS127 w0 W g f0 f1 f2) (hb2 : W.heap[a]? = some (.cells cs t fr)) (ht : t ≠ 127) : g ≠ a := by
 obtain ⟨A0, c0, hb, hg, hr0⟩ := h; rintro rfl; rw [hb] at hb2; injection hb2 with hb2; injection hb2 with _ ht2; exact ht ht2.symm
theorem IsS127.far {w0 W : World} {g : Nat} {f0 : List Int} {f1 : Int} {f2 : Int} {p : Addr} (h : IsS127 w0 W g f0 f1 f2) (hne : g ≠ p.block) (u : Value) : IsS127 w0 (W.setCell p u) g f0 f1 f2 := by
 obtain ⟨A0, c0, hb, hg, hr0⟩ := h; exact ⟨A0, c0, blk_far hb hne u, hg, hr0⟩
theorem cellS127_0 {W : World} {g : Nat} {A0 : Option Addr} {c0 : Nat} {f0 : List Int} {f1 : Int} {f2 : Int} (h : W.heap[g]? = some (.cells #[.slice A0 f0.length c0, .int .i64 f1, .int .u64 f2] 127 (0, 0))) : W.cell? ⟨g, 0, none⟩ = some (.slice A0 f0.length c0) := (blk_cell h 0).trans rfl
theorem cellS127_1 {W : World} {g : Nat} {A0 : Option Addr} {c0 : Nat} {f0 : List Int} {f1 : Int} {f2 : Int} (h : W.heap[g]? = some (.cells #[.slice A0 f0.length c0, .int .i64 f1, .int .u64 f2] 127 (0, 0))) : W.cell? ⟨g, 1, none⟩ = some (.int .i64 f1) := (blk_cell h 1).trans rfl
theorem IsS127.set_1 {w0 W : World} {g : Nat} {f0 : List Int} {f1 : Int} {f2 : Int} (h : IsS127 w0 W g f0 f1 f2) (x : Int) : IsS127 w0 (W.setCell ⟨g, 1, none⟩ (.int .i64 x)) g f0 x f2 := by
 obtain ⟨A0, c0, hb, hg, hr0⟩ := h; exact ⟨A0, c0, by simpa using blk_set hb 1 (.int .i64 x), hg, hr0⟩
theorem cellS127_2 {W : World} {g : Nat} {A0 : Option Addr} {c0 : Nat} {f0 : List Int} {f1 : Int} {f2 : Int} (h : W.heap[g]? = some (.cells #[.slice A0 f0.length c0, .int .i64 f1, .int .u64 f2] 127 (0, 0))) : W.cell? ⟨g, 2, none⟩ = some (.int .u64 f2) := (blk_cell h 2).trans rfl
theorem IsS127.set_2 {w0 W : World} {g : Nat} {f0 : List Int} {f1 : Int} {f2 : Int} (h : IsS127 w0 W g f0 f1 f2) (x : Int) : IsS127 w0 (W.setCell ⟨g, 2, none⟩ (.int .u64 x)) g f0 f1 x := by
 obtain ⟨A0, c0, hb, hg, hr0⟩ := h; exact ⟨A0, c0, by simpa using blk_set hb 2 (.int .u64 x), hg, hr0⟩
theorem IsS127.new (w0 W : World) (A0 : Option Addr) (c0 : Nat) (f0 : List Int) (f1 : Int) (f2 : Int) (hB : Below w0.heap.size w0 W) (hr0 : Kd.C (Kd.int .u8) w0 A0 f0.length f0) : IsS127 w0 (W.alloc (.cells #[.slice A0 f0.length c0, .int .i64 f1, .int .u64 f2] 127)) W.heap.size f0 f1 f2 := ⟨A0, c0, by simpa using heap_alloc_new W _, hB.size, hr0⟩

/-! ### spec_l00From: function 97 -/
def spec_l00From.f (l0 : List Int) : Option (List Int × Int × Int) := some (l0, 0, 0)
set_option maxHeartbeats 8000000 in
set_option maxRecDepth 100000 in
theorem spec_l00From.calls (A0 : Option Addr) (c0 : Nat) (l0 : List Int) (r1 : List Int) (r2 : Int) (r3 : Int) (w0 w : World) (hB : Below w0.heap.size w0 w) (hr0 : Kd.C (Kd.int .u8) w0 A0 l0.length l0) (hc0 : l0.length ≤ c0) (h : spec_l00From.f l0 = some (r1, r2, r3)) :
    Calls Try.prog 97 #[.slice A0 l0.length c0] w fun e w' => ∃ g_ : Nat, e = .returned (.pointer (some ⟨g_, 0, none⟩)) ∧ IsS127 w0 w' g_ r1 r2 r3 ∧ Below w0.heap.size w0 w' ∧ Below w.heap.size w w' := by
 have hu127 := Try.underlying127; have HR0 := Aside0.mk hr0; have HC0 := Aside0.mk hc0; clear hr0 hc0; have HBW := Aside0.mk (Below.refl w.heap.size w); have HW0 := Aside0.mk hB.size; have HB := Aside0.mk hB; clear hB; have H : (some (l0, 0, 0)) = some (r1, r2, r3) := h; clear h; simp only [Option.some.injEq, Prod.mk.injEq] at H; obtain ⟨rfl, rfl, rfl⟩ := H; go_enter Try.func97, Try.ntmps97; go_wp2_with (first | ((with_reducible refine gate_dst (N := 5) rfl ?_); refine box_event ?hg (N := 5) ?hd (cs := #[.slice A0 l0.length c0, .int .i64 0, .int .u64 0]) (t := 127) ?hr ?_; (case hd => rfl); (case hg => rfl); (case hr => first | (go_simp; done) | (go_simp; rfl)); intro gb201 hg w2 hbox hb; have n0_ := Aside0.mk (below_step HBW.out hb); have n1_ := Aside0.mk (below_step (bk_ HB.out) hb); have n2_ := Aside0.mk (hbox); have n3_ := Aside0.mk ((by rw [hg]; exact (below_size (by repeat (first | (with_reducible first | exact HBW.out | apply below_alloc | apply pw_below_drewN | apply below_drew1) | exact HBW.out))) : w.heap.size ≤ gb201)); have n4_ := Aside0.mk ((Nat.le_trans HW0.out (by rw [hg]; exact (below_size (by repeat (first | (with_reducible first | exact HBW.out | apply below_alloc | apply pw_below_drewN | apply below_drew1) | exact HBW.out))) : w.heap.size ≤ gb201) : w0.heap.size ≤ gb201)); clear HBW HB; have HBW := n0_; have HB := n1_; have BK201 := n2_; have GW201 := n3_; have GE201 := n4_; clear n0_ n1_ n2_ n3_ n4_ hb hbox hg)); go_ret; exact ⟨_, rfl, (show IsS127 w0 _ gb201 l0 0 0 from ⟨_, _, by (with_reducible repeat (first | refine blk_drewN ?_ _ | refine blk_drew ?_ | refine blk_alloc ?_ _)); exact BK201.out, GE201.out, HR0.out⟩), by repeat (first | (with_reducible first | exact HB.out | apply below_alloc | apply pw_below_drewN | apply below_drew1 | refine below_set ?_ GE201.out) | exact HB.out), by repeat (first | (with_reducible first | exact HBW.out | apply below_alloc | apply pw_below_drewN | apply below_drew1 | refine below_set ?_ GW201.out) | exact HBW.out)⟩

/-! ### spec_l00Src_next: function 124 -/
def spec_l00Src_next.f (s0_0 : List Int) (s0_1 : Int) (s0_2 : Int) : Option (Int × Int × Int) := if s0_1 < (s0_0.length : Int) then (if 0 ≤ s0_1 then (if (wrap64 (s0_1 + 1)) ≤ (s0_0.length : Int) then (some (wrap64 (rd s0_0 s0_1), wrap64 (s0_1 + 1), IntKind.u64.wrap ((IntKind.u64.wrap ((IntKind.u64.wrap (s0_2 * 6364136223846793005)) + (IntKind.u64.wrap (wrap64 (rd s0_0 s0_1))))) + 1442695040888963407))) else (some (wrap64 (Go.bits .and .u64 ((IntKind.u64.wrap ((IntKind.u64.wrap ((IntKind.u64.wrap (s0_2 * 6364136223846793005)) + (IntKind.u64.wrap (wrap64 (rd s0_0 s0_1))))) + 1442695040888963407)) / 1099511627776) 255), wrap64 (s0_1 + 1), IntKind.u64.wrap ((IntKind.u64.wrap ((IntKind.u64.wrap (s0_2 * 6364136223846793005)) + (IntKind.u64.wrap (wrap64 (rd s0_0 s0_1))))) + 1442695040888963407)))) else (none)) else (if (wrap64 (s0_1 + 1)) ≤ (s0_0.length : Int) then (some (0, wrap64 (s0_1 + 1), IntKind.u64.wrap ((IntKind.u64.wrap ((IntKind.u64.wrap (s0_2 * 6364136223846793005)))) + 1442695040888963407))) else (some (wrap64 (Go.bits .and .u64 ((IntKind.u64.wrap ((IntKind.u64.wrap ((IntKind.u64.wrap (s0_2 * 6364136223846793005)))) + 1442695040888963407)) / 1099511627776) 255), wrap64 (s0_1 + 1), IntKind.u64.wrap ((IntKind.u64.wrap ((IntKind.u64.wrap (s0_2 * 6364136223846793005)))) + 1442695040888963407))))
set_option maxHeartbeats 8000000 in
set_option maxRecDepth 100000 in
theorem spec_l00Src_next.calls (g : Nat) (s0_0 : List Int) (s0_1 : Int) (s0_2 : Int) (r1 : Int) (r2 : Int) (r3 : Int) (w0 w : World) (hI : IsS127 w0 w g s0_0 s0_1 s0_2) (hB : Below w0.heap.size w0 w) (h : spec_l00Src_next.f s0_0 s0_1 s0_2 = some (r1, r2, r3)) :
    Calls Try.prog 124 #[.pointer (some ⟨g, 0, none⟩)] w fun e w' => e = .returned (.int .i64 r1) ∧ IsS127 w0 w' g s0_0 r2 r3 ∧ Below w0.heap.size w0 w' ∧ KeepBut w w' g none := by
 have HI0 := Aside0.mk hI; have HK := Aside0.mk (KeepBut.refl w g none); have HL := Aside0.mk hB.size; clear hI; have HW0 := Aside0.mk hB.size; have HB := Aside0.mk hB; clear hB; have H : (if s0_1 < (s0_0.length : Int) then (if 0 ≤ s0_1 then (if (wrap64 (s0_1 + 1)) ≤ (s0_0.length : Int) then (some (wrap64 (rd s0_0 s0_1), wrap64 (s0_1 + 1), IntKind.u64.wrap ((IntKind.u64.wrap ((IntKind.u64.wrap (s0_2 * 6364136223846793005)) + (IntKind.u64.wrap (wrap64 (rd s0_0 s0_1))))) + 1442695040888963407))) else (some (wrap64 (Go.bits .and .u64 ((IntKind.u64.wrap ((IntKind.u64.wrap ((IntKind.u64.wrap (s0_2 * 6364136223846793005)) + (IntKind.u64.wrap (wrap64 (rd s0_0 s0_1))))) + 1442695040888963407)) / 1099511627776) 255), wrap64 (s0_1 + 1), IntKind.u64.wrap ((IntKind.u64.wrap ((IntKind.u64.wrap (s0_2 * 6364136223846793005)) + (IntKind.u64.wrap (wrap64 (rd s0_0 s0_1))))) + 1442695040888963407)))) else (none)) else (if (wrap64 (s0_1 + 1)) ≤ (s0_0.length : Int) then (some (0, wrap64 (s0_1 + 1), IntKind.u64.wrap ((IntKind.u64.wrap ((IntKind.u64.wrap (s0_2 * 6364136223846793005)))) + 1442695040888963407))) else (some (wrap64 (Go.bits .and .u64 ((IntKind.u64.wrap ((IntKind.u64.wrap ((IntKind.u64.wrap (s0_2 * 6364136223846793005)))) + 1442695040888963407)) / 1099511627776) 255), wrap64 (s0_1 + 1), IntKind.u64.wrap ((IntKind.u64.wrap ((IntKind.u64.wrap (s0_2 * 6364136223846793005)))) + 1442695040888963407))))) = some (r1, r2, r3) := h; clear h; by_cases c2 : s0_1 < (s0_0.length : Int)
 · rw [if_pos c2] at H; have c2b0 : decide (s0_1 < (s0_0.length : Int)) = true := decide_eq_true c2; clear c2; by_cases c3 : 0 ≤ s0_1
   · rw [if_pos c3] at H; have c3b0 : decide (0 ≤ s0_1) = true := decide_eq_true c3; clear c3; by_cases c4 : (wrap64 (s0_1 + 1)) ≤ (s0_0.length : Int)
     · rw [if_pos c4] at H; have c4b0 : decide ((wrap64 (s0_1 + 1)) ≤ (s0_0.length : Int)) = true := decide_eq_true c4; clear c4; simp only [Option.some.injEq, Prod.mk.injEq] at H; obtain ⟨rfl, rfl, rfl⟩ := H; obtain ⟨ASz5_0, cSz5_0, HGz5, hgz5, HSz5_0⟩ := HI0.out; have hcz5_0 := cellS127_0 HGz5; have hcz5_1 := cellS127_1 HGz5; have hcz5_2 := cellS127_2 HGz5; have hfz5_1 := blk_frozen HGz5 1; have hfz5_2 := blk_frozen HGz5 2; clear HGz5 hgz5; have p202 : 0 ≤ (s0_1 : Int) := of_decide_eq_true (by first | (with_reducible assumption) | assumption); have q202 : s0_1 < (s0_0.length : Int) := of_decide_eq_true (by first | (with_reducible assumption) | assumption); obtain ⟨ad202, e202, hx202_0⟩ := Kd.at_int HSz5_0 s0_1 p202 q202; cases e202
       replace hx202_0 := pw_cell_below HB.out hx202_0; replace p202 := eq_true p202; replace q202 := eq_true q202; go_enter Try.func124, Try.ntmps124; go_wp2; repeat (go_quiet (fail); try go_wp2)
       go_ret; exact ⟨by first | rfl | (simp [errW_none, errW_some] <;> rfl) | (simp [*, errW_none, errW_some] <;> rfl), by repeat (first | (with_reducible first | exact HI0.out | apply IsS127.alloc | apply IsS127.drewN | apply IsS127.drew | apply IsS127.set_1 | apply IsS127.set_2) | exact HI0.out), by repeat (first | (with_reducible first | exact HB.out | apply below_alloc | apply pw_below_drewN | apply below_drew1 | refine below_set ?_ (IsS127.ge HI0.out)) | exact HB.out), by repeat (first | (with_reducible first | exact HK.out | apply KeepBut.set_ | apply keep_drewN | apply keep_drew | apply keep_alloc) | exact HK.out)⟩
     · rw [if_neg c4] at H; have c4b0 : decide ((wrap64 (s0_1 + 1)) ≤ (s0_0.length : Int)) = false := decide_eq_false c4; clear c4; simp only [Option.some.injEq, Prod.mk.injEq] at H; obtain ⟨rfl, rfl, rfl⟩ := H; obtain ⟨ASz6_0, cSz6_0, HGz6, hgz6, HSz6_0⟩ := HI0.out; have hcz6_0 := cellS127_0 HGz6; have hcz6_1 := cellS127_1 HGz6; have hcz6_2 := cellS127_2 HGz6; have hfz6_1 := blk_frozen HGz6 1; have hfz6_2 := blk_frozen HGz6 2; clear HGz6 hgz6; have p202 : 0 ≤ (s0_1 : Int) := of_decide_eq_true (by first | (with_reducible assumption) | assumption); have q202 : s0_1 < (s0_0.length : Int) := of_decide_eq_true (by first | (with_reducible assumption) | assumption); obtain ⟨ad202, e202, hx202_0⟩ := Kd.at_int HSz6_0 s0_1 p202 q202; cases e202
       replace hx202_0 := pw_cell_below HB.out hx202_0; replace p202 := eq_true p202; replace q202 := eq_true q202; go_enter Try.func124, Try.ntmps124; go_wp2; repeat (go_quiet (fail); try go_wp2)
       go_ret; exact ⟨by first | rfl | (simp [errW_none, errW_some] <;> rfl) | (simp [*, errW_none, errW_some] <;> rfl), by repeat (first | (with_reducible first | exact HI0.out | apply IsS127.alloc | apply IsS127.drewN | apply IsS127.drew | apply IsS127.set_1 | apply IsS127.set_2) | exact HI0.out), by repeat (first | (with_reducible first | exact HB.out | apply below_alloc | apply pw_below_drewN | apply below_drew1 | refine below_set ?_ (IsS127.ge HI0.out)) | exact HB.out), by repeat (first | (with_reducible first | exact HK.out | apply KeepBut.set_ | apply keep_drewN | apply keep_drew | apply keep_alloc) | exact HK.out)⟩
   · rw [if_neg c3] at H; exact absurd H (by simp)
 · rw [if_neg c2] at H; have c2b0 : decide (s0_1 < (s0_0.length : Int)) = false := decide_eq_false c2; clear c2; by_cases c7 : (wrap64 (s0_1 + 1)) ≤ (s0_0.length : Int)
   · rw [if_pos c7] at H; have c7b0 : decide ((wrap64 (s0_1 + 1)) ≤ (s0_0.length : Int)) = true := decide_eq_true c7; clear c7; simp only [Option.some.injEq, Prod.mk.injEq] at H; obtain ⟨rfl, rfl, rfl⟩ := H; obtain ⟨ASz8_0, cSz8_0, HGz8, hgz8, HSz8_0⟩ := HI0.out; have hcz8_0 := cellS127_0 HGz8; have hcz8_1 := cellS127_1 HGz8; have hcz8_2 := cellS127_2 HGz8; have hfz8_1 := blk_frozen HGz8 1; have hfz8_2 := blk_frozen HGz8 2; clear HGz8 hgz8; go_enter Try.func124, Try.ntmps124; go_wp2; repeat (go_quiet (fail); try go_wp2)
     go_ret; exact ⟨by first | rfl | (simp [errW_none, errW_some] <;> rfl) | (simp [*, errW_none, errW_some] <;> rfl), by repeat (first | (with_reducible first | exact HI0.out | apply IsS127.alloc | apply IsS127.drewN | apply IsS127.drew | apply IsS127.set_1 | apply IsS127.set_2) | exact HI0.out), by repeat (first | (with_reducible first | exact HB.out | apply below_alloc | apply pw_below_drewN | apply below_drew1 | refine below_set ?_ (IsS127.ge HI0.out)) | exact HB.out), by repeat (first | (with_reducible first | exact HK.out | apply KeepBut.set_ | apply keep_drewN | apply keep_drew | apply keep_alloc) | exact HK.out)⟩
   · rw [if_neg c7] at H; have c7b0 : decide ((wrap64 (s0_1 + 1)) ≤ (s0_0.length : Int)) = false := decide_eq_false c7; clear c7; simp only [Option.some.injEq, Prod.mk.injEq] at H; obtain ⟨rfl, rfl, rfl⟩ := H; obtain ⟨ASz9_0, cSz9_0, HGz9, hgz9, HSz9_0⟩ := HI0.out; have hcz9_0 := cellS127_0 HGz9; have hcz9_1 := cellS127_1 HGz9; have hcz9_2 := cellS127_2 HGz9; have hfz9_1 := blk_frozen HGz9 1; have hfz9_2 := blk_frozen HGz9 2; clear HGz9 hgz9; go_enter Try.func124, Try.ntmps124; go_wp2; repeat (go_quiet (fail); try go_wp2)
     go_ret; exact ⟨by first | rfl | (simp [errW_none, errW_some] <;> rfl) | (simp [*, errW_none, errW_some] <;> rfl), by repeat (first | (with_reducible first | exact HI0.out | apply IsS127.alloc | apply IsS127.drewN | apply IsS127.drew | apply IsS127.set_1 | apply IsS127.set_2) | exact HI0.out), by repeat (first | (with_reducible first | exact HB.out | apply below_alloc | apply pw_below_drewN | apply below_drew1 | refine below_set ?_ (IsS127.ge HI0.out)) | exact HB.out), by repeat (first | (with_reducible first | exact HK.out | apply KeepBut.set_ | apply keep_drewN | apply keep_drew | apply keep_alloc) | exact HK.out)⟩

/-! ### spec_l00Src_pick: function 99 -/
def spec_l00Src_pick.f (s0_0 : List Int) (s0_1 : Int) (s0_2 : Int) (a1 : Int) : Option (Int × Int × Int) := if a1 ≤ 1 then (some (0, s0_1, s0_2)) else ((spec_l00Src_next.f s0_0 s0_1 s0_2).bind fun bt203 => (if a1 > 200 then ((spec_l00Src_next.f s0_0 bt203.2.1 bt203.2.2).bind fun bt206 => (if a1 = 0 then (none) else (some (Int.tmod (wrap64 ((wrap64 (bt203.1 * 256)) + bt206.1)) a1, bt206.2.1, bt206.2.2)))) else (if a1 = 0 then (none) else (some (Int.tmod bt203.1 a1, bt203.2.1, bt203.2.2)))))
set_option maxHeartbeats 8000000 in
set_option maxRecDepth 100000 in
theorem spec_l00Src_pick.calls (g : Nat) (s0_0 : List Int) (s0_1 : Int) (s0_2 : Int) (a1 : Int) (r1 : Int) (r2 : Int) (r3 : Int) (w0 w : World) (hI : IsS127 w0 w g s0_0 s0_1 s0_2) (hB : Below w0.heap.size w0 w) (h : spec_l00Src_pick.f s0_0 s0_1 s0_2 a1 = some (r1, r2, r3)) :
    Calls Try.prog 99 #[.pointer (some ⟨g, 0, none⟩), .int .i64 a1] w fun e w' => e = .returned (.int .i64 r1) ∧ IsS127 w0 w' g s0_0 r2 r3 ∧ Below w0.heap.size w0 w' ∧ KeepBut w w' g none := by
 have HI0 := Aside0.mk hI; have HK := Aside0.mk (KeepBut.refl w g none); have HL := Aside0.mk hB.size; clear hI; have HW0 := Aside0.mk hB.size; have HB := Aside0.mk hB; clear hB; have H : (if a1 ≤ 1 then (some (0, s0_1, s0_2)) else ((spec_l00Src_next.f s0_0 s0_1 s0_2).bind fun bt203 => (if a1 > 200 then ((spec_l00Src_next.f s0_0 bt203.2.1 bt203.2.2).bind fun bt206 => (if a1 = 0 then (none) else (some (Int.tmod (wrap64 ((wrap64 (bt203.1 * 256)) + bt206.1)) a1, bt206.2.1, bt206.2.2)))) else (if a1 = 0 then (none) else (some (Int.tmod bt203.1 a1, bt203.2.1, bt203.2.2)))))) = some (r1, r2, r3) := h; clear h; by_cases c3 : a1 ≤ 1
 · rw [if_pos c3] at H; have c3b0 : decide (a1 ≤ 1) = true := decide_eq_true c3; clear c3; simp only [Option.some.injEq, Prod.mk.injEq] at H; obtain ⟨rfl, rfl, rfl⟩ := H; go_enter Try.func99, Try.ntmps99; go_wp2; go_ret; exact ⟨by first | rfl | (simp [errW_none, errW_some] <;> rfl) | (simp [*, errW_none, errW_some] <;> rfl), by repeat (first | (with_reducible first | exact HI0.out | apply IsS127.alloc | apply IsS127.drewN | apply IsS127.drew | apply IsS127.set_1 | apply IsS127.set_2) | exact HI0.out), by repeat (first | (with_reducible first | exact HB.out | apply below_alloc | apply pw_below_drewN | apply below_drew1 | refine below_set ?_ (IsS127.ge HI0.out)) | exact HB.out), by repeat (first | (with_reducible first | exact HK.out | apply KeepBut.set_ | apply keep_drewN | apply keep_drew | apply keep_alloc) | exact HK.out)⟩
 · rw [if_neg c3] at H; have c3b0 : decide (a1 ≤ 1) = false := decide_eq_false c3; clear c3; replace H := Option.bind_eq_some_iff.mp H; obtain ⟨⟨t203, t204, t205⟩, A40, H⟩ := H; replace H : (if a1 > 200 then ((spec_l00Src_next.f s0_0 t204 t205).bind fun bt206 => (if a1 = 0 then (none) else (some (Int.tmod (wrap64 ((wrap64 (t203 * 256)) + bt206.1)) a1, bt206.2.1, bt206.2.2)))) else (if a1 = 0 then (none) else (some (Int.tmod t203 a1, t204, t205)))) = some (r1, r2, r3) := H; have A4 := Aside0.mk A40; clear A40; by_cases c5 : a1 > 200
   · rw [if_pos c5] at H; have c5b0 : decide (200 < a1) = true := decide_eq_true c5; clear c5; replace H := Option.bind_eq_some_iff.mp H; obtain ⟨⟨t206, t207, t208⟩, A60, H⟩ := H; replace H : (if a1 = 0 then (none) else (some (Int.tmod (wrap64 ((wrap64 (t203 * 256)) + t206)) a1, t207, t208))) = some (r1, r2, r3) := H; have A6 := Aside0.mk A60; clear A60; by_cases c7 : a1 = 0
     · rw [if_pos c7] at H; exact absurd H (by simp)
     · rw [if_neg c7] at H; have c7b0 : (a1 == 0) = false := beq_eq_false_iff_ne.mpr c7; have c7b1 : (a1 != 0) = true := bne_iff_ne.mpr c7; simp only [Option.some.injEq, Prod.mk.injEq] at H; obtain ⟨rfl, rfl, rfl⟩ := H; go_enter Try.func99, Try.ntmps99; go_wp2_with (first | ((with_reducible refine gate_callee (f := 124) rfl ?_); refine gL_ (some 9) Try.func124 #[.pointer (some ⟨g, 0, none⟩)] ?_; (with_reducible refine (spec_l00Src_next.calls g s0_0 s0_1 s0_2 t203 t204 t205 w0 _ ?side1 ?side2 A4.out).mono ?_); (case side1 => repeat (first | (with_reducible first | exact HI0.out | apply IsS127.alloc | apply IsS127.drewN | apply IsS127.drew | apply IsS127.set_1 | apply IsS127.set_2) | exact HI0.out)); (case side2 => repeat (first | (with_reducible first | exact HB.out | apply below_alloc | apply pw_below_drewN | apply below_drew1 | refine below_set ?_ (IsS127.ge HI0.out)) | exact HB.out)); rintro e w8 ⟨rfl, hi, hb, hk⟩; refine ⟨_, rfl, ?_⟩; have n0_ := Aside0.mk (KeepBut.trans (by repeat (first | (with_reducible first | exact HK.out | apply KeepBut.set_ | apply keep_drewN | apply keep_drew | apply keep_alloc) | exact HK.out)) hk (.inl rfl)); have n1_ := Aside0.mk (hb); have n2_ := Aside0.mk (hi); clear HK HB HI0; have HK := n0_; have HB := n1_; have HI0 := n2_; clear n0_ n1_ n2_; (try clear hb); (try clear hb2); (try clear hk); (try clear hi)) | ((with_reducible refine gate_callee (f := 124) rfl ?_); refine gL_ (some 15) Try.func124 #[.pointer (some ⟨g, 0, none⟩)] ?_; (with_reducible refine (spec_l00Src_next.calls g s0_0 t204 t205 t206 t207 t208 w0 _ ?side1 ?side2 A6.out).mono ?_); (case side1 => repeat (first | (with_reducible first | exact HI0.out | apply IsS127.alloc | apply IsS127.drewN | apply IsS127.drew | apply IsS127.set_1 | apply IsS127.set_2) | exact HI0.out)); (case side2 => repeat (first | (with_reducible first | exact HB.out | apply below_alloc | apply pw_below_drewN | apply below_drew1 | refine below_set ?_ (IsS127.ge HI0.out)) | exact HB.out)); rintro e w9 ⟨rfl, hi, hb, hk⟩; refine ⟨_, rfl, ?_⟩; have n0_ := Aside0.mk (KeepBut.trans (by repeat (first | (with_reducible first | exact HK.out | apply KeepBut.set_ | apply keep_drewN | apply keep_drew | apply keep_alloc) | exact HK.out)) hk (.inl rfl)); have n1_ := Aside0.mk (hb); have n2_ := Aside0.mk (hi); clear HK HB HI0; have HK := n0_; have HB := n1_; have HI0 := n2_; clear n0_ n1_ n2_; (try clear hb); (try clear hb2); (try clear hk); (try clear hi)))
       go_ret; exact ⟨by first | rfl | (simp [errW_none, errW_some] <;> rfl) | (simp [*, errW_none, errW_some] <;> rfl), by repeat (first | (with_reducible first | exact HI0.out | apply IsS127.alloc | apply IsS127.drewN | apply IsS127.drew | apply IsS127.set_1 | apply IsS127.set_2) | exact HI0.out), by repeat (first | (with_reducible first | exact HB.out | apply below_alloc | apply pw_below_drewN | apply below_drew1 | refine below_set ?_ (IsS127.ge HI0.out)) | exact HB.out), by repeat (first | (with_reducible first | exact HK.out | apply KeepBut.set_ | apply keep_drewN | apply keep_drew | apply keep_alloc) | exact HK.out)⟩
   · rw [if_neg c5] at H; have c5b0 : decide (200 < a1) = false := decide_eq_false c5; clear c5; by_cases c10 : a1 = 0
     · rw [if_pos c10] at H; exact absurd H (by simp)
     · rw [if_neg c10] at H; have c10b0 : (a1 == 0) = false := beq_eq_false_iff_ne.mpr c10; have c10b1 : (a1 != 0) = true := bne_iff_ne.mpr c10; simp only [Option.some.injEq, Prod.mk.injEq] at H; obtain ⟨rfl, rfl, rfl⟩ := H; go_enter Try.func99, Try.ntmps99; go_wp2_with (first | ((with_reducible refine gate_callee (f := 124) rfl ?_); refine gL_ (some 9) Try.func124 #[.pointer (some ⟨g, 0, none⟩)] ?_; (with_reducible refine (spec_l00Src_next.calls g s0_0 s0_1 s0_2 t203 t204 t205 w0 _ ?side1 ?side2 A4.out).mono ?_); (case side1 => repeat (first | (with_reducible first | exact HI0.out | apply IsS127.alloc | apply IsS127.drewN | apply IsS127.drew | apply IsS127.set_1 | apply IsS127.set_2) | exact HI0.out)); (case side2 => repeat (first | (with_reducible first | exact HB.out | apply below_alloc | apply pw_below_drewN | apply below_drew1 | refine below_set ?_ (IsS127.ge HI0.out)) | exact HB.out)); rintro e w11 ⟨rfl, hi, hb, hk⟩; refine ⟨_, rfl, ?_⟩; have n0_ := Aside0.mk (KeepBut.trans (by repeat (first | (with_reducible first | exact HK.out | apply KeepBut.set_ | apply keep_drewN | apply keep_drew | apply keep_alloc) | exact HK.out)) hk (.inl rfl)); have n1_ := Aside0.mk (hb); have n2_ := Aside0.mk (hi); clear HK HB HI0; have HK := n0_; have HB := n1_; have HI0 := n2_; clear n0_ n1_ n2_; (try clear hb); (try clear hb2); (try clear hk); (try clear hi))); go_ret; exact ⟨by first | rfl | (simp [errW_none, errW_some] <;> rfl) | (simp [*, errW_none, errW_some] <;> rfl), by repeat (first | (with_reducible first | exact HI0.out | apply IsS127.alloc | apply IsS127.drewN | apply IsS127.drew | apply IsS127.set_1 | apply IsS127.set_2) | exact HI0.out), by repeat (first | (with_reducible first | exact HB.out | apply below_alloc | apply pw_below_drewN | apply below_drew1 | refine below_set ?_ (IsS127.ge HI0.out)) | exact HB.out), by repeat (first | (with_reducible first | exact HK.out | apply KeepBut.set_ | apply keep_drewN | apply keep_drew | apply keep_alloc) | exact HK.out)⟩

/-! ### spec_l07DrawTwo: function 98 -/
def spec_l07DrawTwo.l0 : Nat → Int → List Int → Int → Int → Int → Int → List Int → Option (Int × Int × List Int × Int × Int)
  | 0, _, _, _, _, _, _, _ => none
  | k + 1, x6, x1000, x1001, x1002, x211000, x211001, x211002 => if x6 > 0 then ((spec_l00Src_pick.f x1000 x1001 x1002 2).bind fun bt212 => (if x211002.length < 17592186044416 then (spec_l07DrawTwo.l0 k (wrap64 (x6 - 1)) x1000 bt212.2.1 bt212.2.2 x211000 x211001 (x211002 ++ [bt212.1])) else (none))) else (some (x211000, x211001, x211002, x1001, x1002))
def spec_l07DrawTwo.f (k : Nat) (s0_0 : List Int) (s0_1 : Int) (s0_2 : Int) (a1 : Int) : Option (Int × Int × List Int × Int × Int) := (spec_l03Power.f k 2 (wrap64 ((wrap64 (2 * a1)) + 1))).bind fun t211 => (spec_l07DrawTwo.l0 k t211 s0_0 s0_1 s0_2 2 a1 ([] : List Int))
theorem spec_l07DrawTwo.mono_l : ∀ k, (∀ y0 y1 y2 y3 y4 y5 y6, LeO (spec_l07DrawTwo.l0 k y0 y1 y2 y3 y4 y5 y6) (spec_l07DrawTwo.l0 (k + 1) y0 y1 y2 y3 y4 y5 y6))
  | 0 => fun _ _ _ _ _ _ _ r h => by simp [spec_l07DrawTwo.l0] at h
  | k + 1 => by
    have ih0 := spec_l07DrawTwo.mono_l k
    · intro y0 y1 y2 y3 y4 y5 y6
      unfold spec_l07DrawTwo.l0
      repeat' first
      | (with_reducible exact ih0 _ _ _ _ _ _ _)
      | (with_reducible exact spec_l03Power.mono _ _ _)
      | (with_reducible exact LeO.refl _)
      | (with_reducible exact LeO.none _)
      | (with_reducible refine LeO.ite ?_ ?_)
      | (with_reducible refine LeO.bind ?_ (fun _ => ?_))
      | exact ih0 _ _ _ _ _ _ _
      | exact spec_l03Power.mono _ _ _
      | exact LeO.none _
      | refine LeO.ite ?_ ?_
      | refine LeO.bind ?_ (fun _ => ?_)
theorem spec_l07DrawTwo.mono : ∀ a0 a1 a2 a3 k, LeO (spec_l07DrawTwo.f k a0 a1 a2 a3) (spec_l07DrawTwo.f (k + 1) a0 a1 a2 a3) := by
 intro a0 a1 a2 a3 k; have ih0 := spec_l07DrawTwo.mono_l k; unfold spec_l07DrawTwo.f; repeat' first
  | (with_reducible exact ih0 _ _ _ _ _ _ _)
  | (with_reducible exact spec_l03Power.mono _ _ _)
  | (with_reducible exact LeO.refl _)
  | (with_reducible exact LeO.none _)
  | (with_reducible refine LeO.ite ?_ ?_)
  | (with_reducible refine LeO.bind ?_ (fun _ => ?_))
  | exact ih0 _ _ _ _ _ _ _
  | exact spec_l03Power.mono _ _ _
  | exact LeO.none _
  | refine LeO.ite ?_ ?_
  | refine LeO.bind ?_ (fun _ => ?_)
def spec_l07DrawTwo.T5 : Bool × List (List Nat × List Nat) := (true, [([], []), ([0], [0]), ([], []), ([2], [2]), ([3], [3]), ([1, 4, 3], [1, 4]), ([0, 1, 2, 3, 4, 5], []), ([6, 5, 5, 0, 1, 2, 3, 4, 5], [5, 6])])
def spec_l07DrawTwo.B5 : List Nat := [0, 1, 0, 4, 12, 31, 63, 127]
theorem spec_l07DrawTwo.tab5 : rtab .any (opsOf Try.f98 5) = spec_l07DrawTwo.T5 := by kernel_rfl
theorem spec_l07DrawTwo.bits5 : waitsOk spec_l07DrawTwo.T5.2 spec_l07DrawTwo.B5 = true := by kernel_rfl
set_option maxHeartbeats 8000000 in
set_option maxRecDepth 100000 in
theorem spec_l07DrawTwo.calls (k : Nat) (g : Nat) (s0_0 : List Int) (s0_1 : Int) (s0_2 : Int) (a1 : Int) (r1 : Int) (r2 : Int) (r3 : List Int) (r4 : Int) (r5 : Int) (w0 w : World) (hI : IsS127 w0 w g s0_0 s0_1 s0_2) (hB : Below w0.heap.size w0 w) (h : spec_l07DrawTwo.f k s0_0 s0_1 s0_2 a1 = some (r1, r2, r3, r4, r5)) :
    Calls Try.prog 98 #[.pointer (some ⟨g, 0, none⟩), .int .i64 a1] w fun e w' => ∃ v2_ : Value, e = .returned (.agg #[.int .i64 r1, .int .i64 r2, v2_]) ∧ Kd.R (Kd.int .i64) 2 w' w.heap.size (fun _ => True) v2_ r3 ∧ IsS127 w0 w' g s0_0 r4 r5 ∧ Below w0.heap.size w0 w' ∧ KeepBut w w' g none := by
 have hu38 := Try.underlying38; have hu22 := Try.underlying22; have HI0 := Aside0.mk hI; have HK := Aside0.mk (KeepBut.refl w g none); have HL := Aside0.mk hB.size; clear hI; have HW0 := Aside0.mk hB.size; have HB := Aside0.mk hB; clear hB; have H : ((spec_l03Power.f k 2 (wrap64 ((wrap64 (2 * a1)) + 1))).bind fun t211 => (spec_l07DrawTwo.l0 k t211 s0_0 s0_1 s0_2 2 a1 ([] : List Int))) = some (r1, r2, r3, r4, r5) := h; clear h; replace H := Option.bind_eq_some_iff.mp H; obtain ⟨t211, A30, H⟩ := H; replace H : (spec_l07DrawTwo.l0 k t211 s0_0 s0_1 s0_2 2 a1 ([] : List Int)) = some (r1, r2, r3, r4, r5) := H; have A3 := Aside0.mk A30; clear A30; have H' := Aside0.mk H; clear H; go_enter Try.func98, Try.ntmps98; go_wp2_with (first | ((with_reducible refine gate_dst (N := 4) rfl ?_); refine box_event ?hg (N := 4) ?hd (cs := #[.int .i64 0, .int .i64 0, .slice none 0 0]) (t := 38) ?hr ?_; (case hd => rfl); (case hg => rfl); (case hr => first | (go_simp; done) | (go_simp; rfl)); intro gb209 hg w4 hbox hb; have n0_ := Aside0.mk (IsS127.below (by repeat (first | (with_reducible first | exact HI0.out | apply IsS127.alloc | apply IsS127.drewN | apply IsS127.drew | apply IsS127.set_1 | apply IsS127.set_2) | exact HI0.out)) hb); have n1_ := Aside0.mk (KeepBut.trans (by repeat (first | (with_reducible first | exact HK.out | apply KeepBut.set_ | apply keep_drewN | apply keep_drew | apply keep_alloc) | exact HK.out)) (KeepBut.of_below hb g none) (.inl rfl)); have n2_ := Aside0.mk (below_step (by repeat (first | (with_reducible first | exact HB.out | apply below_alloc | apply pw_below_drewN | apply below_drew1 | refine below_set ?_ (IsS127.ge HI0.out)) | exact HB.out)) hb); have n3_ := Aside0.mk (hbox); have n4_ := Aside0.mk ((by rw [hg]; exact (keep_size (w := w) (g := g) (row := none) (by repeat (first | (with_reducible first | exact HK.out | apply KeepBut.set_ | apply keep_drewN | apply keep_drew | apply keep_alloc) | exact HK.out))) : w.heap.size ≤ gb209)); have n5_ := Aside0.mk ((Nat.le_trans HW0.out (by rw [hg]; exact (keep_size (w := w) (g := g) (row := none) (by repeat (first | (with_reducible first | exact HK.out | apply KeepBut.set_ | apply keep_drewN | apply keep_drew | apply keep_alloc) | exact HK.out))) : w.heap.size ≤ gb209) : w0.heap.size ≤ gb209)); have n6_ := Aside0.mk ((by rw [hg]; exact Nat.ne_of_lt (IsS127.lt (show IsS127 w0 _ g s0_0 s0_1 s0_2 from by repeat (first | (with_reducible first | exact HI0.out | apply IsS127.alloc | apply IsS127.drewN | apply IsS127.drew | apply IsS127.set_1 | apply IsS127.set_2) | exact HI0.out))) : g ≠ gb209)); have n7_ := Aside0.mk ((by rw [hg]; exact Nat.ne_of_gt (IsS127.lt (show IsS127 w0 _ g s0_0 s0_1 s0_2 from by repeat (first | (with_reducible first | exact HI0.out | apply IsS127.alloc | apply IsS127.drewN | apply IsS127.drew | apply IsS127.set_1 | apply IsS127.set_2) | exact HI0.out))) : gb209 ≠ g)); clear HI0 HK HB; have HI0 := n0_; have HK := n1_; have HB := n2_; have BK209 := n3_; have GW209 := n4_; have GE209 := n5_; have NB0_209 := n6_; have NB209_0 := n7_; clear n0_ n1_ n2_ n3_ n4_ n5_ n6_ n7_ hb hbox hg) | ((with_reducible refine gate_dst (N := 5) rfl ?_); refine box_event ?hg (N := 5) ?hd (cs := #[.int .i64 0, .int .i64 0, .slice none 0 0]) (t := 38) ?hr ?_; (case hd => rfl); (case hg => rfl); (case hr => first | (go_simp; done) | (go_simp; rfl)); intro gb210 hg w5 hbox hb; have n0_ := Aside0.mk (IsS127.below (by repeat (first | (with_reducible first | exact HI0.out | apply IsS127.alloc | apply IsS127.drewN | apply IsS127.drew | apply IsS127.set_1 | apply IsS127.set_2 | refine IsS127.far ?_ NB0_209.out _) | exact HI0.out)) hb); have n1_ := Aside0.mk (bb_ BK209.out hb); have n2_ := Aside0.mk (KeepBut.trans (by repeat (first | (with_reducible first | exact HK.out | apply KeepBut.set_ | apply keep_drewN | apply keep_drew | apply keep_alloc | refine keep_far ?_ GW209.out _) | exact HK.out)) (KeepBut.of_below hb g none) (.inl rfl)); have n3_ := Aside0.mk (below_step (by repeat (first | (with_reducible first | exact HB.out | apply below_alloc | apply pw_below_drewN | apply below_drew1 | refine below_set ?_ (IsS127.ge HI0.out) | refine below_set ?_ GE209.out) | exact HB.out)) hb); have n4_ := Aside0.mk (hbox); have n5_ := Aside0.mk ((by rw [hg]; exact (keep_size (w := w) (g := g) (row := none) (by repeat (first | (with_reducible first | exact HK.out | apply KeepBut.set_ | apply keep_drewN | apply keep_drew | apply keep_alloc | refine keep_far ?_ GW209.out _) | exact HK.out))) : w.heap.size ≤ gb210)); have n6_ := Aside0.mk ((Nat.le_trans HW0.out (by rw [hg]; exact (keep_size (w := w) (g := g) (row := none) (by repeat (first | (with_reducible first | exact HK.out | apply KeepBut.set_ | apply keep_drewN | apply keep_drew | apply keep_alloc | refine keep_far ?_ GW209.out _) | exact HK.out))) : w.heap.size ≤ gb210) : w0.heap.size ≤ gb210)); have n7_ := Aside0.mk ((by rw [hg]; exact Nat.ne_of_lt (bl_ BK209.out) : gb209 ≠ gb210)); have n8_ := Aside0.mk ((by rw [hg]; exact Nat.ne_of_gt (bl_ BK209.out) : gb210 ≠ gb209)); have n9_ := Aside0.mk ((by rw [hg]; exact Nat.ne_of_lt (IsS127.lt (show IsS127 w0 _ g s0_0 s0_1 s0_2 from by repeat (first | (with_reducible first | exact HI0.out | apply IsS127.alloc | apply IsS127.drewN | apply IsS127.drew | apply IsS127.set_1 | apply IsS127.set_2 | refine IsS127.far ?_ NB0_209.out _) | exact HI0.out))) : g ≠ gb210)); have n10_ := Aside0.mk ((by rw [hg]; exact Nat.ne_of_gt (IsS127.lt (show IsS127 w0 _ g s0_0 s0_1 s0_2 from by repeat (first | (with_reducible first | exact HI0.out | apply IsS127.alloc | apply IsS127.drewN | apply IsS127.drew | apply IsS127.set_1 | apply IsS127.set_2 | refine IsS127.far ?_ NB0_209.out _) | exact HI0.out))) : gb210 ≠ g)); clear HI0 BK209 HK HB; have HI0 := n0_; have BK209 := n1_; have HK := n2_; have HB := n3_; have BK210 := n4_; have GW210 := n5_; have GE210 := n6_; have NB209_210 := n7_; have NB210_209 := n8_; have NB0_210 := n9_; have NB210_0 := n10_; clear n0_ n1_ n2_ n3_ n4_ n5_ n6_ n7_ n8_ n9_ n10_ hb hbox hg; have hnb6 := NB210_209.out; have hnc6 := NB209_210.out; have hnb7 := NB210_0.out; have hnc7 := NB0_210.out; have hcz8_0 := bc_ BK210.out 0 (.int .i64 0); have hcz8_1 := bc_ BK210.out 1 (.int .i64 0); have hcz8_2 := bc_ BK210.out 2 (.slice none 0 0); have hfz8_0 := blk_frozen BK210.out 0; have hfz8_1 := blk_frozen BK210.out 1; have hfz8_2 := blk_frozen BK210.out 2) | ((with_reducible refine gate_callee (f := 69) rfl ?_); refine gL_ (some 12) Try.func69 #[.int .i64 2, .int .i64 (wrap64 ((wrap64 (2 * a1)) + 1))] ?_; (with_reducible refine (spec_l03Power.calls k 2 (wrap64 ((wrap64 (2 * a1)) + 1)) t211 _ A3.out).mono ?_); rintro e w' ⟨rfl, ⟨nd, rfl⟩⟩; refine ⟨_, rfl, ?_⟩))
 go_loopg [6] k (fun kq v6 w' => ∃ (x6_1 : Int) (x1001_1 : Int) (x1002_1 : Int) (x211002_1 : List Int) (u211002 : Value), v6 = .int .i64 x6_1 ∧ Aside0 (spec_l07DrawTwo.l0 kq x6_1 s0_0 x1001_1 x1002_1 2 a1 x211002_1 = some (r1, r2, r3, r4, r5)) ∧ Aside0 (kq ≤ k) ∧ Aside0 (Kd.R (Kd.int .i64) 2 w' w.heap.size (fun _ => True) u211002 x211002_1) ∧ Aside0 (w'.heap[gb209]? = some (.cells #[.int .i64 0, .int .i64 0, (.slice none 0 0)] 38 (0, 0))) ∧ Aside0 (w'.heap[gb210]? = some (.cells #[.int .i64 2, .int .i64 a1, u211002] 38 (0, 0))) ∧ Aside0 (IsS127 w0 w' g s0_0 x1001_1 x1002_1) ∧ Aside0 (KeepBut w w' g none) ∧ Aside0 (Below w0.heap.size w0 w')); case atStart => exact ⟨(t211), (s0_1), (s0_2), (([] : List Int)), (.slice none 0 0), (by first | rfl | (simp; done) | (simp [i64_w, i32_w]; done) | (simp [*]; done) | (simp [*, i64_w, i32_w]; done)), H', ⟨Nat.le_refl _⟩, ⟨by first | exact Kd.R_nil _ _ _ _ _ | exact Kd.N_nil _ _ _ _ _ | exact Kd.V_nil _ _ _ _ _ | exact Kd.Q_nil _ _ _ _ _ | exact Kd.S_nil _ _ _ _ _⟩, ⟨pf_ BK209.out⟩, ⟨by (with_reducible repeat (first | refine blk_drewN ?_ _ | refine blk_drew ?_ | refine blk_alloc ?_ _)); refine blk_put (cs := #[.int .i64 2, .int .i64 a1, .slice none 0 0]) ?_ 2 _ rfl; (with_reducible repeat (first | refine blk_drewN ?_ _ | refine blk_drew ?_ | refine blk_alloc ?_ _)); refine blk_put (cs := #[.int .i64 2, .int .i64 0, .slice none 0 0]) ?_ 1 _ rfl; (with_reducible repeat (first | refine blk_drewN ?_ _ | refine blk_drew ?_ | refine blk_alloc ?_ _)); refine blk_put (cs := #[.int .i64 0, .int .i64 0, .slice none 0 0]) ?_ 0 _ rfl; (with_reducible repeat (first | refine blk_drewN ?_ _ | refine blk_drew ?_ | refine blk_alloc ?_ _)); exact BK210.out⟩, ⟨by repeat (first | (with_reducible first | exact HI0.out | apply IsS127.alloc | apply IsS127.drewN | apply IsS127.drew | apply IsS127.set_1 | apply IsS127.set_2 | refine IsS127.far ?_ NB0_209.out _ | refine IsS127.far ?_ NB0_210.out _) | exact HI0.out)⟩, ⟨by repeat (first | (with_reducible first | exact HK.out | apply KeepBut.set_ | apply keep_drewN | apply keep_drew | apply keep_alloc | refine keep_far ?_ GW209.out _ | refine keep_far ?_ GW210.out _) | exact HK.out)⟩, ⟨by repeat (first | (with_reducible first | exact HB.out | apply below_alloc | apply pw_below_drewN | apply below_drew1 | refine below_set ?_ (IsS127.ge HI0.out) | refine below_set ?_ GE209.out | refine below_set ?_ GE210.out) | exact HB.out)⟩⟩
 case round =>
  clear H'; (try clear p2); (try clear c6); (try clear p6); (try clear c7); (try clear hcz8_0); (try clear hcz8_1); (try clear hcz8_2); (try clear hfz8_0); (try clear hfz8_1); (try clear hfz8_2); obtain ⟨x6_1, x1001_1, x1002_1, x211002_1, u211002, rfl, HA, HK1, HO_211002, BK209, BK210, HI0, HK, HB⟩ := hrel; cases gk with
  | zero => exact absurd HA.out (by simp [spec_l07DrawTwo.l0])
  | succ k1 =>
   have H := HA.out; clear HA; simp only [spec_l07DrawTwo.l0] at H; by_cases c9 : x6_1 > 0
   · rw [if_pos c9] at H; have c9b0 : decide (0 < x6_1) = true := decide_eq_true c9; clear c9; replace H := Option.bind_eq_some_iff.mp H; obtain ⟨⟨t212, t213, t214⟩, A100, H⟩ := H; replace H : (if x211002_1.length < 17592186044416 then (spec_l07DrawTwo.l0 k1 (wrap64 (x6_1 - 1)) s0_0 t213 t214 2 a1 (x211002_1 ++ [t212])) else (none)) = some (r1, r2, r3, r4, r5) := H; have A10 := Aside0.mk A100; clear A100; by_cases c11 : x211002_1.length < 17592186044416
     · rw [if_pos c11] at H; have LMc11 := Aside0.mk c11; clear c11; obtain ⟨y215, hy215⟩ : ∃ y_ : List Int, y_ = (x211002_1 ++ [t212]) := ⟨_, rfl⟩; replace H : (spec_l07DrawTwo.l0 k1 (wrap64 (x6_1 - 1)) s0_0 t213 t214 2 a1 y215) = some (r1, r2, r3, r4, r5) := by first | (rw [hy215]; with_reducible exact H) | (have H2_ := (Option.bind_some _ _).symm.trans H; rw [hy215]; with_reducible exact H2_) | (have H2_ := (Option.bind_some _ _).symm.trans H; with_reducible exact H2_) | with_reducible exact H | (rw [hy215]; exact H) | exact H
       have Ny215 := Aside0.mk hy215; clear hy215; have H' := Aside0.mk H; clear H; (try go_wp2); have n0_ := Aside0.mk (Kd.R_drew HO_211002.out); have n1_ := Aside0.mk (blk_drew BK209.out); have n2_ := Aside0.mk (blk_drew BK210.out); have n3_ := Aside0.mk (IsS127.drew HI0.out); have n4_ := Aside0.mk (keep_drew HK.out); have n5_ := Aside0.mk (below_drew1 HB.out); clear HO_211002 BK209 BK210 HI0 HK HB; have HO_211002 := n0_; have BK209 := n1_; have BK210 := n2_; have HI0 := n3_; have HK := n4_; have HB := n5_; clear n0_ n1_ n2_ n3_ n4_ n5_; refine start_ (n := 8) (S := fun w' => w'.cell? ⟨gb210, 0, none⟩ = some (.int .i64 2) ∧ w'.cell? ⟨gb210, 1, none⟩ = some (.int .i64 a1) ∧ w'.cell? ⟨gb210, 2, none⟩ = some (u211002)) (ds := [7]) (bm_ 8 0) (by kernel_rfl) rfl rfl ⟨(blk_cell BK210.out 0).trans rfl, (blk_cell BK210.out 1).trans rfl, (blk_cell BK210.out 2).trans rfl⟩ (fun hHeld => ?_); refine with_tabW spec_l07DrawTwo.tab5 spec_l07DrawTwo.bits5 (fun HT_ HW_ => ?_); generalize wr.drew = w12 at HO_211002 BK209 BK210 HI0 HK HB hHeld ⊢; refine pV_ 0 17 (bm_ 8 1) HT_ ?_
       refine pV_ 2 19 (bm_ 8 5) HT_ ?_; refine tV_ 1 18 (bm_ 8 7) HT_ HW_ hHeld rfl (by rintro w' ⟨s0, s1, s2⟩; go_simp; (with_reducible rfl)) ?_
       refine one_ (i := 3) (N := some 20) (bm_ 8 15) rfl rfl (one_of HT_.out (by kernel_rfl)) (by decide) (fun K hK => ?_); refine gO_ Try.func99 #[.pointer (some ⟨g, 0, none⟩), .int .i64 2] ?_; (with_reducible refine (spec_l00Src_pick.calls g s0_0 x1001_1 x1002_1 2 t212 t213 t214 w0 _ ?side1 ?side2 A10.out).mono ?_); (case side1 => repeat (first | (with_reducible first | exact HI0.out | apply IsS127.alloc | apply IsS127.drewN | apply IsS127.drew | apply IsS127.set_1 | apply IsS127.set_2 | refine IsS127.far ?_ NB0_209.out _ | refine IsS127.far ?_ NB0_210.out _) | exact HI0.out)); (case side2 => repeat (first | (with_reducible first | exact HB.out | apply below_alloc | apply pw_below_drewN | apply below_drew1 | refine below_set ?_ (IsS127.ge HI0.out) | refine below_set ?_ GE209.out | refine below_set ?_ GE210.out) | exact HB.out)); rintro e w13 ⟨rfl, hi, hb, hk⟩; refine ⟨_, rfl, ?_⟩; have n0_ := Aside0.mk (Kd.R_mono (Kd.R_keep (IsS127.apart (show IsS127 w0 _ g s0_0 x1001_1 x1002_1 from by repeat (first | (with_reducible first | exact HI0.out | apply IsS127.alloc | apply IsS127.drewN | apply IsS127.drew | apply IsS127.set_1 | apply IsS127.set_2 | refine IsS127.far ?_ NB0_209.out _ | refine IsS127.far ?_ NB0_210.out _) | exact HI0.out)) (rk_ HO_211002.out) (by decide)) hk (fun _ h => h.2)) (fun _ h => h.1)); have n1_ := Aside0.mk (KeepBut.blk hk (g' := gb209) (o := .cells #[.int .i64 0, .int .i64 0, .slice none 0 0] 38 (0, 0)) (pk_ BK209.out) NB209_0.out (by simp)); have n2_ := Aside0.mk (KeepBut.blk hk (g' := gb210) (o := .cells #[.int .i64 2, .int .i64 a1, u211002] 38 (0, 0)) (pk_ BK210.out) NB210_0.out (by simp))
       have n3_ := Aside0.mk (KeepBut.trans (by repeat (first | (with_reducible first | exact HK.out | apply KeepBut.set_ | apply keep_drewN | apply keep_drew | apply keep_alloc | refine keep_far ?_ GW209.out _ | refine keep_far ?_ GW210.out _) | exact HK.out)) hk (.inl rfl)); have n4_ := Aside0.mk (hb); have n5_ := Aside0.mk (hi); clear HO_211002 BK209 BK210 HK HB HI0; have HO_211002 := n0_; have BK209 := n1_; have BK210 := n2_; have HK := n3_; have HB := n4_; have HI0 := n5_; clear n0_ n1_ n2_ n3_ n4_ n5_; (try clear hb); (try clear hb2); (try clear hk); (try clear hi); refine hK.out _ _ ⟨(blk_cell BK210.out 0).trans rfl, (blk_cell BK210.out 1).trans rfl, (blk_cell BK210.out 2).trans rfl⟩ (fun hHeld => ?_); clear hK K; refine norm_ (a' := ?_) ?_ ?_; rotate_left
       · show Act.put _ (some 20) _ = _
         simp only [Act.put, List.setIfInBounds_toArray, List.set_cons_zero, List.set_cons_succ, i64_w, i32_w]; rfl
       refine one_ (i := 4) (N := some 21) (bm_ 8 31) rfl rfl (one_of HT_.out (by kernel_rfl)) (by decide) (fun K hK => ?_); refine value_ (w1 := ?_) (v := ?_) (by rfl) rfl ?_ ?_; rotate_left 2
       · go_simp; constructor
         · rfl
         · rfl
       refine hK.out _ _ ⟨(blk_cell (blk_alloc BK210.out _) 0).trans rfl, (blk_cell (blk_alloc BK210.out _) 1).trans rfl, (blk_cell (blk_alloc BK210.out _) 2).trans rfl⟩ (fun hHeld => ?_); clear hK K; refine norm_ (a' := ?_) ?_ ?_; rotate_left
       · show Act.put _ (some 21) _ = _
         simp only [Act.put, List.setIfInBounds_toArray, List.set_cons_zero, List.set_cons_succ, i64_w, i32_w]; rfl
       refine one_ (i := 5) (N := some 22) (bm_ 8 63) rfl rfl (one_of HT_.out (by kernel_rfl)) (by decide) (fun K hK => ?_); refine Kd.R_append_step (Kd.int .i64) w.heap.size (by rfl) (.tmp 18) (.tmp 21) 22 2 (.int .i64 0) 8 rfl Try.underlying22 info2 rfl (by decide) (by omega) u211002 x211002_1 t212 [.int .i64 t212] (fun _ => True) (fun _ => False) rfl rfl ?aP (fun _ hk => hk.elim) ?aF ?aO (Below.refl _ _) ?aS ?aL ?_; (case aP => exact rfl); (case aF => exact (fun _ _ => trivial)); (case aO => exact (rk_ HO_211002.out)); (case aS => exact (keep_size (w := w) (g := g) (row := none) (by repeat (first | (with_reducible first | exact HK.out | apply KeepBut.set_ | apply keep_drewN | apply keep_drew | apply keep_alloc | refine keep_far ?_ GW209.out _ | refine keep_far ?_ GW210.out _) | exact HK.out)))); (case aL => have := LMc11.out; omega); intro v216 w14 ho hb hg hat; rw [← Ny215.out] at ho; have n0_ := Aside0.mk (bg_ BK209.out hg (Kd.R_ne HO_211002.out BK209.out (by decide))); have n1_ := Aside0.mk (bg_ BK210.out hg (Kd.R_ne HO_211002.out BK210.out (by decide))); have n2_ := Aside0.mk (IsS127.grown (by repeat (first | (with_reducible first | exact HI0.out | apply IsS127.alloc | apply IsS127.drewN | apply IsS127.drew | apply IsS127.set_1 | apply IsS127.set_2 | refine IsS127.far ?_ NB0_209.out _ | refine IsS127.far ?_ NB0_210.out _) | exact HI0.out)) hg (IsS127.own_ne HI0.out HO_211002.out (by decide))); have n3_ := Aside0.mk (below_weaken (by repeat (first | (with_reducible first | exact HB.out | apply below_alloc | apply pw_below_drewN | apply below_drew1 | refine below_set ?_ (IsS127.ge HI0.out) | refine below_set ?_ GE209.out | refine below_set ?_ GE210.out) | exact HB.out)) HL.out hb)
       have n4_ := Aside0.mk (KeepBut.trans (by repeat (first | (with_reducible first | exact HK.out | apply KeepBut.set_ | apply keep_drewN | apply keep_drew | apply keep_alloc | refine keep_far ?_ GW209.out _ | refine keep_far ?_ GW210.out _) | exact HK.out)) (KeepBut.of_grown hg g) (Kd.R_base2 HO_211002.out)); have n5_ := Aside0.mk (ho); clear BK209 BK210 HI0 HB HK HO_211002; have BK209 := n0_; have BK210 := n1_; have HI0 := n2_; have HB := n3_; have HK := n4_; have HO217 := n5_; clear n0_ n1_ n2_ n3_ n4_ n5_ ho hb hg hat; obtain ⟨Ao15, co15, eo15⟩ := Kd.R_slice HO217.out; (first | subst eo15 | (injection eo15 with f1_ f2_ f3_; have f4_ := f1_.symm; have f5_ := f3_.symm; clear f1_ f2_ f3_; subst f4_; subst f5_)); refine hK.out _ _ ⟨(blk_cell BK210.out 0).trans rfl, (blk_cell BK210.out 1).trans rfl, (blk_cell BK210.out 2).trans rfl⟩ (fun hHeld => ?_); clear hK K; refine norm_ (a' := ?_) ?_ ?_; rotate_left
       · show Act.put _ (some 22) _ = _
         simp only [Act.put, List.setIfInBounds_toArray, List.set_cons_zero, List.set_cons_succ, i64_w, i32_w]; rfl
       refine pV_ 6 23 (bm_ 8 127) HT_ ?_
       refine last_ (i := 7) (N := none) (bm_ 8 255) rfl rfl (one_of HT_.out (by kernel_rfl)) (by decide) (fun K hK => ?_); have hs16 : w14.cell? ⟨gb210, 2, none⟩ = some (u211002) := (blk_cell BK210.out 2).trans rfl; have hfs16 := blk_frozen BK210.out 2; have hns16_0 := NB209_210.out; have hms16_0 := NB210_209.out; refine skip_ (w1 := ?_) (by rfl) rfl ?_ ?_; rotate_left
       · go_simp; rfl
       refine hK.out _ _ ?_; clear hK K; refine done_ (done_of HT_.out (by kernel_rfl)) ?_; (try go_wp2); go_roundg k1; case measure => have := HK1.out; omega
       case rel => exact ⟨(wrap64 (x6_1 - 1)), (t213), (t214), (y215), (.slice Ao15 y215.length co15), (by first | rfl | (simp; done) | (simp [i64_w, i32_w]; done) | (simp [*]; done) | (simp [*, i64_w, i32_w]; done)), H', ⟨by have := HK1.out; omega⟩, ⟨by (with_reducible repeat (first | apply Kd.R_alloc | apply Kd.R_drewN | apply Kd.R_drew)); exact Kd.R_mono (Kd.R_far (p := ⟨gb210, 2, none⟩) (Kd.R_types HO217.out BK210.out (by decide)) (fun _ hk => hk.2) (.slice Ao15 y215.length co15)) (fun _ hk => trivial)⟩, ⟨pf_ BK209.out⟩, ⟨by (with_reducible repeat (first | refine blk_drewN ?_ _ | refine blk_drew ?_ | refine blk_alloc ?_ _)); refine blk_put (cs := #[.int .i64 2, .int .i64 a1, u211002]) ?_ 2 _ rfl; (with_reducible repeat (first | refine blk_drewN ?_ _ | refine blk_drew ?_ | refine blk_alloc ?_ _)); exact BK210.out⟩, ⟨by repeat (first | (with_reducible first | exact HI0.out | apply IsS127.alloc | apply IsS127.drewN | apply IsS127.drew | apply IsS127.set_1 | apply IsS127.set_2 | refine IsS127.far ?_ NB0_209.out _ | refine IsS127.far ?_ NB0_210.out _) | exact HI0.out)⟩, ⟨by repeat (first | (with_reducible first | exact HK.out | apply KeepBut.set_ | apply keep_drewN | apply keep_drew | apply keep_alloc | refine keep_far ?_ GW209.out _ | refine keep_far ?_ GW210.out _) | exact HK.out)⟩, ⟨by repeat (first | (with_reducible first | exact HB.out | apply below_alloc | apply pw_below_drewN | apply below_drew1 | refine below_set ?_ (IsS127.ge HI0.out) | refine below_set ?_ GE209.out | refine below_set ?_ GE210.out) | exact HB.out)⟩⟩
     · rw [if_neg c11] at H; exact absurd H (by simp)
   · rw [if_neg c9] at H; have c9b0 : decide (0 < x6_1) = false := decide_eq_false c9; clear c9; simp only [Option.some.injEq, Prod.mk.injEq] at H; obtain ⟨rfl, rfl, rfl, rfl, rfl⟩ := H; have hnb17 := NB210_209.out; have hnc17 := NB209_210.out; have hnb18 := NB210_0.out; have hnc18 := NB0_210.out; have hcz19_0 := bc_ BK210.out 0 (.int .i64 2); have hcz19_1 := bc_ BK210.out 1 (.int .i64 a1); have hcz19_2 := bc_ BK210.out 2 (u211002); have hfz19_0 := blk_frozen BK210.out 0; have hfz19_1 := blk_frozen BK210.out 1; have hfz19_2 := blk_frozen BK210.out 2; have hnb20 := NB209_0.out; have hnc20 := NB0_209.out; have hcz21_0 := bc_ BK209.out 0 (.int .i64 0); have hcz21_1 := bc_ BK209.out 1 (.int .i64 0); have hcz21_2 := bc_ BK209.out 2 (.slice none 0 0); have hfz21_0 := blk_frozen BK209.out 0; have hfz21_1 := blk_frozen BK209.out 1; have hfz21_2 := blk_frozen BK209.out 2; obtain ⟨Ao22, co22, eo22⟩ := Kd.R_slice HO_211002.out; subst eo22; go_wp2; refine bodyPost_ret (results_cell_row rfl _ _ gb209 38 #[.int .i64 2, .int .i64 a1, .slice Ao22 x211002_1.length co22] (0, 0) _ rfl (by (with_reducible repeat (first | refine blk_drewN ?_ _ | refine blk_drew ?_ | refine blk_alloc ?_ _)); refine blk_put (cs := #[.int .i64 2, .int .i64 a1, .slice none 0 0]) ?_ 2 _ rfl; (with_reducible repeat (first | refine blk_drewN ?_ _ | refine blk_drew ?_ | refine blk_alloc ?_ _)); refine blk_put (cs := #[.int .i64 2, .int .i64 0, .slice none 0 0]) ?_ 1 _ rfl; (with_reducible repeat (first | refine blk_drewN ?_ _ | refine blk_drew ?_ | refine blk_alloc ?_ _)); refine blk_put (cs := #[.int .i64 0, .int .i64 0, .slice none 0 0]) ?_ 0 _ rfl; (with_reducible repeat (first | refine blk_drewN ?_ _ | refine blk_drew ?_ | refine blk_alloc ?_ _)); exact BK209.out) Try.underlying38 rfl (by kernel_rfl)) rfl ?_
     exact ⟨_, by first | rfl | (simp [errW_none, errW_some] <;> rfl) | (simp [*, errW_none, errW_some] <;> rfl), by (with_reducible repeat (first | apply Kd.R_alloc | apply Kd.R_drewN | apply Kd.R_drew)); exact Kd.R_mono (Kd.R_far (p := ⟨gb209, 2, none⟩) (Kd.R_far (p := ⟨gb209, 1, none⟩) (Kd.R_far (p := ⟨gb209, 0, none⟩) (Kd.R_types HO_211002.out BK209.out (by decide)) (fun _ hk => hk.2) (.int .i64 2)) (fun _ hk => hk.2) (.int .i64 a1)) (fun _ hk => hk.2) (.slice Ao22 x211002_1.length co22)) (fun _ hk => trivial), by repeat (first | (with_reducible first | exact HI0.out | apply IsS127.alloc | apply IsS127.drewN | apply IsS127.drew | apply IsS127.set_1 | apply IsS127.set_2 | refine IsS127.far ?_ NB0_209.out _ | refine IsS127.far ?_ NB0_210.out _) | exact HI0.out), by repeat (first | (with_reducible first | exact HB.out | apply below_alloc | apply pw_below_drewN | apply below_drew1 | refine below_set ?_ (IsS127.ge HI0.out) | refine below_set ?_ GE209.out | refine below_set ?_ GE210.out) | exact HB.out), by repeat (first | (with_reducible first | exact HK.out | apply KeepBut.set_ | apply keep_drewN | apply keep_drew | apply keep_alloc | refine keep_far ?_ GW209.out _ | refine keep_far ?_ GW210.out _) | exact HK.out)⟩

/-! ### spec_B10Rule: function 55 -/
def spec_B10Rule.f (k : Nat) (l0 : List Int) (a1 : Int) : Option (Int × Int × List Int) := (spec_l00From.f l0).bind fun bt219 => ((spec_l07DrawTwo.f k bt219.1 bt219.2.1 bt219.2.2 a1).bind fun bt223 => (some (bt223.1, bt223.2.1, bt223.2.2.1)))
theorem spec_B10Rule.mono : ∀ a0 a1 k, LeO (spec_B10Rule.f k a0 a1) (spec_B10Rule.f (k + 1) a0 a1) := by
 intro a0 a1 k; unfold spec_B10Rule.f; repeat' first
  | (with_reducible exact spec_l07DrawTwo.mono _ _ _ _ _)
  | (with_reducible exact LeO.refl _)
  | (with_reducible exact LeO.none _)
  | (with_reducible refine LeO.ite ?_ ?_)
  | (with_reducible refine LeO.bind ?_ (fun _ => ?_))
  | exact spec_l07DrawTwo.mono _ _ _ _ _
  | exact LeO.none _
  | refine LeO.ite ?_ ?_
  | refine LeO.bind ?_ (fun _ => ?_)
set_option maxHeartbeats 8000000 in
set_option maxRecDepth 100000 in
theorem spec_B10Rule.calls (k : Nat) (A0 : Option Addr) (c0 : Nat) (l0 : List Int) (a1 : Int) (r1 : Int) (r2 : Int) (r3 : List Int) (w : World) (hr0 : Kd.C (Kd.int .u8) w A0 l0.length l0) (hc0 : l0.length ≤ c0) (h : spec_B10Rule.f k l0 a1 = some (r1, r2, r3)) :
    Calls Try.prog 55 #[.slice A0 l0.length c0, .int .i64 a1] w fun e w' => ∃ v2_ : Value, e = .returned (.agg #[.int .i64 r1, .int .i64 r2, v2_]) ∧ Kd.R (Kd.int .i64) 2 w' w.heap.size (fun _ => True) v2_ r3 ∧ Below w.heap.size w w' := by
 have hu38 := Try.underlying38; have HR0 := Aside0.mk hr0; have HC0 := Aside0.mk hc0; clear hr0 hc0; have HB := Aside0.mk (Below.refl w.heap.size w); have H : ((spec_l00From.f l0).bind fun bt219 => ((spec_l07DrawTwo.f k bt219.1 bt219.2.1 bt219.2.2 a1).bind fun bt223 => (some (bt223.1, bt223.2.1, bt223.2.2.1)))) = some (r1, r2, r3) := h; clear h; replace H := Option.bind_eq_some_iff.mp H; obtain ⟨⟨t219, t220, t221⟩, A30, H⟩ := H; replace H : ((spec_l07DrawTwo.f k t219 t220 t221 a1).bind fun bt223 => (some (bt223.1, bt223.2.1, bt223.2.2.1))) = some (r1, r2, r3) := H; have A3 := Aside0.mk A30; clear A30; replace H := Option.bind_eq_some_iff.mp H; obtain ⟨⟨t223, t224, t225, t228, t229⟩, A40, H⟩ := H; replace H : (some (t223, t224, t225)) = some (r1, r2, r3) := H; have A4 := Aside0.mk A40; clear A40; simp only [Option.some.injEq, Prod.mk.injEq] at H; obtain ⟨rfl, rfl, rfl⟩ := H; go_enter Try.func55, Try.ntmps55; go_wp2_with (first | ((with_reducible refine gate_dst (N := 4) rfl ?_); refine box_event ?hg (N := 4) ?hd (cs := #[.int .i64 0, .int .i64 0, .slice none 0 0]) (t := 38) ?hr ?_; (case hd => rfl); (case hg => rfl); (case hr => first | (go_simp; done) | (go_simp; rfl)); intro gb218 hg w5 hbox hb; have n0_ := Aside0.mk (below_step (bk_ HB.out) hb); have n1_ := Aside0.mk (hbox); have n2_ := Aside0.mk ((by rw [hg]; exact (below_size (bk_ HB.out)) : w.heap.size ≤ gb218)); have n3_ := Aside0.mk ((by rw [hg]; exact (below_size (bk_ HB.out)) : w.heap.size ≤ gb218)); clear HB; have HB := n0_; have BK218 := n1_; have GW218 := n2_; have GE218 := n3_; clear n0_ n1_ n2_ n3_ hb hbox hg) | ((with_reducible refine gate_callee (f := 97) rfl ?_); refine gL_ (some 7) Try.func97 #[.slice A0 l0.length c0] ?_; (with_reducible refine (spec_l00From.calls _ _ l0 t219 t220 t221 w _ ?side1 ?side2 ?side3 A3.out).mono ?_); (case side1 => repeat (first | (with_reducible first | exact HB.out | apply below_alloc | apply pw_below_drewN | apply below_drew1 | refine below_set ?_ GE218.out) | exact HB.out)); (case side2 => exact HR0.out); (case side3 => exact HC0.out); rintro e w6 ⟨g222, rfl, hi, hb, hb2⟩; refine ⟨_, rfl, ?_⟩; have n0_ := Aside0.mk (blk_below (g := gb218) (o := .cells #[.int .i64 0, .int .i64 0, .slice none 0 0] 38 (0, 0)) (pk_ BK218.out) hb2); have n1_ := Aside0.mk (hb); have n2_ := Aside0.mk (hi); have n3_ := Aside0.mk (IsS127.ne_blk hi (blk_below (g := gb218) (o := .cells #[.int .i64 0, .int .i64 0, .slice none 0 0] 38 (0, 0)) (pk_ BK218.out) hb2) (by decide)); have n4_ := Aside0.mk (Ne.symm (IsS127.ne_blk hi (blk_below (g := gb218) (o := .cells #[.int .i64 0, .int .i64 0, .slice none 0 0] 38 (0, 0)) (pk_ BK218.out) hb2) (by decide))); clear BK218 HB; have BK218 := n0_; have HB := n1_; have HI222 := n2_; have NB222_218 := n3_; have NB218_222 := n4_; clear n0_ n1_ n2_ n3_ n4_; (try clear hb); (try clear hb2); (try clear hk); (try clear hi)) | ((with_reducible refine gate_callee (f := 98) rfl ?_); refine gL_ (some 10) Try.func98 #[.pointer (some ⟨g222, 0, none⟩), .int .i64 a1] ?_; (with_reducible refine (spec_l07DrawTwo.calls k g222 t219 t220 t221 a1 t223 t224 t225 t228 t229 w _ ?side1 ?side2 A4.out).mono ?_); (case side1 => repeat (first | (with_reducible first | exact HI222.out | apply IsS127.alloc | apply IsS127.drewN | apply IsS127.drew | apply IsS127.set_1 | apply IsS127.set_2 | refine IsS127.far ?_ NB222_218.out _) | exact HI222.out)); (case side2 => repeat (first | (with_reducible first | exact HB.out | apply below_alloc | apply pw_below_drewN | apply below_drew1 | refine below_set ?_ (IsS127.ge HI222.out) | refine below_set ?_ GE218.out) | exact HB.out)); rintro e w7 ⟨v226, rfl, ho0, hi, hb, hk⟩; refine ⟨_, rfl, ?_⟩; have n0_ := Aside0.mk (KeepBut.blk hk (g' := gb218) (o := .cells #[.int .i64 0, .int .i64 0, .slice none 0 0] 38 (0, 0)) (pk_ BK218.out) NB218_222.out (by simp)); have n1_ := Aside0.mk (Kd.R_lower ho0 (below_size (by repeat (first | (with_reducible first | exact HB.out | apply below_alloc | apply pw_below_drewN | apply below_drew1 | refine below_set ?_ (IsS127.ge HI222.out) | refine below_set ?_ GE218.out) | exact HB.out)))); have n2_ := Aside0.mk (hb); have n3_ := Aside0.mk (hi); clear BK218 HB HI222; have BK218 := n0_; have HO227 := n1_; have HB := n2_; have HI222 := n3_; clear n0_ n1_ n2_ n3_; (try clear hb); (try clear hb2); (try clear hk); (try clear hi); (try clear ho0); have hnb8 := NB218_222.out; have hnc8 := NB222_218.out; have hcz9_0 := bc_ BK218.out 0 (.int .i64 0); have hcz9_1 := bc_ BK218.out 1 (.int .i64 0); have hcz9_2 := bc_ BK218.out 2 (.slice none 0 0); have hfz9_0 := blk_frozen BK218.out 0; have hfz9_1 := blk_frozen BK218.out 1; have hfz9_2 := blk_frozen BK218.out 2; obtain ⟨Ao10, co10, eo10⟩ := Kd.R_slice HO227.out; subst eo10))
 refine bodyPost_ret (results_cell_row rfl _ _ gb218 38 #[.int .i64 t223, .int .i64 t224, .slice Ao10 t225.length co10] (0, 0) _ rfl (by (with_reducible repeat (first | refine blk_drewN ?_ _ | refine blk_drew ?_ | refine blk_alloc ?_ _)); refine blk_put (cs := #[.int .i64 t223, .int .i64 t224, .slice none 0 0]) ?_ 2 _ rfl; (with_reducible repeat (first | refine blk_drewN ?_ _ | refine blk_drew ?_ | refine blk_alloc ?_ _)); refine blk_put (cs := #[.int .i64 t223, .int .i64 0, .slice none 0 0]) ?_ 1 _ rfl; (with_reducible repeat (first | refine blk_drewN ?_ _ | refine blk_drew ?_ | refine blk_alloc ?_ _)); refine blk_put (cs := #[.int .i64 0, .int .i64 0, .slice none 0 0]) ?_ 0 _ rfl; (with_reducible repeat (first | refine blk_drewN ?_ _ | refine blk_drew ?_ | refine blk_alloc ?_ _)); exact BK218.out) Try.underlying38 rfl (by kernel_rfl)) rfl ?_; exact ⟨_, by first | rfl | (simp [errW_none, errW_some] <;> rfl) | (simp [*, errW_none, errW_some] <;> rfl), by (with_reducible repeat (first | apply Kd.R_alloc | apply Kd.R_drewN | apply Kd.R_drew)); exact Kd.R_mono (Kd.R_far (p := ⟨gb218, 2, none⟩) (Kd.R_far (p := ⟨gb218, 1, none⟩) (Kd.R_far (p := ⟨gb218, 0, none⟩) (Kd.R_types HO227.out BK218.out (by decide)) (fun _ hk => hk.2) (.int .i64 t223)) (fun _ hk => hk.2) (.int .i64 t224)) (fun _ hk => hk.2) (.slice Ao10 t225.length co10)) (fun _ hk => trivial), by repeat (first | (with_reducible first | exact HB.out | apply below_alloc | apply pw_below_drewN | apply below_drew1 | refine below_set ?_ (IsS127.ge HI222.out) | refine below_set ?_ GE218.out) | exact HB.out)⟩

end Go.Proofs.Ytacjknmphgpjaaa.PFnLearned

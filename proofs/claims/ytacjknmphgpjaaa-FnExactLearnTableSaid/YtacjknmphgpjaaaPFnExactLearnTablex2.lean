-- Written by a program of this session (its own print).
import Derived.Test.YtacjknmphgpjaaaPFnExactLearnTablex0
import Derived.Test.YtacjknmphgpjaaaPFnExactLearnTablex1
namespace Go.Proofs.Ytacjknmphgpjaaa.PFnExactLearnTable
open Go.RowKit Go.Proofs.YtacjknmphgpjaaaW.PrintWords Go.Proofs.YtacjknmphgpjaaaW.PrintLast Go.Proofs.YtacjknmphgpjaaaW.PrintMore
attribute [local go_sem] max2_int min2_int max_two min_two max_three min_three max_four min_four   -- for this text's walks alone
set_option linter.unusedVariables false
set_option linter.unusedSimpArgs false

/-! ### spec_l07Learn: function 87 -/
mutual
def spec_l07Learn.l0 : Nat → Int → Int → List (List Int) → List (List Int) → List Int → Int → Option (List Int × Bool)
  | 0, _, _, _, _, _, _ => none
  | k + 1, x0, x1, x2, x3, x10, x11 => (spec_l03Power.f k x0 (wrap64 ((wrap64 (2 * x1)) + 1))).bind fun t138 => (if x11 < t138 then (if x10.length < 17592186044416 then (spec_l07Learn.l0 k x0 x1 x2 x3 (x10 ++ [(-1)]) (wrap64 (x11 + 1))) else (none)) else (spec_l07Learn.l1 k x2 x3 x10 (x2.length : Int) 0 x0 x1))
def spec_l07Learn.l1 : Nat → List (List Int) → List (List Int) → List Int → Int → Int → Int → Int → Option (List Int × Bool)
  | 0, _, _, _, _, _, _, _ => none
  | k + 1, x2, x3, x10, x33, x34, x143000, x143001 => if x34 < x33 then (if 0 ≤ x34 then (if x34 < (x2.length : Int) then (spec_l07Learn.l2 k x2 x3 x10 x34 x33 x34 ((rd_L1 x2 x34).length : Int) 0 x143000 x143001) else (none)) else (none)) else (some (x10, true))
def spec_l07Learn.l2 : Nat → List (List Int) → List (List Int) → List Int → Int → Int → Int → Int → Int → Int → Int → Option (List Int × Bool)
  | 0, _, _, _, _, _, _, _, _, _, _ => none
  | k + 1, x2, x3, x10, x13, x33, x34, x41, x42, x143000, x143001 => if x42 < x41 then (if 0 ≤ x13 then (if x13 < (x2.length : Int) then ((spec_l03Hood.f k x143000 x143001 ([] : List Int) (rd_L1 x2 x13) x42).bind fun t145 => (if 0 ≤ t145 then (if t145 < (x10.length : Int) then (if (rd x10 t145) ≥ 0 then (if x13 < (x3.length : Int) then (if 0 ≤ x42 then (if x42 < ((rd_L1 x3 x13).length : Int) then (if (rd x10 t145) = (rd (rd_L1 x3 x13) x42) then (spec_l07Learn.l2 k x2 x3 (x10.set (t145 : Int).toNat (rd (rd_L1 x3 x13) x42)) x13 x33 x34 x41 (wrap64 (x42 + 1)) x143000 x143001) else (some (([] : List Int), false))) else (none)) else (none)) else (none)) else (if x13 < (x3.length : Int) then (if 0 ≤ x42 then (if x42 < ((rd_L1 x3 x13).length : Int) then (spec_l07Learn.l2 k x2 x3 (x10.set (t145 : Int).toNat (rd (rd_L1 x3 x13) x42)) x13 x33 x34 x41 (wrap64 (x42 + 1)) x143000 x143001) else (none)) else (none)) else (none))) else (none)) else (none))) else (none)) else (none)) else (spec_l07Learn.l1 k x2 x3 x10 x33 (wrap64 (x34 + 1)) x143000 x143001)
end
def spec_l07Learn.f (k : Nat) (a0 : Int) (a1 : Int) (l2 : List (List Int)) (l3 : List (List Int)) : Option (List Int × Bool) := spec_l07Learn.l0 k a0 a1 l2 l3 (([] : List Int)) 0
theorem spec_l07Learn.mono_l : ∀ k, (∀ y0 y1 y2 y3 y4 y5, LeO (spec_l07Learn.l0 k y0 y1 y2 y3 y4 y5) (spec_l07Learn.l0 (k + 1) y0 y1 y2 y3 y4 y5)) ∧ (∀ y0 y1 y2 y3 y4 y5 y6, LeO (spec_l07Learn.l1 k y0 y1 y2 y3 y4 y5 y6) (spec_l07Learn.l1 (k + 1) y0 y1 y2 y3 y4 y5 y6)) ∧ (∀ y0 y1 y2 y3 y4 y5 y6 y7 y8 y9, LeO (spec_l07Learn.l2 k y0 y1 y2 y3 y4 y5 y6 y7 y8 y9) (spec_l07Learn.l2 (k + 1) y0 y1 y2 y3 y4 y5 y6 y7 y8 y9))
  | 0 => ⟨fun _ _ _ _ _ _ r h => by simp [spec_l07Learn.l0] at h, fun _ _ _ _ _ _ _ r h => by simp [spec_l07Learn.l1] at h, fun _ _ _ _ _ _ _ _ _ _ r h => by simp [spec_l07Learn.l2] at h⟩
  | k + 1 => by
    obtain ⟨ih0, ih1, ih2⟩ := spec_l07Learn.mono_l k
    refine ⟨?_, ?_, ?_⟩
    · intro y0 y1 y2 y3 y4 y5
      unfold spec_l07Learn.l0
      repeat' first
      | (with_reducible exact ih0 _ _ _ _ _ _)
      | (with_reducible exact ih1 _ _ _ _ _ _ _)
      | (with_reducible exact ih2 _ _ _ _ _ _ _ _ _ _)
      | (with_reducible exact spec_l03Hood.mono _ _ _ _ _ _)
      | (with_reducible exact spec_l03Power.mono _ _ _)
      | (with_reducible exact LeO.refl _)
      | (with_reducible exact LeO.none _)
      | (with_reducible refine LeO.ite ?_ ?_)
      | (with_reducible refine LeO.bind ?_ (fun _ => ?_))
      | exact ih0 _ _ _ _ _ _
      | exact ih1 _ _ _ _ _ _ _
      | exact ih2 _ _ _ _ _ _ _ _ _ _
      | exact spec_l03Hood.mono _ _ _ _ _ _
      | exact spec_l03Power.mono _ _ _
      | exact LeO.none _
      | refine LeO.ite ?_ ?_
      | refine LeO.bind ?_ (fun _ => ?_)
    · intro y0 y1 y2 y3 y4 y5 y6
      unfold spec_l07Learn.l1
      repeat' first
      | (with_reducible exact ih0 _ _ _ _ _ _)
      | (with_reducible exact ih1 _ _ _ _ _ _ _)
      | (with_reducible exact ih2 _ _ _ _ _ _ _ _ _ _)
      | (with_reducible exact spec_l03Hood.mono _ _ _ _ _ _)
      | (with_reducible exact spec_l03Power.mono _ _ _)
      | (with_reducible exact LeO.refl _)
      | (with_reducible exact LeO.none _)
      | (with_reducible refine LeO.ite ?_ ?_)
      | (with_reducible refine LeO.bind ?_ (fun _ => ?_))
      | exact ih0 _ _ _ _ _ _
      | exact ih1 _ _ _ _ _ _ _
      | exact ih2 _ _ _ _ _ _ _ _ _ _
      | exact spec_l03Hood.mono _ _ _ _ _ _
      | exact spec_l03Power.mono _ _ _
      | exact LeO.none _
      | refine LeO.ite ?_ ?_
      | refine LeO.bind ?_ (fun _ => ?_)
    · intro y0 y1 y2 y3 y4 y5 y6 y7 y8 y9
      unfold spec_l07Learn.l2
      repeat' first
      | (with_reducible exact ih0 _ _ _ _ _ _)
      | (with_reducible exact ih1 _ _ _ _ _ _ _)
      | (with_reducible exact ih2 _ _ _ _ _ _ _ _ _ _)
      | (with_reducible exact spec_l03Hood.mono _ _ _ _ _ _)
      | (with_reducible exact spec_l03Power.mono _ _ _)
      | (with_reducible exact LeO.refl _)
      | (with_reducible exact LeO.none _)
      | (with_reducible refine LeO.ite ?_ ?_)
      | (with_reducible refine LeO.bind ?_ (fun _ => ?_))
      | exact ih0 _ _ _ _ _ _
      | exact ih1 _ _ _ _ _ _ _
      | exact ih2 _ _ _ _ _ _ _ _ _ _
      | exact spec_l03Hood.mono _ _ _ _ _ _
      | exact spec_l03Power.mono _ _ _
      | exact LeO.none _
      | refine LeO.ite ?_ ?_
      | refine LeO.bind ?_ (fun _ => ?_)
theorem spec_l07Learn.mono : ∀ a0 a1 a2 a3 k, LeO (spec_l07Learn.f k a0 a1 a2 a3) (spec_l07Learn.f (k + 1) a0 a1 a2 a3) := by
 intro a0 a1 a2 a3 k; obtain ⟨ih0, ih1, ih2⟩ := spec_l07Learn.mono_l k; unfold spec_l07Learn.f; repeat' first
  | (with_reducible exact ih0 _ _ _ _ _ _)
  | (with_reducible exact ih1 _ _ _ _ _ _ _)
  | (with_reducible exact ih2 _ _ _ _ _ _ _ _ _ _)
  | (with_reducible exact spec_l03Hood.mono _ _ _ _ _ _)
  | (with_reducible exact spec_l03Power.mono _ _ _)
  | (with_reducible exact LeO.refl _)
  | (with_reducible exact LeO.none _)
  | (with_reducible refine LeO.ite ?_ ?_)
  | (with_reducible refine LeO.bind ?_ (fun _ => ?_))
  | exact ih0 _ _ _ _ _ _
  | exact ih1 _ _ _ _ _ _ _
  | exact ih2 _ _ _ _ _ _ _ _ _ _
  | exact spec_l03Hood.mono _ _ _ _ _ _
  | exact spec_l03Power.mono _ _ _
  | exact LeO.none _
  | refine LeO.ite ?_ ?_
  | refine LeO.bind ?_ (fun _ => ?_)
set_option maxHeartbeats 8000000 in
set_option maxRecDepth 100000 in
theorem spec_l07Learn.calls (k : Nat) (a0 : Int) (a1 : Int) (A2 : Option Addr) (c2 : Nat) (l2 : List (List Int)) (A3 : Option Addr) (c3 : Nat) (l3 : List (List Int)) (r1 : List Int) (r2 : Bool) (w : World) (hr2 : Kd.C (Kd.slice 2 (Kd.int .i64)) w A2 l2.length l2) (hc2 : l2.length ≤ c2) (hr3 : Kd.C (Kd.slice 2 (Kd.int .i64)) w A3 l3.length l3) (hc3 : l3.length ≤ c3) (h : spec_l07Learn.f k a0 a1 l2 l3 = some (r1, r2)) :
    Calls Try.prog 87 #[.int .i64 a0, .int .i64 a1, .slice A2 l2.length c2, .slice A3 l3.length c3] w fun e w' => ∃ v0_ : Value, e = .returned (.tuple #[v0_, .bool r2]) ∧ Kd.R (Kd.int .i64) 2 w' w.heap.size (fun _ => True) v0_ r1 ∧ Below w.heap.size w w' := by
 have hu38 := Try.underlying38; have HR2 := Aside0.mk hr2; have HC2 := Aside0.mk hc2; clear hr2 hc2; have HR3 := Aside0.mk hr3; have HC3 := Aside0.mk hc3; clear hr3 hc3; have HB := Aside0.mk (Below.refl w.heap.size w); have H : (spec_l07Learn.l0 k a0 a1 l2 l3 (([] : List Int)) 0) = some (r1, r2) := h; clear h; obtain ⟨y135, hy135⟩ : ∃ y_ : List Int, y_ = (([] : List Int)) := ⟨_, rfl⟩; replace H : (spec_l07Learn.l0 k a0 a1 l2 l3 y135 0) = some (r1, r2) := by first | (rw [hy135]; with_reducible exact H) | (have H2_ := (Option.bind_some _ _).symm.trans H; rw [hy135]; with_reducible exact H2_) | (have H2_ := (Option.bind_some _ _).symm.trans H; with_reducible exact H2_) | with_reducible exact H | (rw [hy135]; exact H) | exact H
 have Ny135 := Aside0.mk hy135; clear hy135; have H' := Aside0.mk H; clear H; go_enter Try.func87, Try.ntmps87; go_wp2_with (first | ((with_reducible refine gate_dst (N := 16) rfl ?_); refine Kd.R_lit (Kd.int .i64) _ 2 ?hg (N := 16) ?hd (xs := ([] : List Int)) (inner := []) (ok := fun _ => True) (okp := fun _ => True) ?hr ?hp (fun _ hk => hk) trivial (Below.refl _ _) (Nat.le_refl _) (by simp) ?_; (case hd => rfl); (case hg => rfl); (case hr => first | (go_simp; done) | (go_simp; rfl)); (case hp => exact (Reps.none _ _)); intro v136 w5 ho6 hb hg_ hnew_; clear hg_ hnew_; (first | rw [← Ny135.out] at ho6 | (simp only [Int.reduceToNat] at ho6; rw [← Ny135.out] at ho6)); have n0_ := Aside0.mk (Kd.R_lower ho6 (below_size (bk_ HB.out))); have n1_ := Aside0.mk (below_step (bk_ HB.out) hb); clear HB; have HO137 := n0_; have HB := n1_; clear n0_ n1_ hb ho6)); repeat (go_quiet (first | ((with_reducible refine gate_dst (N := 16) rfl ?_); refine Kd.R_lit (Kd.int .i64) _ 2 ?hg (N := 16) ?hd (xs := ([] : List Int)) (inner := []) (ok := fun _ => True) (okp := fun _ => True) ?hr ?hp (fun _ hk => hk) trivial (Below.refl _ _) (Nat.le_refl _) (by simp) ?_; (case hd => rfl); (case hg => rfl); (case hr => first | (go_simp; done) | (go_simp; rfl)); (case hp => exact (Reps.none _ _)); intro v136 w5 ho6 hb hg_ hnew_; clear hg_ hnew_; (first | rw [← Ny135.out] at ho6 | (simp only [Int.reduceToNat] at ho6; rw [← Ny135.out] at ho6)); have n0_ := Aside0.mk (Kd.R_lower ho6 (below_size (bk_ HB.out))); have n1_ := Aside0.mk (below_step (bk_ HB.out) hb); clear HB; have HO137 := n0_; have HB := n1_; clear n0_ n1_ hb ho6)); try go_wp2_with (first | ((with_reducible refine gate_dst (N := 16) rfl ?_); refine Kd.R_lit (Kd.int .i64) _ 2 ?hg (N := 16) ?hd (xs := ([] : List Int)) (inner := []) (ok := fun _ => True) (okp := fun _ => True) ?hr ?hp (fun _ hk => hk) trivial (Below.refl _ _) (Nat.le_refl _) (by simp) ?_; (case hd => rfl); (case hg => rfl); (case hr => first | (go_simp; done) | (go_simp; rfl)); (case hp => exact (Reps.none _ _)); intro v136 w5 ho6 hb hg_ hnew_; clear hg_ hnew_; (first | rw [← Ny135.out] at ho6 | (simp only [Int.reduceToNat] at ho6; rw [← Ny135.out] at ho6)); have n0_ := Aside0.mk (Kd.R_lower ho6 (below_size (bk_ HB.out))); have n1_ := Aside0.mk (below_step (bk_ HB.out) hb); clear HB; have HO137 := n0_; have HB := n1_; clear n0_ n1_ hb ho6)))
 go_loopg [10, 11] k (fun kq v10 v11 w' => ∃ (x10_1 : List Int) (x11_1 : Int), v11 = .int .i64 x11_1 ∧ Aside0 (spec_l07Learn.l0 kq a0 a1 l2 l3 x10_1 x11_1 = some (r1, r2)) ∧ Aside0 (kq ≤ k) ∧ Aside0 (Kd.R (Kd.int .i64) 2 w' w.heap.size (fun _ => True) v10 x10_1) ∧ Aside0 (Below w.heap.size w w')); case atStart => exact ⟨(y135), (0), (by first | rfl | (simp; done) | (simp [i64_w, i32_w]; done) | (simp [*]; done) | (simp [*, i64_w, i32_w]; done)), H', ⟨Nat.le_refl _⟩, ⟨rk_ HO137.out⟩, ⟨bk_ HB.out⟩⟩
 case round =>
  clear H'; (try clear c2); (try clear p2); (try clear c3); obtain ⟨x10_1, x11_1, rfl, HA, HK1, HO_10, HB⟩ := hrel; cases gk with
  | zero => exact absurd HA.out (by simp [spec_l07Learn.l0])
  | succ k1 =>
   have H := HA.out; clear HA; simp only [spec_l07Learn.l0] at H; replace H := Option.bind_eq_some_iff.mp H; obtain ⟨t138, A70, H⟩ := H; replace H : (if x11_1 < t138 then (if x10_1.length < 17592186044416 then (spec_l07Learn.l0 k1 a0 a1 l2 l3 (x10_1 ++ [(-1)]) (wrap64 (x11_1 + 1))) else (none)) else (spec_l07Learn.l1 k1 l2 l3 x10_1 (l2.length : Int) 0 a0 a1)) = some (r1, r2) := H; have A7 := Aside0.mk A70; clear A70; by_cases c8 : x11_1 < t138
   · rw [if_pos c8] at H; have c8b0 : decide (x11_1 < t138) = true := decide_eq_true c8; clear c8; by_cases c9 : x10_1.length < 17592186044416
     · rw [if_pos c9] at H; have LMc9 := Aside0.mk c9; clear c9; obtain ⟨y139, hy139⟩ : ∃ y_ : List Int, y_ = (x10_1 ++ [(-1)]) := ⟨_, rfl⟩; replace H : (spec_l07Learn.l0 k1 a0 a1 l2 l3 y139 (wrap64 (x11_1 + 1))) = some (r1, r2) := by first | (rw [hy139]; with_reducible exact H) | (have H2_ := (Option.bind_some _ _).symm.trans H; rw [hy139]; with_reducible exact H2_) | (have H2_ := (Option.bind_some _ _).symm.trans H; with_reducible exact H2_) | with_reducible exact H | (rw [hy139]; exact H) | exact H
       have Ny139 := Aside0.mk hy139; clear hy139; have H' := Aside0.mk H; clear H; go_wp2_with (first | (go_at_call 69; (with_reducible refine (spec_l03Power.calls k1 a0 (wrap64 ((wrap64 (2 * a1)) + 1)) t138 _ A7.out).mono ?_); rintro e w' ⟨rfl, ⟨nd, rfl⟩⟩; (try first | exact ⟨rfl, _, World.drewN_drewN _ _ _⟩ | exact ⟨rfl, _, Eq.trans (World.drewN_drewN _ _ _) (congrArg (World.drewN _) (Nat.add_assoc _ _ _))⟩)) | ((with_reducible refine gate_builtin (b := .append) (xs := #[.tmp 26, .tmp 27]) rfl ?_); at_builtin; refine Kd.R_append (Kd.int .i64) (w0 := w) w.heap.size rfl (.tmp 26) (.tmp 27) 22 2 (.int .i64 0) 8 rfl Try.underlying22 info2 rfl (by decide) (by omega) u10 x10_1 (-1) [.int .i64 (-1)] (fun _ => True) (fun _ => False) rfl rfl ?aP (fun _ hk => hk.elim) ?aF ?aO ?aB ?aS ?aL ?_; (case aP => exact rfl); (case aB => exact (bk_ HB.out)); (case aF => exact (fun _ _ => trivial)); (case aO => exact (rk_ HO_10.out)); (case aS => exact (below_size (bk_ HB.out))); (case aL => have := LMc9.out; omega); intro v140 w10 ho hb hg hat; rw [← Ny139.out] at ho; have n0_ := Aside0.mk (hb); have n1_ := Aside0.mk (ho); clear HB HO_10; have HB := n0_; have HO141 := n1_; clear n0_ n1_ ho hb hg hat)); repeat (go_quiet (first | (go_at_call 69; (with_reducible refine (spec_l03Power.calls k1 a0 (wrap64 ((wrap64 (2 * a1)) + 1)) t138 _ A7.out).mono ?_); rintro e w' ⟨rfl, ⟨nd, rfl⟩⟩; (try first | exact ⟨rfl, _, World.drewN_drewN _ _ _⟩ | exact ⟨rfl, _, Eq.trans (World.drewN_drewN _ _ _) (congrArg (World.drewN _) (Nat.add_assoc _ _ _))⟩)) | ((with_reducible refine gate_builtin (b := .append) (xs := #[.tmp 26, .tmp 27]) rfl ?_); at_builtin; refine Kd.R_append (Kd.int .i64) (w0 := w) w.heap.size rfl (.tmp 26) (.tmp 27) 22 2 (.int .i64 0) 8 rfl Try.underlying22 info2 rfl (by decide) (by omega) u10 x10_1 (-1) [.int .i64 (-1)] (fun _ => True) (fun _ => False) rfl rfl ?aP (fun _ hk => hk.elim) ?aF ?aO ?aB ?aS ?aL ?_; (case aP => exact rfl); (case aB => exact (bk_ HB.out)); (case aF => exact (fun _ _ => trivial)); (case aO => exact (rk_ HO_10.out)); (case aS => exact (below_size (bk_ HB.out))); (case aL => have := LMc9.out; omega); intro v140 w10 ho hb hg hat; rw [← Ny139.out] at ho; have n0_ := Aside0.mk (hb); have n1_ := Aside0.mk (ho); clear HB HO_10; have HB := n0_; have HO141 := n1_; clear n0_ n1_ ho hb hg hat)); try go_wp2_with (first | (go_at_call 69; (with_reducible refine (spec_l03Power.calls k1 a0 (wrap64 ((wrap64 (2 * a1)) + 1)) t138 _ A7.out).mono ?_); rintro e w' ⟨rfl, ⟨nd, rfl⟩⟩; (try first | exact ⟨rfl, _, World.drewN_drewN _ _ _⟩ | exact ⟨rfl, _, Eq.trans (World.drewN_drewN _ _ _) (congrArg (World.drewN _) (Nat.add_assoc _ _ _))⟩)) | ((with_reducible refine gate_builtin (b := .append) (xs := #[.tmp 26, .tmp 27]) rfl ?_); at_builtin; refine Kd.R_append (Kd.int .i64) (w0 := w) w.heap.size rfl (.tmp 26) (.tmp 27) 22 2 (.int .i64 0) 8 rfl Try.underlying22 info2 rfl (by decide) (by omega) u10 x10_1 (-1) [.int .i64 (-1)] (fun _ => True) (fun _ => False) rfl rfl ?aP (fun _ hk => hk.elim) ?aF ?aO ?aB ?aS ?aL ?_; (case aP => exact rfl); (case aB => exact (bk_ HB.out)); (case aF => exact (fun _ _ => trivial)); (case aO => exact (rk_ HO_10.out)); (case aS => exact (below_size (bk_ HB.out))); (case aL => have := LMc9.out; omega); intro v140 w10 ho hb hg hat; rw [← Ny139.out] at ho; have n0_ := Aside0.mk (hb); have n1_ := Aside0.mk (ho); clear HB HO_10; have HB := n0_; have HO141 := n1_; clear n0_ n1_ ho hb hg hat)))
       go_roundg k1; case measure => have := HK1.out; omega
       case rel => exact ⟨(y139), (wrap64 (x11_1 + 1)), (by first | rfl | (simp; done) | (simp [i64_w, i32_w]; done) | (simp [*]; done) | (simp [*, i64_w, i32_w]; done)), H', ⟨by have := HK1.out; omega⟩, ⟨rk_ HO141.out⟩, ⟨bk_ HB.out⟩⟩
     · rw [if_neg c9] at H; exact absurd H (by simp)
   · rw [if_neg c8] at H; have c8b0 : decide (x11_1 < t138) = false := decide_eq_false c8; clear c8; have H' := Aside0.mk H; clear H; go_wp2_with (first | (go_at_call 69; (with_reducible refine (spec_l03Power.calls k1 a0 (wrap64 ((wrap64 (2 * a1)) + 1)) t138 _ A7.out).mono ?_); rintro e w' ⟨rfl, ⟨nd, rfl⟩⟩; (try first | exact ⟨rfl, _, World.drewN_drewN _ _ _⟩ | exact ⟨rfl, _, Eq.trans (World.drewN_drewN _ _ _) (congrArg (World.drewN _) (Nat.add_assoc _ _ _))⟩)) | ((with_reducible refine gate_dst (N := 12) rfl ?_); refine box_event ?hg (N := 12) ?hd (cs := #[.int .i64 0, .int .i64 0, .slice none 0 0]) (t := 38) ?hr ?_; (case hd => rfl); (case hg => rfl); (case hr => first | (go_simp; done) | (go_simp; rfl)); intro gb142 hg w11 hbox hb; have n0_ := Aside0.mk (Kd.R_below (rk_ HO_10.out) hb); have n1_ := Aside0.mk (below_step (bk_ HB.out) hb); have n2_ := Aside0.mk (hbox); have n3_ := Aside0.mk ((by rw [hg]; exact (below_size (bk_ HB.out)) : w.heap.size ≤ gb142)); have n4_ := Aside0.mk ((by rw [hg]; exact (below_size (bk_ HB.out)) : w.heap.size ≤ gb142)); clear HO_10 HB; have HO_10 := n0_; have HB := n1_; have BK142 := n2_; have GW142 := n3_; have GE142 := n4_; clear n0_ n1_ n2_ n3_ n4_ hb hbox hg; have hcz12_0 := bc_ BK142.out 0 (.int .i64 0); have hcz12_1 := bc_ BK142.out 1 (.int .i64 0); have hcz12_2 := bc_ BK142.out 2 (.slice none 0 0); have hfz12_0 := blk_frozen BK142.out 0; have hfz12_1 := blk_frozen BK142.out 1; have hfz12_2 := blk_frozen BK142.out 2)); repeat (go_quiet (first | (go_at_call 69; (with_reducible refine (spec_l03Power.calls k1 a0 (wrap64 ((wrap64 (2 * a1)) + 1)) t138 _ A7.out).mono ?_); rintro e w' ⟨rfl, ⟨nd, rfl⟩⟩; (try first | exact ⟨rfl, _, World.drewN_drewN _ _ _⟩ | exact ⟨rfl, _, Eq.trans (World.drewN_drewN _ _ _) (congrArg (World.drewN _) (Nat.add_assoc _ _ _))⟩)) | ((with_reducible refine gate_dst (N := 12) rfl ?_); refine box_event ?hg (N := 12) ?hd (cs := #[.int .i64 0, .int .i64 0, .slice none 0 0]) (t := 38) ?hr ?_; (case hd => rfl); (case hg => rfl); (case hr => first | (go_simp; done) | (go_simp; rfl)); intro gb142 hg w11 hbox hb; have n0_ := Aside0.mk (Kd.R_below (rk_ HO_10.out) hb); have n1_ := Aside0.mk (below_step (bk_ HB.out) hb); have n2_ := Aside0.mk (hbox); have n3_ := Aside0.mk ((by rw [hg]; exact (below_size (bk_ HB.out)) : w.heap.size ≤ gb142)); have n4_ := Aside0.mk ((by rw [hg]; exact (below_size (bk_ HB.out)) : w.heap.size ≤ gb142)); clear HO_10 HB; have HO_10 := n0_; have HB := n1_; have BK142 := n2_; have GW142 := n3_; have GE142 := n4_; clear n0_ n1_ n2_ n3_ n4_ hb hbox hg; have hcz12_0 := bc_ BK142.out 0 (.int .i64 0); have hcz12_1 := bc_ BK142.out 1 (.int .i64 0); have hcz12_2 := bc_ BK142.out 2 (.slice none 0 0); have hfz12_0 := blk_frozen BK142.out 0; have hfz12_1 := blk_frozen BK142.out 1; have hfz12_2 := blk_frozen BK142.out 2)); try go_wp2_with (first | (go_at_call 69; (with_reducible refine (spec_l03Power.calls k1 a0 (wrap64 ((wrap64 (2 * a1)) + 1)) t138 _ A7.out).mono ?_); rintro e w' ⟨rfl, ⟨nd, rfl⟩⟩; (try first | exact ⟨rfl, _, World.drewN_drewN _ _ _⟩ | exact ⟨rfl, _, Eq.trans (World.drewN_drewN _ _ _) (congrArg (World.drewN _) (Nat.add_assoc _ _ _))⟩)) | ((with_reducible refine gate_dst (N := 12) rfl ?_); refine box_event ?hg (N := 12) ?hd (cs := #[.int .i64 0, .int .i64 0, .slice none 0 0]) (t := 38) ?hr ?_; (case hd => rfl); (case hg => rfl); (case hr => first | (go_simp; done) | (go_simp; rfl)); intro gb142 hg w11 hbox hb; have n0_ := Aside0.mk (Kd.R_below (rk_ HO_10.out) hb); have n1_ := Aside0.mk (below_step (bk_ HB.out) hb); have n2_ := Aside0.mk (hbox); have n3_ := Aside0.mk ((by rw [hg]; exact (below_size (bk_ HB.out)) : w.heap.size ≤ gb142)); have n4_ := Aside0.mk ((by rw [hg]; exact (below_size (bk_ HB.out)) : w.heap.size ≤ gb142)); clear HO_10 HB; have HO_10 := n0_; have HB := n1_; have BK142 := n2_; have GW142 := n3_; have GE142 := n4_; clear n0_ n1_ n2_ n3_ n4_ hb hbox hg; have hcz12_0 := bc_ BK142.out 0 (.int .i64 0); have hcz12_1 := bc_ BK142.out 1 (.int .i64 0); have hcz12_2 := bc_ BK142.out 2 (.slice none 0 0); have hfz12_0 := blk_frozen BK142.out 0; have hfz12_1 := blk_frozen BK142.out 1; have hfz12_2 := blk_frozen BK142.out 2)))
     go_loopg [34] k1 (fun kq v34 w' => ∃ (x10_2 : List Int) (x34_2 : Int), v34 = .int .i64 x34_2 ∧ Aside0 (spec_l07Learn.l1 kq l2 l3 x10_2 (l2.length : Int) x34_2 a0 a1 = some (r1, r2)) ∧ Aside0 (kq ≤ k1) ∧ Aside0 (Kd.R (Kd.int .i64) 2 w' w.heap.size (fun _ => True) u10 x10_2) ∧ Aside0 (w'.heap[gb142]? = some (.cells #[.int .i64 a0, .int .i64 a1, (.slice none 0 0)] 38 (0, 0))) ∧ Aside0 (Below w.heap.size w w')); case atStart => exact ⟨(x10_1), (0), (by first | rfl | (simp; done) | (simp [i64_w, i32_w]; done) | (simp [*]; done) | (simp [*, i64_w, i32_w]; done)), H', ⟨Nat.le_refl _⟩, ⟨by (with_reducible repeat (first | apply Kd.R_alloc | apply Kd.R_drewN | apply Kd.R_drew)); exact Kd.R_mono (Kd.R_far (p := ⟨gb142, 2, none⟩) (Kd.R_far (p := ⟨gb142, 1, none⟩) (Kd.R_far (p := ⟨gb142, 0, none⟩) (Kd.R_types HO_10.out BK142.out (by decide)) (fun _ hk => hk.2) (.int .i64 a0)) (fun _ hk => hk.2) (.int .i64 a1)) (fun _ hk => hk.2) (.slice none 0 0)) (fun _ hk => trivial)⟩, ⟨by (with_reducible repeat (first | refine blk_drewN ?_ _ | refine blk_drew ?_ | refine blk_alloc ?_ _)); refine blk_put (cs := #[.int .i64 a0, .int .i64 a1, .slice none 0 0]) ?_ 2 _ rfl; (with_reducible repeat (first | refine blk_drewN ?_ _ | refine blk_drew ?_ | refine blk_alloc ?_ _)); refine blk_put (cs := #[.int .i64 a0, .int .i64 0, .slice none 0 0]) ?_ 1 _ rfl; (with_reducible repeat (first | refine blk_drewN ?_ _ | refine blk_drew ?_ | refine blk_alloc ?_ _)); refine blk_put (cs := #[.int .i64 0, .int .i64 0, .slice none 0 0]) ?_ 0 _ rfl; (with_reducible repeat (first | refine blk_drewN ?_ _ | refine blk_drew ?_ | refine blk_alloc ?_ _)); exact BK142.out⟩, ⟨bk_ HB.out⟩⟩
     case round =>
      clear H'; (try clear c2); (try clear p2); (try clear c3); (try clear p6); (try clear c8); (try clear c8b0); (try clear c9); (try clear hcz12_0); (try clear hcz12_1); (try clear hcz12_2); (try clear hfz12_0); (try clear hfz12_1); (try clear hfz12_2); (try clear p2); obtain ⟨x10_2, x34_2, rfl, HA, HK2, HO_10, BK142, HB⟩ := hrel; cases gk with
      | zero => exact absurd HA.out (by simp [spec_l07Learn.l1])
      | succ k2 =>
       have H := HA.out; clear HA; simp only [spec_l07Learn.l1] at H; by_cases c13 : x34_2 < (l2.length : Int)
       · rw [if_pos c13] at H; have c13b0 : decide (x34_2 < (l2.length : Int)) = true := decide_eq_true c13; clear c13; by_cases c14 : 0 ≤ x34_2
         · rw [if_pos c14] at H; have c14b0 : decide (0 ≤ x34_2) = true := decide_eq_true c14; clear c14; by_cases c15 : x34_2 < (l2.length : Int)
           · rw [if_pos c15] at H; have c15b0 : decide (x34_2 < (l2.length : Int)) = true := decide_eq_true c15; clear c15; have H' := Aside0.mk H; clear H; have p143 : 0 ≤ (x34_2 : Int) := of_decide_eq_true (by first | (with_reducible assumption) | assumption); have q143 : x34_2 < (l2.length : Int) := of_decide_eq_true (by first | (with_reducible assumption) | assumption); obtain ⟨ad143, A143_0, c143_0, e143, hx143_0, hl143_0, hi143_0⟩ := at_L1 HR2.out x34_2 p143 q143; cases e143
             replace hx143_0 := (HB.out.cell (World.block_lt_of_cell? w _ hx143_0)).trans hx143_0; have HR143_0 := Aside0.mk hi143_0; have HC143_0 := Aside0.mk hl143_0; clear hi143_0 hl143_0; replace p143 := eq_true p143; replace q143 := eq_true q143; go_wp2; repeat (go_quiet (fail); try go_wp2)
             go_loopg [42] k2 (fun kq v42 w' => ∃ (x10_3 : List Int) (x42_3 : Int), v42 = .int .i64 x42_3 ∧ Aside0 (spec_l07Learn.l2 kq l2 l3 x10_3 x34_2 (l2.length : Int) x34_2 ((rd_L1 l2 x34_2).length : Int) x42_3 a0 a1 = some (r1, r2)) ∧ Aside0 (kq ≤ k2) ∧ Aside0 (Kd.R (Kd.int .i64) 2 w' w.heap.size (fun _ => True) u10 x10_3) ∧ Aside0 (w'.heap[gb142]? = some (.cells #[.int .i64 a0, .int .i64 a1, (.slice none 0 0)] 38 (0, 0))) ∧ Aside0 (Below w.heap.size w w')); case atStart => exact ⟨(x10_2), (0), (by first | rfl | (simp; done) | (simp [i64_w, i32_w]; done) | (simp [*]; done) | (simp [*, i64_w, i32_w]; done)), H', ⟨Nat.le_refl _⟩, ⟨rk_ HO_10.out⟩, ⟨pk_ BK142.out⟩, ⟨bk_ HB.out⟩⟩
             case round =>
              clear H'; (try clear c1); (try clear p1); (try clear q1); (try clear hx1); (try clear c2); (try clear p2); (try clear c3); (try clear p6); (try clear c8); (try clear c8b0); (try clear c9); (try clear c13); (try clear c13b0); (try clear c14); (try clear c14b0); (try clear p14); (try clear q14); (try clear hx14); (try clear c15); (try clear c15b0); (try clear hcz12_0); (try clear hcz12_1); (try clear hcz12_2); (try clear hfz12_0); (try clear hfz12_1); (try clear hfz12_2); (try clear hx143_0); (try clear p143); (try clear p2); (try clear p6); (try clear q143); obtain ⟨x10_3, x42_3, rfl, HA, HK3, HO_10, BK142, HB⟩ := hrel; cases gk with
              | zero => exact absurd HA.out (by simp [spec_l07Learn.l2])
              | succ k3 =>
               have H := HA.out; clear HA; simp only [spec_l07Learn.l2] at H; by_cases c16 : x42_3 < ((rd_L1 l2 x34_2).length : Int)
               · rw [if_pos c16] at H; have c16b0 : decide (x42_3 < ((rd_L1 l2 x34_2).length : Int)) = true := decide_eq_true c16; clear c16; by_cases c17 : 0 ≤ x34_2
                 · rw [if_pos c17] at H; have c17b0 : decide (0 ≤ x34_2) = true := decide_eq_true c17; clear c17; by_cases c18 : x34_2 < (l2.length : Int)
                   · rw [if_pos c18] at H; have c18b0 : decide (x34_2 < (l2.length : Int)) = true := decide_eq_true c18; clear c18; replace H := Option.bind_eq_some_iff.mp H; obtain ⟨t145, A190, H⟩ := H; replace H : (if 0 ≤ t145 then (if t145 < (x10_3.length : Int) then (if (rd x10_3 t145) ≥ 0 then (if x34_2 < (l3.length : Int) then (if 0 ≤ x42_3 then (if x42_3 < ((rd_L1 l3 x34_2).length : Int) then (if (rd x10_3 t145) = (rd (rd_L1 l3 x34_2) x42_3) then (spec_l07Learn.l2 k3 l2 l3 (x10_3.set (t145 : Int).toNat (rd (rd_L1 l3 x34_2) x42_3)) x34_2 (l2.length : Int) x34_2 ((rd_L1 l2 x34_2).length : Int) (wrap64 (x42_3 + 1)) a0 a1) else (some (([] : List Int), false))) else (none)) else (none)) else (none)) else (if x34_2 < (l3.length : Int) then (if 0 ≤ x42_3 then (if x42_3 < ((rd_L1 l3 x34_2).length : Int) then (spec_l07Learn.l2 k3 l2 l3 (x10_3.set (t145 : Int).toNat (rd (rd_L1 l3 x34_2) x42_3)) x34_2 (l2.length : Int) x34_2 ((rd_L1 l2 x34_2).length : Int) (wrap64 (x42_3 + 1)) a0 a1) else (none)) else (none)) else (none))) else (none)) else (none)) = some (r1, r2) := H; have A19 := Aside0.mk A190; clear A190; by_cases c20 : 0 ≤ t145
                     · rw [if_pos c20] at H; have c20b0 : decide (0 ≤ t145) = true := decide_eq_true c20; clear c20; by_cases c21 : t145 < (x10_3.length : Int)
                       · rw [if_pos c21] at H; have c21b0 : decide (t145 < (x10_3.length : Int)) = true := decide_eq_true c21; clear c21; by_cases c22 : (rd x10_3 t145) ≥ 0
                         · rw [if_pos c22] at H; have c22b0 : decide (0 ≤ (rd x10_3 t145)) = true := decide_eq_true c22; clear c22; by_cases c23 : x34_2 < (l3.length : Int)
                           · rw [if_pos c23] at H; have c23b0 : decide (x34_2 < (l3.length : Int)) = true := decide_eq_true c23; clear c23; by_cases c24 : 0 ≤ x42_3
                             · rw [if_pos c24] at H; have c24b0 : decide (0 ≤ x42_3) = true := decide_eq_true c24; clear c24; by_cases c25 : x42_3 < ((rd_L1 l3 x34_2).length : Int)
                               · rw [if_pos c25] at H; have c25b0 : decide (x42_3 < ((rd_L1 l3 x34_2).length : Int)) = true := decide_eq_true c25; clear c25; by_cases c26 : (rd x10_3 t145) = (rd (rd_L1 l3 x34_2) x42_3)
                                 · rw [if_pos c26] at H; have c26b0 : ((rd x10_3 t145) == (rd (rd_L1 l3 x34_2) x42_3)) = true := beq_iff_eq.mpr c26; have c26b1 : ((rd x10_3 t145) != (rd (rd_L1 l3 x34_2) x42_3)) = false := bne_eq_false_iff_eq.mpr c26; clear c26; obtain ⟨y152, hy152⟩ : ∃ y_ : List Int, y_ = (x10_3.set (t145 : Int).toNat (rd (rd_L1 l3 x34_2) x42_3)) := ⟨_, rfl⟩; replace H : (spec_l07Learn.l2 k3 l2 l3 y152 x34_2 (l2.length : Int) x34_2 ((rd_L1 l2 x34_2).length : Int) (wrap64 (x42_3 + 1)) a0 a1) = some (r1, r2) := by first | (rw [hy152]; with_reducible exact H) | (have H2_ := (Option.bind_some _ _).symm.trans H; rw [hy152]; with_reducible exact H2_) | (have H2_ := (Option.bind_some _ _).symm.trans H; with_reducible exact H2_) | with_reducible exact H | (rw [hy152]; exact H) | exact H
                                   have Ny152 := Aside0.mk hy152; clear hy152; have H' := Aside0.mk H; clear H; have p144 : 0 ≤ (x34_2 : Int) := of_decide_eq_true (by first | (with_reducible assumption) | assumption); have q144 : x34_2 < (l2.length : Int) := of_decide_eq_true (by first | (with_reducible assumption) | assumption); obtain ⟨ad144, A144_0, c144_0, e144, hx144_0, hl144_0, hi144_0⟩ := at_L1 HR2.out x34_2 p144 q144; obtain rfl : ad143 = ad144 := (by injection e144); replace hx144_0 := (HB.out.cell (World.block_lt_of_cell? w _ hx144_0)).trans hx144_0; have HR144_0 := Aside0.mk hi144_0; have HC144_0 := Aside0.mk hl144_0; clear hi144_0 hl144_0; replace p144 := eq_true p144; replace q144 := eq_true q144; go_wp2_with (first | (go_at_call 119; (refine (spec_l03Hood.calls k3 (⟨gb142, 0, none⟩) a0 a1 none 0 ([] : List Int) _ _ (rd_L1 l2 x34_2) x42_3 t145 _ ?side1 ?side2 ?side3 ?side4 ?side5 ?side6 ?side7 A19.out).mono ?_); (case side1 => exact be_ BK142.out 0); (case side2 => exact be_ BK142.out 1); (case side3 => exact be_ BK142.out 2); (case side4 => exact Kd.C_nil _ _); (case side5 => exact Nat.le_refl _); (case side6 => exact ck_ (Kd.C_below HR144_0.out HB.out)); (case side7 => exact HC144_0.out); rintro e w' ⟨rfl, ⟨nd, rfl⟩⟩; (try first | exact ⟨rfl, _, World.drewN_drewN _ _ _⟩ | exact ⟨rfl, _, Eq.trans (World.drewN_drewN _ _ _) (congrArg (World.drewN _) (Nat.add_assoc _ _ _))⟩); obtain ⟨Ao28, co28, eo28⟩ := Kd.R_slice HO_10.out; subst eo28; have p146 : 0 ≤ (t145 : Int) := of_decide_eq_true (by first | (with_reducible assumption) | assumption); have q146 : t145 < (x10_3.length : Int) := of_decide_eq_true (by first | (with_reducible assumption) | assumption); obtain ⟨ad146, e146, hx146_0⟩ := Kd.at_int (Kd.R_reads' HO_10.out).2.2 t145 p146 q146; cases e146; replace p146 := eq_true p146; replace q146 := eq_true q146; have p147 : 0 ≤ (t145 : Int) := of_decide_eq_true (by first | (with_reducible assumption) | assumption); have q147 : t145 < (x10_3.length : Int) := of_decide_eq_true (by first | (with_reducible assumption) | assumption); obtain ⟨ad147, e147, hx147_0⟩ := Kd.at_int (Kd.R_reads' HO_10.out).2.2 t145 p147 q147; obtain rfl : ad146 = ad147 := (by injection e147); replace p147 := eq_true p147; replace q147 := eq_true q147; have p148 : 0 ≤ (x34_2 : Int) := of_decide_eq_true (by first | (with_reducible assumption) | assumption); have q148 : x34_2 < (l3.length : Int) := of_decide_eq_true (by first | (with_reducible assumption) | assumption); obtain ⟨ad148, A148_0, c148_0, e148, hx148_0, hl148_0, hi148_0⟩ := at_L1 HR3.out x34_2 p148 q148; cases e148; replace hx148_0 := (HB.out.cell (World.block_lt_of_cell? w _ hx148_0)).trans hx148_0; have HR148_0 := Aside0.mk hi148_0; have HC148_0 := Aside0.mk hl148_0; clear hi148_0 hl148_0; replace p148 := eq_true p148; replace q148 := eq_true q148; have p149 : 0 ≤ (x42_3 : Int) := of_decide_eq_true (by first | (with_reducible assumption) | assumption); have q149 : x42_3 < ((rd_L1 l3 x34_2).length : Int) := of_decide_eq_true (by first | (with_reducible assumption) | assumption); obtain ⟨ad149, e149, hx149_0⟩ := Kd.at_int HR148_0.out x42_3 p149 q149; cases e149; replace hx149_0 := (HB.out.cell (World.block_lt_of_cell? w _ hx149_0)).trans hx149_0; replace p149 := eq_true p149; replace q149 := eq_true q149; have p150 : 0 ≤ (x34_2 : Int) := of_decide_eq_true (by first | (with_reducible assumption) | assumption); have q150 : x34_2 < (l3.length : Int) := of_decide_eq_true (by first | (with_reducible assumption) | assumption); obtain ⟨ad150, A150_0, c150_0, e150, hx150_0, hl150_0, hi150_0⟩ := at_L1 HR3.out x34_2 p150 q150; obtain rfl : ad148 = ad150 := (by injection e150); replace hx150_0 := (HB.out.cell (World.block_lt_of_cell? w _ hx150_0)).trans hx150_0; have HR150_0 := Aside0.mk hi150_0; have HC150_0 := Aside0.mk hl150_0; clear hi150_0 hl150_0; replace p150 := eq_true p150; replace q150 := eq_true q150; have ea_ := Option.some.inj (hx148_0.symm.trans hx150_0); injection ea_ with ea_ en_ ec_; subst ea_; subst ec_; clear en_; have p151 : 0 ≤ (x42_3 : Int) := of_decide_eq_true (by first | (with_reducible assumption) | assumption); have q151 : x42_3 < ((rd_L1 l3 x34_2).length : Int) := of_decide_eq_true (by first | (with_reducible assumption) | assumption); obtain ⟨ad151, e151, hx151_0⟩ := Kd.at_int HR150_0.out x42_3 p151 q151; cases e151; replace hx151_0 := (HB.out.cell (World.block_lt_of_cell? w _ hx151_0)).trans hx151_0; replace p151 := eq_true p151; replace q151 := eq_true q151; have p27 : 0 ≤ (t145 : Int) := of_decide_eq_true (by first | (with_reducible assumption) | assumption); have q27 : (t145 : Int) < ((x10_3.length : Int) : Int) := of_decide_eq_true (by first | (with_reducible assumption) | assumption); obtain ⟨go27, co27, eo27, gb27, gl27, cl27, HG27⟩ := Kd.R_form HO_10.out (by omega); (first | cases eo27 | (injection eo27 with ea_ en_ ec_; (first | subst ea_ | (injection ea_ with ea_; subst ea_)); subst ec_; clear en_)); have GB27 := Aside0.mk gb27; have GG27 := Aside0.mk HG27; clear gb27 gl27 HG27; (first | simp only [add_plain] at hx146_0 | skip); (first | simp only [add_plain] at hx147_0 | skip); obtain ⟨hx27_0, hf27_0⟩ := Kd.R_celln 0 HO_10.out (t145 : Int) p27 q27; replace p27 := eq_true p27; replace q27 := eq_true q27; obtain ⟨hy29_, hz29_⟩ := Kd.R_celln 0 HO_10.out (t145 : Int) (of_decide_eq_true (by first | (with_reducible assumption) | assumption)) (of_decide_eq_true (by first | (with_reducible assumption) | assumption)); have HP29 := Kd.R_putg HO_10.out (t145 : Int) (rd (rd_L1 l3 x34_2) x42_3)) | ((with_reducible refine gate_store (t := 2) (p := 79) rfl ?_); (try (rw [drewN_self wr]; generalize hq_ : World.drewN wr _ = wr; have n0_ := Aside0.mk (Kd.R_at hq_ HO_10.out); have n1_ := Aside0.mk (blk_at hq_ BK142.out); have n2_ := Aside0.mk (below_at hq_ HB.out); clear hq_ HO_10 BK142 HB; have HO_10 := n0_; have BK142 := n1_; have HB := n2_; clear n0_ n1_ n2_; (try (obtain ⟨hy29_, hz29_⟩ := Kd.R_celln 0 HO_10.out (t145 : Int) (of_decide_eq_true (by first | (with_reducible assumption) | assumption)) (of_decide_eq_true (by first | (with_reducible assumption) | assumption)))); (try (have HP29 := Kd.R_putg HO_10.out (t145 : Int) (rd (rd_L1 l3 x34_2) x42_3))))); refine store_event (t := 2) (p := 79) (v := ?vo_w30) (w1 := (wr.setCell ⟨go27, (t145 : Int).toNat, none⟩ (.int .i64 (rd (rd_L1 l3 x34_2) x42_3)))) ?hg ?ho ?hn ?hr ?_; (case ho => rfl); (case hg => rfl); (case hn => rfl); (case hr => first | (go_simp; done) | (go_simp; rfl)); intro w30 hw; have hg : wr.grownBy w30 (some go27) := (by rw [hw]; exact HP29.2); have hp_ : Kd.R (Kd.int .i64) 2 w30 w.heap.size (fun _ => True) (.slice (some ⟨go27, 0, none⟩) x10_3.length co28) y152 := (by rw [hw, Ny152.out]; exact HP29.1); clear HP29; have n0_ := Aside0.mk (hp_); have n1_ := Aside0.mk (bg_ BK142.out hg (Kd.R_ne HO_10.out BK142.out (by decide))); have n2_ := Aside0.mk ((by rw [hw]; exact below_set (HB.out) GB27.out : Below w.heap.size w w30)); clear HO_10 BK142 HB; have HO_10 := n0_; have BK142 := n1_; have HB := n2_; clear n0_ n1_ n2_ hg hw hp_))
                                   repeat (go_quiet (first | (go_at_call 119; (refine (spec_l03Hood.calls k3 (⟨gb142, 0, none⟩) a0 a1 none 0 ([] : List Int) _ _ (rd_L1 l2 x34_2) x42_3 t145 _ ?side1 ?side2 ?side3 ?side4 ?side5 ?side6 ?side7 A19.out).mono ?_); (case side1 => exact be_ BK142.out 0); (case side2 => exact be_ BK142.out 1); (case side3 => exact be_ BK142.out 2); (case side4 => exact Kd.C_nil _ _); (case side5 => exact Nat.le_refl _); (case side6 => exact ck_ (Kd.C_below HR144_0.out HB.out)); (case side7 => exact HC144_0.out); rintro e w' ⟨rfl, ⟨nd, rfl⟩⟩; (try first | exact ⟨rfl, _, World.drewN_drewN _ _ _⟩ | exact ⟨rfl, _, Eq.trans (World.drewN_drewN _ _ _) (congrArg (World.drewN _) (Nat.add_assoc _ _ _))⟩); obtain ⟨Ao28, co28, eo28⟩ := Kd.R_slice HO_10.out; subst eo28; have p146 : 0 ≤ (t145 : Int) := of_decide_eq_true (by first | (with_reducible assumption) | assumption); have q146 : t145 < (x10_3.length : Int) := of_decide_eq_true (by first | (with_reducible assumption) | assumption); obtain ⟨ad146, e146, hx146_0⟩ := Kd.at_int (Kd.R_reads' HO_10.out).2.2 t145 p146 q146; cases e146; replace p146 := eq_true p146; replace q146 := eq_true q146; have p147 : 0 ≤ (t145 : Int) := of_decide_eq_true (by first | (with_reducible assumption) | assumption); have q147 : t145 < (x10_3.length : Int) := of_decide_eq_true (by first | (with_reducible assumption) | assumption); obtain ⟨ad147, e147, hx147_0⟩ := Kd.at_int (Kd.R_reads' HO_10.out).2.2 t145 p147 q147; obtain rfl : ad146 = ad147 := (by injection e147); replace p147 := eq_true p147; replace q147 := eq_true q147; have p148 : 0 ≤ (x34_2 : Int) := of_decide_eq_true (by first | (with_reducible assumption) | assumption); have q148 : x34_2 < (l3.length : Int) := of_decide_eq_true (by first | (with_reducible assumption) | assumption); obtain ⟨ad148, A148_0, c148_0, e148, hx148_0, hl148_0, hi148_0⟩ := at_L1 HR3.out x34_2 p148 q148; cases e148; replace hx148_0 := (HB.out.cell (World.block_lt_of_cell? w _ hx148_0)).trans hx148_0; have HR148_0 := Aside0.mk hi148_0; have HC148_0 := Aside0.mk hl148_0; clear hi148_0 hl148_0; replace p148 := eq_true p148; replace q148 := eq_true q148; have p149 : 0 ≤ (x42_3 : Int) := of_decide_eq_true (by first | (with_reducible assumption) | assumption); have q149 : x42_3 < ((rd_L1 l3 x34_2).length : Int) := of_decide_eq_true (by first | (with_reducible assumption) | assumption); obtain ⟨ad149, e149, hx149_0⟩ := Kd.at_int HR148_0.out x42_3 p149 q149; cases e149; replace hx149_0 := (HB.out.cell (World.block_lt_of_cell? w _ hx149_0)).trans hx149_0; replace p149 := eq_true p149; replace q149 := eq_true q149; have p150 : 0 ≤ (x34_2 : Int) := of_decide_eq_true (by first | (with_reducible assumption) | assumption); have q150 : x34_2 < (l3.length : Int) := of_decide_eq_true (by first | (with_reducible assumption) | assumption); obtain ⟨ad150, A150_0, c150_0, e150, hx150_0, hl150_0, hi150_0⟩ := at_L1 HR3.out x34_2 p150 q150; obtain rfl : ad148 = ad150 := (by injection e150); replace hx150_0 := (HB.out.cell (World.block_lt_of_cell? w _ hx150_0)).trans hx150_0; have HR150_0 := Aside0.mk hi150_0; have HC150_0 := Aside0.mk hl150_0; clear hi150_0 hl150_0; replace p150 := eq_true p150; replace q150 := eq_true q150; have ea_ := Option.some.inj (hx148_0.symm.trans hx150_0); injection ea_ with ea_ en_ ec_; subst ea_; subst ec_; clear en_; have p151 : 0 ≤ (x42_3 : Int) := of_decide_eq_true (by first | (with_reducible assumption) | assumption); have q151 : x42_3 < ((rd_L1 l3 x34_2).length : Int) := of_decide_eq_true (by first | (with_reducible assumption) | assumption); obtain ⟨ad151, e151, hx151_0⟩ := Kd.at_int HR150_0.out x42_3 p151 q151; cases e151; replace hx151_0 := (HB.out.cell (World.block_lt_of_cell? w _ hx151_0)).trans hx151_0; replace p151 := eq_true p151; replace q151 := eq_true q151; have p27 : 0 ≤ (t145 : Int) := of_decide_eq_true (by first | (with_reducible assumption) | assumption); have q27 : (t145 : Int) < ((x10_3.length : Int) : Int) := of_decide_eq_true (by first | (with_reducible assumption) | assumption); obtain ⟨go27, co27, eo27, gb27, gl27, cl27, HG27⟩ := Kd.R_form HO_10.out (by omega); (first | cases eo27 | (injection eo27 with ea_ en_ ec_; (first | subst ea_ | (injection ea_ with ea_; subst ea_)); subst ec_; clear en_)); have GB27 := Aside0.mk gb27; have GG27 := Aside0.mk HG27; clear gb27 gl27 HG27; (first | simp only [add_plain] at hx146_0 | skip); (first | simp only [add_plain] at hx147_0 | skip); obtain ⟨hx27_0, hf27_0⟩ := Kd.R_celln 0 HO_10.out (t145 : Int) p27 q27; replace p27 := eq_true p27; replace q27 := eq_true q27; obtain ⟨hy29_, hz29_⟩ := Kd.R_celln 0 HO_10.out (t145 : Int) (of_decide_eq_true (by first | (with_reducible assumption) | assumption)) (of_decide_eq_true (by first | (with_reducible assumption) | assumption)); have HP29 := Kd.R_putg HO_10.out (t145 : Int) (rd (rd_L1 l3 x34_2) x42_3)) | ((with_reducible refine gate_store (t := 2) (p := 79) rfl ?_); (try (rw [drewN_self wr]; generalize hq_ : World.drewN wr _ = wr; have n0_ := Aside0.mk (Kd.R_at hq_ HO_10.out); have n1_ := Aside0.mk (blk_at hq_ BK142.out); have n2_ := Aside0.mk (below_at hq_ HB.out); clear hq_ HO_10 BK142 HB; have HO_10 := n0_; have BK142 := n1_; have HB := n2_; clear n0_ n1_ n2_; (try (obtain ⟨hy29_, hz29_⟩ := Kd.R_celln 0 HO_10.out (t145 : Int) (of_decide_eq_true (by first | (with_reducible assumption) | assumption)) (of_decide_eq_true (by first | (with_reducible assumption) | assumption)))); (try (have HP29 := Kd.R_putg HO_10.out (t145 : Int) (rd (rd_L1 l3 x34_2) x42_3))))); refine store_event (t := 2) (p := 79) (v := ?vo_w30) (w1 := (wr.setCell ⟨go27, (t145 : Int).toNat, none⟩ (.int .i64 (rd (rd_L1 l3 x34_2) x42_3)))) ?hg ?ho ?hn ?hr ?_; (case ho => rfl); (case hg => rfl); (case hn => rfl); (case hr => first | (go_simp; done) | (go_simp; rfl)); intro w30 hw; have hg : wr.grownBy w30 (some go27) := (by rw [hw]; exact HP29.2); have hp_ : Kd.R (Kd.int .i64) 2 w30 w.heap.size (fun _ => True) (.slice (some ⟨go27, 0, none⟩) x10_3.length co28) y152 := (by rw [hw, Ny152.out]; exact HP29.1); clear HP29; have n0_ := Aside0.mk (hp_); have n1_ := Aside0.mk (bg_ BK142.out hg (Kd.R_ne HO_10.out BK142.out (by decide))); have n2_ := Aside0.mk ((by rw [hw]; exact below_set (HB.out) GB27.out : Below w.heap.size w w30)); clear HO_10 BK142 HB; have HO_10 := n0_; have BK142 := n1_; have HB := n2_; clear n0_ n1_ n2_ hg hw hp_)); try go_wp2_with (first | (go_at_call 119; (refine (spec_l03Hood.calls k3 (⟨gb142, 0, none⟩) a0 a1 none 0 ([] : List Int) _ _ (rd_L1 l2 x34_2) x42_3 t145 _ ?side1 ?side2 ?side3 ?side4 ?side5 ?side6 ?side7 A19.out).mono ?_); (case side1 => exact be_ BK142.out 0); (case side2 => exact be_ BK142.out 1); (case side3 => exact be_ BK142.out 2); (case side4 => exact Kd.C_nil _ _); (case side5 => exact Nat.le_refl _); (case side6 => exact ck_ (Kd.C_below HR144_0.out HB.out)); (case side7 => exact HC144_0.out); rintro e w' ⟨rfl, ⟨nd, rfl⟩⟩; (try first | exact ⟨rfl, _, World.drewN_drewN _ _ _⟩ | exact ⟨rfl, _, Eq.trans (World.drewN_drewN _ _ _) (congrArg (World.drewN _) (Nat.add_assoc _ _ _))⟩); obtain ⟨Ao28, co28, eo28⟩ := Kd.R_slice HO_10.out; subst eo28; have p146 : 0 ≤ (t145 : Int) := of_decide_eq_true (by first | (with_reducible assumption) | assumption); have q146 : t145 < (x10_3.length : Int) := of_decide_eq_true (by first | (with_reducible assumption) | assumption); obtain ⟨ad146, e146, hx146_0⟩ := Kd.at_int (Kd.R_reads' HO_10.out).2.2 t145 p146 q146; cases e146; replace p146 := eq_true p146; replace q146 := eq_true q146; have p147 : 0 ≤ (t145 : Int) := of_decide_eq_true (by first | (with_reducible assumption) | assumption); have q147 : t145 < (x10_3.length : Int) := of_decide_eq_true (by first | (with_reducible assumption) | assumption); obtain ⟨ad147, e147, hx147_0⟩ := Kd.at_int (Kd.R_reads' HO_10.out).2.2 t145 p147 q147; obtain rfl : ad146 = ad147 := (by injection e147); replace p147 := eq_true p147; replace q147 := eq_true q147; have p148 : 0 ≤ (x34_2 : Int) := of_decide_eq_true (by first | (with_reducible assumption) | assumption); have q148 : x34_2 < (l3.length : Int) := of_decide_eq_true (by first | (with_reducible assumption) | assumption); obtain ⟨ad148, A148_0, c148_0, e148, hx148_0, hl148_0, hi148_0⟩ := at_L1 HR3.out x34_2 p148 q148; cases e148; replace hx148_0 := (HB.out.cell (World.block_lt_of_cell? w _ hx148_0)).trans hx148_0; have HR148_0 := Aside0.mk hi148_0; have HC148_0 := Aside0.mk hl148_0; clear hi148_0 hl148_0; replace p148 := eq_true p148; replace q148 := eq_true q148; have p149 : 0 ≤ (x42_3 : Int) := of_decide_eq_true (by first | (with_reducible assumption) | assumption); have q149 : x42_3 < ((rd_L1 l3 x34_2).length : Int) := of_decide_eq_true (by first | (with_reducible assumption) | assumption); obtain ⟨ad149, e149, hx149_0⟩ := Kd.at_int HR148_0.out x42_3 p149 q149; cases e149; replace hx149_0 := (HB.out.cell (World.block_lt_of_cell? w _ hx149_0)).trans hx149_0; replace p149 := eq_true p149; replace q149 := eq_true q149; have p150 : 0 ≤ (x34_2 : Int) := of_decide_eq_true (by first | (with_reducible assumption) | assumption); have q150 : x34_2 < (l3.length : Int) := of_decide_eq_true (by first | (with_reducible assumption) | assumption); obtain ⟨ad150, A150_0, c150_0, e150, hx150_0, hl150_0, hi150_0⟩ := at_L1 HR3.out x34_2 p150 q150; obtain rfl : ad148 = ad150 := (by injection e150); replace hx150_0 := (HB.out.cell (World.block_lt_of_cell? w _ hx150_0)).trans hx150_0; have HR150_0 := Aside0.mk hi150_0; have HC150_0 := Aside0.mk hl150_0; clear hi150_0 hl150_0; replace p150 := eq_true p150; replace q150 := eq_true q150; have ea_ := Option.some.inj (hx148_0.symm.trans hx150_0); injection ea_ with ea_ en_ ec_; subst ea_; subst ec_; clear en_; have p151 : 0 ≤ (x42_3 : Int) := of_decide_eq_true (by first | (with_reducible assumption) | assumption); have q151 : x42_3 < ((rd_L1 l3 x34_2).length : Int) := of_decide_eq_true (by first | (with_reducible assumption) | assumption); obtain ⟨ad151, e151, hx151_0⟩ := Kd.at_int HR150_0.out x42_3 p151 q151; cases e151; replace hx151_0 := (HB.out.cell (World.block_lt_of_cell? w _ hx151_0)).trans hx151_0; replace p151 := eq_true p151; replace q151 := eq_true q151; have p27 : 0 ≤ (t145 : Int) := of_decide_eq_true (by first | (with_reducible assumption) | assumption); have q27 : (t145 : Int) < ((x10_3.length : Int) : Int) := of_decide_eq_true (by first | (with_reducible assumption) | assumption); obtain ⟨go27, co27, eo27, gb27, gl27, cl27, HG27⟩ := Kd.R_form HO_10.out (by omega); (first | cases eo27 | (injection eo27 with ea_ en_ ec_; (first | subst ea_ | (injection ea_ with ea_; subst ea_)); subst ec_; clear en_)); have GB27 := Aside0.mk gb27; have GG27 := Aside0.mk HG27; clear gb27 gl27 HG27; (first | simp only [add_plain] at hx146_0 | skip); (first | simp only [add_plain] at hx147_0 | skip); obtain ⟨hx27_0, hf27_0⟩ := Kd.R_celln 0 HO_10.out (t145 : Int) p27 q27; replace p27 := eq_true p27; replace q27 := eq_true q27; obtain ⟨hy29_, hz29_⟩ := Kd.R_celln 0 HO_10.out (t145 : Int) (of_decide_eq_true (by first | (with_reducible assumption) | assumption)) (of_decide_eq_true (by first | (with_reducible assumption) | assumption)); have HP29 := Kd.R_putg HO_10.out (t145 : Int) (rd (rd_L1 l3 x34_2) x42_3)) | ((with_reducible refine gate_store (t := 2) (p := 79) rfl ?_); (try (rw [drewN_self wr]; generalize hq_ : World.drewN wr _ = wr; have n0_ := Aside0.mk (Kd.R_at hq_ HO_10.out); have n1_ := Aside0.mk (blk_at hq_ BK142.out); have n2_ := Aside0.mk (below_at hq_ HB.out); clear hq_ HO_10 BK142 HB; have HO_10 := n0_; have BK142 := n1_; have HB := n2_; clear n0_ n1_ n2_; (try (obtain ⟨hy29_, hz29_⟩ := Kd.R_celln 0 HO_10.out (t145 : Int) (of_decide_eq_true (by first | (with_reducible assumption) | assumption)) (of_decide_eq_true (by first | (with_reducible assumption) | assumption)))); (try (have HP29 := Kd.R_putg HO_10.out (t145 : Int) (rd (rd_L1 l3 x34_2) x42_3))))); refine store_event (t := 2) (p := 79) (v := ?vo_w30) (w1 := (wr.setCell ⟨go27, (t145 : Int).toNat, none⟩ (.int .i64 (rd (rd_L1 l3 x34_2) x42_3)))) ?hg ?ho ?hn ?hr ?_; (case ho => rfl); (case hg => rfl); (case hn => rfl); (case hr => first | (go_simp; done) | (go_simp; rfl)); intro w30 hw; have hg : wr.grownBy w30 (some go27) := (by rw [hw]; exact HP29.2); have hp_ : Kd.R (Kd.int .i64) 2 w30 w.heap.size (fun _ => True) (.slice (some ⟨go27, 0, none⟩) x10_3.length co28) y152 := (by rw [hw, Ny152.out]; exact HP29.1); clear HP29; have n0_ := Aside0.mk (hp_); have n1_ := Aside0.mk (bg_ BK142.out hg (Kd.R_ne HO_10.out BK142.out (by decide))); have n2_ := Aside0.mk ((by rw [hw]; exact below_set (HB.out) GB27.out : Below w.heap.size w w30)); clear HO_10 BK142 HB; have HO_10 := n0_; have BK142 := n1_; have HB := n2_; clear n0_ n1_ n2_ hg hw hp_)))
                                   go_roundg k3; case measure => have := HK1.out; have := HK2.out; have := HK3.out; omega
                                   case rel => exact ⟨(y152), (wrap64 (x42_3 + 1)), (by first | rfl | (simp; done) | (simp [i64_w, i32_w]; done) | (simp [*]; done) | (simp [*, i64_w, i32_w]; done)), H', ⟨by have := HK1.out; have := HK2.out; have := HK3.out; omega⟩, ⟨rk_ HO_10.out⟩, ⟨pk_ BK142.out⟩, ⟨bk_ HB.out⟩⟩
                                 · rw [if_neg c26] at H; have c26b0 : ((rd x10_3 t145) == (rd (rd_L1 l3 x34_2) x42_3)) = false := beq_eq_false_iff_ne.mpr c26; have c26b1 : ((rd x10_3 t145) != (rd (rd_L1 l3 x34_2) x42_3)) = true := bne_iff_ne.mpr c26; simp only [Option.some.injEq, Prod.mk.injEq] at H; obtain ⟨rfl, rfl⟩ := H; have p144 : 0 ≤ (x34_2 : Int) := of_decide_eq_true (by first | (with_reducible assumption) | assumption); have q144 : x34_2 < (l2.length : Int) := of_decide_eq_true (by first | (with_reducible assumption) | assumption); obtain ⟨ad144, A144_0, c144_0, e144, hx144_0, hl144_0, hi144_0⟩ := at_L1 HR2.out x34_2 p144 q144; obtain rfl : ad143 = ad144 := (by injection e144); replace hx144_0 := (HB.out.cell (World.block_lt_of_cell? w _ hx144_0)).trans hx144_0; have HR144_0 := Aside0.mk hi144_0; have HC144_0 := Aside0.mk hl144_0; clear hi144_0 hl144_0; replace p144 := eq_true p144; replace q144 := eq_true q144; go_wp2_with (first | (go_at_call 119; (refine (spec_l03Hood.calls k3 (⟨gb142, 0, none⟩) a0 a1 none 0 ([] : List Int) _ _ (rd_L1 l2 x34_2) x42_3 t145 _ ?side1 ?side2 ?side3 ?side4 ?side5 ?side6 ?side7 A19.out).mono ?_); (case side1 => exact be_ BK142.out 0); (case side2 => exact be_ BK142.out 1); (case side3 => exact be_ BK142.out 2); (case side4 => exact Kd.C_nil _ _); (case side5 => exact Nat.le_refl _); (case side6 => exact ck_ (Kd.C_below HR144_0.out HB.out)); (case side7 => exact HC144_0.out); rintro e w' ⟨rfl, ⟨nd, rfl⟩⟩; (try first | exact ⟨rfl, _, World.drewN_drewN _ _ _⟩ | exact ⟨rfl, _, Eq.trans (World.drewN_drewN _ _ _) (congrArg (World.drewN _) (Nat.add_assoc _ _ _))⟩); obtain ⟨Ao31, co31, eo31⟩ := Kd.R_slice HO_10.out; subst eo31; have p146 : 0 ≤ (t145 : Int) := of_decide_eq_true (by first | (with_reducible assumption) | assumption); have q146 : t145 < (x10_3.length : Int) := of_decide_eq_true (by first | (with_reducible assumption) | assumption); obtain ⟨ad146, e146, hx146_0⟩ := Kd.at_int (Kd.R_reads' HO_10.out).2.2 t145 p146 q146; cases e146; replace p146 := eq_true p146; replace q146 := eq_true q146; have p147 : 0 ≤ (t145 : Int) := of_decide_eq_true (by first | (with_reducible assumption) | assumption); have q147 : t145 < (x10_3.length : Int) := of_decide_eq_true (by first | (with_reducible assumption) | assumption); obtain ⟨ad147, e147, hx147_0⟩ := Kd.at_int (Kd.R_reads' HO_10.out).2.2 t145 p147 q147; obtain rfl : ad146 = ad147 := (by injection e147); replace p147 := eq_true p147; replace q147 := eq_true q147; have p148 : 0 ≤ (x34_2 : Int) := of_decide_eq_true (by first | (with_reducible assumption) | assumption); have q148 : x34_2 < (l3.length : Int) := of_decide_eq_true (by first | (with_reducible assumption) | assumption); obtain ⟨ad148, A148_0, c148_0, e148, hx148_0, hl148_0, hi148_0⟩ := at_L1 HR3.out x34_2 p148 q148; cases e148; replace hx148_0 := (HB.out.cell (World.block_lt_of_cell? w _ hx148_0)).trans hx148_0; have HR148_0 := Aside0.mk hi148_0; have HC148_0 := Aside0.mk hl148_0; clear hi148_0 hl148_0; replace p148 := eq_true p148; replace q148 := eq_true q148; have p149 : 0 ≤ (x42_3 : Int) := of_decide_eq_true (by first | (with_reducible assumption) | assumption); have q149 : x42_3 < ((rd_L1 l3 x34_2).length : Int) := of_decide_eq_true (by first | (with_reducible assumption) | assumption); obtain ⟨ad149, e149, hx149_0⟩ := Kd.at_int HR148_0.out x42_3 p149 q149; cases e149; replace hx149_0 := (HB.out.cell (World.block_lt_of_cell? w _ hx149_0)).trans hx149_0; replace p149 := eq_true p149; replace q149 := eq_true q149))
                                   repeat (go_quiet (first | (go_at_call 119; (refine (spec_l03Hood.calls k3 (⟨gb142, 0, none⟩) a0 a1 none 0 ([] : List Int) _ _ (rd_L1 l2 x34_2) x42_3 t145 _ ?side1 ?side2 ?side3 ?side4 ?side5 ?side6 ?side7 A19.out).mono ?_); (case side1 => exact be_ BK142.out 0); (case side2 => exact be_ BK142.out 1); (case side3 => exact be_ BK142.out 2); (case side4 => exact Kd.C_nil _ _); (case side5 => exact Nat.le_refl _); (case side6 => exact ck_ (Kd.C_below HR144_0.out HB.out)); (case side7 => exact HC144_0.out); rintro e w' ⟨rfl, ⟨nd, rfl⟩⟩; (try first | exact ⟨rfl, _, World.drewN_drewN _ _ _⟩ | exact ⟨rfl, _, Eq.trans (World.drewN_drewN _ _ _) (congrArg (World.drewN _) (Nat.add_assoc _ _ _))⟩); obtain ⟨Ao31, co31, eo31⟩ := Kd.R_slice HO_10.out; subst eo31; have p146 : 0 ≤ (t145 : Int) := of_decide_eq_true (by first | (with_reducible assumption) | assumption); have q146 : t145 < (x10_3.length : Int) := of_decide_eq_true (by first | (with_reducible assumption) | assumption); obtain ⟨ad146, e146, hx146_0⟩ := Kd.at_int (Kd.R_reads' HO_10.out).2.2 t145 p146 q146; cases e146; replace p146 := eq_true p146; replace q146 := eq_true q146; have p147 : 0 ≤ (t145 : Int) := of_decide_eq_true (by first | (with_reducible assumption) | assumption); have q147 : t145 < (x10_3.length : Int) := of_decide_eq_true (by first | (with_reducible assumption) | assumption); obtain ⟨ad147, e147, hx147_0⟩ := Kd.at_int (Kd.R_reads' HO_10.out).2.2 t145 p147 q147; obtain rfl : ad146 = ad147 := (by injection e147); replace p147 := eq_true p147; replace q147 := eq_true q147; have p148 : 0 ≤ (x34_2 : Int) := of_decide_eq_true (by first | (with_reducible assumption) | assumption); have q148 : x34_2 < (l3.length : Int) := of_decide_eq_true (by first | (with_reducible assumption) | assumption); obtain ⟨ad148, A148_0, c148_0, e148, hx148_0, hl148_0, hi148_0⟩ := at_L1 HR3.out x34_2 p148 q148; cases e148; replace hx148_0 := (HB.out.cell (World.block_lt_of_cell? w _ hx148_0)).trans hx148_0; have HR148_0 := Aside0.mk hi148_0; have HC148_0 := Aside0.mk hl148_0; clear hi148_0 hl148_0; replace p148 := eq_true p148; replace q148 := eq_true q148; have p149 : 0 ≤ (x42_3 : Int) := of_decide_eq_true (by first | (with_reducible assumption) | assumption); have q149 : x42_3 < ((rd_L1 l3 x34_2).length : Int) := of_decide_eq_true (by first | (with_reducible assumption) | assumption); obtain ⟨ad149, e149, hx149_0⟩ := Kd.at_int HR148_0.out x42_3 p149 q149; cases e149; replace hx149_0 := (HB.out.cell (World.block_lt_of_cell? w _ hx149_0)).trans hx149_0; replace p149 := eq_true p149; replace q149 := eq_true q149)); try go_wp2_with (first | (go_at_call 119; (refine (spec_l03Hood.calls k3 (⟨gb142, 0, none⟩) a0 a1 none 0 ([] : List Int) _ _ (rd_L1 l2 x34_2) x42_3 t145 _ ?side1 ?side2 ?side3 ?side4 ?side5 ?side6 ?side7 A19.out).mono ?_); (case side1 => exact be_ BK142.out 0); (case side2 => exact be_ BK142.out 1); (case side3 => exact be_ BK142.out 2); (case side4 => exact Kd.C_nil _ _); (case side5 => exact Nat.le_refl _); (case side6 => exact ck_ (Kd.C_below HR144_0.out HB.out)); (case side7 => exact HC144_0.out); rintro e w' ⟨rfl, ⟨nd, rfl⟩⟩; (try first | exact ⟨rfl, _, World.drewN_drewN _ _ _⟩ | exact ⟨rfl, _, Eq.trans (World.drewN_drewN _ _ _) (congrArg (World.drewN _) (Nat.add_assoc _ _ _))⟩); obtain ⟨Ao31, co31, eo31⟩ := Kd.R_slice HO_10.out; subst eo31; have p146 : 0 ≤ (t145 : Int) := of_decide_eq_true (by first | (with_reducible assumption) | assumption); have q146 : t145 < (x10_3.length : Int) := of_decide_eq_true (by first | (with_reducible assumption) | assumption); obtain ⟨ad146, e146, hx146_0⟩ := Kd.at_int (Kd.R_reads' HO_10.out).2.2 t145 p146 q146; cases e146; replace p146 := eq_true p146; replace q146 := eq_true q146; have p147 : 0 ≤ (t145 : Int) := of_decide_eq_true (by first | (with_reducible assumption) | assumption); have q147 : t145 < (x10_3.length : Int) := of_decide_eq_true (by first | (with_reducible assumption) | assumption); obtain ⟨ad147, e147, hx147_0⟩ := Kd.at_int (Kd.R_reads' HO_10.out).2.2 t145 p147 q147; obtain rfl : ad146 = ad147 := (by injection e147); replace p147 := eq_true p147; replace q147 := eq_true q147; have p148 : 0 ≤ (x34_2 : Int) := of_decide_eq_true (by first | (with_reducible assumption) | assumption); have q148 : x34_2 < (l3.length : Int) := of_decide_eq_true (by first | (with_reducible assumption) | assumption); obtain ⟨ad148, A148_0, c148_0, e148, hx148_0, hl148_0, hi148_0⟩ := at_L1 HR3.out x34_2 p148 q148; cases e148; replace hx148_0 := (HB.out.cell (World.block_lt_of_cell? w _ hx148_0)).trans hx148_0; have HR148_0 := Aside0.mk hi148_0; have HC148_0 := Aside0.mk hl148_0; clear hi148_0 hl148_0; replace p148 := eq_true p148; replace q148 := eq_true q148; have p149 : 0 ≤ (x42_3 : Int) := of_decide_eq_true (by first | (with_reducible assumption) | assumption); have q149 : x42_3 < ((rd_L1 l3 x34_2).length : Int) := of_decide_eq_true (by first | (with_reducible assumption) | assumption); obtain ⟨ad149, e149, hx149_0⟩ := Kd.at_int HR148_0.out x42_3 p149 q149; cases e149; replace hx149_0 := (HB.out.cell (World.block_lt_of_cell? w _ hx149_0)).trans hx149_0; replace p149 := eq_true p149; replace q149 := eq_true q149)))
                                   go_ret2; exact ⟨_, by first | rfl | (simp [errW_none, errW_some] <;> rfl) | (simp [*, errW_none, errW_some] <;> rfl), by first | exact Kd.R_nil _ _ _ _ _ | exact Kd.N_nil _ _ _ _ _ | exact Kd.V_nil _ _ _ _ _ | exact Kd.Q_nil _ _ _ _ _ | exact Kd.S_nil _ _ _ _ _, bk_ HB.out⟩
                               · rw [if_neg c25] at H; exact absurd H (by simp)
                             · rw [if_neg c24] at H; exact absurd H (by simp)
                           · rw [if_neg c23] at H; exact absurd H (by simp)
                         · rw [if_neg c22] at H; have c22b0 : decide (0 ≤ (rd x10_3 t145)) = false := decide_eq_false c22; clear c22; by_cases c32 : x34_2 < (l3.length : Int)
                           · rw [if_pos c32] at H; have c32b0 : decide (x34_2 < (l3.length : Int)) = true := decide_eq_true c32; clear c32; by_cases c33 : 0 ≤ x42_3
                             · rw [if_pos c33] at H; have c33b0 : decide (0 ≤ x42_3) = true := decide_eq_true c33; clear c33; by_cases c34 : x42_3 < ((rd_L1 l3 x34_2).length : Int)
                               · rw [if_pos c34] at H; have c34b0 : decide (x42_3 < ((rd_L1 l3 x34_2).length : Int)) = true := decide_eq_true c34; clear c34; obtain ⟨y155, hy155⟩ : ∃ y_ : List Int, y_ = (x10_3.set (t145 : Int).toNat (rd (rd_L1 l3 x34_2) x42_3)) := ⟨_, rfl⟩; replace H : (spec_l07Learn.l2 k3 l2 l3 y155 x34_2 (l2.length : Int) x34_2 ((rd_L1 l2 x34_2).length : Int) (wrap64 (x42_3 + 1)) a0 a1) = some (r1, r2) := by first | (rw [hy155]; with_reducible exact H) | (have H2_ := (Option.bind_some _ _).symm.trans H; rw [hy155]; with_reducible exact H2_) | (have H2_ := (Option.bind_some _ _).symm.trans H; with_reducible exact H2_) | with_reducible exact H | (rw [hy155]; exact H) | exact H
                                 have Ny155 := Aside0.mk hy155; clear hy155; have H' := Aside0.mk H; clear H; have p144 : 0 ≤ (x34_2 : Int) := of_decide_eq_true (by first | (with_reducible assumption) | assumption); have q144 : x34_2 < (l2.length : Int) := of_decide_eq_true (by first | (with_reducible assumption) | assumption); obtain ⟨ad144, A144_0, c144_0, e144, hx144_0, hl144_0, hi144_0⟩ := at_L1 HR2.out x34_2 p144 q144; obtain rfl : ad143 = ad144 := (by injection e144); replace hx144_0 := (HB.out.cell (World.block_lt_of_cell? w _ hx144_0)).trans hx144_0; have HR144_0 := Aside0.mk hi144_0; have HC144_0 := Aside0.mk hl144_0; clear hi144_0 hl144_0; replace p144 := eq_true p144; replace q144 := eq_true q144; go_wp2_with (first | (go_at_call 119; (refine (spec_l03Hood.calls k3 (⟨gb142, 0, none⟩) a0 a1 none 0 ([] : List Int) _ _ (rd_L1 l2 x34_2) x42_3 t145 _ ?side1 ?side2 ?side3 ?side4 ?side5 ?side6 ?side7 A19.out).mono ?_); (case side1 => exact be_ BK142.out 0); (case side2 => exact be_ BK142.out 1); (case side3 => exact be_ BK142.out 2); (case side4 => exact Kd.C_nil _ _); (case side5 => exact Nat.le_refl _); (case side6 => exact ck_ (Kd.C_below HR144_0.out HB.out)); (case side7 => exact HC144_0.out); rintro e w' ⟨rfl, ⟨nd, rfl⟩⟩; (try first | exact ⟨rfl, _, World.drewN_drewN _ _ _⟩ | exact ⟨rfl, _, Eq.trans (World.drewN_drewN _ _ _) (congrArg (World.drewN _) (Nat.add_assoc _ _ _))⟩); obtain ⟨Ao36, co36, eo36⟩ := Kd.R_slice HO_10.out; subst eo36; have p146 : 0 ≤ (t145 : Int) := of_decide_eq_true (by first | (with_reducible assumption) | assumption); have q146 : t145 < (x10_3.length : Int) := of_decide_eq_true (by first | (with_reducible assumption) | assumption); obtain ⟨ad146, e146, hx146_0⟩ := Kd.at_int (Kd.R_reads' HO_10.out).2.2 t145 p146 q146; cases e146; replace p146 := eq_true p146; replace q146 := eq_true q146; have p153 : 0 ≤ (x34_2 : Int) := of_decide_eq_true (by first | (with_reducible assumption) | assumption); have q153 : x34_2 < (l3.length : Int) := of_decide_eq_true (by first | (with_reducible assumption) | assumption); obtain ⟨ad153, A153_0, c153_0, e153, hx153_0, hl153_0, hi153_0⟩ := at_L1 HR3.out x34_2 p153 q153; cases e153; replace hx153_0 := (HB.out.cell (World.block_lt_of_cell? w _ hx153_0)).trans hx153_0; have HR153_0 := Aside0.mk hi153_0; have HC153_0 := Aside0.mk hl153_0; clear hi153_0 hl153_0; replace p153 := eq_true p153; replace q153 := eq_true q153; have p154 : 0 ≤ (x42_3 : Int) := of_decide_eq_true (by first | (with_reducible assumption) | assumption); have q154 : x42_3 < ((rd_L1 l3 x34_2).length : Int) := of_decide_eq_true (by first | (with_reducible assumption) | assumption); obtain ⟨ad154, e154, hx154_0⟩ := Kd.at_int HR153_0.out x42_3 p154 q154; cases e154; replace hx154_0 := (HB.out.cell (World.block_lt_of_cell? w _ hx154_0)).trans hx154_0; replace p154 := eq_true p154; replace q154 := eq_true q154; have p35 : 0 ≤ (t145 : Int) := of_decide_eq_true (by first | (with_reducible assumption) | assumption); have q35 : (t145 : Int) < ((x10_3.length : Int) : Int) := of_decide_eq_true (by first | (with_reducible assumption) | assumption); obtain ⟨go35, co35, eo35, gb35, gl35, cl35, HG35⟩ := Kd.R_form HO_10.out (by omega); (first | cases eo35 | (injection eo35 with ea_ en_ ec_; (first | subst ea_ | (injection ea_ with ea_; subst ea_)); subst ec_; clear en_)); have GB35 := Aside0.mk gb35; have GG35 := Aside0.mk HG35; clear gb35 gl35 HG35; (first | simp only [add_plain] at hx146_0 | skip); (first | simp only [add_plain] at hx147_0 | skip); obtain ⟨hx35_0, hf35_0⟩ := Kd.R_celln 0 HO_10.out (t145 : Int) p35 q35; replace p35 := eq_true p35; replace q35 := eq_true q35; obtain ⟨hy37_, hz37_⟩ := Kd.R_celln 0 HO_10.out (t145 : Int) (of_decide_eq_true (by first | (with_reducible assumption) | assumption)) (of_decide_eq_true (by first | (with_reducible assumption) | assumption)); have HP37 := Kd.R_putg HO_10.out (t145 : Int) (rd (rd_L1 l3 x34_2) x42_3)) | ((with_reducible refine gate_store (t := 2) (p := 79) rfl ?_); (try (rw [drewN_self wr]; generalize hq_ : World.drewN wr _ = wr; have n0_ := Aside0.mk (Kd.R_at hq_ HO_10.out); have n1_ := Aside0.mk (blk_at hq_ BK142.out); have n2_ := Aside0.mk (below_at hq_ HB.out); clear hq_ HO_10 BK142 HB; have HO_10 := n0_; have BK142 := n1_; have HB := n2_; clear n0_ n1_ n2_; (try (obtain ⟨hy37_, hz37_⟩ := Kd.R_celln 0 HO_10.out (t145 : Int) (of_decide_eq_true (by first | (with_reducible assumption) | assumption)) (of_decide_eq_true (by first | (with_reducible assumption) | assumption)))); (try (have HP37 := Kd.R_putg HO_10.out (t145 : Int) (rd (rd_L1 l3 x34_2) x42_3))))); refine store_event (t := 2) (p := 79) (v := ?vo_w38) (w1 := (wr.setCell ⟨go35, (t145 : Int).toNat, none⟩ (.int .i64 (rd (rd_L1 l3 x34_2) x42_3)))) ?hg ?ho ?hn ?hr ?_; (case ho => rfl); (case hg => rfl); (case hn => rfl); (case hr => first | (go_simp; done) | (go_simp; rfl)); intro w38 hw; have hg : wr.grownBy w38 (some go35) := (by rw [hw]; exact HP37.2); have hp_ : Kd.R (Kd.int .i64) 2 w38 w.heap.size (fun _ => True) (.slice (some ⟨go35, 0, none⟩) x10_3.length co36) y155 := (by rw [hw, Ny155.out]; exact HP37.1); clear HP37; have n0_ := Aside0.mk (hp_); have n1_ := Aside0.mk (bg_ BK142.out hg (Kd.R_ne HO_10.out BK142.out (by decide))); have n2_ := Aside0.mk ((by rw [hw]; exact below_set (HB.out) GB35.out : Below w.heap.size w w38)); clear HO_10 BK142 HB; have HO_10 := n0_; have BK142 := n1_; have HB := n2_; clear n0_ n1_ n2_ hg hw hp_))
                                 repeat (go_quiet (first | (go_at_call 119; (refine (spec_l03Hood.calls k3 (⟨gb142, 0, none⟩) a0 a1 none 0 ([] : List Int) _ _ (rd_L1 l2 x34_2) x42_3 t145 _ ?side1 ?side2 ?side3 ?side4 ?side5 ?side6 ?side7 A19.out).mono ?_); (case side1 => exact be_ BK142.out 0); (case side2 => exact be_ BK142.out 1); (case side3 => exact be_ BK142.out 2); (case side4 => exact Kd.C_nil _ _); (case side5 => exact Nat.le_refl _); (case side6 => exact ck_ (Kd.C_below HR144_0.out HB.out)); (case side7 => exact HC144_0.out); rintro e w' ⟨rfl, ⟨nd, rfl⟩⟩; (try first | exact ⟨rfl, _, World.drewN_drewN _ _ _⟩ | exact ⟨rfl, _, Eq.trans (World.drewN_drewN _ _ _) (congrArg (World.drewN _) (Nat.add_assoc _ _ _))⟩); obtain ⟨Ao36, co36, eo36⟩ := Kd.R_slice HO_10.out; subst eo36; have p146 : 0 ≤ (t145 : Int) := of_decide_eq_true (by first | (with_reducible assumption) | assumption); have q146 : t145 < (x10_3.length : Int) := of_decide_eq_true (by first | (with_reducible assumption) | assumption); obtain ⟨ad146, e146, hx146_0⟩ := Kd.at_int (Kd.R_reads' HO_10.out).2.2 t145 p146 q146; cases e146; replace p146 := eq_true p146; replace q146 := eq_true q146; have p153 : 0 ≤ (x34_2 : Int) := of_decide_eq_true (by first | (with_reducible assumption) | assumption); have q153 : x34_2 < (l3.length : Int) := of_decide_eq_true (by first | (with_reducible assumption) | assumption); obtain ⟨ad153, A153_0, c153_0, e153, hx153_0, hl153_0, hi153_0⟩ := at_L1 HR3.out x34_2 p153 q153; cases e153; replace hx153_0 := (HB.out.cell (World.block_lt_of_cell? w _ hx153_0)).trans hx153_0; have HR153_0 := Aside0.mk hi153_0; have HC153_0 := Aside0.mk hl153_0; clear hi153_0 hl153_0; replace p153 := eq_true p153; replace q153 := eq_true q153; have p154 : 0 ≤ (x42_3 : Int) := of_decide_eq_true (by first | (with_reducible assumption) | assumption); have q154 : x42_3 < ((rd_L1 l3 x34_2).length : Int) := of_decide_eq_true (by first | (with_reducible assumption) | assumption); obtain ⟨ad154, e154, hx154_0⟩ := Kd.at_int HR153_0.out x42_3 p154 q154; cases e154; replace hx154_0 := (HB.out.cell (World.block_lt_of_cell? w _ hx154_0)).trans hx154_0; replace p154 := eq_true p154; replace q154 := eq_true q154; have p35 : 0 ≤ (t145 : Int) := of_decide_eq_true (by first | (with_reducible assumption) | assumption); have q35 : (t145 : Int) < ((x10_3.length : Int) : Int) := of_decide_eq_true (by first | (with_reducible assumption) | assumption); obtain ⟨go35, co35, eo35, gb35, gl35, cl35, HG35⟩ := Kd.R_form HO_10.out (by omega); (first | cases eo35 | (injection eo35 with ea_ en_ ec_; (first | subst ea_ | (injection ea_ with ea_; subst ea_)); subst ec_; clear en_)); have GB35 := Aside0.mk gb35; have GG35 := Aside0.mk HG35; clear gb35 gl35 HG35; (first | simp only [add_plain] at hx146_0 | skip); (first | simp only [add_plain] at hx147_0 | skip); obtain ⟨hx35_0, hf35_0⟩ := Kd.R_celln 0 HO_10.out (t145 : Int) p35 q35; replace p35 := eq_true p35; replace q35 := eq_true q35; obtain ⟨hy37_, hz37_⟩ := Kd.R_celln 0 HO_10.out (t145 : Int) (of_decide_eq_true (by first | (with_reducible assumption) | assumption)) (of_decide_eq_true (by first | (with_reducible assumption) | assumption)); have HP37 := Kd.R_putg HO_10.out (t145 : Int) (rd (rd_L1 l3 x34_2) x42_3)) | ((with_reducible refine gate_store (t := 2) (p := 79) rfl ?_); (try (rw [drewN_self wr]; generalize hq_ : World.drewN wr _ = wr; have n0_ := Aside0.mk (Kd.R_at hq_ HO_10.out); have n1_ := Aside0.mk (blk_at hq_ BK142.out); have n2_ := Aside0.mk (below_at hq_ HB.out); clear hq_ HO_10 BK142 HB; have HO_10 := n0_; have BK142 := n1_; have HB := n2_; clear n0_ n1_ n2_; (try (obtain ⟨hy37_, hz37_⟩ := Kd.R_celln 0 HO_10.out (t145 : Int) (of_decide_eq_true (by first | (with_reducible assumption) | assumption)) (of_decide_eq_true (by first | (with_reducible assumption) | assumption)))); (try (have HP37 := Kd.R_putg HO_10.out (t145 : Int) (rd (rd_L1 l3 x34_2) x42_3))))); refine store_event (t := 2) (p := 79) (v := ?vo_w38) (w1 := (wr.setCell ⟨go35, (t145 : Int).toNat, none⟩ (.int .i64 (rd (rd_L1 l3 x34_2) x42_3)))) ?hg ?ho ?hn ?hr ?_; (case ho => rfl); (case hg => rfl); (case hn => rfl); (case hr => first | (go_simp; done) | (go_simp; rfl)); intro w38 hw; have hg : wr.grownBy w38 (some go35) := (by rw [hw]; exact HP37.2); have hp_ : Kd.R (Kd.int .i64) 2 w38 w.heap.size (fun _ => True) (.slice (some ⟨go35, 0, none⟩) x10_3.length co36) y155 := (by rw [hw, Ny155.out]; exact HP37.1); clear HP37; have n0_ := Aside0.mk (hp_); have n1_ := Aside0.mk (bg_ BK142.out hg (Kd.R_ne HO_10.out BK142.out (by decide))); have n2_ := Aside0.mk ((by rw [hw]; exact below_set (HB.out) GB35.out : Below w.heap.size w w38)); clear HO_10 BK142 HB; have HO_10 := n0_; have BK142 := n1_; have HB := n2_; clear n0_ n1_ n2_ hg hw hp_)); try go_wp2_with (first | (go_at_call 119; (refine (spec_l03Hood.calls k3 (⟨gb142, 0, none⟩) a0 a1 none 0 ([] : List Int) _ _ (rd_L1 l2 x34_2) x42_3 t145 _ ?side1 ?side2 ?side3 ?side4 ?side5 ?side6 ?side7 A19.out).mono ?_); (case side1 => exact be_ BK142.out 0); (case side2 => exact be_ BK142.out 1); (case side3 => exact be_ BK142.out 2); (case side4 => exact Kd.C_nil _ _); (case side5 => exact Nat.le_refl _); (case side6 => exact ck_ (Kd.C_below HR144_0.out HB.out)); (case side7 => exact HC144_0.out); rintro e w' ⟨rfl, ⟨nd, rfl⟩⟩; (try first | exact ⟨rfl, _, World.drewN_drewN _ _ _⟩ | exact ⟨rfl, _, Eq.trans (World.drewN_drewN _ _ _) (congrArg (World.drewN _) (Nat.add_assoc _ _ _))⟩); obtain ⟨Ao36, co36, eo36⟩ := Kd.R_slice HO_10.out; subst eo36; have p146 : 0 ≤ (t145 : Int) := of_decide_eq_true (by first | (with_reducible assumption) | assumption); have q146 : t145 < (x10_3.length : Int) := of_decide_eq_true (by first | (with_reducible assumption) | assumption); obtain ⟨ad146, e146, hx146_0⟩ := Kd.at_int (Kd.R_reads' HO_10.out).2.2 t145 p146 q146; cases e146; replace p146 := eq_true p146; replace q146 := eq_true q146; have p153 : 0 ≤ (x34_2 : Int) := of_decide_eq_true (by first | (with_reducible assumption) | assumption); have q153 : x34_2 < (l3.length : Int) := of_decide_eq_true (by first | (with_reducible assumption) | assumption); obtain ⟨ad153, A153_0, c153_0, e153, hx153_0, hl153_0, hi153_0⟩ := at_L1 HR3.out x34_2 p153 q153; cases e153; replace hx153_0 := (HB.out.cell (World.block_lt_of_cell? w _ hx153_0)).trans hx153_0; have HR153_0 := Aside0.mk hi153_0; have HC153_0 := Aside0.mk hl153_0; clear hi153_0 hl153_0; replace p153 := eq_true p153; replace q153 := eq_true q153; have p154 : 0 ≤ (x42_3 : Int) := of_decide_eq_true (by first | (with_reducible assumption) | assumption); have q154 : x42_3 < ((rd_L1 l3 x34_2).length : Int) := of_decide_eq_true (by first | (with_reducible assumption) | assumption); obtain ⟨ad154, e154, hx154_0⟩ := Kd.at_int HR153_0.out x42_3 p154 q154; cases e154; replace hx154_0 := (HB.out.cell (World.block_lt_of_cell? w _ hx154_0)).trans hx154_0; replace p154 := eq_true p154; replace q154 := eq_true q154; have p35 : 0 ≤ (t145 : Int) := of_decide_eq_true (by first | (with_reducible assumption) | assumption); have q35 : (t145 : Int) < ((x10_3.length : Int) : Int) := of_decide_eq_true (by first | (with_reducible assumption) | assumption); obtain ⟨go35, co35, eo35, gb35, gl35, cl35, HG35⟩ := Kd.R_form HO_10.out (by omega); (first | cases eo35 | (injection eo35 with ea_ en_ ec_; (first | subst ea_ | (injection ea_ with ea_; subst ea_)); subst ec_; clear en_)); have GB35 := Aside0.mk gb35; have GG35 := Aside0.mk HG35; clear gb35 gl35 HG35; (first | simp only [add_plain] at hx146_0 | skip); (first | simp only [add_plain] at hx147_0 | skip); obtain ⟨hx35_0, hf35_0⟩ := Kd.R_celln 0 HO_10.out (t145 : Int) p35 q35; replace p35 := eq_true p35; replace q35 := eq_true q35; obtain ⟨hy37_, hz37_⟩ := Kd.R_celln 0 HO_10.out (t145 : Int) (of_decide_eq_true (by first | (with_reducible assumption) | assumption)) (of_decide_eq_true (by first | (with_reducible assumption) | assumption)); have HP37 := Kd.R_putg HO_10.out (t145 : Int) (rd (rd_L1 l3 x34_2) x42_3)) | ((with_reducible refine gate_store (t := 2) (p := 79) rfl ?_); (try (rw [drewN_self wr]; generalize hq_ : World.drewN wr _ = wr; have n0_ := Aside0.mk (Kd.R_at hq_ HO_10.out); have n1_ := Aside0.mk (blk_at hq_ BK142.out); have n2_ := Aside0.mk (below_at hq_ HB.out); clear hq_ HO_10 BK142 HB; have HO_10 := n0_; have BK142 := n1_; have HB := n2_; clear n0_ n1_ n2_; (try (obtain ⟨hy37_, hz37_⟩ := Kd.R_celln 0 HO_10.out (t145 : Int) (of_decide_eq_true (by first | (with_reducible assumption) | assumption)) (of_decide_eq_true (by first | (with_reducible assumption) | assumption)))); (try (have HP37 := Kd.R_putg HO_10.out (t145 : Int) (rd (rd_L1 l3 x34_2) x42_3))))); refine store_event (t := 2) (p := 79) (v := ?vo_w38) (w1 := (wr.setCell ⟨go35, (t145 : Int).toNat, none⟩ (.int .i64 (rd (rd_L1 l3 x34_2) x42_3)))) ?hg ?ho ?hn ?hr ?_; (case ho => rfl); (case hg => rfl); (case hn => rfl); (case hr => first | (go_simp; done) | (go_simp; rfl)); intro w38 hw; have hg : wr.grownBy w38 (some go35) := (by rw [hw]; exact HP37.2); have hp_ : Kd.R (Kd.int .i64) 2 w38 w.heap.size (fun _ => True) (.slice (some ⟨go35, 0, none⟩) x10_3.length co36) y155 := (by rw [hw, Ny155.out]; exact HP37.1); clear HP37; have n0_ := Aside0.mk (hp_); have n1_ := Aside0.mk (bg_ BK142.out hg (Kd.R_ne HO_10.out BK142.out (by decide))); have n2_ := Aside0.mk ((by rw [hw]; exact below_set (HB.out) GB35.out : Below w.heap.size w w38)); clear HO_10 BK142 HB; have HO_10 := n0_; have BK142 := n1_; have HB := n2_; clear n0_ n1_ n2_ hg hw hp_)))
                                 go_roundg k3; case measure => have := HK1.out; have := HK2.out; have := HK3.out; omega
                                 case rel => exact ⟨(y155), (wrap64 (x42_3 + 1)), (by first | rfl | (simp; done) | (simp [i64_w, i32_w]; done) | (simp [*]; done) | (simp [*, i64_w, i32_w]; done)), H', ⟨by have := HK1.out; have := HK2.out; have := HK3.out; omega⟩, ⟨rk_ HO_10.out⟩, ⟨pk_ BK142.out⟩, ⟨bk_ HB.out⟩⟩
                               · rw [if_neg c34] at H; exact absurd H (by simp)
                             · rw [if_neg c33] at H; exact absurd H (by simp)
                           · rw [if_neg c32] at H; exact absurd H (by simp)
                       · rw [if_neg c21] at H; exact absurd H (by simp)
                     · rw [if_neg c20] at H; exact absurd H (by simp)
                   · rw [if_neg c18] at H; exact absurd H (by simp)
                 · rw [if_neg c17] at H; exact absurd H (by simp)
               · rw [if_neg c16] at H; have c16b0 : decide (x42_3 < ((rd_L1 l2 x34_2).length : Int)) = false := decide_eq_false c16; clear c16; have H' := Aside0.mk H; clear H; go_wp2; repeat (go_quiet (fail); try go_wp2)
                 go_roundg k3; case measure => have := HK1.out; have := HK2.out; have := HK3.out; omega
                 case rel => exact ⟨(x10_3), (wrap64 (x34_2 + 1)), (by first | rfl | (simp; done) | (simp [i64_w, i32_w]; done) | (simp [*]; done) | (simp [*, i64_w, i32_w]; done)), H', ⟨by have := HK1.out; have := HK2.out; have := HK3.out; omega⟩, ⟨rk_ HO_10.out⟩, ⟨pk_ BK142.out⟩, ⟨bk_ HB.out⟩⟩
           · rw [if_neg c15] at H; exact absurd H (by simp)
         · rw [if_neg c14] at H; exact absurd H (by simp)
       · rw [if_neg c13] at H; have c13b0 : decide (x34_2 < (l2.length : Int)) = false := decide_eq_false c13; clear c13; simp only [Option.some.injEq, Prod.mk.injEq] at H; obtain ⟨rfl, rfl⟩ := H; go_wp2; repeat (go_quiet (fail); try go_wp2)
         go_ret2; exact ⟨_, by first | rfl | (simp [errW_none, errW_some] <;> rfl) | (simp [*, errW_none, errW_some] <;> rfl), by (with_reducible repeat (first | apply Kd.R_alloc | apply Kd.R_drewN | apply Kd.R_drew)); exact HO_10.out, bk_ HB.out⟩

/-! ### spec_LearnTable: function 43 -/
def spec_LearnTable.f (k : Nat) (a0 : Int) (a1 : Int) (l2 : List (List Int)) (l3 : List (List Int)) : Option (List Int × Bool) := (spec_l07Rings.f k a0 a1 l2 l3).bind fun t156 => (if t156 = true then ((spec_l07Learn.f k a0 a1 l2 l3).bind fun bt157 => (some (bt157.1, bt157.2))) else (some (([] : List Int), false)))
theorem spec_LearnTable.mono : ∀ a0 a1 a2 a3 k, LeO (spec_LearnTable.f k a0 a1 a2 a3) (spec_LearnTable.f (k + 1) a0 a1 a2 a3) := by
 intro a0 a1 a2 a3 k; unfold spec_LearnTable.f; repeat' first
  | (with_reducible exact spec_l07Learn.mono _ _ _ _ _)
  | (with_reducible exact spec_l07Rings.mono _ _ _ _ _)
  | (with_reducible exact LeO.refl _)
  | (with_reducible exact LeO.none _)
  | (with_reducible refine LeO.ite ?_ ?_)
  | (with_reducible refine LeO.bind ?_ (fun _ => ?_))
  | exact spec_l07Learn.mono _ _ _ _ _
  | exact spec_l07Rings.mono _ _ _ _ _
  | exact LeO.none _
  | refine LeO.ite ?_ ?_
  | refine LeO.bind ?_ (fun _ => ?_)
set_option maxHeartbeats 8000000 in
set_option maxRecDepth 100000 in
theorem spec_LearnTable.calls (k : Nat) (a0 : Int) (a1 : Int) (A2 : Option Addr) (c2 : Nat) (l2 : List (List Int)) (A3 : Option Addr) (c3 : Nat) (l3 : List (List Int)) (r1 : List Int) (r2 : Bool) (w : World) (hr2 : Kd.C (Kd.slice 2 (Kd.int .i64)) w A2 l2.length l2) (hc2 : l2.length ≤ c2) (hr3 : Kd.C (Kd.slice 2 (Kd.int .i64)) w A3 l3.length l3) (hc3 : l3.length ≤ c3) (h : spec_LearnTable.f k a0 a1 l2 l3 = some (r1, r2)) :
    Calls Try.prog 43 #[.int .i64 a0, .int .i64 a1, .slice A2 l2.length c2, .slice A3 l3.length c3] w fun e w' => ∃ v0_ : Value, e = .returned (.tuple #[v0_, .bool r2]) ∧ Kd.R (Kd.int .i64) 2 w' w.heap.size (fun _ => True) v0_ r1 ∧ Below w.heap.size w w' := by
 have HR2 := Aside0.mk hr2; have HC2 := Aside0.mk hc2; clear hr2 hc2; have HR3 := Aside0.mk hr3; have HC3 := Aside0.mk hc3; clear hr3 hc3; have HB := Aside0.mk (Below.refl w.heap.size w); have H : ((spec_l07Rings.f k a0 a1 l2 l3).bind fun t156 => (if t156 = true then ((spec_l07Learn.f k a0 a1 l2 l3).bind fun bt157 => (some (bt157.1, bt157.2))) else (some (([] : List Int), false)))) = some (r1, r2) := h; clear h; replace H := Option.bind_eq_some_iff.mp H; obtain ⟨t156, A50, H⟩ := H; replace H : (if t156 = true then ((spec_l07Learn.f k a0 a1 l2 l3).bind fun bt157 => (some (bt157.1, bt157.2))) else (some (([] : List Int), false))) = some (r1, r2) := H; have A5 := Aside0.mk A50; clear A50; by_cases c6 : t156 = true
 · subst c6; have H1 : ((spec_l07Learn.f k a0 a1 l2 l3).bind fun bt157 => (some (bt157.1, bt157.2))) = some (r1, r2) := by rw [if_pos rfl] at H; exact H
   clear H; have H := H1; clear H1; replace H := Option.bind_eq_some_iff.mp H; obtain ⟨⟨t157, t158⟩, A70, H⟩ := H; replace H : (some (t157, t158)) = some (r1, r2) := H; have A7 := Aside0.mk A70; clear A70; simp only [Option.some.injEq, Prod.mk.injEq] at H; obtain ⟨rfl, rfl⟩ := H; go_enter Try.func43, Try.ntmps43; go_wp2_with (first | ((with_reducible refine gate_callee (f := 86) rfl ?_); refine gL_ (some 14) Try.func86 #[.int .i64 a0, .int .i64 a1, .slice A2 l2.length c2, .slice A3 l3.length c3] ?_; (with_reducible refine (spec_l07Rings.calls k a0 a1 _ _ l2 _ _ l3 true _ ?side1 ?side2 ?side3 ?side4 A5.out).mono ?_); (case side1 => repeat (first | exact HR2.out | (with_reducible refine Kd.C_alloc ?_ _) | (with_reducible refine Kd.C_drewN ?_ _) | (with_reducible refine Kd.C_drew ?_))); (case side2 => exact HC2.out); (case side3 => repeat (first | exact HR3.out | (with_reducible refine Kd.C_alloc ?_ _) | (with_reducible refine Kd.C_drewN ?_ _) | (with_reducible refine Kd.C_drew ?_))); (case side4 => exact HC3.out); rintro e w8 ⟨rfl, hb⟩; refine ⟨_, rfl, ?_⟩; have n0_ := Aside0.mk (below_step (bk_ HB.out) hb); clear HB; have HB := n0_; clear n0_; (try clear hb); (try clear hb2); (try clear hk); (try clear hi)) | ((with_reducible refine gate_callee (f := 87) rfl ?_); refine gL_ (some 20) Try.func87 #[.int .i64 a0, .int .i64 a1, .slice A2 l2.length c2, .slice A3 l3.length c3] ?_; (with_reducible refine (spec_l07Learn.calls k a0 a1 _ _ l2 _ _ l3 t157 t158 _ ?side1 ?side2 ?side3 ?side4 A7.out).mono ?_); (case side1 => exact ck_ (Kd.C_below HR2.out HB.out)); (case side2 => exact HC2.out); (case side3 => exact ck_ (Kd.C_below HR3.out HB.out)); (case side4 => exact HC3.out); rintro e w9 ⟨v159, rfl, ho0, hb⟩; refine ⟨_, rfl, ?_⟩; have n0_ := Aside0.mk (Kd.R_lower ho0 (below_size (bk_ HB.out))); have n1_ := Aside0.mk (below_step (bk_ HB.out) hb); clear HB; have HO160 := n0_; have HB := n1_; clear n0_ n1_; (try clear hb); (try clear hb2); (try clear hk); (try clear hi); (try clear ho0)))
   go_ret2; exact ⟨_, by first | rfl | (simp [errW_none, errW_some] <;> rfl) | (simp [*, errW_none, errW_some] <;> rfl), by (with_reducible repeat (first | apply Kd.R_alloc | apply Kd.R_drewN | apply Kd.R_drew)); exact HO160.out, bk_ HB.out⟩
 · replace c6 := Bool.eq_false_iff.mpr c6; subst c6; have H1 : (some (([] : List Int), false)) = some (r1, r2) := by rw [if_neg (show ¬ (false = true) by decide)] at H; exact H
   clear H; have H := H1; clear H1; simp only [Option.some.injEq, Prod.mk.injEq] at H; obtain ⟨rfl, rfl⟩ := H; go_enter Try.func43, Try.ntmps43; go_wp2_with (first | ((with_reducible refine gate_callee (f := 86) rfl ?_); refine gL_ (some 14) Try.func86 #[.int .i64 a0, .int .i64 a1, .slice A2 l2.length c2, .slice A3 l3.length c3] ?_; (with_reducible refine (spec_l07Rings.calls k a0 a1 _ _ l2 _ _ l3 false _ ?side1 ?side2 ?side3 ?side4 A5.out).mono ?_); (case side1 => repeat (first | exact HR2.out | (with_reducible refine Kd.C_alloc ?_ _) | (with_reducible refine Kd.C_drewN ?_ _) | (with_reducible refine Kd.C_drew ?_))); (case side2 => exact HC2.out); (case side3 => repeat (first | exact HR3.out | (with_reducible refine Kd.C_alloc ?_ _) | (with_reducible refine Kd.C_drewN ?_ _) | (with_reducible refine Kd.C_drew ?_))); (case side4 => exact HC3.out); rintro e w10 ⟨rfl, hb⟩; refine ⟨_, rfl, ?_⟩; have n0_ := Aside0.mk (below_step (bk_ HB.out) hb); clear HB; have HB := n0_; clear n0_; (try clear hb); (try clear hb2); (try clear hk); (try clear hi))); go_ret2; exact ⟨_, by first | rfl | (simp [errW_none, errW_some] <;> rfl) | (simp [*, errW_none, errW_some] <;> rfl), by first | exact Kd.R_nil _ _ _ _ _ | exact Kd.N_nil _ _ _ _ _ | exact Kd.V_nil _ _ _ _ _ | exact Kd.Q_nil _ _ _ _ _ | exact Kd.S_nil _ _ _ _ _, bk_ HB.out⟩

/-! ### impl_areStates: function 71 -/
def impl_areStates.f (a0 : Int) : Option (Bool) := if a0 = 2 then (some true) else (some (a0 == 3))
set_option maxHeartbeats 8000000 in
set_option maxRecDepth 100000 in
theorem impl_areStates.calls (a0 : Int) (r : Bool) (w : World) (h : impl_areStates.f a0 = some r) :
    Calls Try.prog 71 #[.int .i64 a0] w fun e w' => e = .returned (.bool r) ∧ Drawn0 w w' := by
 have H : (if a0 = 2 then (some true) else (some (a0 == 3))) = some r := h; clear h; by_cases c2 : a0 = 2
 · rw [if_pos c2] at H; have c2b0 : (a0 == 2) = true := beq_iff_eq.mpr c2; have c2b1 : (a0 != 2) = false := bne_eq_false_iff_eq.mpr c2; clear c2; obtain rfl := Option.some.inj H; go_enter Try.func71, Try.ntmps71; go_wp2; go_ret; exact ⟨by first | rfl | (simp; done) | (simp [i64_w, i32_w]; done) | (simp [*]; done) | (simp [*, i64_w, i32_w]; done), by repeat (first | exact Drawn0.refl _ | apply Drawn0.step)⟩
 · rw [if_neg c2] at H; have c2b0 : (a0 == 2) = false := beq_eq_false_iff_ne.mpr c2; have c2b1 : (a0 != 2) = true := bne_iff_ne.mpr c2; obtain rfl := Option.some.inj H; go_enter Try.func71, Try.ntmps71; go_wp2; go_ret; exact ⟨by first | rfl | (simp; done) | (simp [i64_w, i32_w]; done) | (simp [*]; done) | (simp [*, i64_w, i32_w]; done), by repeat (first | exact Drawn0.refl _ | apply Drawn0.step)⟩

/-! ### impl_within: function 73 -/
def impl_within.f (a0 : Int) (a1 : Int) (a2 : Int) : Option (Bool) := if a0 ≥ a1 then (some (decide (a0 ≤ a2))) else (some false)
set_option maxHeartbeats 8000000 in
set_option maxRecDepth 100000 in
theorem impl_within.calls (a0 : Int) (a1 : Int) (a2 : Int) (r : Bool) (w : World) (h : impl_within.f a0 a1 a2 = some r) :
    Calls Try.prog 73 #[.int .i64 a0, .int .i64 a1, .int .i64 a2] w fun e w' => e = .returned (.bool r) ∧ Drawn0 w w' := by
 have H : (if a0 ≥ a1 then (some (decide (a0 ≤ a2))) else (some false)) = some r := h; clear h; by_cases c4 : a0 ≥ a1
 · rw [if_pos c4] at H; have c4b0 : decide (a1 ≤ a0) = true := decide_eq_true c4; clear c4; obtain rfl := Option.some.inj H; go_enter Try.func73, Try.ntmps73; go_wp2; go_ret; exact ⟨by first | rfl | (simp; done) | (simp [i64_w, i32_w]; done) | (simp [*]; done) | (simp [*, i64_w, i32_w]; done), by repeat (first | exact Drawn0.refl _ | apply Drawn0.step)⟩
 · rw [if_neg c4] at H; have c4b0 : decide (a1 ≤ a0) = false := decide_eq_false c4; clear c4; obtain rfl := Option.some.inj H; go_enter Try.func73, Try.ntmps73; go_wp2; go_ret; exact ⟨by first | rfl | (simp; done) | (simp [i64_w, i32_w]; done) | (simp [*]; done) | (simp [*, i64_w, i32_w]; done), by repeat (first | exact Drawn0.refl _ | apply Drawn0.step)⟩

/-! ### impl_areWithin: function 127 -/
def impl_areWithin.l0 : Nat → Int → Int → List Int → Int → Int → Option (Bool)
  | 0, _, _, _, _, _ => none
  | k + 1, x1, x2, x9, x10, x11 => if x11 < x10 then (if 0 ≤ x11 then (if x11 < (x9.length : Int) then ((impl_within.f (rd x9 x11) x1 x2).bind fun t162 => (if t162 = true then (impl_areWithin.l0 k x1 x2 x9 x10 (wrap64 (x11 + 1))) else (some false))) else (none)) else (none)) else (some true)
def impl_areWithin.f (k : Nat) (l0 : List Int) (a1 : Int) (a2 : Int) : Option (Bool) := impl_areWithin.l0 k a1 a2 l0 (l0.length : Int) 0
theorem impl_areWithin.mono_l : ∀ k, (∀ y0 y1 y2 y3 y4, LeO (impl_areWithin.l0 k y0 y1 y2 y3 y4) (impl_areWithin.l0 (k + 1) y0 y1 y2 y3 y4))
  | 0 => fun _ _ _ _ _ r h => by simp [impl_areWithin.l0] at h
  | k + 1 => by
    have ih0 := impl_areWithin.mono_l k
    · intro y0 y1 y2 y3 y4
      unfold impl_areWithin.l0
      repeat' first
      | (with_reducible exact ih0 _ _ _ _ _)
      | (with_reducible exact LeO.refl _)
      | (with_reducible exact LeO.none _)
      | (with_reducible refine LeO.ite ?_ ?_)
      | (with_reducible refine LeO.bind ?_ (fun _ => ?_))
      | exact ih0 _ _ _ _ _
      | exact LeO.none _
      | refine LeO.ite ?_ ?_
      | refine LeO.bind ?_ (fun _ => ?_)
theorem impl_areWithin.mono : ∀ a0 a1 a2 k, LeO (impl_areWithin.f k a0 a1 a2) (impl_areWithin.f (k + 1) a0 a1 a2) := by
 intro a0 a1 a2 k; have ih0 := impl_areWithin.mono_l k; unfold impl_areWithin.f; repeat' first
  | (with_reducible exact ih0 _ _ _ _ _)
  | (with_reducible exact LeO.refl _)
  | (with_reducible exact LeO.none _)
  | (with_reducible refine LeO.ite ?_ ?_)
  | (with_reducible refine LeO.bind ?_ (fun _ => ?_))
  | exact ih0 _ _ _ _ _
  | exact LeO.none _
  | refine LeO.ite ?_ ?_
  | refine LeO.bind ?_ (fun _ => ?_)
set_option maxHeartbeats 8000000 in
set_option maxRecDepth 100000 in
theorem impl_areWithin.calls (k : Nat) (A0 : Option Addr) (c0 : Nat) (l0 : List Int) (a1 : Int) (a2 : Int) (r : Bool) (w : World) (hr0 : Kd.C (Kd.int .i64) w A0 l0.length l0) (hc0 : l0.length ≤ c0) (h : impl_areWithin.f k l0 a1 a2 = some r) :
    Calls Try.prog 127 #[.slice A0 l0.length c0, .int .i64 a1, .int .i64 a2] w fun e w' => e = .returned (.bool r) ∧ Drawn0 w w' := by
 have HR0 := Aside0.mk hr0; have HC0 := Aside0.mk hc0; clear hr0 hc0; have H : (impl_areWithin.l0 k a1 a2 l0 (l0.length : Int) 0) = some r := h; clear h; have H' := Aside0.mk H; clear H; go_enter Try.func127, Try.ntmps127; go_wp2; go_loopg [11] k (fun kq v11 w' => ∃ (x11_1 : Int), v11 = .int .i64 x11_1 ∧ Aside0 (impl_areWithin.l0 kq a1 a2 l0 (l0.length : Int) x11_1 = some r) ∧ Aside0 (kq ≤ k) ∧ Drawn0 w w'); case atStart => exact ⟨(0), (by first | rfl | (simp; done) | (simp [i64_w, i32_w]; done) | (simp [*]; done) | (simp [*, i64_w, i32_w]; done)), H', ⟨Nat.le_refl _⟩, by repeat (first | exact Drawn0.refl _ | apply Drawn0.step)⟩
 case round =>
  clear H'; (try clear c1); (try clear p2); obtain ⟨x11_1, rfl, HA, HK1, ⟨m1, rfl⟩⟩ := hrel; cases gk with
  | zero => exact absurd HA.out (by simp [impl_areWithin.l0])
  | succ k1 =>
   have H := HA.out; clear HA; simp only [impl_areWithin.l0] at H; by_cases c4 : x11_1 < (l0.length : Int)
   · rw [if_pos c4] at H; have c4b0 : decide (x11_1 < (l0.length : Int)) = true := decide_eq_true c4; clear c4; by_cases c5 : 0 ≤ x11_1
     · rw [if_pos c5] at H; have c5b0 : decide (0 ≤ x11_1) = true := decide_eq_true c5; clear c5; by_cases c6 : x11_1 < (l0.length : Int)
       · rw [if_pos c6] at H; have c6b0 : decide (x11_1 < (l0.length : Int)) = true := decide_eq_true c6; clear c6; replace H := Option.bind_eq_some_iff.mp H; obtain ⟨t162, A70, H⟩ := H; replace H : (if t162 = true then (impl_areWithin.l0 k1 a1 a2 l0 (l0.length : Int) (wrap64 (x11_1 + 1))) else (some false)) = some r := H; have A7 := Aside0.mk A70; clear A70; by_cases c8 : t162 = true
         · subst c8; have H1 : (impl_areWithin.l0 k1 a1 a2 l0 (l0.length : Int) (wrap64 (x11_1 + 1))) = some r := by rw [if_pos rfl] at H; exact H
           clear H; have H := H1; clear H1; have H' := Aside0.mk H; clear H; have p161 : 0 ≤ (x11_1 : Int) := of_decide_eq_true (by first | (with_reducible assumption) | assumption); have q161 : x11_1 < (l0.length : Int) := of_decide_eq_true (by first | (with_reducible assumption) | assumption); obtain ⟨ad161, e161, hx161_0⟩ := Kd.at_int HR0.out x11_1 p161 q161; cases e161
           replace p161 := eq_true p161; replace q161 := eq_true q161; go_wp2_with (first | ((with_reducible refine gate_callee (f := 73) rfl ?_); refine gL_ (some 18) Try.func73 #[.int .i64 (rd l0 x11_1), .int .i64 a1, .int .i64 a2] ?_; (with_reducible refine (impl_within.calls (rd l0 x11_1) a1 a2 true _ A7.out).mono ?_); rintro e w' ⟨rfl, ⟨nd, rfl⟩⟩; refine ⟨_, rfl, ?_⟩)); go_roundg k1; case measure => have := HK1.out; omega
           case rel => exact ⟨(wrap64 (x11_1 + 1)), (by first | rfl | (simp; done) | (simp [i64_w, i32_w]; done) | (simp [*]; done) | (simp [*, i64_w, i32_w]; done)), H', ⟨by have := HK1.out; omega⟩, by repeat (first | exact Drawn0.refl _ | apply Drawn0.step)⟩
         · replace c8 := Bool.eq_false_iff.mpr c8; subst c8; have H1 : (some false) = some r := by rw [if_neg (show ¬ (false = true) by decide)] at H; exact H
           clear H; have H := H1; clear H1; obtain rfl := Option.some.inj H; have p161 : 0 ≤ (x11_1 : Int) := of_decide_eq_true (by first | (with_reducible assumption) | assumption); have q161 : x11_1 < (l0.length : Int) := of_decide_eq_true (by first | (with_reducible assumption) | assumption); obtain ⟨ad161, e161, hx161_0⟩ := Kd.at_int HR0.out x11_1 p161 q161; cases e161
           replace p161 := eq_true p161; replace q161 := eq_true q161; go_wp2_with (first | ((with_reducible refine gate_callee (f := 73) rfl ?_); refine gL_ (some 18) Try.func73 #[.int .i64 (rd l0 x11_1), .int .i64 a1, .int .i64 a2] ?_; (with_reducible refine (impl_within.calls (rd l0 x11_1) a1 a2 false _ A7.out).mono ?_); rintro e w' ⟨rfl, ⟨nd, rfl⟩⟩; refine ⟨_, rfl, ?_⟩)); go_ret; exact ⟨by first | rfl | (simp; done) | (simp [i64_w, i32_w]; done) | (simp [*]; done) | (simp [*, i64_w, i32_w]; done), by repeat (first | exact Drawn0.refl _ | apply Drawn0.step)⟩
       · rw [if_neg c6] at H; exact absurd H (by simp)
     · rw [if_neg c5] at H; exact absurd H (by simp)
   · rw [if_neg c4] at H; have c4b0 : decide (x11_1 < (l0.length : Int)) = false := decide_eq_false c4; clear c4; obtain rfl := Option.some.inj H; go_wp2; go_ret; exact ⟨by first | rfl | (simp; done) | (simp [i64_w, i32_w]; done) | (simp [*]; done) | (simp [*, i64_w, i32_w]; done), by repeat (first | exact Drawn0.refl _ | apply Drawn0.step)⟩

/-! ### impl_areMany: function 105 -/
def impl_areMany.f (k : Nat) (l0 : List Int) (a1 : Int) (a2 : Int) (a3 : Int) (a4 : Int) : Option (Bool) := (impl_within.f (l0.length : Int) a1 a2).bind fun t163 => (if t163 = true then ((impl_areWithin.f k l0 a3 a4).bind fun t164 => (some t164)) else (some false))
theorem impl_areMany.mono : ∀ a0 a1 a2 a3 a4 k, LeO (impl_areMany.f k a0 a1 a2 a3 a4) (impl_areMany.f (k + 1) a0 a1 a2 a3 a4) := by
 intro a0 a1 a2 a3 a4 k; unfold impl_areMany.f; repeat' first
  | (with_reducible exact impl_areWithin.mono _ _ _ _)
  | (with_reducible exact LeO.refl _)
  | (with_reducible exact LeO.none _)
  | (with_reducible refine LeO.ite ?_ ?_)
  | (with_reducible refine LeO.bind ?_ (fun _ => ?_))
  | exact impl_areWithin.mono _ _ _ _
  | exact LeO.none _
  | refine LeO.ite ?_ ?_
  | refine LeO.bind ?_ (fun _ => ?_)
set_option maxHeartbeats 8000000 in
set_option maxRecDepth 100000 in
theorem impl_areMany.calls (k : Nat) (A0 : Option Addr) (c0 : Nat) (l0 : List Int) (a1 : Int) (a2 : Int) (a3 : Int) (a4 : Int) (r : Bool) (w : World) (hr0 : Kd.C (Kd.int .i64) w A0 l0.length l0) (hc0 : l0.length ≤ c0) (h : impl_areMany.f k l0 a1 a2 a3 a4 = some r) :
    Calls Try.prog 105 #[.slice A0 l0.length c0, .int .i64 a1, .int .i64 a2, .int .i64 a3, .int .i64 a4] w fun e w' => e = .returned (.bool r) ∧ Drawn0 w w' := by
 have HR0 := Aside0.mk hr0; have HC0 := Aside0.mk hc0; clear hr0 hc0; have H : ((impl_within.f (l0.length : Int) a1 a2).bind fun t163 => (if t163 = true then ((impl_areWithin.f k l0 a3 a4).bind fun t164 => (some t164)) else (some false))) = some r := h; clear h; replace H := Option.bind_eq_some_iff.mp H; obtain ⟨t163, A60, H⟩ := H; replace H : (if t163 = true then ((impl_areWithin.f k l0 a3 a4).bind fun t164 => (some t164)) else (some false)) = some r := H; have A6 := Aside0.mk A60; clear A60; by_cases c7 : t163 = true
 · subst c7; have H1 : ((impl_areWithin.f k l0 a3 a4).bind fun t164 => (some t164)) = some r := by rw [if_pos rfl] at H; exact H
   clear H; have H := H1; clear H1; replace H := Option.bind_eq_some_iff.mp H; obtain ⟨t164, A80, H⟩ := H; replace H : (some t164) = some r := H; have A8 := Aside0.mk A80; clear A80; obtain rfl := Option.some.inj H; go_enter Try.func105, Try.ntmps105; go_wp2_with (first | ((with_reducible refine gate_callee (f := 73) rfl ?_); refine gL_ (some 15) Try.func73 #[.int .i64 (l0.length : Int), .int .i64 a1, .int .i64 a2] ?_; (with_reducible refine (impl_within.calls (l0.length : Int) a1 a2 true _ A6.out).mono ?_); rintro e w' ⟨rfl, ⟨nd, rfl⟩⟩; refine ⟨_, rfl, ?_⟩) | (go_at_call 127; (with_reducible refine (impl_areWithin.calls k _ _ l0 a3 a4 t164 _ ?side1 ?side2 A8.out).mono ?_); (case side1 => repeat (first | exact HR0.out | (with_reducible refine Kd.C_alloc ?_ _) | (with_reducible refine Kd.C_drewN ?_ _) | (with_reducible refine Kd.C_drew ?_))); (case side2 => exact HC0.out); rintro e w' ⟨rfl, ⟨nd, rfl⟩⟩)); go_ret; exact ⟨by first | rfl | (simp; done) | (simp [i64_w, i32_w]; done) | (simp [*]; done) | (simp [*, i64_w, i32_w]; done), by repeat (first | exact Drawn0.refl _ | apply Drawn0.step)⟩
 · replace c7 := Bool.eq_false_iff.mpr c7; subst c7; have H1 : (some false) = some r := by rw [if_neg (show ¬ (false = true) by decide)] at H; exact H
   clear H; have H := H1; clear H1; obtain rfl := Option.some.inj H; go_enter Try.func105, Try.ntmps105; go_wp2_with (first | ((with_reducible refine gate_callee (f := 73) rfl ?_); refine gL_ (some 15) Try.func73 #[.int .i64 (l0.length : Int), .int .i64 a1, .int .i64 a2] ?_; (with_reducible refine (impl_within.calls (l0.length : Int) a1 a2 false _ A6.out).mono ?_); rintro e w' ⟨rfl, ⟨nd, rfl⟩⟩; refine ⟨_, rfl, ?_⟩)); go_ret; exact ⟨by first | rfl | (simp; done) | (simp [i64_w, i32_w]; done) | (simp [*]; done) | (simp [*, i64_w, i32_w]; done), by repeat (first | exact Drawn0.refl _ | apply Drawn0.step)⟩

/-! ### impl_IsRing: function 62 -/
def impl_IsRing.f (k : Nat) (l0 : List Int) (a1 : Int) : Option (Bool) := (impl_areStates.f a1).bind fun t165 => (if t165 = true then ((impl_areMany.f k l0 1 64 0 (wrap64 (a1 - 1))).bind fun t166 => (some t166)) else (some false))
theorem impl_IsRing.mono : ∀ a0 a1 k, LeO (impl_IsRing.f k a0 a1) (impl_IsRing.f (k + 1) a0 a1) := by
 intro a0 a1 k; unfold impl_IsRing.f; repeat' first
  | (with_reducible exact impl_areMany.mono _ _ _ _ _ _)
  | (with_reducible exact LeO.refl _)
  | (with_reducible exact LeO.none _)
  | (with_reducible refine LeO.ite ?_ ?_)
  | (with_reducible refine LeO.bind ?_ (fun _ => ?_))
  | exact impl_areMany.mono _ _ _ _ _ _
  | exact LeO.none _
  | refine LeO.ite ?_ ?_
  | refine LeO.bind ?_ (fun _ => ?_)
set_option maxHeartbeats 8000000 in
set_option maxRecDepth 100000 in
theorem impl_IsRing.calls (k : Nat) (A0 : Option Addr) (c0 : Nat) (l0 : List Int) (a1 : Int) (r : Bool) (w : World) (hr0 : Kd.C (Kd.int .i64) w A0 l0.length l0) (hc0 : l0.length ≤ c0) (h : impl_IsRing.f k l0 a1 = some r) :
    Calls Try.prog 62 #[.slice A0 l0.length c0, .int .i64 a1] w fun e w' => e = .returned (.bool r) ∧ Drawn0 w w' := by
 have HR0 := Aside0.mk hr0; have HC0 := Aside0.mk hc0; clear hr0 hc0; have H : ((impl_areStates.f a1).bind fun t165 => (if t165 = true then ((impl_areMany.f k l0 1 64 0 (wrap64 (a1 - 1))).bind fun t166 => (some t166)) else (some false))) = some r := h; clear h; replace H := Option.bind_eq_some_iff.mp H; obtain ⟨t165, A30, H⟩ := H; replace H : (if t165 = true then ((impl_areMany.f k l0 1 64 0 (wrap64 (a1 - 1))).bind fun t166 => (some t166)) else (some false)) = some r := H; have A3 := Aside0.mk A30; clear A30; by_cases c4 : t165 = true
 · subst c4; have H1 : ((impl_areMany.f k l0 1 64 0 (wrap64 (a1 - 1))).bind fun t166 => (some t166)) = some r := by rw [if_pos rfl] at H; exact H
   clear H; have H := H1; clear H1; replace H := Option.bind_eq_some_iff.mp H; obtain ⟨t166, A50, H⟩ := H; replace H : (some t166) = some r := H; have A5 := Aside0.mk A50; clear A50; obtain rfl := Option.some.inj H; go_enter Try.func62, Try.ntmps62; go_wp2_with (first | ((with_reducible refine gate_callee (f := 71) rfl ?_); refine gL_ (some 6) Try.func71 #[.int .i64 a1] ?_; (with_reducible refine (impl_areStates.calls a1 true _ A3.out).mono ?_); rintro e w' ⟨rfl, ⟨nd, rfl⟩⟩; refine ⟨_, rfl, ?_⟩) | (go_at_call 105; (with_reducible refine (impl_areMany.calls k _ _ l0 1 64 0 (wrap64 (a1 - 1)) t166 _ ?side1 ?side2 A5.out).mono ?_); (case side1 => repeat (first | exact HR0.out | (with_reducible refine Kd.C_alloc ?_ _) | (with_reducible refine Kd.C_drewN ?_ _) | (with_reducible refine Kd.C_drew ?_))); (case side2 => exact HC0.out); rintro e w' ⟨rfl, ⟨nd, rfl⟩⟩)); go_ret; exact ⟨by first | rfl | (simp; done) | (simp [i64_w, i32_w]; done) | (simp [*]; done) | (simp [*, i64_w, i32_w]; done), by repeat (first | exact Drawn0.refl _ | apply Drawn0.step)⟩
 · replace c4 := Bool.eq_false_iff.mpr c4; subst c4; have H1 : (some false) = some r := by rw [if_neg (show ¬ (false = true) by decide)] at H; exact H
   clear H; have H := H1; clear H1; obtain rfl := Option.some.inj H; go_enter Try.func62, Try.ntmps62; go_wp2_with (first | ((with_reducible refine gate_callee (f := 71) rfl ?_); refine gL_ (some 6) Try.func71 #[.int .i64 a1] ?_; (with_reducible refine (impl_areStates.calls a1 false _ A3.out).mono ?_); rintro e w' ⟨rfl, ⟨nd, rfl⟩⟩; refine ⟨_, rfl, ?_⟩)); go_ret; exact ⟨by first | rfl | (simp; done) | (simp [i64_w, i32_w]; done) | (simp [*]; done) | (simp [*, i64_w, i32_w]; done), by repeat (first | exact Drawn0.refl _ | apply Drawn0.step)⟩

/-! ### impl_isReach: function 72 -/
def impl_isReach.f (a0 : Int) : Option (Bool) := (impl_within.f a0 0 2).bind fun t167 => (some t167)
set_option maxHeartbeats 8000000 in
set_option maxRecDepth 100000 in
theorem impl_isReach.calls (a0 : Int) (r : Bool) (w : World) (h : impl_isReach.f a0 = some r) :
    Calls Try.prog 72 #[.int .i64 a0] w fun e w' => e = .returned (.bool r) ∧ Drawn0 w w' := by
 have H : ((impl_within.f a0 0 2).bind fun t167 => (some t167)) = some r := h; clear h; replace H := Option.bind_eq_some_iff.mp H; obtain ⟨t167, A20, H⟩ := H; replace H : (some t167) = some r := H; have A2 := Aside0.mk A20; clear A20; obtain rfl := Option.some.inj H; go_enter Try.func72, Try.ntmps72; go_wp2_with (first | ((with_reducible refine gate_callee (f := 73) rfl ?_); refine gL_ (some 4) Try.func73 #[.int .i64 a0, .int .i64 0, .int .i64 2] ?_; (with_reducible refine (impl_within.calls a0 0 2 t167 _ A2.out).mono ?_); rintro e w' ⟨rfl, ⟨nd, rfl⟩⟩; refine ⟨_, rfl, ?_⟩)); go_ret; exact ⟨by first | rfl | (simp; done) | (simp [i64_w, i32_w]; done) | (simp [*]; done) | (simp [*, i64_w, i32_w]; done), by repeat (first | exact Drawn0.refl _ | apply Drawn0.step)⟩

/-! ### impl_raised: function 110 -/
def impl_raised.l0 : Nat → Int → Int → Int → Int → Option (Int)
  | 0, _, _, _, _ => none
  | k + 1, x0, x5, x6, x7 => if x7 < x6 then (impl_raised.l0 k x0 (wrap64 (x5 * x0)) x6 (wrap64 (x7 + 1))) else (some x5)
def impl_raised.f (k : Nat) (a0 : Int) (a1 : Int) : Option (Int) := impl_raised.l0 k a0 1 a1 0
theorem impl_raised.mono_l : ∀ k, (∀ y0 y1 y2 y3, LeO (impl_raised.l0 k y0 y1 y2 y3) (impl_raised.l0 (k + 1) y0 y1 y2 y3))
  | 0 => fun _ _ _ _ r h => by simp [impl_raised.l0] at h
  | k + 1 => by
    have ih0 := impl_raised.mono_l k
    · intro y0 y1 y2 y3
      unfold impl_raised.l0
      repeat' first
      | (with_reducible exact ih0 _ _ _ _)
      | (with_reducible exact LeO.refl _)
      | (with_reducible exact LeO.none _)
      | (with_reducible refine LeO.ite ?_ ?_)
      | (with_reducible refine LeO.bind ?_ (fun _ => ?_))
      | exact ih0 _ _ _ _
      | exact LeO.none _
      | refine LeO.ite ?_ ?_
      | refine LeO.bind ?_ (fun _ => ?_)
theorem impl_raised.mono : ∀ a0 a1 k, LeO (impl_raised.f k a0 a1) (impl_raised.f (k + 1) a0 a1) := by
 intro a0 a1 k; have ih0 := impl_raised.mono_l k; unfold impl_raised.f; repeat' first
  | (with_reducible exact ih0 _ _ _ _)
  | (with_reducible exact LeO.refl _)
  | (with_reducible exact LeO.none _)
  | (with_reducible refine LeO.ite ?_ ?_)
  | (with_reducible refine LeO.bind ?_ (fun _ => ?_))
  | exact ih0 _ _ _ _
  | exact LeO.none _
  | refine LeO.ite ?_ ?_
  | refine LeO.bind ?_ (fun _ => ?_)
set_option maxHeartbeats 8000000 in
set_option maxRecDepth 100000 in
theorem impl_raised.calls (k : Nat) (a0 : Int) (a1 : Int) (r : Int) (w : World) (h : impl_raised.f k a0 a1 = some r) :
    Calls Try.prog 110 #[.int .i64 a0, .int .i64 a1] w fun e w' => e = .returned (.int .i64 r) ∧ Drawn0 w w' := by
 have H : (impl_raised.l0 k a0 1 a1 0) = some r := h; clear h; have H' := Aside0.mk H; clear H; go_enter Try.func110, Try.ntmps110; go_wp2; go_loopg [5, 7] k (fun kq v5 v7 w' => ∃ (x5_1 : Int) (x7_1 : Int), v5 = .int .i64 x5_1 ∧ v7 = .int .i64 x7_1 ∧ Aside0 (impl_raised.l0 kq a0 x5_1 a1 x7_1 = some r) ∧ Aside0 (kq ≤ k) ∧ Drawn0 w w'); case atStart => exact ⟨(1), (0), (by first | rfl | (simp; done) | (simp [i64_w, i32_w]; done) | (simp [*]; done) | (simp [*, i64_w, i32_w]; done)), (by first | rfl | (simp; done) | (simp [i64_w, i32_w]; done) | (simp [*]; done) | (simp [*, i64_w, i32_w]; done)), H', ⟨Nat.le_refl _⟩, by repeat (first | exact Drawn0.refl _ | apply Drawn0.step)⟩
 case round =>
  clear H'; (try clear c1); (try clear p2); obtain ⟨x5_1, x7_1, rfl, rfl, HA, HK1, ⟨m1, rfl⟩⟩ := hrel; cases gk with
  | zero => exact absurd HA.out (by simp [impl_raised.l0])
  | succ k1 =>
   have H := HA.out; clear HA; simp only [impl_raised.l0] at H; by_cases c3 : x7_1 < a1
   · rw [if_pos c3] at H; have c3b0 : decide (x7_1 < a1) = true := decide_eq_true c3; clear c3; have H' := Aside0.mk H; clear H; go_wp2; go_roundg k1; case measure => have := HK1.out; omega
     case rel => exact ⟨(wrap64 (x5_1 * a0)), (wrap64 (x7_1 + 1)), (by first | rfl | (simp; done) | (simp [i64_w, i32_w]; done) | (simp [*]; done) | (simp [*, i64_w, i32_w]; done)), (by first | rfl | (simp; done) | (simp [i64_w, i32_w]; done) | (simp [*]; done) | (simp [*, i64_w, i32_w]; done)), H', ⟨by have := HK1.out; omega⟩, by repeat (first | exact Drawn0.refl _ | apply Drawn0.step)⟩
   · rw [if_neg c3] at H; have c3b0 : decide (x7_1 < a1) = false := decide_eq_false c3; clear c3; obtain rfl := Option.some.inj H; go_wp2; go_ret; exact ⟨by first | rfl | (simp; done) | (simp [i64_w, i32_w]; done) | (simp [*]; done) | (simp [*, i64_w, i32_w]; done), by repeat (first | exact Drawn0.refl _ | apply Drawn0.step)⟩

/-! ### impl_Rule_cells: function 111 -/
def impl_Rule_cells.f (a0_0 : Int) (a0_1 : Int) (l0_2 : List Int) : Option (Int) := some (wrap64 ((wrap64 (2 * a0_1)) + 1))
set_option maxHeartbeats 8000000 in
set_option maxRecDepth 100000 in
theorem impl_Rule_cells.calls (a0_0 : Int) (a0_1 : Int) (A0_2 : Option Addr) (c0_2 : Nat) (l0_2 : List Int) (r : Int) (w : World) (hr0_2 : Kd.C (Kd.int .i64) w A0_2 l0_2.length l0_2) (hc0_2 : l0_2.length ≤ c0_2) (h : impl_Rule_cells.f a0_0 a0_1 l0_2 = some r) :
    Calls Try.prog 111 #[.agg #[.int .i64 a0_0, .int .i64 a0_1, .slice A0_2 l0_2.length c0_2]] w fun e w' => e = .returned (.int .i64 r) ∧ Below w.heap.size w w' := by
 have hu38 := Try.underlying38; have HR0_2 := Aside0.mk hr0_2; have HC0_2 := Aside0.mk hc0_2; clear hr0_2 hc0_2; have HB := Aside0.mk (Below.refl w.heap.size w); have H : (some (wrap64 ((wrap64 (2 * a0_1)) + 1))) = some r := h; clear h; obtain rfl := Option.some.inj H; go_enter Try.func111, Try.ntmps111; go_wp2_with (first | ((with_reducible refine gate_dst (N := 1) rfl ?_); refine box_event ?hg (N := 1) ?hd (cs := #[.int .i64 a0_0, .int .i64 a0_1, .slice A0_2 l0_2.length c0_2]) (t := 38) ?hr ?_; (case hd => rfl); (case hg => rfl); (case hr => first | (go_simp; done) | (go_simp; rfl)); intro gb168 hg w2 hbox hb; have n0_ := Aside0.mk (below_step (bk_ HB.out) hb); have n1_ := Aside0.mk (hbox); have n2_ := Aside0.mk ((by rw [hg]; exact (below_size (bk_ HB.out)) : w.heap.size ≤ gb168)); have n3_ := Aside0.mk ((by rw [hg]; exact (below_size (bk_ HB.out)) : w.heap.size ≤ gb168)); clear HB; have HB := n0_; have BK168 := n1_; have GW168 := n2_; have GE168 := n3_; clear n0_ n1_ n2_ n3_ hb hbox hg; have hcz3_0 := bc_ BK168.out 0 (.int .i64 a0_0); have hcz3_1 := bc_ BK168.out 1 (.int .i64 a0_1); have hcz3_2 := bc_ BK168.out 2 (.slice A0_2 l0_2.length c0_2); have hfz3_0 := blk_frozen BK168.out 0; have hfz3_1 := blk_frozen BK168.out 1; have hfz3_2 := blk_frozen BK168.out 2)); go_ret; exact ⟨by first | rfl | (simp [errW_none, errW_some] <;> rfl) | (simp [*, errW_none, errW_some] <;> rfl), bk_ HB.out⟩

/-! ### bits_Mul32: function 134 -/
def bits_Mul32.f (a0 : Int) (a1 : Int) : Option (Int × Int) := some (((IntKind.u64.wrap ((IntKind.u64.wrap (a0)) * (IntKind.u64.wrap (a1)))) / 4294967296) % 4294967296, (IntKind.u64.wrap ((IntKind.u64.wrap (a0)) * (IntKind.u64.wrap (a1)))) % 4294967296)
set_option maxHeartbeats 8000000 in
set_option maxRecDepth 100000 in
theorem bits_Mul32.calls (a0 : Int) (a1 : Int) (r1 : Int) (r2 : Int) (w : World) (h : bits_Mul32.f a0 a1 = some (r1, r2)) :
    Calls Try.prog 134 #[.int .u32 a0, .int .u32 a1] w fun e w' => e = .returned (.tuple #[.int .u32 r1, .int .u32 r2]) ∧ Drawn0 w w' := by
 have H : (some (((IntKind.u64.wrap ((IntKind.u64.wrap (a0)) * (IntKind.u64.wrap (a1)))) / 4294967296) % 4294967296, (IntKind.u64.wrap ((IntKind.u64.wrap (a0)) * (IntKind.u64.wrap (a1)))) % 4294967296)) = some (r1, r2) := h; clear h; simp only [Option.some.injEq, Prod.mk.injEq] at H; obtain ⟨rfl, rfl⟩ := H; go_enter Try.func134, Try.ntmps134; go_wp2; go_ret2; exact ⟨by first | rfl | (simp; done) | (simp [i64_w, i32_w]; done) | (simp [*]; done) | (simp [*, i64_w, i32_w]; done), by repeat (first | exact Drawn0.refl _ | apply Drawn0.step)⟩

/-! ### bits_Mul64: function 135 -/
def bits_Mul64.f (a0 : Int) (a1 : Int) : Option (Int × Int) := some (IntKind.u64.wrap ((IntKind.u64.wrap ((IntKind.u64.wrap ((a0 / 4294967296) * (a1 / 4294967296))) + ((IntKind.u64.wrap ((IntKind.u64.wrap ((a0 / 4294967296) * (Go.bits .and .u64 a1 4294967295))) + ((IntKind.u64.wrap ((Go.bits .and .u64 a0 4294967295) * (Go.bits .and .u64 a1 4294967295))) / 4294967296))) / 4294967296))) + ((IntKind.u64.wrap ((Go.bits .and .u64 (IntKind.u64.wrap ((IntKind.u64.wrap ((a0 / 4294967296) * (Go.bits .and .u64 a1 4294967295))) + ((IntKind.u64.wrap ((Go.bits .and .u64 a0 4294967295) * (Go.bits .and .u64 a1 4294967295))) / 4294967296))) 4294967295) + (IntKind.u64.wrap ((Go.bits .and .u64 a0 4294967295) * (a1 / 4294967296))))) / 4294967296)), IntKind.u64.wrap (a0 * a1))
set_option maxHeartbeats 8000000 in
set_option maxRecDepth 100000 in
theorem bits_Mul64.calls (a0 : Int) (a1 : Int) (r1 : Int) (r2 : Int) (w : World) (h : bits_Mul64.f a0 a1 = some (r1, r2)) :
    Calls Try.prog 135 #[.int .u64 a0, .int .u64 a1] w fun e w' => e = .returned (.tuple #[.int .u64 r1, .int .u64 r2]) ∧ Drawn0 w w' := by
 have H : (some (IntKind.u64.wrap ((IntKind.u64.wrap ((IntKind.u64.wrap ((a0 / 4294967296) * (a1 / 4294967296))) + ((IntKind.u64.wrap ((IntKind.u64.wrap ((a0 / 4294967296) * (Go.bits .and .u64 a1 4294967295))) + ((IntKind.u64.wrap ((Go.bits .and .u64 a0 4294967295) * (Go.bits .and .u64 a1 4294967295))) / 4294967296))) / 4294967296))) + ((IntKind.u64.wrap ((Go.bits .and .u64 (IntKind.u64.wrap ((IntKind.u64.wrap ((a0 / 4294967296) * (Go.bits .and .u64 a1 4294967295))) + ((IntKind.u64.wrap ((Go.bits .and .u64 a0 4294967295) * (Go.bits .and .u64 a1 4294967295))) / 4294967296))) 4294967295) + (IntKind.u64.wrap ((Go.bits .and .u64 a0 4294967295) * (a1 / 4294967296))))) / 4294967296)), IntKind.u64.wrap (a0 * a1))) = some (r1, r2) := h; clear h; simp only [Option.some.injEq, Prod.mk.injEq] at H; obtain ⟨rfl, rfl⟩ := H; go_enter Try.func135, Try.ntmps135; go_wp2; go_ret2; exact ⟨by first | rfl | (simp; done) | (simp [i64_w, i32_w]; done) | (simp [*]; done) | (simp [*, i64_w, i32_w]; done), by repeat (first | exact Drawn0.refl _ | apply Drawn0.step)⟩

/-! ### bits_Mul: function 131 -/
def bits_Mul.f (a0 : Int) (a1 : Int) : Option (Int × Int) := (bits_Mul64.f a0 a1).bind fun bt169 => (some (bt169.1, bt169.2))
set_option maxHeartbeats 8000000 in
set_option maxRecDepth 100000 in
theorem bits_Mul.calls (a0 : Int) (a1 : Int) (r1 : Int) (r2 : Int) (w : World) (h : bits_Mul.f a0 a1 = some (r1, r2)) :
    Calls Try.prog 131 #[.int .u64 a0, .int .u64 a1] w fun e w' => e = .returned (.tuple #[.int .u64 r1, .int .u64 r2]) ∧ Drawn0 w w' := by
 have H : ((bits_Mul64.f a0 a1).bind fun bt169 => (some (bt169.1, bt169.2))) = some (r1, r2) := h; clear h; replace H := Option.bind_eq_some_iff.mp H; obtain ⟨⟨t169, t170⟩, A30, H⟩ := H; replace H : (some (t169, t170)) = some (r1, r2) := H; have A3 := Aside0.mk A30; clear A30; simp only [Option.some.injEq, Prod.mk.injEq] at H; obtain ⟨rfl, rfl⟩ := H; go_enter Try.func131, Try.ntmps131; go_wp2_with (first | ((with_reducible refine gate_callee (f := 135) rfl ?_); refine gL_ (some 25) Try.func135 #[.int .u64 a0, .int .u64 a1] ?_; (with_reducible refine (bits_Mul64.calls a0 a1 t169 t170 _ A3.out).mono ?_); rintro e w' ⟨rfl, ⟨nd, rfl⟩⟩; refine ⟨_, rfl, ?_⟩)); go_ret2; exact ⟨by first | rfl | (simp; done) | (simp [i64_w, i32_w]; done) | (simp [*]; done) | (simp [*, i64_w, i32_w]; done), by repeat (first | exact Drawn0.refl _ | apply Drawn0.step)⟩

/-! ### slices_Repeat_int64_int64: function 120 -/
def slices_Repeat_int64_int64.f (l0 : List Int) (a1 : Int) : Option (List Int) := if l0.length = 1 then (if 1 ≤ a1 then (if a1 ≤ 1000 then some (List.replicate a1.toNat (rd l0 0)) else none) else none) else none
theorem rep_mul (m : Fin 1001) : bits_Mul.f 1 (m.val : Int) = some (0, (m.val : Int)) := by
  revert m; decide +kernel
/-- The block in which the first n cells are told. -/
structure RepI (w w' : World) (g cap m n : Nat) (y : Int) : Prop where
  blk : ∃ cur, w'.heap[g]? = some (.cells cur 2 (0, 0)) ∧ cur.size = cap ∧ ∀ j, j < n → cur[j]? = some (.int .i64 y)
  bel : Below w.heap.size w w'
theorem RepI.fill {w w' : World} {g cap m n : Nat} {y : Int} (h : RepI w w' g cap m n y) (hg : w.heap.size ≤ g) (q : Nat) (hq : n + q ≤ cap) : RepI w (w'.setCells g n (List.replicate q (.int .i64 y))) g cap m (n + q) y := by
  induction q generalizing n w' with
  | zero => exact h
  | succ q ih =>
    rw [List.replicate_succ, World.setCells]
    have hs : RepI w (w'.setCell ⟨g, n, none⟩ (.int .i64 y)) g cap m (n + 1) y := by
      obtain ⟨cur, hb, hc, hj⟩ := h.blk
      refine ⟨⟨cur.setIfInBounds n (.int .i64 y), blk_set hb n _, by simpa using hc, fun j hjn => ?_⟩, below_set h.bel hg⟩
      by_cases e : j = n
      · subst e
        rw [Array.getElem?_setIfInBounds_self]
        rw [if_pos (by omega)]
      · rw [Array.getElem?_setIfInBounds_ne (by omega)]
        exact hj j (by omega)
    have := ih hs (by omega)
    rw [show n + 1 + q = n + (q + 1) by omega] at this
    exact this
theorem RepI.row {w w' : World} {g cap m : Nat} {y : Int} (h : RepI w w' g cap m m y) (hg : w.heap.size ≤ g) (h0 : m ≤ cap) (h1 : cap ≤ maxLen) : Kd.R (Kd.int .i64) 2 w' w.heap.size (fun _ => True) (.slice (some ⟨g, 0, none⟩) m cap) (List.replicate m y) := by
  obtain ⟨cur, hb, hc, hj⟩ := h.blk
  have e : cur.toList.take (m * 1) = List.replicate m (Value.int .i64 y) := by
    apply List.ext_getElem?
    intro j
    by_cases hjm : j < m
    · rw [List.getElem?_take, if_pos (by omega), Array.getElem?_toList, hj j hjm, List.getElem?_replicate, if_pos hjm]
    · rw [List.getElem?_eq_none (by simp; omega), List.getElem?_eq_none (by simp; omega)]
  refine ⟨fun _ _ => trivial, List.replicate m (.int .i64 y), ⟨by simp only [List.length_replicate]; exact (Nat.mul_one m).symm, .inr ⟨g, cap, cur, by rw [List.length_replicate], hg, hb, by simpa using h0, h1, by rw [hc]; exact (Nat.mul_one _).symm, by rw [List.length_replicate]; exact e⟩⟩, ?_⟩
  have := Kd.reps_scalar (enc := Value.int .i64) (List.replicate m y)
  rw [show encs (Value.int .i64) (List.replicate m y) = List.replicate m (.int .i64 y) by simp [encs]] at this
  exact this
theorem copy_step {P : Program} {ops : Array Oper} {o : Oper} {a : Act} {Q : Exit → Act → World → Prop} {Kc : Act → World → Prop} {W w1 : World} {v1 v2 r : Value} {N : Option Tmp} (hw : Region.wanted o (yielded ops a.tmps) = true) (hN : o.dst = N) (s x : Operand) (t t' : TypeId)
    (ho : o.op = .call { callee := .builtin .copy, args := #[s, x], argTypes := #[t, t'] }) (hs : a.eval s = v1) (hx : a.eval x = v2) (hr : (Builtin.copy_ #[t, t'] o.type #[v1, v2]).run P W = .ok r w1) (h : Kc (a.put N r) w1) :
    if Region.wanted o (yielded ops a.tmps) = true then Oper.wp P o a W Kc Q else Kc (a.put N undef) W := by
  subst hN
  rw [if_pos hw]
  unfold Oper.wp execOp
  simp only [ho, resolve, invoke, builtin, Sem.run_bind, Sem.run_pure, Result.andThen_ok, List.map_toArray, List.map_cons, List.map_nil, hs, hx, hr]
  exact h
set_option maxHeartbeats 8000000 in
set_option maxRecDepth 100000 in
theorem slices_Repeat_int64_int64.calls (A0 : Option Addr) (c0 : Nat) (l0 : List Int) (a1 : Int) (r : List Int) (w : World) (hr0 : Kd.C (Kd.int .i64) w A0 l0.length l0) (hc0 : l0.length ≤ c0) (h : slices_Repeat_int64_int64.f l0 a1 = some r) :
    Calls Try.prog 120 #[.slice A0 l0.length c0, .int .i64 a1] w fun e w' => ∃ v0_ : Value, e = .returned (v0_) ∧ Kd.R (Kd.int .i64) 2 w' w.heap.size (fun _ => True) v0_ r ∧ Below w.heap.size w w' := by
  unfold slices_Repeat_int64_int64.f at h
  by_cases c1 : l0.length = 1
  · rw [if_pos c1] at h
    by_cases c2 : 1 ≤ a1
    · rw [if_pos c2] at h
      by_cases c3 : a1 ≤ 1000
      · rw [if_pos c3] at h
        obtain ⟨m, rfl⟩ := Int.eq_ofNat_of_zero_le (show 0 ≤ a1 by omega)
        have hm0 : 1 ≤ m := by omega
        have hm : m ≤ 1000 := by omega
        obtain ⟨y, rfl⟩ : ∃ y, l0 = [y] := by
          match l0, c1 with
          | [y], _ => exact ⟨y, rfl⟩
        have hh := Option.some.inj h
        have hy : rd [y] 0 = y := rfl
        rw [hy, Int.toNat_natCast] at hh
        subst hh
        clear h hy c1 c2 c3
        have hmul := rep_mul ⟨m, by omega⟩
        replace hmul : bits_Mul.f 1 (m : Int) = some (0, (m : Int)) := hmul
        have hw1 : IntKind.u64.wrap (m : Int) = (m : Int) := by
          have : ∀ m : Fin 1001, IntKind.u64.wrap (m.val : Int) = (m.val : Int) := by decide +kernel
          exact this ⟨m, by omega⟩
        have hw2 : IntKind.u64.wrap (1 : Int) = 1 := by decide +kernel
        have hw3 : wrap64 (m : Int) = (m : Int) := by unfold wrap64; omega
        have e1 : decide ((m : Int) < 0) = false := decide_eq_false (by omega)
        have e1' : ((m : Int) < 0) = False := eq_false (by omega)
        have e2 : decide (9223372036854775807 < (m : Int)) = false := decide_eq_false (by omega)
        have e2' : (9223372036854775807 < (m : Int)) = False := eq_false (by omega)
        obtain ⟨i0, hi0, hz0⟩ := Option.map_eq_some_iff.1 info2
        simp only [Prod.mk.injEq] at hz0
        have hinfo : (Try.prog.info? 2).map (·.size) = some 1 := by rw [hi0]; exact congrArg some hz0.2.1
        obtain ⟨ad, hx1, hx2⟩ : ∃ ad, A0 = some ad ∧ w.cell? ad = some (.int .i64 y) := by
          obtain ⟨ad, e, hx⟩ := Kd.at_int hr0 0 (by omega) (by simp)
          have hx' : w.cell? (ad.add 0) = some (.int .i64 y) := hx
          rw [Addr.add_zero'] at hx'
          exact ⟨ad, e, hx'⟩
        subst hx1
        have HB := Aside0.mk (Below.refl w.heap.size w)
        show Calls Try.prog 120 #[.slice (some ad) 1 c0, .int .i64 (m : Int)] w _
        go_enter Try.func120, Try.ntmps120
        go_wp2_with (first | ((with_reducible refine gate_callee (f := 131) rfl ?_); refine gL_ (some 18) Try.func131 #[.int .u64 1, .int .u64 (m : Int)] ?_; (with_reducible refine (bits_Mul.calls 1 (m : Int) 0 (m : Int) _ hmul).mono ?_); rintro e w2 ⟨rfl, hdr⟩; replace HB := Aside0.mk (below_step HB.out (by exact hdr.below)); refine ⟨_, rfl, ?_⟩) | ((with_reducible refine gate_dst (N := 30) rfl ?_); refine Kd.R_make (Kd.int .i64) _ 2 rfl (N := 30) rfl 22 _ _ rfl (m : Int) rfl rfl Try.underlying22 (.int .i64 0) 8 info2 rfl (by decide) (by omega) 0 (ok := fun _ => True) (okp := fun _ => True) rfl (fun _ hk => hk) trivial (by omega) (by rw [Int.toNat_natCast]; omega) (Below.refl _ _) (Nat.le_refl _) ?_; intro v30 w3 ho hb hg hnew))
        have hB3 : Below w.heap.size w w3 := below_step HB.out hb
        obtain ⟨g, cap, hv, hgw, hmc, hcm, hI0⟩ : ∃ g cap, v30 = .slice (some ⟨g, 0, none⟩) m cap ∧ w.heap.size ≤ g ∧ m ≤ cap ∧ cap ≤ maxLen ∧ RepI w w3 g cap m 0 y := by
          obtain ⟨_, inner, hown, _⟩ := ho
          rcases hown.2 with ⟨_, hn⟩ | ⟨g, cap, cur, rfl, hgb, hblk, h1, h2, h3, h4⟩
          · simp at hn; omega
          · exact ⟨g, cap, by simp, by have := below_size HB.out; omega, by simpa using h1, h2, ⟨⟨cur, hblk, by rw [h3]; exact Nat.mul_one _, fun j hj => by omega⟩, hB3⟩⟩
        subst hv
        have hcp : (Builtin.copy_ #[22, 22] 3 #[.slice (some ⟨g, 0, none⟩) m cap, .slice (some ad) 1 c0]).run Try.prog w3 = .ok (.int .i64 1) (w3.setCells g 0 [.int .i64 y]) := by
          obtain ⟨cur, hblk, hcur, _⟩ := hI0.blk
          have := run_copy_cells (P := Try.prog) w3 22 22 3 2 g 0 m cap ad 1 c0 [.int .i64 y] Try.underlying22 hinfo (by show 1 = min 1 m; omega) (fun j v hj => by
            have hj0 : j = 0 := by have := (List.getElem?_eq_some_iff.1 hj).1; simp at this; omega
            subst hj0
            have : v = .int .i64 y := by simpa using hj.symm
            subst this
            rw [Addr.add_zero']
            exact hB3.cell (World.block_lt_of_cell? w _ hx2) ▸ hx2)
            (fun j hj => by
              have hj0 : j = 0 := by simp at hj; omega
              subst hj0
              rw [blk_cell hblk, Nat.add_zero, Array.getElem?_eq_getElem (by omega)]
              rfl)
            (fun j hj => blk_frozen hblk _) (by intro v hv; simp at hv; subst hv; rfl)
          exact this
        have hI1 : RepI w (w3.setCells g 0 [.int .i64 y]) g cap m 1 y := hI0.fill hgw 1 (by omega)
        generalize w3.setCells g 0 [.int .i64 y] = w4 at hcp hI1
        simp only [hcp, Result.andThen_ok]
        go_wp2
        go_loopg [8] m (fun kq v8 w' => ∃ (n : Nat), v8 = .int .i64 (n : Int) ∧ Aside0 (1 ≤ n ∧ n ≤ m ∧ m - n ≤ kq) ∧ Aside0 (RepI w w' g cap m n y))
        case atStart => exact ⟨1, rfl, ⟨by omega⟩, ⟨hI1⟩⟩
        case round =>
          obtain ⟨n, rfl, hn, hI⟩ := hrel
          obtain ⟨hn1, hn2, hn3⟩ := hn.out
          by_cases hlt : n < m
          · obtain ⟨k1, rfl⟩ : ∃ k1, gk = k1 + 1 := ⟨gk - 1, by omega⟩
            have hfin : 1 ≤ n + min n (m - n) ∧ n + min n (m - n) ≤ m ∧ m - (n + min n (m - n)) ≤ k1 := by omega
            have hk1 : k1 < k1 + 1 := Nat.lt_succ_self _
            have d1 : decide ((n : Int) < (m : Int)) = true := decide_eq_true (by omega)
            go_wp2
            have hs41 : ∀ W : World, (Instr.slice 22 (.slice (some ⟨g, 0, none⟩) m cap) (some (.int .i64 (n : Int))) none none).run Try.prog W = .ok (.slice (some ⟨g, n, none⟩) (m - n) (cap - n)) W := by
              intro W
              have h_ := cut_from (P := Try.prog) 22 2 .i64 Try.underlying22 hi0 1 hz0.2.1 (some ⟨g, 0, none⟩) m cap (n : Int) (by omega) (by omega) W
              rw [Int.toNat_natCast, if_neg (by omega)] at h_
              have ea : (Option.map (fun x => Addr.add x (n * 1)) (some (⟨g, 0, none⟩ : Addr))) = some ⟨g, n, none⟩ := by
                rw [Option.map_some, Nat.mul_one, add0_]
              rw [ea] at h_
              exact h_
            have hs44 : ∀ W : World, (Instr.slice 22 (.slice (some ⟨g, 0, none⟩) m cap) none (some (.int .i64 (n : Int))) none).run Try.prog W = .ok (.slice (some ⟨g, 0, none⟩) n cap) W := by
              intro W
              have h_ := cut_to (P := Try.prog) 22 2 .i64 Try.underlying22 hi0 (some ⟨g, 0, none⟩) m cap (n : Int) (by omega) (by omega) hmc W
              rw [Int.toNat_natCast] at h_
              exact h_
            have hI5 : RepI w wr.drew g cap m n y := by
              obtain ⟨cur, hblk, hcur, hj⟩ := hI.out.blk
              exact ⟨⟨cur, blk_drew hblk, hcur, hj⟩, below_drew1 hI.out.bel⟩
            have hcp9 : (Builtin.copy_ #[22, 22] 3 #[.slice (some ⟨g, n, none⟩) (m - n) (cap - n), .slice (some ⟨g, 0, none⟩) n cap]).run Try.prog wr.drew = .ok (.int .i64 ((min n (m - n) : Nat) : Int)) (wr.drew.setCells g n (List.replicate (min n (m - n)) (.int .i64 y))) := by
              obtain ⟨cur, hblk, hcur, hj⟩ := hI5.blk
              have h_ := run_copy_cells (P := Try.prog) wr.drew 22 22 3 2 g n (m - n) (cap - n) ⟨g, 0, none⟩ n cap (List.replicate (min n (m - n)) (.int .i64 y)) Try.underlying22 hinfo (by simp) (fun j v hj' => by
                have hjl : j < min n (m - n) := by have := (List.getElem?_eq_some_iff.1 hj').1; simpa using this
                have hv : v = .int .i64 y := by
                  rw [List.getElem?_replicate, if_pos hjl] at hj'
                  exact (Option.some.inj hj').symm
                subst hv
                rw [add0_, blk_cell hblk]
                exact hj j (by omega))
                (fun j hj' => by
                  have hjl : j < min n (m - n) := by simpa using hj'
                  rw [blk_cell hblk, Array.getElem?_eq_getElem (by omega)]
                  rfl)
                (fun j hj' => blk_frozen hblk _) (by intro v hv; rw [List.eq_of_mem_replicate hv]; rfl)
              rw [List.length_replicate] at h_
              exact h_
            have hI6 : RepI w (wr.drew.setCells g n (List.replicate (min n (m - n)) (.int .i64 y))) g cap m (n + min n (m - n)) y := hI5.fill hgw _ (by omega)
            generalize wr.drew.setCells g n (List.replicate (min n (m - n)) (.int .i64 y)) = w6 at hcp9 hI6
            have hw9 : wrap64 ((n : Int) + ((min n (m - n) : Nat) : Int)) = ((n + min n (m - n) : Nat) : Int) := by unfold wrap64; omega
            refine start_ (n := 10) (S := fun _ => True) (ds := []) (bm_ 10 0) (by kernel_rfl) rfl rfl trivial (fun hHeld => ?_)
            refine pure_ (i := 0) (N := some 38) (v := ?_) (a' := ?_) (bm_ 10 1) rfl rfl (by kernel_rfl) (fun _ _ _ h => h) (Or.inl ⟨by rfl, ?_⟩) ?_ ?_; rotate_left
            · intro w'; go_simp; (with_reducible rfl)
            rotate_left
            · simp only [Act.put, List.setIfInBounds_toArray, List.set_cons_zero, List.set_cons_succ]; rfl
            refine pure_ (i := 1) (N := some 39) (v := ?_) (a' := ?_) (bm_ 10 3) rfl rfl (by kernel_rfl) (fun _ _ _ h => h) (Or.inl ⟨by rfl, ?_⟩) ?_ ?_; rotate_left
            · intro w'; go_simp; (with_reducible rfl)
            rotate_left
            · simp only [Act.put, List.setIfInBounds_toArray, List.set_cons_zero, List.set_cons_succ]; rfl
            refine pure_ (i := 2) (N := some 40) (v := ?_) (a' := ?_) (bm_ 10 7) rfl rfl (by kernel_rfl) (fun _ _ _ h => h) (Or.inl ⟨by rfl, ?_⟩) ?_ ?_; rotate_left
            · intro w'; go_simp; (with_reducible rfl)
            rotate_left
            · simp only [Act.put, List.setIfInBounds_toArray, List.set_cons_zero, List.set_cons_succ]; rfl
            refine pure_ (i := 3) (N := some 41) (v := ?_) (a' := ?_) (bm_ 10 15) rfl rfl (by kernel_rfl) (fun _ _ _ h => h) (Or.inl ⟨by rfl, ?_⟩) ?_ ?_; rotate_left
            · intro w'; go_simp; (with_reducible rfl)
            rotate_left
            · simp only [Act.put, List.setIfInBounds_toArray, List.set_cons_zero, List.set_cons_succ]; rfl
            refine pure_ (i := 4) (N := some 42) (v := ?_) (a' := ?_) (bm_ 10 31) rfl rfl (by kernel_rfl) (fun _ _ _ h => h) (Or.inl ⟨by rfl, ?_⟩) ?_ ?_; rotate_left
            · intro w'; go_simp; (with_reducible rfl)
            rotate_left
            · simp only [Act.put, List.setIfInBounds_toArray, List.set_cons_zero, List.set_cons_succ]; rfl
            refine pure_ (i := 5) (N := some 43) (v := ?_) (a' := ?_) (bm_ 10 63) rfl rfl (by kernel_rfl) (fun _ _ _ h => h) (Or.inl ⟨by rfl, ?_⟩) ?_ ?_; rotate_left
            · intro w'; go_simp; (with_reducible rfl)
            rotate_left
            · simp only [Act.put, List.setIfInBounds_toArray, List.set_cons_zero, List.set_cons_succ]; rfl
            refine pure_ (i := 6) (N := some 44) (v := ?_) (a' := ?_) (bm_ 10 127) rfl rfl (by kernel_rfl) (fun _ _ _ h => h) (Or.inl ⟨by rfl, ?_⟩) ?_ ?_; rotate_left
            · intro w'; go_simp; (with_reducible rfl)
            rotate_left
            · simp only [Act.put, List.setIfInBounds_toArray, List.set_cons_zero, List.set_cons_succ]; rfl
            refine one_ (i := 7) (N := some 45) (bm_ 10 255) rfl rfl (by kernel_rfl) (by decide) (fun K hK => ?_)
            refine copy_step (N := some 45) (by rfl) rfl (.tmp 41) (.tmp 44) 22 22 rfl rfl rfl hcp9 ?_
            refine hK.out _ _ trivial (fun _ => ?_)
            refine pure_ (i := 8) (N := some 46) (v := ?_) (a' := ?_) (bm_ 10 511) rfl rfl (by kernel_rfl) (fun _ _ _ h => h) (Or.inl ⟨by rfl, ?_⟩) ?_ ?_; rotate_left
            · intro w'; go_simp; (with_reducible rfl)
            rotate_left
            · simp only [Act.put, List.setIfInBounds_toArray, List.set_cons_zero, List.set_cons_succ]; rfl
            refine pure_ (i := 9) (N := some 8) (v := ?_) (a' := ?_) (bm_ 10 1023) rfl rfl (by kernel_rfl) (fun _ _ _ h => h) (Or.inl ⟨by rfl, ?_⟩) ?_ ?_; rotate_left
            · intro w'; go_simp; (with_reducible rfl)
            rotate_left
            · simp only [Act.put, List.setIfInBounds_toArray, List.set_cons_zero, List.set_cons_succ]; rfl
            refine done_ (by kernel_rfl) ?_
            (try go_wp2)
            go_roundg k1
            case measure => exact hk1
            case rel => exact ⟨n + min n (m - n), by first | rfl | (rw [hw9]) | (rw [i64_w, hw9]), ⟨hfin⟩, ⟨hI6⟩⟩
          · have d1 : decide ((n : Int) < (m : Int)) = false := decide_eq_false (by omega)
            obtain rfl : n = m := by omega
            go_wp2
            go_ret
            exact ⟨_, rfl, hI.out.row hgw hmc hcm, hI.out.bel⟩
      · rw [if_neg c3] at h; exact absurd h (by simp)
    · rw [if_neg c2] at h; exact absurd h (by simp)
  · rw [if_neg c1] at h; exact absurd h (by simp)

/-! ### impl_floorMod: function 121 -/
def impl_floorMod.f (a0 : Int) (a1 : Int) : Option (Int) := if a1 = 0 then (none) else (some (Int.tmod (wrap64 ((Int.tmod a0 a1) + a1)) a1))
set_option maxHeartbeats 8000000 in
set_option maxRecDepth 100000 in
theorem impl_floorMod.calls (a0 : Int) (a1 : Int) (r : Int) (w : World) (h : impl_floorMod.f a0 a1 = some r) :
    Calls Try.prog 121 #[.int .i64 a0, .int .i64 a1] w fun e w' => e = .returned (.int .i64 r) ∧ Drawn0 w w' := by
 have H : (if a1 = 0 then (none) else (some (Int.tmod (wrap64 ((Int.tmod a0 a1) + a1)) a1))) = some r := h; clear h; by_cases c3 : a1 = 0
 · rw [if_pos c3] at H; exact absurd H (by simp)
 · rw [if_neg c3] at H; have c3b0 : (a1 == 0) = false := beq_eq_false_iff_ne.mpr c3; have c3b1 : (a1 != 0) = true := bne_iff_ne.mpr c3; obtain rfl := Option.some.inj H; go_enter Try.func121, Try.ntmps121; go_wp2; go_ret; exact ⟨by first | rfl | (simp; done) | (simp [i64_w, i32_w]; done) | (simp [*]; done) | (simp [*, i64_w, i32_w]; done), by repeat (first | exact Drawn0.refl _ | apply Drawn0.step)⟩

end Go.Proofs.Ytacjknmphgpjaaa.PFnExactLearnTable

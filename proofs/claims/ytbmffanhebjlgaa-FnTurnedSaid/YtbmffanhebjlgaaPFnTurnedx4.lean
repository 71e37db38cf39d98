-- Written by a program of this session (its own print).
import Derived.Test.YtbmffanhebjlgaaPFnTurnedx3
import Derived.Test.YtbmffanhebjlgaaPFnTurnedx0
import Derived.Test.YtbmffanhebjlgaaPFnTurnedx1
import Derived.Test.YtbmffanhebjlgaaPFnTurnedx2
namespace Go.Proofs.Ytbmffanhebjlgaa.PFnTurned
open Go.RowKit Go.Proofs.YtbmffanhebjlgaaW.PrintWords Go.Proofs.YtbmffanhebjlgaaW.PrintLast Go.Proofs.YtbmffanhebjlgaaW.PrintMore
attribute [local go_sem] max2_int min2_int max_two min_two max_three min_three max_four min_four   -- for this text's walks alone
set_option linter.unusedVariables false
set_option linter.unusedSimpArgs false

/-! ### impl_RowsOfRing: function 20 -/
mutual
def impl_RowsOfRing.j0 : Nat → List Int → Int → Bool → Int → Int → List Int → Option ((List (List Int)) × Bool)
  | 0, _, _, _, _, _, _ => none
  | k + 1, x1, x2, x19, x395000, x395001, x395002 => if x19 = true then (some (([] : List (List Int)), false)) else ((slices_Clone_int64_int64.f x1).bind fun t400 => (impl_RowsOfRing.l0 k (([t400] : List (List Int))) x2 0 x395000 x395001 x395002))
def impl_RowsOfRing.l0 : Nat → List (List Int) → Int → Int → Int → Int → List Int → Option ((List (List Int)) × Bool)
  | 0, _, _, _, _, _, _ => none
  | k + 1, x8, x23, x24, x395000, x395001, x395002 => if x24 < x23 then (if 0 ≤ x24 then (if x24 < (x8.length : Int) then ((impl_Rule_step.f k x395000 x395001 x395002 (rd_L2 x8 x24)).bind fun t407 => (if x8.length < 5864062014805 then (impl_RowsOfRing.l0 k (x8 ++ [t407]) x23 (wrap64 (x24 + 1)) x395000 x395001 x395002) else (none))) else (none)) else (none)) else (some (x8, true))
end
def impl_RowsOfRing.f (k : Nat) (a0_0 : Int) (a0_1 : Int) (l0_2 : List Int) (l1 : List Int) (a2 : Int) : Option ((List (List Int)) × Bool) := (impl_ringed.f k a0_0 a0_1 l0_2 (([l1] : List (List Int)))).bind fun t398 => (if t398 = true then ((impl_within.f a2 0 64).bind fun t399 => (impl_RowsOfRing.j0 k l1 a2 (!t399) a0_0 a0_1 l0_2)) else (impl_RowsOfRing.j0 k l1 a2 true a0_0 a0_1 l0_2))
theorem impl_RowsOfRing.mono_l : ∀ k, (∀ y0 y1 y2 y3 y4 y5, LeO (impl_RowsOfRing.j0 k y0 y1 y2 y3 y4 y5) (impl_RowsOfRing.j0 (k + 1) y0 y1 y2 y3 y4 y5)) ∧ (∀ y0 y1 y2 y3 y4 y5, LeO (impl_RowsOfRing.l0 k y0 y1 y2 y3 y4 y5) (impl_RowsOfRing.l0 (k + 1) y0 y1 y2 y3 y4 y5))
  | 0 => ⟨fun _ _ _ _ _ _ r h => by simp [impl_RowsOfRing.j0] at h, fun _ _ _ _ _ _ r h => by simp [impl_RowsOfRing.l0] at h⟩
  | k + 1 => by
    obtain ⟨ih0, ih1⟩ := impl_RowsOfRing.mono_l k
    refine ⟨?_, ?_⟩
    · intro y0 y1 y2 y3 y4 y5
      unfold impl_RowsOfRing.j0
      repeat' first
      | (with_reducible exact ih0 _ _ _ _ _ _)
      | (with_reducible exact ih1 _ _ _ _ _ _)
      | (with_reducible exact impl_Rule_step.mono _ _ _ _ _)
      | (with_reducible exact impl_ringed.mono _ _ _ _ _)
      | (with_reducible exact LeO.refl _)
      | (with_reducible exact LeO.none _)
      | (with_reducible refine LeO.ite ?_ ?_)
      | (with_reducible refine LeO.bind ?_ (fun _ => ?_))
      | exact ih0 _ _ _ _ _ _
      | exact ih1 _ _ _ _ _ _
      | exact impl_Rule_step.mono _ _ _ _ _
      | exact impl_ringed.mono _ _ _ _ _
      | exact LeO.none _
      | refine LeO.ite ?_ ?_
      | refine LeO.bind ?_ (fun _ => ?_)
    · intro y0 y1 y2 y3 y4 y5
      unfold impl_RowsOfRing.l0
      repeat' first
      | (with_reducible exact ih0 _ _ _ _ _ _)
      | (with_reducible exact ih1 _ _ _ _ _ _)
      | (with_reducible exact impl_Rule_step.mono _ _ _ _ _)
      | (with_reducible exact impl_ringed.mono _ _ _ _ _)
      | (with_reducible exact LeO.refl _)
      | (with_reducible exact LeO.none _)
      | (with_reducible refine LeO.ite ?_ ?_)
      | (with_reducible refine LeO.bind ?_ (fun _ => ?_))
      | exact ih0 _ _ _ _ _ _
      | exact ih1 _ _ _ _ _ _
      | exact impl_Rule_step.mono _ _ _ _ _
      | exact impl_ringed.mono _ _ _ _ _
      | exact LeO.none _
      | refine LeO.ite ?_ ?_
      | refine LeO.bind ?_ (fun _ => ?_)
theorem impl_RowsOfRing.mono : ∀ a0 a1 a2 a3 a4 k, LeO (impl_RowsOfRing.f k a0 a1 a2 a3 a4) (impl_RowsOfRing.f (k + 1) a0 a1 a2 a3 a4) := by
 intro a0 a1 a2 a3 a4 k; obtain ⟨ih0, ih1⟩ := impl_RowsOfRing.mono_l k; unfold impl_RowsOfRing.f; repeat' first
  | (with_reducible exact ih0 _ _ _ _ _ _)
  | (with_reducible exact ih1 _ _ _ _ _ _)
  | (with_reducible exact impl_Rule_step.mono _ _ _ _ _)
  | (with_reducible exact impl_ringed.mono _ _ _ _ _)
  | (with_reducible exact LeO.refl _)
  | (with_reducible exact LeO.none _)
  | (with_reducible refine LeO.ite ?_ ?_)
  | (with_reducible refine LeO.bind ?_ (fun _ => ?_))
  | exact ih0 _ _ _ _ _ _
  | exact ih1 _ _ _ _ _ _
  | exact impl_Rule_step.mono _ _ _ _ _
  | exact impl_ringed.mono _ _ _ _ _
  | exact LeO.none _
  | refine LeO.ite ?_ ?_
  | refine LeO.bind ?_ (fun _ => ?_)
def impl_RowsOfRing.T7 : Bool × List (List Nat × List Nat) := (true, [([], []), ([], []), ([], []), ([], []), ([2, 3], [2, 3]), ([4], [4]), ([1, 5], [1, 5]), ([6], [6]), ([0, 7, 6], [0, 7]), ([8, 8, 0, 1, 2, 3, 4, 5, 6, 7, 8], [0, 2, 8])])
def impl_RowsOfRing.B7 : List Nat := [0, 0, 0, 0, 12, 28, 62, 126, 255, 511]
theorem impl_RowsOfRing.tab7 : rtab .any (opsOf Try.f20 7) = impl_RowsOfRing.T7 := by kernel_rfl
theorem impl_RowsOfRing.bits7 : waitsOk impl_RowsOfRing.T7.2 impl_RowsOfRing.B7 = true := by kernel_rfl
set_option maxHeartbeats 8000000 in
set_option maxRecDepth 100000 in
theorem impl_RowsOfRing.calls (k : Nat) (a0_0 : Int) (a0_1 : Int) (A0_2 : Option Addr) (c0_2 : Nat) (l0_2 : List Int) (P1_ : Nat → Prop) (A1 : Option Addr) (c1 : Nat) (l1 : List Int) (a2 : Int) (r1 : List (List Int)) (r2 : Bool) (w : World) (hr0_2 : Kd.C (Kd.int .i64) w A0_2 l0_2.length l0_2) (hc0_2 : l0_2.length ≤ c0_2) (hs1 : Kd.V (Kd.int .i64) 2 w w.heap.size (fun k_ => P1_ k_) (.slice A1 l1.length c1) l1) (h : impl_RowsOfRing.f k a0_0 a0_1 l0_2 l1 a2 = some (r1, r2)) :
    Calls Try.prog 20 #[.agg #[.int .i64 a0_0, .int .i64 a0_1, .slice A0_2 l0_2.length c0_2], .slice A1 l1.length c1, .int .i64 a2] w fun e w' => ∃ v0_ : Value, e = .returned (.tuple #[v0_, .bool r2]) ∧ Kd.N (Kd.slice 2 (Kd.int .i64)) 25 w' w.heap.size (fun k_ => (P1_ k_ ∨ w.heap.size ≤ k_)) v0_ r1 ∧ Below w.heap.size w w' := by
 have hu27 := Try.underlying27; have HR0_2 := Aside0.mk hr0_2; have HC0_2 := Aside0.mk hc0_2; clear hr0_2 hc0_2; have HO1 := Aside0.mk (show Kd.V (Kd.int .i64) 2 w w.heap.size (fun k_ => (P1_ k_ ∨ w.heap.size ≤ k_)) (.slice A1 l1.length c1) l1 from Kd.V_mono hs1 (fun k_ hk => .inl hk)); have HB := Aside0.mk (Below.refl w.heap.size w); have H : ((impl_ringed.f k a0_0 a0_1 l0_2 (([l1] : List (List Int)))).bind fun t398 => (if t398 = true then ((impl_within.f a2 0 64).bind fun t399 => (impl_RowsOfRing.j0 k l1 a2 (!t399) a0_0 a0_1 l0_2)) else (impl_RowsOfRing.j0 k l1 a2 true a0_0 a0_1 l0_2))) = some (r1, r2) := h; clear h; have HC4 := Aside0.mk H; clear H; go_enter Try.func20, Try.ntmps20; go_upto_region 1 with (first | ((with_reducible refine gate_dst (N := 3) rfl ?_); refine box_event ?hg (N := 3) ?hd (cs := #[.int .i64 a0_0, .int .i64 a0_1, .slice A0_2 l0_2.length c0_2]) (t := 27) ?hr ?_; (case hd => rfl); (case hg => rfl); (case hr => first | (go_simp; done) | (go_simp; rfl)); intro gb394 hg w5 hbox hb; replace HO1 := Aside0.mk (Kd.V_below (Kd.V_elderB (by (with_reducible repeat (first | apply Kd.V_alloc | apply Kd.V_drewN | apply Kd.V_drew)); exact HO1.out) gb394 (Nat.le_of_eq hg.symm)) hb); have BK394 := Aside0.mk (hbox); have GW394 := Aside0.mk ((by rw [hg]; exact (below_size (bk_ HB.out)) : w.heap.size ≤ gb394)); have GE394 := Aside0.mk ((by rw [hg]; exact (below_size (bk_ HB.out)) : w.heap.size ≤ gb394)); replace HB := Aside0.mk (below_step (bk_ HB.out) hb); clear hb hbox hg))
 (try simp only [Act.put, List.setIfInBounds_toArray, List.set_cons_zero, List.set_cons_succ]); go_cut [19] (fun v19 wc => ∃ (kq : Nat) (x19_3 : Bool), v19 = .bool x19_3 ∧ Aside0 (impl_RowsOfRing.j0 kq l1 a2 x19_3 a0_0 a0_1 l0_2 = some (r1, r2)) ∧ Aside0 (kq ≤ k) ∧ Aside0 (Kd.V (Kd.int .i64) 2 wc w.heap.size (fun k_ => (P1_ k_ ∨ w.heap.size ≤ k_) ∧ k_ ≠ gb394) (.slice A1 l1.length c1) l1) ∧ Aside0 (wc.heap[gb394]? = some (.cells #[.int .i64 a0_0, .int .i64 a0_1, (.slice A0_2 l0_2.length c0_2)] 27 (0, 0))) ∧ Aside0 (Below w.heap.size w wc)); case first =>
  have H := HC4.out; clear HC4; obtain ⟨y395, hy395⟩ : ∃ y_ : List (List Int), y_ = (([l1] : List (List Int))) := ⟨_, rfl⟩; replace H : ((impl_ringed.f k a0_0 a0_1 l0_2 y395).bind fun t398 => (if t398 = true then ((impl_within.f a2 0 64).bind fun t399 => (impl_RowsOfRing.j0 k l1 a2 (!t399) a0_0 a0_1 l0_2)) else (impl_RowsOfRing.j0 k l1 a2 true a0_0 a0_1 l0_2))) = some (r1, r2) := by first | (rw [hy395]; with_reducible exact H) | (have H2_ := (Option.bind_some _ _).symm.trans H; rw [hy395]; with_reducible exact H2_) | (have H2_ := (Option.bind_some _ _).symm.trans H; with_reducible exact H2_) | with_reducible exact H | (rw [hy395]; exact H) | exact H
  have Ny395 := Aside0.mk hy395; clear hy395; replace H := Option.bind_eq_some_iff.mp H; obtain ⟨t398, A60, H⟩ := H; replace H : (if t398 = true then ((impl_within.f a2 0 64).bind fun t399 => (impl_RowsOfRing.j0 k l1 a2 (!t399) a0_0 a0_1 l0_2)) else (impl_RowsOfRing.j0 k l1 a2 true a0_0 a0_1 l0_2)) = some (r1, r2) := H; have A6 := Aside0.mk A60; clear A60; by_cases c7 : t398 = true
  · subst c7; have H1 : ((impl_within.f a2 0 64).bind fun t399 => (impl_RowsOfRing.j0 k l1 a2 (!t399) a0_0 a0_1 l0_2)) = some (r1, r2) := by rw [if_pos rfl] at H; exact H
    clear H; have H := H1; clear H1; replace H := Option.bind_eq_some_iff.mp H; obtain ⟨t399, A80, H⟩ := H; replace H : (impl_RowsOfRing.j0 k l1 a2 (!t399) a0_0 a0_1 l0_2) = some (r1, r2) := H; have A8 := Aside0.mk A80; clear A80; have H' := Aside0.mk H; clear H; have hcz9_0 := bc_ BK394.out 0 (.int .i64 a0_0); have hcz9_1 := bc_ BK394.out 1 (.int .i64 a0_1); have hcz9_2 := bc_ BK394.out 2 (.slice A0_2 l0_2.length c0_2); have hfz9_0 := blk_frozen BK394.out 0; have hfz9_1 := blk_frozen BK394.out 1; have hfz9_2 := blk_frozen BK394.out 2; go_wp2_with (first | ((with_reducible refine gate_dst (N := 12) rfl ?_); refine Kd.N_lit (Kd.slice 2 (Kd.int .i64)) _ 25 ?hg (N' := 12) ?hd (xs := ([l1] : List (List Int))) (inner := [.slice A1 l1.length c1]) (ok := (fun k_ => (P1_ k_ ∨ w.heap.size ≤ k_) ∧ k_ ≠ gb394)) (okp := (fun k_ => (P1_ k_ ∨ w.heap.size ≤ k_) ∧ k_ ≠ gb394)) ?hr ?hp (fun _ hk => hk) ((show ∀ k_, w5.heap.size ≤ k_ → (fun k_ => (P1_ k_ ∨ w.heap.size ≤ k_) ∧ k_ ≠ gb394) k_ from fun k_ hk => ⟨(.inr (Nat.le_trans (below_size (bk_ HB.out)) hk)), Kd.freshB (g := gb394) (o := .cells #[.int .i64 a0_0, .int .i64 a0_1, .slice A0_2 l0_2.length c0_2] 27 (0, 0)) (pk_ BK394.out) k_ hk⟩) _ (Nat.le_refl _)) (Below.refl _ _) (Nat.le_refl _) (by simp) ?_; (case hd => rfl); (case hg => rfl); (case hr => first | (go_simp; done) | (go_simp; rfl)); (case hp => exact (Reps.one (show Kd.FK (Kd.slice 2 (Kd.int .i64)) _ _ l1 [.slice A1 l1.length c1] from (Kd.FK_slice_mk (Kd.V_reads' (Kd.V_mono (ok' := (fun k_ => (P1_ k_ ∨ w.heap.size ≤ k_) ∧ k_ ≠ gb394)) (HO1.out) (fun k_ hk => ⟨hk.1, hk.2⟩))).2.1 (Kd.V_F (Kd.V_mono (ok' := (fun k_ => (P1_ k_ ∨ w.heap.size ≤ k_) ∧ k_ ≠ gb394)) (HO1.out) (fun k_ hk => ⟨hk.1, hk.2⟩))))) (Reps.none _ _))); intro v396 w10 ho11 hb hg_ hnew_; clear hg_ hnew_; (first | rw [← Ny395.out] at ho11 | (simp only [Int.reduceToNat] at ho11; rw [← Ny395.out] at ho11)); replace HO1 := Aside0.mk (Kd.V_elder' (by (with_reducible repeat (first | apply Kd.V_alloc | apply Kd.V_drewN | apply Kd.V_drew)); exact HO1.out) (Kd.N_base ho11) hb); have HO397 := Aside0.mk (Kd.N_lower ho11 (below_size (bk_ HB.out))); replace BK394 := Aside0.mk (bb_ BK394.out hb); replace HB := Aside0.mk (below_step (bk_ HB.out) hb); clear hb ho11; obtain ⟨Ao12, co12, eo12⟩ := Kd.N_slice HO397.out; subst eo12) | ((with_reducible refine gate_callee (f := 45) rfl ?_); refine gL_ (some 13) Try.func45 #[.agg #[.int .i64 a0_0, .int .i64 a0_1, .slice A0_2 l0_2.length c0_2], .slice Ao12 y395.length co12] ?_; (with_reducible refine (impl_ringed.calls k a0_0 a0_1 _ _ l0_2 _ _ y395 true _ ?side1 ?side2 ?side3 ?side4 A6.out).mono ?_); (case side1 => exact ck_ (Kd.C_below HR0_2.out HB.out)); (case side2 => exact HC0_2.out); (case side3 => repeat (first | exact (Kd.N_reads' HO397.out).2.2 | (with_reducible refine Kd.C_alloc ?_ _) | (with_reducible refine Kd.C_drewN ?_ _) | (with_reducible refine Kd.C_drew ?_))); (case side4 => exact (Kd.N_reads' HO397.out).2.1); rintro e w13 ⟨rfl, hb⟩; refine ⟨_, rfl, ?_⟩; replace HO1 := Aside0.mk (Kd.V_below (by (with_reducible repeat (first | apply Kd.V_alloc | apply Kd.V_drewN | apply Kd.V_drew)); exact HO1.out) hb); replace HO397 := Aside0.mk (Kd.N_below (by (with_reducible repeat (first | apply Kd.N_alloc | apply Kd.N_drewN | apply Kd.N_drew)); exact HO397.out) hb); replace BK394 := Aside0.mk (bb_ BK394.out hb); replace HB := Aside0.mk (below_step (bk_ HB.out) hb); (try clear hb); (try clear hb2); (try clear hk); (try clear hi)) | (go_at_call 28; (with_reducible refine (impl_within.calls a2 0 64 t399 _ A8.out).mono ?_); rintro e w' ⟨rfl, ⟨nd, rfl⟩⟩))
    go_meet; case rel => exact ⟨_, (!t399), (by first | rfl | (simp; done) | (simp [i64_w, i32_w]; done) | (simp [*]; done) | (simp [*, i64_w, i32_w]; done)), H', ⟨by first | omega | exact Nat.le_refl _⟩, ⟨by (with_reducible repeat (first | apply Kd.V_alloc | apply Kd.V_drewN | apply Kd.V_drew)); exact Kd.V_mono HO1.out (fun _ hk => ⟨hk.1.1, hk.1.2⟩)⟩, ⟨pk_ BK394.out⟩, ⟨bk_ HB.out⟩⟩
  · replace c7 := Bool.eq_false_iff.mpr c7; subst c7; have H1 : (impl_RowsOfRing.j0 k l1 a2 true a0_0 a0_1 l0_2) = some (r1, r2) := by rw [if_neg (show ¬ (false = true) by decide)] at H; exact H
    clear H; have H := H1; clear H1; have H' := Aside0.mk H; clear H; have hcz14_0 := bc_ BK394.out 0 (.int .i64 a0_0); have hcz14_1 := bc_ BK394.out 1 (.int .i64 a0_1); have hcz14_2 := bc_ BK394.out 2 (.slice A0_2 l0_2.length c0_2); have hfz14_0 := blk_frozen BK394.out 0; have hfz14_1 := blk_frozen BK394.out 1; have hfz14_2 := blk_frozen BK394.out 2; go_wp2_with (first | ((with_reducible refine gate_dst (N := 12) rfl ?_); refine Kd.N_lit (Kd.slice 2 (Kd.int .i64)) _ 25 ?hg (N' := 12) ?hd (xs := ([l1] : List (List Int))) (inner := [.slice A1 l1.length c1]) (ok := (fun k_ => (P1_ k_ ∨ w.heap.size ≤ k_) ∧ k_ ≠ gb394)) (okp := (fun k_ => (P1_ k_ ∨ w.heap.size ≤ k_) ∧ k_ ≠ gb394)) ?hr ?hp (fun _ hk => hk) ((show ∀ k_, w5.heap.size ≤ k_ → (fun k_ => (P1_ k_ ∨ w.heap.size ≤ k_) ∧ k_ ≠ gb394) k_ from fun k_ hk => ⟨(.inr (Nat.le_trans (below_size (bk_ HB.out)) hk)), Kd.freshB (g := gb394) (o := .cells #[.int .i64 a0_0, .int .i64 a0_1, .slice A0_2 l0_2.length c0_2] 27 (0, 0)) (pk_ BK394.out) k_ hk⟩) _ (Nat.le_refl _)) (Below.refl _ _) (Nat.le_refl _) (by simp) ?_; (case hd => rfl); (case hg => rfl); (case hr => first | (go_simp; done) | (go_simp; rfl)); (case hp => exact (Reps.one (show Kd.FK (Kd.slice 2 (Kd.int .i64)) _ _ l1 [.slice A1 l1.length c1] from (Kd.FK_slice_mk (Kd.V_reads' (Kd.V_mono (ok' := (fun k_ => (P1_ k_ ∨ w.heap.size ≤ k_) ∧ k_ ≠ gb394)) (HO1.out) (fun k_ hk => ⟨hk.1, hk.2⟩))).2.1 (Kd.V_F (Kd.V_mono (ok' := (fun k_ => (P1_ k_ ∨ w.heap.size ≤ k_) ∧ k_ ≠ gb394)) (HO1.out) (fun k_ hk => ⟨hk.1, hk.2⟩))))) (Reps.none _ _))); intro v396 w15 ho16 hb hg_ hnew_; clear hg_ hnew_; (first | rw [← Ny395.out] at ho16 | (simp only [Int.reduceToNat] at ho16; rw [← Ny395.out] at ho16)); replace HO1 := Aside0.mk (Kd.V_elder' (by (with_reducible repeat (first | apply Kd.V_alloc | apply Kd.V_drewN | apply Kd.V_drew)); exact HO1.out) (Kd.N_base ho16) hb); have HO397 := Aside0.mk (Kd.N_lower ho16 (below_size (bk_ HB.out))); replace BK394 := Aside0.mk (bb_ BK394.out hb); replace HB := Aside0.mk (below_step (bk_ HB.out) hb); clear hb ho16; obtain ⟨Ao17, co17, eo17⟩ := Kd.N_slice HO397.out; subst eo17) | ((with_reducible refine gate_callee (f := 45) rfl ?_); refine gL_ (some 13) Try.func45 #[.agg #[.int .i64 a0_0, .int .i64 a0_1, .slice A0_2 l0_2.length c0_2], .slice Ao17 y395.length co17] ?_; (with_reducible refine (impl_ringed.calls k a0_0 a0_1 _ _ l0_2 _ _ y395 false _ ?side1 ?side2 ?side3 ?side4 A6.out).mono ?_); (case side1 => exact ck_ (Kd.C_below HR0_2.out HB.out)); (case side2 => exact HC0_2.out); (case side3 => repeat (first | exact (Kd.N_reads' HO397.out).2.2 | (with_reducible refine Kd.C_alloc ?_ _) | (with_reducible refine Kd.C_drewN ?_ _) | (with_reducible refine Kd.C_drew ?_))); (case side4 => exact (Kd.N_reads' HO397.out).2.1); rintro e w18 ⟨rfl, hb⟩; refine ⟨_, rfl, ?_⟩; replace HO1 := Aside0.mk (Kd.V_below (by (with_reducible repeat (first | apply Kd.V_alloc | apply Kd.V_drewN | apply Kd.V_drew)); exact HO1.out) hb); replace HO397 := Aside0.mk (Kd.N_below (by (with_reducible repeat (first | apply Kd.N_alloc | apply Kd.N_drewN | apply Kd.N_drew)); exact HO397.out) hb); replace BK394 := Aside0.mk (bb_ BK394.out hb); replace HB := Aside0.mk (below_step (bk_ HB.out) hb); (try clear hb); (try clear hb2); (try clear hk); (try clear hi)))
    go_meet; case rel => exact ⟨_, (true), (by first | rfl | (simp; done) | (simp [i64_w, i32_w]; done) | (simp [*]; done) | (simp [*, i64_w, i32_w]; done)), H', ⟨by first | omega | exact Nat.le_refl _⟩, ⟨by (with_reducible repeat (first | apply Kd.V_alloc | apply Kd.V_drewN | apply Kd.V_drew)); exact Kd.V_mono HO1.out (fun _ hk => ⟨hk.1.1, hk.1.2⟩)⟩, ⟨pk_ BK394.out⟩, ⟨bk_ HB.out⟩⟩
 case rest =>
  clear HC4; (try clear c1); (try clear c2); (try clear p2); (try clear c4); (try clear c7); (try clear hcz14_0); (try clear hcz14_1); (try clear hcz14_2); (try clear hcz9_0); (try clear hcz9_1); (try clear hcz9_2); (try clear hfz14_0); (try clear hfz14_1); (try clear hfz14_2); (try clear hfz9_0); (try clear hfz9_1); (try clear hfz9_2); obtain ⟨kq, x19_3, rfl, HA, HJ3, HO_1, BK394, HB⟩ := hcut; cases kq with
  | zero => exact absurd HA.out (by simp [impl_RowsOfRing.j0])
  | succ kj3 =>
   have H := HA.out; clear HA; simp only [impl_RowsOfRing.j0] at H; by_cases c19 : x19_3 = true
   · subst c19; have H1 : (some (([] : List (List Int)), false)) = some (r1, r2) := by rw [if_pos rfl] at H; exact H
     clear H; have H := H1; clear H1; simp only [Option.some.injEq, Prod.mk.injEq] at H; obtain ⟨rfl, rfl⟩ := H; go_wp2; go_ret2; exact ⟨_, by first | rfl | (simp [errW_none, errW_some] <;> rfl) | (simp [*, errW_none, errW_some] <;> rfl), by first | exact Kd.S_nil _ _ _ _ _ | exact Kd.N_nil _ _ _ _ _ | exact Kd.V_nil _ _ _ _ _ | exact Kd.Q_nil _ _ _ _ _ | exact Kd.R_nil _ _ _ _ _, bk_ HB.out⟩
   · replace c19 := Bool.eq_false_iff.mpr c19; subst c19; have H1 : ((slices_Clone_int64_int64.f l1).bind fun t400 => (impl_RowsOfRing.l0 kj3 (([t400] : List (List Int))) a2 0 a0_0 a0_1 l0_2)) = some (r1, r2) := by rw [if_neg (show ¬ (false = true) by decide)] at H; exact H
     clear H; have H := H1; clear H1; replace H := Option.bind_eq_some_iff.mp H; obtain ⟨t400, A200, H⟩ := H; replace H : (impl_RowsOfRing.l0 kj3 (([t400] : List (List Int))) a2 0 a0_0 a0_1 l0_2) = some (r1, r2) := H; have A20 := Aside0.mk A200; clear A200; obtain ⟨y403, hy403⟩ : ∃ y_ : List (List Int), y_ = (([t400] : List (List Int))) := ⟨_, rfl⟩; replace H : (impl_RowsOfRing.l0 kj3 y403 a2 0 a0_0 a0_1 l0_2) = some (r1, r2) := by first | (rw [hy403]; with_reducible exact H) | (have H2_ := (Option.bind_some _ _).symm.trans H; rw [hy403]; with_reducible exact H2_) | (have H2_ := (Option.bind_some _ _).symm.trans H; with_reducible exact H2_) | with_reducible exact H | (rw [hy403]; exact H) | exact H
     have Ny403 := Aside0.mk hy403; clear hy403; have H' := Aside0.mk H; clear H; go_wp2_with (first | ((with_reducible refine gate_callee (f := 43) rfl ?_); refine gL_ (some 21) Try.func43 #[.slice A1 l1.length c1] ?_; (with_reducible refine (slices_Clone_int64_int64.calls _ _ l1 t400 _ ?side1 ?side2 A20.out).mono ?_); (case side1 => repeat (first | exact (Kd.V_reads' HO_1.out).2.2 | (with_reducible refine Kd.C_alloc ?_ _) | (with_reducible refine Kd.C_drewN ?_ _) | (with_reducible refine Kd.C_drew ?_))); (case side2 => exact (Kd.V_reads' HO_1.out).2.1); rintro e w21 ⟨v401, rfl, ho0, hb⟩; refine ⟨_, rfl, ?_⟩; replace HO_1 := Aside0.mk (Kd.V_elder' (by (with_reducible repeat (first | apply Kd.V_alloc | apply Kd.V_drewN | apply Kd.V_drew)); exact HO_1.out) (Kd.R_base ho0) hb); have HO402 := Aside0.mk (Kd.R_lower (Kd.R_newM (M := fun k_ => (w.heap.size ≤ k_)) ho0 (below_size (bk_ HB.out)) (fun k_ h_ => h_)) (below_size (bk_ HB.out))); replace BK394 := Aside0.mk (bb_ BK394.out hb); replace HB := Aside0.mk (below_step (bk_ HB.out) hb); (try clear hb); (try clear hb2); (try clear hk); (try clear hi); (try clear ho0); obtain ⟨Ao22, co22, eo22⟩ := Kd.R_slice HO402.out; subst eo22) | ((with_reducible refine gate_dst (N := 22) rfl ?_); refine Kd.N_lit (Kd.slice 2 (Kd.int .i64)) _ 25 ?hg (N' := 22) ?hd (xs := ([t400] : List (List Int))) (inner := [.slice Ao22 t400.length co22]) (ok := (fun k_ => (P1_ k_ ∨ w.heap.size ≤ k_) ∧ k_ ≠ gb394)) (okp := (fun k_ => (P1_ k_ ∨ w.heap.size ≤ k_) ∧ k_ ≠ gb394)) ?hr ?hp (fun _ hk => hk) ((show ∀ k_, w21.heap.size ≤ k_ → (fun k_ => (P1_ k_ ∨ w.heap.size ≤ k_) ∧ k_ ≠ gb394) k_ from fun k_ hk => ⟨(.inr (Nat.le_trans (below_size (bk_ HB.out)) hk)), Kd.freshB (g := gb394) (o := .cells #[.int .i64 a0_0, .int .i64 a0_1, .slice A0_2 l0_2.length c0_2] 27 (0, 0)) (pk_ BK394.out) k_ hk⟩) _ (Nat.le_refl _)) (Below.refl _ _) (Nat.le_refl _) (by simp) ?_; (case hd => rfl); (case hg => rfl); (case hr => first | (go_simp; done) | (go_simp; rfl)); (case hp => exact (Reps.one (show Kd.FK (Kd.slice 2 (Kd.int .i64)) _ _ t400 [.slice Ao22 t400.length co22] from (Kd.FK_slice_mk (Kd.R_reads' (Kd.R_mono (ok' := (fun k_ => (P1_ k_ ∨ w.heap.size ≤ k_) ∧ k_ ≠ gb394)) (Kd.R_types (HO402.out) BK394.out (by decide)) (fun k_ hk => ⟨(.inr (hk.1.1)), hk.2⟩))).2.1 (Kd.R_F (Kd.R_mono (ok' := (fun k_ => (P1_ k_ ∨ w.heap.size ≤ k_) ∧ k_ ≠ gb394)) (Kd.R_types (HO402.out) BK394.out (by decide)) (fun k_ hk => ⟨(.inr (hk.1.1)), hk.2⟩))))) (Reps.none _ _))); intro v404 w23 ho24 hb hg_ hnew_; clear hg_ hnew_; (first | rw [← Ny403.out] at ho24 | (simp only [Int.reduceToNat] at ho24; rw [← Ny403.out] at ho24)); replace HO_1 := Aside0.mk (Kd.V_elder' (by (with_reducible repeat (first | apply Kd.V_alloc | apply Kd.V_drewN | apply Kd.V_drew)); exact HO_1.out) (Kd.N_base ho24) hb); have HO405 := Aside0.mk (Kd.N_lower ho24 (below_size (bk_ HB.out))); replace BK394 := Aside0.mk (bb_ BK394.out hb); replace HB := Aside0.mk (below_step (bk_ HB.out) hb); clear HO402 hb ho24))
     go_loopg [8, 24] kj3 (fun kq v8 v24 w' => ∃ (x8_2 : List (List Int)) (x24_2 : Int), v24 = .int .i64 x24_2 ∧ Aside0 (impl_RowsOfRing.l0 kq x8_2 a2 x24_2 a0_0 a0_1 l0_2 = some (r1, r2)) ∧ Aside0 (kq ≤ kj3) ∧ Aside0 (Kd.N (Kd.slice 2 (Kd.int .i64)) 25 w' w.heap.size (fun k_ => (P1_ k_ ∨ w.heap.size ≤ k_) ∧ k_ ≠ gb394) v8 x8_2) ∧ Aside0 (w'.heap[gb394]? = some (.cells #[.int .i64 a0_0, .int .i64 a0_1, (.slice A0_2 l0_2.length c0_2)] 27 (0, 0))) ∧ Aside0 (Below w.heap.size w w')); case atStart => exact ⟨(y403), (0), (by first | rfl | (simp; done) | (simp [i64_w, i32_w]; done) | (simp [*]; done) | (simp [*, i64_w, i32_w]; done)), H', ⟨Nat.le_refl _⟩, ⟨by (with_reducible repeat (first | apply Kd.N_alloc | apply Kd.N_drewN | apply Kd.N_drew)); exact HO405.out⟩, ⟨pk_ BK394.out⟩, ⟨bk_ HB.out⟩⟩
     case round =>
      clear H'; (try clear c1); (try clear c2); (try clear p2); (try clear c4); (try clear c7); (try clear c19); (try clear c20); (try clear hcz14_0); (try clear hcz14_1); (try clear hcz14_2); (try clear hcz9_0); (try clear hcz9_1); (try clear hcz9_2); (try clear hfz14_0); (try clear hfz14_1); (try clear hfz14_2); (try clear hfz9_0); (try clear hfz9_1); (try clear hfz9_2); (try clear p2); obtain ⟨x8_2, x24_2, rfl, HA, HK2, HO_8, BK394, HB⟩ := hrel; cases gk with
      | zero => exact absurd HA.out (by simp [impl_RowsOfRing.l0])
      | succ k2 =>
       have H := HA.out; clear HA; simp only [impl_RowsOfRing.l0] at H; by_cases c25 : x24_2 < a2
       · rw [if_pos c25] at H; have c25b0 : decide (x24_2 < a2) = true := decide_eq_true c25; clear c25; by_cases c26 : 0 ≤ x24_2
         · rw [if_pos c26] at H; have c26b0 : decide (0 ≤ x24_2) = true := decide_eq_true c26; clear c26; by_cases c27 : x24_2 < (x8_2.length : Int)
           · rw [if_pos c27] at H; have c27b0 : decide (x24_2 < (x8_2.length : Int)) = true := decide_eq_true c27; clear c27; replace H := Option.bind_eq_some_iff.mp H; obtain ⟨t407, A280, H⟩ := H; replace H : (if x8_2.length < 5864062014805 then (impl_RowsOfRing.l0 k2 (x8_2 ++ [t407]) a2 (wrap64 (x24_2 + 1)) a0_0 a0_1 l0_2) else (none)) = some (r1, r2) := H; have A28 := Aside0.mk A280; clear A280; by_cases c29 : x8_2.length < 5864062014805
             · rw [if_pos c29] at H; have LMc29 := Aside0.mk c29; clear c29; obtain ⟨y410, hy410⟩ : ∃ y_ : List (List Int), y_ = (x8_2 ++ [t407]) := ⟨_, rfl⟩; replace H : (impl_RowsOfRing.l0 k2 y410 a2 (wrap64 (x24_2 + 1)) a0_0 a0_1 l0_2) = some (r1, r2) := by first | (rw [hy410]; with_reducible exact H) | (have H2_ := (Option.bind_some _ _).symm.trans H; rw [hy410]; with_reducible exact H2_) | (have H2_ := (Option.bind_some _ _).symm.trans H; with_reducible exact H2_) | with_reducible exact H | (rw [hy410]; exact H) | exact H
               have Ny410 := Aside0.mk hy410; clear hy410; have H' := Aside0.mk H; clear H; (try go_wp2); replace HO_8 := Aside0.mk (Kd.N_drew HO_8.out); replace BK394 := Aside0.mk (blk_drew BK394.out); replace HB := Aside0.mk (below_drew1 HB.out); obtain ⟨Ao31, co31, eo31⟩ := Kd.N_slice HO_8.out; (first | subst eo31 | (injection eo31 with f1_ f2_ f3_; have f4_ := f1_.symm; have f5_ := f3_.symm; clear f1_ f2_ f3_; subst f4_; subst f5_)); have p406 : 0 ≤ (x24_2 : Int) := of_decide_eq_true (by first | (with_reducible assumption) | assumption); have q406 : x24_2 < (x8_2.length : Int) := of_decide_eq_true (by first | (with_reducible assumption) | assumption); obtain ⟨ad406, A406_0, c406_0, e406, hx406_0, hl406_0, hi406_0⟩ := at_L2 (Kd.N_reads' HO_8.out).2.2 x24_2 p406 q406; cases e406
               obtain ⟨ce406, hce406, hMe406, hcc406⟩ := Kd.N_get HO_8.out [] x24_2 p406 (by first | exact q406 | exact of_decide_eq_true (by first | (with_reducible assumption) | assumption) | (have e_ := (Kd.N_reads' HO_8.out).1; omega)); obtain ⟨ua406_0, uc406_0, rfl, ul406_0, ge406_0⟩ := Kd.FK_slice_open hMe406; have hv406_0 := hcc406 0 _ rfl; rw [Nat.add_zero, show ((Kd.slice 2 (Kd.int .i64))).sz = 1 from rfl, Nat.mul_one] at hv406_0; replace hv406_0 := Option.some.inj (hv406_0.symm.trans hx406_0); injection hv406_0 with hva_ hvn_ hvc_; rw [hva_] at ge406_0; rw [hvc_] at ul406_0; have HL406_0 := Aside0.mk (show Kd.V (Kd.int .i64) 2 _ w.heap.size _ _ (rd_L2 x8_2 x24_2) from Kd.V_mk ul406_0 ge406_0); clear hva_ hvn_ hvc_ ge406_0 ul406_0 hcc406 hce406; have HR406_0 := Aside0.mk hi406_0; have HC406_0 := Aside0.mk hl406_0; clear hi406_0 hl406_0; replace p406 := eq_true p406; replace q406 := eq_true q406; refine start_ (n := 10) (S := fun w' => w'.cell? ⟨gb394, 0, none⟩ = some (.int .i64 a0_0) ∧ w'.cell? ⟨gb394, 1, none⟩ = some (.int .i64 a0_1) ∧ w'.cell? ⟨gb394, 2, none⟩ = some (.slice A0_2 l0_2.length c0_2) ∧ w'.cell? (ad406.add (x24_2).toNat) = some (.slice A406_0 (rd_L2 x8_2 x24_2).length c406_0)) (ds := [7, 8]) (bm_ 10 0) (by kernel_rfl) rfl rfl ⟨(blk_cell BK394.out 0).trans rfl, (blk_cell BK394.out 1).trans rfl, (blk_cell BK394.out 2).trans rfl, hx406_0⟩ (fun hHeld => ?_); refine with_tabW impl_RowsOfRing.tab7 impl_RowsOfRing.bits7 (fun HT_ HW_ => ?_); generalize wr.drew = w30 at HO_8 BK394 HB HL406_0 HR406_0 hx406_0 hHeld ⊢
               refine pV_ 0 27 (bm_ 10 1) HT_ ?_; refine pV_ 2 29 (bm_ 10 5) HT_ ?_; refine pV_ 3 30 (bm_ 10 13) HT_ ?_; refine pV_ 4 31 (bm_ 10 29) HT_ ?_; refine tV_ 1 28 (bm_ 10 31) HT_ HW_ hHeld rfl (by rintro w' ⟨s0, s1, s2, s3⟩; go_simp; (with_reducible rfl)) ?_; refine tV_ 5 32 (bm_ 10 63) HT_ HW_ hHeld rfl (by rintro w' ⟨s0, s1, s2, s3⟩; go_simp; (with_reducible rfl)) ?_
               refine one_ (i := 6) (N := some 33) (bm_ 10 127) rfl rfl (one_of HT_.out (by kernel_rfl)) (by decide) (fun K hK => ?_); refine gO_ Try.func46 #[.agg #[.int .i64 a0_0, .int .i64 a0_1, .slice A0_2 l0_2.length c0_2], .slice A406_0 (rd_L2 x8_2 x24_2).length c406_0] ?_; (with_reducible refine (impl_Rule_step.calls k2 a0_0 a0_1 _ _ l0_2 _ _ (rd_L2 x8_2 x24_2) t407 _ ?side1 ?side2 ?side3 ?side4 A28.out).mono ?_); (case side1 => exact ck_ (Kd.C_below HR0_2.out HB.out)); (case side2 => exact HC0_2.out); (case side3 => repeat (first | exact (by repeat (first | (with_reducible exact HR406_0.out) | (with_reducible refine Kd.C_alloc ?_ _) | (with_reducible refine Kd.C_drewN ?_ _) | (with_reducible refine Kd.C_drew ?_) | exact HR406_0.out)) | (with_reducible refine Kd.C_alloc ?_ _) | (with_reducible refine Kd.C_drewN ?_ _) | (with_reducible refine Kd.C_drew ?_))); (case side4 => exact HC406_0.out); rintro e w32 ⟨v408, rfl, ho0, hb⟩; have HS3_ := (hb.cell (World.block_lt_of_cell? _ _ (hHeld.2.2.2))).trans (hHeld.2.2.2); refine ⟨_, rfl, ?_⟩; replace HO_8 := Aside0.mk (Kd.N_elder' (by (with_reducible repeat (first | apply Kd.N_alloc | apply Kd.N_drewN | apply Kd.N_drew)); exact HO_8.out) (Kd.R_base ho0) hb); replace HL406_0 := Aside0.mk (Kd.V_elder' (by (with_reducible repeat (first | apply Kd.V_alloc | apply Kd.V_drewN | apply Kd.V_drew)); exact HL406_0.out) (Kd.R_base ho0) hb); have HO409 := Aside0.mk (Kd.R_lower (Kd.R_newM (M := fun k_ => (w.heap.size ≤ k_)) ho0 (below_size (bk_ HB.out)) (fun k_ h_ => h_)) (below_size (bk_ HB.out))); replace BK394 := Aside0.mk (bb_ BK394.out hb); replace HR406_0 := Aside0.mk (Kd.C_below (by repeat (first | (with_reducible exact HR406_0.out) | (with_reducible refine Kd.C_alloc ?_ _) | (with_reducible refine Kd.C_drewN ?_ _) | (with_reducible refine Kd.C_drew ?_) | exact HR406_0.out)) hb); replace HB := Aside0.mk (below_step (bk_ HB.out) hb); (try clear hb); (try clear hb2); (try clear hk); (try clear hi); (try clear ho0); obtain ⟨Ao34, co34, eo34⟩ := Kd.R_slice HO409.out; (first | subst eo34 | (injection eo34 with f1_ f2_ f3_; have f4_ := f1_.symm; have f5_ := f3_.symm; clear f1_ f2_ f3_; subst f4_; subst f5_)); refine hK.out _ _ ⟨(blk_cell BK394.out 0).trans rfl, (blk_cell BK394.out 1).trans rfl, (blk_cell BK394.out 2).trans rfl, HS3_⟩ (fun hHeld => ?_); clear hK K; refine norm_ (a' := ?_) ?_ ?_; rotate_left
               · show Act.put _ (some 33) _ = _
                 simp only [Act.put, List.setIfInBounds_toArray, List.set_cons_zero, List.set_cons_succ, i64_w, i32_w]; rfl
               refine last_ (i := 7) (N := some 34) (bm_ 10 255) rfl rfl (one_of HT_.out (by kernel_rfl)) (by decide) (fun K hK => ?_); refine value_ (w1 := ?_) (v := ?_) (by rfl) rfl ?_ ?_; rotate_left 2
               · go_simp; constructor
                 · rfl
                 · rfl
               refine hK.out _ _ ?_; clear hK K; refine norm_ (a' := ?_) ?_ ?_; rotate_left
               · show Act.put _ (some 34) _ = _
                 simp only [Act.put, List.setIfInBounds_toArray, List.set_cons_zero, List.set_cons_succ, i64_w, i32_w]; rfl
               refine last_ (i := 8) (N := some 35) (bm_ 10 511) rfl rfl (one_of HT_.out (by kernel_rfl)) (by decide) (fun K hK => ?_); refine Kd.N_append_step (Kd.slice 2 (Kd.int .i64)) (w0 := w) w.heap.size (by rfl) (.tmp 27) (.tmp 34) 42 25 (.slice none 0 0) 24 rfl Try.underlying42 info25 rfl (by decide) (by omega) (.slice (some ad406) x8_2.length co31) x8_2 t407 [.slice Ao34 t407.length co34] (fun k_ => (P1_ k_ ∨ w.heap.size ≤ k_) ∧ k_ ≠ gb394) (fun k_ => ((fun k_ => (P1_ k_ ∨ w.heap.size ≤ k_) ∧ k_ ≠ gb394)) k_ ∧ some k_ ≠ (.slice (some ad406) x8_2.length co31 : Value).ownBlock) rfl rfl ?aP (fun _ hk => hk) ?aF ?aO ?aB ?aS ?aL ?_; (case aP => exact (Kd.FK_slice_mk (Kd.R_reads' (Kd.R_mono (ok' := (fun k_ => ((fun k_ => (P1_ k_ ∨ w.heap.size ≤ k_) ∧ k_ ≠ gb394)) k_ ∧ some k_ ≠ (.slice (some ad406) x8_2.length co31 : Value).ownBlock)) (Kd.R_types (Kd.R_apart' (HO409.out) (Kd.N_typed HO_8.out) (by decide)) BK394.out (by decide)) (fun k_ hk => ⟨⟨(.inr (hk.1.1.1)), hk.2⟩, hk.1.2⟩))).2.1 (Kd.R_F (Kd.R_mono (ok' := (fun k_ => ((fun k_ => (P1_ k_ ∨ w.heap.size ≤ k_) ∧ k_ ≠ gb394)) k_ ∧ some k_ ≠ (.slice (some ad406) x8_2.length co31 : Value).ownBlock)) (Kd.R_types (Kd.R_apart' (HO409.out) (Kd.N_typed HO_8.out) (by decide)) BK394.out (by decide)) (fun k_ hk => ⟨⟨(.inr (hk.1.1.1)), hk.2⟩, hk.1.2⟩))))); (case aB => exact (bk_ HB.out)); (case aF => exact (fun k_ hk => ⟨(.inr (Nat.le_trans (below_size (bk_ HB.out)) hk)), Kd.freshB (g := gb394) (o := .cells #[.int .i64 a0_0, .int .i64 a0_1, .slice A0_2 l0_2.length c0_2] 27 (0, 0)) (pk_ BK394.out) k_ hk⟩))
               (case aO => exact (by (with_reducible repeat (first | apply Kd.N_alloc | apply Kd.N_drewN | apply Kd.N_drew)); exact Kd.N_mono HO_8.out (fun _ hk => ⟨hk.1.1, hk.1.2⟩))); (case aS => exact (below_size (bk_ HB.out))); (case aL => have := LMc29.out; omega); intro v411 w33 ho hb hg hat; rw [← Ny410.out] at ho; replace BK394 := Aside0.mk (bg_ BK394.out hg (Kd.N_ne HO_8.out BK394.out (by decide))); replace HL406_0 := Aside0.mk (Kd.V_afterv (ok := (fun k_ => (P1_ k_ ∨ w.heap.size ≤ k_) ∧ some k_ ≠ (.slice Ao34 t407.length co34 : Value).ownBlock ∧ k_ ≠ gb394)) (by (with_reducible repeat (first | apply Kd.V_alloc | apply Kd.V_drewN | apply Kd.V_drew)); exact Kd.V_mono HL406_0.out (fun _ hk => ⟨⟨hk.1.1.1, ⟨hk.2, hk.1.1.2⟩⟩, hk.1.2⟩)) hg hat); replace HB := Aside0.mk (hb); have HO412 := Aside0.mk (ho); clear HO_8 HO409 ho hb hg hat; refine hK.out _ _ ?_; clear hK K; refine norm_ (a' := ?_) ?_ ?_; rotate_left
               · show Act.put _ (some 35) _ = _
                 simp only [Act.put, List.setIfInBounds_toArray, List.set_cons_zero, List.set_cons_succ, i64_w, i32_w]; rfl
               refine pV_ 9 8 (bm_ 10 1023) HT_ ?_
               refine done_ (done_of HT_.out (by kernel_rfl)) ?_; (try go_wp2); go_roundg k2; case measure => have := HJ3.out; have := HK2.out; omega
               case rel => exact ⟨(y410), (wrap64 (x24_2 + 1)), (by first | rfl | (simp; done) | (simp [i64_w, i32_w]; done) | (simp [*]; done) | (simp [*, i64_w, i32_w]; done)), H', ⟨by have := HJ3.out; have := HK2.out; omega⟩, ⟨by (with_reducible repeat (first | apply Kd.N_alloc | apply Kd.N_drewN | apply Kd.N_drew)); exact HO412.out⟩, ⟨pk_ BK394.out⟩, ⟨bk_ HB.out⟩⟩
             · rw [if_neg c29] at H; exact absurd H (by simp)
           · rw [if_neg c27] at H; exact absurd H (by simp)
         · rw [if_neg c26] at H; exact absurd H (by simp)
       · rw [if_neg c25] at H; have c25b0 : decide (x24_2 < a2) = false := decide_eq_false c25; clear c25; simp only [Option.some.injEq, Prod.mk.injEq] at H; obtain ⟨rfl, rfl⟩ := H; go_wp2; go_ret2; exact ⟨_, by first | rfl | (simp [errW_none, errW_some] <;> rfl) | (simp [*, errW_none, errW_some] <;> rfl), by (with_reducible repeat (first | apply Kd.N_alloc | apply Kd.N_drewN | apply Kd.N_drew)); exact Kd.N_mono HO_8.out (fun _ hk => hk.1), bk_ HB.out⟩

/-! ### impl_areWorkers: function 47 -/
def impl_areWorkers.f (a0 : Int) : Option (Bool) := (impl_within.f a0 1 8).bind fun t413 => (some t413)
set_option maxHeartbeats 8000000 in
set_option maxRecDepth 100000 in
theorem impl_areWorkers.calls (a0 : Int) (r : Bool) (w : World) (h : impl_areWorkers.f a0 = some r) :
    Calls Try.prog 47 #[.int .i64 a0] w fun e w' => e = .returned (.bool r) ∧ Drawn0 w w' := by
 have H : ((impl_within.f a0 1 8).bind fun t413 => (some t413)) = some r := h; clear h; replace H := Option.bind_eq_some_iff.mp H; obtain ⟨t413, A20, H⟩ := H; replace H : (some t413) = some r := H; have A2 := Aside0.mk A20; clear A20; obtain rfl := Option.some.inj H; go_enter Try.func47, Try.ntmps47; go_wp2_with (first | ((with_reducible refine gate_callee (f := 28) rfl ?_); refine gL_ (some 4) Try.func28 #[.int .i64 a0, .int .i64 1, .int .i64 8] ?_; (with_reducible refine (impl_within.calls a0 1 8 t413 _ A2.out).mono ?_); rintro e w' ⟨rfl, ⟨nd, rfl⟩⟩; refine ⟨_, rfl, ?_⟩)); go_ret; exact ⟨by first | rfl | (simp; done) | (simp [i64_w, i32_w]; done) | (simp [*]; done) | (simp [*, i64_w, i32_w]; done), by repeat (first | exact Drawn0.refl _ | apply Drawn0.step)⟩

/-! ### impl_RunsShared: function 22 -/
mutual
def impl_RunsShared.j0 : Nat → List (List Int) → Int → Bool → Int → Int → List Int → Option ((List (List Int)) × Bool)
  | 0, _, _, _, _, _, _ => none
  | k + 1, x1, x2, x27, x415000, x415001, x415002 => if x27 = true then (some (([] : List (List Int)), false)) else (impl_RunsShared.l0 k x2 (([] : List (List Int))) x1 (x1.length : Int) 0 x415000 x415001 x415002)
def impl_RunsShared.l0 : Nat → Int → List (List Int) → List (List Int) → Int → Int → Int → Int → List Int → Option ((List (List Int)) × Bool)
  | 0, _, _, _, _, _, _, _, _ => none
  | k + 1, x2, x10, x29, x30, x31, x415000, x415001, x415002 => if x31 < x30 then (if 0 ≤ x31 then (if x31 < (x29.length : Int) then ((impl_RunRing.f k x415000 x415001 x415002 (rd_L2 x29 x31) x2).bind fun bt420 => (if bt420.2 = true then (if x10.length < 5864062014805 then (impl_RunsShared.l0 k x2 (x10 ++ [bt420.1]) x29 x30 (wrap64 (x31 + 1)) x415000 x415001 x415002) else (none)) else (some (([] : List (List Int)), false)))) else (none)) else (none)) else (some (x10, true))
end
def impl_RunsShared.f (k : Nat) (a0_0 : Int) (a0_1 : Int) (l0_2 : List Int) (l1 : List (List Int)) (a2 : Int) (a3 : Int) : Option ((List (List Int)) × Bool) := if (l1.length : Int) < 1 then (impl_RunsShared.j0 k l1 a2 true a0_0 a0_1 l0_2) else (if (l1.length : Int) > 16 then (impl_RunsShared.j0 k l1 a2 true a0_0 a0_1 l0_2) else ((impl_areWorkers.f a3).bind fun t415 => (impl_RunsShared.j0 k l1 a2 (!t415) a0_0 a0_1 l0_2)))
theorem impl_RunsShared.mono_l : ∀ k, (∀ y0 y1 y2 y3 y4 y5, LeO (impl_RunsShared.j0 k y0 y1 y2 y3 y4 y5) (impl_RunsShared.j0 (k + 1) y0 y1 y2 y3 y4 y5)) ∧ (∀ y0 y1 y2 y3 y4 y5 y6 y7, LeO (impl_RunsShared.l0 k y0 y1 y2 y3 y4 y5 y6 y7) (impl_RunsShared.l0 (k + 1) y0 y1 y2 y3 y4 y5 y6 y7))
  | 0 => ⟨fun _ _ _ _ _ _ r h => by simp [impl_RunsShared.j0] at h, fun _ _ _ _ _ _ _ _ r h => by simp [impl_RunsShared.l0] at h⟩
  | k + 1 => by
    obtain ⟨ih0, ih1⟩ := impl_RunsShared.mono_l k
    refine ⟨?_, ?_⟩
    · intro y0 y1 y2 y3 y4 y5
      unfold impl_RunsShared.j0
      repeat' first
      | (with_reducible exact ih0 _ _ _ _ _ _)
      | (with_reducible exact ih1 _ _ _ _ _ _ _ _)
      | (with_reducible exact impl_RunRing.mono _ _ _ _ _ _)
      | (with_reducible exact LeO.refl _)
      | (with_reducible exact LeO.none _)
      | (with_reducible refine LeO.ite ?_ ?_)
      | (with_reducible refine LeO.bind ?_ (fun _ => ?_))
      | exact ih0 _ _ _ _ _ _
      | exact ih1 _ _ _ _ _ _ _ _
      | exact impl_RunRing.mono _ _ _ _ _ _
      | exact LeO.none _
      | refine LeO.ite ?_ ?_
      | refine LeO.bind ?_ (fun _ => ?_)
    · intro y0 y1 y2 y3 y4 y5 y6 y7
      unfold impl_RunsShared.l0
      repeat' first
      | (with_reducible exact ih0 _ _ _ _ _ _)
      | (with_reducible exact ih1 _ _ _ _ _ _ _ _)
      | (with_reducible exact impl_RunRing.mono _ _ _ _ _ _)
      | (with_reducible exact LeO.refl _)
      | (with_reducible exact LeO.none _)
      | (with_reducible refine LeO.ite ?_ ?_)
      | (with_reducible refine LeO.bind ?_ (fun _ => ?_))
      | exact ih0 _ _ _ _ _ _
      | exact ih1 _ _ _ _ _ _ _ _
      | exact impl_RunRing.mono _ _ _ _ _ _
      | exact LeO.none _
      | refine LeO.ite ?_ ?_
      | refine LeO.bind ?_ (fun _ => ?_)
theorem impl_RunsShared.mono : ∀ a0 a1 a2 a3 a4 a5 k, LeO (impl_RunsShared.f k a0 a1 a2 a3 a4 a5) (impl_RunsShared.f (k + 1) a0 a1 a2 a3 a4 a5) := by
 intro a0 a1 a2 a3 a4 a5 k; obtain ⟨ih0, ih1⟩ := impl_RunsShared.mono_l k; unfold impl_RunsShared.f; repeat' first
  | (with_reducible exact ih0 _ _ _ _ _ _)
  | (with_reducible exact ih1 _ _ _ _ _ _ _ _)
  | (with_reducible exact impl_RunRing.mono _ _ _ _ _ _)
  | (with_reducible exact LeO.refl _)
  | (with_reducible exact LeO.none _)
  | (with_reducible refine LeO.ite ?_ ?_)
  | (with_reducible refine LeO.bind ?_ (fun _ => ?_))
  | exact ih0 _ _ _ _ _ _
  | exact ih1 _ _ _ _ _ _ _ _
  | exact impl_RunRing.mono _ _ _ _ _ _
  | exact LeO.none _
  | refine LeO.ite ?_ ?_
  | refine LeO.bind ?_ (fun _ => ?_)
set_option maxHeartbeats 8000000 in
set_option maxRecDepth 100000 in
theorem impl_RunsShared.calls (k : Nat) (a0_0 : Int) (a0_1 : Int) (A0_2 : Option Addr) (c0_2 : Nat) (l0_2 : List Int) (A1 : Option Addr) (c1 : Nat) (l1 : List (List Int)) (a2 : Int) (a3 : Int) (r1 : List (List Int)) (r2 : Bool) (w : World) (hr0_2 : Kd.C (Kd.int .i64) w A0_2 l0_2.length l0_2) (hc0_2 : l0_2.length ≤ c0_2) (hr1 : Kd.C (Kd.slice 2 (Kd.int .i64)) w A1 l1.length l1) (hc1 : l1.length ≤ c1) (h : impl_RunsShared.f k a0_0 a0_1 l0_2 l1 a2 a3 = some (r1, r2)) :
    Calls Try.prog 22 #[.agg #[.int .i64 a0_0, .int .i64 a0_1, .slice A0_2 l0_2.length c0_2], .slice A1 l1.length c1, .int .i64 a2, .int .i64 a3] w fun e w' => ∃ v0_ : Value, e = .returned (.tuple #[v0_, .bool r2]) ∧ Kd.S (Kd.slice 2 (Kd.int .i64)) 25 w' w.heap.size (fun _ => True) v0_ r1 ∧ Below w.heap.size w w' := by
 have hu27 := Try.underlying27; have HR0_2 := Aside0.mk hr0_2; have HC0_2 := Aside0.mk hc0_2; clear hr0_2 hc0_2; have HR1 := Aside0.mk hr1; have HC1 := Aside0.mk hc1; clear hr1 hc1; have HB := Aside0.mk (Below.refl w.heap.size w); have H : (if (l1.length : Int) < 1 then (impl_RunsShared.j0 k l1 a2 true a0_0 a0_1 l0_2) else (if (l1.length : Int) > 16 then (impl_RunsShared.j0 k l1 a2 true a0_0 a0_1 l0_2) else ((impl_areWorkers.f a3).bind fun t415 => (impl_RunsShared.j0 k l1 a2 (!t415) a0_0 a0_1 l0_2)))) = some (r1, r2) := h; clear h; have HC5 := Aside0.mk H; clear H; go_enter Try.func22, Try.ntmps22; go_upto_region 1 with (first | ((with_reducible refine gate_dst (N := 4) rfl ?_); (try (refine gate_guard (by rfl) ?_; dsimp only)); refine box_event ?hg (N := 4) ?hd (cs := #[.int .i64 a0_0, .int .i64 a0_1, .slice A0_2 l0_2.length c0_2]) (t := 27) ?hr ?_; (case hd => rfl); (case hg => rfl); (case hr => first | (go_simp; done) | (go_simp; rfl)); intro gb414 hg w6 hbox hb; have BK414 := Aside0.mk (hbox); have GW414 := Aside0.mk ((by rw [hg]; exact (below_size (bk_ HB.out)) : w.heap.size ≤ gb414)); have GE414 := Aside0.mk ((by rw [hg]; exact (below_size (bk_ HB.out)) : w.heap.size ≤ gb414)); replace HB := Aside0.mk (below_step (bk_ HB.out) hb); clear hb hbox hg)); (try simp only [Act.put, List.setIfInBounds_toArray, List.set_cons_zero, List.set_cons_succ]); go_cut [27] (fun v27 wc => ∃ (kq : Nat) (x27_4 : Bool), v27 = .bool x27_4 ∧ Aside0 (impl_RunsShared.j0 kq l1 a2 x27_4 a0_0 a0_1 l0_2 = some (r1, r2)) ∧ Aside0 (kq ≤ k) ∧ Aside0 (wc.heap[gb414]? = some (.cells #[.int .i64 a0_0, .int .i64 a0_1, (.slice A0_2 l0_2.length c0_2)] 27 (0, 0))) ∧ Aside0 (Below w.heap.size w wc))
 case first =>
  have H := HC5.out; clear HC5; by_cases c7 : (l1.length : Int) < 1
  · rw [if_pos c7] at H; have c7b0 : decide ((l1.length : Int) < 1) = true := decide_eq_true c7; have c7b1 : decide (l1.length < 1) = true := decide_eq_true (by omega); clear c7; (first | rw [c7b0] | (simp only [i64_w, i32_w]; rw [c7b0]) | skip); have H' := Aside0.mk H; clear H; go_wp2; go_meet; case rel => exact ⟨_, (true), (by first | rfl | (simp; done) | (simp [i64_w, i32_w]; done) | (simp [*]; done) | (simp [*, i64_w, i32_w]; done)), H', ⟨by first | omega | exact Nat.le_refl _⟩, ⟨pk_ BK414.out⟩, ⟨bk_ HB.out⟩⟩
  · rw [if_neg c7] at H; have c7b0 : decide ((l1.length : Int) < 1) = false := decide_eq_false c7; have c7b1 : decide (l1.length < 1) = false := decide_eq_false (by omega); clear c7; (first | rw [c7b0] | (simp only [i64_w, i32_w]; rw [c7b0]) | skip); by_cases c8 : (l1.length : Int) > 16
    · rw [if_pos c8] at H; have c8b0 : decide (16 < (l1.length : Int)) = true := decide_eq_true c8; have c8b1 : decide (16 < l1.length) = true := decide_eq_true (by omega); clear c8; have H' := Aside0.mk H; clear H; go_wp2; go_meet; case rel => exact ⟨_, (true), (by first | rfl | (simp; done) | (simp [i64_w, i32_w]; done) | (simp [*]; done) | (simp [*, i64_w, i32_w]; done)), H', ⟨by first | omega | exact Nat.le_refl _⟩, ⟨pk_ BK414.out⟩, ⟨bk_ HB.out⟩⟩
    · rw [if_neg c8] at H; have c8b0 : decide (16 < (l1.length : Int)) = false := decide_eq_false c8; have c8b1 : decide (16 < l1.length) = false := decide_eq_false (by omega); clear c8; replace H := Option.bind_eq_some_iff.mp H; obtain ⟨t415, A90, H⟩ := H; replace H : (impl_RunsShared.j0 k l1 a2 (!t415) a0_0 a0_1 l0_2) = some (r1, r2) := H; have A9 := Aside0.mk A90; clear A90; have H' := Aside0.mk H; clear H; go_wp2_with (first | (go_at_call 47; (with_reducible refine (impl_areWorkers.calls a3 t415 _ A9.out).mono ?_); rintro e w' ⟨rfl, ⟨nd, rfl⟩⟩)); go_meet; case rel => exact ⟨_, (!t415), (by first | rfl | (simp; done) | (simp [i64_w, i32_w]; done) | (simp [*]; done) | (simp [*, i64_w, i32_w]; done)), H', ⟨by first | omega | exact Nat.le_refl _⟩, ⟨pk_ BK414.out⟩, ⟨bk_ HB.out⟩⟩
 case rest =>
  clear HC5; (try clear c1); (try clear c2); (try clear p2); (try clear c7); (try clear c7b0); (try clear c7b1); (try clear c8); (try clear c8b0); (try clear c8b1); obtain ⟨kq, x27_4, rfl, HA, HJ4, BK414, HB⟩ := hcut; cases kq with
  | zero => exact absurd HA.out (by simp [impl_RunsShared.j0])
  | succ kj4 =>
   have H := HA.out; clear HA; simp only [impl_RunsShared.j0] at H; by_cases c10 : x27_4 = true
   · subst c10; have H1 : (some (([] : List (List Int)), false)) = some (r1, r2) := by rw [if_pos rfl] at H; exact H
     clear H; have H := H1; clear H1; simp only [Option.some.injEq, Prod.mk.injEq] at H; obtain ⟨rfl, rfl⟩ := H; go_wp2; go_ret2; exact ⟨_, by first | rfl | (simp [errW_none, errW_some] <;> rfl) | (simp [*, errW_none, errW_some] <;> rfl), by first | exact Kd.S_nil _ _ _ _ _ | exact Kd.N_nil _ _ _ _ _ | exact Kd.V_nil _ _ _ _ _ | exact Kd.Q_nil _ _ _ _ _ | exact Kd.R_nil _ _ _ _ _, bk_ HB.out⟩
   · replace c10 := Bool.eq_false_iff.mpr c10; subst c10; have H1 : (impl_RunsShared.l0 kj4 a2 (([] : List (List Int))) l1 (l1.length : Int) 0 a0_0 a0_1 l0_2) = some (r1, r2) := by rw [if_neg (show ¬ (false = true) by decide)] at H; exact H
     clear H; have H := H1; clear H1; obtain ⟨y416, hy416⟩ : ∃ y_ : List (List Int), y_ = (([] : List (List Int))) := ⟨_, rfl⟩; replace H : (impl_RunsShared.l0 kj4 a2 y416 l1 (l1.length : Int) 0 a0_0 a0_1 l0_2) = some (r1, r2) := by first | (rw [hy416]; with_reducible exact H) | (have H2_ := (Option.bind_some _ _).symm.trans H; rw [hy416]; with_reducible exact H2_) | (have H2_ := (Option.bind_some _ _).symm.trans H; with_reducible exact H2_) | with_reducible exact H | (rw [hy416]; exact H) | exact H
     have Ny416 := Aside0.mk hy416; clear hy416; have H' := Aside0.mk H; clear H; go_wp2_with (first | ((with_reducible refine gate_dst (N := 28) rfl ?_); (try (refine gate_guard (by rfl) ?_; dsimp only)); refine Kd.S_lit (Kd.slice 2 (Kd.int .i64)) _ 25 ?hg (N := 28) ?hd (xs := ([] : List (List Int))) (inner := []) (ok := fun _ => True) (okp := fun _ => True) ?hr ?hp (fun _ hk => hk) trivial (Below.refl _ _) (Nat.le_refl _) (by simp) ?_; (case hd => rfl); (case hg => rfl); (case hr => first | (go_simp; done) | (go_simp; rfl)); (case hp => exact (Reps.none _ _)); intro v417 w11 ho12 hb hg_ hnew_; clear hg_ hnew_; (first | rw [← Ny416.out] at ho12 | (simp only [Int.reduceToNat] at ho12; rw [← Ny416.out] at ho12)); have HO418 := Aside0.mk (Kd.S_lower ho12 (below_size (bk_ HB.out))); replace BK414 := Aside0.mk (bb_ BK414.out hb); replace HB := Aside0.mk (below_step (bk_ HB.out) hb); clear hb ho12)); go_loopg [10, 31] kj4 (fun kq v10 v31 w' => ∃ (x10_2 : List (List Int)) (x31_2 : Int), v31 = .int .i64 x31_2 ∧ Aside0 (impl_RunsShared.l0 kq a2 x10_2 l1 (l1.length : Int) x31_2 a0_0 a0_1 l0_2 = some (r1, r2)) ∧ Aside0 (kq ≤ kj4) ∧ Aside0 (Kd.S (Kd.slice 2 (Kd.int .i64)) 25 w' w.heap.size (fun _ => True) v10 x10_2) ∧ Aside0 (w'.heap[gb414]? = some (.cells #[.int .i64 a0_0, .int .i64 a0_1, (.slice A0_2 l0_2.length c0_2)] 27 (0, 0))) ∧ Aside0 (Below w.heap.size w w')); case atStart => exact ⟨(y416), (0), (by first | rfl | (simp; done) | (simp [i64_w, i32_w]; done) | (simp [*]; done) | (simp [*, i64_w, i32_w]; done)), H', ⟨Nat.le_refl _⟩, ⟨by (with_reducible repeat (first | apply Kd.S_alloc | apply Kd.S_drewN | apply Kd.S_drew)); exact HO418.out⟩, ⟨pk_ BK414.out⟩, ⟨bk_ HB.out⟩⟩
     case round =>
      clear H'; (try clear c1); (try clear c2); (try clear p2); (try clear c7); (try clear c7b0); (try clear c7b1); (try clear c8); (try clear c8b0); (try clear c8b1); (try clear c10); (try clear p2); obtain ⟨x10_2, x31_2, rfl, HA, HK2, HO_10, BK414, HB⟩ := hrel; cases gk with
      | zero => exact absurd HA.out (by simp [impl_RunsShared.l0])
      | succ k2 =>
       have H := HA.out; clear HA; simp only [impl_RunsShared.l0] at H; by_cases c13 : x31_2 < (l1.length : Int)
       · rw [if_pos c13] at H; have c13b0 : decide (x31_2 < (l1.length : Int)) = true := decide_eq_true c13; clear c13; by_cases c14 : 0 ≤ x31_2
         · rw [if_pos c14] at H; have c14b0 : decide (0 ≤ x31_2) = true := decide_eq_true c14; clear c14; by_cases c15 : x31_2 < (l1.length : Int)
           · rw [if_pos c15] at H; have c15b0 : decide (x31_2 < (l1.length : Int)) = true := decide_eq_true c15; clear c15; replace H := Option.bind_eq_some_iff.mp H; obtain ⟨⟨t420, t423⟩, A160, H⟩ := H; replace H : (if t423 = true then (if x10_2.length < 5864062014805 then (impl_RunsShared.l0 k2 a2 (x10_2 ++ [t420]) l1 (l1.length : Int) (wrap64 (x31_2 + 1)) a0_0 a0_1 l0_2) else (none)) else (some (([] : List (List Int)), false))) = some (r1, r2) := H; have A16 := Aside0.mk A160; clear A160; by_cases c17 : t423 = true
             · subst c17; have H1 : (if x10_2.length < 5864062014805 then (impl_RunsShared.l0 k2 a2 (x10_2 ++ [t420]) l1 (l1.length : Int) (wrap64 (x31_2 + 1)) a0_0 a0_1 l0_2) else (none)) = some (r1, r2) := by rw [if_pos rfl] at H; exact H
               clear H; have H := H1; clear H1; by_cases c18 : x10_2.length < 5864062014805
               · rw [if_pos c18] at H; have LMc18 := Aside0.mk c18; clear c18; obtain ⟨y424, hy424⟩ : ∃ y_ : List (List Int), y_ = (x10_2 ++ [t420]) := ⟨_, rfl⟩; replace H : (impl_RunsShared.l0 k2 a2 y424 l1 (l1.length : Int) (wrap64 (x31_2 + 1)) a0_0 a0_1 l0_2) = some (r1, r2) := by first | (rw [hy424]; with_reducible exact H) | (have H2_ := (Option.bind_some _ _).symm.trans H; rw [hy424]; with_reducible exact H2_) | (have H2_ := (Option.bind_some _ _).symm.trans H; with_reducible exact H2_) | with_reducible exact H | (rw [hy424]; exact H) | exact H
                 have Ny424 := Aside0.mk hy424; clear hy424; have H' := Aside0.mk H; clear H; have p419 : 0 ≤ (x31_2 : Int) := of_decide_eq_true (by first | (with_reducible assumption) | assumption); have q419 : x31_2 < (l1.length : Int) := of_decide_eq_true (by first | (with_reducible assumption) | assumption); obtain ⟨ad419, A419_0, c419_0, e419, hx419_0, hl419_0, hi419_0⟩ := at_L2 HR1.out x31_2 p419 q419; cases e419
                 replace hx419_0 := (HB.out.cell (World.block_lt_of_cell? w _ hx419_0)).trans hx419_0; have HR419_0 := Aside0.mk hi419_0; have HC419_0 := Aside0.mk hl419_0; clear hi419_0 hl419_0; replace p419 := eq_true p419; replace q419 := eq_true q419; have hcz19_0 := bc_ BK414.out 0 (.int .i64 a0_0); have hcz19_1 := bc_ BK414.out 1 (.int .i64 a0_1); have hcz19_2 := bc_ BK414.out 2 (.slice A0_2 l0_2.length c0_2); have hfz19_0 := blk_frozen BK414.out 0; have hfz19_1 := blk_frozen BK414.out 1; have hfz19_2 := blk_frozen BK414.out 2; go_wp2_with (first | ((with_reducible refine gate_callee (f := 21) rfl ?_); refine gL_ (some 39) Try.func21 #[.agg #[.int .i64 a0_0, .int .i64 a0_1, .slice A0_2 l0_2.length c0_2], .slice A419_0 (rd_L2 l1 x31_2).length c419_0, .int .i64 a2] ?_; (with_reducible refine (impl_RunRing.calls k2 a0_0 a0_1 _ _ l0_2 (fun k_ => k_ < w.heap.size) _ _ (rd_L2 l1 x31_2) a2 t420 true _ ?side1 ?side2 ?side3 A16.out).mono ?_); (case side1 => exact ck_ (Kd.C_below HR0_2.out HB.out)); (case side2 => exact HC0_2.out); (case side3 => exact Kd.V_mk HC419_0.out (Kd.F_below (Kd.C_F (Kd.heap_int .i64) HR419_0.out) (bk_ HB.out))); rintro e w20 ⟨v421, rfl, ho0, hb⟩; refine ⟨_, rfl, ?_⟩; replace HO_10 := Aside0.mk (Kd.S_elder' (by (with_reducible repeat (first | apply Kd.S_alloc | apply Kd.S_drewN | apply Kd.S_drew)); exact HO_10.out) (Kd.R_base ho0) hb); have HO422 := Aside0.mk (Kd.R_lower (Kd.R_mono (ok' := fun k_ => True) ho0 (fun _ hk_ => trivial)) (below_size (bk_ HB.out))); replace BK414 := Aside0.mk (bb_ BK414.out hb); replace HB := Aside0.mk (below_step (bk_ HB.out) hb); (try clear hb); (try clear hb2); (try clear hk); (try clear hi); (try clear ho0); obtain ⟨Ao22, co22, eo22⟩ := Kd.R_slice HO422.out; subst eo22) | ((with_reducible refine gate_builtin (b := .append) (xs := #[.tmp 44, .tmp 46]) rfl ?_); (try (refine gate_guard (by rfl) ?_; dsimp only)); at_builtin; refine Kd.S_append (Kd.slice 2 (Kd.int .i64)) (w0 := w) w.heap.size rfl (.tmp 44) (.tmp 46) 42 25 (.slice none 0 0) 24 rfl Try.underlying42 info25 rfl (by decide) (by omega) u10 x10_2 t420 [.slice Ao22 t420.length co22] (fun _ => True) (fun k_ => some k_ = (.slice Ao22 t420.length co22 : Value).ownBlock) rfl rfl ?aP (fun k_ hk_ => ((Kd.R_mono (ok' := fun k_ => ((fun _ => True)) k_ ∧ some k_ ≠ (u10 : Value).ownBlock) (Kd.R_apart' (HO422.out) (Kd.S_typed HO_10.out) (by decide)) (fun k_ hk => ⟨trivial, hk.2⟩))).1 k_ hk_.symm) ?aF ?aO ?aB ?aS ?aL ?_; (case aP => exact Kd.M_row (Kd.R_mono (Kd.R_tight rfl (Kd.R_mono (ok' := fun k_ => ((fun _ => True)) k_ ∧ some k_ ≠ (u10 : Value).ownBlock) (Kd.R_apart' (HO422.out) (Kd.S_typed HO_10.out) (by decide)) (fun k_ hk => ⟨trivial, hk.2⟩))) (fun _ h_ => h_))); (case aB => exact (bk_ HB.out)); (case aF => exact (fun _ _ => trivial)); (case aO => exact (by (with_reducible repeat (first | apply Kd.S_alloc | apply Kd.S_drewN | apply Kd.S_drew)); exact Kd.S_mono HO_10.out (fun k_ hk => ⟨trivial, fun e_ => hk.2 e_⟩))); (case aS => exact (below_size (bk_ HB.out))); (case aL => have := LMc18.out; omega); intro v425 w21 ho hb hg hat; rw [← Ny424.out] at ho; replace BK414 := Aside0.mk (bg_ BK414.out hg (Kd.S_ne HO_10.out BK414.out (by decide))); replace HB := Aside0.mk (hb); have HO426 := Aside0.mk (ho); clear HO_10 HO422 ho hb hg hat))
                 go_roundg k2; case measure => have := HJ4.out; have := HK2.out; omega
                 case rel => exact ⟨(y424), (wrap64 (x31_2 + 1)), (by first | rfl | (simp; done) | (simp [i64_w, i32_w]; done) | (simp [*]; done) | (simp [*, i64_w, i32_w]; done)), H', ⟨by have := HJ4.out; have := HK2.out; omega⟩, ⟨by (with_reducible repeat (first | apply Kd.S_alloc | apply Kd.S_drewN | apply Kd.S_drew)); exact HO426.out⟩, ⟨pk_ BK414.out⟩, ⟨bk_ HB.out⟩⟩
               · rw [if_neg c18] at H; exact absurd H (by simp)
             · replace c17 := Bool.eq_false_iff.mpr c17; subst c17; have H1 : (some (([] : List (List Int)), false)) = some (r1, r2) := by rw [if_neg (show ¬ (false = true) by decide)] at H; exact H
               clear H; have H := H1; clear H1; simp only [Option.some.injEq, Prod.mk.injEq] at H; obtain ⟨rfl, rfl⟩ := H; have p419 : 0 ≤ (x31_2 : Int) := of_decide_eq_true (by first | (with_reducible assumption) | assumption); have q419 : x31_2 < (l1.length : Int) := of_decide_eq_true (by first | (with_reducible assumption) | assumption); obtain ⟨ad419, A419_0, c419_0, e419, hx419_0, hl419_0, hi419_0⟩ := at_L2 HR1.out x31_2 p419 q419; cases e419
               replace hx419_0 := (HB.out.cell (World.block_lt_of_cell? w _ hx419_0)).trans hx419_0; have HR419_0 := Aside0.mk hi419_0; have HC419_0 := Aside0.mk hl419_0; clear hi419_0 hl419_0; replace p419 := eq_true p419; replace q419 := eq_true q419; have hcz23_0 := bc_ BK414.out 0 (.int .i64 a0_0); have hcz23_1 := bc_ BK414.out 1 (.int .i64 a0_1); have hcz23_2 := bc_ BK414.out 2 (.slice A0_2 l0_2.length c0_2); have hfz23_0 := blk_frozen BK414.out 0; have hfz23_1 := blk_frozen BK414.out 1; have hfz23_2 := blk_frozen BK414.out 2; go_wp2_with (first | ((with_reducible refine gate_callee (f := 21) rfl ?_); refine gL_ (some 39) Try.func21 #[.agg #[.int .i64 a0_0, .int .i64 a0_1, .slice A0_2 l0_2.length c0_2], .slice A419_0 (rd_L2 l1 x31_2).length c419_0, .int .i64 a2] ?_; (with_reducible refine (impl_RunRing.calls k2 a0_0 a0_1 _ _ l0_2 (fun k_ => k_ < w.heap.size) _ _ (rd_L2 l1 x31_2) a2 t420 false _ ?side1 ?side2 ?side3 A16.out).mono ?_); (case side1 => exact ck_ (Kd.C_below HR0_2.out HB.out)); (case side2 => exact HC0_2.out); (case side3 => exact Kd.V_mk HC419_0.out (Kd.F_below (Kd.C_F (Kd.heap_int .i64) HR419_0.out) (bk_ HB.out))); rintro e w24 ⟨v421, rfl, ho0, hb⟩; refine ⟨_, rfl, ?_⟩; replace HO_10 := Aside0.mk (Kd.S_elder' (by (with_reducible repeat (first | apply Kd.S_alloc | apply Kd.S_drewN | apply Kd.S_drew)); exact HO_10.out) (Kd.R_base ho0) hb); have HO422 := Aside0.mk (Kd.R_lower (Kd.R_mono (ok' := fun k_ => True) ho0 (fun _ hk_ => trivial)) (below_size (bk_ HB.out))); replace BK414 := Aside0.mk (bb_ BK414.out hb); replace HB := Aside0.mk (below_step (bk_ HB.out) hb); (try clear hb); (try clear hb2); (try clear hk); (try clear hi); (try clear ho0)))
               go_ret2; exact ⟨_, by first | rfl | (simp [errW_none, errW_some] <;> rfl) | (simp [*, errW_none, errW_some] <;> rfl), by first | exact Kd.S_nil _ _ _ _ _ | exact Kd.N_nil _ _ _ _ _ | exact Kd.V_nil _ _ _ _ _ | exact Kd.Q_nil _ _ _ _ _ | exact Kd.R_nil _ _ _ _ _, bk_ HB.out⟩
           · rw [if_neg c15] at H; exact absurd H (by simp)
         · rw [if_neg c14] at H; exact absurd H (by simp)
       · rw [if_neg c13] at H; have c13b0 : decide (x31_2 < (l1.length : Int)) = false := decide_eq_false c13; clear c13; simp only [Option.some.injEq, Prod.mk.injEq] at H; obtain ⟨rfl, rfl⟩ := H; go_wp2; go_ret2; exact ⟨_, by first | rfl | (simp [errW_none, errW_some] <;> rfl) | (simp [*, errW_none, errW_some] <;> rfl), by (with_reducible repeat (first | apply Kd.S_alloc | apply Kd.S_drewN | apply Kd.S_drew)); exact HO_10.out, bk_ HB.out⟩

/-! ### slices_Equal_int64_int64: function 48 -/
def slices_Equal_int64_int64.l0 : Nat → List Int → List Int → Int → Int → Option (Bool)
  | 0, _, _, _, _ => none
  | k + 1, x0, x1, x12, x13 => if x13 < x12 then (if 0 ≤ x13 then (if x13 < (x0.length : Int) then (if x13 < (x1.length : Int) then (if (rd x0 x13) = (rd x1 x13) then (slices_Equal_int64_int64.l0 k x0 x1 x12 (wrap64 (x13 + 1))) else (some false)) else (none)) else (none)) else (none)) else (some true)
def slices_Equal_int64_int64.f (k : Nat) (l0 : List Int) (l1 : List Int) : Option (Bool) := if (l0.length : Int) = (l1.length : Int) then (slices_Equal_int64_int64.l0 k l0 l1 (l0.length : Int) 0) else (some false)
theorem slices_Equal_int64_int64.mono_l : ∀ k, (∀ y0 y1 y2 y3, LeO (slices_Equal_int64_int64.l0 k y0 y1 y2 y3) (slices_Equal_int64_int64.l0 (k + 1) y0 y1 y2 y3))
  | 0 => fun _ _ _ _ r h => by simp [slices_Equal_int64_int64.l0] at h
  | k + 1 => by
    have ih0 := slices_Equal_int64_int64.mono_l k
    · intro y0 y1 y2 y3
      unfold slices_Equal_int64_int64.l0
      repeat' first
      | (with_reducible exact ih0 _ _ _ _)
      | (with_reducible exact LeO.refl _)
      | (with_reducible exact LeO.none _)
      | (with_reducible refine LeO.ite ?_ ?_)
      | (with_reducible refine LeO.bind ?_ (fun _ => ?_))
      | exact ih0 _ _ _ _
      | exact LeO.none _
      | refine LeO.ite ?_ ?_
      | refine LeO.bind ?_ (fun _ => ?_)
theorem slices_Equal_int64_int64.mono : ∀ a0 a1 k, LeO (slices_Equal_int64_int64.f k a0 a1) (slices_Equal_int64_int64.f (k + 1) a0 a1) := by
 intro a0 a1 k; have ih0 := slices_Equal_int64_int64.mono_l k; unfold slices_Equal_int64_int64.f; repeat' first
  | (with_reducible exact ih0 _ _ _ _)
  | (with_reducible exact LeO.refl _)
  | (with_reducible exact LeO.none _)
  | (with_reducible refine LeO.ite ?_ ?_)
  | (with_reducible refine LeO.bind ?_ (fun _ => ?_))
  | exact ih0 _ _ _ _
  | exact LeO.none _
  | refine LeO.ite ?_ ?_
  | refine LeO.bind ?_ (fun _ => ?_)
set_option maxHeartbeats 8000000 in
set_option maxRecDepth 100000 in
theorem slices_Equal_int64_int64.calls (k : Nat) (A0 : Option Addr) (c0 : Nat) (l0 : List Int) (A1 : Option Addr) (c1 : Nat) (l1 : List Int) (r : Bool) (w : World) (hr0 : Kd.C (Kd.int .i64) w A0 l0.length l0) (hc0 : l0.length ≤ c0) (hr1 : Kd.C (Kd.int .i64) w A1 l1.length l1) (hc1 : l1.length ≤ c1) (h : slices_Equal_int64_int64.f k l0 l1 = some r) :
    Calls Try.prog 48 #[.slice A0 l0.length c0, .slice A1 l1.length c1] w fun e w' => e = .returned (.bool r) ∧ Drawn0 w w' := by
 have HR0 := Aside0.mk hr0; have HC0 := Aside0.mk hc0; clear hr0 hc0; have HR1 := Aside0.mk hr1; have HC1 := Aside0.mk hc1; clear hr1 hc1; have H : (if (l0.length : Int) = (l1.length : Int) then (slices_Equal_int64_int64.l0 k l0 l1 (l0.length : Int) 0) else (some false)) = some r := h; clear h; by_cases c3 : (l0.length : Int) = (l1.length : Int)
 · rw [if_pos c3] at H; have c3b0 : ((l0.length : Int) == (l1.length : Int)) = true := beq_iff_eq.mpr c3; have c3b1 : ((l0.length : Int) != (l1.length : Int)) = false := bne_eq_false_iff_eq.mpr c3; have c3b2 : (l0.length == l1.length) = true := by first | simpa using c3 | (simp at c3 ⊢; omega)
   clear c3; have H' := Aside0.mk H; clear H; go_enter Try.func48, Try.ntmps48; go_wp2; repeat (go_quiet (fail); try go_wp2)
   go_loopg [13] k (fun kq v13 w' => ∃ (x13_1 : Int), v13 = .int .i64 x13_1 ∧ Aside0 (slices_Equal_int64_int64.l0 kq l0 l1 (l0.length : Int) x13_1 = some r) ∧ Aside0 (kq ≤ k) ∧ Drawn0 w w'); case atStart => exact ⟨(0), (by first | rfl | (simp; done) | (simp [i64_w, i32_w]; done) | (simp [*]; done) | (simp [*, i64_w, i32_w]; done)), H', ⟨Nat.le_refl _⟩, by repeat (first | exact Drawn0.refl _ | apply Drawn0.step)⟩
   case round =>
    clear H'; (try clear c1); (try clear p2); (try clear c3); (try clear c3b0); (try clear c3b1); (try clear c3b2); obtain ⟨x13_1, rfl, HA, HK1, ⟨m1, rfl⟩⟩ := hrel; cases gk with
    | zero => exact absurd HA.out (by simp [slices_Equal_int64_int64.l0])
    | succ k1 =>
     have H := HA.out; clear HA; simp only [slices_Equal_int64_int64.l0] at H; by_cases c4 : x13_1 < (l0.length : Int)
     · rw [if_pos c4] at H; have c4b0 : decide (x13_1 < (l0.length : Int)) = true := decide_eq_true c4; clear c4; by_cases c5 : 0 ≤ x13_1
       · rw [if_pos c5] at H; have c5b0 : decide (0 ≤ x13_1) = true := decide_eq_true c5; clear c5; by_cases c6 : x13_1 < (l0.length : Int)
         · rw [if_pos c6] at H; have c6b0 : decide (x13_1 < (l0.length : Int)) = true := decide_eq_true c6; clear c6; by_cases c7 : x13_1 < (l1.length : Int)
           · rw [if_pos c7] at H; have c7b0 : decide (x13_1 < (l1.length : Int)) = true := decide_eq_true c7; clear c7; by_cases c8 : (rd l0 x13_1) = (rd l1 x13_1)
             · rw [if_pos c8] at H; have c8b0 : ((rd l0 x13_1) == (rd l1 x13_1)) = true := beq_iff_eq.mpr c8; have c8b1 : ((rd l0 x13_1) != (rd l1 x13_1)) = false := bne_eq_false_iff_eq.mpr c8; clear c8; have H' := Aside0.mk H; clear H; have p427 : 0 ≤ (x13_1 : Int) := of_decide_eq_true (by first | (with_reducible assumption) | assumption); have q427 : x13_1 < (l0.length : Int) := of_decide_eq_true (by first | (with_reducible assumption) | assumption); obtain ⟨ad427, e427, hx427_0⟩ := Kd.at_int HR0.out x13_1 p427 q427; cases e427
               replace p427 := eq_true p427; replace q427 := eq_true q427; have p428 : 0 ≤ (x13_1 : Int) := of_decide_eq_true (by first | (with_reducible assumption) | assumption); have q428 : x13_1 < (l1.length : Int) := of_decide_eq_true (by first | (with_reducible assumption) | assumption); obtain ⟨ad428, e428, hx428_0⟩ := Kd.at_int HR1.out x13_1 p428 q428; cases e428
               replace p428 := eq_true p428; replace q428 := eq_true q428; go_wp2; repeat (go_quiet (fail); try go_wp2)
               go_roundg k1; case measure => have := HK1.out; omega
               case rel => exact ⟨(wrap64 (x13_1 + 1)), (by first | rfl | (simp; done) | (simp [i64_w, i32_w]; done) | (simp [*]; done) | (simp [*, i64_w, i32_w]; done)), H', ⟨by have := HK1.out; omega⟩, by repeat (first | exact Drawn0.refl _ | apply Drawn0.step)⟩
             · rw [if_neg c8] at H; have c8b0 : ((rd l0 x13_1) == (rd l1 x13_1)) = false := beq_eq_false_iff_ne.mpr c8; have c8b1 : ((rd l0 x13_1) != (rd l1 x13_1)) = true := bne_iff_ne.mpr c8; obtain rfl := Option.some.inj H; have p427 : 0 ≤ (x13_1 : Int) := of_decide_eq_true (by first | (with_reducible assumption) | assumption); have q427 : x13_1 < (l0.length : Int) := of_decide_eq_true (by first | (with_reducible assumption) | assumption); obtain ⟨ad427, e427, hx427_0⟩ := Kd.at_int HR0.out x13_1 p427 q427; cases e427
               replace p427 := eq_true p427; replace q427 := eq_true q427; have p428 : 0 ≤ (x13_1 : Int) := of_decide_eq_true (by first | (with_reducible assumption) | assumption); have q428 : x13_1 < (l1.length : Int) := of_decide_eq_true (by first | (with_reducible assumption) | assumption); obtain ⟨ad428, e428, hx428_0⟩ := Kd.at_int HR1.out x13_1 p428 q428; cases e428
               replace p428 := eq_true p428; replace q428 := eq_true q428; go_wp2; repeat (go_quiet (fail); try go_wp2)
               go_ret; exact ⟨by first | rfl | (simp; done) | (simp [i64_w, i32_w]; done) | (simp [*]; done) | (simp [*, i64_w, i32_w]; done), by repeat (first | exact Drawn0.refl _ | apply Drawn0.step)⟩
           · rw [if_neg c7] at H; exact absurd H (by simp)
         · rw [if_neg c6] at H; exact absurd H (by simp)
       · rw [if_neg c5] at H; exact absurd H (by simp)
     · rw [if_neg c4] at H; have c4b0 : decide (x13_1 < (l0.length : Int)) = false := decide_eq_false c4; clear c4; obtain rfl := Option.some.inj H; go_wp2; repeat (go_quiet (fail); try go_wp2)
       go_ret; exact ⟨by first | rfl | (simp; done) | (simp [i64_w, i32_w]; done) | (simp [*]; done) | (simp [*, i64_w, i32_w]; done), by repeat (first | exact Drawn0.refl _ | apply Drawn0.step)⟩
 · rw [if_neg c3] at H; have c3b0 : ((l0.length : Int) == (l1.length : Int)) = false := beq_eq_false_iff_ne.mpr c3; have c3b1 : ((l0.length : Int) != (l1.length : Int)) = true := bne_iff_ne.mpr c3; have c3b2 : (l0.length == l1.length) = false := by first | simpa using c3 | (simp at c3 ⊢; omega)
   obtain rfl := Option.some.inj H; go_enter Try.func48, Try.ntmps48; go_wp2; repeat (go_quiet (fail); try go_wp2)
   go_ret; exact ⟨by first | rfl | (simp; done) | (simp [i64_w, i32_w]; done) | (simp [*]; done) | (simp [*, i64_w, i32_w]; done), by repeat (first | exact Drawn0.refl _ | apply Drawn0.step)⟩

/-! ### impl_SameRule: function 23 -/
def impl_SameRule.f (k : Nat) (a0_0 : Int) (a0_1 : Int) (l0_2 : List Int) (a1_0 : Int) (a1_1 : Int) (l1_2 : List Int) : Option (Bool) := if a0_0 = a1_0 then (if a0_1 = a1_1 then ((slices_Equal_int64_int64.f k l0_2 l1_2).bind fun t431 => (some t431)) else (some false)) else (some false)
theorem impl_SameRule.mono : ∀ a0 a1 a2 a3 a4 a5 k, LeO (impl_SameRule.f k a0 a1 a2 a3 a4 a5) (impl_SameRule.f (k + 1) a0 a1 a2 a3 a4 a5) := by
 intro a0 a1 a2 a3 a4 a5 k; unfold impl_SameRule.f; repeat' first
  | (with_reducible exact slices_Equal_int64_int64.mono _ _ _)
  | (with_reducible exact LeO.refl _)
  | (with_reducible exact LeO.none _)
  | (with_reducible refine LeO.ite ?_ ?_)
  | (with_reducible refine LeO.bind ?_ (fun _ => ?_))
  | exact slices_Equal_int64_int64.mono _ _ _
  | exact LeO.none _
  | refine LeO.ite ?_ ?_
  | refine LeO.bind ?_ (fun _ => ?_)
set_option maxHeartbeats 8000000 in
set_option maxRecDepth 100000 in
theorem impl_SameRule.calls (k : Nat) (a0_0 : Int) (a0_1 : Int) (A0_2 : Option Addr) (c0_2 : Nat) (l0_2 : List Int) (a1_0 : Int) (a1_1 : Int) (A1_2 : Option Addr) (c1_2 : Nat) (l1_2 : List Int) (r : Bool) (w : World) (hr0_2 : Kd.C (Kd.int .i64) w A0_2 l0_2.length l0_2) (hc0_2 : l0_2.length ≤ c0_2) (hr1_2 : Kd.C (Kd.int .i64) w A1_2 l1_2.length l1_2) (hc1_2 : l1_2.length ≤ c1_2) (h : impl_SameRule.f k a0_0 a0_1 l0_2 a1_0 a1_1 l1_2 = some r) :
    Calls Try.prog 23 #[.agg #[.int .i64 a0_0, .int .i64 a0_1, .slice A0_2 l0_2.length c0_2], .agg #[.int .i64 a1_0, .int .i64 a1_1, .slice A1_2 l1_2.length c1_2]] w fun e w' => e = .returned (.bool r) ∧ Below w.heap.size w w' := by
 have hu27 := Try.underlying27; have HR0_2 := Aside0.mk hr0_2; have HC0_2 := Aside0.mk hc0_2; clear hr0_2 hc0_2; have HR1_2 := Aside0.mk hr1_2; have HC1_2 := Aside0.mk hc1_2; clear hr1_2 hc1_2; have HB := Aside0.mk (Below.refl w.heap.size w); have H : (if a0_0 = a1_0 then (if a0_1 = a1_1 then ((slices_Equal_int64_int64.f k l0_2 l1_2).bind fun t431 => (some t431)) else (some false)) else (some false)) = some r := h; clear h; by_cases c3 : a0_0 = a1_0
 · rw [if_pos c3] at H; have c3b0 : (a0_0 == a1_0) = true := beq_iff_eq.mpr c3; have c3b1 : (a0_0 != a1_0) = false := bne_eq_false_iff_eq.mpr c3; clear c3; by_cases c4 : a0_1 = a1_1
   · rw [if_pos c4] at H; have c4b0 : (a0_1 == a1_1) = true := beq_iff_eq.mpr c4; have c4b1 : (a0_1 != a1_1) = false := bne_eq_false_iff_eq.mpr c4; clear c4; replace H := Option.bind_eq_some_iff.mp H; obtain ⟨t431, A50, H⟩ := H; replace H : (some t431) = some r := H; have A5 := Aside0.mk A50; clear A50; obtain rfl := Option.some.inj H; go_enter Try.func23, Try.ntmps23; go_wp2_with (first | ((with_reducible refine gate_dst (N := 2) rfl ?_); refine box_event ?hg (N := 2) ?hd (cs := #[.int .i64 a0_0, .int .i64 a0_1, .slice A0_2 l0_2.length c0_2]) (t := 27) ?hr ?_; (case hd => rfl); (case hg => rfl); (case hr => first | (go_simp; done) | (go_simp; rfl)); intro gb429 hg w6 hbox hb; have BK429 := Aside0.mk (hbox); have GW429 := Aside0.mk ((by rw [hg]; exact (below_size (bk_ HB.out)) : w.heap.size ≤ gb429)); have GE429 := Aside0.mk ((by rw [hg]; exact (below_size (bk_ HB.out)) : w.heap.size ≤ gb429)); replace HB := Aside0.mk (below_step (bk_ HB.out) hb); clear hb hbox hg) | ((with_reducible refine gate_dst (N := 3) rfl ?_); refine box_event ?hg (N := 3) ?hd (cs := #[.int .i64 a1_0, .int .i64 a1_1, .slice A1_2 l1_2.length c1_2]) (t := 27) ?hr ?_; (case hd => rfl); (case hg => rfl); (case hr => first | (go_simp; done) | (go_simp; rfl)); intro gb430 hg w7 hbox hb; have BK430 := Aside0.mk (hbox); have GW430 := Aside0.mk ((by rw [hg]; exact (below_size (bk_ HB.out)) : w.heap.size ≤ gb430)); have GE430 := Aside0.mk ((by rw [hg]; exact (below_size (bk_ HB.out)) : w.heap.size ≤ gb430)); replace HB := Aside0.mk (below_step (bk_ HB.out) hb); have NB429_430 := Aside0.mk ((by rw [hg]; exact Nat.ne_of_lt (bl_ BK429.out) : gb429 ≠ gb430)); have NB430_429 := Aside0.mk ((by rw [hg]; exact Nat.ne_of_gt (bl_ BK429.out) : gb430 ≠ gb429)); replace BK429 := Aside0.mk (bb_ BK429.out hb); clear hb hbox hg; have hnb8 := NB429_430.out; have hnc8 := NB430_429.out; have hcz9_0 := bc_ BK429.out 0 (.int .i64 a0_0); have hcz9_1 := bc_ BK429.out 1 (.int .i64 a0_1); have hcz9_2 := bc_ BK429.out 2 (.slice A0_2 l0_2.length c0_2); have hfz9_0 := blk_frozen BK429.out 0; have hfz9_1 := blk_frozen BK429.out 1; have hfz9_2 := blk_frozen BK429.out 2; have hcz10_0 := bc_ BK430.out 0 (.int .i64 a1_0); have hcz10_1 := bc_ BK430.out 1 (.int .i64 a1_1); have hcz10_2 := bc_ BK430.out 2 (.slice A1_2 l1_2.length c1_2); have hfz10_0 := blk_frozen BK430.out 0; have hfz10_1 := blk_frozen BK430.out 1; have hfz10_2 := blk_frozen BK430.out 2) | (go_at_call 48; (with_reducible refine (slices_Equal_int64_int64.calls k _ _ l0_2 _ _ l1_2 t431 _ ?side1 ?side2 ?side3 ?side4 A5.out).mono ?_); (case side1 => exact ck_ (Kd.C_below HR0_2.out HB.out)); (case side2 => exact HC0_2.out); (case side3 => exact ck_ (Kd.C_below HR1_2.out HB.out)); (case side4 => exact HC1_2.out); rintro e w' ⟨rfl, ⟨nd, rfl⟩⟩))
     go_ret; exact ⟨by first | rfl | (simp [errW_none, errW_some] <;> rfl) | (simp [*, errW_none, errW_some] <;> rfl), bk_ HB.out⟩
   · rw [if_neg c4] at H; have c4b0 : (a0_1 == a1_1) = false := beq_eq_false_iff_ne.mpr c4; have c4b1 : (a0_1 != a1_1) = true := bne_iff_ne.mpr c4; obtain rfl := Option.some.inj H; go_enter Try.func23, Try.ntmps23; go_wp2_with (first | ((with_reducible refine gate_dst (N := 2) rfl ?_); refine box_event ?hg (N := 2) ?hd (cs := #[.int .i64 a0_0, .int .i64 a0_1, .slice A0_2 l0_2.length c0_2]) (t := 27) ?hr ?_; (case hd => rfl); (case hg => rfl); (case hr => first | (go_simp; done) | (go_simp; rfl)); intro gb429 hg w11 hbox hb; have BK429 := Aside0.mk (hbox); have GW429 := Aside0.mk ((by rw [hg]; exact (below_size (bk_ HB.out)) : w.heap.size ≤ gb429)); have GE429 := Aside0.mk ((by rw [hg]; exact (below_size (bk_ HB.out)) : w.heap.size ≤ gb429)); replace HB := Aside0.mk (below_step (bk_ HB.out) hb); clear hb hbox hg) | ((with_reducible refine gate_dst (N := 3) rfl ?_); refine box_event ?hg (N := 3) ?hd (cs := #[.int .i64 a1_0, .int .i64 a1_1, .slice A1_2 l1_2.length c1_2]) (t := 27) ?hr ?_; (case hd => rfl); (case hg => rfl); (case hr => first | (go_simp; done) | (go_simp; rfl)); intro gb430 hg w12 hbox hb; have BK430 := Aside0.mk (hbox); have GW430 := Aside0.mk ((by rw [hg]; exact (below_size (bk_ HB.out)) : w.heap.size ≤ gb430)); have GE430 := Aside0.mk ((by rw [hg]; exact (below_size (bk_ HB.out)) : w.heap.size ≤ gb430)); replace HB := Aside0.mk (below_step (bk_ HB.out) hb); have NB429_430 := Aside0.mk ((by rw [hg]; exact Nat.ne_of_lt (bl_ BK429.out) : gb429 ≠ gb430)); have NB430_429 := Aside0.mk ((by rw [hg]; exact Nat.ne_of_gt (bl_ BK429.out) : gb430 ≠ gb429)); replace BK429 := Aside0.mk (bb_ BK429.out hb); clear hb hbox hg; have hnb13 := NB429_430.out; have hnc13 := NB430_429.out; have hcz14_0 := bc_ BK429.out 0 (.int .i64 a0_0); have hcz14_1 := bc_ BK429.out 1 (.int .i64 a0_1); have hcz14_2 := bc_ BK429.out 2 (.slice A0_2 l0_2.length c0_2); have hfz14_0 := blk_frozen BK429.out 0; have hfz14_1 := blk_frozen BK429.out 1; have hfz14_2 := blk_frozen BK429.out 2; have hcz15_0 := bc_ BK430.out 0 (.int .i64 a1_0); have hcz15_1 := bc_ BK430.out 1 (.int .i64 a1_1); have hcz15_2 := bc_ BK430.out 2 (.slice A1_2 l1_2.length c1_2); have hfz15_0 := blk_frozen BK430.out 0; have hfz15_1 := blk_frozen BK430.out 1; have hfz15_2 := blk_frozen BK430.out 2))
     go_ret; exact ⟨by first | rfl | (simp [errW_none, errW_some] <;> rfl) | (simp [*, errW_none, errW_some] <;> rfl), bk_ HB.out⟩
 · rw [if_neg c3] at H; have c3b0 : (a0_0 == a1_0) = false := beq_eq_false_iff_ne.mpr c3; have c3b1 : (a0_0 != a1_0) = true := bne_iff_ne.mpr c3; obtain rfl := Option.some.inj H; go_enter Try.func23, Try.ntmps23; go_wp2_with (first | ((with_reducible refine gate_dst (N := 2) rfl ?_); refine box_event ?hg (N := 2) ?hd (cs := #[.int .i64 a0_0, .int .i64 a0_1, .slice A0_2 l0_2.length c0_2]) (t := 27) ?hr ?_; (case hd => rfl); (case hg => rfl); (case hr => first | (go_simp; done) | (go_simp; rfl)); intro gb429 hg w16 hbox hb; have BK429 := Aside0.mk (hbox); have GW429 := Aside0.mk ((by rw [hg]; exact (below_size (bk_ HB.out)) : w.heap.size ≤ gb429)); have GE429 := Aside0.mk ((by rw [hg]; exact (below_size (bk_ HB.out)) : w.heap.size ≤ gb429)); replace HB := Aside0.mk (below_step (bk_ HB.out) hb); clear hb hbox hg) | ((with_reducible refine gate_dst (N := 3) rfl ?_); refine box_event ?hg (N := 3) ?hd (cs := #[.int .i64 a1_0, .int .i64 a1_1, .slice A1_2 l1_2.length c1_2]) (t := 27) ?hr ?_; (case hd => rfl); (case hg => rfl); (case hr => first | (go_simp; done) | (go_simp; rfl)); intro gb430 hg w17 hbox hb; have BK430 := Aside0.mk (hbox); have GW430 := Aside0.mk ((by rw [hg]; exact (below_size (bk_ HB.out)) : w.heap.size ≤ gb430)); have GE430 := Aside0.mk ((by rw [hg]; exact (below_size (bk_ HB.out)) : w.heap.size ≤ gb430)); replace HB := Aside0.mk (below_step (bk_ HB.out) hb); have NB429_430 := Aside0.mk ((by rw [hg]; exact Nat.ne_of_lt (bl_ BK429.out) : gb429 ≠ gb430)); have NB430_429 := Aside0.mk ((by rw [hg]; exact Nat.ne_of_gt (bl_ BK429.out) : gb430 ≠ gb429)); replace BK429 := Aside0.mk (bb_ BK429.out hb); clear hb hbox hg; have hnb18 := NB429_430.out; have hnc18 := NB430_429.out; have hcz19_0 := bc_ BK429.out 0 (.int .i64 a0_0); have hcz19_1 := bc_ BK429.out 1 (.int .i64 a0_1); have hcz19_2 := bc_ BK429.out 2 (.slice A0_2 l0_2.length c0_2); have hfz19_0 := blk_frozen BK429.out 0; have hfz19_1 := blk_frozen BK429.out 1; have hfz19_2 := blk_frozen BK429.out 2; have hcz20_0 := bc_ BK430.out 0 (.int .i64 a1_0); have hcz20_1 := bc_ BK430.out 1 (.int .i64 a1_1); have hcz20_2 := bc_ BK430.out 2 (.slice A1_2 l1_2.length c1_2); have hfz20_0 := blk_frozen BK430.out 0; have hfz20_1 := blk_frozen BK430.out 1; have hfz20_2 := blk_frozen BK430.out 2))
   go_ret; exact ⟨by first | rfl | (simp [errW_none, errW_some] <;> rfl) | (simp [*, errW_none, errW_some] <;> rfl), bk_ HB.out⟩

/-! ### laws_r8Before: function 24 -/
mutual
def laws_r8Before.l0 : Nat → List Int → List Int → Int → Option (Bool)
  | 0, _, _, _ => none
  | k + 1, x0, x1, x5 => if x5 < (x0.length : Int) then (laws_r8Before.j1 k x0 x1 x5 (decide (x5 < (x1.length : Int)))) else (laws_r8Before.j1 k x0 x1 x5 false)
def laws_r8Before.j1 : Nat → List Int → List Int → Int → Bool → Option (Bool)
  | 0, _, _, _, _ => none
  | k + 1, x0, x1, x5, x15 => if x15 = true then (if 0 ≤ x5 then (if x5 < (x0.length : Int) then (if x5 < (x1.length : Int) then (if (rd x0 x5) = (rd x1 x5) then (laws_r8Before.l0 k x0 x1 (wrap64 (x5 + 1))) else (some (decide ((rd x0 x5) < (rd x1 x5))))) else (none)) else (none)) else (none)) else (some false)
end
def laws_r8Before.f (k : Nat) (l0 : List Int) (l1 : List Int) : Option (Bool) := laws_r8Before.l0 k l0 l1 0
theorem laws_r8Before.mono_l : ∀ k, (∀ y0 y1 y2, LeO (laws_r8Before.l0 k y0 y1 y2) (laws_r8Before.l0 (k + 1) y0 y1 y2)) ∧ (∀ y0 y1 y2 y3, LeO (laws_r8Before.j1 k y0 y1 y2 y3) (laws_r8Before.j1 (k + 1) y0 y1 y2 y3))
  | 0 => ⟨fun _ _ _ r h => by simp [laws_r8Before.l0] at h, fun _ _ _ _ r h => by simp [laws_r8Before.j1] at h⟩
  | k + 1 => by
    obtain ⟨ih0, ih1⟩ := laws_r8Before.mono_l k
    refine ⟨?_, ?_⟩
    · intro y0 y1 y2
      unfold laws_r8Before.l0
      repeat' first
      | (with_reducible exact ih0 _ _ _)
      | (with_reducible exact ih1 _ _ _ _)
      | (with_reducible exact LeO.refl _)
      | (with_reducible exact LeO.none _)
      | (with_reducible refine LeO.ite ?_ ?_)
      | (with_reducible refine LeO.bind ?_ (fun _ => ?_))
      | exact ih0 _ _ _
      | exact ih1 _ _ _ _
      | exact LeO.none _
      | refine LeO.ite ?_ ?_
      | refine LeO.bind ?_ (fun _ => ?_)
    · intro y0 y1 y2 y3
      unfold laws_r8Before.j1
      repeat' first
      | (with_reducible exact ih0 _ _ _)
      | (with_reducible exact ih1 _ _ _ _)
      | (with_reducible exact LeO.refl _)
      | (with_reducible exact LeO.none _)
      | (with_reducible refine LeO.ite ?_ ?_)
      | (with_reducible refine LeO.bind ?_ (fun _ => ?_))
      | exact ih0 _ _ _
      | exact ih1 _ _ _ _
      | exact LeO.none _
      | refine LeO.ite ?_ ?_
      | refine LeO.bind ?_ (fun _ => ?_)
theorem laws_r8Before.mono : ∀ a0 a1 k, LeO (laws_r8Before.f k a0 a1) (laws_r8Before.f (k + 1) a0 a1) := by
 intro a0 a1 k; obtain ⟨ih0, ih1⟩ := laws_r8Before.mono_l k; unfold laws_r8Before.f; repeat' first
  | (with_reducible exact ih0 _ _ _)
  | (with_reducible exact ih1 _ _ _ _)
  | (with_reducible exact LeO.refl _)
  | (with_reducible exact LeO.none _)
  | (with_reducible refine LeO.ite ?_ ?_)
  | (with_reducible refine LeO.bind ?_ (fun _ => ?_))
  | exact ih0 _ _ _
  | exact ih1 _ _ _ _
  | exact LeO.none _
  | refine LeO.ite ?_ ?_
  | refine LeO.bind ?_ (fun _ => ?_)
set_option maxHeartbeats 8000000 in
set_option maxRecDepth 100000 in
theorem laws_r8Before.calls (k : Nat) (A0 : Option Addr) (c0 : Nat) (l0 : List Int) (A1 : Option Addr) (c1 : Nat) (l1 : List Int) (r : Bool) (w : World) (hr0 : Kd.C (Kd.int .i64) w A0 l0.length l0) (hc0 : l0.length ≤ c0) (hr1 : Kd.C (Kd.int .i64) w A1 l1.length l1) (hc1 : l1.length ≤ c1) (h : laws_r8Before.f k l0 l1 = some r) :
    Calls Try.prog 24 #[.slice A0 l0.length c0, .slice A1 l1.length c1] w fun e w' => e = .returned (.bool r) ∧ Drawn0 w w' := by
 have HR0 := Aside0.mk hr0; have HC0 := Aside0.mk hc0; clear hr0 hc0; have HR1 := Aside0.mk hr1; have HC1 := Aside0.mk hc1; clear hr1 hc1; have H : (laws_r8Before.l0 k l0 l1 0) = some r := h; clear h; have H' := Aside0.mk H; clear H; go_enter Try.func24, Try.ntmps24; go_wp2; repeat (go_quiet (fail); try go_wp2)
 go_loopg [5] k (fun kq v5 w' => ∃ (x5_1 : Int), v5 = .int .i64 x5_1 ∧ Aside0 (laws_r8Before.l0 kq l0 l1 x5_1 = some r) ∧ Aside0 (kq ≤ k) ∧ Drawn0 w w'); case atStart => exact ⟨(0), (by first | rfl | (simp; done) | (simp [i64_w, i32_w]; done) | (simp [*]; done) | (simp [*, i64_w, i32_w]; done)), H', ⟨Nat.le_refl _⟩, by repeat (first | exact Drawn0.refl _ | apply Drawn0.step)⟩
 case round =>
  clear H'; (try clear c1); (try clear c2); (try clear p2); obtain ⟨x5_1, rfl, HA, HK1, ⟨m1, rfl⟩⟩ := hrel; cases gk with
  | zero => exact absurd HA.out (by simp [laws_r8Before.l0])
  | succ k1 =>
   have H := HA.out; clear HA; simp only [laws_r8Before.l0] at H; have HC3 := Aside0.mk H; clear H; go_upto_region 2 with (fail); repeat (go_quiet (fail); go_upto_region 2 with (fail))
   go_cut [15] (fun v15 wc => ∃ (kq : Nat) (x15_2 : Bool), v15 = .bool x15_2 ∧ Aside0 (laws_r8Before.j1 kq l0 l1 x5_1 x15_2 = some r) ∧ Aside0 (kq ≤ k1) ∧ Drawn0 w wc); case first =>
    have H := HC3.out; clear HC3; by_cases c4 : x5_1 < (l0.length : Int)
    · rw [if_pos c4] at H; have c4b0 : decide (x5_1 < (l0.length : Int)) = true := decide_eq_true c4; clear c4; (first | rw [c4b0] | (simp only [i64_w, i32_w]; rw [c4b0]) | skip); have H' := Aside0.mk H; clear H; go_wp2; repeat (go_quiet (fail); try go_wp2)
      go_meet; case rel => exact ⟨_, (decide (x5_1 < (l1.length : Int))), (by first | rfl | (simp; done) | (simp [i64_w, i32_w]; done) | (simp [*]; done) | (simp [*, i64_w, i32_w]; done)), H', ⟨by have := HK1.out; first | omega | exact Nat.le_refl _⟩, by repeat (first | exact Drawn0.refl _ | apply Drawn0.step)⟩
    · rw [if_neg c4] at H; have c4b0 : decide (x5_1 < (l0.length : Int)) = false := decide_eq_false c4; clear c4; (first | rw [c4b0] | (simp only [i64_w, i32_w]; rw [c4b0]) | skip); have H' := Aside0.mk H; clear H; go_wp2; repeat (go_quiet (fail); try go_wp2)
      go_meet; case rel => exact ⟨_, (false), (by first | rfl | (simp; done) | (simp [i64_w, i32_w]; done) | (simp [*]; done) | (simp [*, i64_w, i32_w]; done)), H', ⟨by have := HK1.out; first | omega | exact Nat.le_refl _⟩, by repeat (first | exact Drawn0.refl _ | apply Drawn0.step)⟩
   case rest =>
    clear HC3; (try clear c1); (try clear c2); (try clear p2); (try clear c4); (try clear c4b0); (try clear p2); obtain ⟨kq, x15_2, rfl, HA, HJ2, ⟨mc2, rfl⟩⟩ := hcut; cases kq with
    | zero => exact absurd HA.out (by simp [laws_r8Before.j1])
    | succ kj2 =>
     have H := HA.out; clear HA; simp only [laws_r8Before.j1] at H; by_cases c5 : x15_2 = true
     · subst c5; have H1 : (if 0 ≤ x5_1 then (if x5_1 < (l0.length : Int) then (if x5_1 < (l1.length : Int) then (if (rd l0 x5_1) = (rd l1 x5_1) then (laws_r8Before.l0 kj2 l0 l1 (wrap64 (x5_1 + 1))) else (some (decide ((rd l0 x5_1) < (rd l1 x5_1))))) else (none)) else (none)) else (none)) = some r := by rw [if_pos rfl] at H; exact H
       clear H; have H := H1; clear H1; by_cases c6 : 0 ≤ x5_1
       · rw [if_pos c6] at H; have c6b0 : decide (0 ≤ x5_1) = true := decide_eq_true c6; clear c6; by_cases c7 : x5_1 < (l0.length : Int)
         · rw [if_pos c7] at H; have c7b0 : decide (x5_1 < (l0.length : Int)) = true := decide_eq_true c7; clear c7; by_cases c8 : x5_1 < (l1.length : Int)
           · rw [if_pos c8] at H; have c8b0 : decide (x5_1 < (l1.length : Int)) = true := decide_eq_true c8; clear c8; by_cases c9 : (rd l0 x5_1) = (rd l1 x5_1)
             · rw [if_pos c9] at H; have c9b0 : ((rd l0 x5_1) == (rd l1 x5_1)) = true := beq_iff_eq.mpr c9; have c9b1 : ((rd l0 x5_1) != (rd l1 x5_1)) = false := bne_eq_false_iff_eq.mpr c9; clear c9; have H' := Aside0.mk H; clear H; have p432 : 0 ≤ (x5_1 : Int) := of_decide_eq_true (by first | (with_reducible assumption) | assumption); have q432 : x5_1 < (l0.length : Int) := of_decide_eq_true (by first | (with_reducible assumption) | assumption); obtain ⟨ad432, e432, hx432_0⟩ := Kd.at_int HR0.out x5_1 p432 q432; cases e432
               replace p432 := eq_true p432; replace q432 := eq_true q432; have p433 : 0 ≤ (x5_1 : Int) := of_decide_eq_true (by first | (with_reducible assumption) | assumption); have q433 : x5_1 < (l1.length : Int) := of_decide_eq_true (by first | (with_reducible assumption) | assumption); obtain ⟨ad433, e433, hx433_0⟩ := Kd.at_int HR1.out x5_1 p433 q433; cases e433
               replace p433 := eq_true p433; replace q433 := eq_true q433; go_wp2; repeat (go_quiet (fail); try go_wp2)
               go_roundg kj2; case measure => have := HK1.out; have := HJ2.out; omega
               case rel => exact ⟨(wrap64 (x5_1 + 1)), (by first | rfl | (simp; done) | (simp [i64_w, i32_w]; done) | (simp [*]; done) | (simp [*, i64_w, i32_w]; done)), H', ⟨by have := HK1.out; have := HJ2.out; omega⟩, by repeat (first | exact Drawn0.refl _ | apply Drawn0.step)⟩
             · rw [if_neg c9] at H; have c9b0 : ((rd l0 x5_1) == (rd l1 x5_1)) = false := beq_eq_false_iff_ne.mpr c9; have c9b1 : ((rd l0 x5_1) != (rd l1 x5_1)) = true := bne_iff_ne.mpr c9; obtain rfl := Option.some.inj H; have p432 : 0 ≤ (x5_1 : Int) := of_decide_eq_true (by first | (with_reducible assumption) | assumption); have q432 : x5_1 < (l0.length : Int) := of_decide_eq_true (by first | (with_reducible assumption) | assumption); obtain ⟨ad432, e432, hx432_0⟩ := Kd.at_int HR0.out x5_1 p432 q432; cases e432
               replace p432 := eq_true p432; replace q432 := eq_true q432; have p433 : 0 ≤ (x5_1 : Int) := of_decide_eq_true (by first | (with_reducible assumption) | assumption); have q433 : x5_1 < (l1.length : Int) := of_decide_eq_true (by first | (with_reducible assumption) | assumption); obtain ⟨ad433, e433, hx433_0⟩ := Kd.at_int HR1.out x5_1 p433 q433; cases e433
               replace p433 := eq_true p433; replace q433 := eq_true q433; have p434 : 0 ≤ (x5_1 : Int) := of_decide_eq_true (by first | (with_reducible assumption) | assumption); have q434 : x5_1 < (l0.length : Int) := of_decide_eq_true (by first | (with_reducible assumption) | assumption); obtain ⟨ad434, e434, hx434_0⟩ := Kd.at_int HR0.out x5_1 p434 q434; obtain rfl : ad432 = ad434 := (by injection e434); replace p434 := eq_true p434; replace q434 := eq_true q434; have p435 : 0 ≤ (x5_1 : Int) := of_decide_eq_true (by first | (with_reducible assumption) | assumption); have q435 : x5_1 < (l1.length : Int) := of_decide_eq_true (by first | (with_reducible assumption) | assumption); obtain ⟨ad435, e435, hx435_0⟩ := Kd.at_int HR1.out x5_1 p435 q435; obtain rfl : ad433 = ad435 := (by injection e435); replace p435 := eq_true p435; replace q435 := eq_true q435; go_wp2; repeat (go_quiet (fail); try go_wp2)
               go_ret; exact ⟨by first | rfl | (simp; done) | (simp [i64_w, i32_w]; done) | (simp [*]; done) | (simp [*, i64_w, i32_w]; done), by repeat (first | exact Drawn0.refl _ | apply Drawn0.step)⟩
           · rw [if_neg c8] at H; exact absurd H (by simp)
         · rw [if_neg c7] at H; exact absurd H (by simp)
       · rw [if_neg c6] at H; exact absurd H (by simp)
     · replace c5 := Bool.eq_false_iff.mpr c5; subst c5; have H1 : (some false) = some r := by rw [if_neg (show ¬ (false = true) by decide)] at H; exact H
       clear H; have H := H1; clear H1; obtain rfl := Option.some.inj H; go_wp2; repeat (go_quiet (fail); try go_wp2)
       go_ret; exact ⟨by first | rfl | (simp; done) | (simp [i64_w, i32_w]; done) | (simp [*]; done) | (simp [*, i64_w, i32_w]; done), by repeat (first | exact Drawn0.refl _ | apply Drawn0.step)⟩

/-! ### laws_FnTurned: function 3 -/
mutual
def laws_FnTurned.j0 : Nat → List Int → List Int → List Int → Bool → Int → Int → List Int → Int → Int → List Int → Int → Int → List Int → Option (Bool)
  | 0, _, _, _, _, _, _, _, _, _, _, _, _, _ => none
  | k + 1, x1, x9, x13, x251, x445000, x445001, x445002, x480000, x480001, x480002, x494000, x494001, x494002 => if x251 = true then (some false) else ((impl_MirrorRule.f k x480000 x480001 x480002).bind fun bt540 => ((impl_OppositeRule.f k x494000 x494001 x494002).bind fun bt547 => ((impl_LeastTurn.f k x9).bind fun bt554 => ((impl_LeastTurn.f k x13).bind fun bt558 => ((laws_r8At.f x1 45 10).bind fun t562 => ((impl_RowsOfRing.f k x445000 x445001 x445002 x9 t562).bind fun bt563 => ((impl_RunRing.f k x445000 x445001 x445002 x9 t562).bind fun bt567 => ((laws_r8At.f x1 46 8).bind fun t574 => ((impl_RunsShared.f k x445000 x445001 x445002 (([x9, x13] : List (List Int))) t562 (wrap64 (1 + t574))).bind fun bt575 => (if bt540.2.2.2 = true then (if bt547.2.2.2 = true then (if bt554.2 = true then (if bt558.2 = true then (if bt563.2 = true then (if bt567.2 = true then (if bt575.2 = true then ((impl_SameRule.f k bt540.1 bt540.2.1 bt540.2.2.1 x445000 x445001 x445002).bind fun t579 => (if t579 = true then ((impl_SameRule.f k bt547.1 bt547.2.1 bt547.2.2.1 x445000 x445001 x445002).bind fun t580 => (if t580 = true then ((laws_r8Same.f k bt554.1 bt558.1).bind fun t581 => (if t581 = true then ((laws_r8Before.f k x9 bt554.1).bind fun t582 => (if t582 = true then (laws_FnTurned.j1 k t562 bt563.1 true x445000 x445001 x445002) else (if (bt563.1.length : Int) = (wrap64 (t562 + 1)) then (if 0 < (bt563.1.length : Int) then ((laws_r8Same.f k (rd_L2 bt563.1 0) x9).bind fun t584 => (if t584 = true then (if 0 ≤ t562 then (if t562 < (bt563.1.length : Int) then ((laws_r8Same.f k (rd_L2 bt563.1 t562) bt567.1).bind fun t586 => (if t586 = true then (if (bt575.1.length : Int) = 2 then (if 0 < (bt575.1.length : Int) then ((laws_r8Same.f k (rd_L2 bt575.1 0) bt567.1).bind fun t588 => (laws_FnTurned.j1 k t562 bt563.1 (!t588) x445000 x445001 x445002)) else (none)) else (laws_FnTurned.j1 k t562 bt563.1 true x445000 x445001 x445002)) else (laws_FnTurned.j1 k t562 bt563.1 true x445000 x445001 x445002))) else (none)) else (none)) else (laws_FnTurned.j1 k t562 bt563.1 true x445000 x445001 x445002))) else (none)) else (laws_FnTurned.j1 k t562 bt563.1 true x445000 x445001 x445002)))) else (laws_FnTurned.j1 k t562 bt563.1 true x445000 x445001 x445002))) else (laws_FnTurned.j1 k t562 bt563.1 true x445000 x445001 x445002))) else (laws_FnTurned.j1 k t562 bt563.1 true x445000 x445001 x445002))) else (laws_FnTurned.j1 k t562 bt563.1 true x445000 x445001 x445002)) else (laws_FnTurned.j1 k t562 bt563.1 true x445000 x445001 x445002)) else (laws_FnTurned.j1 k t562 bt563.1 true x445000 x445001 x445002)) else (laws_FnTurned.j1 k t562 bt563.1 true x445000 x445001 x445002)) else (laws_FnTurned.j1 k t562 bt563.1 true x445000 x445001 x445002)) else (laws_FnTurned.j1 k t562 bt563.1 true x445000 x445001 x445002)) else (laws_FnTurned.j1 k t562 bt563.1 true x445000 x445001 x445002)))))))))))
def laws_FnTurned.j1 : Nat → Int → List (List Int) → Bool → Int → Int → List Int → Option (Bool)
  | 0, _, _, _, _, _, _ => none
  | k + 1, x45, x46, x385, x445000, x445001, x445002 => if x385 = true then (some false) else (laws_FnTurned.l0 k x45 x46 1 x445000 x445001 x445002)
def laws_FnTurned.l0 : Nat → Int → List (List Int) → Int → Int → Int → List Int → Option (Bool)
  | 0, _, _, _, _, _, _ => none
  | k + 1, x45, x46, x52, x445000, x445001, x445002 => if x52 ≤ x45 then (if 0 ≤ (wrap64 (x52 - 1)) then (if (wrap64 (x52 - 1)) < (x46.length : Int) then ((impl_StepRing.f k x445000 x445001 x445002 (rd_L2 x46 (wrap64 (x52 - 1)))).bind fun bt590 => (if bt590.2 = true then (if 0 ≤ x52 then (if x52 < (x46.length : Int) then ((laws_r8Same.f k bt590.1 (rd_L2 x46 x52)).bind fun t595 => (if t595 = true then (laws_FnTurned.l0 k x45 x46 (wrap64 (x52 + 1)) x445000 x445001 x445002) else (some false))) else (none)) else (none)) else (some false))) else (none)) else (none)) else (some true)
end
def laws_FnTurned.f (k : Nat) (l0 : List Int) (l1 : List Int) : Option (Bool) := (laws_r8Long.f l0 l1).bind fun t436 => (if t436 = true then (some true) else ((laws_r8At.f l1 40 2).bind fun t437 => ((laws_r8At.f l1 41 2).bind fun t438 => ((spec_R8Rule.f k l0 (wrap64 (2 + t437)) t438).bind fun bt439 => ((laws_r8At.f l1 42 2).bind fun t445 => ((spec_R8Rule.f k l1 (wrap64 (2 + t437)) t445).bind fun bt446 => ((laws_r8At.f l1 43 12).bind fun t452 => ((spec_R8Ring.f k l1 (wrap64 (2 + t437)) (wrap64 (1 + t452))).bind fun t453 => ((laws_r8At.f l1 44 12).bind fun t456 => ((impl_StepRing.f k bt439.1 bt439.2.1 bt439.2.2 t453).bind fun bt457 => ((impl_TurnRing.f k t453 t456).bind fun bt461 => ((impl_StepRing.f k bt439.1 bt439.2.1 bt439.2.2 bt461.1).bind fun bt465 => ((impl_TurnRing.f k bt457.1 t456).bind fun bt469 => ((impl_MirrorRule.f k bt439.1 bt439.2.1 bt439.2.2).bind fun bt473 => ((laws_r8Back.f k t453).bind fun t480 => ((impl_StepRing.f k bt473.1 bt473.2.1 bt473.2.2.1 t480).bind fun bt483 => ((impl_OppositeRule.f k bt439.1 bt439.2.1 bt439.2.2).bind fun bt487 => ((laws_r8Opposite.f k t453 (wrap64 (2 + t437))).bind fun t494 => ((impl_StepRing.f k bt487.1 bt487.2.1 bt487.2.2.1 t494).bind fun bt497 => ((impl_WiderRule.f k bt439.1 bt439.2.1 bt439.2.2).bind fun bt501 => ((impl_StepRing.f k bt501.1 bt501.2.1 bt501.2.2.1 t453).bind fun bt508 => ((impl_JoinRules.f k bt439.1 bt439.2.1 bt439.2.2 bt446.1 bt446.2.1 bt446.2.2).bind fun bt512 => ((impl_StepRing.f k bt512.1 bt512.2.1 bt512.2.2.1 t453).bind fun bt519 => ((impl_StepRing.f k bt446.1 bt446.2.1 bt446.2.2 bt457.1).bind fun bt523 => (if bt457.2 = true then (if bt461.2 = true then (if bt465.2 = true then (if bt469.2 = true then (if bt473.2.2.2 = true then (if bt483.2 = true then (if bt487.2.2.2 = true then (if bt497.2 = true then (if bt501.2.2.2 = true then (if bt508.2 = true then (if bt512.2.2.2 = true then (if bt519.2 = true then (if bt523.2 = true then ((impl_ValidRule.f k bt512.1 bt512.2.1 bt512.2.2.1).bind fun t527 => (if t527 = true then ((impl_IsRing.f k bt457.1 (wrap64 (2 + t437))).bind fun t528 => (if t528 = true then ((laws_r8Same.f k bt465.1 bt469.1).bind fun t529 => (if t529 = true then ((laws_r8Back.f k bt483.1).bind fun t530 => ((laws_r8Same.f k t530 bt457.1).bind fun t533 => (if t533 = true then ((laws_r8Opposite.f k bt497.1 (wrap64 (2 + t437))).bind fun t534 => ((laws_r8Same.f k t534 bt457.1).bind fun t537 => (if t537 = true then ((laws_r8Same.f k bt508.1 bt457.1).bind fun t538 => (if t538 = true then ((laws_r8Same.f k bt519.1 bt523.1).bind fun t539 => (laws_FnTurned.j0 k l1 t453 bt461.1 (!t539) bt439.1 bt439.2.1 bt439.2.2 bt473.1 bt473.2.1 bt473.2.2.1 bt487.1 bt487.2.1 bt487.2.2.1)) else (laws_FnTurned.j0 k l1 t453 bt461.1 true bt439.1 bt439.2.1 bt439.2.2 bt473.1 bt473.2.1 bt473.2.2.1 bt487.1 bt487.2.1 bt487.2.2.1))) else (laws_FnTurned.j0 k l1 t453 bt461.1 true bt439.1 bt439.2.1 bt439.2.2 bt473.1 bt473.2.1 bt473.2.2.1 bt487.1 bt487.2.1 bt487.2.2.1)))) else (laws_FnTurned.j0 k l1 t453 bt461.1 true bt439.1 bt439.2.1 bt439.2.2 bt473.1 bt473.2.1 bt473.2.2.1 bt487.1 bt487.2.1 bt487.2.2.1)))) else (laws_FnTurned.j0 k l1 t453 bt461.1 true bt439.1 bt439.2.1 bt439.2.2 bt473.1 bt473.2.1 bt473.2.2.1 bt487.1 bt487.2.1 bt487.2.2.1))) else (laws_FnTurned.j0 k l1 t453 bt461.1 true bt439.1 bt439.2.1 bt439.2.2 bt473.1 bt473.2.1 bt473.2.2.1 bt487.1 bt487.2.1 bt487.2.2.1))) else (laws_FnTurned.j0 k l1 t453 bt461.1 true bt439.1 bt439.2.1 bt439.2.2 bt473.1 bt473.2.1 bt473.2.2.1 bt487.1 bt487.2.1 bt487.2.2.1))) else (laws_FnTurned.j0 k l1 t453 bt461.1 true bt439.1 bt439.2.1 bt439.2.2 bt473.1 bt473.2.1 bt473.2.2.1 bt487.1 bt487.2.1 bt487.2.2.1)) else (laws_FnTurned.j0 k l1 t453 bt461.1 true bt439.1 bt439.2.1 bt439.2.2 bt473.1 bt473.2.1 bt473.2.2.1 bt487.1 bt487.2.1 bt487.2.2.1)) else (laws_FnTurned.j0 k l1 t453 bt461.1 true bt439.1 bt439.2.1 bt439.2.2 bt473.1 bt473.2.1 bt473.2.2.1 bt487.1 bt487.2.1 bt487.2.2.1)) else (laws_FnTurned.j0 k l1 t453 bt461.1 true bt439.1 bt439.2.1 bt439.2.2 bt473.1 bt473.2.1 bt473.2.2.1 bt487.1 bt487.2.1 bt487.2.2.1)) else (laws_FnTurned.j0 k l1 t453 bt461.1 true bt439.1 bt439.2.1 bt439.2.2 bt473.1 bt473.2.1 bt473.2.2.1 bt487.1 bt487.2.1 bt487.2.2.1)) else (laws_FnTurned.j0 k l1 t453 bt461.1 true bt439.1 bt439.2.1 bt439.2.2 bt473.1 bt473.2.1 bt473.2.2.1 bt487.1 bt487.2.1 bt487.2.2.1)) else (laws_FnTurned.j0 k l1 t453 bt461.1 true bt439.1 bt439.2.1 bt439.2.2 bt473.1 bt473.2.1 bt473.2.2.1 bt487.1 bt487.2.1 bt487.2.2.1)) else (laws_FnTurned.j0 k l1 t453 bt461.1 true bt439.1 bt439.2.1 bt439.2.2 bt473.1 bt473.2.1 bt473.2.2.1 bt487.1 bt487.2.1 bt487.2.2.1)) else (laws_FnTurned.j0 k l1 t453 bt461.1 true bt439.1 bt439.2.1 bt439.2.2 bt473.1 bt473.2.1 bt473.2.2.1 bt487.1 bt487.2.1 bt487.2.2.1)) else (laws_FnTurned.j0 k l1 t453 bt461.1 true bt439.1 bt439.2.1 bt439.2.2 bt473.1 bt473.2.1 bt473.2.2.1 bt487.1 bt487.2.1 bt487.2.2.1)) else (laws_FnTurned.j0 k l1 t453 bt461.1 true bt439.1 bt439.2.1 bt439.2.2 bt473.1 bt473.2.1 bt473.2.2.1 bt487.1 bt487.2.1 bt487.2.2.1)) else (laws_FnTurned.j0 k l1 t453 bt461.1 true bt439.1 bt439.2.1 bt439.2.2 bt473.1 bt473.2.1 bt473.2.2.1 bt487.1 bt487.2.1 bt487.2.2.1)) else (laws_FnTurned.j0 k l1 t453 bt461.1 true bt439.1 bt439.2.1 bt439.2.2 bt473.1 bt473.2.1 bt473.2.2.1 bt487.1 bt487.2.1 bt487.2.2.1))))))))))))))))))))))))))
theorem laws_FnTurned.mono_l : ∀ k, (∀ y0 y1 y2 y3 y4 y5 y6 y7 y8 y9 y10 y11 y12, LeO (laws_FnTurned.j0 k y0 y1 y2 y3 y4 y5 y6 y7 y8 y9 y10 y11 y12) (laws_FnTurned.j0 (k + 1) y0 y1 y2 y3 y4 y5 y6 y7 y8 y9 y10 y11 y12)) ∧ (∀ y0 y1 y2 y3 y4 y5, LeO (laws_FnTurned.j1 k y0 y1 y2 y3 y4 y5) (laws_FnTurned.j1 (k + 1) y0 y1 y2 y3 y4 y5)) ∧ (∀ y0 y1 y2 y3 y4 y5, LeO (laws_FnTurned.l0 k y0 y1 y2 y3 y4 y5) (laws_FnTurned.l0 (k + 1) y0 y1 y2 y3 y4 y5))
  | 0 => ⟨fun _ _ _ _ _ _ _ _ _ _ _ _ _ r h => by simp [laws_FnTurned.j0] at h, fun _ _ _ _ _ _ r h => by simp [laws_FnTurned.j1] at h, fun _ _ _ _ _ _ r h => by simp [laws_FnTurned.l0] at h⟩
  | k + 1 => by
    obtain ⟨ih0, ih1, ih2⟩ := laws_FnTurned.mono_l k
    refine ⟨?_, ?_, ?_⟩
    · intro y0 y1 y2 y3 y4 y5 y6 y7 y8 y9 y10 y11 y12
      unfold laws_FnTurned.j0
      repeat' first
      | (with_reducible exact ih0 _ _ _ _ _ _ _ _ _ _ _ _ _)
      | (with_reducible exact ih1 _ _ _ _ _ _)
      | (with_reducible exact ih2 _ _ _ _ _ _)
      | (with_reducible exact impl_IsRing.mono _ _ _)
      | (with_reducible exact impl_JoinRules.mono _ _ _ _ _ _ _)
      | (with_reducible exact impl_LeastTurn.mono _ _)
      | (with_reducible exact impl_MirrorRule.mono _ _ _ _)
      | (with_reducible exact impl_OppositeRule.mono _ _ _ _)
      | (with_reducible exact impl_RowsOfRing.mono _ _ _ _ _ _)
      | (with_reducible exact impl_RunRing.mono _ _ _ _ _ _)
      | (with_reducible exact impl_RunsShared.mono _ _ _ _ _ _ _)
      | (with_reducible exact impl_SameRule.mono _ _ _ _ _ _ _)
      | (with_reducible exact impl_StepRing.mono _ _ _ _ _)
      | (with_reducible exact impl_TurnRing.mono _ _ _)
      | (with_reducible exact impl_ValidRule.mono _ _ _ _)
      | (with_reducible exact impl_WiderRule.mono _ _ _ _)
      | (with_reducible exact laws_r8Back.mono _ _)
      | (with_reducible exact laws_r8Before.mono _ _ _)
      | (with_reducible exact laws_r8Opposite.mono _ _ _)
      | (with_reducible exact laws_r8Same.mono _ _ _)
      | (with_reducible exact spec_R8Ring.mono _ _ _ _)
      | (with_reducible exact spec_R8Rule.mono _ _ _ _)
      | (with_reducible exact LeO.refl _)
      | (with_reducible exact LeO.none _)
      | (with_reducible refine LeO.ite ?_ ?_)
      | (with_reducible refine LeO.bind ?_ (fun _ => ?_))
      | exact ih0 _ _ _ _ _ _ _ _ _ _ _ _ _
      | exact ih1 _ _ _ _ _ _
      | exact ih2 _ _ _ _ _ _
      | exact impl_IsRing.mono _ _ _
      | exact impl_JoinRules.mono _ _ _ _ _ _ _
      | exact impl_LeastTurn.mono _ _
      | exact impl_MirrorRule.mono _ _ _ _
      | exact impl_OppositeRule.mono _ _ _ _
      | exact impl_RowsOfRing.mono _ _ _ _ _ _
      | exact impl_RunRing.mono _ _ _ _ _ _
      | exact impl_RunsShared.mono _ _ _ _ _ _ _
      | exact impl_SameRule.mono _ _ _ _ _ _ _
      | exact impl_StepRing.mono _ _ _ _ _
      | exact impl_TurnRing.mono _ _ _
      | exact impl_ValidRule.mono _ _ _ _
      | exact impl_WiderRule.mono _ _ _ _
      | exact laws_r8Back.mono _ _
      | exact laws_r8Before.mono _ _ _
      | exact laws_r8Opposite.mono _ _ _
      | exact laws_r8Same.mono _ _ _
      | exact spec_R8Ring.mono _ _ _ _
      | exact spec_R8Rule.mono _ _ _ _
      | exact LeO.none _
      | refine LeO.ite ?_ ?_
      | refine LeO.bind ?_ (fun _ => ?_)
    · intro y0 y1 y2 y3 y4 y5
      unfold laws_FnTurned.j1
      repeat' first
      | (with_reducible exact ih0 _ _ _ _ _ _ _ _ _ _ _ _ _)
      | (with_reducible exact ih1 _ _ _ _ _ _)
      | (with_reducible exact ih2 _ _ _ _ _ _)
      | (with_reducible exact impl_IsRing.mono _ _ _)
      | (with_reducible exact impl_JoinRules.mono _ _ _ _ _ _ _)
      | (with_reducible exact impl_LeastTurn.mono _ _)
      | (with_reducible exact impl_MirrorRule.mono _ _ _ _)
      | (with_reducible exact impl_OppositeRule.mono _ _ _ _)
      | (with_reducible exact impl_RowsOfRing.mono _ _ _ _ _ _)
      | (with_reducible exact impl_RunRing.mono _ _ _ _ _ _)
      | (with_reducible exact impl_RunsShared.mono _ _ _ _ _ _ _)
      | (with_reducible exact impl_SameRule.mono _ _ _ _ _ _ _)
      | (with_reducible exact impl_StepRing.mono _ _ _ _ _)
      | (with_reducible exact impl_TurnRing.mono _ _ _)
      | (with_reducible exact impl_ValidRule.mono _ _ _ _)
      | (with_reducible exact impl_WiderRule.mono _ _ _ _)
      | (with_reducible exact laws_r8Back.mono _ _)
      | (with_reducible exact laws_r8Before.mono _ _ _)
      | (with_reducible exact laws_r8Opposite.mono _ _ _)
      | (with_reducible exact laws_r8Same.mono _ _ _)
      | (with_reducible exact spec_R8Ring.mono _ _ _ _)
      | (with_reducible exact spec_R8Rule.mono _ _ _ _)
      | (with_reducible exact LeO.refl _)
      | (with_reducible exact LeO.none _)
      | (with_reducible refine LeO.ite ?_ ?_)
      | (with_reducible refine LeO.bind ?_ (fun _ => ?_))
      | exact ih0 _ _ _ _ _ _ _ _ _ _ _ _ _
      | exact ih1 _ _ _ _ _ _
      | exact ih2 _ _ _ _ _ _
      | exact impl_IsRing.mono _ _ _
      | exact impl_JoinRules.mono _ _ _ _ _ _ _
      | exact impl_LeastTurn.mono _ _
      | exact impl_MirrorRule.mono _ _ _ _
      | exact impl_OppositeRule.mono _ _ _ _
      | exact impl_RowsOfRing.mono _ _ _ _ _ _
      | exact impl_RunRing.mono _ _ _ _ _ _
      | exact impl_RunsShared.mono _ _ _ _ _ _ _
      | exact impl_SameRule.mono _ _ _ _ _ _ _
      | exact impl_StepRing.mono _ _ _ _ _
      | exact impl_TurnRing.mono _ _ _
      | exact impl_ValidRule.mono _ _ _ _
      | exact impl_WiderRule.mono _ _ _ _
      | exact laws_r8Back.mono _ _
      | exact laws_r8Before.mono _ _ _
      | exact laws_r8Opposite.mono _ _ _
      | exact laws_r8Same.mono _ _ _
      | exact spec_R8Ring.mono _ _ _ _
      | exact spec_R8Rule.mono _ _ _ _
      | exact LeO.none _
      | refine LeO.ite ?_ ?_
      | refine LeO.bind ?_ (fun _ => ?_)
    · intro y0 y1 y2 y3 y4 y5
      unfold laws_FnTurned.l0
      repeat' first
      | (with_reducible exact ih0 _ _ _ _ _ _ _ _ _ _ _ _ _)
      | (with_reducible exact ih1 _ _ _ _ _ _)
      | (with_reducible exact ih2 _ _ _ _ _ _)
      | (with_reducible exact impl_IsRing.mono _ _ _)
      | (with_reducible exact impl_JoinRules.mono _ _ _ _ _ _ _)
      | (with_reducible exact impl_LeastTurn.mono _ _)
      | (with_reducible exact impl_MirrorRule.mono _ _ _ _)
      | (with_reducible exact impl_OppositeRule.mono _ _ _ _)
      | (with_reducible exact impl_RowsOfRing.mono _ _ _ _ _ _)
      | (with_reducible exact impl_RunRing.mono _ _ _ _ _ _)
      | (with_reducible exact impl_RunsShared.mono _ _ _ _ _ _ _)
      | (with_reducible exact impl_SameRule.mono _ _ _ _ _ _ _)
      | (with_reducible exact impl_StepRing.mono _ _ _ _ _)
      | (with_reducible exact impl_TurnRing.mono _ _ _)
      | (with_reducible exact impl_ValidRule.mono _ _ _ _)
      | (with_reducible exact impl_WiderRule.mono _ _ _ _)
      | (with_reducible exact laws_r8Back.mono _ _)
      | (with_reducible exact laws_r8Before.mono _ _ _)
      | (with_reducible exact laws_r8Opposite.mono _ _ _)
      | (with_reducible exact laws_r8Same.mono _ _ _)
      | (with_reducible exact spec_R8Ring.mono _ _ _ _)
      | (with_reducible exact spec_R8Rule.mono _ _ _ _)
      | (with_reducible exact LeO.refl _)
      | (with_reducible exact LeO.none _)
      | (with_reducible refine LeO.ite ?_ ?_)
      | (with_reducible refine LeO.bind ?_ (fun _ => ?_))
      | exact ih0 _ _ _ _ _ _ _ _ _ _ _ _ _
      | exact ih1 _ _ _ _ _ _
      | exact ih2 _ _ _ _ _ _
      | exact impl_IsRing.mono _ _ _
      | exact impl_JoinRules.mono _ _ _ _ _ _ _
      | exact impl_LeastTurn.mono _ _
      | exact impl_MirrorRule.mono _ _ _ _
      | exact impl_OppositeRule.mono _ _ _ _
      | exact impl_RowsOfRing.mono _ _ _ _ _ _
      | exact impl_RunRing.mono _ _ _ _ _ _
      | exact impl_RunsShared.mono _ _ _ _ _ _ _
      | exact impl_SameRule.mono _ _ _ _ _ _ _
      | exact impl_StepRing.mono _ _ _ _ _
      | exact impl_TurnRing.mono _ _ _
      | exact impl_ValidRule.mono _ _ _ _
      | exact impl_WiderRule.mono _ _ _ _
      | exact laws_r8Back.mono _ _
      | exact laws_r8Before.mono _ _ _
      | exact laws_r8Opposite.mono _ _ _
      | exact laws_r8Same.mono _ _ _
      | exact spec_R8Ring.mono _ _ _ _
      | exact spec_R8Rule.mono _ _ _ _
      | exact LeO.none _
      | refine LeO.ite ?_ ?_
      | refine LeO.bind ?_ (fun _ => ?_)
theorem laws_FnTurned.mono : ∀ a0 a1 k, LeO (laws_FnTurned.f k a0 a1) (laws_FnTurned.f (k + 1) a0 a1) := by
 intro a0 a1 k; obtain ⟨ih0, ih1, ih2⟩ := laws_FnTurned.mono_l k; unfold laws_FnTurned.f; repeat' first
  | (with_reducible exact ih0 _ _ _ _ _ _ _ _ _ _ _ _ _)
  | (with_reducible exact ih1 _ _ _ _ _ _)
  | (with_reducible exact ih2 _ _ _ _ _ _)
  | (with_reducible exact impl_IsRing.mono _ _ _)
  | (with_reducible exact impl_JoinRules.mono _ _ _ _ _ _ _)
  | (with_reducible exact impl_LeastTurn.mono _ _)
  | (with_reducible exact impl_MirrorRule.mono _ _ _ _)
  | (with_reducible exact impl_OppositeRule.mono _ _ _ _)
  | (with_reducible exact impl_RowsOfRing.mono _ _ _ _ _ _)
  | (with_reducible exact impl_RunRing.mono _ _ _ _ _ _)
  | (with_reducible exact impl_RunsShared.mono _ _ _ _ _ _ _)
  | (with_reducible exact impl_SameRule.mono _ _ _ _ _ _ _)
  | (with_reducible exact impl_StepRing.mono _ _ _ _ _)
  | (with_reducible exact impl_TurnRing.mono _ _ _)
  | (with_reducible exact impl_ValidRule.mono _ _ _ _)
  | (with_reducible exact impl_WiderRule.mono _ _ _ _)
  | (with_reducible exact laws_r8Back.mono _ _)
  | (with_reducible exact laws_r8Before.mono _ _ _)
  | (with_reducible exact laws_r8Opposite.mono _ _ _)
  | (with_reducible exact laws_r8Same.mono _ _ _)
  | (with_reducible exact spec_R8Ring.mono _ _ _ _)
  | (with_reducible exact spec_R8Rule.mono _ _ _ _)
  | (with_reducible exact LeO.refl _)
  | (with_reducible exact LeO.none _)
  | (with_reducible refine LeO.ite ?_ ?_)
  | (with_reducible refine LeO.bind ?_ (fun _ => ?_))
  | exact ih0 _ _ _ _ _ _ _ _ _ _ _ _ _
  | exact ih1 _ _ _ _ _ _
  | exact ih2 _ _ _ _ _ _
  | exact impl_IsRing.mono _ _ _
  | exact impl_JoinRules.mono _ _ _ _ _ _ _
  | exact impl_LeastTurn.mono _ _
  | exact impl_MirrorRule.mono _ _ _ _
  | exact impl_OppositeRule.mono _ _ _ _
  | exact impl_RowsOfRing.mono _ _ _ _ _ _
  | exact impl_RunRing.mono _ _ _ _ _ _
  | exact impl_RunsShared.mono _ _ _ _ _ _ _
  | exact impl_SameRule.mono _ _ _ _ _ _ _
  | exact impl_StepRing.mono _ _ _ _ _
  | exact impl_TurnRing.mono _ _ _
  | exact impl_ValidRule.mono _ _ _ _
  | exact impl_WiderRule.mono _ _ _ _
  | exact laws_r8Back.mono _ _
  | exact laws_r8Before.mono _ _ _
  | exact laws_r8Opposite.mono _ _ _
  | exact laws_r8Same.mono _ _ _
  | exact spec_R8Ring.mono _ _ _ _
  | exact spec_R8Rule.mono _ _ _ _
  | exact LeO.none _
  | refine LeO.ite ?_ ?_
  | refine LeO.bind ?_ (fun _ => ?_)
def laws_FnTurned.T14 : Bool × List (List Nat × List Nat) := (true, [([], []), ([], []), ([1], [1]), ([0, 2, 2], [0, 2]), ([3], [3]), ([4], [4]), ([4], [4]), ([5, 3, 0, 1, 2, 3, 4, 5], [5]), ([6, 7, 0, 1, 2, 3, 4, 5, 6, 7], [6])])
def laws_FnTurned.B14 : List Nat := [0, 0, 2, 7, 15, 31, 31, 63, 255]
theorem laws_FnTurned.tab14 : rtab .any (opsOf Try.f3 14) = laws_FnTurned.T14 := by kernel_rfl
theorem laws_FnTurned.bits14 : waitsOk laws_FnTurned.T14.2 laws_FnTurned.B14 = true := by kernel_rfl
def laws_FnTurned.T16 : Bool × List (List Nat × List Nat) := (true, [([], []), ([], []), ([], []), ([1, 2], [1, 2]), ([0, 3, 3], [0, 3]), ([4], [4]), ([5], [5]), ([5], [5]), ([6, 4, 0, 1, 2, 3, 4, 5, 6], [6]), ([7, 8, 0, 1, 2, 3, 4, 5, 6, 7, 8], [7])])
def laws_FnTurned.B16 : List Nat := [0, 0, 0, 6, 15, 31, 63, 63, 127, 511]
theorem laws_FnTurned.tab16 : rtab .any (opsOf Try.f3 16) = laws_FnTurned.T16 := by kernel_rfl
theorem laws_FnTurned.bits16 : waitsOk laws_FnTurned.T16.2 laws_FnTurned.B16 = true := by kernel_rfl
def laws_FnTurned.T31 : Bool × List (List Nat × List Nat) := (true, [([], []), ([], []), ([], []), ([1, 2], [1, 2]), ([], []), ([], []), ([5], [5]), ([6], [6]), ([0, 3, 4, 7, 6], [0, 3, 4, 7]), ([8], [8]), ([9], [9]), ([9], [9]), ([10, 8, 0, 1, 2, 3, 4, 5, 6, 7, 8, 9, 10], [10]), ([11, 12, 0, 1, 2, 3, 4, 5, 6, 7, 8, 9, 10, 11, 12], [11])])
def laws_FnTurned.B31 : List Nat := [0, 0, 0, 6, 0, 0, 32, 96, 255, 511, 1023, 1023, 2047, 8191]
theorem laws_FnTurned.tab31 : rtab .any (opsOf Try.f3 31) = laws_FnTurned.T31 := by kernel_rfl
theorem laws_FnTurned.bits31 : waitsOk laws_FnTurned.T31.2 laws_FnTurned.B31 = true := by kernel_rfl
def laws_FnTurned.T37 : Bool × List (List Nat × List Nat) := (true, [([], []), ([], []), ([], []), ([2], [2]), ([1, 3], [1, 3]), ([4], [4]), ([0, 5], [0, 5]), ([6], [6]), ([7], [7]), ([7], [7]), ([8, 6, 0, 1, 2, 3, 4, 5, 6, 7, 8], [8]), ([9, 10, 0, 1, 2, 3, 4, 5, 6, 7, 8, 9, 10], [9])])
def laws_FnTurned.B37 : List Nat := [0, 0, 0, 4, 14, 30, 63, 127, 255, 255, 511, 2047]
theorem laws_FnTurned.tab37 : rtab .any (opsOf Try.f3 37) = laws_FnTurned.T37 := by kernel_rfl
theorem laws_FnTurned.bits37 : waitsOk laws_FnTurned.T37.2 laws_FnTurned.B37 = true := by kernel_rfl
theorem laws_FnTurned.no0 {k : Nat} {a0 a1 a2 a4 a5 a6 a7 a8 a9 a10 a11 a12} {r : Bool} (hr : r = true) : ¬ laws_FnTurned.j0 k a0 a1 a2 true a4 a5 a6 a7 a8 a9 a10 a11 a12 = some r := by subst hr; cases k <;> (rw [laws_FnTurned.j0]; first | (rw [if_pos rfl]; simp; done) | (simp; done))
theorem laws_FnTurned.no1 {k : Nat} {a0 a1 a3 a4 a5} {r : Bool} (hr : r = true) : ¬ laws_FnTurned.j1 k a0 a1 true a3 a4 a5 = some r := by subst hr; cases k <;> (rw [laws_FnTurned.j1]; first | (rw [if_pos rfl]; simp; done) | (simp; done))

end Go.Proofs.Ytbmffanhebjlgaa.PFnTurned

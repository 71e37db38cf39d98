-- Written by a program of this session (its own print).
import Derived.Test.YtbeinhdoggfgkaaPFnVotedx0
import Derived.Test.YtbeinhdoggfgkaaPFnVotedx3
import Derived.Test.YtbeinhdoggfgkaaPFnVotedx4
namespace Go.Proofs.Ytbeinhdoggfgkaa.PFnVoted
open Go.RowKit Go.Proofs.YtbeinhdoggfgkaaW.PrintWords Go.Proofs.YtbeinhdoggfgkaaW.PrintLast Go.Proofs.YtbeinhdoggfgkaaW.PrintMore
attribute [local go_sem] max2_int min2_int max_two min_two max_three min_three max_four min_four   -- for this text's walks alone
set_option linter.unusedVariables false
set_option linter.unusedSimpArgs false

/-! ### spec_l04Plain: function 102 -/
def spec_l04Plain.l0 : Nat → Int → Int → Int → List Int → Option (Bool)
  | 0, _, _, _, _ => none
  | k + 1, x3, x1000, x1001, x1002 => if x3 < (x1002.length : Int) then (if 0 ≤ x3 then (if (rd x1002 x3) > 1 then (some false) else (spec_l04Plain.l0 k (wrap64 (x3 + 1)) x1000 x1001 x1002)) else (none)) else (some true)
def spec_l04Plain.f (k : Nat) (a0_0 : Int) (a0_1 : Int) (l0_2 : List Int) : Option (Bool) := (spec_l04Is.f k a0_0 a0_1 l0_2).bind fun t159 => (if t159 = true then (spec_l04Plain.l0 k 0 a0_0 a0_1 l0_2) else (some false))
theorem spec_l04Plain.mono_l : ∀ k, (∀ y0 y1 y2 y3, LeO (spec_l04Plain.l0 k y0 y1 y2 y3) (spec_l04Plain.l0 (k + 1) y0 y1 y2 y3))
  | 0 => fun _ _ _ _ r h => by simp [spec_l04Plain.l0] at h
  | k + 1 => by
    have ih0 := spec_l04Plain.mono_l k
    · intro y0 y1 y2 y3
      unfold spec_l04Plain.l0
      repeat' first
      | (with_reducible exact ih0 _ _ _ _)
      | (with_reducible exact spec_l04Is.mono _ _ _ _)
      | (with_reducible exact LeO.refl _)
      | (with_reducible exact LeO.none _)
      | (with_reducible refine LeO.ite ?_ ?_)
      | (with_reducible refine LeO.bind ?_ (fun _ => ?_))
      | exact ih0 _ _ _ _
      | exact spec_l04Is.mono _ _ _ _
      | exact LeO.none _
      | refine LeO.ite ?_ ?_
      | refine LeO.bind ?_ (fun _ => ?_)
theorem spec_l04Plain.mono : ∀ a0 a1 a2 k, LeO (spec_l04Plain.f k a0 a1 a2) (spec_l04Plain.f (k + 1) a0 a1 a2) := by
  intro a0 a1 a2 k
  have ih0 := spec_l04Plain.mono_l k
  unfold spec_l04Plain.f
  repeat' first
      | (with_reducible exact ih0 _ _ _ _)
      | (with_reducible exact spec_l04Is.mono _ _ _ _)
      | (with_reducible exact LeO.refl _)
      | (with_reducible exact LeO.none _)
      | (with_reducible refine LeO.ite ?_ ?_)
      | (with_reducible refine LeO.bind ?_ (fun _ => ?_))
      | exact ih0 _ _ _ _
      | exact spec_l04Is.mono _ _ _ _
      | exact LeO.none _
      | refine LeO.ite ?_ ?_
      | refine LeO.bind ?_ (fun _ => ?_)
set_option maxHeartbeats 8000000 in
set_option maxRecDepth 100000 in
theorem spec_l04Plain.calls (k : Nat) (p0 : Addr) (a0_0 : Int) (a0_1 : Int) (A0_2 : Option Addr) (c0_2 : Nat) (l0_2 : List Int) (r : Bool) (w : World) (hg0_0 : w.cell? p0 = some (.int .i64 a0_0)) (hg0_1 : w.cell? ⟨p0.block, p0.off + 1, none⟩ = some (.int .i64 a0_1)) (hg0_2 : w.cell? ⟨p0.block, p0.off + 2, none⟩ = some (.slice A0_2 l0_2.length c0_2)) (hr0_2 : Kd.C (Kd.int .i64) w A0_2 l0_2.length l0_2) (hc0_2 : l0_2.length ≤ c0_2) (h : spec_l04Plain.f k a0_0 a0_1 l0_2 = some r) :
    Calls Try.prog 102 #[.pointer (some p0)] w fun e w' => e = .returned (.bool r) ∧ Below w.heap.size w w' := by
  have HR0_2 := Aside0.mk hr0_2
  have HC0_2 := Aside0.mk hc0_2
  clear hr0_2 hc0_2
  have BK0_0 := Aside0.mk hg0_0
  clear hg0_0
  have BK0_1 := Aside0.mk hg0_1
  clear hg0_1
  have BK0_2 := Aside0.mk hg0_2
  clear hg0_2
  have HB := Aside0.mk (Below.refl w.heap.size w)
  have H : ((spec_l04Is.f k a0_0 a0_1 l0_2).bind fun t159 => (if t159 = true then (spec_l04Plain.l0 k 0 a0_0 a0_1 l0_2) else (some false))) = some r := h
  clear h
  replace H := Option.bind_eq_some_iff.mp H
  obtain ⟨t159, A20, H⟩ := H
  replace H : (if t159 = true then (spec_l04Plain.l0 k 0 a0_0 a0_1 l0_2) else (some false)) = some r := H
  have A2 := Aside0.mk A20
  clear A20
  by_cases c3 : t159 = true
  · subst c3
    have H1 : (spec_l04Plain.l0 k 0 a0_0 a0_1 l0_2) = some r := by rw [if_pos rfl] at H; exact H
    clear H
    have H := H1
    clear H1
    have H' := Aside0.mk H
    clear H
    go_enter Try.func102, Try.ntmps102
    go_wp2_with (first | ((with_reducible refine gate_callee (f := 115) rfl ?_); refine goesL_ (some 5) rfl rfl Try.func115 (by kernel_rfl) rfl #[.pointer (some p0)] rfl (by (try simp only [List.map_toArray, List.map_cons, List.map_nil]); first | done | rfl | (simp only [List.length_drop, List.length_take]; rfl)) ?_; (with_reducible refine (spec_l04Is.calls k p0 a0_0 a0_1 A0_2 c0_2 l0_2 true _ ?side1 ?side2 ?side3 ?side4 ?side5 A2.out).mono ?_); (case side1 => exact (Below.cell (show Below w.heap.size w _ from by repeat (first | (with_reducible first | exact HB.out | apply below_alloc | apply pw_below_drewN | apply below_drew1) | exact HB.out)) (World.block_lt_of_cell? w _ BK0_0.out)).trans BK0_0.out); (case side2 => exact (Below.cell (show Below w.heap.size w _ from by repeat (first | (with_reducible first | exact HB.out | apply below_alloc | apply pw_below_drewN | apply below_drew1) | exact HB.out)) (World.block_lt_of_cell? w _ BK0_1.out)).trans BK0_1.out); (case side3 => exact (Below.cell (show Below w.heap.size w _ from by repeat (first | (with_reducible first | exact HB.out | apply below_alloc | apply pw_below_drewN | apply below_drew1) | exact HB.out)) (World.block_lt_of_cell? w _ BK0_2.out)).trans BK0_2.out); (case side4 => repeat (first | exact HR0_2.out | (with_reducible refine Kd.C_alloc ?_ _) | (with_reducible refine Kd.C_drewN ?_ _) | (with_reducible refine Kd.C_drew ?_))); (case side5 => exact HC0_2.out); rintro e w4 ⟨rfl, hb⟩; refine ⟨_, rfl, ?_⟩; have n0_ := Aside0.mk (below_step (bk_ HB.out) hb); clear HB; have HB := n0_; clear n0_; (try clear hb); (try clear hb2); (try clear hk); (try clear hi)))
    go_loopg [3] k (fun kq v3 w' => ∃ (x3_1 : Int), v3 = .int .i64 x3_1 ∧ Aside0 (spec_l04Plain.l0 kq x3_1 a0_0 a0_1 l0_2 = some r) ∧ Aside0 (kq ≤ k) ∧ Aside0 (Below w.heap.size w w'))
    case atStart => exact ⟨(0), (by first | rfl | (simp; done) | (simp [i64_w, i32_w]; done) | (simp [*]; done) | (simp [*, i64_w, i32_w]; done)), H', ⟨Nat.le_refl _⟩, ⟨bk_ HB.out⟩⟩
    case round =>
      clear H'
      try clear c1
      try clear p2
      try clear c3
      try clear p0
      obtain ⟨x3_1, rfl, HA, HK1, HB⟩ := hrel
      cases gk with
      | zero => exact absurd HA.out (by simp [spec_l04Plain.l0])
      | succ k1 =>
        have H := HA.out
        clear HA
        simp only [spec_l04Plain.l0] at H
        by_cases c5 : x3_1 < (l0_2.length : Int)
        · rw [if_pos c5] at H
          have c5b0 : decide (x3_1 < (l0_2.length : Int)) = true := decide_eq_true c5
          clear c5
          by_cases c6 : 0 ≤ x3_1
          · rw [if_pos c6] at H
            have c6b0 : decide (0 ≤ x3_1) = true := decide_eq_true c6
            clear c6
            by_cases c7 : (rd l0_2 x3_1) > 1
            · rw [if_pos c7] at H
              have c7b0 : decide (1 < (rd l0_2 x3_1)) = true := decide_eq_true c7
              clear c7
              obtain rfl := Option.some.inj H
              have hcz8_0 : w.cell? p0 = some (.int .i64 a0_0) := BK0_0.out
              have hcz8_1 : w.cell? ⟨p0.block, p0.off + 1, none⟩ = some (.int .i64 a0_1) := BK0_1.out
              have hcz8_2 : w.cell? ⟨p0.block, p0.off + 2, none⟩ = some (.slice A0_2 l0_2.length c0_2) := BK0_2.out
              replace hcz8_0 := (HB.out.cell (World.block_lt_of_cell? w _ hcz8_0)).trans hcz8_0
              replace hcz8_1 := (HB.out.cell (World.block_lt_of_cell? w _ hcz8_1)).trans hcz8_1
              replace hcz8_2 := (HB.out.cell (World.block_lt_of_cell? w _ hcz8_2)).trans hcz8_2
              have p160 : 0 ≤ (x3_1 : Int) := of_decide_eq_true (by first | (with_reducible assumption) | assumption)
              have q160 : x3_1 < (l0_2.length : Int) := of_decide_eq_true (by first | (with_reducible assumption) | assumption)
              obtain ⟨ad160, e160, hx160_0⟩ := Kd.at_int HR0_2.out x3_1 p160 q160
              cases e160
              replace hx160_0 := (HB.out.cell (World.block_lt_of_cell? w _ hx160_0)).trans hx160_0
              replace p160 := eq_true p160
              replace q160 := eq_true q160
              go_wp2
              go_ret
              exact ⟨by first | rfl | (simp [errW_none, errW_some] <;> rfl) | (simp [*, errW_none, errW_some] <;> rfl), bk_ HB.out⟩
            · rw [if_neg c7] at H
              have c7b0 : decide (1 < (rd l0_2 x3_1)) = false := decide_eq_false c7
              clear c7
              have H' := Aside0.mk H
              clear H
              have hcz9_0 : w.cell? p0 = some (.int .i64 a0_0) := BK0_0.out
              have hcz9_1 : w.cell? ⟨p0.block, p0.off + 1, none⟩ = some (.int .i64 a0_1) := BK0_1.out
              have hcz9_2 : w.cell? ⟨p0.block, p0.off + 2, none⟩ = some (.slice A0_2 l0_2.length c0_2) := BK0_2.out
              replace hcz9_0 := (HB.out.cell (World.block_lt_of_cell? w _ hcz9_0)).trans hcz9_0
              replace hcz9_1 := (HB.out.cell (World.block_lt_of_cell? w _ hcz9_1)).trans hcz9_1
              replace hcz9_2 := (HB.out.cell (World.block_lt_of_cell? w _ hcz9_2)).trans hcz9_2
              have p160 : 0 ≤ (x3_1 : Int) := of_decide_eq_true (by first | (with_reducible assumption) | assumption)
              have q160 : x3_1 < (l0_2.length : Int) := of_decide_eq_true (by first | (with_reducible assumption) | assumption)
              obtain ⟨ad160, e160, hx160_0⟩ := Kd.at_int HR0_2.out x3_1 p160 q160
              cases e160
              replace hx160_0 := (HB.out.cell (World.block_lt_of_cell? w _ hx160_0)).trans hx160_0
              replace p160 := eq_true p160
              replace q160 := eq_true q160
              go_wp2
              go_roundg k1
              case measure => have := HK1.out; omega
              case rel => exact ⟨(wrap64 (x3_1 + 1)), (by first | rfl | (simp; done) | (simp [i64_w, i32_w]; done) | (simp [*]; done) | (simp [*, i64_w, i32_w]; done)), H', ⟨by have := HK1.out; omega⟩, ⟨bk_ HB.out⟩⟩
          · rw [if_neg c6] at H
            exact absurd H (by simp)
        · rw [if_neg c5] at H
          have c5b0 : decide (x3_1 < (l0_2.length : Int)) = false := decide_eq_false c5
          clear c5
          obtain rfl := Option.some.inj H
          have hcz10_0 : w.cell? p0 = some (.int .i64 a0_0) := BK0_0.out
          have hcz10_1 : w.cell? ⟨p0.block, p0.off + 1, none⟩ = some (.int .i64 a0_1) := BK0_1.out
          have hcz10_2 : w.cell? ⟨p0.block, p0.off + 2, none⟩ = some (.slice A0_2 l0_2.length c0_2) := BK0_2.out
          replace hcz10_0 := (HB.out.cell (World.block_lt_of_cell? w _ hcz10_0)).trans hcz10_0
          replace hcz10_1 := (HB.out.cell (World.block_lt_of_cell? w _ hcz10_1)).trans hcz10_1
          replace hcz10_2 := (HB.out.cell (World.block_lt_of_cell? w _ hcz10_2)).trans hcz10_2
          go_wp2
          go_ret
          exact ⟨by first | rfl | (simp [errW_none, errW_some] <;> rfl) | (simp [*, errW_none, errW_some] <;> rfl), bk_ HB.out⟩
  · replace c3 := Bool.eq_false_iff.mpr c3
    subst c3
    have H1 : (some false) = some r := by rw [if_neg (show ¬ (false = true) by decide)] at H; exact H
    clear H
    have H := H1
    clear H1
    obtain rfl := Option.some.inj H
    go_enter Try.func102, Try.ntmps102
    go_wp2_with (first | ((with_reducible refine gate_callee (f := 115) rfl ?_); refine goesL_ (some 5) rfl rfl Try.func115 (by kernel_rfl) rfl #[.pointer (some p0)] rfl (by (try simp only [List.map_toArray, List.map_cons, List.map_nil]); first | done | rfl | (simp only [List.length_drop, List.length_take]; rfl)) ?_; (with_reducible refine (spec_l04Is.calls k p0 a0_0 a0_1 A0_2 c0_2 l0_2 false _ ?side1 ?side2 ?side3 ?side4 ?side5 A2.out).mono ?_); (case side1 => exact (Below.cell (show Below w.heap.size w _ from by repeat (first | (with_reducible first | exact HB.out | apply below_alloc | apply pw_below_drewN | apply below_drew1) | exact HB.out)) (World.block_lt_of_cell? w _ BK0_0.out)).trans BK0_0.out); (case side2 => exact (Below.cell (show Below w.heap.size w _ from by repeat (first | (with_reducible first | exact HB.out | apply below_alloc | apply pw_below_drewN | apply below_drew1) | exact HB.out)) (World.block_lt_of_cell? w _ BK0_1.out)).trans BK0_1.out); (case side3 => exact (Below.cell (show Below w.heap.size w _ from by repeat (first | (with_reducible first | exact HB.out | apply below_alloc | apply pw_below_drewN | apply below_drew1) | exact HB.out)) (World.block_lt_of_cell? w _ BK0_2.out)).trans BK0_2.out); (case side4 => repeat (first | exact HR0_2.out | (with_reducible refine Kd.C_alloc ?_ _) | (with_reducible refine Kd.C_drewN ?_ _) | (with_reducible refine Kd.C_drew ?_))); (case side5 => exact HC0_2.out); rintro e w11 ⟨rfl, hb⟩; refine ⟨_, rfl, ?_⟩; have n0_ := Aside0.mk (below_step (bk_ HB.out) hb); clear HB; have HB := n0_; clear n0_; (try clear hb); (try clear hb2); (try clear hk); (try clear hi)))
    go_ret
    exact ⟨by first | rfl | (simp [errW_none, errW_some] <;> rfl) | (simp [*, errW_none, errW_some] <;> rfl), bk_ HB.out⟩

/-! ### spec_l04New: function 129 -/
def spec_l04New.f (a0 : Int) (a1 : Int) : Option (Int × Int × List Int) := if 0 ≤ (wrap64 (a0 * a1)) then (if (wrap64 (a0 * a1) : Int).toNat ≤ 35184372088832 then (some (a0, a1, (List.replicate (wrap64 (a0 * a1) : Int).toNat 0))) else (none)) else (none)
set_option maxHeartbeats 8000000 in
set_option maxRecDepth 100000 in
theorem spec_l04New.calls (a0 : Int) (a1 : Int) (r1 : Int) (r2 : Int) (r3 : List Int) (w : World) (h : spec_l04New.f a0 a1 = some (r1, r2, r3)) :
    Calls Try.prog 129 #[.int .i64 a0, .int .i64 a1] w fun e w' => ∃ v2_ : Value, e = .returned (.agg #[.int .i64 r1, .int .i64 r2, v2_]) ∧ Kd.R (Kd.int .i64) 2 w' w.heap.size (fun _ => True) v2_ r3 ∧ Below w.heap.size w w' := by
  have hu28 := Try.underlying28
  have HB := Aside0.mk (Below.refl w.heap.size w)
  have H : (if 0 ≤ (wrap64 (a0 * a1)) then (if (wrap64 (a0 * a1) : Int).toNat ≤ 35184372088832 then (some (a0, a1, (List.replicate (wrap64 (a0 * a1) : Int).toNat 0))) else (none)) else (none)) = some (r1, r2, r3) := h
  clear h
  obtain ⟨ji3, hji3⟩ : ∃ j_ : Int, (wrap64 (a0 * a1)) = j_ := ⟨_, rfl⟩
  replace H : (if 0 ≤ (ji3) then (if (ji3 : Int).toNat ≤ 35184372088832 then (some (a0, a1, (List.replicate (ji3 : Int).toNat 0))) else (none)) else (none)) = some (r1, r2, r3) := by first | (rw [hji3] at H; exact H) | (simp only [hji3] at H ⊢; exact H)
  have hji3w : (IntKind.i64.wrap (a0 * a1)) = ji3 := (i64_w _).trans hji3
  by_cases c4 : 0 ≤ (ji3)
  · rw [if_pos c4] at H
    have c4b0 := eq_true c4
    have c4b1 : decide (0 ≤ (ji3)) = true := decide_eq_true c4
    clear c4
    by_cases c5 : (ji3 : Int).toNat ≤ 35184372088832
    · rw [if_pos c5] at H
      have c5b0 := eq_true c5
      have c5b1 : decide ((ji3 : Int).toNat ≤ 35184372088832) = true := decide_eq_true c5
      clear c5
      obtain ⟨y162, hy162⟩ : ∃ y_ : List Int, y_ = (List.replicate (ji3 : Int).toNat 0) := ⟨_, rfl⟩
      replace H : (some (a0, a1, y162)) = some (r1, r2, r3) := by first | (rw [hy162]; with_reducible exact H) | (have H2_ := (Option.bind_some _ _).symm.trans H; rw [hy162]; with_reducible exact H2_) | (have H2_ := (Option.bind_some _ _).symm.trans H; with_reducible exact H2_) | with_reducible exact H | (rw [hy162]; exact H) | exact H
      have Ny162 := Aside0.mk hy162
      clear hy162
      simp only [Option.some.injEq, Prod.mk.injEq] at H
      obtain ⟨rfl, rfl, rfl⟩ := H
      go_enter Try.func129, Try.ntmps129
      go_wp2_with (first | ((with_reducible refine gate_dst (N := 4) rfl ?_); refine box_event ?hg (N := 4) ?hd (cs := #[.int .i64 0, .int .i64 0, .slice none 0 0]) (t := 28) ?hr ?_; (case hd => rfl); (case hg => rfl); (case hr => first | (go_simp; done) | (go_simp; rfl)); intro gb161 hg w6 hbox hb; have n0_ := Aside0.mk (below_step (bk_ HB.out) hb); have n1_ := Aside0.mk (hbox); have n2_ := Aside0.mk ((by rw [hg]; exact (below_size (bk_ HB.out)) : w.heap.size ≤ gb161)); have n3_ := Aside0.mk ((by rw [hg]; exact (below_size (bk_ HB.out)) : w.heap.size ≤ gb161)); clear HB; have HB := n0_; have BK161 := n1_; have GW161 := n2_; have GE161 := n3_; clear n0_ n1_ n2_ n3_; clear hb hbox hg) | ((with_reducible refine gate_dst (N := 10) rfl ?_); refine Kd.R_make (Kd.int .i64) _ 2 rfl (N := 10) rfl 22 _ _ rfl ji3 rfl rfl Try.underlying22 (.int .i64 0) 8 info2 rfl (by decide) (by omega) 0 (ok := fun _ => True) (okp := fun _ => True) rfl (fun _ hk => hk) trivial (of_decide_eq_true (by first | (with_reducible assumption) | assumption)) (Nat.le_trans (Nat.mul_le_mul_right _ (of_decide_eq_true (by first | (with_reducible assumption) | assumption) : ji3.toNat ≤ 35184372088832)) (by omega)) (Below.refl _ _) (Nat.le_refl _) ?_; intro v163 w7 ho8 hb hg_ hnew_; clear hg_ hnew_; (first | rw [← Ny162.out] at ho8 | (simp only [Int.reduceToNat] at ho8; rw [← Ny162.out] at ho8)); have n0_ := Aside0.mk (Kd.R_lower ho8 (below_size (bk_ HB.out))); have n1_ := Aside0.mk (bb_ BK161.out hb); have n2_ := Aside0.mk (below_step (bk_ HB.out) hb); clear BK161; clear HB; have HO164 := n0_; have BK161 := n1_; have HB := n2_; clear n0_ n1_ n2_; clear hb ho8; obtain ⟨Ao9, co9, eo9⟩ := Kd.R_slice HO164.out; subst eo9; have hcz10_0 := bc_ BK161.out 0 (.int .i64 0); have hcz10_1 := bc_ BK161.out 1 (.int .i64 0); have hcz10_2 := bc_ BK161.out 2 (.slice none 0 0); have hfz10_0 := blk_frozen BK161.out 0; have hfz10_1 := blk_frozen BK161.out 1; have hfz10_2 := blk_frozen BK161.out 2))
      refine bodyPost_ret (results_cell_row rfl _ _ gb161 28 #[.int .i64 a0, .int .i64 a1, .slice Ao9 y162.length co9] (0, 0) _ rfl (by (with_reducible repeat (first | refine blk_drewN ?_ _ | refine blk_drew ?_ | refine blk_alloc ?_ _)); refine blk_put (cs := #[.int .i64 a0, .int .i64 a1, .slice none 0 0]) ?_ 2 _ rfl; (with_reducible repeat (first | refine blk_drewN ?_ _ | refine blk_drew ?_ | refine blk_alloc ?_ _)); refine blk_put (cs := #[.int .i64 a0, .int .i64 0, .slice none 0 0]) ?_ 1 _ rfl; (with_reducible repeat (first | refine blk_drewN ?_ _ | refine blk_drew ?_ | refine blk_alloc ?_ _)); refine blk_put (cs := #[.int .i64 0, .int .i64 0, .slice none 0 0]) ?_ 0 _ rfl; (with_reducible repeat (first | refine blk_drewN ?_ _ | refine blk_drew ?_ | refine blk_alloc ?_ _)); exact BK161.out) Try.underlying28 rfl (by kernel_rfl)) rfl ?_
      exact ⟨_, by first | rfl | (simp [errW_none, errW_some] <;> rfl) | (simp only [← hji3]; first | rfl | (simp [errW_none, errW_some] <;> rfl)) | (simp [*, errW_none, errW_some] <;> rfl), by (with_reducible repeat (first | apply Kd.R_alloc | apply Kd.R_drewN | apply Kd.R_drew)); exact Kd.R_mono (Kd.R_far (p := ⟨gb161, 2, none⟩) (Kd.R_far (p := ⟨gb161, 1, none⟩) (Kd.R_far (p := ⟨gb161, 0, none⟩) (Kd.R_types HO164.out BK161.out (by decide)) (fun _ hk => hk.2) (.int .i64 a0)) (fun _ hk => hk.2) (.int .i64 a1)) (fun _ hk => hk.2) (.slice Ao9 y162.length co9)) (fun _ hk => trivial), bk_ HB.out⟩
    · rw [if_neg c5] at H
      exact absurd H (by simp)
  · rw [if_neg c4] at H
    exact absurd H (by simp)

/-! ### spec_l04Round: function 141 -/
def spec_l04Round.f (a0_0 : Int) (a0_1 : Int) (l0_2 : List Int) (a1 : Int) (a2 : Int) : Option (Int) := if a0_0 = 0 then (none) else (if a0_1 = 0 then (none) else (some (wrap64 ((wrap64 ((Int.tmod (wrap64 ((Int.tmod a1 a0_0) + a0_0)) a0_0) * a0_1)) + (Int.tmod (wrap64 ((Int.tmod a2 a0_1) + a0_1)) a0_1)))))
set_option maxHeartbeats 8000000 in
set_option maxRecDepth 100000 in
theorem spec_l04Round.calls (p0 : Addr) (a0_0 : Int) (a0_1 : Int) (A0_2 : Option Addr) (c0_2 : Nat) (l0_2 : List Int) (a1 : Int) (a2 : Int) (r : Int) (w : World) (hg0_0 : w.cell? p0 = some (.int .i64 a0_0)) (hg0_1 : w.cell? ⟨p0.block, p0.off + 1, none⟩ = some (.int .i64 a0_1)) (hg0_2 : w.cell? ⟨p0.block, p0.off + 2, none⟩ = some (.slice A0_2 l0_2.length c0_2)) (hr0_2 : Kd.C (Kd.int .i64) w A0_2 l0_2.length l0_2) (hc0_2 : l0_2.length ≤ c0_2) (h : spec_l04Round.f a0_0 a0_1 l0_2 a1 a2 = some r) :
    Calls Try.prog 141 #[.pointer (some p0), .int .i64 a1, .int .i64 a2] w fun e w' => e = .returned (.int .i64 r) ∧ Drawn0 w w' := by
  have HR0_2 := Aside0.mk hr0_2
  have HC0_2 := Aside0.mk hc0_2
  clear hr0_2 hc0_2
  have BK0_0 := Aside0.mk hg0_0
  clear hg0_0
  have BK0_1 := Aside0.mk hg0_1
  clear hg0_1
  have BK0_2 := Aside0.mk hg0_2
  clear hg0_2
  have H : (if a0_0 = 0 then (none) else (if a0_1 = 0 then (none) else (some (wrap64 ((wrap64 ((Int.tmod (wrap64 ((Int.tmod a1 a0_0) + a0_0)) a0_0) * a0_1)) + (Int.tmod (wrap64 ((Int.tmod a2 a0_1) + a0_1)) a0_1)))))) = some r := h
  clear h
  by_cases c4 : a0_0 = 0
  · rw [if_pos c4] at H
    exact absurd H (by simp)
  · rw [if_neg c4] at H
    have c4b0 : (a0_0 == 0) = false := beq_eq_false_iff_ne.mpr c4
    have c4b1 : (a0_0 != 0) = true := bne_iff_ne.mpr c4
    by_cases c5 : a0_1 = 0
    · rw [if_pos c5] at H
      exact absurd H (by simp)
    · rw [if_neg c5] at H
      have c5b0 : (a0_1 == 0) = false := beq_eq_false_iff_ne.mpr c5
      have c5b1 : (a0_1 != 0) = true := bne_iff_ne.mpr c5
      obtain rfl := Option.some.inj H
      have hcz6_0 : w.cell? p0 = some (.int .i64 a0_0) := BK0_0.out
      have hcz6_1 : w.cell? ⟨p0.block, p0.off + 1, none⟩ = some (.int .i64 a0_1) := BK0_1.out
      have hcz6_2 : w.cell? ⟨p0.block, p0.off + 2, none⟩ = some (.slice A0_2 l0_2.length c0_2) := BK0_2.out
      go_enter Try.func141, Try.ntmps141
      go_wp2
      repeat (go_quiet (fail); try go_wp2)
      go_ret
      exact ⟨by first | rfl | (simp; done) | (simp [i64_w, i32_w]; done) | (simp [*]; done) | (simp [*, i64_w, i32_w]; done), by repeat (first | exact Drawn0.refl _ | apply Drawn0.step)⟩

/-! ### spec_l04Around: function 130 -/
mutual
def spec_l04Around.l0 : Nat → Int → Int → Bool → Int → Int → Int → Int → List Int → Option (Int)
  | 0, _, _, _, _, _, _, _, _ => none
  | k + 1, x1, x2, x3, x9, x10, x1000, x1001, x1002 => if x10 ≤ (wrap64 (x1 + 1)) then (spec_l04Around.l1 k x1 x2 x3 x9 x10 (wrap64 (x2 - 1)) x1000 x1001 x1002) else (some x9)
def spec_l04Around.l1 : Nat → Int → Int → Bool → Int → Int → Int → Int → Int → List Int → Option (Int)
  | 0, _, _, _, _, _, _, _, _, _ => none
  | k + 1, x1, x2, x3, x9, x10, x11, x1000, x1001, x1002 => if x11 ≤ (wrap64 (x2 + 1)) then (if x10 = x1 then (spec_l04Around.j2 k x1 x2 x3 x9 x10 x11 (x11 == x2) x1000 x1001 x1002) else (spec_l04Around.j2 k x1 x2 x3 x9 x10 x11 false x1000 x1001 x1002)) else (spec_l04Around.l0 k x1 x2 x3 x9 (wrap64 (x10 + 1)) x1000 x1001 x1002)
def spec_l04Around.j2 : Nat → Int → Int → Bool → Int → Int → Int → Bool → Int → Int → List Int → Option (Int)
  | 0, _, _, _, _, _, _, _, _, _, _ => none
  | k + 1, x1, x2, x3, x9, x10, x11, x35, x1000, x1001, x1002 => if x35 = true then (spec_l04Around.l1 k x1 x2 x3 x9 x10 (wrap64 (x11 + 1)) x1000 x1001 x1002) else (if x3 = true then ((spec_l04Round.f x1000 x1001 x1002 x10 x11).bind fun t165 => (if 0 ≤ t165 then (if t165 < (x1002.length : Int) then (spec_l04Around.l1 k x1 x2 x3 (wrap64 (x9 + (rd x1002 t165))) x10 (wrap64 (x11 + 1)) x1000 x1001 x1002) else (none)) else (none))) else ((spec_l00In.f x10 0 (wrap64 (x1000 - 1))).bind fun t167 => (if t167 = true then ((spec_l00In.f x11 0 (wrap64 (x1001 - 1))).bind fun t168 => (if t168 = true then ((spec_l04Round.f x1000 x1001 x1002 x10 x11).bind fun t169 => (if 0 ≤ t169 then (if t169 < (x1002.length : Int) then (spec_l04Around.l1 k x1 x2 x3 (wrap64 (x9 + (rd x1002 t169))) x10 (wrap64 (x11 + 1)) x1000 x1001 x1002) else (none)) else (none))) else (spec_l04Around.l1 k x1 x2 x3 x9 x10 (wrap64 (x11 + 1)) x1000 x1001 x1002))) else (spec_l04Around.l1 k x1 x2 x3 x9 x10 (wrap64 (x11 + 1)) x1000 x1001 x1002))))
end
def spec_l04Around.f (k : Nat) (a0_0 : Int) (a0_1 : Int) (l0_2 : List Int) (a1 : Int) (a2 : Int) (a3 : Bool) : Option (Int) := spec_l04Around.l0 k a1 a2 a3 0 (wrap64 (a1 - 1)) a0_0 a0_1 l0_2
theorem spec_l04Around.mono_l : ∀ k, (∀ y0 y1 y2 y3 y4 y5 y6 y7, LeO (spec_l04Around.l0 k y0 y1 y2 y3 y4 y5 y6 y7) (spec_l04Around.l0 (k + 1) y0 y1 y2 y3 y4 y5 y6 y7)) ∧ (∀ y0 y1 y2 y3 y4 y5 y6 y7 y8, LeO (spec_l04Around.l1 k y0 y1 y2 y3 y4 y5 y6 y7 y8) (spec_l04Around.l1 (k + 1) y0 y1 y2 y3 y4 y5 y6 y7 y8)) ∧ (∀ y0 y1 y2 y3 y4 y5 y6 y7 y8 y9, LeO (spec_l04Around.j2 k y0 y1 y2 y3 y4 y5 y6 y7 y8 y9) (spec_l04Around.j2 (k + 1) y0 y1 y2 y3 y4 y5 y6 y7 y8 y9))
  | 0 => ⟨fun _ _ _ _ _ _ _ _ r h => by simp [spec_l04Around.l0] at h, fun _ _ _ _ _ _ _ _ _ r h => by simp [spec_l04Around.l1] at h, fun _ _ _ _ _ _ _ _ _ _ r h => by simp [spec_l04Around.j2] at h⟩
  | k + 1 => by
    obtain ⟨ih0, ih1, ih2⟩ := spec_l04Around.mono_l k
    refine ⟨?_, ?_, ?_⟩
    · intro y0 y1 y2 y3 y4 y5 y6 y7
      unfold spec_l04Around.l0
      repeat' first
      | (with_reducible exact ih0 _ _ _ _ _ _ _ _)
      | (with_reducible exact ih1 _ _ _ _ _ _ _ _ _)
      | (with_reducible exact ih2 _ _ _ _ _ _ _ _ _ _)
      | (with_reducible exact LeO.refl _)
      | (with_reducible exact LeO.none _)
      | (with_reducible refine LeO.ite ?_ ?_)
      | (with_reducible refine LeO.bind ?_ (fun _ => ?_))
      | exact ih0 _ _ _ _ _ _ _ _
      | exact ih1 _ _ _ _ _ _ _ _ _
      | exact ih2 _ _ _ _ _ _ _ _ _ _
      | exact LeO.none _
      | refine LeO.ite ?_ ?_
      | refine LeO.bind ?_ (fun _ => ?_)
    · intro y0 y1 y2 y3 y4 y5 y6 y7 y8
      unfold spec_l04Around.l1
      repeat' first
      | (with_reducible exact ih0 _ _ _ _ _ _ _ _)
      | (with_reducible exact ih1 _ _ _ _ _ _ _ _ _)
      | (with_reducible exact ih2 _ _ _ _ _ _ _ _ _ _)
      | (with_reducible exact LeO.refl _)
      | (with_reducible exact LeO.none _)
      | (with_reducible refine LeO.ite ?_ ?_)
      | (with_reducible refine LeO.bind ?_ (fun _ => ?_))
      | exact ih0 _ _ _ _ _ _ _ _
      | exact ih1 _ _ _ _ _ _ _ _ _
      | exact ih2 _ _ _ _ _ _ _ _ _ _
      | exact LeO.none _
      | refine LeO.ite ?_ ?_
      | refine LeO.bind ?_ (fun _ => ?_)
    · intro y0 y1 y2 y3 y4 y5 y6 y7 y8 y9
      unfold spec_l04Around.j2
      repeat' first
      | (with_reducible exact ih0 _ _ _ _ _ _ _ _)
      | (with_reducible exact ih1 _ _ _ _ _ _ _ _ _)
      | (with_reducible exact ih2 _ _ _ _ _ _ _ _ _ _)
      | (with_reducible exact LeO.refl _)
      | (with_reducible exact LeO.none _)
      | (with_reducible refine LeO.ite ?_ ?_)
      | (with_reducible refine LeO.bind ?_ (fun _ => ?_))
      | exact ih0 _ _ _ _ _ _ _ _
      | exact ih1 _ _ _ _ _ _ _ _ _
      | exact ih2 _ _ _ _ _ _ _ _ _ _
      | exact LeO.none _
      | refine LeO.ite ?_ ?_
      | refine LeO.bind ?_ (fun _ => ?_)
theorem spec_l04Around.mono : ∀ a0 a1 a2 a3 a4 a5 k, LeO (spec_l04Around.f k a0 a1 a2 a3 a4 a5) (spec_l04Around.f (k + 1) a0 a1 a2 a3 a4 a5) := by
  intro a0 a1 a2 a3 a4 a5 k
  obtain ⟨ih0, ih1, ih2⟩ := spec_l04Around.mono_l k
  unfold spec_l04Around.f
  repeat' first
      | (with_reducible exact ih0 _ _ _ _ _ _ _ _)
      | (with_reducible exact ih1 _ _ _ _ _ _ _ _ _)
      | (with_reducible exact ih2 _ _ _ _ _ _ _ _ _ _)
      | (with_reducible exact LeO.refl _)
      | (with_reducible exact LeO.none _)
      | (with_reducible refine LeO.ite ?_ ?_)
      | (with_reducible refine LeO.bind ?_ (fun _ => ?_))
      | exact ih0 _ _ _ _ _ _ _ _
      | exact ih1 _ _ _ _ _ _ _ _ _
      | exact ih2 _ _ _ _ _ _ _ _ _ _
      | exact LeO.none _
      | refine LeO.ite ?_ ?_
      | refine LeO.bind ?_ (fun _ => ?_)
set_option maxHeartbeats 8000000 in
set_option maxRecDepth 100000 in
theorem spec_l04Around.calls (k : Nat) (p0 : Addr) (a0_0 : Int) (a0_1 : Int) (A0_2 : Option Addr) (c0_2 : Nat) (l0_2 : List Int) (a1 : Int) (a2 : Int) (a3 : Bool) (r : Int) (w : World) (hg0_0 : w.cell? p0 = some (.int .i64 a0_0)) (hg0_1 : w.cell? ⟨p0.block, p0.off + 1, none⟩ = some (.int .i64 a0_1)) (hg0_2 : w.cell? ⟨p0.block, p0.off + 2, none⟩ = some (.slice A0_2 l0_2.length c0_2)) (hr0_2 : Kd.C (Kd.int .i64) w A0_2 l0_2.length l0_2) (hc0_2 : l0_2.length ≤ c0_2) (h : spec_l04Around.f k a0_0 a0_1 l0_2 a1 a2 a3 = some r) :
    Calls Try.prog 130 #[.pointer (some p0), .int .i64 a1, .int .i64 a2, .bool a3] w fun e w' => e = .returned (.int .i64 r) ∧ Drawn0 w w' := by
  have HR0_2 := Aside0.mk hr0_2
  have HC0_2 := Aside0.mk hc0_2
  clear hr0_2 hc0_2
  have BK0_0 := Aside0.mk hg0_0
  clear hg0_0
  have BK0_1 := Aside0.mk hg0_1
  clear hg0_1
  have BK0_2 := Aside0.mk hg0_2
  clear hg0_2
  have H : (spec_l04Around.l0 k a1 a2 a3 0 (wrap64 (a1 - 1)) a0_0 a0_1 l0_2) = some r := h
  clear h
  have H' := Aside0.mk H
  clear H
  go_enter Try.func130, Try.ntmps130
  go_wp2
  repeat (go_quiet (fail); try go_wp2)
  go_loopg [9, 10] k (fun kq v9 v10 w' => ∃ (x9_1 : Int) (x10_1 : Int), v9 = .int .i64 x9_1 ∧ v10 = .int .i64 x10_1 ∧ Aside0 (spec_l04Around.l0 kq a1 a2 a3 x9_1 x10_1 a0_0 a0_1 l0_2 = some r) ∧ Aside0 (kq ≤ k) ∧ Drawn0 w w')
  case atStart => exact ⟨(0), (wrap64 (a1 - 1)), (by first | rfl | (simp; done) | (simp [i64_w, i32_w]; done) | (simp [*]; done) | (simp [*, i64_w, i32_w]; done)), (by first | rfl | (simp; done) | (simp [i64_w, i32_w]; done) | (simp [*]; done) | (simp [*, i64_w, i32_w]; done)), H', ⟨Nat.le_refl _⟩, by repeat (first | exact Drawn0.refl _ | apply Drawn0.step)⟩
  case round =>
    clear H'
    try clear c1
    try clear p2
    obtain ⟨x9_1, x10_1, rfl, rfl, HA, HK1, ⟨m1, rfl⟩⟩ := hrel
    cases gk with
    | zero => exact absurd HA.out (by simp [spec_l04Around.l0])
    | succ k1 =>
      have H := HA.out
      clear HA
      simp only [spec_l04Around.l0] at H
      by_cases c5 : x10_1 ≤ (wrap64 (a1 + 1))
      · rw [if_pos c5] at H
        have c5b0 : decide (x10_1 ≤ (wrap64 (a1 + 1))) = true := decide_eq_true c5
        clear c5
        have H' := Aside0.mk H
        clear H
        go_wp2
        repeat (go_quiet (fail); try go_wp2)
        go_loopg [9, 11] k1 (fun kq v9 v11 w' => ∃ (x9_2 : Int) (x11_2 : Int), v9 = .int .i64 x9_2 ∧ v11 = .int .i64 x11_2 ∧ Aside0 (spec_l04Around.l1 kq a1 a2 a3 x9_2 x10_1 x11_2 a0_0 a0_1 l0_2 = some r) ∧ Aside0 (kq ≤ k1) ∧ Drawn0 w w')
        case atStart => exact ⟨(x9_1), (wrap64 (a2 - 1)), (by first | rfl | (simp; done) | (simp [i64_w, i32_w]; done) | (simp [*]; done) | (simp [*, i64_w, i32_w]; done)), (by first | rfl | (simp; done) | (simp [i64_w, i32_w]; done) | (simp [*]; done) | (simp [*, i64_w, i32_w]; done)), H', ⟨Nat.le_refl _⟩, by repeat (first | exact Drawn0.refl _ | apply Drawn0.step)⟩
        case round =>
          clear H'
          try clear c1
          try clear p2
          try clear c5
          try clear c5b0
          try clear p2
          obtain ⟨x9_2, x11_2, rfl, rfl, HA, HK2, ⟨m2, rfl⟩⟩ := hrel
          cases gk with
          | zero => exact absurd HA.out (by simp [spec_l04Around.l1])
          | succ k2 =>
            have H := HA.out
            clear HA
            simp only [spec_l04Around.l1] at H
            by_cases c6 : x11_2 ≤ (wrap64 (a2 + 1))
            · rw [if_pos c6] at H
              have c6b0 : decide (x11_2 ≤ (wrap64 (a2 + 1))) = true := decide_eq_true c6
              clear c6
              have HC7 := Aside0.mk H
              clear H
              go_upto_region 8 with (fail)
              repeat (go_quiet (fail); go_upto_region 8 with (fail))
              go_cut [35] (fun v35 wc => ∃ (kq : Nat) (x35_6 : Bool), v35 = .bool x35_6 ∧ Aside0 (spec_l04Around.j2 kq a1 a2 a3 x9_2 x10_1 x11_2 x35_6 a0_0 a0_1 l0_2 = some r) ∧ Aside0 (kq ≤ k2) ∧ Drawn0 w wc)
              case first =>
                have H := HC7.out
                clear HC7
                by_cases c8 : x10_1 = a1
                · rw [if_pos c8] at H
                  have c8b0 : (x10_1 == a1) = true := beq_iff_eq.mpr c8
                  have c8b1 : (x10_1 != a1) = false := bne_eq_false_iff_eq.mpr c8
                  clear c8
                  (first | rw [c8b0] | (simp only [i64_w, i32_w]; rw [c8b0]) | skip)
                  have H' := Aside0.mk H
                  clear H
                  go_wp2
                  repeat (go_quiet (fail); try go_wp2)
                  go_meet
                  case rel => exact ⟨_, ((x11_2 == a2)), (by first | rfl | (simp; done) | (simp [i64_w, i32_w]; done) | (simp [*]; done) | (simp [*, i64_w, i32_w]; done)), H', ⟨by have := HK1.out; have := HK2.out; first | omega | exact Nat.le_refl _⟩, by repeat (first | exact Drawn0.refl _ | apply Drawn0.step)⟩
                · rw [if_neg c8] at H
                  have c8b0 : (x10_1 == a1) = false := beq_eq_false_iff_ne.mpr c8
                  have c8b1 : (x10_1 != a1) = true := bne_iff_ne.mpr c8
                  (first | rw [c8b0] | (simp only [i64_w, i32_w]; rw [c8b0]) | skip)
                  have H' := Aside0.mk H
                  clear H
                  go_wp2
                  repeat (go_quiet (fail); try go_wp2)
                  go_meet
                  case rel => exact ⟨_, (false), (by first | rfl | (simp; done) | (simp [i64_w, i32_w]; done) | (simp [*]; done) | (simp [*, i64_w, i32_w]; done)), H', ⟨by have := HK1.out; have := HK2.out; first | omega | exact Nat.le_refl _⟩, by repeat (first | exact Drawn0.refl _ | apply Drawn0.step)⟩
              case rest =>
                clear HC7
                try clear c1
                try clear p2
                try clear c5
                try clear c5b0
                try clear c6
                try clear c6b0
                try clear p6
                try clear c8
                try clear c8b0
                try clear c8b1
                try clear p2
                obtain ⟨kq, x35_6, rfl, HA, HJ6, ⟨mc6, rfl⟩⟩ := hcut
                cases kq with
                | zero => exact absurd HA.out (by simp [spec_l04Around.j2])
                | succ kj6 =>
                  have H := HA.out
                  clear HA
                  simp only [spec_l04Around.j2] at H
                  by_cases c9 : x35_6 = true
                  · subst c9
                    have H1 : (spec_l04Around.l1 kj6 a1 a2 a3 x9_2 x10_1 (wrap64 (x11_2 + 1)) a0_0 a0_1 l0_2) = some r := by rw [if_pos rfl] at H; exact H
                    clear H
                    have H := H1
                    clear H1
                    have H' := Aside0.mk H
                    clear H
                    go_wp2
                    repeat (go_quiet (fail); try go_wp2)
                    go_roundg kj6
                    case measure => have := HK1.out; have := HK2.out; have := HJ6.out; omega
                    case rel => exact ⟨(x9_2), (wrap64 (x11_2 + 1)), (by first | rfl | (simp; done) | (simp [i64_w, i32_w]; done) | (simp [*]; done) | (simp [*, i64_w, i32_w]; done)), (by first | rfl | (simp; done) | (simp [i64_w, i32_w]; done) | (simp [*]; done) | (simp [*, i64_w, i32_w]; done)), H', ⟨by have := HK1.out; have := HK2.out; have := HJ6.out; omega⟩, by repeat (first | exact Drawn0.refl _ | apply Drawn0.step)⟩
                  · replace c9 := Bool.eq_false_iff.mpr c9
                    subst c9
                    have H1 : (if a3 = true then ((spec_l04Round.f a0_0 a0_1 l0_2 x10_1 x11_2).bind fun t165 => (if 0 ≤ t165 then (if t165 < (l0_2.length : Int) then (spec_l04Around.l1 kj6 a1 a2 a3 (wrap64 (x9_2 + (rd l0_2 t165))) x10_1 (wrap64 (x11_2 + 1)) a0_0 a0_1 l0_2) else (none)) else (none))) else ((spec_l00In.f x10_1 0 (wrap64 (a0_0 - 1))).bind fun t167 => (if t167 = true then ((spec_l00In.f x11_2 0 (wrap64 (a0_1 - 1))).bind fun t168 => (if t168 = true then ((spec_l04Round.f a0_0 a0_1 l0_2 x10_1 x11_2).bind fun t169 => (if 0 ≤ t169 then (if t169 < (l0_2.length : Int) then (spec_l04Around.l1 kj6 a1 a2 a3 (wrap64 (x9_2 + (rd l0_2 t169))) x10_1 (wrap64 (x11_2 + 1)) a0_0 a0_1 l0_2) else (none)) else (none))) else (spec_l04Around.l1 kj6 a1 a2 a3 x9_2 x10_1 (wrap64 (x11_2 + 1)) a0_0 a0_1 l0_2))) else (spec_l04Around.l1 kj6 a1 a2 a3 x9_2 x10_1 (wrap64 (x11_2 + 1)) a0_0 a0_1 l0_2)))) = some r := by rw [if_neg (show ¬ (false = true) by decide)] at H; exact H
                    clear H
                    have H := H1
                    clear H1
                    by_cases c10 : a3 = true
                    · subst c10
                      have H1 : ((spec_l04Round.f a0_0 a0_1 l0_2 x10_1 x11_2).bind fun t165 => (if 0 ≤ t165 then (if t165 < (l0_2.length : Int) then (spec_l04Around.l1 kj6 a1 a2 true (wrap64 (x9_2 + (rd l0_2 t165))) x10_1 (wrap64 (x11_2 + 1)) a0_0 a0_1 l0_2) else (none)) else (none))) = some r := by rw [if_pos rfl] at H; exact H
                      clear H
                      have H := H1
                      clear H1
                      replace H := Option.bind_eq_some_iff.mp H
                      obtain ⟨t165, A110, H⟩ := H
                      replace H : (if 0 ≤ t165 then (if t165 < (l0_2.length : Int) then (spec_l04Around.l1 kj6 a1 a2 true (wrap64 (x9_2 + (rd l0_2 t165))) x10_1 (wrap64 (x11_2 + 1)) a0_0 a0_1 l0_2) else (none)) else (none)) = some r := H
                      have A11 := Aside0.mk A110
                      clear A110
                      by_cases c12 : 0 ≤ t165
                      · rw [if_pos c12] at H
                        have c12b0 : decide (0 ≤ t165) = true := decide_eq_true c12
                        clear c12
                        by_cases c13 : t165 < (l0_2.length : Int)
                        · rw [if_pos c13] at H
                          have c13b0 : decide (t165 < (l0_2.length : Int)) = true := decide_eq_true c13
                          clear c13
                          have H' := Aside0.mk H
                          clear H
                          have hcz14_0 : w.cell? p0 = some (.int .i64 a0_0) := BK0_0.out
                          have hcz14_1 : w.cell? ⟨p0.block, p0.off + 1, none⟩ = some (.int .i64 a0_1) := BK0_1.out
                          have hcz14_2 : w.cell? ⟨p0.block, p0.off + 2, none⟩ = some (.slice A0_2 l0_2.length c0_2) := BK0_2.out
                          go_wp2_with (first | (go_at_call 141; (with_reducible refine (spec_l04Round.calls p0 a0_0 a0_1 A0_2 c0_2 l0_2 x10_1 x11_2 t165 _ ?side1 ?side2 ?side3 ?side4 ?side5 A11.out).mono ?_); (case side1 => first | exact BK0_0.out | (go_simp; done) | exact (BK0_0.out : w.cell? _ = _)); (case side2 => first | exact BK0_1.out | (go_simp; done) | exact (BK0_1.out : w.cell? _ = _)); (case side3 => first | exact BK0_2.out | (go_simp; done) | exact (BK0_2.out : w.cell? _ = _)); (case side4 => repeat (first | exact HR0_2.out | (with_reducible refine Kd.C_alloc ?_ _) | (with_reducible refine Kd.C_drewN ?_ _) | (with_reducible refine Kd.C_drew ?_))); (case side5 => exact HC0_2.out); rintro e w' ⟨rfl, ⟨nd, rfl⟩⟩; (try first | exact ⟨rfl, _, World.drewN_drewN _ _ _⟩ | exact ⟨rfl, _, Eq.trans (World.drewN_drewN _ _ _) (congrArg (World.drewN _) (Nat.add_assoc _ _ _))⟩); have p166 : 0 ≤ (t165 : Int) := of_decide_eq_true (by first | (with_reducible assumption) | assumption); have q166 : t165 < (l0_2.length : Int) := of_decide_eq_true (by first | (with_reducible assumption) | assumption); obtain ⟨ad166, e166, hx166_0⟩ := Kd.at_int HR0_2.out t165 p166 q166; cases e166; replace p166 := eq_true p166; replace q166 := eq_true q166))
                          repeat (go_quiet (first | (go_at_call 141; (with_reducible refine (spec_l04Round.calls p0 a0_0 a0_1 A0_2 c0_2 l0_2 x10_1 x11_2 t165 _ ?side1 ?side2 ?side3 ?side4 ?side5 A11.out).mono ?_); (case side1 => first | exact BK0_0.out | (go_simp; done) | exact (BK0_0.out : w.cell? _ = _)); (case side2 => first | exact BK0_1.out | (go_simp; done) | exact (BK0_1.out : w.cell? _ = _)); (case side3 => first | exact BK0_2.out | (go_simp; done) | exact (BK0_2.out : w.cell? _ = _)); (case side4 => repeat (first | exact HR0_2.out | (with_reducible refine Kd.C_alloc ?_ _) | (with_reducible refine Kd.C_drewN ?_ _) | (with_reducible refine Kd.C_drew ?_))); (case side5 => exact HC0_2.out); rintro e w' ⟨rfl, ⟨nd, rfl⟩⟩; (try first | exact ⟨rfl, _, World.drewN_drewN _ _ _⟩ | exact ⟨rfl, _, Eq.trans (World.drewN_drewN _ _ _) (congrArg (World.drewN _) (Nat.add_assoc _ _ _))⟩); have p166 : 0 ≤ (t165 : Int) := of_decide_eq_true (by first | (with_reducible assumption) | assumption); have q166 : t165 < (l0_2.length : Int) := of_decide_eq_true (by first | (with_reducible assumption) | assumption); obtain ⟨ad166, e166, hx166_0⟩ := Kd.at_int HR0_2.out t165 p166 q166; cases e166; replace p166 := eq_true p166; replace q166 := eq_true q166)); try go_wp2_with (first | (go_at_call 141; (with_reducible refine (spec_l04Round.calls p0 a0_0 a0_1 A0_2 c0_2 l0_2 x10_1 x11_2 t165 _ ?side1 ?side2 ?side3 ?side4 ?side5 A11.out).mono ?_); (case side1 => first | exact BK0_0.out | (go_simp; done) | exact (BK0_0.out : w.cell? _ = _)); (case side2 => first | exact BK0_1.out | (go_simp; done) | exact (BK0_1.out : w.cell? _ = _)); (case side3 => first | exact BK0_2.out | (go_simp; done) | exact (BK0_2.out : w.cell? _ = _)); (case side4 => repeat (first | exact HR0_2.out | (with_reducible refine Kd.C_alloc ?_ _) | (with_reducible refine Kd.C_drewN ?_ _) | (with_reducible refine Kd.C_drew ?_))); (case side5 => exact HC0_2.out); rintro e w' ⟨rfl, ⟨nd, rfl⟩⟩; (try first | exact ⟨rfl, _, World.drewN_drewN _ _ _⟩ | exact ⟨rfl, _, Eq.trans (World.drewN_drewN _ _ _) (congrArg (World.drewN _) (Nat.add_assoc _ _ _))⟩); have p166 : 0 ≤ (t165 : Int) := of_decide_eq_true (by first | (with_reducible assumption) | assumption); have q166 : t165 < (l0_2.length : Int) := of_decide_eq_true (by first | (with_reducible assumption) | assumption); obtain ⟨ad166, e166, hx166_0⟩ := Kd.at_int HR0_2.out t165 p166 q166; cases e166; replace p166 := eq_true p166; replace q166 := eq_true q166)))
                          go_roundg kj6
                          case measure => have := HK1.out; have := HK2.out; have := HJ6.out; omega
                          case rel => exact ⟨(wrap64 (x9_2 + (rd l0_2 t165))), (wrap64 (x11_2 + 1)), (by first | rfl | (simp; done) | (simp [i64_w, i32_w]; done) | (simp [*]; done) | (simp [*, i64_w, i32_w]; done)), (by first | rfl | (simp; done) | (simp [i64_w, i32_w]; done) | (simp [*]; done) | (simp [*, i64_w, i32_w]; done)), H', ⟨by have := HK1.out; have := HK2.out; have := HJ6.out; omega⟩, by repeat (first | exact Drawn0.refl _ | apply Drawn0.step)⟩
                        · rw [if_neg c13] at H
                          exact absurd H (by simp)
                      · rw [if_neg c12] at H
                        exact absurd H (by simp)
                    · replace c10 := Bool.eq_false_iff.mpr c10
                      subst c10
                      have H1 : ((spec_l00In.f x10_1 0 (wrap64 (a0_0 - 1))).bind fun t167 => (if t167 = true then ((spec_l00In.f x11_2 0 (wrap64 (a0_1 - 1))).bind fun t168 => (if t168 = true then ((spec_l04Round.f a0_0 a0_1 l0_2 x10_1 x11_2).bind fun t169 => (if 0 ≤ t169 then (if t169 < (l0_2.length : Int) then (spec_l04Around.l1 kj6 a1 a2 false (wrap64 (x9_2 + (rd l0_2 t169))) x10_1 (wrap64 (x11_2 + 1)) a0_0 a0_1 l0_2) else (none)) else (none))) else (spec_l04Around.l1 kj6 a1 a2 false x9_2 x10_1 (wrap64 (x11_2 + 1)) a0_0 a0_1 l0_2))) else (spec_l04Around.l1 kj6 a1 a2 false x9_2 x10_1 (wrap64 (x11_2 + 1)) a0_0 a0_1 l0_2))) = some r := by rw [if_neg (show ¬ (false = true) by decide)] at H; exact H
                      clear H
                      have H := H1
                      clear H1
                      replace H := Option.bind_eq_some_iff.mp H
                      obtain ⟨t167, A150, H⟩ := H
                      replace H : (if t167 = true then ((spec_l00In.f x11_2 0 (wrap64 (a0_1 - 1))).bind fun t168 => (if t168 = true then ((spec_l04Round.f a0_0 a0_1 l0_2 x10_1 x11_2).bind fun t169 => (if 0 ≤ t169 then (if t169 < (l0_2.length : Int) then (spec_l04Around.l1 kj6 a1 a2 false (wrap64 (x9_2 + (rd l0_2 t169))) x10_1 (wrap64 (x11_2 + 1)) a0_0 a0_1 l0_2) else (none)) else (none))) else (spec_l04Around.l1 kj6 a1 a2 false x9_2 x10_1 (wrap64 (x11_2 + 1)) a0_0 a0_1 l0_2))) else (spec_l04Around.l1 kj6 a1 a2 false x9_2 x10_1 (wrap64 (x11_2 + 1)) a0_0 a0_1 l0_2)) = some r := H
                      have A15 := Aside0.mk A150
                      clear A150
                      by_cases c16 : t167 = true
                      · subst c16
                        have H1 : ((spec_l00In.f x11_2 0 (wrap64 (a0_1 - 1))).bind fun t168 => (if t168 = true then ((spec_l04Round.f a0_0 a0_1 l0_2 x10_1 x11_2).bind fun t169 => (if 0 ≤ t169 then (if t169 < (l0_2.length : Int) then (spec_l04Around.l1 kj6 a1 a2 false (wrap64 (x9_2 + (rd l0_2 t169))) x10_1 (wrap64 (x11_2 + 1)) a0_0 a0_1 l0_2) else (none)) else (none))) else (spec_l04Around.l1 kj6 a1 a2 false x9_2 x10_1 (wrap64 (x11_2 + 1)) a0_0 a0_1 l0_2))) = some r := by rw [if_pos rfl] at H; exact H
                        clear H
                        have H := H1
                        clear H1
                        replace H := Option.bind_eq_some_iff.mp H
                        obtain ⟨t168, A170, H⟩ := H
                        replace H : (if t168 = true then ((spec_l04Round.f a0_0 a0_1 l0_2 x10_1 x11_2).bind fun t169 => (if 0 ≤ t169 then (if t169 < (l0_2.length : Int) then (spec_l04Around.l1 kj6 a1 a2 false (wrap64 (x9_2 + (rd l0_2 t169))) x10_1 (wrap64 (x11_2 + 1)) a0_0 a0_1 l0_2) else (none)) else (none))) else (spec_l04Around.l1 kj6 a1 a2 false x9_2 x10_1 (wrap64 (x11_2 + 1)) a0_0 a0_1 l0_2)) = some r := H
                        have A17 := Aside0.mk A170
                        clear A170
                        by_cases c18 : t168 = true
                        · subst c18
                          have H1 : ((spec_l04Round.f a0_0 a0_1 l0_2 x10_1 x11_2).bind fun t169 => (if 0 ≤ t169 then (if t169 < (l0_2.length : Int) then (spec_l04Around.l1 kj6 a1 a2 false (wrap64 (x9_2 + (rd l0_2 t169))) x10_1 (wrap64 (x11_2 + 1)) a0_0 a0_1 l0_2) else (none)) else (none))) = some r := by rw [if_pos rfl] at H; exact H
                          clear H
                          have H := H1
                          clear H1
                          replace H := Option.bind_eq_some_iff.mp H
                          obtain ⟨t169, A190, H⟩ := H
                          replace H : (if 0 ≤ t169 then (if t169 < (l0_2.length : Int) then (spec_l04Around.l1 kj6 a1 a2 false (wrap64 (x9_2 + (rd l0_2 t169))) x10_1 (wrap64 (x11_2 + 1)) a0_0 a0_1 l0_2) else (none)) else (none)) = some r := H
                          have A19 := Aside0.mk A190
                          clear A190
                          by_cases c20 : 0 ≤ t169
                          · rw [if_pos c20] at H
                            have c20b0 : decide (0 ≤ t169) = true := decide_eq_true c20
                            clear c20
                            by_cases c21 : t169 < (l0_2.length : Int)
                            · rw [if_pos c21] at H
                              have c21b0 : decide (t169 < (l0_2.length : Int)) = true := decide_eq_true c21
                              clear c21
                              have H' := Aside0.mk H
                              clear H
                              have hcz22_0 : w.cell? p0 = some (.int .i64 a0_0) := BK0_0.out
                              have hcz22_1 : w.cell? ⟨p0.block, p0.off + 1, none⟩ = some (.int .i64 a0_1) := BK0_1.out
                              have hcz22_2 : w.cell? ⟨p0.block, p0.off + 2, none⟩ = some (.slice A0_2 l0_2.length c0_2) := BK0_2.out
                              go_wp2_with (first | (go_at_call 106; (with_reducible refine (spec_l00In.calls x10_1 0 (wrap64 (a0_0 - 1)) true _ A15.out).mono ?_); rintro e w' ⟨rfl, ⟨nd, rfl⟩⟩; (try first | exact ⟨rfl, _, World.drewN_drewN _ _ _⟩ | exact ⟨rfl, _, Eq.trans (World.drewN_drewN _ _ _) (congrArg (World.drewN _) (Nat.add_assoc _ _ _))⟩)) | (go_at_call 106; (with_reducible refine (spec_l00In.calls x11_2 0 (wrap64 (a0_1 - 1)) true _ A17.out).mono ?_); rintro e w' ⟨rfl, ⟨nd, rfl⟩⟩; (try first | exact ⟨rfl, _, World.drewN_drewN _ _ _⟩ | exact ⟨rfl, _, Eq.trans (World.drewN_drewN _ _ _) (congrArg (World.drewN _) (Nat.add_assoc _ _ _))⟩)) | (go_at_call 141; (with_reducible refine (spec_l04Round.calls p0 a0_0 a0_1 A0_2 c0_2 l0_2 x10_1 x11_2 t169 _ ?side1 ?side2 ?side3 ?side4 ?side5 A19.out).mono ?_); (case side1 => first | exact BK0_0.out | (go_simp; done) | exact (BK0_0.out : w.cell? _ = _)); (case side2 => first | exact BK0_1.out | (go_simp; done) | exact (BK0_1.out : w.cell? _ = _)); (case side3 => first | exact BK0_2.out | (go_simp; done) | exact (BK0_2.out : w.cell? _ = _)); (case side4 => repeat (first | exact HR0_2.out | (with_reducible refine Kd.C_alloc ?_ _) | (with_reducible refine Kd.C_drewN ?_ _) | (with_reducible refine Kd.C_drew ?_))); (case side5 => exact HC0_2.out); rintro e w' ⟨rfl, ⟨nd, rfl⟩⟩; (try first | exact ⟨rfl, _, World.drewN_drewN _ _ _⟩ | exact ⟨rfl, _, Eq.trans (World.drewN_drewN _ _ _) (congrArg (World.drewN _) (Nat.add_assoc _ _ _))⟩); have p170 : 0 ≤ (t169 : Int) := of_decide_eq_true (by first | (with_reducible assumption) | assumption); have q170 : t169 < (l0_2.length : Int) := of_decide_eq_true (by first | (with_reducible assumption) | assumption); obtain ⟨ad170, e170, hx170_0⟩ := Kd.at_int HR0_2.out t169 p170 q170; cases e170; replace p170 := eq_true p170; replace q170 := eq_true q170))
                              repeat (go_quiet (first | (go_at_call 106; (with_reducible refine (spec_l00In.calls x10_1 0 (wrap64 (a0_0 - 1)) true _ A15.out).mono ?_); rintro e w' ⟨rfl, ⟨nd, rfl⟩⟩; (try first | exact ⟨rfl, _, World.drewN_drewN _ _ _⟩ | exact ⟨rfl, _, Eq.trans (World.drewN_drewN _ _ _) (congrArg (World.drewN _) (Nat.add_assoc _ _ _))⟩)) | (go_at_call 106; (with_reducible refine (spec_l00In.calls x11_2 0 (wrap64 (a0_1 - 1)) true _ A17.out).mono ?_); rintro e w' ⟨rfl, ⟨nd, rfl⟩⟩; (try first | exact ⟨rfl, _, World.drewN_drewN _ _ _⟩ | exact ⟨rfl, _, Eq.trans (World.drewN_drewN _ _ _) (congrArg (World.drewN _) (Nat.add_assoc _ _ _))⟩)) | (go_at_call 141; (with_reducible refine (spec_l04Round.calls p0 a0_0 a0_1 A0_2 c0_2 l0_2 x10_1 x11_2 t169 _ ?side1 ?side2 ?side3 ?side4 ?side5 A19.out).mono ?_); (case side1 => first | exact BK0_0.out | (go_simp; done) | exact (BK0_0.out : w.cell? _ = _)); (case side2 => first | exact BK0_1.out | (go_simp; done) | exact (BK0_1.out : w.cell? _ = _)); (case side3 => first | exact BK0_2.out | (go_simp; done) | exact (BK0_2.out : w.cell? _ = _)); (case side4 => repeat (first | exact HR0_2.out | (with_reducible refine Kd.C_alloc ?_ _) | (with_reducible refine Kd.C_drewN ?_ _) | (with_reducible refine Kd.C_drew ?_))); (case side5 => exact HC0_2.out); rintro e w' ⟨rfl, ⟨nd, rfl⟩⟩; (try first | exact ⟨rfl, _, World.drewN_drewN _ _ _⟩ | exact ⟨rfl, _, Eq.trans (World.drewN_drewN _ _ _) (congrArg (World.drewN _) (Nat.add_assoc _ _ _))⟩); have p170 : 0 ≤ (t169 : Int) := of_decide_eq_true (by first | (with_reducible assumption) | assumption); have q170 : t169 < (l0_2.length : Int) := of_decide_eq_true (by first | (with_reducible assumption) | assumption); obtain ⟨ad170, e170, hx170_0⟩ := Kd.at_int HR0_2.out t169 p170 q170; cases e170; replace p170 := eq_true p170; replace q170 := eq_true q170)); try go_wp2_with (first | (go_at_call 106; (with_reducible refine (spec_l00In.calls x10_1 0 (wrap64 (a0_0 - 1)) true _ A15.out).mono ?_); rintro e w' ⟨rfl, ⟨nd, rfl⟩⟩; (try first | exact ⟨rfl, _, World.drewN_drewN _ _ _⟩ | exact ⟨rfl, _, Eq.trans (World.drewN_drewN _ _ _) (congrArg (World.drewN _) (Nat.add_assoc _ _ _))⟩)) | (go_at_call 106; (with_reducible refine (spec_l00In.calls x11_2 0 (wrap64 (a0_1 - 1)) true _ A17.out).mono ?_); rintro e w' ⟨rfl, ⟨nd, rfl⟩⟩; (try first | exact ⟨rfl, _, World.drewN_drewN _ _ _⟩ | exact ⟨rfl, _, Eq.trans (World.drewN_drewN _ _ _) (congrArg (World.drewN _) (Nat.add_assoc _ _ _))⟩)) | (go_at_call 141; (with_reducible refine (spec_l04Round.calls p0 a0_0 a0_1 A0_2 c0_2 l0_2 x10_1 x11_2 t169 _ ?side1 ?side2 ?side3 ?side4 ?side5 A19.out).mono ?_); (case side1 => first | exact BK0_0.out | (go_simp; done) | exact (BK0_0.out : w.cell? _ = _)); (case side2 => first | exact BK0_1.out | (go_simp; done) | exact (BK0_1.out : w.cell? _ = _)); (case side3 => first | exact BK0_2.out | (go_simp; done) | exact (BK0_2.out : w.cell? _ = _)); (case side4 => repeat (first | exact HR0_2.out | (with_reducible refine Kd.C_alloc ?_ _) | (with_reducible refine Kd.C_drewN ?_ _) | (with_reducible refine Kd.C_drew ?_))); (case side5 => exact HC0_2.out); rintro e w' ⟨rfl, ⟨nd, rfl⟩⟩; (try first | exact ⟨rfl, _, World.drewN_drewN _ _ _⟩ | exact ⟨rfl, _, Eq.trans (World.drewN_drewN _ _ _) (congrArg (World.drewN _) (Nat.add_assoc _ _ _))⟩); have p170 : 0 ≤ (t169 : Int) := of_decide_eq_true (by first | (with_reducible assumption) | assumption); have q170 : t169 < (l0_2.length : Int) := of_decide_eq_true (by first | (with_reducible assumption) | assumption); obtain ⟨ad170, e170, hx170_0⟩ := Kd.at_int HR0_2.out t169 p170 q170; cases e170; replace p170 := eq_true p170; replace q170 := eq_true q170)))
                              go_roundg kj6
                              case measure => have := HK1.out; have := HK2.out; have := HJ6.out; omega
                              case rel => exact ⟨(wrap64 (x9_2 + (rd l0_2 t169))), (wrap64 (x11_2 + 1)), (by first | rfl | (simp; done) | (simp [i64_w, i32_w]; done) | (simp [*]; done) | (simp [*, i64_w, i32_w]; done)), (by first | rfl | (simp; done) | (simp [i64_w, i32_w]; done) | (simp [*]; done) | (simp [*, i64_w, i32_w]; done)), H', ⟨by have := HK1.out; have := HK2.out; have := HJ6.out; omega⟩, by repeat (first | exact Drawn0.refl _ | apply Drawn0.step)⟩
                            · rw [if_neg c21] at H
                              exact absurd H (by simp)
                          · rw [if_neg c20] at H
                            exact absurd H (by simp)
                        · replace c18 := Bool.eq_false_iff.mpr c18
                          subst c18
                          have H1 : (spec_l04Around.l1 kj6 a1 a2 false x9_2 x10_1 (wrap64 (x11_2 + 1)) a0_0 a0_1 l0_2) = some r := by rw [if_neg (show ¬ (false = true) by decide)] at H; exact H
                          clear H
                          have H := H1
                          clear H1
                          have H' := Aside0.mk H
                          clear H
                          have hcz23_0 : w.cell? p0 = some (.int .i64 a0_0) := BK0_0.out
                          have hcz23_1 : w.cell? ⟨p0.block, p0.off + 1, none⟩ = some (.int .i64 a0_1) := BK0_1.out
                          have hcz23_2 : w.cell? ⟨p0.block, p0.off + 2, none⟩ = some (.slice A0_2 l0_2.length c0_2) := BK0_2.out
                          go_wp2_with (first | (go_at_call 106; (with_reducible refine (spec_l00In.calls x10_1 0 (wrap64 (a0_0 - 1)) true _ A15.out).mono ?_); rintro e w' ⟨rfl, ⟨nd, rfl⟩⟩; (try first | exact ⟨rfl, _, World.drewN_drewN _ _ _⟩ | exact ⟨rfl, _, Eq.trans (World.drewN_drewN _ _ _) (congrArg (World.drewN _) (Nat.add_assoc _ _ _))⟩)) | (go_at_call 106; (with_reducible refine (spec_l00In.calls x11_2 0 (wrap64 (a0_1 - 1)) false _ A17.out).mono ?_); rintro e w' ⟨rfl, ⟨nd, rfl⟩⟩; (try first | exact ⟨rfl, _, World.drewN_drewN _ _ _⟩ | exact ⟨rfl, _, Eq.trans (World.drewN_drewN _ _ _) (congrArg (World.drewN _) (Nat.add_assoc _ _ _))⟩)))
                          repeat (go_quiet (first | (go_at_call 106; (with_reducible refine (spec_l00In.calls x10_1 0 (wrap64 (a0_0 - 1)) true _ A15.out).mono ?_); rintro e w' ⟨rfl, ⟨nd, rfl⟩⟩; (try first | exact ⟨rfl, _, World.drewN_drewN _ _ _⟩ | exact ⟨rfl, _, Eq.trans (World.drewN_drewN _ _ _) (congrArg (World.drewN _) (Nat.add_assoc _ _ _))⟩)) | (go_at_call 106; (with_reducible refine (spec_l00In.calls x11_2 0 (wrap64 (a0_1 - 1)) false _ A17.out).mono ?_); rintro e w' ⟨rfl, ⟨nd, rfl⟩⟩; (try first | exact ⟨rfl, _, World.drewN_drewN _ _ _⟩ | exact ⟨rfl, _, Eq.trans (World.drewN_drewN _ _ _) (congrArg (World.drewN _) (Nat.add_assoc _ _ _))⟩))); try go_wp2_with (first | (go_at_call 106; (with_reducible refine (spec_l00In.calls x10_1 0 (wrap64 (a0_0 - 1)) true _ A15.out).mono ?_); rintro e w' ⟨rfl, ⟨nd, rfl⟩⟩; (try first | exact ⟨rfl, _, World.drewN_drewN _ _ _⟩ | exact ⟨rfl, _, Eq.trans (World.drewN_drewN _ _ _) (congrArg (World.drewN _) (Nat.add_assoc _ _ _))⟩)) | (go_at_call 106; (with_reducible refine (spec_l00In.calls x11_2 0 (wrap64 (a0_1 - 1)) false _ A17.out).mono ?_); rintro e w' ⟨rfl, ⟨nd, rfl⟩⟩; (try first | exact ⟨rfl, _, World.drewN_drewN _ _ _⟩ | exact ⟨rfl, _, Eq.trans (World.drewN_drewN _ _ _) (congrArg (World.drewN _) (Nat.add_assoc _ _ _))⟩))))
                          go_roundg kj6
                          case measure => have := HK1.out; have := HK2.out; have := HJ6.out; omega
                          case rel => exact ⟨(x9_2), (wrap64 (x11_2 + 1)), (by first | rfl | (simp; done) | (simp [i64_w, i32_w]; done) | (simp [*]; done) | (simp [*, i64_w, i32_w]; done)), (by first | rfl | (simp; done) | (simp [i64_w, i32_w]; done) | (simp [*]; done) | (simp [*, i64_w, i32_w]; done)), H', ⟨by have := HK1.out; have := HK2.out; have := HJ6.out; omega⟩, by repeat (first | exact Drawn0.refl _ | apply Drawn0.step)⟩
                      · replace c16 := Bool.eq_false_iff.mpr c16
                        subst c16
                        have H1 : (spec_l04Around.l1 kj6 a1 a2 false x9_2 x10_1 (wrap64 (x11_2 + 1)) a0_0 a0_1 l0_2) = some r := by rw [if_neg (show ¬ (false = true) by decide)] at H; exact H
                        clear H
                        have H := H1
                        clear H1
                        have H' := Aside0.mk H
                        clear H
                        have hcz24_0 : w.cell? p0 = some (.int .i64 a0_0) := BK0_0.out
                        have hcz24_1 : w.cell? ⟨p0.block, p0.off + 1, none⟩ = some (.int .i64 a0_1) := BK0_1.out
                        have hcz24_2 : w.cell? ⟨p0.block, p0.off + 2, none⟩ = some (.slice A0_2 l0_2.length c0_2) := BK0_2.out
                        go_wp2_with (first | (go_at_call 106; (with_reducible refine (spec_l00In.calls x10_1 0 (wrap64 (a0_0 - 1)) false _ A15.out).mono ?_); rintro e w' ⟨rfl, ⟨nd, rfl⟩⟩; (try first | exact ⟨rfl, _, World.drewN_drewN _ _ _⟩ | exact ⟨rfl, _, Eq.trans (World.drewN_drewN _ _ _) (congrArg (World.drewN _) (Nat.add_assoc _ _ _))⟩)))
                        repeat (go_quiet (first | (go_at_call 106; (with_reducible refine (spec_l00In.calls x10_1 0 (wrap64 (a0_0 - 1)) false _ A15.out).mono ?_); rintro e w' ⟨rfl, ⟨nd, rfl⟩⟩; (try first | exact ⟨rfl, _, World.drewN_drewN _ _ _⟩ | exact ⟨rfl, _, Eq.trans (World.drewN_drewN _ _ _) (congrArg (World.drewN _) (Nat.add_assoc _ _ _))⟩))); try go_wp2_with (first | (go_at_call 106; (with_reducible refine (spec_l00In.calls x10_1 0 (wrap64 (a0_0 - 1)) false _ A15.out).mono ?_); rintro e w' ⟨rfl, ⟨nd, rfl⟩⟩; (try first | exact ⟨rfl, _, World.drewN_drewN _ _ _⟩ | exact ⟨rfl, _, Eq.trans (World.drewN_drewN _ _ _) (congrArg (World.drewN _) (Nat.add_assoc _ _ _))⟩))))
                        go_roundg kj6
                        case measure => have := HK1.out; have := HK2.out; have := HJ6.out; omega
                        case rel => exact ⟨(x9_2), (wrap64 (x11_2 + 1)), (by first | rfl | (simp; done) | (simp [i64_w, i32_w]; done) | (simp [*]; done) | (simp [*, i64_w, i32_w]; done)), (by first | rfl | (simp; done) | (simp [i64_w, i32_w]; done) | (simp [*]; done) | (simp [*, i64_w, i32_w]; done)), H', ⟨by have := HK1.out; have := HK2.out; have := HJ6.out; omega⟩, by repeat (first | exact Drawn0.refl _ | apply Drawn0.step)⟩
            · rw [if_neg c6] at H
              have c6b0 : decide (x11_2 ≤ (wrap64 (a2 + 1))) = false := decide_eq_false c6
              clear c6
              have H' := Aside0.mk H
              clear H
              go_wp2
              repeat (go_quiet (fail); try go_wp2)
              go_roundg k2
              case measure => have := HK1.out; have := HK2.out; omega
              case rel => exact ⟨(x9_2), (wrap64 (x10_1 + 1)), (by first | rfl | (simp; done) | (simp [i64_w, i32_w]; done) | (simp [*]; done) | (simp [*, i64_w, i32_w]; done)), (by first | rfl | (simp; done) | (simp [i64_w, i32_w]; done) | (simp [*]; done) | (simp [*, i64_w, i32_w]; done)), H', ⟨by have := HK1.out; have := HK2.out; omega⟩, by repeat (first | exact Drawn0.refl _ | apply Drawn0.step)⟩
      · rw [if_neg c5] at H
        have c5b0 : decide (x10_1 ≤ (wrap64 (a1 + 1))) = false := decide_eq_false c5
        clear c5
        obtain rfl := Option.some.inj H
        go_wp2
        repeat (go_quiet (fail); try go_wp2)
        go_ret
        exact ⟨by first | rfl | (simp; done) | (simp [i64_w, i32_w]; done) | (simp [*]; done) | (simp [*, i64_w, i32_w]; done), by repeat (first | exact Drawn0.refl _ | apply Drawn0.step)⟩

end Go.Proofs.Ytbeinhdoggfgkaa.PFnVoted

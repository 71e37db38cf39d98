/- Votes of opposite fields are opposite, and a field at which voting ends is still. -/
import Derived.Test.YtbeinhdoggfgkaaPFnVotedx0
import Derived.Test.YtbeinhdoggfgkaaPFnVotedx1
import Derived.Test.YtbeinhdoggfgkaaPFnVotedx2
import Derived.Test.YtbeinhdoggfgkaaPFnVotedx3
import Derived.Test.YtbeinhdoggfgkaaPFnVotedx4
import Derived.Test.YtbeinhdoggfgkaaPFnVotedx5
import Derived.Test.YtbeinhdoggfgkaaPFnVotedx6
import Derived.Test.YtbeinhdoggfgkaaPFnVotedx7
import Derived.Test.YtbeinhdoggfgkaaPFnVotedx8
import Derived.Test.YtbeinhdoggfgkaaPFnVotedx9
import Derived.Test.YtbeinhdoggfgkaaPFnVotedx10
import Derived.Test.YtbeinhdoggfgkaaLib
namespace Go.Proofs.Ytbeinhdoggfgkaa.Pure
open Go.RowKit Go.Proofs.Ytbeinhdoggfgkaa.PFnVoted Go.Proofs.YtbeinhdoggfgkaaW.PrintWords Go.Proofs.YtbeinhdoggfgkaaW.PrintLast Go.Proofs.Ytbeinhdoggfgkaa.L
set_option linter.unusedVariables false
set_option linter.unusedSimpArgs false

/-- The place on a ring, from 0 on. -/
def fm (x : Int) (n : Int) : Int := Int.tmod (wrap64 ((Int.tmod x n) + n)) n
theorem fm_ok (x n : Int) (h0 : 0 < n) (hn : n ≤ 1000000000000) : 0 ≤ fm x n ∧ fm x n < n := by
  unfold fm
  have h1 := Int.tmod_lt_of_pos x h0
  have h2 : -n < Int.tmod x n := by
    have := Int.tmod_lt_of_pos (-x) h0
    rw [Int.neg_tmod] at this
    omega
  rw [wrap_id (x := Int.tmod x n + n) (by omega) (by omega)]
  exact ⟨Int.tmod_nonneg _ (by omega), Int.tmod_lt_of_pos _ h0⟩

/-- A field, as facts: cells up to M. -/
structure FieldIn (M r c : Int) (l : List Int) : Prop where
  r0 : 1 ≤ r
  r1 : r ≤ 24
  c0 : 1 ≤ c
  c1 : c ≤ 24
  n : (l.length : Int) = r * c
  all : ∀ x ∈ l, 0 ≤ x ∧ x ≤ M
theorem FieldIn.of {r c : Int} {l : List Int} (h : validField r c l = true) : FieldIn 9 r c l := by
  unfold validField at h
  simp only [Bool.and_eq_true, decide_eq_true_eq] at h
  exact ⟨h.1.1.1.1, h.1.1.1.2, h.1.1.2.1, h.1.1.2.2, h.1.2, allIn_iff.1 h.2⟩
/-- The cell of a row and a column. -/
def cell (c : Int) (l : List Int) (i k : Int) : Int := rd l (i * c + k)
theorem cell_in {M r c : Int} {l : List Int} (h : FieldIn M r c l) {i k : Int} (hi : 0 ≤ i ∧ i < r) (hk : 0 ≤ k ∧ k < c) : 0 ≤ i * c ∧ i * c ≤ 576 ∧ 0 ≤ i * c + k ∧ i * c + k < l.length := by
  have h0 := h.c0
  have h1 : 0 ≤ i * c := Int.mul_nonneg hi.1 (by omega)
  have h2 : i * c ≤ (r - 1) * c := Int.mul_le_mul_of_nonneg_right (by omega) (by omega)
  have h3 : i * c ≤ 24 * c := Int.mul_le_mul_of_nonneg_right (by have := h.r1; omega) (by omega)
  have := h.c1
  rw [Int.sub_mul, Int.one_mul, ← h.n] at h2
  omega
theorem cell_ok {M r c : Int} {l : List Int} (h : FieldIn M r c l) {i k : Int} (hi : 0 ≤ i ∧ i < r) (hk : 0 ≤ k ∧ k < c) : 0 ≤ cell c l i k ∧ cell c l i k ≤ M :=
  h.all _ (rd_mem l _ (cell_in h hi hk).2.2.1 (cell_in h hi hk).2.2.2)
/-- A cell, round and round, or 0 beyond the border. -/
def look (r c : Int) (l : List Int) (b : Bool) (i k : Int) : Int :=
  if b = true then cell c l (fm i r) (fm k c) else if (0 ≤ i ∧ i ≤ r - 1) ∧ 0 ≤ k ∧ k ≤ c - 1 then cell c l i k else 0
theorem look_ok {M r c : Int} {l : List Int} (h : FieldIn M r c l) (hM : 0 ≤ M) (b : Bool) (i k : Int) : 0 ≤ look r c l b i k ∧ look r c l b i k ≤ M := by
  have h1 := fm_ok i r (by have := h.r0; omega) (by have := h.r1; omega)
  have h2 := fm_ok k c (by have := h.c0; omega) (by have := h.c1; omega)
  unfold look
  split
  · exact cell_ok h h1 h2
  · split
    · rename_i g
      exact cell_ok h ⟨g.1.1, by omega⟩ ⟨g.2.1, by omega⟩
    · omega
theorem fm_self {x n : Int} (h0 : 0 ≤ x) (h1 : x < n) (hn : n ≤ 1000000000000) : fm x n = x := by
  unfold fm
  rw [Int.tmod_eq_of_lt h0 h1, wrap_id (x := x + n) (by omega) (by omega), Int.tmod_eq_emod_of_nonneg (by omega), Int.add_emod_right, Int.emod_eq_of_lt h0 h1]
theorem look_here {M r c : Int} {l : List Int} (h : FieldIn M r c l) (b : Bool) {i k : Int} (hi : 0 ≤ i ∧ i < r) (hk : 0 ≤ k ∧ k < c) : look r c l b i k = cell c l i k := by
  unfold look
  rw [fm_self hi.1 hi.2 (by have := h.r1; omega), fm_self hk.1 hk.2 (by have := h.c1; omega), if_pos (show (0 ≤ i ∧ i ≤ r - 1) ∧ 0 ≤ k ∧ k ≤ c - 1 by omega)]
  split <;> rfl
/-- The sum of the eight cells around one. -/
def aroundOf (r c : Int) (l : List Int) (b : Bool) (i k : Int) : Int := sum3 (fun a => sum3 (fun d => look r c l b a d) k 3) i 3 - cell c l i k
/-- The same, without the cell itself. -/
def ringOf (r c : Int) (l : List Int) (b : Bool) (i k a d : Int) : Int := if a = i ∧ d = k then 0 else look r c l b a d
theorem around_eq {M r c : Int} {l : List Int} (h : FieldIn M r c l) (b : Bool) {i k : Int} (hi : 0 ≤ i ∧ i < r) (hk : 0 ≤ k ∧ k < c) :
    sum3 (fun a => sum3 (fun d => ringOf r c l b i k a d) k 3) i 3 = aroundOf r c l b i k := by
  have e := look_here h b hi hk
  unfold aroundOf
  rw [← e]
  simp only [sum3, ringOf]
  have ei : i - 1 + ((1 : Nat) : Int) = i := by omega
  have ek : k - 1 + ((1 : Nat) : Int) = k := by omega
  have e0 : ((0 : Nat) : Int) = 0 := rfl
  have e2 : ((2 : Nat) : Int) = 2 := rfl
  rw [ei, ek, e0, e2, if_neg (show ¬ (i - 1 + 0 = i ∧ k - 1 + 0 = k) by omega), if_neg (show ¬ (i - 1 + 0 = i ∧ k = k) by omega), if_neg (show ¬ (i - 1 + 0 = i ∧ k - 1 + 2 = k) by omega), if_neg (show ¬ (i = i ∧ k - 1 + 0 = k) by omega), if_pos (show i = i ∧ k = k from ⟨rfl, rfl⟩), if_neg (show ¬ (i = i ∧ k - 1 + 2 = k) by omega), if_neg (show ¬ (i - 1 + 2 = i ∧ k - 1 + 0 = k) by omega), if_neg (show ¬ (i - 1 + 2 = i ∧ k = k) by omega), if_neg (show ¬ (i - 1 + 2 = i ∧ k - 1 + 2 = k) by omega)]
  omega

theorem fieldAt {M r c : Int} {l : List Int} (h : FieldIn M r c l) {i k : Int} (hi : 0 ≤ i ∧ i < r) (hk : 0 ≤ k ∧ k < c) : impl_Field_at.f r c l i k = some (cell c l i k) := by
  have hc := cell_in h hi hk
  have := h.c1
  unfold impl_Field_at.f
  rw [wrap_id (x := i * c) (by omega) (by omega), wrap_id (x := i * c + k) (by omega) (by omega), if_pos hc.2.2.1, if_pos hc.2.2.2]
  rfl

theorem floorMod (a b : Int) (h : b ≠ 0) : impl_floorMod.f a b = some (fm a b) := by unfold impl_floorMod.f; rw [if_neg h]; rfl

theorem within (a b c : Int) : impl_within.f a b c = some (decide (b ≤ a ∧ a ≤ c)) := by
  unfold impl_within.f
  by_cases h : a ≥ b
  · rw [if_pos h]; simp; omega
  · rw [if_neg h]; simp; omega

theorem fieldLook {M r c : Int} {l : List Int} (h : FieldIn M r c l) (b : Bool) (i k : Int) : impl_Field_look.f r c l i k b = some (look r c l b i k) := by
  have := h.r0; have := h.r1; have := h.c0; have := h.c1
  have h1 := fm_ok i r (by omega) (by omega)
  have h2 := fm_ok k c (by omega) (by omega)
  unfold impl_Field_look.f look impl_Field_has.f
  by_cases hb : b = true
  · rw [if_pos hb, if_pos hb, floorMod _ _ (by omega), floorMod _ _ (by omega)]
    simp only [Option.bind_some]
    rw [fieldAt h h1 h2]; rfl
  · rw [if_neg hb, if_neg hb, wrap_id (x := r - 1) (by omega) (by omega), wrap_id (x := c - 1) (by omega) (by omega), within, within]
    simp only [Option.bind_some]
    by_cases c1 : 0 ≤ i ∧ i ≤ r - 1
    · rw [decide_eq_true c1, if_pos rfl]
      simp only [Option.bind_some]
      by_cases c2 : 0 ≤ k ∧ k ≤ c - 1
      · rw [decide_eq_true c2, if_pos rfl, fieldAt h ⟨c1.1, by omega⟩ ⟨c2.1, by omega⟩, if_pos ⟨c1, c2⟩]; rfl
      · rw [decide_eq_false c2, if_neg (by simp), if_neg (fun g => c2 g.2)]
    · rw [decide_eq_false c1, if_neg (by simp)]
      simp only [Option.bind_some]
      rw [if_neg (by simp), if_neg (fun g => c1 g.1)]

theorem fieldAround {M r c : Int} {l : List Int} (h : FieldIn M r c l) (hM : 0 ≤ M) (hM9 : M ≤ 9) (b : Bool) {i k : Int} (hi : 0 ≤ i ∧ i < r) (hk : 0 ≤ k ∧ k < c) : Ev (fun n => impl_Field_around.f n r c l i k b) (aroundOf r c l b i k) := by
  have := h.r1; have := h.c1
  unfold impl_Field_around.f
  have hc := cell_ok h hi hk
  refine Ev.bnd (fieldAt h hi hk) ?_
  rw [wrap_id (x := -cell c l i k) (by omega) (by omega), wrap_id (x := i - 1) (by omega) (by omega)]
  have hin : ∀ a, 0 ≤ sum3 (fun d => look r c l b a d) k 3 ∧ sum3 (fun d => look r c l b a d) k 3 ≤ 27 := fun a => by
    have := sum3_ok (fun d => look r c l b a d) k 9 (fun d => by have := look_ok h hM b a d; omega) 3
    simpa using this
  refine Ev.congr (fun n => ?_) (Ev.upto 3 (fun _ => True) (fun j => -cell c l i k + sum3 (fun a => sum3 (fun d => look r c l b a d) k 3) i j) (aroundOf r c l b i k) (fun n x j => impl_Field_around.l0 n i k b x (i - 1 + j) r c l) (fun j hj _ ih => ?_) (fun _ => ?_) trivial)
  · simp [sum3]
  · refine Ev.succ ?_
    simp only [impl_Field_around.l0]
    have hout := sum3_ok (fun a => sum3 (fun d => look r c l b a d) k 3) i 27 hin j
    rw [wrap_id (x := i + 1) (by omega) (by omega), wrap_id (x := k - 1) (by omega) (by omega)]
    refine Ev.pos (by omega) ?_
    refine Ev.congr (fun n => ?_) (Ev.upto 3 (fun _ => True) (fun d => -cell c l i k + sum3 (fun a => sum3 (fun d => look r c l b a d) k 3) i j + sum3 (fun d => look r c l b (i - 1 + (j : Int)) d) k d) (aroundOf r c l b i k) (fun n x d => impl_Field_around.l1 n i k b x (i - 1 + (j : Int)) (k - 1 + d) r c l) (fun d hd _ ihd => ?_) (fun _ => ?_) trivial)
    · simp [sum3]
    · refine Ev.succ ?_
      simp only [impl_Field_around.l1]
      have hd0 := sum3_ok (fun d => look r c l b (i - 1 + (j : Int)) d) k 9 (fun d => by have := look_ok h hM b (i - 1 + (j : Int)) d; omega) d
      have hl := look_ok h hM b (i - 1 + (j : Int)) (k - 1 + (d : Int))
      rw [wrap_id (x := k + 1) (by omega) (by omega), wrap_id (x := k - 1 + (d : Int) + 1) (by omega) (by omega)]
      refine Ev.pos (by omega) (Ev.bnd (fieldLook h b _ _) ?_)
      rw [wrap_id (by omega) (by omega)]
      have := ihd trivial
      simp only [sum3] at this
      rw [show k - 1 + ((d : Int) + 1) = k - 1 + (d : Int) + 1 by omega, ← Int.add_assoc] at this
      exact this
    · refine Ev.succ ?_
      simp only [impl_Field_around.l1]
      rw [wrap_id (x := k + 1) (by omega) (by omega), wrap_id (x := i - 1 + (j : Int) + 1) (by omega) (by omega)]
      refine Ev.neg (by omega) ?_
      have := ih trivial
      simp only [sum3] at this ⊢
      rw [show i - 1 + ((j : Int) + 1) = i - 1 + (j : Int) + 1 by omega, ← Int.add_assoc] at this
      exact this
  · refine Ev.succ ?_
    simp only [impl_Field_around.l0]
    rw [wrap_id (x := i + 1) (by omega) (by omega)]
    refine Ev.neg (by omega) (Ev.val ?_)
    unfold aroundOf
    rw [Option.some.injEq]
    omega

theorem l00In (a b c : Int) : spec_l00In.f a b c = some (decide (b ≤ a ∧ a ≤ c)) := by
  unfold spec_l00In.f
  by_cases h : a ≥ b
  · rw [if_pos h]; simp; omega
  · rw [if_neg h]; simp; omega

theorem l04Round (M r c : Int) (l : List Int) (h : FieldIn M r c l) (i k : Int) : spec_l04Round.f r c l i k = some (fm i r * c + fm k c) := by
  have := h.r0; have := h.r1; have := h.c0; have := h.c1
  have h1 := fm_ok i r (by omega) (by omega)
  have h2 := fm_ok k c (by omega) (by omega)
  have h3 := cell_in h h1 h2
  have e1 : Int.tmod (wrap64 ((Int.tmod i r) + r)) r = fm i r := rfl
  have e2 : Int.tmod (wrap64 ((Int.tmod k c) + c)) c = fm k c := rfl
  unfold spec_l04Round.f
  rw [if_neg (by omega), if_neg (by omega), e1, e2, wrap_id (x := fm i r * c) (by omega) (by omega), wrap_id (x := fm i r * c + fm k c) (by omega) (by omega)]
theorem l04Around {M r c : Int} {l : List Int} (h : FieldIn M r c l) (hM : 0 ≤ M) (hM9 : M ≤ 9) (b : Bool) {i k : Int} (hi : 0 ≤ i ∧ i < r) (hk : 0 ≤ k ∧ k < c) : Ev (fun n => spec_l04Around.f n r c l i k b) (aroundOf r c l b i k) := by
  have := h.r1; have := h.c1; have := h.r0; have := h.c0
  unfold spec_l04Around.f
  rw [wrap_id (x := i - 1) (by omega) (by omega), ← around_eq h b hi hk]
  have hrg : ∀ a d, 0 ≤ ringOf r c l b i k a d ∧ ringOf r c l b i k a d ≤ 9 := fun a d => by
    have := look_ok h hM b a d
    unfold ringOf
    split <;> omega
  have hin : ∀ a, 0 ≤ sum3 (fun d => ringOf r c l b i k a d) k 3 ∧ sum3 (fun d => ringOf r c l b i k a d) k 3 ≤ 27 := fun a => by
    have := sum3_ok (fun d => ringOf r c l b i k a d) k 9 (hrg a) 3
    simpa using this
  generalize hres : sum3 (fun a => sum3 (fun d => ringOf r c l b i k a d) k 3) i 3 = res
  refine Ev.congr (fun n => ?_) (Ev.upto 3 (fun _ => True) (fun j => sum3 (fun a => sum3 (fun d => ringOf r c l b i k a d) k 3) i j) res (fun n x j => spec_l04Around.l0 n i k b x (i - 1 + j) r c l) (fun j hj _ ih => ?_) (fun _ => ?_) trivial)
  · simp [sum3]
  · refine Ev.succ ?_
    simp only [spec_l04Around.l0]
    have hout := sum3_ok (fun a => sum3 (fun d => ringOf r c l b i k a d) k 3) i 27 hin j
    rw [wrap_id (x := i + 1) (by omega) (by omega), wrap_id (x := k - 1) (by omega) (by omega)]
    refine Ev.pos (by omega) ?_
    refine Ev.congr (fun n => ?_) (Ev.upto 3 (fun _ => True) (fun d => sum3 (fun a => sum3 (fun d => ringOf r c l b i k a d) k 3) i j + sum3 (fun d => ringOf r c l b i k (i - 1 + (j : Int)) d) k d) res (fun n x d => spec_l04Around.l1 n i k b x (i - 1 + (j : Int)) (k - 1 + d) r c l) (fun d hd _ ihd => ?_) (fun _ => ?_) trivial)
    · simp [sum3]
    · refine Ev.succ ?_
      simp only [spec_l04Around.l1]
      have hd0 := sum3_ok (fun d => ringOf r c l b i k (i - 1 + (j : Int)) d) k 9 (hrg _) d
      have hl := look_ok h hM b (i - 1 + (j : Int)) (k - 1 + (d : Int))
      have ihd' := ihd trivial
      simp only [sum3] at ihd'
      rw [show k - 1 + ((d : Int) + 1) = k - 1 + (d : Int) + 1 by omega, ← Int.add_assoc] at ihd'
      generalize ea : i - 1 + (j : Int) = a at *
      generalize ed : k - 1 + (d : Int) = e at *
      rw [wrap_id (x := k + 1) (by omega) (by omega)]
      refine Ev.pos (by omega) ?_
      -- the cell itself, or a neighbour
      have body : ∀ x35 : Bool, x35 = decide (a = i ∧ e = k) → Ev (fun n => spec_l04Around.j2 n i k b (sum3 (fun a => sum3 (fun d => ringOf r c l b i k a d) k 3) i j + sum3 (fun d => ringOf r c l b i k a d) k d) a e x35 r c l) res := by
        intro x35 hx
        refine Ev.succ ?_
        simp only [spec_l04Around.j2]
        have hf1 := fm_ok a r (by omega) (by omega)
        have hf2 := fm_ok e c (by omega) (by omega)
        have hfi := cell_in h hf1 hf2
        rw [wrap_id (x := e + 1) (by omega) (by omega), wrap_id (x := r - 1) (by omega) (by omega), wrap_id (x := c - 1) (by omega) (by omega)]
        by_cases c0 : a = i ∧ e = k
        · refine Ev.pos (by rw [hx]; exact decide_eq_true c0) ?_
          have e0 : ringOf r c l b i k a e = 0 := by unfold ringOf; rw [if_pos c0]
          rw [e0, Int.add_zero] at ihd'
          exact ihd'
        · refine Ev.neg (by rw [hx]; simpa using c0) ?_
          have e0 : ringOf r c l b i k a e = look r c l b a e := by unfold ringOf; rw [if_neg c0]
          rw [e0] at ihd'
          by_cases cb : b = true
          · refine Ev.pos cb (Ev.bnd (l04Round M r c l h a e) (Ev.pos hfi.2.2.1 (Ev.pos hfi.2.2.2 ?_)))
            have el : look r c l b a e = rd l (fm a r * c + fm e c) := by unfold look; rw [if_pos cb]; rfl
            rw [el] at ihd' hl
            rw [wrap_id (by omega) (by omega)]
            exact ihd'
          · refine Ev.neg cb (Ev.bnd (l00In _ _ _) ?_)
            by_cases g1 : 0 ≤ a ∧ a ≤ r - 1
            · refine Ev.pos (by simpa using g1) (Ev.bnd (l00In _ _ _) ?_)
              by_cases g2 : 0 ≤ e ∧ e ≤ c - 1
              · refine Ev.pos (by simpa using g2) (Ev.bnd (l04Round M r c l h a e) (Ev.pos hfi.2.2.1 (Ev.pos hfi.2.2.2 ?_)))
                have el : look r c l b a e = rd l (fm a r * c + fm e c) := by
                  unfold look cell
                  rw [if_neg cb, if_pos ⟨g1, g2⟩, fm_self g1.1 (by omega) (by omega), fm_self g2.1 (by omega) (by omega)]
                rw [el] at ihd' hl
                rw [wrap_id (by omega) (by omega)]
                exact ihd'
              · have el : look r c l b a e = 0 := by unfold look; rw [if_neg cb, if_neg (fun g => g2 g.2)]
                rw [el, Int.add_zero] at ihd'
                exact Ev.neg (by simpa using g2) ihd'
            · have el : look r c l b a e = 0 := by unfold look; rw [if_neg cb, if_neg (fun g => g1 g.1)]
              rw [el, Int.add_zero] at ihd'
              exact Ev.neg (by simpa using g1) ihd'
      by_cases c1 : a = i
      · exact Ev.pos c1 (body _ (by simp [c1]; rfl))
      · exact Ev.neg c1 (body _ (by simp [c1]))
    · refine Ev.succ ?_
      simp only [spec_l04Around.l1]
      rw [wrap_id (x := k + 1) (by omega) (by omega), wrap_id (x := i - 1 + (j : Int) + 1) (by omega) (by omega)]
      refine Ev.neg (by omega) ?_
      have := ih trivial
      simp only [sum3] at this ⊢
      rw [show i - 1 + ((j : Int) + 1) = i - 1 + (j : Int) + 1 by omega] at this
      exact this
  · refine Ev.succ ?_
    simp only [spec_l04Around.l0]
    rw [wrap_id (x := i + 1) (by omega) (by omega)]
    exact Ev.neg (by omega) (Ev.val (by rw [hres]))

theorem bit (b : Bool) : impl_bit.f b = some (if b = true then 1 else 0) := by
  unfold impl_bit.f
  split <;> rfl

/-- What most cells around a cell are. -/
def voteAt (r c : Int) (l : List Int) (b : Bool) (i k : Int) : Int := if cell c l i k + aroundOf r c l b i k ≥ 5 then 1 else 0
/-- The field of votes. -/
def voteOf (r c : Int) (l : List Int) (b : Bool) : List Int := grid r.toNat c.toNat fun i k => voteAt r c l b (i : Int) (k : Int)
theorem aroundOf_ok {r c : Int} {l : List Int} (h : FieldIn 1 r c l) (b : Bool) {i k : Int} (hi : 0 ≤ i ∧ i < r) (hk : 0 ≤ k ∧ k < c) : -1 ≤ aroundOf r c l b i k ∧ aroundOf r c l b i k ≤ 9 := by
  have hin : ∀ a, 0 ≤ sum3 (fun d => look r c l b a d) k 3 ∧ sum3 (fun d => look r c l b a d) k 3 ≤ 3 := fun a => by
    have := sum3_ok (fun d => look r c l b a d) k 1 (fun d => look_ok h (by omega) b a d) 3
    simpa using this
  have := sum3_ok (fun a => sum3 (fun d => look r c l b a d) k 3) i 3 hin 3
  have hc := cell_ok h hi hk
  unfold aroundOf
  omega
theorem voteOf_in {r c : Int} {l : List Int} (h : FieldIn 1 r c l) (b : Bool) : FieldIn 1 r c (voteOf r c l b) := by
  have := h.r0; have := h.c0
  refine ⟨h.r0, h.r1, h.c0, h.c1, ?_, grid_mem (p := fun x => 0 ≤ x ∧ x ≤ 1) (fun i j _ _ => by unfold voteAt; split <;> omega)⟩
  rw [voteOf, grid_length]; push_cast
  rw [Int.toNat_of_nonneg (by omega), Int.toNat_of_nonneg (by omega)]
theorem voteLiteral {r c : Int} {l : List Int} (h : FieldIn 1 r c l) (b : Bool) {i k : Int} (hi : 0 ≤ i ∧ i < r) (hk : 0 ≤ k ∧ k < c) : Ev (fun n => impl_Field_vote_1.f n i k r c l b) (voteAt r c l b i k) := by
  unfold impl_Field_vote_1.f voteAt
  have hc := cell_ok h hi hk
  have ha := aroundOf_ok h b hi hk
  refine Ev.bnd (fieldAt h hi hk) (Ev.bind (fieldAround h (by omega) (by omega) b hi hk) ?_)
  rw [wrap_id (x := cell c l i k + aroundOf r c l b i k) (by omega) (by omega)]
  refine Ev.bnd (bit _) (Ev.val ?_)
  simp
theorem voteImpl {r c : Int} {l : List Int} (h : FieldIn 1 r c l) (b : Bool) : Ev (fun n => impl_Field_vote.f n r c l b) (r, c, voteOf r c l b) := by
  unfold impl_Field_vote.f impl_madeField_impl_Field_vote_1.f
  refine Ev.bind (a := (r, c, voteOf r c l b)) ?_ (Ev.now _)
  have hr0 := h.r0; have hr1 := h.r1; have hc0 := h.c0; have hc1 := h.c1
  obtain ⟨R, rfl⟩ := Int.eq_ofNat_of_zero_le (show 0 ≤ r by omega)
  obtain ⟨C, rfl⟩ := Int.eq_ofNat_of_zero_le (show 0 ≤ c by omega)
  have hg := grid_length R C fun i k => voteAt R C l b (i : Int) (k : Int)
  refine Ev.congr (fun n => ?_) (Ev.grid R C (fun m => (voteOf R C l b).take m) ((R : Int), (C : Int), voteOf R C l b) (fun n s i => impl_madeField_impl_Field_vote_1.l0 n C R i R C l b R C s) (fun n s i j => impl_madeField_impl_Field_vote_1.l1 n C i R i C j R C l b R C s) (fun i hi ih => ?_) (fun i j hi hj ih => ?_) (fun i hi ih => ?_) ?_)
  · simp
  · refine Ev.succ ?_
    simp only [impl_madeField_impl_Field_vote_1.l0]
    exact Ev.pos (by omega) ih
  · refine Ev.succ ?_
    simp only [impl_madeField_impl_Field_vote_1.l1]
    have hlt := grid_in hi hj
    have hm : R * C ≤ 24 * 24 := Nat.mul_le_mul (by omega) (by omega)
    refine Ev.pos (by omega) (Ev.bind (voteLiteral h b ⟨by omega, by omega⟩ ⟨by omega, by omega⟩) (Ev.pos ?_ ?_))
    · rw [List.length_take]; omega
    · rw [wrap_id (x := (j : Int) + 1) (by omega) (by omega)]
      have e := grid_take R C (fun i k => voteAt R C l b (i : Int) (k : Int)) i j hi hj
      have e' : (voteOf R C l b).take (i * C + j) ++ [voteAt R C l b i j] = (voteOf R C l b).take (i * C + j + 1) := e.symm
      rw [e']
      exact ih
  · refine Ev.succ ?_
    simp only [impl_madeField_impl_Field_vote_1.l1]
    rw [wrap_id (x := (i : Int) + 1) (by omega) (by omega)]
    exact Ev.neg (by omega) ih
  · refine Ev.succ ?_
    simp only [impl_madeField_impl_Field_vote_1.l0]
    refine Ev.neg (by omega) (Ev.val ?_)
    rw [List.take_of_length_le (by rw [voteOf, Int.toNat_natCast, Int.toNat_natCast, hg]; exact Nat.le_refl _)]

/-- Each cell is the other state. -/
def opp (l : List Int) : List Int := l.map fun x => 1 - x
theorem opp_length (l : List Int) : (opp l).length = l.length := by simp [opp]
theorem rd_opp (l : List Int) (j : Int) (h0 : 0 ≤ j) (h : j < l.length) : rd (opp l) j = 1 - rd l j := by
  obtain ⟨n, rfl⟩ := Int.eq_ofNat_of_zero_le h0
  have hn : n < l.length := by omega
  rw [rd_lt l n hn, rd_lt (opp l) n (by rw [opp_length]; exact hn)]
  simp [opp]
theorem opp_in {r c : Int} {l : List Int} (h : FieldIn 1 r c l) : FieldIn 1 r c (opp l) := by
  refine ⟨h.r0, h.r1, h.c0, h.c1, by rw [opp_length]; exact h.n, fun x hx => ?_⟩
  simp only [opp, List.mem_map] at hx
  obtain ⟨y, hy, rfl⟩ := hx
  have := h.all y hy
  omega
theorem look_opp {r c : Int} {l : List Int} (h : FieldIn 1 r c l) (i k : Int) : look r c (opp l) true i k = 1 - look r c l true i k := by
  have h1 := fm_ok i r (by have := h.r0; omega) (by have := h.r1; omega)
  have h2 := fm_ok k c (by have := h.c0; omega) (by have := h.c1; omega)
  have h3 := cell_in h h1 h2
  unfold look
  rw [if_pos rfl, if_pos rfl]
  exact rd_opp l _ h3.2.2.1 h3.2.2.2
theorem sum3_opp (g g' : Int → Int) (B : Int) (h : ∀ x, g' x = B - g x) (k : Int) (j : Nat) : sum3 g' k j = B * j - sum3 g k j := by
  induction j with
  | zero => simp [sum3]
  | succ j ih =>
    simp only [sum3]
    rw [ih, h]
    push_cast
    rw [Int.mul_add, Int.mul_one]
    omega
theorem around_opp {r c : Int} {l : List Int} (h : FieldIn 1 r c l) (i k : Int) : cell c (opp l) i k + aroundOf r c (opp l) true i k = 9 - (cell c l i k + aroundOf r c l true i k) := by
  unfold aroundOf
  have h1 : ∀ a, sum3 (fun d => look r c (opp l) true a d) k 3 = 3 - sum3 (fun d => look r c l true a d) k 3 := fun a => by
    have := sum3_opp (fun d => look r c l true a d) (fun d => look r c (opp l) true a d) 1 (fun d => look_opp h a d) k 3
    simpa using this
  have h2 := sum3_opp (fun a => sum3 (fun d => look r c l true a d) k 3) (fun a => sum3 (fun d => look r c (opp l) true a d) k 3) 3 h1 i 3
  rw [h2]
  omega
theorem voteAt_opp {r c : Int} {l : List Int} (h : FieldIn 1 r c l) (i k : Int) : voteAt r c (opp l) true i k = 1 - voteAt r c l true i k := by
  have := around_opp h i k
  unfold voteAt
  split <;> split <;> omega
theorem voteOf_opp {r c : Int} {l : List Int} (h : FieldIn 1 r c l) : voteOf r c (opp l) true = opp (voteOf r c l true) := by
  unfold voteOf grid opp
  rw [List.map_map]
  apply List.map_congr_left
  intro n _
  exact voteAt_opp h _ _

theorem l07Vote {r c : Int} {l : List Int} (h : FieldIn 1 r c l) (b : Bool) : Ev (fun n => spec_l07Vote.f n r c l b) (r, c, voteOf r c l b) := by
  unfold spec_l07Vote.f spec_l04New.f
  have hr0 := h.r0; have hr1 := h.r1; have hc0 := h.c0; have hc1 := h.c1; have hn := h.n
  obtain ⟨R, rfl⟩ := Int.eq_ofNat_of_zero_le (show 0 ≤ r by omega)
  obtain ⟨C, rfl⟩ := Int.eq_ofNat_of_zero_le (show 0 ≤ c by omega)
  have hm : R * C ≤ 24 * 24 := Nat.mul_le_mul (by omega) (by omega)
  have hmi : (R : Int) * (C : Int) = ((R * C : Nat) : Int) := by push_cast; rfl
  have hg : (voteOf R C l b).length = R * C := by rw [voteOf, grid_length, Int.toNat_natCast, Int.toNat_natCast]
  rw [hmi, wrap_id (x := ((R * C : Nat) : Int)) (by omega) (by omega), Int.toNat_natCast]
  refine Ev.bnd (a := ((R : Int), (C : Int), List.replicate (R * C) (0 : Int))) (by rw [if_pos (by omega), if_pos (by omega)]) ?_
  refine Ev.congr (fun n => ?_) (Ev.grid R C (fun m => (voteOf R C l b).take m ++ List.replicate (R * C - m) 0) ((R : Int), (C : Int), voteOf R C l b) (fun n s i => spec_l07Vote.l0 n b i R C l R C s) (fun n s i j => spec_l07Vote.l1 n b i j R C l R C s) (fun i hi ih => ?_) (fun i j hi hj ih => ?_) (fun i hi ih => ?_) ?_)
  · simp
  · refine Ev.succ ?_
    simp only [spec_l07Vote.l0]
    exact Ev.pos (by omega) ih
  · refine Ev.succ ?_
    simp only [spec_l07Vote.l1]
    have hlt := grid_in hi hj
    have hi' : 0 ≤ (i : Int) ∧ (i : Int) < (R : Int) := ⟨by omega, by omega⟩
    have hj' : 0 ≤ (j : Int) ∧ (j : Int) < (C : Int) := ⟨by omega, by omega⟩
    have hc := cell_in h hi' hj'
    have hco := cell_ok h hi' hj'
    have ha := aroundOf_ok h b hi' hj'
    have hx : (i : Int) * (C : Int) + (j : Int) = ((i * C + j : Nat) : Int) := by push_cast; rfl
    have hl : ((voteOf R C l b).take (i * C + j) ++ List.replicate (R * C - (i * C + j)) (0 : Int)).length = R * C := by rw [List.length_append, List.length_take, List.length_replicate, hg]; omega
    have hv : voteAt R C l b i j = (voteOf R C l b)[i * C + j]'(by rw [hg]; exact hlt) := (grid_get R C (fun i k => voteAt R C l b (i : Int) (k : Int)) i j hi hj).symm
    have hs := take_set_rep' (voteOf R C l b) (i * C + j) (R * C) (by rw [hg]; exact hlt) hg
    rw [← hv] at hs
    rw [wrap_id (x := (i : Int) * (C : Int)) (by omega) (by omega), wrap_id (x := (i : Int) * (C : Int) + (j : Int)) (by omega) (by omega), wrap_id (x := (j : Int) + 1) (by omega) (by omega)]
    refine Ev.pos (by omega) (Ev.bind (l04Around h (by omega) (by omega) b hi' hj') (Ev.pos hc.2.2.1 (Ev.pos hc.2.2.2 ?_)))
    have e1 : rd l ((i : Int) * (C : Int) + (j : Int)) = cell C l i j := rfl
    rw [e1, wrap_id (x := aroundOf R C l b i j + cell C l i j) (by omega) (by omega)]
    by_cases g : aroundOf R C l b i j + cell C l i j ≥ 5
    · have hv1 : voteAt R C l b i j = 1 := by unfold voteAt; rw [if_pos (by omega)]
      rw [hv1] at hs
      refine Ev.pos g (Ev.pos (by rw [hl, hx]; omega) ?_)
      rw [hx, Int.toNat_natCast, hs]
      exact ih
    · have hv0 : voteAt R C l b i j = 0 := by unfold voteAt; rw [if_neg (by omega)]
      rw [hv0] at hs
      refine Ev.neg g ?_
      have hid : (List.take (i * C + j) (voteOf R C l b) ++ List.replicate (R * C - (i * C + j)) (0 : Int)).set (i * C + j) 0 = List.take (i * C + j) (voteOf R C l b) ++ List.replicate (R * C - (i * C + j)) 0 := by
        rw [List.set_append_right _ _ (by rw [List.length_take]; omega)]
        congr 1
        rw [List.length_take, hg, Nat.min_eq_left (by omega), Nat.sub_self, show R * C - (i * C + j) = (R * C - (i * C + j) - 1) + 1 by omega, List.replicate_succ, List.set_cons_zero]
      rw [hid] at hs
      rw [hs]
      exact ih
  · refine Ev.succ ?_
    simp only [spec_l07Vote.l1]
    rw [wrap_id (x := (i : Int) + 1) (by omega) (by omega)]
    exact Ev.neg (by omega) ih
  · refine Ev.succ ?_
    simp only [spec_l07Vote.l0]
    refine Ev.neg (by omega) (Ev.val ?_)
    rw [Nat.sub_self, List.replicate_zero, List.append_nil, List.take_of_length_le (by rw [hg]; exact Nat.le_refl _)]

theorem l04Is (r c : Int) (l : List Int) (hl : l.length ≤ 35184372088832) : Ev (fun k => spec_l04Is.f k r c l) (validField r c l) := by
  unfold spec_l04Is.f validField
  refine Ev.bnd (l00In r 1 24) ?_
  by_cases hr : 1 ≤ r ∧ r ≤ 24
  · refine Ev.pos (by simpa using hr) (Ev.bnd (l00In c 1 24) ?_)
    by_cases hc : 1 ≤ c ∧ c ≤ 24
    · have hm1 : 0 ≤ r * c := Int.mul_nonneg (by omega) (by omega)
      have hm2 : r * c ≤ 24 * c := Int.mul_le_mul_of_nonneg_right hr.2 (by omega)
      rw [wrap_id (x := r * c) (by omega) (by omega)]
      refine Ev.pos (by simpa using hc) (Ev.succ ?_)
      simp only [spec_l04Is.j0]
      by_cases hn : (l.length : Int) = r * c
      · refine Ev.neg (by simp [hn]) ?_
        rw [decide_eq_true hr, decide_eq_true hc, decide_eq_true hn, Bool.true_and, Bool.true_and, Bool.true_and]
        refine Ev.upto l.length (fun i => ∀ j, (hj : j < l.length) → j < i → 0 ≤ l[j] ∧ l[j] ≤ 9) (fun _ => ()) _ (fun k _ i => spec_l04Is.l0 k i r c l) (fun i hi hp ih => ?_) (fun hp => ?_) (fun j hj h => by omega)
        · refine Ev.succ ?_
          simp only [spec_l04Is.l0]
          refine Ev.pos (by omega) (Ev.pos (by omega) ?_)
          rw [rd_lt l i (by omega), wrap_id (x := (i : Int) + 1) (by omega) (by omega)]
          refine Ev.bnd (l00In _ _ _) ?_
          by_cases c : 0 ≤ l[i] ∧ l[i] ≤ 9
          · exact Ev.pos (by simpa using c) (ih (upTo_succ (p := fun x => 0 ≤ x ∧ x ≤ 9) hi hp c))
          · exact Ev.neg (by simpa using c) (Ev.val (by rw [allIn_false i (by omega) c]))
        · refine Ev.succ ?_
          simp only [spec_l04Is.l0]
          exact Ev.neg (by omega) (Ev.val (by rw [allIn_true (fun j hj' => hp j hj' (by omega))]))
      · exact Ev.pos (by simp [hn]) (Ev.val (by simp [hn]))
    · refine Ev.neg (by simpa using hc) (Ev.succ ?_)
      simp only [spec_l04Is.j0]
      exact Ev.pos (by trivial) (Ev.val (by simp [hc]))
  · refine Ev.neg (by simpa using hr) (Ev.succ ?_)
    simp only [spec_l04Is.j0]
    exact Ev.pos (by trivial) (Ev.val (by simp [hr]))

theorem areWithin (l : List Int) (a b : Int) (hl : l.length ≤ 35184372088832) : Ev (fun k => impl_areWithin.f k l a b) (allIn l a b) := by
  unfold impl_areWithin.f
  refine Ev.upto l.length (fun i => ∀ j, (hj : j < l.length) → j < i → a ≤ l[j] ∧ l[j] ≤ b) (fun _ => ()) _ (fun k _ i => impl_areWithin.l0 k a b l l.length i) (fun i hi hp ih => ?_) (fun hp => ?_) (fun j hj h => by omega)
  · refine Ev.succ ?_
    simp only [impl_areWithin.l0]
    refine Ev.pos (by omega) (Ev.pos (by omega) (Ev.pos (by omega) ?_))
    rw [rd_lt l i (by omega), wrap_id (by omega) (by omega), within]
    by_cases c : a ≤ l[i] ∧ l[i] ≤ b
    · exact Ev.bnd rfl (Ev.pos (by simpa using c) (ih (upTo_succ (p := fun x => a ≤ x ∧ x ≤ b) hi hp c)))
    · exact Ev.bnd rfl (Ev.neg (by simpa using c) (Ev.val (by rw [allIn_false i (by omega) c])))
  · refine Ev.succ ?_
    simp only [impl_areWithin.l0]
    exact Ev.neg (by omega) (Ev.val (by rw [allIn_true (fun j hj' => hp j hj' (by omega))]))

theorem areMany (l : List Int) (a b c d : Int) (hl : l.length ≤ 35184372088832) : Ev (fun k => impl_areMany.f k l a b c d) (decide (a ≤ l.length ∧ l.length ≤ b) && allIn l c d) := by
  unfold impl_areMany.f
  refine Ev.bnd (within _ _ _) ?_
  by_cases h : a ≤ l.length ∧ l.length ≤ b
  · refine Ev.pos (by simpa using h) (Ev.cast (Ev.bind (areWithin l c d hl) (Ev.now _)) (by simp [h]))
  · exact Ev.neg (by simpa using h) (Ev.val (by simp [h]))

theorem isSide (r : Int) : impl_isSide.f r = some (decide (1 ≤ r ∧ r ≤ 24)) := by
  unfold impl_isSide.f
  rw [within]; rfl
theorem ValidField (r c : Int) (l : List Int) (hl : l.length ≤ 35184372088832) : Ev (fun k => impl_ValidField.f k r c l) (validField r c l) := by
  unfold impl_ValidField.f validField
  refine Ev.cast (Ev.andB (isSide r) (fun hr => Ev.andB (isSide c) (fun hc => ?_))) (by rw [← Bool.and_assoc, ← Bool.and_assoc])
  rw [decide_eq_true_eq] at hr hc
  have hm1 : 0 ≤ r * c := Int.mul_nonneg (by omega) (by omega)
  have hm2 : r * c ≤ 24 * c := Int.mul_le_mul_of_nonneg_right hr.2 (by omega)
  rw [wrap_id (x := r * c) (by omega) (by omega)]
  refine Ev.cast (Ev.ret (areMany l _ _ 0 9 hl)) ?_
  congr 1
  exact decide_eq_decide.mpr (by omega)

/-- A field is plain. -/
def plainField (r c : Int) (l : List Int) : Bool := validField r c l && allIn l 0 1
theorem FieldIn.plain {r c : Int} {l : List Int} (h : plainField r c l = true) : FieldIn 1 r c l := by
  unfold plainField at h
  rw [Bool.and_eq_true] at h
  have h1 := FieldIn.of h.1
  exact ⟨h1.r0, h1.r1, h1.c0, h1.c1, h1.n, allIn_iff.1 h.2⟩
theorem plainImpl (r c : Int) (l : List Int) (hl : l.length ≤ 35184372088832) : Ev (fun k => impl_isPlain.f k r c l) (plainField r c l) := by
  unfold impl_isPlain.f plainField
  exact Ev.and (ValidField r c l hl) (fun _ => Ev.ret (areWithin l 0 1 hl))
theorem plainSpec (r c : Int) (l : List Int) (hl : l.length ≤ 35184372088832) : Ev (fun k => spec_l04Plain.f k r c l) (plainField r c l) := by
  unfold spec_l04Plain.f plainField
  refine Ev.and (l04Is r c l hl) (fun hv => ?_)
  have hf := FieldIn.of hv
  refine Ev.upto l.length (fun i => ∀ j, (hj : j < l.length) → j < i → 0 ≤ l[j] ∧ l[j] ≤ 1) (fun _ => ()) _ (fun k _ i => spec_l04Plain.l0 k i r c l) (fun i hi hp ih => ?_) (fun hp => ?_) (fun j hj h => by omega)
  · refine Ev.succ ?_
    simp only [spec_l04Plain.l0]
    refine Ev.pos (by omega) (Ev.pos (by omega) ?_)
    have hx := hf.all l[i] (List.getElem_mem hi)
    rw [rd_lt l i (by omega), wrap_id (x := (i : Int) + 1) (by omega) (by omega)]
    by_cases c : l[i] > 1
    · exact Ev.pos c (Ev.val (by rw [allIn_false i (by omega) (by omega)]))
    · exact Ev.neg c (ih (upTo_succ (p := fun x => 0 ≤ x ∧ x ≤ 1) hi hp (by omega)))
  · refine Ev.succ ?_
    simp only [spec_l04Plain.l0]
    exact Ev.neg (by omega) (Ev.val (by rw [allIn_true (fun j hj' => hp j hj' (by omega))]))

theorem l02Equal (l m : List Int) (hl : l.length ≤ 35184372088832) : Ev (fun k => spec_l02Equal.f k l m) (decide (l = m)) := by
  unfold spec_l02Equal.f
  by_cases h : l.length = m.length
  · refine Ev.pos (by omega) ?_
    refine Ev.upto l.length (fun i => ∀ j, j < i → l[j]? = m[j]?) (fun _ => ()) _ (fun k _ i => spec_l02Equal.l0 k l m i) (fun i hi hp ih => ?_) (fun hp => ?_) (fun j hj => by omega)
    · refine Ev.succ ?_
      simp only [spec_l02Equal.l0]
      refine Ev.pos (by omega) (Ev.pos (by omega) (Ev.pos (by omega) ?_))
      rw [rd_lt l i (by omega), rd_lt m i (by omega)]
      by_cases e : l[i] = m[i]
      · refine Ev.pos e ?_
        rw [wrap_id (by omega) (by omega)]
        exact ih (fun j hj' => by
          by_cases hji : j < i
          · exact hp j hji
          · obtain rfl : j = i := by omega
            rw [List.getElem?_eq_getElem (by omega), List.getElem?_eq_getElem (by omega), e])
      · refine Ev.neg e (Ev.val ?_)
        rw [eq_comm, Option.some.injEq, decide_eq_false_iff_not]
        rintro rfl
        exact e rfl
    · refine Ev.succ ?_
      simp only [spec_l02Equal.l0]
      refine Ev.neg (by omega) (Ev.val ?_)
      have : l = m := List.ext_getElem? (fun j => by
        by_cases hjl : j < l.length
        · exact hp j (by omega)
        · rw [List.getElem?_eq_none (by omega), List.getElem?_eq_none (by omega)])
      simp [this]
  · refine Ev.neg (by omega) (Ev.val ?_)
    rw [eq_comm, Option.some.injEq, decide_eq_false_iff_not]
    rintro rfl
    exact h rfl
theorem slicesEqual (l m : List Int) (hl : l.length ≤ 35184372088832) : Ev (fun k => slices_Equal_int64_int64.f k l m) (decide (l = m)) := by
  unfold slices_Equal_int64_int64.f
  by_cases h : l.length = m.length
  · refine Ev.pos (by omega) ?_
    refine Ev.upto l.length (fun i => ∀ j, j < i → l[j]? = m[j]?) (fun _ => ()) _ (fun k _ i => slices_Equal_int64_int64.l0 k l m l.length i) (fun i hi hp ih => ?_) (fun hp => ?_) (fun j hj => by omega)
    · refine Ev.succ ?_
      simp only [slices_Equal_int64_int64.l0]
      refine Ev.pos (by omega) (Ev.pos (by omega) (Ev.pos (by omega) (Ev.pos (by omega) ?_)))
      rw [rd_lt l i (by omega), rd_lt m i (by omega)]
      by_cases e : l[i] = m[i]
      · refine Ev.pos e ?_
        rw [wrap_id (by omega) (by omega)]
        exact ih (fun j hj' => by
          by_cases hji : j < i
          · exact hp j hji
          · obtain rfl : j = i := by omega
            rw [List.getElem?_eq_getElem (by omega), List.getElem?_eq_getElem (by omega), e])
      · refine Ev.neg e (Ev.val ?_)
        rw [eq_comm, Option.some.injEq, decide_eq_false_iff_not]
        rintro rfl
        exact e rfl
    · refine Ev.succ ?_
      simp only [slices_Equal_int64_int64.l0]
      refine Ev.neg (by omega) (Ev.val ?_)
      have : l = m := List.ext_getElem? (fun j => by
        by_cases hjl : j < l.length
        · exact hp j (by omega)
        · rw [List.getElem?_eq_none (by omega), List.getElem?_eq_none (by omega)])
      simp [this]
  · refine Ev.neg (by omega) (Ev.val ?_)
    rw [eq_comm, Option.some.injEq, decide_eq_false_iff_not]
    rintro rfl
    exact h rfl

theorem l04Same (s r : Int) (t : List Int) (s' r' : Int) (t' : List Int) (hl : t.length ≤ 35184372088832) : Ev (fun k => spec_l04Same.f k s r t s' r' t') (decide (s = s' ∧ r = r' ∧ t = t')) := by
  unfold spec_l04Same.f
  exact Ev.cast (Ev.andP (fun _ => Ev.andP (fun _ => Ev.ret (l02Equal t t' hl)))) (by simp only [Bool.decide_and])
theorem sameField (s r : Int) (t : List Int) (s' r' : Int) (t' : List Int) (hl : t.length ≤ 35184372088832) : Ev (fun k => impl_SameField.f k s r t s' r' t') (decide (s = s' ∧ r = r' ∧ t = t')) := by
  unfold impl_SameField.f
  exact Ev.cast (Ev.andP (fun _ => Ev.andP (fun _ => Ev.ret (slicesEqual t t' hl)))) (by simp only [Bool.decide_and])

/-- Votes until nothing changes, n times at most. -/
noncomputable def voteTo (r c : Int) (b : Bool) : Nat → List Int → Int → Int × Int × List Int × Int × Bool
  | 0, _, _ => (0, 0, [], 0, false)
  | n + 1, l, i => if voteOf r c l b = l then (r, c, l, i, true) else voteTo r c b n (voteOf r c l b) (i + 1)
/-- What VoteRun answers. -/
noncomputable def voteRun (r c : Int) (l : List Int) (b : Bool) (most : Int) : Int × Int × List Int × Int × Bool :=
  if (plainField r c l && decide (0 ≤ most ∧ most ≤ 512)) = true then voteTo r c b (most + 1).toNat l 0 else (0, 0, [], 0, false)
theorem in_len {M r c : Int} {l : List Int} (h : FieldIn M r c l) : l.length ≤ 576 := by
  have h1 : r * c ≤ 24 * 24 := Int.mul_le_mul h.r1 h.c1 (by have := h.c0; omega) (by omega)
  have := h.n
  omega
theorem voteRunSpec (r c : Int) (l : List Int) (b : Bool) (most : Int) (hl : l.length ≤ 17592186044415) : Ev (fun k => spec_VoteRun.f k r c l b most) (voteRun r c l b most) := by
  unfold spec_VoteRun.f voteRun
  refine Ev.bind (plainSpec r c l (by omega)) ?_
  by_cases g : plainField r c l = true
  · rw [g, Bool.true_and]
    refine Ev.pos (by trivial) (Ev.bnd (l00In most 0 512) (Ev.succ ?_))
    simp only [spec_VoteRun.j0]
    by_cases hm : 0 ≤ most ∧ most ≤ 512
    · rw [decide_eq_true hm, if_pos rfl]
      refine Ev.neg (by simp) (Ev.bnd (a := (r, c, l)) (by unfold spec_l04Own.f; show (if _ then _ else _) = _; rw [if_pos (by simp; omega)]; simp) ?_)
      have main : ∀ (n : Nat) (l : List Int) (i : Int), FieldIn 1 r c l → 0 ≤ i → i + n = most + 1 → Ev (fun k => spec_VoteRun.l0 k b most i r c l) (voteTo r c b n l i) := by
        intro n
        induction n with
        | zero =>
          intro l i h h0 hi
          refine Ev.succ ?_
          simp only [spec_VoteRun.l0, voteTo]
          exact Ev.neg (by omega) (Ev.now _)
        | succ n ih =>
          intro l i h h0 hi
          refine Ev.succ ?_
          simp only [spec_VoteRun.l0, voteTo]
          refine Ev.pos (by omega) (Ev.bind (l07Vote h b) (Ev.bind (l04Same _ _ _ _ _ _ (by have := in_len (voteOf_in h b); show (voteOf r c l b).length ≤ _; omega)) ?_))
          by_cases e : voteOf r c l b = l
          · rw [if_pos e]
            exact Ev.pos (by simp [e]) (Ev.now _)
          · rw [if_neg e, wrap_id (x := i + 1) (by omega) (by omega)]
            exact Ev.neg (by simp [e]) (ih _ _ (voteOf_in h b) (by omega) (by omega))
      exact main _ _ _ (FieldIn.plain g) (by omega) (by omega)
    · rw [decide_eq_false hm, if_neg (by simp)]
      exact Ev.pos (by simp) (Ev.now _)
  · refine Ev.neg g (Ev.succ ?_)
    simp only [spec_VoteRun.j0]
    rw [Bool.eq_false_iff.mpr g, Bool.false_and, if_neg (by simp)]
    exact Ev.pos (by trivial) (Ev.now _)
theorem voteRunImpl (r c : Int) (l : List Int) (b : Bool) (most : Int) (hl : l.length ≤ 17592186044415) : Ev (fun k => impl_VoteRun.f k r c l b most) (voteRun r c l b most) := by
  unfold impl_VoteRun.f voteRun
  refine Ev.bind (plainImpl r c l (by omega)) ?_
  by_cases g : plainField r c l = true
  · rw [g, Bool.true_and]
    refine Ev.pos (by trivial) (Ev.bnd (within most 0 512) (Ev.succ ?_))
    simp only [impl_VoteRun.j0]
    by_cases hm : 0 ≤ most ∧ most ≤ 512
    · rw [decide_eq_true hm, if_pos rfl]
      refine Ev.neg (by simp) (Ev.bnd (a := (r, c, l)) (by unfold impl_copyField.f slices_Clone_int64_int64.f; simp only [Option.bind_some]; rw [if_pos (by simp; omega)]; simp) ?_)
      have main : ∀ (n : Nat) (l : List Int) (i : Int), FieldIn 1 r c l → 0 ≤ i → i + n = most + 1 → Ev (fun k => impl_VoteRun.l0 k b most i r c l) (voteTo r c b n l i) := by
        intro n
        induction n with
        | zero =>
          intro l i h h0 hi
          refine Ev.succ ?_
          simp only [impl_VoteRun.l0, voteTo]
          exact Ev.neg (by omega) (Ev.now _)
        | succ n ih =>
          intro l i h h0 hi
          refine Ev.succ ?_
          simp only [impl_VoteRun.l0, voteTo]
          refine Ev.pos (by omega) (Ev.bind (voteImpl h b) (Ev.bind (sameField _ _ _ _ _ _ (by have := in_len h; omega)) ?_))
          by_cases e : voteOf r c l b = l
          · rw [if_pos e]
            exact Ev.pos (by simp [e]) (Ev.now _)
          · rw [if_neg e, wrap_id (x := i + 1) (by omega) (by omega)]
            exact Ev.neg (by simp [Ne.symm e]) (ih _ _ (voteOf_in h b) (by omega) (by omega))
      exact main _ _ _ (FieldIn.plain g) (by omega) (by omega)
    · rw [decide_eq_false hm, if_neg (by simp)]
      exact Ev.pos (by simp) (Ev.now _)
  · refine Ev.neg g (Ev.succ ?_)
    simp only [impl_VoteRun.j0]
    rw [Bool.eq_false_iff.mpr g, Bool.false_and, if_neg (by simp)]
    exact Ev.pos (by trivial) (Ev.now _)
theorem voteTo_len (r c : Int) (b : Bool) : ∀ (n : Nat) (l : List Int) (i : Int), FieldIn 1 r c l → (voteTo r c b n l i).2.2.1.length ≤ 576 := by
  intro n
  induction n with
  | zero => intro l i h; simp [voteTo]
  | succ n ih =>
    intro l i h
    simp only [voteTo]
    split
    · exact in_len h
    · exact ih _ _ (voteOf_in h b)
theorem voteRun_len (r c : Int) (l : List Int) (b : Bool) (most : Int) : (voteRun r c l b most).2.2.1.length ≤ 576 := by
  unfold voteRun
  split
  · rename_i g
    rw [Bool.and_eq_true] at g
    exact voteTo_len r c b _ l 0 (FieldIn.plain g.1)
  · simp

theorem b10Ints (l m : List Int) (hl : l.length ≤ 35184372088832) : Ev (fun k => laws_b10Ints.f k l m) (decide (l = m)) := by
  unfold laws_b10Ints.f
  by_cases h : l.length = m.length
  · refine Ev.pos (by omega) ?_
    refine Ev.upto l.length (fun i => ∀ j, j < i → l[j]? = m[j]?) (fun _ => ()) _ (fun k _ i => laws_b10Ints.l0 k l m l.length i) (fun i hi hp ih => ?_) (fun hp => ?_) (fun j hj => by omega)
    · refine Ev.succ ?_
      simp only [laws_b10Ints.l0]
      refine Ev.pos (by omega) (Ev.pos (by omega) (Ev.pos (by omega) (Ev.pos (by omega) ?_)))
      rw [rd_lt l i (by omega), rd_lt m i (by omega)]
      by_cases e : l[i] = m[i]
      · refine Ev.pos e ?_
        rw [wrap_id (by omega) (by omega)]
        exact ih (fun j hj' => by
          by_cases hji : j < i
          · exact hp j hji
          · obtain rfl : j = i := by omega
            rw [List.getElem?_eq_getElem (by omega), List.getElem?_eq_getElem (by omega), e])
      · refine Ev.neg e (Ev.val ?_)
        rw [eq_comm, Option.some.injEq, decide_eq_false_iff_not]
        rintro rfl
        exact e rfl
    · refine Ev.succ ?_
      simp only [laws_b10Ints.l0]
      refine Ev.neg (by omega) (Ev.val ?_)
      have : l = m := List.ext_getElem? (fun j => by
        by_cases hjl : j < l.length
        · exact hp j (by omega)
        · rw [List.getElem?_eq_none (by omega), List.getElem?_eq_none (by omega)])
      simp [this]
  · refine Ev.neg (by omega) (Ev.val ?_)
    rw [eq_comm, Option.some.injEq, decide_eq_false_iff_not]
    rintro rfl
    exact h rfl

/-- Bytes. -/
def Bytes (l : List Int) : Prop := ∀ x ∈ l, 0 ≤ x ∧ x ≤ 255
theorem Bytes.of {l : List Int} (h : ∀ x ∈ l, (Lit.int .u8 x).wf = true) : Bytes l := by
  intro x hx
  have := h x hx
  simp only [Lit.wf, Bool.and_eq_true, decide_eq_true_eq] at this
  have h1 : x ≤ 255 := this.2
  have h0 : 0 ≤ x := this.1
  exact ⟨h0, h1⟩
theorem u64_wrap (n : Int) : IntKind.u64.wrap n = n % 18446744073709551616 := by simp [IntKind.wrap, IntKind.bits, IntKind.signed]
theorem src_high (z : Int) : 0 ≤ Go.bits .and .u64 (IntKind.u64.wrap z / 1099511627776) 255 ∧ Go.bits .and .u64 (IntKind.u64.wrap z / 1099511627776) 255 ≤ 255 := by
  have h0 : 0 ≤ IntKind.u64.wrap z := by rw [u64_wrap]; omega
  have h1 : IntKind.u64.wrap z < 18446744073709551616 := by rw [u64_wrap]; omega
  have e := bits_mask .u64 24 (by decide) (fun n h0 h1 => by rw [u64_wrap]; omega) 8 (by decide) (IntKind.u64.wrap z / 1099511627776) (by omega) (by omega)
  rw [show (255 : Int) = 2 ^ 8 - 1 from by decide]
  rw [e]
  omega
/-- The next byte. -/
theorem srcNext (l : List Int) (hb : Bytes l) (hl : l.length ≤ 140737488351232) (at_ seed : Int) (h0 : 0 ≤ at_) (h1 : at_ ≤ 1000000000000000) : ∃ x s, spec_l00Src_next.f l at_ seed = some (x, at_ + 1, s) ∧ 0 ≤ x ∧ x ≤ 255 := by
  unfold spec_l00Src_next.f
  rw [wrap_id (x := at_ + 1) (by omega) (by omega)]
  by_cases c : at_ < (l.length : Int)
  · have hx := hb _ (rd_mem l at_ h0 c)
    rw [if_pos c, if_pos h0, if_pos (by omega), wrap_id (x := rd l at_) (by omega) (by omega)]
    exact ⟨_, _, rfl, hx.1, hx.2⟩
  · rw [if_neg c, if_neg (by omega)]
    have h := src_high (IntKind.u64.wrap ((IntKind.u64.wrap (seed * 6364136223846793005))) + 1442695040888963407)
    rw [wrap_id (by omega) (by omega)]
    exact ⟨_, _, rfl, h.1, h.2⟩
/-- A number below n. -/
theorem srcPick (l : List Int) (hb : Bytes l) (hl : l.length ≤ 140737488351232) (at_ seed : Int) (h0 : 0 ≤ at_) (h1 : at_ ≤ 100000000000000) (n : Int) (hn : 1 ≤ n) (hm : n ≤ 200) : ∃ x a s, spec_l00Src_pick.f l at_ seed n = some (x, a, s) ∧ 0 ≤ x ∧ x < n ∧ 0 ≤ a ∧ a ≤ at_ + 1 := by
  unfold spec_l00Src_pick.f
  by_cases c : n ≤ 1
  · rw [if_pos c]
    exact ⟨_, _, _, rfl, by omega, by omega, h0, by omega⟩
  · obtain ⟨x, s, e, hx0, hx1⟩ := srcNext l hb hl at_ seed h0 (by omega)
    rw [if_neg c, e]
    simp only [Option.bind_some]
    rw [if_neg (by omega), if_neg (by omega), Int.tmod_eq_emod_of_nonneg hx0]
    exact ⟨_, _, _, rfl, Int.emod_nonneg _ (by omega), Int.emod_lt_of_pos _ (by omega), by omega, by omega⟩

theorem b10At (l : List Int) (hb : Bytes l) (i n : Int) (hi : 0 ≤ i) (hi2 : i ≤ 1000) (hn : 1 ≤ n) (hn2 : n ≤ 1000) : ∃ x, laws_b10At.f l i n = some x ∧ 0 ≤ x ∧ x < n := by
  unfold laws_b10At.f
  by_cases c : n ≤ 1
  · rw [if_pos c]; exact ⟨_, rfl, by omega, by omega⟩
  · rw [if_neg c]
    by_cases h : i < (l.length : Int)
    · have hx := hb _ (rd_mem l i hi h)
      rw [if_pos h, if_pos hi, if_neg (by omega), wrap_id (x := rd l i) (by omega) (by omega), Int.tmod_eq_emod_of_nonneg (by omega)]
      exact ⟨_, rfl, Int.emod_nonneg _ (by omega), Int.emod_lt_of_pos _ (by omega)⟩
    · rw [if_neg h, if_neg (by omega), wrap_id (x := i * 37) (by omega) (by omega), wrap_id (x := i * 37 + 11) (by omega) (by omega), Int.tmod_eq_emod_of_nonneg (by omega)]
      exact ⟨_, rfl, Int.emod_nonneg _ (by omega), Int.emod_lt_of_pos _ (by omega)⟩
theorem b10Long (l m : List Int) : laws_b10Long.f l m = some (decide ((1048576 : Int) < l.length) || decide ((1048576 : Int) < m.length)) := by
  unfold laws_b10Long.f
  by_cases c : (l.length : Int) > 1048576
  · rw [if_pos c, decide_eq_true (show (1048576 : Int) < l.length from c), Bool.true_or]
  · rw [if_neg c, decide_eq_false (show ¬ (1048576 : Int) < l.length from c), Bool.false_or]

/-- Cells that are drawn. -/
theorem drawStates (l : List Int) (hb : Bytes l) (hl : l.length ≤ 140737488351232) (q r c : Int) (hq : 1 ≤ q) (hq2 : q ≤ 200) : ∀ (d : Nat) (at_ s : Int) (acc : List Int), 0 ≤ at_ → at_ + d ≤ 1000000 → acc.length + d ≤ 1000000 →
    ∃ xs a t, Ev (fun k => spec_l04DrawStates.l0 k q d l at_ s r c acc) (r, c, acc ++ xs, a, t) ∧ xs.length = d ∧ ∀ x ∈ xs, 0 ≤ x ∧ x < q := by
  intro d
  induction d with
  | zero =>
    intro at_ s acc h0 h1 h2
    refine ⟨[], at_, s, Ev.succ ?_, rfl, by simp⟩
    simp only [spec_l04DrawStates.l0]
    exact Ev.neg (by simp) (Ev.val (by simp))
  | succ d ih =>
    intro at_ s acc h0 h1 h2
    obtain ⟨x, a, t, e, hx0, hx1, ha0, ha1⟩ := srcPick l hb hl at_ s h0 (by omega) q hq hq2
    obtain ⟨xs, a2, t2, h, hlen, hxs⟩ := ih a t (acc ++ [x]) ha0 (by push_cast at h1; omega) (by rw [List.length_append, List.length_singleton]; omega)
    refine ⟨x :: xs, a2, t2, Ev.succ ?_, by simp [hlen], ?_⟩
    · simp only [spec_l04DrawStates.l0]
      have ed : ((d + 1 : Nat) : Int) - 1 = (d : Int) := by omega
      rw [wrap_id (x := ((d + 1 : Nat) : Int) - 1) (by omega) (by omega), ed]
      refine Ev.pos (by omega) (Ev.bnd e (Ev.pos (by omega) ?_))
      rw [List.append_assoc, List.singleton_append] at h
      exact h
    · intro y hy
      rcases List.mem_cons.1 hy with rfl | hy
      · exact ⟨hx0, hx1⟩
      · exact hxs y hy
/-- A drawn plain field. -/
theorem B10Plain (l : List Int) (hb : Bytes l) (hl : l.length ≤ 140737488351232) (r c : Int) (hr0 : 1 ≤ r) (hr1 : r ≤ 24) (hc0 : 1 ≤ c) (hc1 : c ≤ 24) : ∃ xs, Ev (fun k => spec_B10Plain.f k l r c) (r, c, xs) ∧ FieldIn 1 r c xs := by
  obtain ⟨R, rfl⟩ := Int.eq_ofNat_of_zero_le (show 0 ≤ r by omega)
  obtain ⟨C, rfl⟩ := Int.eq_ofNat_of_zero_le (show 0 ≤ c by omega)
  have hm : R * C ≤ 24 * 24 := Nat.mul_le_mul (by omega) (by omega)
  have hmi : (R : Int) * (C : Int) = ((R * C : Nat) : Int) := by push_cast; rfl
  obtain ⟨xs, a, t, h, hlen, hxs⟩ := drawStates l hb hl 2 R C (by omega) (by omega) (R * C) 0 0 [] (by omega) (by omega) (by simp; omega)
  refine ⟨xs, ?_, hr0, hr1, hc0, hc1, by rw [hlen, hmi], fun x hx => by have := hxs x hx; omega⟩
  unfold spec_B10Plain.f spec_l00From.f spec_l04DrawOk.f spec_l04DrawStates.f
  refine Ev.bnd rfl (Ev.bind (Ev.bind (a := ((R : Int), (C : Int), xs, a, t)) ?_ (Ev.now _)) (Ev.now _))
  simp only []
  rw [hmi, wrap_id (x := ((R * C : Nat) : Int)) (by omega) (by omega)]
  exact h

theorem plain_of {r c : Int} {l : List Int} (h : FieldIn 1 r c l) : plainField r c l = true := by
  unfold plainField validField
  have h9 : allIn l 0 9 = true := allIn_iff.2 (fun x hx => by have := h.all x hx; omega)
  have h1 : allIn l 0 1 = true := allIn_iff.2 h.all
  rw [h9, h1, decide_eq_true ⟨h.r0, h.r1⟩, decide_eq_true ⟨h.c0, h.c1⟩, decide_eq_true h.n]
  rfl
theorem stepOf {r c : Int} {l : List Int} (h : FieldIn 1 r c l) (b : Bool) : Ev (fun k => impl_VoteStep.f k r c l b) (r, c, voteOf r c l b, true) := by
  unfold impl_VoteStep.f
  have hl := in_len h
  refine Ev.bind (plainImpl r c l (by omega)) (Ev.pos (plain_of h) (Ev.bind (voteImpl h b) (Ev.now _)))
/-- Where voting ends, nothing changes. -/
theorem voteTo_still (r c : Int) (b : Bool) : ∀ (n : Nat) (l : List Int) (i : Int), FieldIn 1 r c l → (voteTo r c b n l i).2.2.2.2 = true → ∃ m j, voteTo r c b n l i = (r, c, m, j, true) ∧ FieldIn 1 r c m ∧ voteOf r c m b = m := by
  intro n
  induction n with
  | zero => intro l i h g; simp [voteTo] at g
  | succ n ih =>
    intro l i h g
    simp only [voteTo] at g ⊢
    by_cases e : voteOf r c l b = l
    · rw [if_pos e]; exact ⟨l, i, rfl, h, e⟩
    · rw [if_neg e] at g ⊢; exact ih _ _ (voteOf_in h b) g
theorem FnVoted : laws_FnVoted.Pure := by
  intro la lb _ ha hwa _ hb hwb
  have hA := Bytes.of hwa
  have hB := Bytes.of hwb
  refine Ev.rounds ?_
  unfold laws_FnVoted.f
  refine Ev.bnd (b10Long la lb) ?_
  by_cases g : (decide ((1048576 : Int) < la.length) || decide ((1048576 : Int) < lb.length)) = true
  · exact Ev.pos g (Ev.now _)
  · refine Ev.neg g ?_
    obtain ⟨x, ex, hx0, hx1⟩ := b10At lb hB 0 7 (by omega) (by omega) (by omega) (by omega)
    obtain ⟨y, ey, hy0, hy1⟩ := b10At lb hB 1 7 (by omega) (by omega) (by omega) (by omega)
    obtain ⟨z, ez, hz0, hz1⟩ := b10At lb hB 2 2 (by omega) (by omega) (by omega) (by omega)
    rw [ex, ey]
    refine Ev.bnd rfl (Ev.bnd rfl ?_)
    rw [wrap_id (x := 1 + x) (by omega) (by omega), wrap_id (x := 1 + y) (by omega) (by omega)]
    generalize hr : 1 + x = r
    generalize hc : 1 + y = c
    obtain ⟨l, hd, hf⟩ := B10Plain la hA (by omega) r c (by omega) (by omega) (by omega) (by omega)
    have hl := in_len hf
    have ho := opp_in hf
    have hv := voteOf_in hf true
    have hvl : (voteOf r c l true).length = l.length := by have h1 := hv.n; have h2 := hf.n; omega
    have hvo := voteOf_opp hf
    refine Ev.bind hd ?_
    simp only []
    refine Ev.congr (fun k => ?_) (Ev.upto l.length (fun _ => True) (fun i => (opp l).take i) true (fun k s i => laws_FnVoted.l0 k lb l.length i r c l r c s) (fun i hi _ ih => ?_) (fun _ => ?_) trivial)
    · simp
    · refine Ev.succ ?_
      simp only [laws_FnVoted.l0]
      refine Ev.pos (by omega) (Ev.pos (by omega) (Ev.pos (by omega) (Ev.pos (by rw [List.length_take]; omega) ?_)))
      have hx := hf.all l[i] (List.getElem_mem hi)
      rw [rd_lt l i hi, wrap_id (x := (i : Int) + 1) (by omega) (by omega), wrap_id (x := 1 - l[i]) (by omega) (by omega)]
      have e : (opp l).take i ++ [1 - l[i]] = (opp l).take (i + 1) := by
        rw [List.take_succ_eq_append_getElem (by rw [opp_length]; exact hi)]
        simp [opp]
      rw [e]
      exact ih trivial
    · refine Ev.succ ?_
      simp only [laws_FnVoted.l0]
      refine Ev.neg (by omega) ?_
      rw [List.take_of_length_le (by rw [opp_length]; exact Nat.le_refl _)]
      refine Ev.bind (stepOf hf true) (Ev.bind (stepOf ho true) (Ev.pos rfl (Ev.pos rfl (Ev.pos (by show ((voteOf r c l true).length : Int) = _; omega) (Ev.succ ?_)))))
      simp only [laws_FnVoted.j1]
      rw [hvo]
      refine Ev.neg (by rw [opp_length, hvl]; simp) ?_
      refine Ev.upto (voteOf r c l true).length (fun _ => True) (fun _ => ()) true (fun k _ i => laws_FnVoted.l1 k lb (voteOf r c l true).length i r c l r c (voteOf r c l true) r c (opp (voteOf r c l true))) (fun i hi _ ih => ?_) (fun _ => ?_) trivial
      · refine Ev.succ ?_
        simp only [laws_FnVoted.l1]
        have h1 := rd_opp (voteOf r c l true) i (by omega) (by omega)
        have h2 := hv.all _ (rd_mem (voteOf r c l true) i (by omega) (by omega))
        rw [h1, wrap_id (x := (i : Int) + 1) (by omega) (by omega), wrap_id (x := rd (voteOf r c l true) i + (1 - rd (voteOf r c l true) i)) (by omega) (by omega)]
        exact Ev.pos (by omega) (Ev.pos (by omega) (Ev.pos (by omega) (Ev.pos (by rw [opp_length]; omega) (Ev.pos (by omega) (ih trivial)))))
      · refine Ev.succ ?_
        simp only [laws_FnVoted.l1]
        refine Ev.neg (by omega) (Ev.bnd ez (Ev.bind (voteRunImpl r c l (z == 0) 20 (by omega)) (Ev.bind (voteRunSpec r c l (z == 0) 20 (by omega)) ?_)))
        refine Ev.neg (by simp) ?_
        by_cases k : (voteRun r c l (z == 0) 20).2.2.2.2 = true
        · refine Ev.pos k ?_
          have e1 : voteRun r c l (z == 0) 20 = voteTo r c (z == 0) 21 l 0 := by
            unfold voteRun
            rw [if_pos (by rw [plain_of hf]; rfl)]; rfl
          rw [e1] at k
          obtain ⟨m, j, em, hm, hs⟩ := voteTo_still r c (z == 0) 21 l 0 hf k
          rw [e1, em]
          have hml := in_len hm
          refine Ev.bind (stepOf hm (z == 0)) (Ev.pos rfl (Ev.pos rfl (Ev.bind (b10Ints m m (by omega)) (Ev.pos (by simp) ?_))))
          show Ev (fun k => (laws_b10Ints.f k (voteOf r c m (z == 0)) m).bind fun t => some t) true
          rw [hs]
          exact Ev.cast (Ev.ret (b10Ints m m (by omega))) (by simp)
        · exact Ev.neg k (Ev.now _)

end Go.Proofs.Ytbeinhdoggfgkaa.Pure

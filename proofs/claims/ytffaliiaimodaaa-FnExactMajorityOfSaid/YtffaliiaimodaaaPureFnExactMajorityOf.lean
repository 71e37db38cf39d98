/- MajorityOf of the program and of the reference answer the same for every list. -/
import Derived.Test.YtffaliiaimodaaaPFnExactMajorityOfx0
import Derived.Test.YtffaliiaimodaaaPFnExactMajorityOfx1
import Derived.Test.YtffaliiaimodaaaPFnExactMajorityOfx2
import Derived.Test.YtffaliiaimodaaaLib
namespace Go.Proofs.Ytffaliiaimodaaa.Pure
open Go.RowKit Go.Proofs.Ytffaliiaimodaaa.PFnExactMajorityOf Go.Proofs.YtffaliiaimodaaaW.PrintWords Go.Proofs.YtffaliiaimodaaaW.PrintLast Go.Proofs.Ytffaliiaimodaaa.L
set_option linter.unusedVariables false
set_option linter.unusedSimpArgs false

theorem toInt64S (l : List Int) (hl : l.length ≤ 35184372088832) : Ev (fun k => laws_toInt64S.f k l) l := by
  unfold laws_toInt64S.f
  refine Ev.pos (by omega) (Ev.pos (by omega) ?_)
  refine Ev.cast (Ev.upto l.length (fun _ => True) (fun i => l.take i ++ List.replicate (l.length - i) 0) l (fun k s i => laws_toInt64S.l0 k l s i) (fun i hi _ ih => ?_) (fun _ => ?_) trivial) rfl
  · refine Ev.succ ?_
    simp only [laws_toInt64S.l0]
    refine Ev.pos (by omega) (Ev.pos (by omega) (Ev.pos (by simp; omega) ?_))
    rw [wrap_id (by omega) (by omega), Int.toNat_natCast, rd_lt l i hi, take_set_rep l i hi]
    exact ih trivial
  · refine Ev.succ ?_
    simp only [laws_toInt64S.l0]
    exact Ev.neg (by omega) (Ev.val (by simp))

theorem eqInt64S (l m : List Int) (hl : l.length ≤ 35184372088832) : Ev (fun k => laws_eqInt64S.f k l m) (decide (l = m)) := by
  unfold laws_eqInt64S.f
  by_cases h : l.length = m.length
  · refine Ev.pos (by omega) ?_
    refine Ev.upto l.length (fun i => ∀ j, j < i → l[j]? = m[j]?) (fun _ => ()) _ (fun k _ i => laws_eqInt64S.l0 k l m i) (fun i hi hp ih => ?_) (fun hp => ?_) (fun j hj => by omega)
    · refine Ev.succ ?_
      simp only [laws_eqInt64S.l0]
      refine Ev.pos (by omega) (Ev.pos (by omega) (Ev.pos (by omega) ?_))
      rw [rd_lt l i (by omega), rd_lt m i (by omega)]
      by_cases e : l[i] = m[i]
      · refine Ev.pos e ?_
        rw [wrap_id (by omega) (by omega)]
        exact ih (fun j hj' => by
          by_cases hji : j < i
          · exact hp j hji
          · obtain rfl : j = i := by omega
            rw [List.getElem?_eq_getElem (by omega), List.getElem?_eq_getElem (by omega), e])
      · refine Ev.neg e (Ev.val ?_)
        rw [eq_comm, Option.some.injEq, decide_eq_false_iff_not]
        rintro rfl
        exact e rfl
    · refine Ev.succ ?_
      simp only [laws_eqInt64S.l0]
      refine Ev.neg (by omega) (Ev.val ?_)
      have : l = m := List.ext_getElem? (fun j => by
        by_cases hjl : j < l.length
        · exact hp j (by omega)
        · rw [List.getElem?_eq_none (by omega), List.getElem?_eq_none (by omega)])
      simp [this]
  · refine Ev.neg (by omega) (Ev.val ?_)
    rw [eq_comm, Option.some.injEq, decide_eq_false_iff_not]
    rintro rfl
    exact h rfl

theorem l00In (a b c : Int) : spec_l00In.f a b c = some (decide (b ≤ a ∧ a ≤ c)) := by
  unfold spec_l00In.f
  by_cases h : a ≥ b
  · rw [if_pos h]; simp; omega
  · rw [if_neg h]; simp; omega

theorem l02Ring (l : List Int) (s : Int) (hl : l.length ≤ 35184372088832) (h0 : -4611686018427387904 ≤ s) (h1 : s ≤ 4611686018427387904) : Ev (fun k => spec_l02Ring.f k l s) (allIn l 0 (s - 1) && decide (1 ≤ l.length ∧ l.length ≤ 64)) := by
  unfold spec_l02Ring.f
  refine Ev.upto l.length (fun i => ∀ j, (hj : j < l.length) → j < i → 0 ≤ l[j] ∧ l[j] ≤ s - 1) (fun _ => ()) _ (fun k _ i => spec_l02Ring.l0 k l s i) (fun i hi hp ih => ?_) (fun hp => ?_) (fun j hj h => by omega)
  · refine Ev.succ ?_
    simp only [spec_l02Ring.l0]
    refine Ev.pos (by omega) (Ev.pos (by omega) ?_)
    have hsw : wrap64 (s - 1) = s - 1 := wrap_id (by omega) (by omega)
    rw [rd_lt l i (by omega), hsw, wrap_id (x := (i : Int) + 1) (by omega) (by omega), l00In]
    by_cases c : 0 ≤ l[i] ∧ l[i] ≤ s - 1
    · exact Ev.bnd rfl (Ev.pos (by simpa using c) (ih (upTo_succ (p := fun x => 0 ≤ x ∧ x ≤ s - 1) hi hp c)))
    · refine Ev.bnd rfl (Ev.neg (by simpa using c) (Ev.val ?_))
      rw [allIn_false i (by omega) c]; rfl
  · refine Ev.succ ?_
    simp only [spec_l02Ring.l0]
    refine Ev.neg (by omega) ?_
    rw [allIn_true (fun j hj' => hp j hj' (by omega)), Bool.true_and]
    by_cases c : (l.length : Int) ≥ 1
    · exact Ev.pos c (Ev.val (congrArg some (decide_eq_decide.mpr (by omega))))
    · exact Ev.neg c (Ev.val (by rw [decide_eq_false (by omega)]))

theorem within (a b c : Int) : impl_within.f a b c = some (decide (b ≤ a ∧ a ≤ c)) := by
  unfold impl_within.f
  by_cases h : a ≥ b
  · rw [if_pos h]; simp; omega
  · rw [if_neg h]; simp; omega

theorem areWithin (l : List Int) (a b : Int) (hl : l.length ≤ 35184372088832) : Ev (fun k => impl_areWithin.f k l a b) (allIn l a b) := by
  unfold impl_areWithin.f
  refine Ev.upto l.length (fun i => ∀ j, (hj : j < l.length) → j < i → a ≤ l[j] ∧ l[j] ≤ b) (fun _ => ()) _ (fun k _ i => impl_areWithin.l0 k a b l l.length i) (fun i hi hp ih => ?_) (fun hp => ?_) (fun j hj h => by omega)
  · refine Ev.succ ?_
    simp only [impl_areWithin.l0]
    refine Ev.pos (by omega) (Ev.pos (by omega) (Ev.pos (by omega) ?_))
    rw [rd_lt l i (by omega), wrap_id (by omega) (by omega), within]
    by_cases c : a ≤ l[i] ∧ l[i] ≤ b
    · exact Ev.bnd rfl (Ev.pos (by simpa using c) (ih (upTo_succ (p := fun x => a ≤ x ∧ x ≤ b) hi hp c)))
    · exact Ev.bnd rfl (Ev.neg (by simpa using c) (Ev.val (by rw [allIn_false i (by omega) c])))
  · refine Ev.succ ?_
    simp only [impl_areWithin.l0]
    exact Ev.neg (by omega) (Ev.val (by rw [allIn_true (fun j hj' => hp j hj' (by omega))]))

theorem areMany (l : List Int) (a b c d : Int) (hl : l.length ≤ 35184372088832) : Ev (fun k => impl_areMany.f k l a b c d) (decide (a ≤ l.length ∧ l.length ≤ b) && allIn l c d) := by
  unfold impl_areMany.f
  refine Ev.bnd (within _ _ _) ?_
  by_cases h : a ≤ l.length ∧ l.length ≤ b
  · refine Ev.pos (by simpa using h) (Ev.cast (Ev.bind (areWithin l c d hl) (Ev.now _)) (by simp [h]))
  · exact Ev.neg (by simpa using h) (Ev.val (by simp [h]))

theorem areStates (s : Int) : impl_areStates.f s = some (decide (s = 2 ∨ s = 3)) := by
  unfold impl_areStates.f
  by_cases h : s = 2
  · rw [if_pos h]; simp [h]
  · rw [if_neg h]
    by_cases h3 : s = 3
    · subst h3; rfl
    · simp [h, h3]
theorem isRing (l : List Int) (s : Int) (hl : l.length ≤ 35184372088832) (hs : s = 2 ∨ s = 3) : Ev (fun k => impl_IsRing.f k l s) (allIn l 0 (s - 1) && decide (1 ≤ l.length ∧ l.length ≤ 64)) := by
  unfold impl_IsRing.f
  have hsw : wrap64 (s - 1) = s - 1 := wrap_id (by omega) (by omega)
  rw [hsw]
  refine Ev.bnd (areStates s) (Ev.pos (by simpa using hs) ?_)
  exact Ev.cast (Ev.bind (areMany l 1 64 0 (s - 1) hl) (Ev.now _)) (by
    rw [Bool.and_comm]
    congr 1
    exact decide_eq_decide.mpr (by omega))

theorem sumOf (l : List Int) (B : Int) (hB : B ≤ 1000000000) (hl : l.length ≤ 1000000000) (h : ∀ x ∈ l, -B ≤ x ∧ x ≤ B) : Ev (fun k => impl_sumOf.f k l) l.sum := by
  unfold impl_sumOf.f
  refine Ev.cast (Ev.upto l.length (fun _ => True) (fun i => (l.take i).sum) l.sum (fun k s i => impl_sumOf.l0 k s l l.length i) (fun i hi _ ih => ?_) (fun _ => ?_) trivial) rfl
  · refine Ev.succ ?_
    simp only [impl_sumOf.l0]
    refine Ev.pos (by omega) (Ev.pos (by omega) (Ev.pos (by omega) ?_))
    have hs := sum_bound (l.take (i + 1)) (-B) B (fun x hx => h x (List.mem_of_mem_take hx))
    rw [List.length_take, Nat.min_eq_left (by omega)] at hs
    have hm : B * ((i + 1 : Nat) : Int) ≤ 1000000000 * ((i + 1 : Nat) : Int) := Int.mul_le_mul_of_nonneg_right hB (by omega)
    have hm' : -B * ((i + 1 : Nat) : Int) = -(B * ((i + 1 : Nat) : Int)) := by rw [Int.neg_mul]
    rw [sum_take_succ l i hi] at hs
    rw [rd_lt l i hi, wrap_id (x := (l.take i).sum + l[i]) (by omega) (by omega), wrap_id (x := (i : Int) + 1) (by omega) (by omega), ← sum_take_succ l i hi]
    exact ih trivial
  · refine Ev.succ ?_
    simp only [impl_sumOf.l0]
    exact Ev.neg (by omega) (Ev.val (by rw [List.take_length]))

theorem countOnes (l : List Int) (hl : l.length ≤ 64) (h : ∀ x ∈ l, 0 ≤ x ∧ x ≤ 1) : Ev (fun k => spec_l07Majority.f k l) (if 2 * l.sum > l.length then 1 else 0) := by
  unfold spec_l07Majority.f
  refine Ev.cast (Ev.upto l.length (fun _ => True) (fun i => (l.take i).sum) _ (fun k s i => spec_l07Majority.l0 k l s l.length i) (fun i hi _ ih => ?_) (fun _ => ?_) trivial) rfl
  · refine Ev.succ ?_
    simp only [spec_l07Majority.l0]
    refine Ev.pos (by omega) (Ev.pos (by omega) (Ev.pos (by omega) ?_))
    have hb := sum_bound (l.take i) 0 1 (fun x hx => h x (List.mem_of_mem_take hx))
    rw [List.length_take, Nat.min_eq_left (by omega)] at hb
    have hx := h l[i] (List.getElem_mem hi)
    have := ih trivial
    rw [sum_take_succ l i hi] at this
    rw [rd_lt l i hi, wrap_id (x := (l.take i).sum + 1) (by omega) (by omega), wrap_id (x := (i : Int) + 1) (by omega) (by omega)]
    by_cases e : l[i] = 1
    · rw [e] at this
      exact Ev.pos e this
    · have e0 : l[i] = 0 := by omega
      rw [e0, Int.add_zero] at this
      exact Ev.neg e this
  · refine Ev.succ ?_
    simp only [spec_l07Majority.l0]
    refine Ev.neg (by omega) ?_
    have hb := sum_bound l 0 1 h
    rw [List.take_length, wrap_id (x := 2 * l.sum) (by omega) (by omega)]
    by_cases c : 2 * l.sum > l.length
    · exact Ev.pos c (Ev.val (by rw [if_pos c]))
    · exact Ev.neg c (Ev.val (by rw [if_neg c]))

theorem bit (b : Bool) : impl_bit.f b = some (if b = true then 1 else 0) := by
  unfold impl_bit.f
  split <;> rfl

theorem majority (l : List Int) (hl : l.length ≤ 64) (h : ∀ x ∈ l, 0 ≤ x ∧ x ≤ 1) : Ev (fun k => impl_majority.f k l) (if 2 * l.sum > l.length then 1 else 0) := by
  unfold impl_majority.f
  refine Ev.bind (sumOf l 1 (by omega) (by omega) (fun x hx => by have := h x hx; omega)) ?_
  have hb := sum_bound l 0 1 h
  rw [wrap_id (x := 2 * l.sum) (by omega) (by omega)]
  refine Ev.bnd (bit _) (Ev.val ?_)
  simp

/-- What MajorityOf answers. -/
def majorityOf (l : List Int) : Int × Bool := if (allIn l 0 1 && decide (1 ≤ l.length ∧ l.length ≤ 64)) = true then (if (l.length : Int) % 2 = 0 then (0, false) else ((if 2 * l.sum > l.length then 1 else 0), true)) else (0, false)

theorem majoritySpec (l : List Int) (hl : l.length ≤ 35184372088832) : Ev (fun k => spec_MajorityOf.f k l) (majorityOf l) := by
  unfold spec_MajorityOf.f majorityOf
  refine Ev.bind (l02Ring l 2 hl (by omega) (by omega)) ?_
  by_cases c : (allIn l 0 1 && decide (1 ≤ l.length ∧ l.length ≤ 64)) = true
  · rw [if_pos c]
    refine Ev.pos c ?_
    by_cases e : (l.length : Int) % 2 = 0
    · rw [if_pos e]
      exact Ev.pos e (Ev.now _)
    · rw [if_neg e]
      rw [Bool.and_eq_true, allIn_iff, decide_eq_true_eq] at c
      exact Ev.neg e (Ev.bind (countOnes l c.2.2 c.1) (Ev.now _))
  · exact Ev.neg c (Ev.val (by rw [if_neg c]))

theorem majorityImpl (l : List Int) (hl : l.length ≤ 35184372088832) : Ev (fun k => impl_MajorityOf.f k l) (majorityOf l) := by
  unfold impl_MajorityOf.f majorityOf
  refine Ev.bind (isRing l 2 hl (by omega)) ?_
  by_cases c : (allIn l 0 1 && decide (1 ≤ l.length ∧ l.length ≤ 64)) = true
  · rw [if_pos c]
    refine Ev.pos c ?_
    by_cases e : (l.length : Int) % 2 = 0
    · rw [if_pos e]
      exact Ev.pos e (Ev.now _)
    · rw [if_neg e]
      rw [Bool.and_eq_true, allIn_iff, decide_eq_true_eq] at c
      exact Ev.neg e (Ev.bind (majority l c.2.2 c.1) (Ev.now _))
  · exact Ev.neg c (Ev.val (by rw [if_neg c]))

theorem FnExactMajorityOf : laws_FnExactMajorityOf.Pure := by
  intro l _ hs _
  have hl : l.length ≤ 35184372088832 := by omega
  refine Ev.rounds ?_
  unfold laws_FnExactMajorityOf.f
  by_cases c : (l.length : Int) > 1048576
  · exact Ev.pos c (Ev.now _)
  · refine Ev.neg c (Ev.bind (toInt64S l hl) (Ev.bind (majoritySpec l hl) (Ev.bind (toInt64S l hl) (Ev.bind (majorityImpl l hl) (Ev.pos rfl (Ev.succ ?_))))))
    simp only [laws_FnExactMajorityOf.j0]
    refine Ev.neg (by simp) (Ev.bind (toInt64S l hl) (Ev.bind (eqInt64S l l hl) (Ev.pos (by simp) (Ev.now _))))

end Go.Proofs.Ytffaliiaimodaaa.Pure

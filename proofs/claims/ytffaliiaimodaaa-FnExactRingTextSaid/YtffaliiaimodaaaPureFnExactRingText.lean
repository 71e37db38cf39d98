/- RingText of the program and of the reference answer the same for every list. -/
import Derived.Test.YtffaliiaimodaaaPFnExactRingTextx2
import Derived.Test.YtffaliiaimodaaaLib
namespace Go.Proofs.Ytffaliiaimodaaa.Pure
open Go.RowKit Go.Proofs.Ytffaliiaimodaaa.PFnExactRingText Go.Proofs.YtffaliiaimodaaaW.PrintWords Go.Proofs.YtffaliiaimodaaaW.PrintLast Go.Proofs.Ytffaliiaimodaaa.L

theorem toInt64S (l : List Int) (hl : l.length ≤ 35184372088832) : Ev (fun k => laws_toInt64S.f k l) l := by
  have main : ∀ d i : Nat, i + d = l.length → Ev (fun k => laws_toInt64S.l0 k l (l.take i ++ List.replicate (l.length - i) 0) i) l := by
    intro d
    induction d with
    | zero =>
      intro i hi
      refine Ev.succ ?_
      simp only [laws_toInt64S.l0]
      refine Ev.neg (by omega) ?_
      exact Ev.val (by rw [show l.length - i = 0 by omega, List.take_of_length_le (by omega)]; simp)
    | succ d ih =>
      intro i hi
      have hn : i < l.length := by omega
      refine Ev.succ ?_
      simp only [laws_toInt64S.l0]
      refine Ev.pos (by omega) (Ev.pos (by omega) (Ev.pos (by simp; omega) ?_))
      have := ih (i + 1) (by omega)
      rw [wrap_id (by omega) (by omega), Int.toNat_natCast, rd_lt l i hn, take_set_rep l i hn]
      exact this
  unfold laws_toInt64S.f
  refine Ev.pos (by omega) (Ev.pos (by omega) ?_)
  simpa using main l.length 0 (by omega)

theorem eqInt64S (l m : List Int) (hl : l.length ≤ 35184372088832) : Ev (fun k => laws_eqInt64S.f k l m) (decide (l = m)) := by
  unfold laws_eqInt64S.f
  by_cases h : l.length = m.length
  · refine Ev.pos (by omega) ?_
    have main : ∀ d i : Nat, i + d = l.length → (∀ j, j < i → l[j]? = m[j]?) → Ev (fun k => laws_eqInt64S.l0 k l m i) (decide (l = m)) := by
      intro d
      induction d with
      | zero =>
        intro i hi hj
        refine Ev.succ ?_
        simp only [laws_eqInt64S.l0]
        refine Ev.neg (by omega) (Ev.val ?_)
        have : l = m := List.ext_getElem? (fun j => by
          by_cases hjl : j < l.length
          · exact hj j (by omega)
          · rw [List.getElem?_eq_none (by omega), List.getElem?_eq_none (by omega)])
        simp [this]
      | succ d ih =>
        intro i hi hj
        refine Ev.succ ?_
        simp only [laws_eqInt64S.l0]
        refine Ev.pos (by omega) (Ev.pos (by omega) (Ev.pos (by omega) ?_))
        rw [rd_lt l i (by omega), rd_lt m i (by omega)]
        by_cases e : l[i] = m[i]
        · refine Ev.pos e ?_
          rw [wrap_id (by omega) (by omega)]
          have := ih (i + 1) (by omega) (fun j hj' => by
            by_cases hji : j < i
            · exact hj j hji
            · obtain rfl : j = i := by omega
              rw [List.getElem?_eq_getElem (by omega), List.getElem?_eq_getElem (by omega), e])
          exact this
        · refine Ev.neg e (Ev.val ?_)
          rw [eq_comm, Option.some.injEq, decide_eq_false_iff_not]
          rintro rfl
          exact e rfl
    simpa using main l.length 0 (by omega) (by omega)
  · refine Ev.neg (by omega) (Ev.val ?_)
    rw [eq_comm, Option.some.injEq, decide_eq_false_iff_not]
    rintro rfl
    exact h rfl

theorem l00In (a b c : Int) : spec_l00In.f a b c = some (decide (b ≤ a ∧ a ≤ c)) := by
  unfold spec_l00In.f
  by_cases h : a ≥ b
  · rw [if_pos h]; simp; omega
  · rw [if_neg h]; simp; omega

theorem within (a b c : Int) : impl_within.f a b c = some (decide (b ≤ a ∧ a ≤ c)) := by
  unfold impl_within.f
  by_cases h : a ≥ b
  · rw [if_pos h]; simp; omega
  · rw [if_neg h]; simp; omega

/-- All numbers of a list are from a to b. -/
def allIn (l : List Int) (a b : Int) : Bool := l.all fun x => decide (a ≤ x ∧ x ≤ b)

theorem allIn_false {l : List Int} {a b : Int} (i : Nat) (h : i < l.length) (hx : ¬ (a ≤ l[i] ∧ l[i] ≤ b)) : allIn l a b = false := by
  unfold allIn
  rw [List.all_eq_false]
  exact ⟨l[i], List.getElem_mem h, by simpa using hx⟩
theorem allIn_true {l : List Int} {a b : Int} (h : ∀ i, (hi : i < l.length) → a ≤ l[i] ∧ l[i] ≤ b) : allIn l a b = true := by
  unfold allIn
  rw [List.all_eq_true]
  intro x hx
  obtain ⟨i, hi, rfl⟩ := List.getElem_of_mem hx
  simpa using h i hi

theorem l02Ring (l : List Int) (s : Int) (hl : l.length ≤ 35184372088832) (h0 : -4611686018427387904 ≤ s) (h1 : s ≤ 4611686018427387904) : Ev (fun k => spec_l02Ring.f k l s) (allIn l 0 (s - 1) && decide (1 ≤ l.length ∧ l.length ≤ 64)) := by
  unfold spec_l02Ring.f
  have main : ∀ d i : Nat, i + d = l.length → (∀ j, (hj : j < l.length) → j < i → 0 ≤ l[j] ∧ l[j] ≤ s - 1) → Ev (fun k => spec_l02Ring.l0 k l s i) (allIn l 0 (s - 1) && decide (1 ≤ l.length ∧ l.length ≤ 64)) := by
    intro d
    induction d with
    | zero =>
      intro i hi hj
      refine Ev.succ ?_
      simp only [spec_l02Ring.l0]
      refine Ev.neg (by omega) ?_
      rw [allIn_true (fun j hj' => hj j hj' (by omega)), Bool.true_and]
      by_cases c : (l.length : Int) ≥ 1
      · exact Ev.pos c (Ev.val (congrArg some (decide_eq_decide.mpr (by omega))))
      · exact Ev.neg c (Ev.val (by rw [decide_eq_false (by omega)]))
    | succ d ih =>
      intro i hi hj
      refine Ev.succ ?_
      simp only [spec_l02Ring.l0]
      refine Ev.pos (by omega) (Ev.pos (by omega) ?_)
      have hsw : wrap64 (s - 1) = s - 1 := wrap_id (by omega) (by omega)
      rw [rd_lt l i (by omega), hsw, wrap_id (x := (i : Int) + 1) (by omega) (by omega), l00In]
      by_cases c : 0 ≤ l[i] ∧ l[i] ≤ s - 1
      · refine Ev.bnd rfl (Ev.pos (by simpa using c) ?_)
        have := ih (i + 1) (by omega) (fun j hj1 hj2 => by
          by_cases hji : j < i
          · exact hj j hj1 hji
          · obtain rfl : j = i := by omega
            exact c)
        exact this
      · refine Ev.bnd rfl (Ev.neg (by simpa using c) (Ev.val ?_))
        rw [allIn_false i (by omega) c]; rfl
  simpa using main l.length 0 (by omega) (by omega)

theorem areWithin (l : List Int) (a b : Int) (hl : l.length ≤ 35184372088832) : Ev (fun k => impl_areWithin.f k l a b) (allIn l a b) := by
  unfold impl_areWithin.f
  have main : ∀ d i : Nat, i + d = l.length → (∀ j, (hj : j < l.length) → j < i → a ≤ l[j] ∧ l[j] ≤ b) → Ev (fun k => impl_areWithin.l0 k a b l l.length i) (allIn l a b) := by
    intro d
    induction d with
    | zero =>
      intro i hi hj
      refine Ev.succ ?_
      simp only [impl_areWithin.l0]
      exact Ev.neg (by omega) (Ev.val (by rw [allIn_true (fun j hj' => hj j hj' (by omega))]))
    | succ d ih =>
      intro i hi hj
      refine Ev.succ ?_
      simp only [impl_areWithin.l0]
      refine Ev.pos (by omega) (Ev.pos (by omega) (Ev.pos (by omega) ?_))
      rw [rd_lt l i (by omega), wrap_id (by omega) (by omega), within]
      by_cases c : a ≤ l[i] ∧ l[i] ≤ b
      · refine Ev.bnd rfl (Ev.pos (by simpa using c) ?_)
        have := ih (i + 1) (by omega) (fun j hj1 hj2 => by
          by_cases hji : j < i
          · exact hj j hj1 hji
          · obtain rfl : j = i := by omega
            exact c)
        exact this
      · exact Ev.bnd rfl (Ev.neg (by simpa using c) (Ev.val (by rw [allIn_false i (by omega) c])))
  simpa using main l.length 0 (by omega) (by omega)

theorem areMany (l : List Int) (a b c d : Int) (hl : l.length ≤ 35184372088832) : Ev (fun k => impl_areMany.f k l a b c d) (decide (a ≤ l.length ∧ l.length ≤ b) && allIn l c d) := by
  unfold impl_areMany.f
  refine Ev.bnd (within _ _ _) ?_
  by_cases h : a ≤ l.length ∧ l.length ≤ b
  · refine Ev.pos (by simpa using h) (Ev.cast (Ev.bind (areWithin l c d hl) (Ev.now _)) (by simp [h]))
  · exact Ev.neg (by simpa using h) (Ev.val (by simp [h]))

theorem isRing3 (l : List Int) (hl : l.length ≤ 35184372088832) : Ev (fun k => impl_IsRing.f k l 3) (allIn l 0 2 && decide (1 ≤ l.length ∧ l.length ≤ 64)) := by
  unfold impl_IsRing.f
  refine Ev.bnd (a := true) rfl (Ev.pos rfl ?_)
  exact Ev.cast (Ev.bind (areMany l 1 64 0 (wrap64 (3 - 1)) hl) (Ev.now _)) (by
    rw [show wrap64 (3 - 1) = 2 from wrap_id (by omega) (by omega), Bool.and_comm]
    congr 1
    exact decide_eq_decide.mpr (by omega))

theorem digitsSpec (l : List Int) (hl : l.length ≤ 35184372088832) : Ev (fun k => spec_l08Digits.f k l) (strOfNums (l.map fun x => wrap64 (48 + x) % 256)) := by
  unfold spec_l08Digits.f
  have main : ∀ d i : Nat, i + d = l.length → Ev (fun k => spec_l08Digits.l0 k l ((l.take i).map fun x => wrap64 (48 + x) % 256) i) (strOfNums (l.map fun x => wrap64 (48 + x) % 256)) := by
    intro d
    induction d with
    | zero =>
      intro i hi
      refine Ev.succ ?_
      simp only [spec_l08Digits.l0]
      exact Ev.neg (by omega) (Ev.val (by rw [List.take_of_length_le (by omega)]))
    | succ d ih =>
      intro i hi
      refine Ev.succ ?_
      simp only [spec_l08Digits.l0]
      refine Ev.pos (by omega) (Ev.pos (by omega) (Ev.pos (by rw [List.length_map, List.length_take]; omega) ?_))
      have := ih (i + 1) (by omega)
      rw [List.take_succ_eq_append_getElem (by omega), List.map_append] at this
      rw [rd_lt l i (by omega), wrap_id (x := (i : Int) + 1) (by omega) (by omega)]
      exact this
  simpa using main l.length 0 (by omega)

theorem digitsImpl (l : List Int) (hl : l.length ≤ 35184372088832) : Ev (fun k => impl_digitText.f k l) (strOfNums (l.map fun x => wrap64 (48 + x) % 256)) := by
  unfold impl_digitText.f
  have main : ∀ d i : Nat, i + d = l.length → Ev (fun k => impl_digitText.l0 k ((l.take i).map fun x => wrap64 (48 + x) % 256) l l.length i) (strOfNums (l.map fun x => wrap64 (48 + x) % 256)) := by
    intro d
    induction d with
    | zero =>
      intro i hi
      refine Ev.succ ?_
      simp only [impl_digitText.l0]
      exact Ev.neg (by omega) (Ev.val (by rw [List.take_of_length_le (by omega)]))
    | succ d ih =>
      intro i hi
      refine Ev.succ ?_
      simp only [impl_digitText.l0]
      refine Ev.pos (by omega) (Ev.pos (by omega) (Ev.pos (by omega) (Ev.pos (by rw [List.length_map, List.length_take]; omega) ?_)))
      have := ih (i + 1) (by omega)
      rw [List.take_succ_eq_append_getElem (by omega), List.map_append] at this
      rw [rd_lt l i (by omega), wrap_id (x := (i : Int) + 1) (by omega) (by omega)]
      exact this
  simpa using main l.length 0 (by omega)

/-- What RingText answers. -/
def ringText (l : List Int) : ByteArray × Bool := if (allIn l 0 2 && decide (1 ≤ l.length ∧ l.length ≤ 64)) = true then (strOfNums (l.map fun x => wrap64 (48 + x) % 256), true) else (⟨#[]⟩, false)

theorem ringTextSpec (l : List Int) (hl : l.length ≤ 35184372088832) : Ev (fun k => spec_RingText.f k l) (ringText l) := by
  unfold spec_RingText.f ringText
  refine Ev.bind (l02Ring l 3 hl (by omega) (by omega)) ?_
  by_cases c : (allIn l 0 2 && decide (1 ≤ l.length ∧ l.length ≤ 64)) = true
  · exact Ev.pos c (Ev.cast (Ev.bind (digitsSpec l hl) (Ev.now _)) (by rw [if_pos c]))
  · exact Ev.neg c (Ev.val (by rw [if_neg c]))

theorem ringTextImpl (l : List Int) (hl : l.length ≤ 35184372088832) : Ev (fun k => impl_RingText.f k l) (ringText l) := by
  unfold impl_RingText.f ringText
  refine Ev.bind (isRing3 l hl) ?_
  by_cases c : (allIn l 0 2 && decide (1 ≤ l.length ∧ l.length ≤ 64)) = true
  · exact Ev.pos c (Ev.cast (Ev.bind (digitsImpl l hl) (Ev.now _)) (by rw [if_pos c]))
  · exact Ev.neg c (Ev.val (by rw [if_neg c]))

theorem FnExactRingText : laws_FnExactRingText.Pure := by
  intro l _ hs _
  have hl : l.length ≤ 35184372088832 := by omega
  refine Ev.rounds ?_
  unfold laws_FnExactRingText.f
  by_cases c : (l.length : Int) > 1048576
  · exact Ev.pos c (Ev.now _)
  · refine Ev.neg c (Ev.bind (toInt64S l hl) (Ev.bind (ringTextSpec l hl) (Ev.bind (toInt64S l hl) (Ev.bind (ringTextImpl l hl) (Ev.pos rfl (Ev.succ ?_))))))
    simp only [laws_FnExactRingText.j0]
    refine Ev.neg (by simp) (Ev.bind (toInt64S l hl) (Ev.bind (eqInt64S l l hl) (Ev.pos (by simp) (Ev.now _))))

end Go.Proofs.Ytffaliiaimodaaa.Pure

/- CrossRules of the program and of the reference answer the same for all arguments. -/
import Derived.Test.YtacjknmphgpjaaaPFnExactCrossRulesx0
import Derived.Test.YtacjknmphgpjaaaPFnExactCrossRulesx1
import Derived.Test.YtacjknmphgpjaaaPFnExactCrossRulesx2
import Derived.Test.YtacjknmphgpjaaaPFnExactCrossRulesx3
import Derived.Test.YtacjknmphgpjaaaPFnExactCrossRulesx4
import Derived.Test.YtacjknmphgpjaaaLib
namespace Go.Proofs.Ytacjknmphgpjaaa.Pure
open Go.RowKit Go.Proofs.Ytacjknmphgpjaaa.PFnExactCrossRules Go.Proofs.YtacjknmphgpjaaaW.PrintWords Go.Proofs.YtacjknmphgpjaaaW.PrintLast Go.Proofs.Ytacjknmphgpjaaa.L
set_option linter.unusedVariables false
set_option linter.unusedSimpArgs false

theorem szInt64S (l : List Int) (a : Int) (hl : l.length ≤ 35184372088832) (h0 : -1000000000000 ≤ a) (h1 : a ≤ 1000000000000) : laws_szInt64S.f l a = some (if a - l.length < 0 then -1 else a - l.length) := by
  unfold laws_szInt64S.f
  rw [wrap_id (x := a - l.length) (by omega) (by omega)]
  split <;> rfl

theorem szRule (s r : Int) (t : List Int) (a : Int) (hl : t.length ≤ 35184372088832) (h0 : 0 ≤ a) (h1 : a ≤ 1000000000) : laws_szRule.f s r t a = some (if a - t.length < 0 then -1 else a - t.length) := by
  unfold laws_szRule.f
  rw [szInt64S t a hl (by omega) (by omega)]
  by_cases c : a - (t.length : Int) < 0
  · rw [if_pos c]; rfl
  · rw [if_neg c]
    show (if _ then _ else _) = _
    rw [if_neg c]

theorem toInt64S (l : List Int) (hl : l.length ≤ 35184372088832) : Ev (fun k => laws_toInt64S.f k l) l := by
  unfold laws_toInt64S.f
  refine Ev.pos (by omega) (Ev.pos (by omega) ?_)
  refine Ev.cast (Ev.upto l.length (fun _ => True) (fun i => l.take i ++ List.replicate (l.length - i) 0) l (fun k s i => laws_toInt64S.l0 k l s i) (fun i hi _ ih => ?_) (fun _ => ?_) trivial) rfl
  · refine Ev.succ ?_
    simp only [laws_toInt64S.l0]
    refine Ev.pos (by omega) (Ev.pos (by omega) (Ev.pos (by simp; omega) ?_))
    rw [wrap_id (by omega) (by omega), Int.toNat_natCast, rd_lt l i hi, take_set_rep l i hi]
    exact ih trivial
  · refine Ev.succ ?_
    simp only [laws_toInt64S.l0]
    exact Ev.neg (by omega) (Ev.val (by simp))

theorem toRule (s r : Int) (t : List Int) (hl : t.length ≤ 35184372088832) : Ev (fun k => laws_toRule.f k s r t) (s, r, t) := by
  unfold laws_toRule.f
  exact Ev.bind (toInt64S t hl) (Ev.now _)

theorem eqInt64S (l m : List Int) (hl : l.length ≤ 35184372088832) : Ev (fun k => laws_eqInt64S.f k l m) (decide (l = m)) := by
  unfold laws_eqInt64S.f
  by_cases h : l.length = m.length
  · refine Ev.pos (by omega) ?_
    refine Ev.upto l.length (fun i => ∀ j, j < i → l[j]? = m[j]?) (fun _ => ()) _ (fun k _ i => laws_eqInt64S.l0 k l m i) (fun i hi hp ih => ?_) (fun hp => ?_) (fun j hj => by omega)
    · refine Ev.succ ?_
      simp only [laws_eqInt64S.l0]
      refine Ev.pos (by omega) (Ev.pos (by omega) (Ev.pos (by omega) ?_))
      rw [rd_lt l i (by omega), rd_lt m i (by omega)]
      by_cases e : l[i] = m[i]
      · refine Ev.pos e ?_
        rw [wrap_id (by omega) (by omega)]
        exact ih (fun j hj' => by
          by_cases hji : j < i
          · exact hp j hji
          · obtain rfl : j = i := by omega
            rw [List.getElem?_eq_getElem (by omega), List.getElem?_eq_getElem (by omega), e])
      · refine Ev.neg e (Ev.val ?_)
        rw [eq_comm, Option.some.injEq, decide_eq_false_iff_not]
        rintro rfl
        exact e rfl
    · refine Ev.succ ?_
      simp only [laws_eqInt64S.l0]
      refine Ev.neg (by omega) (Ev.val ?_)
      have : l = m := List.ext_getElem? (fun j => by
        by_cases hjl : j < l.length
        · exact hp j (by omega)
        · rw [List.getElem?_eq_none (by omega), List.getElem?_eq_none (by omega)])
      simp [this]
  · refine Ev.neg (by omega) (Ev.val ?_)
    rw [eq_comm, Option.some.injEq, decide_eq_false_iff_not]
    rintro rfl
    exact h rfl

theorem eqRule (s r : Int) (t : List Int) (s' r' : Int) (t' : List Int) (hl : t.length ≤ 35184372088832) : Ev (fun k => laws_eqRule.f k s r t s' r' t') (decide (s = s' ∧ r = r' ∧ t = t')) := by
  unfold laws_eqRule.f
  by_cases h1 : s = s'
  · refine Ev.pos h1 ?_
    by_cases h2 : r = r'
    · refine Ev.pos h2 (Ev.bind (eqInt64S t t' hl) ?_)
      by_cases h3 : t = t'
      · exact Ev.pos (by simpa using h3) (Ev.val (by simp [h1, h2, h3]))
      · exact Ev.neg (by simpa using h3) (Ev.val (by simp [h3]))
    · exact Ev.neg h2 (Ev.val (by simp [h2]))
  · exact Ev.neg h1 (Ev.val (by simp [h1]))

theorem markInt64S (l : List Int) (a : Int) (hl : l.length ≤ 35184372088832) (h0 : -1 ≤ a) (h1 : a ≤ 1000000000000) : Ev (fun k => laws_markInt64S.f k l a) (a + l.length, marks a l.length) := by
  unfold laws_markInt64S.f
  refine Ev.congr (fun k => ?_) (Ev.upto l.length (fun _ => True) (fun i => (marks a i ++ l.drop i, a + (i : Int))) (a + l.length, marks a l.length) (fun k s i => laws_markInt64S.l0 k s.1 s.2 i) (fun i hi _ ih => ?_) (fun _ => ?_) trivial)
  · simp [marks]
  · refine Ev.succ ?_
    simp only [laws_markInt64S.l0]
    refine Ev.pos (by rw [List.length_append, marks_length, List.length_drop]; omega) (Ev.pos (by omega) ?_)
    rw [wrap_id (x := (i : Int) + 1) (by omega) (by omega), wrap_id (x := a + (i : Int) + 1) (by omega) (by omega), Int.toNat_natCast, marks_step a l i hi]
    have := ih trivial
    rw [show a + ((i + 1 : Nat) : Int) = a + (i : Int) + 1 by omega] at this
    exact this
  · refine Ev.succ ?_
    simp only [laws_markInt64S.l0]
    have e : marks a l.length ++ l.drop l.length = marks a l.length := by rw [List.drop_length, List.append_nil]
    rw [e]
    exact Ev.neg (by rw [marks_length]; omega) (Ev.now _)

theorem heldInt64S (n : Nat) (a : Int) (hl : n ≤ 35184372088832) (h0 : -1 ≤ a) (h1 : a ≤ 1000000000000) : Ev (fun k => laws_heldInt64S.f k (marks a n) a) (a + n) := by
  unfold laws_heldInt64S.f
  refine Ev.congr (fun k => ?_) (Ev.upto n (fun _ => True) (fun i => a + (i : Int)) (a + n) (fun k s i => laws_heldInt64S.l0 k (marks a n) s i) (fun i hi _ ih => ?_) (fun _ => ?_) trivial)
  · simp
  · refine Ev.succ ?_
    simp only [laws_heldInt64S.l0]
    refine Ev.pos (by rw [marks_length]; omega) (Ev.pos (by omega) (Ev.pos ?_ ?_))
    · rw [rd_lt _ i (by rw [marks_length]; exact hi), marks_get a n i hi]
    · rw [wrap_id (x := (i : Int) + 1) (by omega) (by omega), wrap_id (x := a + (i : Int) + 1) (by omega) (by omega)]
      have := ih trivial
      rw [show a + ((i + 1 : Nat) : Int) = a + (i : Int) + 1 by omega] at this
      exact this
  · refine Ev.succ ?_
    simp only [laws_heldInt64S.l0]
    exact Ev.neg (by rw [marks_length]; omega) (Ev.val rfl)

theorem markRule (s r : Int) (t : List Int) (a : Int) (hl : t.length ≤ 35184372088832) (h0 : -1 ≤ a) (h1 : a ≤ 1000000000000) : Ev (fun k => laws_markRule.f k s r t a) (a + t.length, marks a t.length) := by
  unfold laws_markRule.f
  exact Ev.bind (markInt64S t a hl h0 h1) (Ev.now _)
theorem heldRule (s r : Int) (n : Nat) (a : Int) (hl : n ≤ 35184372088832) (h0 : 0 ≤ a) (h1 : a ≤ 1000000000000) : Ev (fun k => laws_heldRule.f k s r (marks a n) a) (a + n) := by
  unfold laws_heldRule.f
  exact Ev.bind (heldInt64S n a hl (by omega) h1) (Ev.neg (by omega) (Ev.now _))

theorem l00In (a b c : Int) : spec_l00In.f a b c = some (decide (b ≤ a ∧ a ≤ c)) := by
  unfold spec_l00In.f
  by_cases h : a ≥ b
  · rw [if_pos h]; simp; omega
  · rw [if_neg h]; simp; omega

theorem l02Powers (x n : Int) (h0 : 0 ≤ x) (h1 : x ≤ 10) (hn0 : 0 ≤ n) (hn : n ≤ 12) : Ev (fun k => spec_l02Powers.f k x n) (x ^ n.toNat) := by
  unfold spec_l02Powers.f
  obtain ⟨m, rfl⟩ := Int.eq_ofNat_of_zero_le hn0
  have main : ∀ d i : Nat, i + d = m → Ev (fun k => spec_l02Powers.l0 k x (d : Int) (x ^ i)) (x ^ m) := by
    intro d
    induction d with
    | zero =>
      intro i hi
      refine Ev.succ ?_
      simp only [spec_l02Powers.l0]
      exact Ev.neg (by omega) (Ev.val (by rw [show i = m by omega]))
    | succ d ih =>
      intro i hi
      refine Ev.succ ?_
      simp only [spec_l02Powers.l0]
      have hb := pow_bound x (i + 1) h0 h1 (by omega)
      rw [Int.pow_succ] at hb
      refine Ev.pos (by omega) ?_
      rw [wrap_id (x := ((d + 1 : Nat) : Int) - 1) (by omega) (by omega), wrap_id (x := x ^ i * x) (by omega) (by omega), ← Int.pow_succ, show ((d + 1 : Nat) : Int) - 1 = (d : Int) by omega]
      exact ih (i + 1) (by omega)
  have := main m 0 (by omega)
  rw [Int.pow_zero] at this
  exact this

theorem l02Is (s r : Int) (t : List Int) (hl : t.length ≤ 35184372088832) : Ev (fun k => spec_l02Is.f k s r t) (validRule s r t) := by
  unfold spec_l02Is.f validRule
  refine Ev.bnd (l00In s 2 3) ?_
  by_cases hs : 2 ≤ s ∧ s ≤ 3
  · refine Ev.pos (by simpa using hs) (Ev.bnd (l00In r 0 2) ?_)
    by_cases hr : 0 ≤ r ∧ r ≤ 2
    · refine Ev.pos (by simpa using hr) ?_
      rw [wrap_id (x := 2 * r) (by omega) (by omega), wrap_id (x := 2 * r + 1) (by omega) (by omega)]
      refine Ev.bind (l02Powers s (2 * r + 1) (by omega) (by omega) (by omega) (by omega)) (Ev.succ ?_)
      simp only [spec_l02Is.j0]
      by_cases hn : (t.length : Int) = s ^ (2 * r + 1).toNat
      · refine Ev.neg (by simp [hn]) ?_
        rw [decide_eq_true hs, decide_eq_true hr, decide_eq_true hn, Bool.true_and, Bool.true_and, Bool.true_and]
        refine Ev.upto t.length (fun i => ∀ j, (hj : j < t.length) → j < i → 0 ≤ t[j] ∧ t[j] ≤ s - 1) (fun _ => ()) _ (fun k _ i => spec_l02Is.l0 k i s r t) (fun i hi hp ih => ?_) (fun hp => ?_) (fun j hj h => by omega)
        · refine Ev.succ ?_
          simp only [spec_l02Is.l0]
          refine Ev.pos (by omega) (Ev.pos (by omega) ?_)
          rw [rd_lt t i (by omega), wrap_id (x := s - 1) (by omega) (by omega), wrap_id (x := (i : Int) + 1) (by omega) (by omega)]
          refine Ev.bnd (l00In _ _ _) ?_
          by_cases c : 0 ≤ t[i] ∧ t[i] ≤ s - 1
          · exact Ev.pos (by simpa using c) (ih (upTo_succ (p := fun x => 0 ≤ x ∧ x ≤ s - 1) hi hp c))
          · exact Ev.neg (by simpa using c) (Ev.val (by rw [allIn_false i (by omega) c]))
        · refine Ev.succ ?_
          simp only [spec_l02Is.l0]
          exact Ev.neg (by omega) (Ev.val (by rw [allIn_true (fun j hj' => hp j hj' (by omega))]))
      · exact Ev.pos (by simp [hn]) (Ev.val (by simp [hn]))
    · refine Ev.neg (by simpa using hr) (Ev.succ ?_)
      simp only [spec_l02Is.j0]
      exact Ev.pos (by trivial) (Ev.val (by simp [hr]))
  · refine Ev.neg (by simpa using hs) (Ev.succ ?_)
    simp only [spec_l02Is.j0]
    exact Ev.pos (by trivial) (Ev.val (by simp [hs]))

theorem l07Two (s r : Int) (t : List Int) (hl : t.length ≤ 35184372088832) : Ev (fun k => spec_l07Two.f k s r t) (validRule s r t && decide (s = 2)) := by
  unfold spec_l07Two.f
  refine Ev.bind (l02Is s r t hl) ?_
  by_cases c : validRule s r t = true
  · exact Ev.pos c (Ev.val (by rw [c, Bool.true_and]; rfl))
  · exact Ev.neg c (Ev.val (by rw [Bool.eq_false_iff.mpr c, Bool.false_and]))

theorem within (a b c : Int) : impl_within.f a b c = some (decide (b ≤ a ∧ a ≤ c)) := by
  unfold impl_within.f
  by_cases h : a ≥ b
  · rw [if_pos h]; simp; omega
  · rw [if_neg h]; simp; omega

theorem areWithin (l : List Int) (a b : Int) (hl : l.length ≤ 35184372088832) : Ev (fun k => impl_areWithin.f k l a b) (allIn l a b) := by
  unfold impl_areWithin.f
  refine Ev.upto l.length (fun i => ∀ j, (hj : j < l.length) → j < i → a ≤ l[j] ∧ l[j] ≤ b) (fun _ => ()) _ (fun k _ i => impl_areWithin.l0 k a b l l.length i) (fun i hi hp ih => ?_) (fun hp => ?_) (fun j hj h => by omega)
  · refine Ev.succ ?_
    simp only [impl_areWithin.l0]
    refine Ev.pos (by omega) (Ev.pos (by omega) (Ev.pos (by omega) ?_))
    rw [rd_lt l i (by omega), wrap_id (by omega) (by omega), within]
    by_cases c : a ≤ l[i] ∧ l[i] ≤ b
    · exact Ev.bnd rfl (Ev.pos (by simpa using c) (ih (upTo_succ (p := fun x => a ≤ x ∧ x ≤ b) hi hp c)))
    · exact Ev.bnd rfl (Ev.neg (by simpa using c) (Ev.val (by rw [allIn_false i (by omega) c])))
  · refine Ev.succ ?_
    simp only [impl_areWithin.l0]
    exact Ev.neg (by omega) (Ev.val (by rw [allIn_true (fun j hj' => hp j hj' (by omega))]))

theorem areMany (l : List Int) (a b c d : Int) (hl : l.length ≤ 35184372088832) : Ev (fun k => impl_areMany.f k l a b c d) (decide (a ≤ l.length ∧ l.length ≤ b) && allIn l c d) := by
  unfold impl_areMany.f
  refine Ev.bnd (within _ _ _) ?_
  by_cases h : a ≤ l.length ∧ l.length ≤ b
  · refine Ev.pos (by simpa using h) (Ev.cast (Ev.bind (areWithin l c d hl) (Ev.now _)) (by simp [h]))
  · exact Ev.neg (by simpa using h) (Ev.val (by simp [h]))

theorem areStates (s : Int) : impl_areStates.f s = some (decide (s = 2 ∨ s = 3)) := by
  unfold impl_areStates.f
  by_cases h : s = 2
  · rw [if_pos h]; simp [h]
  · rw [if_neg h]
    by_cases h3 : s = 3
    · subst h3; rfl
    · simp [h, h3]

theorem raised (x n : Int) (h0 : 0 ≤ x) (h1 : x ≤ 10) (hn0 : 0 ≤ n) (hn : n ≤ 12) : Ev (fun k => impl_raised.f k x n) (x ^ n.toNat) := by
  unfold impl_raised.f
  obtain ⟨m, rfl⟩ := Int.eq_ofNat_of_zero_le hn0
  rw [Int.toNat_natCast]
  refine Ev.congr (fun k => ?_) (Ev.upto m (fun _ => True) (fun i => x ^ i) (x ^ m) (fun k s i => impl_raised.l0 k x s m i) (fun i hi _ ih => ?_) (fun _ => ?_) trivial)
  · rw [Int.pow_zero]
  · refine Ev.succ ?_
    simp only [impl_raised.l0]
    have hb := pow_bound x (i + 1) h0 h1 (by omega)
    rw [Int.pow_succ] at hb
    refine Ev.pos (by omega) ?_
    rw [wrap_id (x := (i : Int) + 1) (by omega) (by omega), wrap_id (x := x ^ i * x) (by omega) (by omega), ← Int.pow_succ]
    exact ih trivial
  · refine Ev.succ ?_
    simp only [impl_raised.l0]
    exact Ev.neg (by omega) (Ev.now _)

theorem isReach (r : Int) : impl_isReach.f r = some (decide (0 ≤ r ∧ r ≤ 2)) := by
  unfold impl_isReach.f
  rw [within]; rfl
theorem ruleCells (s r : Int) (t : List Int) (h0 : 0 ≤ r) (h1 : r ≤ 2) : impl_Rule_cells.f s r t = some (2 * r + 1) := by
  unfold impl_Rule_cells.f
  rw [wrap_id (x := 2 * r) (by omega) (by omega), wrap_id (x := 2 * r + 1) (by omega) (by omega)]
theorem ValidRule (s r : Int) (t : List Int) (hl : t.length ≤ 35184372088832) : Ev (fun k => impl_ValidRule.f k s r t) (validRule s r t) := by
  unfold impl_ValidRule.f validRule
  refine Ev.bnd (areStates s) ?_
  by_cases hs : 2 ≤ s ∧ s ≤ 3
  · refine Ev.pos (by simp; omega) (Ev.bnd (isReach r) (Ev.succ ?_))
    simp only [impl_ValidRule.j0]
    by_cases hr : 0 ≤ r ∧ r ≤ 2
    · refine Ev.neg (by simpa using hr) (Ev.bnd (ruleCells s r t hr.1 hr.2) (Ev.bind (raised s (2 * r + 1) (by omega) (by omega) (by omega) (by omega)) ?_))
      rw [wrap_id (x := s - 1) (by omega) (by omega)]
      refine Ev.cast (Ev.bind (areMany t _ _ 0 (s - 1) hl) (Ev.now _)) ?_
      rw [decide_eq_true hs, decide_eq_true hr, Bool.true_and, Bool.true_and]
      congr 1
      exact decide_eq_decide.mpr (by omega)
    · exact Ev.pos (by simp; omega) (Ev.val (by simp [hr]))
  · refine Ev.neg (by simp; omega) (Ev.succ ?_)
    simp only [impl_ValidRule.j0]
    exact Ev.pos (by trivial) (Ev.val (by simp [hs]))

theorem growNil (n : Int) (h0 : 0 ≤ n) (h1 : n ≤ 1000000000000) : slices_Grow_int64_int64_nil.f n = some [] := by
  unfold slices_Grow_int64_int64_nil.f
  rw [if_neg (by omega), wrap_id (x := n) (by omega) (by omega)]
  by_cases c : n > 0
  · rw [if_pos c, if_pos (by omega), if_pos (by rw [List.length_nil]; omega)]
    simp
  · rw [if_neg c]
theorem concatTwo (a b : List Int) (ha : a.length ≤ 100000000000) (hb : b.length ≤ 100000000000) : Ev (fun k => slices_Concat_int64_int64.f k [a, b]) (a ++ b) := by
  unfold slices_Concat_int64_int64.f
  have e0 : rd_L1 [a, b] 0 = a := rfl
  have e1 : rd_L1 [a, b] 1 = b := rfl
  refine Ev.succ ?_
  simp only [slices_Concat_int64_int64.l0]
  rw [e0, wrap_id (x := 0 + (a.length : Int)) (by omega) (by omega), wrap_id (x := (0 : Int) + 1) (by omega) (by omega)]
  refine Ev.pos (by simp) (Ev.pos (by omega) (Ev.pos (by simp) (Ev.neg (by omega) (Ev.succ ?_))))
  simp only [slices_Concat_int64_int64.l0]
  rw [show (0 : Int) + 1 = 1 from rfl, e1, wrap_id (x := 0 + (a.length : Int) + (b.length : Int)) (by omega) (by omega), wrap_id (x := (1 : Int) + 1) (by omega) (by omega)]
  refine Ev.pos (by simp) (Ev.pos (by omega) (Ev.pos (by simp) (Ev.neg (by omega) (Ev.succ ?_))))
  simp only [slices_Concat_int64_int64.l0]
  refine Ev.neg (by simp) (Ev.bnd (growNil _ (by omega) (by omega)) (Ev.succ ?_))
  simp only [slices_Concat_int64_int64.l1]
  rw [e0, wrap_id (x := (0 : Int) + 1) (by omega) (by omega)]
  refine Ev.pos (by simp) (Ev.pos (by omega) (Ev.pos (by simp) (Ev.pos (by simp; omega) (Ev.succ ?_))))
  simp only [slices_Concat_int64_int64.l1]
  rw [show (0 : Int) + 1 = 1 from rfl, e1, wrap_id (x := (1 : Int) + 1) (by omega) (by omega)]
  refine Ev.pos (by simp) (Ev.pos (by omega) (Ev.pos (by simp) (Ev.pos (by simp; omega) (Ev.succ ?_))))
  simp only [slices_Concat_int64_int64.l1]
  exact Ev.neg (by simp) (Ev.val (by simp))

/-- What CrossRules answers. -/
def crossRules (s r : Int) (t : List Int) (s' r' : Int) (t' : List Int) (p : Int) : Int × Int × List Int × Bool :=
  if ((validRule s r t && decide (s = 2)) && (validRule s' r' t' && decide (s' = 2)) && decide (r = r') && decide (0 ≤ p ∧ p ≤ (t.length : Int))) = true then (2, r, t.take p.toNat ++ t'.drop p.toNat, true) else (0, 0, [], false)
theorem valid_len {s r : Int} {t : List Int} (h : validRule s r t = true) : 0 < t.length ∧ t.length ≤ 1000000 := by
  unfold validRule at h
  simp only [Bool.and_eq_true, decide_eq_true_eq] at h
  obtain ⟨⟨⟨hs, hr⟩, hn⟩, _⟩ := h
  have : r = 0 ∨ r = 1 ∨ r = 2 := by omega
  have : s = 2 ∨ s = 3 := by omega
  rcases ‹r = 0 ∨ r = 1 ∨ r = 2› with rfl | rfl | rfl <;> rcases ‹s = 2 ∨ s = 3› with rfl | rfl <;> simp at hn <;> omega
theorem same_len {r : Int} {t t' : List Int} (h : validRule 2 r t = true) (h' : validRule 2 r t' = true) : t.length = t'.length := by
  unfold validRule at h h'
  simp only [Bool.and_eq_true, decide_eq_true_eq] at h h'
  have := h.1.2
  have := h'.1.2
  omega
theorem crossSpec (r : Int) (t t' : List Int) (p : Int) (ht : t.length = t'.length) (hl : t.length ≤ 1000000) (h0 : 0 ≤ p) (h1 : p ≤ (t.length : Int)) : Ev (fun k => spec_l07Cross.f k 2 r t 2 r t' p) (2, r, t.take p.toNat ++ t'.drop p.toNat) := by
  obtain ⟨n, rfl⟩ := Int.eq_ofNat_of_zero_le h0
  unfold spec_l07Cross.f
  refine Ev.bnd (a := (2, r, t')) (by unfold spec_l02Own.f; simp only [Option.bind_some]; rw [if_pos (by simp; omega)]; simp) ?_
  rw [Int.toNat_natCast]
  refine Ev.congr (fun k => ?_) (Ev.upto n (fun _ => True) (fun i => t.take i ++ t'.drop i) (2, r, t.take n ++ t'.drop n) (fun k s i => spec_l07Cross.l0 k n i 2 r t 2 r s) (fun i hi _ ih => ?_) (fun _ => ?_) trivial)
  · simp
  · refine Ev.succ ?_
    simp only [spec_l07Cross.l0]
    have hit : i < t.length := by omega
    refine Ev.pos (by omega) (Ev.pos (by omega) (Ev.pos (by omega) (Ev.pos (by rw [List.length_append, List.length_take, List.length_drop]; omega) ?_)))
    rw [wrap_id (x := (i : Int) + 1) (by omega) (by omega), Int.toNat_natCast, rd_lt t i hit, take_drop_set t t' i hit ht]
    exact ih trivial
  · refine Ev.succ ?_
    simp only [spec_l07Cross.l0]
    exact Ev.neg (by omega) (Ev.now _)
theorem crossImpl (r : Int) (t t' : List Int) (p : Int) (ht : t.length = t'.length) (hl : t.length ≤ 1000000) (h0 : 0 ≤ p) (h1 : p ≤ (t.length : Int)) : Ev (fun k => impl_crossed.f k 2 r t 2 r t' p) (2, r, t.take p.toNat ++ t'.drop p.toNat) := by
  unfold impl_crossed.f
  refine Ev.pos h0 (Ev.pos h1 (Ev.pos (by omega) (Ev.bind (concatTwo _ _ (by rw [List.length_take]; omega) (by rw [List.length_drop]; omega)) (Ev.now _))))
theorem crossRulesSpec (s r : Int) (t : List Int) (s' r' : Int) (t' : List Int) (p : Int) (hl : t.length ≤ 35184372088832) (hl' : t'.length ≤ 35184372088832) : Ev (fun k => spec_CrossRules.f k s r t s' r' t' p) (crossRules s r t s' r' t' p) := by
  unfold spec_CrossRules.f crossRules
  refine Ev.bind (l07Two s r t hl) ?_
  by_cases c : (validRule s r t && decide (s = 2)) = true
  · rw [c, Bool.true_and]
    refine Ev.pos (by trivial) (Ev.bind (l07Two s' r' t' hl') ?_)
    by_cases c' : (validRule s' r' t' && decide (s' = 2)) = true
    · rw [c', Bool.true_and]
      refine Ev.pos (by trivial) ?_
      by_cases hr : r = r'
      · rw [decide_eq_true hr, Bool.true_and]
        refine Ev.pos hr (Ev.bnd (l00In p 0 _) ?_)
        by_cases hp : 0 ≤ p ∧ p ≤ (t.length : Int)
        · rw [decide_eq_true hp, if_pos rfl]
          rw [Bool.and_eq_true, decide_eq_true_eq] at c c'
          obtain ⟨c, rfl⟩ := c
          obtain ⟨c', rfl⟩ := c'
          subst hr
          have h1 := same_len c c'
          have h2 := valid_len c
          exact Ev.pos (by trivial) (Ev.bind (crossSpec r t t' p h1 h2.2 hp.1 hp.2) (Ev.now _))
        · rw [decide_eq_false hp]
          exact Ev.neg (by simp) (Ev.val (by simp))
      · rw [decide_eq_false hr]
        exact Ev.neg hr (Ev.val (by simp))
    · rw [Bool.eq_false_iff.mpr c']
      exact Ev.neg (by simp) (Ev.val (by simp))
  · rw [Bool.eq_false_iff.mpr c]
    exact Ev.neg (by simp) (Ev.val (by simp))
theorem crossRulesImpl (s r : Int) (t : List Int) (s' r' : Int) (t' : List Int) (p : Int) (hl : t.length ≤ 35184372088832) (hl' : t'.length ≤ 35184372088832) : Ev (fun k => impl_CrossRules.f k s r t s' r' t' p) (crossRules s r t s' r' t' p) := by
  unfold impl_CrossRules.f crossRules
  refine Ev.bind (ValidRule s r t hl) ?_
  by_cases c : validRule s r t = true
  · rw [c, Bool.true_and]
    refine Ev.pos (by trivial) (Ev.bind (ValidRule s' r' t' hl') ?_)
    by_cases c' : validRule s' r' t' = true
    · rw [c', Bool.true_and]
      refine Ev.pos (by trivial) ?_
      by_cases h2 : s = 2
      · rw [decide_eq_true h2, Bool.true_and]
        refine Ev.pos h2 ?_
        by_cases h2' : s' = 2
        · rw [decide_eq_true h2', Bool.true_and]
          refine Ev.pos h2' ?_
          by_cases hr : r = r'
          · rw [decide_eq_true hr, Bool.true_and]
            refine Ev.pos hr (Ev.bnd (within p 0 _) ?_)
            by_cases hp : 0 ≤ p ∧ p ≤ (t.length : Int)
            · rw [decide_eq_true hp, if_pos rfl]
              subst h2 h2' hr
              have h1 := same_len c c'
              have h3 := valid_len c
              exact Ev.pos (by trivial) (Ev.bind (crossImpl r t t' p h1 h3.2 hp.1 hp.2) (Ev.now _))
            · rw [decide_eq_false hp]
              exact Ev.neg (by simp) (Ev.val (by simp))
          · rw [decide_eq_false hr]
            exact Ev.neg hr (Ev.val (by simp))
        · rw [decide_eq_false h2']
          exact Ev.neg h2' (Ev.val (by simp))
      · rw [decide_eq_false h2]
        exact Ev.neg h2 (Ev.val (by simp))
    · rw [Bool.eq_false_iff.mpr c']
      exact Ev.neg (by simp) (Ev.val (by simp))
  · rw [Bool.eq_false_iff.mpr c]
    exact Ev.neg (by simp) (Ev.val (by simp))
theorem crossRules_len (s r : Int) (t : List Int) (s' r' : Int) (t' : List Int) (p : Int) : (crossRules s r t s' r' t' p).2.2.1.length ≤ t.length + t'.length := by
  unfold crossRules
  split
  · simp only [List.length_append, List.length_take, List.length_drop]; omega
  · simp
theorem FnExactCrossRules : laws_FnExactCrossRules.Pure := by
  intro s r t s' r' t' p _ _ hz _ _ hz' _
  have hl : t.length ≤ 17592186044415 := by omega
  have hl' : t'.length ≤ 17592186044415 := by omega
  have hm := crossRules_len s r t s' r' t' p
  refine Ev.rounds ?_
  unfold laws_FnExactCrossRules.f
  refine Ev.bnd (szRule s r t _ (by omega) (by omega) (by omega)) ?_
  by_cases c : (1048576 : Int) - (t.length : Int) < 0
  · rw [if_pos c]
    exact Ev.pos (by omega) (Ev.now _)
  · rw [if_neg c]
    refine Ev.neg c (Ev.bnd (szRule s' r' t' _ (by omega) (by omega) (by omega)) ?_)
    by_cases c' : (1048576 : Int) - (t.length : Int) - (t'.length : Int) < 0
    · rw [if_pos c']
      exact Ev.pos (by omega) (Ev.now _)
    · rw [if_neg c']
      refine Ev.neg c' (Ev.bind (toRule s r t (by omega)) (Ev.bind (toRule s' r' t' (by omega)) (Ev.bind (crossRulesSpec s r t s' r' t' p (by omega) (by omega)) (Ev.bind (toRule s r t (by omega)) (Ev.bind (toRule s' r' t' (by omega)) (Ev.bind (crossRulesImpl s r t s' r' t' p (by omega) (by omega)) (Ev.bind (eqRule _ _ _ _ _ _ (by omega)) (Ev.pos (by simp) (Ev.succ ?_)))))))))
      simp only [laws_FnExactCrossRules.j0]
      refine Ev.neg (by simp) (Ev.bind (toRule s r t (by omega)) (Ev.bind (eqRule _ _ _ _ _ _ (by omega)) (Ev.pos (by simp) (Ev.bind (toRule s' r' t' (by omega)) (Ev.bind (eqRule _ _ _ _ _ _ (by omega)) (Ev.pos (by simp) (Ev.bind (markRule _ _ _ 1 (by omega) (by omega) (by omega)) (Ev.bind (markRule _ _ _ _ (by omega) (by show -1 ≤ 1 + (t.length : Int); omega) (by show 1 + (t.length : Int) ≤ _; omega)) (Ev.neg (by show ¬ (1 + (t.length : Int) + (t'.length : Int)) < 0; omega) (Ev.bind (eqRule _ _ _ _ _ _ (by omega)) (Ev.pos (by simp) (Ev.succ ?_))))))))))))
      simp only [laws_FnExactCrossRules.j1]
      refine Ev.neg (by simp) (Ev.bind (markRule _ _ _ 1 (by omega) (by omega) (by omega)) (Ev.bind (heldRule _ _ _ 1 (by omega) (by omega) (by omega)) (Ev.neg (by omega) (Ev.pos (by trivial) (Ev.bind (toRule s r t (by omega)) (Ev.bind (toRule s' r' t' (by omega)) (Ev.bind (crossRulesImpl s r t s' r' t' p (by omega) (by omega)) (Ev.bind (eqRule _ _ _ _ _ _ (by omega)) (Ev.pos (by simp) (Ev.succ ?_))))))))))
      simp only [laws_FnExactCrossRules.j2]
      exact Ev.neg (by simp) (Ev.bind (heldRule _ _ _ 1 (by omega) (by omega) (by omega)) (Ev.neg (by omega) (Ev.pos (by trivial) (Ev.now _))))

end Go.Proofs.Ytacjknmphgpjaaa.Pure

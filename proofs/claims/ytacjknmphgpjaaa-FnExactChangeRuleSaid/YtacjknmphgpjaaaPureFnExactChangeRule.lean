/- ChangeRule of the program and of the reference answer the same for all arguments. -/
import Derived.Test.YtacjknmphgpjaaaPFnExactChangeRulex0
import Derived.Test.YtacjknmphgpjaaaPFnExactChangeRulex1
import Derived.Test.YtacjknmphgpjaaaPFnExactChangeRulex2
import Derived.Test.YtacjknmphgpjaaaPFnExactChangeRulex3
import Derived.Test.YtacjknmphgpjaaaPFnExactChangeRulex4
import Derived.Test.YtacjknmphgpjaaaPFnExactChangeRulex5
import Derived.Test.YtacjknmphgpjaaaPFnExactChangeRulex6
import Derived.Test.YtacjknmphgpjaaaLib
namespace Go.Proofs.Ytacjknmphgpjaaa.Pure
open Go.RowKit Go.Proofs.Ytacjknmphgpjaaa.PFnExactChangeRule Go.Proofs.YtacjknmphgpjaaaW.PrintWords Go.Proofs.YtacjknmphgpjaaaW.PrintLast Go.Proofs.Ytacjknmphgpjaaa.L
set_option linter.unusedVariables false
set_option linter.unusedSimpArgs false

theorem szInt64S (l : List Int) (a : Int) (hl : l.length ≤ 35184372088832) (h0 : -1000000000000 ≤ a) (h1 : a ≤ 1000000000000) : laws_szInt64S.f l a = some (if a - l.length < 0 then -1 else a - l.length) := by
  unfold laws_szInt64S.f
  rw [wrap_id (x := a - l.length) (by omega) (by omega)]
  split <;> rfl

theorem szRule (s r : Int) (t : List Int) (a : Int) (hl : t.length ≤ 35184372088832) (h0 : 0 ≤ a) (h1 : a ≤ 1000000000) : laws_szRule.f s r t a = some (if a - t.length < 0 then -1 else a - t.length) := by
  unfold laws_szRule.f
  rw [szInt64S t a hl (by omega) (by omega)]
  by_cases c : a - (t.length : Int) < 0
  · rw [if_pos c]; rfl
  · rw [if_neg c]
    show (if _ then _ else _) = _
    rw [if_neg c]

theorem toInt64S (l : List Int) (hl : l.length ≤ 35184372088832) : Ev (fun k => laws_toInt64S.f k l) l := by
  unfold laws_toInt64S.f
  refine Ev.pos (by omega) (Ev.pos (by omega) ?_)
  refine Ev.cast (Ev.upto l.length (fun _ => True) (fun i => l.take i ++ List.replicate (l.length - i) 0) l (fun k s i => laws_toInt64S.l0 k l s i) (fun i hi _ ih => ?_) (fun _ => ?_) trivial) rfl
  · refine Ev.succ ?_
    simp only [laws_toInt64S.l0]
    refine Ev.pos (by omega) (Ev.pos (by omega) (Ev.pos (by simp; omega) ?_))
    rw [wrap_id (by omega) (by omega), Int.toNat_natCast, rd_lt l i hi, take_set_rep l i hi]
    exact ih trivial
  · refine Ev.succ ?_
    simp only [laws_toInt64S.l0]
    exact Ev.neg (by omega) (Ev.val (by simp))

theorem toRule (s r : Int) (t : List Int) (hl : t.length ≤ 35184372088832) : Ev (fun k => laws_toRule.f k s r t) (s, r, t) := by
  unfold laws_toRule.f
  exact Ev.bind (toInt64S t hl) (Ev.now _)

theorem eqInt64S (l m : List Int) (hl : l.length ≤ 35184372088832) : Ev (fun k => laws_eqInt64S.f k l m) (decide (l = m)) := by
  unfold laws_eqInt64S.f
  by_cases h : l.length = m.length
  · refine Ev.pos (by omega) ?_
    refine Ev.upto l.length (fun i => ∀ j, j < i → l[j]? = m[j]?) (fun _ => ()) _ (fun k _ i => laws_eqInt64S.l0 k l m i) (fun i hi hp ih => ?_) (fun hp => ?_) (fun j hj => by omega)
    · refine Ev.succ ?_
      simp only [laws_eqInt64S.l0]
      refine Ev.pos (by omega) (Ev.pos (by omega) (Ev.pos (by omega) ?_))
      rw [rd_lt l i (by omega), rd_lt m i (by omega)]
      by_cases e : l[i] = m[i]
      · refine Ev.pos e ?_
        rw [wrap_id (by omega) (by omega)]
        exact ih (fun j hj' => by
          by_cases hji : j < i
          · exact hp j hji
          · obtain rfl : j = i := by omega
            rw [List.getElem?_eq_getElem (by omega), List.getElem?_eq_getElem (by omega), e])
      · refine Ev.neg e (Ev.val ?_)
        rw [eq_comm, Option.some.injEq, decide_eq_false_iff_not]
        rintro rfl
        exact e rfl
    · refine Ev.succ ?_
      simp only [laws_eqInt64S.l0]
      refine Ev.neg (by omega) (Ev.val ?_)
      have : l = m := List.ext_getElem? (fun j => by
        by_cases hjl : j < l.length
        · exact hp j (by omega)
        · rw [List.getElem?_eq_none (by omega), List.getElem?_eq_none (by omega)])
      simp [this]
  · refine Ev.neg (by omega) (Ev.val ?_)
    rw [eq_comm, Option.some.injEq, decide_eq_false_iff_not]
    rintro rfl
    exact h rfl

theorem markInt64S (l : List Int) (a : Int) (hl : l.length ≤ 35184372088832) (h0 : -1 ≤ a) (h1 : a ≤ 1000000000000) : Ev (fun k => laws_markInt64S.f k l a) (a + l.length, marks a l.length) := by
  unfold laws_markInt64S.f
  refine Ev.congr (fun k => ?_) (Ev.upto l.length (fun _ => True) (fun i => (marks a i ++ l.drop i, a + (i : Int))) (a + l.length, marks a l.length) (fun k s i => laws_markInt64S.l0 k s.1 s.2 i) (fun i hi _ ih => ?_) (fun _ => ?_) trivial)
  · simp [marks]
  · refine Ev.succ ?_
    simp only [laws_markInt64S.l0]
    refine Ev.pos (by rw [List.length_append, marks_length, List.length_drop]; omega) (Ev.pos (by omega) ?_)
    rw [wrap_id (x := (i : Int) + 1) (by omega) (by omega), wrap_id (x := a + (i : Int) + 1) (by omega) (by omega), Int.toNat_natCast, marks_step a l i hi]
    have := ih trivial
    rw [show a + ((i + 1 : Nat) : Int) = a + (i : Int) + 1 by omega] at this
    exact this
  · refine Ev.succ ?_
    simp only [laws_markInt64S.l0]
    have e : marks a l.length ++ l.drop l.length = marks a l.length := by rw [List.drop_length, List.append_nil]
    rw [e]
    exact Ev.neg (by rw [marks_length]; omega) (Ev.now _)

theorem heldInt64S (n : Nat) (a : Int) (hl : n ≤ 35184372088832) (h0 : -1 ≤ a) (h1 : a ≤ 1000000000000) : Ev (fun k => laws_heldInt64S.f k (marks a n) a) (a + n) := by
  unfold laws_heldInt64S.f
  refine Ev.congr (fun k => ?_) (Ev.upto n (fun _ => True) (fun i => a + (i : Int)) (a + n) (fun k s i => laws_heldInt64S.l0 k (marks a n) s i) (fun i hi _ ih => ?_) (fun _ => ?_) trivial)
  · simp
  · refine Ev.succ ?_
    simp only [laws_heldInt64S.l0]
    refine Ev.pos (by rw [marks_length]; omega) (Ev.pos (by omega) (Ev.pos ?_ ?_))
    · rw [rd_lt _ i (by rw [marks_length]; exact hi), marks_get a n i hi]
    · rw [wrap_id (x := (i : Int) + 1) (by omega) (by omega), wrap_id (x := a + (i : Int) + 1) (by omega) (by omega)]
      have := ih trivial
      rw [show a + ((i + 1 : Nat) : Int) = a + (i : Int) + 1 by omega] at this
      exact this
  · refine Ev.succ ?_
    simp only [laws_heldInt64S.l0]
    exact Ev.neg (by rw [marks_length]; omega) (Ev.val rfl)

theorem eqRule (s r : Int) (t : List Int) (s' r' : Int) (t' : List Int) (hl : t.length ≤ 35184372088832) : Ev (fun k => laws_eqRule.f k s r t s' r' t') (decide (s = s' ∧ r = r' ∧ t = t')) := by
  unfold laws_eqRule.f
  by_cases h1 : s = s'
  · refine Ev.pos h1 ?_
    by_cases h2 : r = r'
    · refine Ev.pos h2 (Ev.bind (eqInt64S t t' hl) ?_)
      by_cases h3 : t = t'
      · exact Ev.pos (by simpa using h3) (Ev.val (by simp [h1, h2, h3]))
      · exact Ev.neg (by simpa using h3) (Ev.val (by simp [h3]))
    · exact Ev.neg h2 (Ev.val (by simp [h2]))
  · exact Ev.neg h1 (Ev.val (by simp [h1]))
theorem markRule (s r : Int) (t : List Int) (a : Int) (hl : t.length ≤ 35184372088832) (h0 : -1 ≤ a) (h1 : a ≤ 1000000000000) : Ev (fun k => laws_markRule.f k s r t a) (a + t.length, marks a t.length) := by
  unfold laws_markRule.f
  exact Ev.bind (markInt64S t a hl h0 h1) (Ev.now _)
theorem heldRule (s r : Int) (n : Nat) (a : Int) (hl : n ≤ 35184372088832) (h0 : 0 ≤ a) (h1 : a ≤ 1000000000000) : Ev (fun k => laws_heldRule.f k s r (marks a n) a) (a + n) := by
  unfold laws_heldRule.f
  exact Ev.bind (heldInt64S n a hl (by omega) h1) (Ev.neg (by omega) (Ev.now _))

theorem l00In (a b c : Int) : spec_l00In.f a b c = some (decide (b ≤ a ∧ a ≤ c)) := by
  unfold spec_l00In.f
  by_cases h : a ≥ b
  · rw [if_pos h]; simp; omega
  · rw [if_neg h]; simp; omega

theorem l02Powers (x n : Int) (h0 : 0 ≤ x) (h1 : x ≤ 10) (hn0 : 0 ≤ n) (hn : n ≤ 12) : Ev (fun k => spec_l02Powers.f k x n) (x ^ n.toNat) := by
  unfold spec_l02Powers.f
  obtain ⟨m, rfl⟩ := Int.eq_ofNat_of_zero_le hn0
  have main : ∀ d i : Nat, i + d = m → Ev (fun k => spec_l02Powers.l0 k x (d : Int) (x ^ i)) (x ^ m) := by
    intro d
    induction d with
    | zero =>
      intro i hi
      refine Ev.succ ?_
      simp only [spec_l02Powers.l0]
      exact Ev.neg (by omega) (Ev.val (by rw [show i = m by omega]))
    | succ d ih =>
      intro i hi
      refine Ev.succ ?_
      simp only [spec_l02Powers.l0]
      have hb := pow_bound x (i + 1) h0 h1 (by omega)
      rw [Int.pow_succ] at hb
      refine Ev.pos (by omega) ?_
      rw [wrap_id (x := ((d + 1 : Nat) : Int) - 1) (by omega) (by omega), wrap_id (x := x ^ i * x) (by omega) (by omega), ← Int.pow_succ, show ((d + 1 : Nat) : Int) - 1 = (d : Int) by omega]
      exact ih (i + 1) (by omega)
  have := main m 0 (by omega)
  rw [Int.pow_zero] at this
  exact this

theorem l02Is (s r : Int) (t : List Int) (hl : t.length ≤ 35184372088832) : Ev (fun k => spec_l02Is.f k s r t) (validRule s r t) := by
  unfold spec_l02Is.f validRule
  refine Ev.bnd (l00In s 2 3) ?_
  by_cases hs : 2 ≤ s ∧ s ≤ 3
  · refine Ev.pos (by simpa using hs) (Ev.bnd (l00In r 0 2) ?_)
    by_cases hr : 0 ≤ r ∧ r ≤ 2
    · refine Ev.pos (by simpa using hr) ?_
      rw [wrap_id (x := 2 * r) (by omega) (by omega), wrap_id (x := 2 * r + 1) (by omega) (by omega)]
      refine Ev.bind (l02Powers s (2 * r + 1) (by omega) (by omega) (by omega) (by omega)) (Ev.succ ?_)
      simp only [spec_l02Is.j0]
      by_cases hn : (t.length : Int) = s ^ (2 * r + 1).toNat
      · refine Ev.neg (by simp [hn]) ?_
        rw [decide_eq_true hs, decide_eq_true hr, decide_eq_true hn, Bool.true_and, Bool.true_and, Bool.true_and]
        refine Ev.upto t.length (fun i => ∀ j, (hj : j < t.length) → j < i → 0 ≤ t[j] ∧ t[j] ≤ s - 1) (fun _ => ()) _ (fun k _ i => spec_l02Is.l0 k i s r t) (fun i hi hp ih => ?_) (fun hp => ?_) (fun j hj h => by omega)
        · refine Ev.succ ?_
          simp only [spec_l02Is.l0]
          refine Ev.pos (by omega) (Ev.pos (by omega) ?_)
          rw [rd_lt t i (by omega), wrap_id (x := s - 1) (by omega) (by omega), wrap_id (x := (i : Int) + 1) (by omega) (by omega)]
          refine Ev.bnd (l00In _ _ _) ?_
          by_cases c : 0 ≤ t[i] ∧ t[i] ≤ s - 1
          · exact Ev.pos (by simpa using c) (ih (upTo_succ (p := fun x => 0 ≤ x ∧ x ≤ s - 1) hi hp c))
          · exact Ev.neg (by simpa using c) (Ev.val (by rw [allIn_false i (by omega) c]))
        · refine Ev.succ ?_
          simp only [spec_l02Is.l0]
          exact Ev.neg (by omega) (Ev.val (by rw [allIn_true (fun j hj' => hp j hj' (by omega))]))
      · exact Ev.pos (by simp [hn]) (Ev.val (by simp [hn]))
    · refine Ev.neg (by simpa using hr) (Ev.succ ?_)
      simp only [spec_l02Is.j0]
      exact Ev.pos (by trivial) (Ev.val (by simp [hr]))
  · refine Ev.neg (by simpa using hs) (Ev.succ ?_)
    simp only [spec_l02Is.j0]
    exact Ev.pos (by trivial) (Ev.val (by simp [hs]))

theorem l07Two (s r : Int) (t : List Int) (hl : t.length ≤ 35184372088832) : Ev (fun k => spec_l07Two.f k s r t) (validRule s r t && decide (s = 2)) := by
  unfold spec_l07Two.f
  refine Ev.bind (l02Is s r t hl) ?_
  by_cases c : validRule s r t = true
  · exact Ev.pos c (Ev.val (by rw [c, Bool.true_and]; rfl))
  · exact Ev.neg c (Ev.val (by rw [Bool.eq_false_iff.mpr c, Bool.false_and]))

theorem within (a b c : Int) : impl_within.f a b c = some (decide (b ≤ a ∧ a ≤ c)) := by
  unfold impl_within.f
  by_cases h : a ≥ b
  · rw [if_pos h]; simp; omega
  · rw [if_neg h]; simp; omega

theorem areWithin (l : List Int) (a b : Int) (hl : l.length ≤ 35184372088832) : Ev (fun k => impl_areWithin.f k l a b) (allIn l a b) := by
  unfold impl_areWithin.f
  refine Ev.upto l.length (fun i => ∀ j, (hj : j < l.length) → j < i → a ≤ l[j] ∧ l[j] ≤ b) (fun _ => ()) _ (fun k _ i => impl_areWithin.l0 k a b l l.length i) (fun i hi hp ih => ?_) (fun hp => ?_) (fun j hj h => by omega)
  · refine Ev.succ ?_
    simp only [impl_areWithin.l0]
    refine Ev.pos (by omega) (Ev.pos (by omega) (Ev.pos (by omega) ?_))
    rw [rd_lt l i (by omega), wrap_id (by omega) (by omega), within]
    by_cases c : a ≤ l[i] ∧ l[i] ≤ b
    · exact Ev.bnd rfl (Ev.pos (by simpa using c) (ih (upTo_succ (p := fun x => a ≤ x ∧ x ≤ b) hi hp c)))
    · exact Ev.bnd rfl (Ev.neg (by simpa using c) (Ev.val (by rw [allIn_false i (by omega) c])))
  · refine Ev.succ ?_
    simp only [impl_areWithin.l0]
    exact Ev.neg (by omega) (Ev.val (by rw [allIn_true (fun j hj' => hp j hj' (by omega))]))

theorem areMany (l : List Int) (a b c d : Int) (hl : l.length ≤ 35184372088832) : Ev (fun k => impl_areMany.f k l a b c d) (decide (a ≤ l.length ∧ l.length ≤ b) && allIn l c d) := by
  unfold impl_areMany.f
  refine Ev.bnd (within _ _ _) ?_
  by_cases h : a ≤ l.length ∧ l.length ≤ b
  · refine Ev.pos (by simpa using h) (Ev.cast (Ev.bind (areWithin l c d hl) (Ev.now _)) (by simp [h]))
  · exact Ev.neg (by simpa using h) (Ev.val (by simp [h]))

theorem areStates (s : Int) : impl_areStates.f s = some (decide (s = 2 ∨ s = 3)) := by
  unfold impl_areStates.f
  by_cases h : s = 2
  · rw [if_pos h]; simp [h]
  · rw [if_neg h]
    by_cases h3 : s = 3
    · subst h3; rfl
    · simp [h, h3]

theorem raised (x n : Int) (h0 : 0 ≤ x) (h1 : x ≤ 10) (hn0 : 0 ≤ n) (hn : n ≤ 12) : Ev (fun k => impl_raised.f k x n) (x ^ n.toNat) := by
  unfold impl_raised.f
  obtain ⟨m, rfl⟩ := Int.eq_ofNat_of_zero_le hn0
  rw [Int.toNat_natCast]
  refine Ev.congr (fun k => ?_) (Ev.upto m (fun _ => True) (fun i => x ^ i) (x ^ m) (fun k s i => impl_raised.l0 k x s m i) (fun i hi _ ih => ?_) (fun _ => ?_) trivial)
  · rw [Int.pow_zero]
  · refine Ev.succ ?_
    simp only [impl_raised.l0]
    have hb := pow_bound x (i + 1) h0 h1 (by omega)
    rw [Int.pow_succ] at hb
    refine Ev.pos (by omega) ?_
    rw [wrap_id (x := (i : Int) + 1) (by omega) (by omega), wrap_id (x := x ^ i * x) (by omega) (by omega), ← Int.pow_succ]
    exact ih trivial
  · refine Ev.succ ?_
    simp only [impl_raised.l0]
    exact Ev.neg (by omega) (Ev.now _)

theorem isReach (r : Int) : impl_isReach.f r = some (decide (0 ≤ r ∧ r ≤ 2)) := by
  unfold impl_isReach.f
  rw [within]; rfl
theorem ruleCells (s r : Int) (t : List Int) (h0 : 0 ≤ r) (h1 : r ≤ 2) : impl_Rule_cells.f s r t = some (2 * r + 1) := by
  unfold impl_Rule_cells.f
  rw [wrap_id (x := 2 * r) (by omega) (by omega), wrap_id (x := 2 * r + 1) (by omega) (by omega)]
theorem ValidRule (s r : Int) (t : List Int) (hl : t.length ≤ 35184372088832) : Ev (fun k => impl_ValidRule.f k s r t) (validRule s r t) := by
  unfold impl_ValidRule.f validRule
  refine Ev.bnd (areStates s) ?_
  by_cases hs : 2 ≤ s ∧ s ≤ 3
  · refine Ev.pos (by simp; omega) (Ev.bnd (isReach r) (Ev.succ ?_))
    simp only [impl_ValidRule.j0]
    by_cases hr : 0 ≤ r ∧ r ≤ 2
    · refine Ev.neg (by simpa using hr) (Ev.bnd (ruleCells s r t hr.1 hr.2) (Ev.bind (raised s (2 * r + 1) (by omega) (by omega) (by omega) (by omega)) ?_))
      rw [wrap_id (x := s - 1) (by omega) (by omega)]
      refine Ev.cast (Ev.bind (areMany t _ _ 0 (s - 1) hl) (Ev.now _)) ?_
      rw [decide_eq_true hs, decide_eq_true hr, Bool.true_and, Bool.true_and]
      congr 1
      exact decide_eq_decide.mpr (by omega)
    · exact Ev.pos (by simp; omega) (Ev.val (by simp [hr]))
  · refine Ev.neg (by simp; omega) (Ev.succ ?_)
    simp only [impl_ValidRule.j0]
    exact Ev.pos (by trivial) (Ev.val (by simp [hs]))

/-- The next seed. -/
def nextS (s : Int) : Int := Int.tmod (1664525 * s + 1013904223) 4294967296
/-- A seed. -/
def seedOk (s : Int) : Prop := 0 ≤ s ∧ s ≤ 4294967295
instance (s : Int) : Decidable (seedOk s) := inferInstanceAs (Decidable (_ ∧ _))
theorem nextS_ok (s : Int) (h : seedOk s) : seedOk (nextS s) := by unfold nextS seedOk at *; rw [Int.tmod_eq_emod_of_nonneg (by omega)]; omega
theorem nextWrap (s : Int) (h : seedOk s) : Int.tmod (wrap64 ((wrap64 (1664525 * s)) + 1013904223)) 4294967296 = nextS s := by
  unfold seedOk at h
  rw [wrap_id (x := 1664525 * s) (by omega) (by omega), wrap_id (x := 1664525 * s + 1013904223) (by omega) (by omega)]; rfl
theorem nextSpec (s : Int) (h : seedOk s) : spec_l07Next.f s = some (nextS s) := by unfold spec_l07Next.f; rw [nextWrap s h]
theorem nextImpl (s : Int) (h : seedOk s) : impl_nextSeed.f s = some (nextS s) := by unfold impl_nextSeed.f; rw [nextWrap s h]
theorem seedSpec (s : Int) : spec_l07Seed.f s = some (decide (seedOk s)) := by unfold spec_l07Seed.f; rw [l00In]; exact congrArg some (decide_eq_decide.mpr Iff.rfl)
theorem seedImpl (s : Int) : impl_isSeed.f s = some (decide (seedOk s)) := by unfold impl_isSeed.f; rw [within]; exact congrArg some (decide_eq_decide.mpr Iff.rfl)

/-- The place of a table that a seed tells. -/
def placeOf (s : Int) (n : Nat) : Int := wrap64 (Int.tdiv (wrap64 (s * (n : Int))) 4294967296)
theorem placeOf_ok (s : Int) (n : Nat) (h : seedOk s) (h0 : 0 < n) (hn : n ≤ 1000000) : 0 ≤ placeOf s n ∧ placeOf s n < n := by
  unfold placeOf
  unfold seedOk at h
  have h1 : 0 ≤ s * (n : Int) := Int.mul_nonneg h.1 (by omega)
  have h2 : s * (n : Int) ≤ 4294967295 * (n : Int) := Int.mul_le_mul_of_nonneg_right h.2 (by omega)
  rw [wrap_id (x := s * (n : Int)) (by omega) (by omega), Int.tdiv_eq_ediv_of_nonneg h1]
  have h3 : s * (n : Int) / 4294967296 ≤ s * (n : Int) := by omega
  rw [wrap_id (by omega) (by omega)]
  omega
/-- A change of a table, with the seed behind it. -/
def chg1 (x : Int × List Int) : Int × List Int :=
  (nextS x.1, x.2.set (placeOf (nextS x.1) x.2.length).toNat (wrap64 (1 - (rd x.2 (placeOf (nextS x.1) x.2.length)))))
def chgs (s : Int) (t : List Int) : Nat → Int × List Int
  | 0 => (s, t)
  | n + 1 => chg1 (chgs s t n)
theorem chgs_length (s : Int) (t : List Int) (n : Nat) : (chgs s t n).2.length = t.length := by
  induction n with
  | zero => rfl
  | succ n ih => show (List.set _ _ _).length = _; rw [List.length_set, ih]
theorem chgs_seed (s : Int) (t : List Int) (h : seedOk s) (n : Nat) : seedOk (chgs s t n).1 := by
  induction n with
  | zero => exact h
  | succ n ih => exact nextS_ok _ ih

theorem changeSpec (s r : Int) (t : List Int) (n : Int) (seed : Int) (h0 : 0 < t.length) (hl : t.length ≤ 1000000) (hn0 : 0 ≤ n) (hn : n ≤ 1000000) (hs : seedOk seed) :
    Ev (fun k => spec_l07Change.f k s r t n seed) (s, r, (chgs seed t n.toNat).2, (chgs seed t n.toNat).1) := by
  obtain ⟨m, rfl⟩ := Int.eq_ofNat_of_zero_le hn0
  unfold spec_l07Change.f spec_l02Own.f
  refine Ev.bnd (a := (s, r, t)) (by show (if _ then _ else _) = _; rw [if_pos (by simp; omega)]; simp) ?_
  refine Ev.down m (fun _ => True) (fun i => chgs seed t i) _ (fun k x i => spec_l07Change.l0 k i x.1 s r x.2) (fun i hi _ ih => ?_) (fun _ => ?_) trivial
  · refine Ev.succ ?_
    simp only [spec_l07Change.l0]
    have hp := placeOf_ok (nextS (chgs seed t i).1) (chgs seed t i).2.length (nextS_ok _ (chgs_seed seed t hs i)) (by rw [chgs_length]; exact h0) (by rw [chgs_length]; exact hl)
    refine Ev.pos (by omega) (Ev.bnd (nextSpec _ (chgs_seed seed t hs i)) (Ev.pos hp.1 (Ev.pos hp.2 ?_)))
    rw [wrap_id (x := (m : Int) - (i : Int) - 1) (by omega) (by omega)]
    exact ih trivial
  · refine Ev.succ ?_
    simp only [spec_l07Change.l0]
    exact Ev.neg (by omega) (Ev.now _)
theorem changeImpl (s r : Int) (t : List Int) (n : Int) (seed : Int) (h0 : 0 < t.length) (hl : t.length ≤ 1000000) (hn0 : 0 ≤ n) (hn : n ≤ 1000000) (hs : seedOk seed) :
    Ev (fun k => impl_changed.f k s r t n seed) (s, r, (chgs seed t n.toNat).2, (chgs seed t n.toNat).1) := by
  obtain ⟨m, rfl⟩ := Int.eq_ofNat_of_zero_le hn0
  unfold impl_changed.f slices_Clone_int64_int64.f
  refine Ev.bnd (a := t) (by show (if _ then _ else _) = _; rw [if_pos (by simp; omega)]; simp) ?_
  refine Ev.upto m (fun _ => True) (fun i => chgs seed t i) _ (fun k x i => impl_changed.l0 k x.1 m i s r x.2) (fun i hi _ ih => ?_) (fun _ => ?_) trivial
  · refine Ev.succ ?_
    simp only [impl_changed.l0]
    have hp := placeOf_ok (nextS (chgs seed t i).1) (chgs seed t i).2.length (nextS_ok _ (chgs_seed seed t hs i)) (by rw [chgs_length]; exact h0) (by rw [chgs_length]; exact hl)
    refine Ev.pos (by omega) (Ev.bnd (nextImpl _ (chgs_seed seed t hs i)) (Ev.pos hp.1 (Ev.pos hp.2 ?_)))
    rw [wrap_id (x := (i : Int) + 1) (by omega) (by omega)]
    exact ih trivial
  · refine Ev.succ ?_
    simp only [impl_changed.l0]
    exact Ev.neg (by omega) (Ev.now _)

/-- What ChangeRule answers. -/
def changeRule (s r : Int) (t : List Int) (n seed : Int) : Int × Int × List Int × Int × Bool :=
  if ((validRule s r t && decide (s = 2)) && decide (0 ≤ n ∧ n ≤ 64) && decide (seedOk seed)) = true then (s, r, (chgs seed t n.toNat).2, (chgs seed t n.toNat).1, true) else (0, 0, [], 0, false)
theorem valid_len {s r : Int} {t : List Int} (h : validRule s r t = true) : 0 < t.length ∧ t.length ≤ 1000000 := by
  unfold validRule at h
  simp only [Bool.and_eq_true, decide_eq_true_eq] at h
  obtain ⟨⟨⟨hs, hr⟩, hn⟩, _⟩ := h
  have : r = 0 ∨ r = 1 ∨ r = 2 := by omega
  have : s = 2 ∨ s = 3 := by omega
  rcases ‹r = 0 ∨ r = 1 ∨ r = 2› with rfl | rfl | rfl <;> rcases ‹s = 2 ∨ s = 3› with rfl | rfl <;> simp at hn <;> omega
theorem changeRuleSpec (s r : Int) (t : List Int) (n seed : Int) (hl : t.length ≤ 35184372088832) : Ev (fun k => spec_ChangeRule.f k s r t n seed) (changeRule s r t n seed) := by
  unfold spec_ChangeRule.f changeRule
  refine Ev.bind (l07Two s r t hl) ?_
  by_cases c : (validRule s r t && decide (s = 2)) = true
  · rw [c, Bool.true_and]
    refine Ev.pos (by trivial) (Ev.bnd (l00In n 0 64) ?_)
    have hv := valid_len (Bool.and_eq_true_iff.1 c).1
    by_cases hn : 0 ≤ n ∧ n ≤ 64
    · rw [decide_eq_true hn, Bool.true_and]
      refine Ev.pos (by trivial) (Ev.bnd (seedSpec seed) ?_)
      by_cases hs : seedOk seed
      · refine Ev.pos (by simpa using hs) (Ev.bind (changeSpec s r t n seed hv.1 hv.2 hn.1 (by omega) hs) (Ev.val ?_))
        rw [if_pos (by simpa using hs)]
      · exact Ev.neg (by simpa using hs) (Ev.val (by rw [if_neg (by simpa using hs)]))
    · rw [decide_eq_false hn, Bool.false_and]
      exact Ev.neg (by simp) (Ev.val (by rw [if_neg (by simp)]))
  · exact Ev.neg c (Ev.val (by rw [Bool.eq_false_iff.mpr c, Bool.false_and, Bool.false_and, if_neg (by simp)]))
theorem changeRuleImpl (s r : Int) (t : List Int) (n seed : Int) (hl : t.length ≤ 35184372088832) : Ev (fun k => impl_ChangeRule.f k s r t n seed) (changeRule s r t n seed) := by
  unfold impl_ChangeRule.f changeRule
  refine Ev.bind (ValidRule s r t hl) ?_
  by_cases c : validRule s r t = true
  · rw [c, Bool.true_and]
    refine Ev.pos (by trivial) ?_
    have hv := valid_len c
    by_cases h2 : s = 2
    · rw [decide_eq_true h2, Bool.true_and]
      refine Ev.pos h2 (Ev.bnd (within n 0 64) ?_)
      by_cases hn : 0 ≤ n ∧ n ≤ 64
      · rw [decide_eq_true hn, Bool.true_and]
        refine Ev.pos (by trivial) (Ev.bnd (seedImpl seed) ?_)
        by_cases hs : seedOk seed
        · refine Ev.pos (by simpa using hs) (Ev.bind (changeImpl s r t n seed hv.1 hv.2 hn.1 (by omega) hs) (Ev.val ?_))
          rw [if_pos (by simpa using hs)]
        · exact Ev.neg (by simpa using hs) (Ev.val (by rw [if_neg (by simpa using hs)]))
      · rw [decide_eq_false hn, Bool.false_and]
        exact Ev.neg (by simp) (Ev.val (by rw [if_neg (by simp)]))
    · rw [decide_eq_false h2, Bool.false_and, Bool.false_and]
      exact Ev.neg h2 (Ev.val (by rw [if_neg (by simp)]))
  · exact Ev.neg c (Ev.val (by rw [Bool.eq_false_iff.mpr c, Bool.false_and, Bool.false_and, Bool.false_and, if_neg (by simp)]))
theorem changeRule_len (s r : Int) (t : List Int) (n seed : Int) : (changeRule s r t n seed).2.2.1.length ≤ t.length := by
  unfold changeRule
  split
  · rw [chgs_length]; exact Nat.le_refl _
  · simp

theorem FnExactChangeRule : laws_FnExactChangeRule.Pure := by
  intro s r t n seed _ _ hz _ _
  have hl : t.length ≤ 17592186044415 := by omega
  have hm := changeRule_len s r t n seed
  refine Ev.rounds ?_
  unfold laws_FnExactChangeRule.f
  refine Ev.bnd (szRule s r t _ (by omega) (by omega) (by omega)) ?_
  by_cases c : (1048576 : Int) - (t.length : Int) < 0
  · rw [if_pos c]
    exact Ev.pos (by omega) (Ev.now _)
  · rw [if_neg c]
    refine Ev.neg c (Ev.bind (toRule s r t (by omega)) (Ev.bind (changeRuleSpec s r t n seed (by omega)) (Ev.bind (toRule s r t (by omega)) (Ev.bind (changeRuleImpl s r t n seed (by omega)) (Ev.bind (eqRule _ _ _ _ _ _ (by omega)) (Ev.pos (by simp) (Ev.pos (by trivial) (Ev.succ ?_))))))))
    simp only [laws_FnExactChangeRule.j0]
    refine Ev.neg (by simp) (Ev.bind (toRule s r t (by omega)) (Ev.bind (eqRule _ _ _ _ _ _ (by omega)) (Ev.pos (by simp) (Ev.bind (markRule _ _ _ 1 (by omega) (by omega) (by omega)) (Ev.neg (by show ¬ (1 + (t.length : Int)) < 0; omega) (Ev.bind (eqRule _ _ _ _ _ _ (by omega)) (Ev.pos (by simp) (Ev.pos (by trivial) (Ev.succ ?_)))))))))
    simp only [laws_FnExactChangeRule.j1]
    refine Ev.neg (by simp) (Ev.bind (markRule _ _ _ 1 (by omega) (by omega) (by omega)) (Ev.bind (heldRule _ _ _ 1 (by omega) (by omega) (by omega)) (Ev.neg (by omega) (Ev.pos (by trivial) (Ev.bind (toRule s r t (by omega)) (Ev.bind (changeRuleImpl s r t n seed (by omega)) (Ev.bind (eqRule _ _ _ _ _ _ (by omega)) (Ev.pos (by simp) (Ev.pos (by trivial) (Ev.succ ?_))))))))))
    simp only [laws_FnExactChangeRule.j2]
    exact Ev.neg (by simp) (Ev.bind (heldRule _ _ _ 1 (by omega) (by omega) (by omega)) (Ev.neg (by omega) (Ev.pos (by trivial) (Ev.now _))))

end Go.Proofs.Ytacjknmphgpjaaa.Pure

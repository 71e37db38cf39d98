/- TaskCount of the program and of the reference answer the same for all arguments. -/
import Derived.Test.YtacjknmphgpjaaaPFnExactTaskCountx0
import Derived.Test.YtacjknmphgpjaaaPFnExactTaskCountx1
import Derived.Test.YtacjknmphgpjaaaPFnExactTaskCountx2
import Derived.Test.YtacjknmphgpjaaaPFnExactTaskCountx3
import Derived.Test.YtacjknmphgpjaaaPFnExactTaskCountx4
import Derived.Test.YtacjknmphgpjaaaPFnExactTaskCountx5
import Derived.Test.YtacjknmphgpjaaaPFnExactTaskCountx6
import Derived.Test.YtacjknmphgpjaaaPFnExactTaskCountx7
import Derived.Test.YtacjknmphgpjaaaLib
namespace Go.Proofs.Ytacjknmphgpjaaa.Pure
open Go.RowKit Go.Proofs.Ytacjknmphgpjaaa.PFnExactTaskCount Go.Proofs.YtacjknmphgpjaaaW.PrintWords Go.Proofs.YtacjknmphgpjaaaW.PrintLast Go.Proofs.Ytacjknmphgpjaaa.L
set_option linter.unusedVariables false
set_option linter.unusedSimpArgs false

theorem szInt64S (l : List Int) (a : Int) (hl : l.length ≤ 35184372088832) (h0 : -1000000000000 ≤ a) (h1 : a ≤ 1000000000000) : laws_szInt64S.f l a = some (if a - l.length < 0 then -1 else a - l.length) := by
  unfold laws_szInt64S.f
  rw [wrap_id (x := a - l.length) (by omega) (by omega)]
  split <;> rfl

theorem szRule (s r : Int) (t : List Int) (a : Int) (hl : t.length ≤ 35184372088832) (h0 : 0 ≤ a) (h1 : a ≤ 1000000000) : laws_szRule.f s r t a = some (if a - t.length < 0 then -1 else a - t.length) := by
  unfold laws_szRule.f
  rw [szInt64S t a hl (by omega) (by omega)]
  by_cases c : a - (t.length : Int) < 0
  · rw [if_pos c]; rfl
  · rw [if_neg c]
    show (if _ then _ else _) = _
    rw [if_neg c]

theorem toInt64S (l : List Int) (hl : l.length ≤ 35184372088832) : Ev (fun k => laws_toInt64S.f k l) l := by
  unfold laws_toInt64S.f
  refine Ev.pos (by omega) (Ev.pos (by omega) ?_)
  refine Ev.cast (Ev.upto l.length (fun _ => True) (fun i => l.take i ++ List.replicate (l.length - i) 0) l (fun k s i => laws_toInt64S.l0 k l s i) (fun i hi _ ih => ?_) (fun _ => ?_) trivial) rfl
  · refine Ev.succ ?_
    simp only [laws_toInt64S.l0]
    refine Ev.pos (by omega) (Ev.pos (by omega) (Ev.pos (by simp; omega) ?_))
    rw [wrap_id (by omega) (by omega), Int.toNat_natCast, rd_lt l i hi, take_set_rep l i hi]
    exact ih trivial
  · refine Ev.succ ?_
    simp only [laws_toInt64S.l0]
    exact Ev.neg (by omega) (Ev.val (by simp))

theorem toRule (s r : Int) (t : List Int) (hl : t.length ≤ 35184372088832) : Ev (fun k => laws_toRule.f k s r t) (s, r, t) := by
  unfold laws_toRule.f
  exact Ev.bind (toInt64S t hl) (Ev.now _)

theorem eqInt64S (l m : List Int) (hl : l.length ≤ 35184372088832) : Ev (fun k => laws_eqInt64S.f k l m) (decide (l = m)) := by
  unfold laws_eqInt64S.f
  by_cases h : l.length = m.length
  · refine Ev.pos (by omega) ?_
    refine Ev.upto l.length (fun i => ∀ j, j < i → l[j]? = m[j]?) (fun _ => ()) _ (fun k _ i => laws_eqInt64S.l0 k l m i) (fun i hi hp ih => ?_) (fun hp => ?_) (fun j hj => by omega)
    · refine Ev.succ ?_
      simp only [laws_eqInt64S.l0]
      refine Ev.pos (by omega) (Ev.pos (by omega) (Ev.pos (by omega) ?_))
      rw [rd_lt l i (by omega), rd_lt m i (by omega)]
      by_cases e : l[i] = m[i]
      · refine Ev.pos e ?_
        rw [wrap_id (by omega) (by omega)]
        exact ih (fun j hj' => by
          by_cases hji : j < i
          · exact hp j hji
          · obtain rfl : j = i := by omega
            rw [List.getElem?_eq_getElem (by omega), List.getElem?_eq_getElem (by omega), e])
      · refine Ev.neg e (Ev.val ?_)
        rw [eq_comm, Option.some.injEq, decide_eq_false_iff_not]
        rintro rfl
        exact e rfl
    · refine Ev.succ ?_
      simp only [laws_eqInt64S.l0]
      refine Ev.neg (by omega) (Ev.val ?_)
      have : l = m := List.ext_getElem? (fun j => by
        by_cases hjl : j < l.length
        · exact hp j (by omega)
        · rw [List.getElem?_eq_none (by omega), List.getElem?_eq_none (by omega)])
      simp [this]
  · refine Ev.neg (by omega) (Ev.val ?_)
    rw [eq_comm, Option.some.injEq, decide_eq_false_iff_not]
    rintro rfl
    exact h rfl

theorem eqRule (s r : Int) (t : List Int) (s' r' : Int) (t' : List Int) (hl : t.length ≤ 35184372088832) : Ev (fun k => laws_eqRule.f k s r t s' r' t') (decide (s = s' ∧ r = r' ∧ t = t')) := by
  unfold laws_eqRule.f
  by_cases h1 : s = s'
  · refine Ev.pos h1 ?_
    by_cases h2 : r = r'
    · refine Ev.pos h2 (Ev.bind (eqInt64S t t' hl) ?_)
      by_cases h3 : t = t'
      · exact Ev.pos (by simpa using h3) (Ev.val (by simp [h1, h2, h3]))
      · exact Ev.neg (by simpa using h3) (Ev.val (by simp [h3]))
    · exact Ev.neg h2 (Ev.val (by simp [h2]))
  · exact Ev.neg h1 (Ev.val (by simp [h1]))

theorem l00In (a b c : Int) : spec_l00In.f a b c = some (decide (b ≤ a ∧ a ≤ c)) := by
  unfold spec_l00In.f
  by_cases h : a ≥ b
  · rw [if_pos h]; simp; omega
  · rw [if_neg h]; simp; omega

theorem l02Powers (x n : Int) (h0 : 0 ≤ x) (h1 : x ≤ 10) (hn0 : 0 ≤ n) (hn : n ≤ 12) : Ev (fun k => spec_l02Powers.f k x n) (x ^ n.toNat) := by
  unfold spec_l02Powers.f
  obtain ⟨m, rfl⟩ := Int.eq_ofNat_of_zero_le hn0
  have main : ∀ d i : Nat, i + d = m → Ev (fun k => spec_l02Powers.l0 k x (d : Int) (x ^ i)) (x ^ m) := by
    intro d
    induction d with
    | zero =>
      intro i hi
      refine Ev.succ ?_
      simp only [spec_l02Powers.l0]
      exact Ev.neg (by omega) (Ev.val (by rw [show i = m by omega]))
    | succ d ih =>
      intro i hi
      refine Ev.succ ?_
      simp only [spec_l02Powers.l0]
      have hb := pow_bound x (i + 1) h0 h1 (by omega)
      rw [Int.pow_succ] at hb
      refine Ev.pos (by omega) ?_
      rw [wrap_id (x := ((d + 1 : Nat) : Int) - 1) (by omega) (by omega), wrap_id (x := x ^ i * x) (by omega) (by omega), ← Int.pow_succ, show ((d + 1 : Nat) : Int) - 1 = (d : Int) by omega]
      exact ih (i + 1) (by omega)
  have := main m 0 (by omega)
  rw [Int.pow_zero] at this
  exact this

theorem l02Is (s r : Int) (t : List Int) (hl : t.length ≤ 35184372088832) : Ev (fun k => spec_l02Is.f k s r t) (validRule s r t) := by
  unfold spec_l02Is.f validRule
  refine Ev.bnd (l00In s 2 3) ?_
  by_cases hs : 2 ≤ s ∧ s ≤ 3
  · refine Ev.pos (by simpa using hs) (Ev.bnd (l00In r 0 2) ?_)
    by_cases hr : 0 ≤ r ∧ r ≤ 2
    · refine Ev.pos (by simpa using hr) ?_
      rw [wrap_id (x := 2 * r) (by omega) (by omega), wrap_id (x := 2 * r + 1) (by omega) (by omega)]
      refine Ev.bind (l02Powers s (2 * r + 1) (by omega) (by omega) (by omega) (by omega)) (Ev.succ ?_)
      simp only [spec_l02Is.j0]
      by_cases hn : (t.length : Int) = s ^ (2 * r + 1).toNat
      · refine Ev.neg (by simp [hn]) ?_
        rw [decide_eq_true hs, decide_eq_true hr, decide_eq_true hn, Bool.true_and, Bool.true_and, Bool.true_and]
        refine Ev.upto t.length (fun i => ∀ j, (hj : j < t.length) → j < i → 0 ≤ t[j] ∧ t[j] ≤ s - 1) (fun _ => ()) _ (fun k _ i => spec_l02Is.l0 k i s r t) (fun i hi hp ih => ?_) (fun hp => ?_) (fun j hj h => by omega)
        · refine Ev.succ ?_
          simp only [spec_l02Is.l0]
          refine Ev.pos (by omega) (Ev.pos (by omega) ?_)
          rw [rd_lt t i (by omega), wrap_id (x := s - 1) (by omega) (by omega), wrap_id (x := (i : Int) + 1) (by omega) (by omega)]
          refine Ev.bnd (l00In _ _ _) ?_
          by_cases c : 0 ≤ t[i] ∧ t[i] ≤ s - 1
          · exact Ev.pos (by simpa using c) (ih (upTo_succ (p := fun x => 0 ≤ x ∧ x ≤ s - 1) hi hp c))
          · exact Ev.neg (by simpa using c) (Ev.val (by rw [allIn_false i (by omega) c]))
        · refine Ev.succ ?_
          simp only [spec_l02Is.l0]
          exact Ev.neg (by omega) (Ev.val (by rw [allIn_true (fun j hj' => hp j hj' (by omega))]))
      · exact Ev.pos (by simp [hn]) (Ev.val (by simp [hn]))
    · refine Ev.neg (by simpa using hr) (Ev.succ ?_)
      simp only [spec_l02Is.j0]
      exact Ev.pos (by trivial) (Ev.val (by simp [hr]))
  · refine Ev.neg (by simpa using hs) (Ev.succ ?_)
    simp only [spec_l02Is.j0]
    exact Ev.pos (by trivial) (Ev.val (by simp [hs]))

theorem l07Two (s r : Int) (t : List Int) (hl : t.length ≤ 35184372088832) : Ev (fun k => spec_l07Two.f k s r t) (validRule s r t && decide (s = 2)) := by
  unfold spec_l07Two.f
  refine Ev.bind (l02Is s r t hl) ?_
  by_cases c : validRule s r t = true
  · exact Ev.pos c (Ev.val (by rw [c, Bool.true_and]; rfl))
  · exact Ev.neg c (Ev.val (by rw [Bool.eq_false_iff.mpr c, Bool.false_and]))

theorem within (a b c : Int) : impl_within.f a b c = some (decide (b ≤ a ∧ a ≤ c)) := by
  unfold impl_within.f
  by_cases h : a ≥ b
  · rw [if_pos h]; simp; omega
  · rw [if_neg h]; simp; omega

theorem areWithin (l : List Int) (a b : Int) (hl : l.length ≤ 35184372088832) : Ev (fun k => impl_areWithin.f k l a b) (allIn l a b) := by
  unfold impl_areWithin.f
  refine Ev.upto l.length (fun i => ∀ j, (hj : j < l.length) → j < i → a ≤ l[j] ∧ l[j] ≤ b) (fun _ => ()) _ (fun k _ i => impl_areWithin.l0 k a b l l.length i) (fun i hi hp ih => ?_) (fun hp => ?_) (fun j hj h => by omega)
  · refine Ev.succ ?_
    simp only [impl_areWithin.l0]
    refine Ev.pos (by omega) (Ev.pos (by omega) (Ev.pos (by omega) ?_))
    rw [rd_lt l i (by omega), wrap_id (by omega) (by omega), within]
    by_cases c : a ≤ l[i] ∧ l[i] ≤ b
    · exact Ev.bnd rfl (Ev.pos (by simpa using c) (ih (upTo_succ (p := fun x => a ≤ x ∧ x ≤ b) hi hp c)))
    · exact Ev.bnd rfl (Ev.neg (by simpa using c) (Ev.val (by rw [allIn_false i (by omega) c])))
  · refine Ev.succ ?_
    simp only [impl_areWithin.l0]
    exact Ev.neg (by omega) (Ev.val (by rw [allIn_true (fun j hj' => hp j hj' (by omega))]))

theorem areMany (l : List Int) (a b c d : Int) (hl : l.length ≤ 35184372088832) : Ev (fun k => impl_areMany.f k l a b c d) (decide (a ≤ l.length ∧ l.length ≤ b) && allIn l c d) := by
  unfold impl_areMany.f
  refine Ev.bnd (within _ _ _) ?_
  by_cases h : a ≤ l.length ∧ l.length ≤ b
  · refine Ev.pos (by simpa using h) (Ev.cast (Ev.bind (areWithin l c d hl) (Ev.now _)) (by simp [h]))
  · exact Ev.neg (by simpa using h) (Ev.val (by simp [h]))

theorem areStates (s : Int) : impl_areStates.f s = some (decide (s = 2 ∨ s = 3)) := by
  unfold impl_areStates.f
  by_cases h : s = 2
  · rw [if_pos h]; simp [h]
  · rw [if_neg h]
    by_cases h3 : s = 3
    · subst h3; rfl
    · simp [h, h3]

theorem raised (x n : Int) (h0 : 0 ≤ x) (h1 : x ≤ 10) (hn0 : 0 ≤ n) (hn : n ≤ 12) : Ev (fun k => impl_raised.f k x n) (x ^ n.toNat) := by
  unfold impl_raised.f
  obtain ⟨m, rfl⟩ := Int.eq_ofNat_of_zero_le hn0
  rw [Int.toNat_natCast]
  refine Ev.congr (fun k => ?_) (Ev.upto m (fun _ => True) (fun i => x ^ i) (x ^ m) (fun k s i => impl_raised.l0 k x s m i) (fun i hi _ ih => ?_) (fun _ => ?_) trivial)
  · rw [Int.pow_zero]
  · refine Ev.succ ?_
    simp only [impl_raised.l0]
    have hb := pow_bound x (i + 1) h0 h1 (by omega)
    rw [Int.pow_succ] at hb
    refine Ev.pos (by omega) ?_
    rw [wrap_id (x := (i : Int) + 1) (by omega) (by omega), wrap_id (x := x ^ i * x) (by omega) (by omega), ← Int.pow_succ]
    exact ih trivial
  · refine Ev.succ ?_
    simp only [impl_raised.l0]
    exact Ev.neg (by omega) (Ev.now _)

theorem isReach (r : Int) : impl_isReach.f r = some (decide (0 ≤ r ∧ r ≤ 2)) := by
  unfold impl_isReach.f
  rw [within]; rfl
theorem ruleCells (s r : Int) (t : List Int) (h0 : 0 ≤ r) (h1 : r ≤ 2) : impl_Rule_cells.f s r t = some (2 * r + 1) := by
  unfold impl_Rule_cells.f
  rw [wrap_id (x := 2 * r) (by omega) (by omega), wrap_id (x := 2 * r + 1) (by omega) (by omega)]
theorem ValidRule (s r : Int) (t : List Int) (hl : t.length ≤ 35184372088832) : Ev (fun k => impl_ValidRule.f k s r t) (validRule s r t) := by
  unfold impl_ValidRule.f validRule
  refine Ev.bnd (areStates s) ?_
  by_cases hs : 2 ≤ s ∧ s ≤ 3
  · refine Ev.pos (by simp; omega) (Ev.bnd (isReach r) (Ev.succ ?_))
    simp only [impl_ValidRule.j0]
    by_cases hr : 0 ≤ r ∧ r ≤ 2
    · refine Ev.neg (by simpa using hr) (Ev.bnd (ruleCells s r t hr.1 hr.2) (Ev.bind (raised s (2 * r + 1) (by omega) (by omega) (by omega) (by omega)) ?_))
      rw [wrap_id (x := s - 1) (by omega) (by omega)]
      refine Ev.cast (Ev.bind (areMany t _ _ 0 (s - 1) hl) (Ev.now _)) ?_
      rw [decide_eq_true hs, decide_eq_true hr, Bool.true_and, Bool.true_and]
      congr 1
      exact decide_eq_decide.mpr (by omega)
    · exact Ev.pos (by simp; omega) (Ev.val (by simp [hr]))
  · refine Ev.neg (by simp; omega) (Ev.succ ?_)
    simp only [impl_ValidRule.j0]
    exact Ev.pos (by trivial) (Ev.val (by simp [hs]))

/-- The next seed. -/
def nextS (s : Int) : Int := Int.tmod (1664525 * s + 1013904223) 4294967296
/-- A seed. -/
def seedOk (s : Int) : Prop := 0 ≤ s ∧ s ≤ 4294967295
instance (s : Int) : Decidable (seedOk s) := inferInstanceAs (Decidable (_ ∧ _))
theorem nextS_ok (s : Int) (h : seedOk s) : seedOk (nextS s) := by unfold nextS seedOk at *; rw [Int.tmod_eq_emod_of_nonneg (by omega)]; omega
theorem nextWrap (s : Int) (h : seedOk s) : Int.tmod (wrap64 ((wrap64 (1664525 * s)) + 1013904223)) 4294967296 = nextS s := by
  unfold seedOk at h
  rw [wrap_id (x := 1664525 * s) (by omega) (by omega), wrap_id (x := 1664525 * s + 1013904223) (by omega) (by omega)]; rfl
theorem nextSpec (s : Int) (h : seedOk s) : spec_l07Next.f s = some (nextS s) := by unfold spec_l07Next.f; rw [nextWrap s h]
theorem nextImpl (s : Int) (h : seedOk s) : impl_nextSeed.f s = some (nextS s) := by unfold impl_nextSeed.f; rw [nextWrap s h]
theorem seedSpec (s : Int) : spec_l07Seed.f s = some (decide (seedOk s)) := by unfold spec_l07Seed.f; rw [l00In]; exact congrArg some (decide_eq_decide.mpr Iff.rfl)
theorem seedImpl (s : Int) : impl_isSeed.f s = some (decide (seedOk s)) := by unfold impl_isSeed.f; rw [within]; exact congrArg some (decide_eq_decide.mpr Iff.rfl)

/-- The place on a ring, from 0 on. -/
def fm (x : Int) (n : Int) : Int := Int.tmod (wrap64 ((Int.tmod x n) + n)) n
theorem fm_ok (x n : Int) (h0 : 0 < n) (hn : n ≤ 1000000000000) : 0 ≤ fm x n ∧ fm x n < n := by
  unfold fm
  have h1 := Int.tmod_lt_of_pos x h0
  have h2 : -n < Int.tmod x n := by
    have := Int.tmod_lt_of_pos (-x) h0
    rw [Int.neg_tmod] at this
    omega
  rw [wrap_id (x := Int.tmod x n + n) (by omega) (by omega)]
  exact ⟨Int.tmod_nonneg _ (by omega), Int.tmod_lt_of_pos _ h0⟩
/-- The number that cells of a ring from a place on tell. -/
def tl (s : Int) (ring : List Int) (lo : Int) : Nat → Int
  | 0 => 0
  | j + 1 => tl s ring lo j * s + rd ring (fm (lo + (j : Int)) ring.length)
/-- A rule that is valid, as facts. -/
structure RuleOk (s r : Int) (t : List Int) : Prop where
  s0 : 2 ≤ s
  s1 : s ≤ 3
  r0 : 0 ≤ r
  r1 : r ≤ 2
  n : (t.length : Int) = s ^ (2 * r + 1).toNat
  all : ∀ x ∈ t, 0 ≤ x ∧ x ≤ s - 1
theorem RuleOk.of {s r : Int} {t : List Int} (h : validRule s r t = true) : RuleOk s r t := by
  unfold validRule at h
  simp only [Bool.and_eq_true, decide_eq_true_eq] at h
  exact ⟨h.1.1.1.1, h.1.1.1.2, h.1.1.2.1, h.1.1.2.2, h.1.2, allIn_iff.1 h.2⟩
/-- A ring of states. -/
structure RingOk (s : Int) (ring : List Int) : Prop where
  pos : 0 < ring.length
  le : ring.length ≤ 1000000
  all : ∀ x ∈ ring, 0 ≤ x ∧ x ≤ s - 1
theorem tl_ok (s : Int) (ring : List Int) (lo : Int) (hs0 : 2 ≤ s) (hs1 : s ≤ 3) (h : RingOk s ring) (j : Nat) : 0 ≤ tl s ring lo j ∧ tl s ring lo j < s ^ j := by
  induction j with
  | zero => simp [tl]
  | succ j ih =>
    have hf := fm_ok (lo + (j : Int)) ring.length (by have := h.pos; omega) (by have := h.le; omega)
    have hx := h.all _ (rd_mem ring _ hf.1 (by omega))
    show 0 ≤ tl s ring lo j * s + rd ring (fm (lo + (j : Int)) ring.length) ∧ tl s ring lo j * s + rd ring (fm (lo + (j : Int)) ring.length) < s ^ (j + 1)
    rw [Int.pow_succ]
    have h1 : 0 ≤ tl s ring lo j * s := Int.mul_nonneg ih.1 (by omega)
    have h2 : tl s ring lo j * s ≤ (s ^ j - 1) * s := Int.mul_le_mul_of_nonneg_right (by omega) (by omega)
    rw [Int.sub_mul, Int.one_mul] at h2
    omega
/-- What a rule tells at a place of a ring. -/
def told (s r : Int) (t ring : List Int) (i : Int) : Int := rd t (tl s ring (i - r) (2 * r + 1).toNat)
theorem told_ok {s r : Int} {t ring : List Int} (hr : RuleOk s r t) (h : RingOk s ring) (i : Int) : 0 ≤ told s r t ring i ∧ told s r t ring i ≤ s - 1 := by
  have := tl_ok s ring (i - r) hr.s0 hr.s1 h (2 * r + 1).toNat
  exact hr.all _ (rd_mem t _ this.1 (by rw [hr.n]; exact this.2))
/-- A step of a ring. -/
def ringStep (s r : Int) (t ring : List Int) : List Int := (List.range ring.length).map fun (i : Nat) => told s r t ring (i : Int)
theorem ringStep_length (s r : Int) (t ring : List Int) : (ringStep s r t ring).length = ring.length := by simp [ringStep]
theorem ringStep_ok {s r : Int} {t ring : List Int} (hr : RuleOk s r t) (h : RingOk s ring) : RingOk s (ringStep s r t ring) := by
  refine ⟨by rw [ringStep_length]; exact h.pos, by rw [ringStep_length]; exact h.le, fun x hx => ?_⟩
  simp only [ringStep, List.mem_map] at hx
  obtain ⟨i, _, rfl⟩ := hx
  exact told_ok hr h _
theorem ringStep_take (s r : Int) (t ring : List Int) (i : Nat) (h : i < ring.length) : (ringStep s r t ring).take (i + 1) = (ringStep s r t ring).take i ++ [told s r t ring (i : Int)] := by
  rw [List.take_succ_eq_append_getElem (by rw [ringStep_length]; exact h)]
  simp [ringStep]
/-- Steps of a ring. -/
def ringSteps (s r : Int) (t ring : List Int) : Nat → List Int
  | 0 => ring
  | n + 1 => ringStep s r t (ringSteps s r t ring n)
theorem ringSteps_ok {s r : Int} {t ring : List Int} (hr : RuleOk s r t) (h : RingOk s ring) (n : Nat) : RingOk s (ringSteps s r t ring n) := by
  induction n with
  | zero => exact h
  | succ n ih => exact ringStep_ok hr ih
theorem ringSteps_length (s r : Int) (t ring : List Int) (n : Nat) : (ringSteps s r t ring n).length = ring.length := by
  induction n with
  | zero => rfl
  | succ n ih => show (ringStep _ _ _ _).length = _; rw [ringStep_length, ih]

/-- A ring that seeds tell, with the seed behind it. -/
def growRing (seed : Int) : Nat → List Int × Int
  | 0 => ([], seed)
  | n + 1 => ((growRing seed n).1 ++ [wrap64 (Int.tdiv (nextS (growRing seed n).2) 2147483648)], nextS (growRing seed n).2)
theorem growRing_length (seed : Int) (n : Nat) : (growRing seed n).1.length = n := by
  induction n with
  | zero => rfl
  | succ n ih => show ((growRing seed n).1 ++ [_]).length = _; rw [List.length_append, ih]; rfl
theorem growRing_seed (seed : Int) (h : seedOk seed) (n : Nat) : seedOk (growRing seed n).2 := by
  induction n with
  | zero => exact h
  | succ n ih => exact nextS_ok _ ih
theorem growRing_bits (seed : Int) (h : seedOk seed) (n : Nat) : ∀ x ∈ (growRing seed n).1, 0 ≤ x ∧ x ≤ 1 := by
  induction n with
  | zero => intro x hx; cases hx
  | succ n ih =>
    intro x hx
    rcases List.mem_append.1 hx with hx | hx
    · exact ih x hx
    · obtain rfl := List.mem_singleton.1 hx
      have hs := nextS_ok _ (growRing_seed seed h n)
      unfold seedOk at hs
      rw [Int.tdiv_eq_ediv_of_nonneg hs.1, wrap_id (by omega) (by omega)]
      omega
/-- What most cells of a ring are. -/
def most (l : List Int) : Int := if 2 * l.sum > l.length then 1 else 0
/-- Whether a try comes to the majority. -/
def tryOk (s r : Int) (t : List Int) (n steps : Nat) (seed : Int) : Bool :=
  (ringSteps s r t (growRing seed n).1 steps).all fun x => x == most (growRing seed n).1
/-- How many tries come to the majority, and the seed behind them. -/
def tries (s r : Int) (t : List Int) (n steps : Nat) (seed : Int) : Nat → Int × Int
  | 0 => (0, seed)
  | i + 1 => ((if tryOk s r t n steps (tries s r t n steps seed i).2 = true then (tries s r t n steps seed i).1 + 1 else (tries s r t n steps seed i).1), (growRing (tries s r t n steps seed i).2 n).2)
theorem tries_seed (s r : Int) (t : List Int) (n steps : Nat) (seed : Int) (h : seedOk seed) (i : Nat) : seedOk (tries s r t n steps seed i).2 := by
  induction i with
  | zero => exact h
  | succ i ih => exact growRing_seed _ ih n
theorem tries_ok (s r : Int) (t : List Int) (n steps : Nat) (seed : Int) (i : Nat) : 0 ≤ (tries s r t n steps seed i).1 ∧ (tries s r t n steps seed i).1 ≤ i := by
  induction i with
  | zero => exact ⟨by show (0 : Int) ≤ 0; omega, by show (0 : Int) ≤ _; omega⟩
  | succ i ih =>
    simp only [tries]
    split <;> omega
theorem growRing_ok (seed : Int) (h : seedOk seed) (n : Nat) (h0 : 0 < n) (hn : n ≤ 64) : RingOk 2 (growRing seed n).1 :=
  ⟨by rw [growRing_length]; exact h0, by rw [growRing_length]; omega, growRing_bits seed h n⟩

theorem sumOf (l : List Int) (B : Int) (hB : B ≤ 1000000000) (hl : l.length ≤ 1000000000) (h : ∀ x ∈ l, -B ≤ x ∧ x ≤ B) : Ev (fun k => impl_sumOf.f k l) l.sum := by
  unfold impl_sumOf.f
  refine Ev.cast (Ev.upto l.length (fun _ => True) (fun i => (l.take i).sum) l.sum (fun k s i => impl_sumOf.l0 k s l l.length i) (fun i hi _ ih => ?_) (fun _ => ?_) trivial) rfl
  · refine Ev.succ ?_
    simp only [impl_sumOf.l0]
    refine Ev.pos (by omega) (Ev.pos (by omega) (Ev.pos (by omega) ?_))
    have hs := sum_bound (l.take (i + 1)) (-B) B (fun x hx => h x (List.mem_of_mem_take hx))
    rw [List.length_take, Nat.min_eq_left (by omega)] at hs
    have hm : B * ((i + 1 : Nat) : Int) ≤ 1000000000 * ((i + 1 : Nat) : Int) := Int.mul_le_mul_of_nonneg_right hB (by omega)
    have hm' : -B * ((i + 1 : Nat) : Int) = -(B * ((i + 1 : Nat) : Int)) := by rw [Int.neg_mul]
    rw [sum_take_succ l i hi] at hs
    rw [rd_lt l i hi, wrap_id (x := (l.take i).sum + l[i]) (by omega) (by omega), wrap_id (x := (i : Int) + 1) (by omega) (by omega), ← sum_take_succ l i hi]
    exact ih trivial
  · refine Ev.succ ?_
    simp only [impl_sumOf.l0]
    exact Ev.neg (by omega) (Ev.val (by rw [List.take_length]))

theorem countOnes (l : List Int) (hl : l.length ≤ 64) (h : ∀ x ∈ l, 0 ≤ x ∧ x ≤ 1) : Ev (fun k => spec_l07Majority.f k l) (if 2 * l.sum > l.length then 1 else 0) := by
  unfold spec_l07Majority.f
  refine Ev.cast (Ev.upto l.length (fun _ => True) (fun i => (l.take i).sum) _ (fun k s i => spec_l07Majority.l0 k l s l.length i) (fun i hi _ ih => ?_) (fun _ => ?_) trivial) rfl
  · refine Ev.succ ?_
    simp only [spec_l07Majority.l0]
    refine Ev.pos (by omega) (Ev.pos (by omega) (Ev.pos (by omega) ?_))
    have hb := sum_bound (l.take i) 0 1 (fun x hx => h x (List.mem_of_mem_take hx))
    rw [List.length_take, Nat.min_eq_left (by omega)] at hb
    have hx := h l[i] (List.getElem_mem hi)
    have := ih trivial
    rw [sum_take_succ l i hi] at this
    rw [rd_lt l i hi, wrap_id (x := (l.take i).sum + 1) (by omega) (by omega), wrap_id (x := (i : Int) + 1) (by omega) (by omega)]
    by_cases e : l[i] = 1
    · rw [e] at this
      exact Ev.pos e this
    · have e0 : l[i] = 0 := by omega
      rw [e0, Int.add_zero] at this
      exact Ev.neg e this
  · refine Ev.succ ?_
    simp only [spec_l07Majority.l0]
    refine Ev.neg (by omega) ?_
    have hb := sum_bound l 0 1 h
    rw [List.take_length, wrap_id (x := 2 * l.sum) (by omega) (by omega)]
    by_cases c : 2 * l.sum > l.length
    · exact Ev.pos c (Ev.val (by rw [if_pos c]))
    · exact Ev.neg c (Ev.val (by rw [if_neg c]))

theorem bit (b : Bool) : impl_bit.f b = some (if b = true then 1 else 0) := by
  unfold impl_bit.f
  split <;> rfl

theorem majority (l : List Int) (hl : l.length ≤ 64) (h : ∀ x ∈ l, 0 ≤ x ∧ x ≤ 1) : Ev (fun k => impl_majority.f k l) (if 2 * l.sum > l.length then 1 else 0) := by
  unfold impl_majority.f
  refine Ev.bind (sumOf l 1 (by omega) (by omega) (fun x hx => by have := h x hx; omega)) ?_
  have hb := sum_bound l 0 1 h
  rw [wrap_id (x := 2 * l.sum) (by omega) (by omega)]
  refine Ev.bnd (bit _) (Ev.val ?_)
  simp

theorem toldSpec {s r : Int} {t ring : List Int} (hr : RuleOk s r t) (h : RingOk s ring) (i : Int) (hi0 : 0 ≤ i) (hi1 : i ≤ 1000000) : Ev (fun k => spec_l02Told.f k s r t ring i) (told s r t ring i) := by
  unfold spec_l02Told.f
  have := hr.r0; have := hr.r1; have := hr.s0; have := hr.s1; have hn := h.pos; have hn1 := h.le
  rw [wrap_id (x := i - r) (by omega) (by omega)]
  refine Ev.congr (fun k => ?_) (Ev.upto (2 * r + 1).toNat (fun _ => True) (fun j => tl s ring (i - r) j) (told s r t ring i) (fun k x j => spec_l02Told.l0 k ring i ring.length x (i - r + j) s r t) (fun j hj _ ih => ?_) (fun _ => ?_) trivial)
  · rw [Int.add_zero]; rfl
  · refine Ev.succ ?_
    simp only [spec_l02Told.l0]
    have hf := fm_ok (i - r + (j : Int)) ring.length (by omega) (by omega)
    have hx := h.all _ (rd_mem ring _ hf.1 (by omega))
    have ht := tl_ok s ring (i - r) hr.s0 hr.s1 h j
    have ht1 := tl_ok s ring (i - r) hr.s0 hr.s1 h (j + 1)
    have hb := pow_bound s (j + 1) (by omega) (by omega) (by omega)
    have hm : 0 ≤ tl s ring (i - r) j * s := Int.mul_nonneg ht.1 (by omega)
    have e : tl s ring (i - r) (j + 1) = tl s ring (i - r) j * s + rd ring (fm (i - r + (j : Int)) ring.length) := rfl
    rw [wrap_id (x := i + r) (by omega) (by omega), wrap_id (x := i - r + (j : Int) + 1) (by omega) (by omega)]
    refine Ev.pos (by omega) (Ev.neg (by omega) (Ev.pos hf.1 (Ev.pos hf.2 ?_)))
    have hw : wrap64 (wrap64 (tl s ring (i - r) j * s) + rd ring (Int.tmod (wrap64 ((Int.tmod (i - r + (j : Int)) ring.length) + (ring.length : Int))) ring.length)) = tl s ring (i - r) (j + 1) := by
      rw [wrap_id (x := tl s ring (i - r) j * s) (by omega) (by omega)]
      exact wrap_id (by show _ ≤ tl s ring (i - r) j * s + rd ring (fm (i - r + (j : Int)) ring.length); omega) (by show tl s ring (i - r) j * s + rd ring (fm (i - r + (j : Int)) ring.length) ≤ _; omega)
    rw [hw]
    have := ih trivial
    rw [show i - r + ((j : Int) + 1) = i - r + (j : Int) + 1 by omega] at this
    exact this
  · refine Ev.succ ?_
    simp only [spec_l02Told.l0]
    have ht := tl_ok s ring (i - r) hr.s0 hr.s1 h (2 * r + 1).toNat
    rw [← hr.n] at ht
    rw [wrap_id (x := i + r) (by omega) (by omega)]
    exact Ev.neg (by omega) (Ev.pos ht.1 (Ev.pos ht.2 (Ev.now _)))
theorem stepSpec {s r : Int} {t ring : List Int} (hr : RuleOk s r t) (h : RingOk s ring) : Ev (fun k => spec_l02Step.f k s r t ring) (ringStep s r t ring) := by
  unfold spec_l02Step.f
  have hn1 := h.le
  refine Ev.upto ring.length (fun _ => True) (fun i => (ringStep s r t ring).take i) _ (fun k x i => spec_l02Step.l0 k ring x i s r t) (fun i hi _ ih => ?_) (fun _ => ?_) trivial
  · refine Ev.succ ?_
    simp only [spec_l02Step.l0]
    refine Ev.pos (by omega) (Ev.bind (toldSpec hr h (i : Int) (by omega) (by omega)) (Ev.pos (by rw [List.length_take]; omega) ?_))
    rw [wrap_id (x := (i : Int) + 1) (by omega) (by omega), ← ringStep_take s r t ring i hi]
    exact ih trivial
  · refine Ev.succ ?_
    simp only [spec_l02Step.l0]
    exact Ev.neg (by omega) (Ev.val (by rw [List.take_of_length_le (by rw [ringStep_length]; omega)]))

theorem floorMod (a b : Int) (h : b ≠ 0) : impl_floorMod.f a b = some (fm a b) := by unfold impl_floorMod.f; rw [if_neg h]; rfl
theorem ruleAt {s r : Int} {t ring : List Int} (hr : RuleOk s r t) (h : RingOk s ring) (i : Int) (hi0 : 0 ≤ i) (hi1 : i ≤ 1000000) : Ev (fun k => impl_Rule_at.f k s r t ring i) (told s r t ring i) := by
  unfold impl_Rule_at.f
  have := hr.r0; have := hr.r1; have := hr.s0; have := hr.s1; have hn := h.pos; have hn1 := h.le
  rw [wrap_id (x := i - r) (by omega) (by omega)]
  refine Ev.congr (fun k => ?_) (Ev.upto (2 * r + 1).toNat (fun _ => True) (fun j => tl s ring (i - r) j) (told s r t ring i) (fun k x j => impl_Rule_at.l0 k ring i ring.length x (i - r + j) s r t) (fun j hj _ ih => ?_) (fun _ => ?_) trivial)
  · rw [Int.add_zero]; rfl
  · refine Ev.succ ?_
    simp only [impl_Rule_at.l0]
    have hf := fm_ok (i - r + (j : Int)) ring.length (by omega) (by omega)
    have hx := h.all _ (rd_mem ring _ hf.1 (by omega))
    have ht := tl_ok s ring (i - r) hr.s0 hr.s1 h j
    have ht1 := tl_ok s ring (i - r) hr.s0 hr.s1 h (j + 1)
    have hb := pow_bound s (j + 1) (by omega) (by omega) (by omega)
    have hm : 0 ≤ tl s ring (i - r) j * s := Int.mul_nonneg ht.1 (by omega)
    have e : tl s ring (i - r) (j + 1) = tl s ring (i - r) j * s + rd ring (fm (i - r + (j : Int)) ring.length) := rfl
    rw [wrap_id (x := i + r) (by omega) (by omega), wrap_id (x := i - r + (j : Int) + 1) (by omega) (by omega)]
    refine Ev.pos (by omega) (Ev.bnd (floorMod _ _ (by omega)) (Ev.pos hf.1 (Ev.pos hf.2 ?_)))
    have hw : wrap64 (wrap64 (tl s ring (i - r) j * s) + rd ring (fm (i - r + (j : Int)) ring.length)) = tl s ring (i - r) (j + 1) := by
      rw [wrap_id (x := tl s ring (i - r) j * s) (by omega) (by omega)]
      exact wrap_id (by omega) (by omega)
    rw [hw]
    have := ih trivial
    rw [show i - r + ((j : Int) + 1) = i - r + (j : Int) + 1 by omega] at this
    exact this
  · refine Ev.succ ?_
    simp only [impl_Rule_at.l0]
    have ht := tl_ok s ring (i - r) hr.s0 hr.s1 h (2 * r + 1).toNat
    rw [← hr.n] at ht
    rw [wrap_id (x := i + r) (by omega) (by omega)]
    exact Ev.neg (by omega) (Ev.pos ht.1 (Ev.pos ht.2 (Ev.now _)))
theorem stepImpl {s r : Int} {t ring : List Int} (hr : RuleOk s r t) (h : RingOk s ring) : Ev (fun k => impl_Rule_step.f k s r t ring) (ringStep s r t ring) := by
  unfold impl_Rule_step.f
  have hn1 := h.le
  refine Ev.pos (by omega) (Ev.pos (by omega) (Ev.bnd rfl ?_))
  refine Ev.congr (fun k => ?_) (Ev.upto ring.length (fun _ => True) (fun i => (ringStep s r t ring).take i ++ List.replicate (ring.length - i) 0) (ringStep s r t ring) (fun k x i => impl_Rule_step.l0 k ring x ring.length i s r t) (fun i hi _ ih => ?_) (fun _ => ?_) trivial)
  · simp
  · refine Ev.succ ?_
    simp only [impl_Rule_step.l0]
    have hlen : ((ringStep s r t ring).take i ++ List.replicate (ring.length - i) 0).length = ring.length := by rw [List.length_append, List.length_take, ringStep_length, List.length_replicate]; omega
    refine Ev.pos (by omega) (Ev.bind (ruleAt hr h (i : Int) (by omega) (by omega)) (Ev.pos (by omega) (Ev.pos (by rw [hlen]; omega) ?_)))
    have hx : told s r t ring (i : Int) = (ringStep s r t ring)[i]'(by rw [ringStep_length]; exact hi) := by simp [ringStep]
    have hs := take_set_rep' (ringStep s r t ring) i ring.length (by rw [ringStep_length]; exact hi) (ringStep_length s r t ring)
    rw [wrap_id (x := (i : Int) + 1) (by omega) (by omega), Int.toNat_natCast, hx, hs]
    exact ih trivial
  · refine Ev.succ ?_
    simp only [impl_Rule_step.l0]
    exact Ev.neg (by omega) (Ev.val (by rw [Nat.sub_self, List.replicate_zero, List.append_nil, List.take_of_length_le (by rw [ringStep_length]; omega)]))

theorem contains (l : List Int) (x : Int) (hl : l.length ≤ 35184372088832) : Ev (fun k => slices_Contains_int64_int64.f k l x) (l.any fun y => x == y) := by
  unfold slices_Contains_int64_int64.f
  have idx : ∃ p, Ev (fun k => slices_Index_int64_int64.f k l x) p ∧ decide (p ≥ 0) = l.any fun y => x == y := by
    have main : ∀ d i : Nat, i + d = l.length → ∃ p, Ev (fun k => slices_Index_int64_int64.l0 k l x l.length i) p ∧ decide (p ≥ 0) = (l.drop i).any fun y => x == y := by
      intro d
      induction d with
      | zero =>
        intro i hi
        refine ⟨-1, Ev.succ ?_, ?_⟩
        · simp only [slices_Index_int64_int64.l0]
          exact Ev.neg (by omega) (Ev.now _)
        · rw [List.drop_of_length_le (by omega)]; rfl
      | succ d ih =>
        intro i hi
        have hil : i < l.length := by omega
        by_cases c : x = l[i]
        · refine ⟨i, Ev.succ ?_, ?_⟩
          · simp only [slices_Index_int64_int64.l0]
            refine Ev.pos (by omega) (Ev.pos (by omega) (Ev.pos (by omega) ?_))
            rw [rd_lt l i hil]
            exact Ev.pos c (Ev.now _)
          · rw [List.drop_eq_getElem_cons hil, List.any_cons, ← c, beq_self_eq_true, Bool.true_or]; exact decide_eq_true (by omega)
        · obtain ⟨p, h1, h2⟩ := ih (i + 1) (by omega)
          refine ⟨p, Ev.succ ?_, ?_⟩
          · simp only [slices_Index_int64_int64.l0]
            refine Ev.pos (by omega) (Ev.pos (by omega) (Ev.pos (by omega) ?_))
            rw [rd_lt l i hil, wrap_id (x := (i : Int) + 1) (by omega) (by omega)]
            exact Ev.neg c h1
          · rw [List.drop_eq_getElem_cons hil, List.any_cons, beq_eq_false_iff_ne.2 c, Bool.false_or]; exact h2
    have := main l.length 0 (by omega)
    rw [List.drop_zero] at this
    exact this
  obtain ⟨p, h1, h2⟩ := idx
  exact Ev.bind h1 (Ev.val (by rw [h2]))

theorem noneOther (l : List Int) (m : Int) (h : ∀ x ∈ l, 0 ≤ x ∧ x ≤ 1) (hm : m = 0 ∨ m = 1) : (!(l.any fun y => (1 - m) == y)) = l.all fun x => x == m := by
  induction l with
  | nil => rfl
  | cons a l ih =>
    have ha := h a List.mem_cons_self
    rw [List.any_cons, List.all_cons, Bool.not_or, ih (fun x hx => h x (List.mem_cons_of_mem _ hx))]
    congr 1
    by_cases c : a = m
    · subst c; rw [beq_self_eq_true, beq_eq_false_iff_ne.2 (by omega)]; rfl
    · rw [beq_eq_false_iff_ne.2 c, beq_iff_eq.2 (by omega)]; rfl
theorem most_ok (l : List Int) : most l = 0 ∨ most l = 1 := by unfold most; split <;> simp

theorem taskSpec {r : Int} {t : List Int} (hr : RuleOk 2 r t) (n tr st : Nat) (seed : Int) (h0 : 0 < n) (hn : n ≤ 64) (htr : tr ≤ 1000000) (hst : st ≤ 1000000) (hs : seedOk seed) :
    Ev (fun k => spec_l07Count.f k 2 r t n tr st seed) (tries 2 r t n st seed tr) := by
  unfold spec_l07Count.f
  refine Ev.down tr (fun _ => True) (fun i => tries 2 r t n st seed i) _ (fun k x i => spec_l07Count.l0 k n i st x.2 x.1 2 r t) (fun i hi _ ih => ?_) (fun _ => ?_) trivial
  · refine Ev.succ ?_
    simp only [spec_l07Count.l0]
    refine Ev.pos (by omega) ?_
    have hsd := tries_seed 2 r t n st seed hs i
    have hc := tries_ok 2 r t n st seed i
    have ih' := ih trivial
    generalize hX : tries 2 r t n st seed i = X at hsd hc ⊢
    have ihe : tries 2 r t n st seed (i + 1) = ((if tryOk 2 r t n st X.2 = true then X.1 + 1 else X.1), (growRing X.2 n).2) := by
      show ((if tryOk 2 r t n st (tries 2 r t n st seed i).2 = true then _ else _), _) = _
      rw [hX]
    rw [ihe] at ih'
    refine Ev.upto n (fun _ => True) (fun j => growRing X.2 j) _ (fun k x j => spec_l07Count.l1 k n (tr - i) st x.2 X.1 x.1 j 2 r t) (fun j hj _ ihj => ?_) (fun _ => ?_) trivial
    · refine Ev.succ ?_
      simp only [spec_l07Count.l1]
      refine Ev.pos (by omega) (Ev.bnd (nextSpec _ (growRing_seed _ hsd j)) (Ev.pos (by rw [growRing_length]; omega) ?_))
      rw [wrap_id (x := (j : Int) + 1) (by omega) (by omega)]
      exact ihj trivial
    · refine Ev.succ ?_
      simp only [spec_l07Count.l1]
      have hg := growRing_ok X.2 hsd n h0 hn
      refine Ev.neg (by omega) (Ev.bind (countOnes _ (by rw [growRing_length]; exact hn) hg.all) ?_)
      refine Ev.upto st (fun _ => True) (fun j => ringSteps 2 r t (growRing X.2 n).1 j) _ (fun k x j => spec_l07Count.l2 k n (tr - i) st (growRing X.2 n).2 X.1 x (if 2 * (growRing X.2 n).1.sum > (growRing X.2 n).1.length then 1 else 0) j 2 r t) (fun j hj _ ihj => ?_) (fun _ => ?_) trivial
      · refine Ev.succ ?_
        simp only [spec_l07Count.l2]
        refine Ev.pos (by omega) (Ev.bind (stepSpec hr (ringSteps_ok hr hg j)) ?_)
        rw [wrap_id (x := (j : Int) + 1) (by omega) (by omega)]
        exact ihj trivial
      · refine Ev.succ ?_
        simp only [spec_l07Count.l2]
        refine Ev.neg (by omega) ?_
        have hlen : (ringSteps 2 r t (growRing X.2 n).1 st).length = n := by rw [ringSteps_length, growRing_length]
        unfold tryOk at ih'
        generalize hL : ringSteps 2 r t (growRing X.2 n).1 st = L at hlen ih' ⊢
        have hm : (if 2 * (growRing X.2 n).1.sum > ((growRing X.2 n).1.length : Int) then (1 : Int) else 0) = most (growRing X.2 n).1 := rfl
        rw [hm]
        refine Ev.upto L.length (fun _ => True) (fun j => (L.take j).all fun x => x == most (growRing X.2 n).1) _ (fun k b j => spec_l07Count.l3 k n (tr - i) st (growRing X.2 n).2 X.1 L (most (growRing X.2 n).1) b L.length j 2 r t) (fun j hj _ ihj => ?_) (fun _ => ?_) trivial
        · refine Ev.succ ?_
          simp only [spec_l07Count.l3]
          refine Ev.pos (by omega) ?_
          have := ihj trivial
          rw [List.take_succ_eq_append_getElem hj, List.all_append] at this
          rw [wrap_id (x := (j : Int) + 1) (by omega) (by omega), rd_lt L j hj]
          by_cases c : ((L.take j).all fun x => x == most (growRing X.2 n).1) = true
          · rw [c, Bool.true_and] at this
            simp only [List.all_cons, List.all_nil, Bool.and_true] at this
            exact Ev.pos c (Ev.pos (by omega) (Ev.pos (by omega) this))
          · rw [Bool.eq_false_iff.mpr c, Bool.false_and] at this
            exact Ev.neg c this
        · refine Ev.succ ?_
          simp only [spec_l07Count.l3]
          rw [List.take_length]
          refine Ev.neg (by omega) ?_
          rw [wrap_id (x := (tr : Int) - i - 1) (by omega) (by omega), wrap_id (x := X.1 + 1) (by omega) (by omega)]
          by_cases c : (L.all fun x => x == most (growRing X.2 n).1) = true
          · rw [if_pos c] at ih'
            exact Ev.pos c ih'
          · rw [if_neg c] at ih'
            exact Ev.neg c ih'
  · refine Ev.succ ?_
    simp only [spec_l07Count.l0]
    exact Ev.neg (by omega) (Ev.now _)

theorem taskImpl {r : Int} {t : List Int} (hr : RuleOk 2 r t) (n tr st : Nat) (seed : Int) (h0 : 0 < n) (hn : n ≤ 64) (htr : tr ≤ 1000000) (hst : st ≤ 1000000) (hs : seedOk seed) :
    Ev (fun k => impl_task.f k 2 r t n tr st seed) (tries 2 r t n st seed tr) := by
  unfold impl_task.f
  refine Ev.upto tr (fun _ => True) (fun i => tries 2 r t n st seed i) _ (fun k x i => impl_task.l0 k n st x.2 x.1 tr i 2 r t) (fun i hi _ ih => ?_) (fun _ => ?_) trivial
  · refine Ev.succ ?_
    simp only [impl_task.l0]
    refine Ev.pos (by omega) ?_
    have hsd := tries_seed 2 r t n st seed hs i
    have hc := tries_ok 2 r t n st seed i
    have ih' := ih trivial
    generalize hX : tries 2 r t n st seed i = X at hsd hc ⊢
    have ihe : tries 2 r t n st seed (i + 1) = ((if tryOk 2 r t n st X.2 = true then X.1 + 1 else X.1), (growRing X.2 n).2) := by
      show ((if tryOk 2 r t n st (tries 2 r t n st seed i).2 = true then _ else _), _) = _
      rw [hX]
    rw [ihe] at ih'
    refine Ev.upto n (fun _ => True) (fun j => growRing X.2 j) _ (fun k x j => impl_task.l1 k n st x.2 X.1 x.1 tr i n j 2 r t) (fun j hj _ ihj => ?_) (fun _ => ?_) trivial
    · refine Ev.succ ?_
      simp only [impl_task.l1]
      refine Ev.pos (by omega) (Ev.bnd (nextImpl _ (growRing_seed _ hsd j)) (Ev.pos (by rw [growRing_length]; omega) ?_))
      rw [wrap_id (x := (j : Int) + 1) (by omega) (by omega)]
      exact ihj trivial
    · refine Ev.succ ?_
      simp only [impl_task.l1]
      have hg := growRing_ok X.2 hsd n h0 hn
      refine Ev.neg (by omega) (Ev.bind (majority _ (by rw [growRing_length]; exact hn) hg.all) ?_)
      refine Ev.upto st (fun _ => True) (fun j => ringSteps 2 r t (growRing X.2 n).1 j) _ (fun k x j => impl_task.l2 k n st (growRing X.2 n).2 X.1 x (if 2 * (growRing X.2 n).1.sum > (growRing X.2 n).1.length then 1 else 0) tr i st j 2 r t) (fun j hj _ ihj => ?_) (fun _ => ?_) trivial
      · refine Ev.succ ?_
        simp only [impl_task.l2]
        refine Ev.pos (by omega) (Ev.bind (stepImpl hr (ringSteps_ok hr hg j)) ?_)
        rw [wrap_id (x := (j : Int) + 1) (by omega) (by omega)]
        exact ihj trivial
      · refine Ev.succ ?_
        simp only [impl_task.l2]
        have hok := ringSteps_ok hr hg st
        have hm : (if 2 * (growRing X.2 n).1.sum > ((growRing X.2 n).1.length : Int) then (1 : Int) else 0) = most (growRing X.2 n).1 := rfl
        unfold tryOk at ih'
        have hmo := most_ok (growRing X.2 n).1
        rw [hm, wrap_id (x := 1 - most (growRing X.2 n).1) (by omega) (by omega), wrap_id (x := (i : Int) + 1) (by omega) (by omega)]
        refine Ev.neg (by omega) (Ev.bind (contains _ _ (by have := hok.le; omega)) (Ev.bnd (bit _) ?_))
        rw [noneOther _ _ hok.all hmo]
        by_cases c : ((ringSteps 2 r t (growRing X.2 n).1 st).all fun x => x == most (growRing X.2 n).1) = true
        · rw [if_pos c] at ih'
          rw [if_pos c, wrap_id (x := X.1 + 1) (by omega) (by omega)]
          exact ih'
        · rw [if_neg c] at ih'
          rw [if_neg c, wrap_id (x := X.1 + 0) (by omega) (by omega), Int.add_zero]
          exact ih'
  · refine Ev.succ ?_
    simp only [impl_task.l0]
    exact Ev.neg (by omega) (Ev.now _)

/-- A rule can be tried so. -/
def taskOk (s r : Int) (t : List Int) (n tr st seed : Int) : Prop := validRule s r t = true ∧ s = 2 ∧ Int.tmod n 2 = 1 ∧ 2 * r + 1 ≤ n ∧ n ≤ 64 ∧ 1 ≤ tr ∧ tr ≤ 32 ∧ 0 ≤ st ∧ st ≤ 64 ∧ seedOk seed
theorem isTaskSpec (s r : Int) (t : List Int) (n tr st seed : Int) (hl : t.length ≤ 35184372088832) : Ev (fun k => spec_l07Task.f k s r t n tr st seed) (cd (taskOk s r t n tr st seed)) := by
  unfold spec_l07Task.f
  refine Ev.bind (l07Two s r t hl) ?_
  by_cases c : (validRule s r t && decide (s = 2)) = true
  · refine Ev.pos c ?_
    rw [Bool.and_eq_true, decide_eq_true_eq] at c
    have hr := RuleOk.of c.1
    have := hr.r0; have := hr.r1
    rw [wrap_id (x := 2 * r) (by omega) (by omega), wrap_id (x := 2 * r + 1) (by omega) (by omega)]
    refine Ev.bnd (l00In _ _ _) ?_
    by_cases c1 : 2 * r + 1 ≤ n ∧ n ≤ 64
    · refine Ev.pos (by simpa using c1) ?_
      by_cases c2 : Int.tmod n 2 = 1
      · refine Ev.pos c2 (Ev.bnd (l00In _ _ _) ?_)
        by_cases c3 : 1 ≤ tr ∧ tr ≤ 32
        · refine Ev.pos (by simpa using c3) (Ev.bnd (l00In _ _ _) ?_)
          by_cases c4 : 0 ≤ st ∧ st ≤ 64
          · refine Ev.pos (by simpa using c4) (Ev.bnd (seedSpec _) (Ev.val ?_))
            by_cases c5 : seedOk seed
            · rw [decide_eq_true c5, cd_true ⟨c.1, c.2, c2, c1.1, c1.2, c3.1, c3.2, c4.1, c4.2, c5⟩]
            · rw [decide_eq_false c5, cd_false (fun h => c5 h.2.2.2.2.2.2.2.2.2)]
          · exact Ev.neg (by simpa using c4) (Ev.val (by rw [cd_false (fun h => c4 ⟨h.2.2.2.2.2.2.2.1, h.2.2.2.2.2.2.2.2.1⟩)]))
        · exact Ev.neg (by simpa using c3) (Ev.val (by rw [cd_false (fun h => c3 ⟨h.2.2.2.2.2.1, h.2.2.2.2.2.2.1⟩)]))
      · exact Ev.neg c2 (Ev.val (by rw [cd_false (fun h => c2 h.2.2.1)]))
    · exact Ev.neg (by simpa using c1) (Ev.val (by rw [cd_false (fun h => c1 ⟨h.2.2.2.1, h.2.2.2.2.1⟩)]))
  · refine Ev.neg c (Ev.val ?_)
    rw [cd_false (fun h => c (by rw [h.1, h.2.1]; rfl))]
theorem isTaskImpl (s r : Int) (t : List Int) (n tr st seed : Int) (hl : t.length ≤ 35184372088832) : Ev (fun k => impl_isTask.f k s r t n tr st seed) (cd (taskOk s r t n tr st seed)) := by
  unfold impl_isTask.f
  refine Ev.bind (ValidRule s r t hl) ?_
  by_cases c : validRule s r t = true
  · refine Ev.pos c ?_
    by_cases h2 : s = 2
    · refine Ev.pos h2 ?_
      have hr := RuleOk.of c
      have := hr.r0; have := hr.r1
      by_cases c2 : Int.tmod n 2 = 1
      · refine Ev.pos c2 (Ev.bnd (ruleCells _ _ _ (by omega) (by omega)) (Ev.bnd (within _ _ _) ?_))
        by_cases c1 : 2 * r + 1 ≤ n ∧ n ≤ 64
        · refine Ev.pos (by simpa using c1) (Ev.bnd (within _ _ _) ?_)
          by_cases c3 : 1 ≤ tr ∧ tr ≤ 32
          · refine Ev.pos (by simpa using c3) (Ev.bnd (within _ _ _) ?_)
            by_cases c4 : 0 ≤ st ∧ st ≤ 64
            · refine Ev.pos (by simpa using c4) (Ev.bnd (seedImpl _) (Ev.val ?_))
              by_cases c5 : seedOk seed
              · rw [decide_eq_true c5, cd_true ⟨c, h2, c2, c1.1, c1.2, c3.1, c3.2, c4.1, c4.2, c5⟩]
              · rw [decide_eq_false c5, cd_false (fun h => c5 h.2.2.2.2.2.2.2.2.2)]
            · exact Ev.neg (by simpa using c4) (Ev.val (by rw [cd_false (fun h => c4 ⟨h.2.2.2.2.2.2.2.1, h.2.2.2.2.2.2.2.2.1⟩)]))
          · exact Ev.neg (by simpa using c3) (Ev.val (by rw [cd_false (fun h => c3 ⟨h.2.2.2.2.2.1, h.2.2.2.2.2.2.1⟩)]))
        · exact Ev.neg (by simpa using c1) (Ev.val (by rw [cd_false (fun h => c1 ⟨h.2.2.2.1, h.2.2.2.2.1⟩)]))
      · exact Ev.neg c2 (Ev.val (by rw [cd_false (fun h => c2 h.2.2.1)]))
    · exact Ev.neg h2 (Ev.val (by rw [cd_false (fun h => h2 h.2.1)]))
  · exact Ev.neg c (Ev.val (by rw [cd_false (fun h => c h.1)]))
/-- What TaskCount answers. -/
noncomputable def taskCount (s r : Int) (t : List Int) (n tr st seed : Int) : Int × Int × Bool :=
  if cd (taskOk s r t n tr st seed) = true then ((tries 2 r t n.toNat st.toNat seed tr.toNat).1, (tries 2 r t n.toNat st.toNat seed tr.toNat).2, true) else (0, 0, false)
theorem taskCountSpec (s r : Int) (t : List Int) (n tr st seed : Int) (hl : t.length ≤ 35184372088832) : Ev (fun k => spec_TaskCount.f k s r t n tr st seed) (taskCount s r t n tr st seed) := by
  unfold spec_TaskCount.f taskCount
  refine Ev.bind (isTaskSpec s r t n tr st seed hl) ?_
  by_cases c : cd (taskOk s r t n tr st seed) = true
  · rw [if_pos c]
    refine Ev.pos c ?_
    obtain ⟨h1, rfl, h3, h4, h5, h6, h7, h8, h9, h10⟩ := cd_iff.1 c
    have hr := RuleOk.of h1
    have := hr.r0
    obtain ⟨n', rfl⟩ := Int.eq_ofNat_of_zero_le (show 0 ≤ n by omega)
    obtain ⟨tr', rfl⟩ := Int.eq_ofNat_of_zero_le (show 0 ≤ tr by omega)
    obtain ⟨st', rfl⟩ := Int.eq_ofNat_of_zero_le (show 0 ≤ st by omega)
    exact Ev.bind (taskSpec hr n' tr' st' seed (by omega) (by omega) (by omega) (by omega) h10) (Ev.now _)
  · rw [if_neg c]
    exact Ev.neg c (Ev.now _)
theorem taskCountImpl (s r : Int) (t : List Int) (n tr st seed : Int) (hl : t.length ≤ 35184372088832) : Ev (fun k => impl_TaskCount.f k s r t n tr st seed) (taskCount s r t n tr st seed) := by
  unfold impl_TaskCount.f taskCount
  refine Ev.bind (isTaskImpl s r t n tr st seed hl) ?_
  by_cases c : cd (taskOk s r t n tr st seed) = true
  · rw [if_pos c]
    refine Ev.pos c ?_
    obtain ⟨h1, rfl, h3, h4, h5, h6, h7, h8, h9, h10⟩ := cd_iff.1 c
    have hr := RuleOk.of h1
    have := hr.r0
    obtain ⟨n', rfl⟩ := Int.eq_ofNat_of_zero_le (show 0 ≤ n by omega)
    obtain ⟨tr', rfl⟩ := Int.eq_ofNat_of_zero_le (show 0 ≤ tr by omega)
    obtain ⟨st', rfl⟩ := Int.eq_ofNat_of_zero_le (show 0 ≤ st by omega)
    exact Ev.bind (taskImpl hr n' tr' st' seed (by omega) (by omega) (by omega) (by omega) h10) (Ev.now _)
  · rw [if_neg c]
    exact Ev.neg c (Ev.now _)

theorem FnExactTaskCount : laws_FnExactTaskCount.Pure := by
  intro s r t n tr st seed _ _ hz _ _ _ _
  have hl : t.length ≤ 17592186044415 := by omega
  refine Ev.rounds ?_
  unfold laws_FnExactTaskCount.f
  refine Ev.bnd (szRule s r t _ (by omega) (by omega) (by omega)) ?_
  by_cases c : (1048576 : Int) - (t.length : Int) < 0
  · rw [if_pos c]
    exact Ev.pos (by omega) (Ev.now _)
  · rw [if_neg c]
    refine Ev.neg c (Ev.bind (toRule s r t (by omega)) (Ev.bind (taskCountSpec s r t n tr st seed (by omega)) (Ev.bind (toRule s r t (by omega)) (Ev.bind (taskCountImpl s r t n tr st seed (by omega)) (Ev.pos (by trivial) (Ev.pos (by trivial) (Ev.succ ?_)))))))
    simp only [laws_FnExactTaskCount.j0]
    exact Ev.neg (by simp) (Ev.bind (toRule s r t (by omega)) (Ev.bind (eqRule _ _ _ _ _ _ (by omega)) (Ev.pos (by simp) (Ev.now _))))

end Go.Proofs.Ytacjknmphgpjaaa.Pure

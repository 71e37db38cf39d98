/- BreedOnce of the program and of the reference answer the same for all arguments; what it answers shares no memory with another answer. -/
import Derived.Test.YtmepkamfchfoiaaPFnExactBreedOncex0
import Derived.Test.YtmepkamfchfoiaaPFnExactBreedOncex1
import Derived.Test.YtmepkamfchfoiaaPFnExactBreedOncex2
import Derived.Test.YtmepkamfchfoiaaPFnExactBreedOncex3
import Derived.Test.YtmepkamfchfoiaaPFnExactBreedOncex4
import Derived.Test.YtmepkamfchfoiaaPFnExactBreedOncex5
import Derived.Test.YtmepkamfchfoiaaVFnExactBreedOnceLib
namespace Go.Proofs.Ytmepkamfchfoiaa.Pure
open Go.RowKit Go.Proofs.Ytmepkamfchfoiaa.PFnExactBreedOnce Go.Proofs.YtmepkamfchfoiaaW.PrintWords Go.Proofs.YtmepkamfchfoiaaW.PrintLast Go.Proofs.Ytmepkamfchfoiaa.L
set_option linter.unusedVariables false
set_option linter.unusedSimpArgs false

theorem l00In (a b c : Int) : spec_l00In.f a b c = some (decide (b ≤ a ∧ a ≤ c)) := by
  unfold spec_l00In.f
  by_cases h : a ≥ b
  · rw [if_pos h]; simp; omega
  · rw [if_neg h]; simp; omega

theorem l02Powers (x n : Int) (h0 : 0 ≤ x) (h1 : x ≤ 10) (hn0 : 0 ≤ n) (hn : n ≤ 12) : Ev (fun k => spec_l02Powers.f k x n) (x ^ n.toNat) := by
  unfold spec_l02Powers.f
  obtain ⟨m, rfl⟩ := Int.eq_ofNat_of_zero_le hn0
  have main : ∀ d i : Nat, i + d = m → Ev (fun k => spec_l02Powers.l0 k x (d : Int) (x ^ i)) (x ^ m) := by
    intro d
    induction d with
    | zero =>
      intro i hi
      refine Ev.succ ?_
      simp only [spec_l02Powers.l0]
      exact Ev.neg (by omega) (Ev.val (by rw [show i = m by omega]))
    | succ d ih =>
      intro i hi
      refine Ev.succ ?_
      simp only [spec_l02Powers.l0]
      have hb := pow_bound x (i + 1) h0 h1 (by omega)
      rw [Int.pow_succ] at hb
      refine Ev.pos (by omega) ?_
      rw [wrap_id (x := ((d + 1 : Nat) : Int) - 1) (by omega) (by omega), wrap_id (x := x ^ i * x) (by omega) (by omega), ← Int.pow_succ, show ((d + 1 : Nat) : Int) - 1 = (d : Int) by omega]
      exact ih (i + 1) (by omega)
  have := main m 0 (by omega)
  rw [Int.pow_zero] at this
  exact this

theorem l02Is (s r : Int) (t : List Int) (hl : t.length ≤ 35184372088832) : Ev (fun k => spec_l02Is.f k s r t) (validRule s r t) := by
  unfold spec_l02Is.f validRule
  refine Ev.bnd (l00In s 2 3) ?_
  by_cases hs : 2 ≤ s ∧ s ≤ 3
  · refine Ev.pos (by simpa using hs) (Ev.bnd (l00In r 0 2) ?_)
    by_cases hr : 0 ≤ r ∧ r ≤ 2
    · refine Ev.pos (by simpa using hr) ?_
      rw [wrap_id (x := 2 * r) (by omega) (by omega), wrap_id (x := 2 * r + 1) (by omega) (by omega)]
      refine Ev.bind (l02Powers s (2 * r + 1) (by omega) (by omega) (by omega) (by omega)) (Ev.succ ?_)
      simp only [spec_l02Is.j0]
      by_cases hn : (t.length : Int) = s ^ (2 * r + 1).toNat
      · refine Ev.neg (by simp [hn]) ?_
        rw [decide_eq_true hs, decide_eq_true hr, decide_eq_true hn, Bool.true_and, Bool.true_and, Bool.true_and]
        refine Ev.upto t.length (fun i => ∀ j, (hj : j < t.length) → j < i → 0 ≤ t[j] ∧ t[j] ≤ s - 1) (fun _ => ()) _ (fun k _ i => spec_l02Is.l0 k i s r t) (fun i hi hp ih => ?_) (fun hp => ?_) (fun j hj h => by omega)
        · refine Ev.succ ?_
          simp only [spec_l02Is.l0]
          refine Ev.pos (by omega) (Ev.pos (by omega) ?_)
          rw [rd_lt t i (by omega), wrap_id (x := s - 1) (by omega) (by omega), wrap_id (x := (i : Int) + 1) (by omega) (by omega)]
          refine Ev.bnd (l00In _ _ _) ?_
          by_cases c : 0 ≤ t[i] ∧ t[i] ≤ s - 1
          · exact Ev.pos (by simpa using c) (ih (upTo_succ (p := fun x => 0 ≤ x ∧ x ≤ s - 1) hi hp c))
          · exact Ev.neg (by simpa using c) (Ev.val (by rw [allIn_false i (by omega) c]))
        · refine Ev.succ ?_
          simp only [spec_l02Is.l0]
          exact Ev.neg (by omega) (Ev.val (by rw [allIn_true (fun j hj' => hp j hj' (by omega))]))
      · exact Ev.pos (by simp [hn]) (Ev.val (by simp [hn]))
    · refine Ev.neg (by simpa using hr) (Ev.succ ?_)
      simp only [spec_l02Is.j0]
      exact Ev.pos (by trivial) (Ev.val (by simp [hr]))
  · refine Ev.neg (by simpa using hs) (Ev.succ ?_)
    simp only [spec_l02Is.j0]
    exact Ev.pos (by trivial) (Ev.val (by simp [hs]))

theorem l07Two (s r : Int) (t : List Int) (hl : t.length ≤ 35184372088832) : Ev (fun k => spec_l07Two.f k s r t) (validRule s r t && decide (s = 2)) := by
  unfold spec_l07Two.f
  refine Ev.bind (l02Is s r t hl) ?_
  by_cases c : validRule s r t = true
  · exact Ev.pos c (Ev.val (by rw [c, Bool.true_and]; rfl))
  · exact Ev.neg c (Ev.val (by rw [Bool.eq_false_iff.mpr c, Bool.false_and]))

theorem within (a b c : Int) : impl_within.f a b c = some (decide (b ≤ a ∧ a ≤ c)) := by
  unfold impl_within.f
  by_cases h : a ≥ b
  · rw [if_pos h]; simp; omega
  · rw [if_neg h]; simp; omega

theorem areWithin (l : List Int) (a b : Int) (hl : l.length ≤ 35184372088832) : Ev (fun k => impl_areWithin.f k l a b) (allIn l a b) := by
  unfold impl_areWithin.f
  refine Ev.upto l.length (fun i => ∀ j, (hj : j < l.length) → j < i → a ≤ l[j] ∧ l[j] ≤ b) (fun _ => ()) _ (fun k _ i => impl_areWithin.l0 k a b l l.length i) (fun i hi hp ih => ?_) (fun hp => ?_) (fun j hj h => by omega)
  · refine Ev.succ ?_
    simp only [impl_areWithin.l0]
    refine Ev.pos (by omega) (Ev.pos (by omega) (Ev.pos (by omega) ?_))
    rw [rd_lt l i (by omega), wrap_id (by omega) (by omega), within]
    by_cases c : a ≤ l[i] ∧ l[i] ≤ b
    · exact Ev.bnd rfl (Ev.pos (by simpa using c) (ih (upTo_succ (p := fun x => a ≤ x ∧ x ≤ b) hi hp c)))
    · exact Ev.bnd rfl (Ev.neg (by simpa using c) (Ev.val (by rw [allIn_false i (by omega) c])))
  · refine Ev.succ ?_
    simp only [impl_areWithin.l0]
    exact Ev.neg (by omega) (Ev.val (by rw [allIn_true (fun j hj' => hp j hj' (by omega))]))

theorem areMany (l : List Int) (a b c d : Int) (hl : l.length ≤ 35184372088832) : Ev (fun k => impl_areMany.f k l a b c d) (decide (a ≤ l.length ∧ l.length ≤ b) && allIn l c d) := by
  unfold impl_areMany.f
  refine Ev.bnd (within _ _ _) ?_
  by_cases h : a ≤ l.length ∧ l.length ≤ b
  · refine Ev.pos (by simpa using h) (Ev.cast (Ev.bind (areWithin l c d hl) (Ev.now _)) (by simp [h]))
  · exact Ev.neg (by simpa using h) (Ev.val (by simp [h]))

theorem areStates (s : Int) : impl_areStates.f s = some (decide (s = 2 ∨ s = 3)) := by
  unfold impl_areStates.f
  by_cases h : s = 2
  · rw [if_pos h]; simp [h]
  · rw [if_neg h]
    by_cases h3 : s = 3
    · subst h3; rfl
    · simp [h, h3]

theorem raised (x n : Int) (h0 : 0 ≤ x) (h1 : x ≤ 10) (hn0 : 0 ≤ n) (hn : n ≤ 12) : Ev (fun k => impl_raised.f k x n) (x ^ n.toNat) := by
  unfold impl_raised.f
  obtain ⟨m, rfl⟩ := Int.eq_ofNat_of_zero_le hn0
  rw [Int.toNat_natCast]
  refine Ev.congr (fun k => ?_) (Ev.upto m (fun _ => True) (fun i => x ^ i) (x ^ m) (fun k s i => impl_raised.l0 k x s m i) (fun i hi _ ih => ?_) (fun _ => ?_) trivial)
  · rw [Int.pow_zero]
  · refine Ev.succ ?_
    simp only [impl_raised.l0]
    have hb := pow_bound x (i + 1) h0 h1 (by omega)
    rw [Int.pow_succ] at hb
    refine Ev.pos (by omega) ?_
    rw [wrap_id (x := (i : Int) + 1) (by omega) (by omega), wrap_id (x := x ^ i * x) (by omega) (by omega), ← Int.pow_succ]
    exact ih trivial
  · refine Ev.succ ?_
    simp only [impl_raised.l0]
    exact Ev.neg (by omega) (Ev.now _)

theorem isReach (r : Int) : impl_isReach.f r = some (decide (0 ≤ r ∧ r ≤ 2)) := by
  unfold impl_isReach.f
  rw [within]; rfl
theorem ruleCells (s r : Int) (t : List Int) (h0 : 0 ≤ r) (h1 : r ≤ 2) : impl_Rule_cells.f s r t = some (2 * r + 1) := by
  unfold impl_Rule_cells.f
  rw [wrap_id (x := 2 * r) (by omega) (by omega), wrap_id (x := 2 * r + 1) (by omega) (by omega)]

theorem ValidRule (s r : Int) (t : List Int) (hl : t.length ≤ 35184372088832) : Ev (fun k => impl_ValidRule.f k s r t) (validRule s r t) := by
  unfold impl_ValidRule.f validRule
  refine Ev.bnd (areStates s) ?_
  by_cases hs : 2 ≤ s ∧ s ≤ 3
  · refine Ev.pos (by simp; omega) (Ev.bnd (isReach r) (Ev.succ ?_))
    simp only [impl_ValidRule.j0]
    by_cases hr : 0 ≤ r ∧ r ≤ 2
    · refine Ev.neg (by simpa using hr) (Ev.bnd (ruleCells s r t hr.1 hr.2) (Ev.bind (raised s (2 * r + 1) (by omega) (by omega) (by omega) (by omega)) ?_))
      rw [wrap_id (x := s - 1) (by omega) (by omega)]
      refine Ev.cast (Ev.bind (areMany t _ _ 0 (s - 1) hl) (Ev.now _)) ?_
      rw [decide_eq_true hs, decide_eq_true hr, Bool.true_and, Bool.true_and]
      congr 1
      exact decide_eq_decide.mpr (by omega)
    · exact Ev.pos (by simp; omega) (Ev.val (by simp [hr]))
  · refine Ev.neg (by simp; omega) (Ev.succ ?_)
    simp only [impl_ValidRule.j0]
    exact Ev.pos (by trivial) (Ev.val (by simp [hs]))

/-- The next seed. -/
def nextS (s : Int) : Int := Int.tmod (1664525 * s + 1013904223) 4294967296
/-- A seed. -/
def seedOk (s : Int) : Prop := 0 ≤ s ∧ s ≤ 4294967295
instance (s : Int) : Decidable (seedOk s) := inferInstanceAs (Decidable (_ ∧ _))
theorem nextS_ok (s : Int) (h : seedOk s) : seedOk (nextS s) := by unfold nextS seedOk at *; rw [Int.tmod_eq_emod_of_nonneg (by omega)]; omega
theorem nextWrap (s : Int) (h : seedOk s) : Int.tmod (wrap64 ((wrap64 (1664525 * s)) + 1013904223)) 4294967296 = nextS s := by
  unfold seedOk at h
  rw [wrap_id (x := 1664525 * s) (by omega) (by omega), wrap_id (x := 1664525 * s + 1013904223) (by omega) (by omega)]; rfl
theorem nextSpec (s : Int) (h : seedOk s) : spec_l07Next.f s = some (nextS s) := by unfold spec_l07Next.f; rw [nextWrap s h]
theorem nextImpl (s : Int) (h : seedOk s) : impl_nextSeed.f s = some (nextS s) := by unfold impl_nextSeed.f; rw [nextWrap s h]
theorem seedSpec (s : Int) : spec_l07Seed.f s = some (decide (seedOk s)) := by unfold spec_l07Seed.f; rw [l00In]; exact congrArg some (decide_eq_decide.mpr Iff.rfl)
theorem seedImpl (s : Int) : impl_isSeed.f s = some (decide (seedOk s)) := by unfold impl_isSeed.f; rw [within]; exact congrArg some (decide_eq_decide.mpr Iff.rfl)

/-- The place on a ring, from 0 on. -/
def fm (x : Int) (n : Int) : Int := Int.tmod (wrap64 ((Int.tmod x n) + n)) n
theorem fm_ok (x n : Int) (h0 : 0 < n) (hn : n ≤ 1000000000000) : 0 ≤ fm x n ∧ fm x n < n := by
  unfold fm
  have h1 := Int.tmod_lt_of_pos x h0
  have h2 : -n < Int.tmod x n := by
    have := Int.tmod_lt_of_pos (-x) h0
    rw [Int.neg_tmod] at this
    omega
  rw [wrap_id (x := Int.tmod x n + n) (by omega) (by omega)]
  exact ⟨Int.tmod_nonneg _ (by omega), Int.tmod_lt_of_pos _ h0⟩

/-- The number that cells of a ring from a place on tell. -/
def tl (s : Int) (ring : List Int) (lo : Int) : Nat → Int
  | 0 => 0
  | j + 1 => tl s ring lo j * s + rd ring (fm (lo + (j : Int)) ring.length)
/-- A rule that is valid, as facts. -/
structure RuleOk (s r : Int) (t : List Int) : Prop where
  s0 : 2 ≤ s
  s1 : s ≤ 3
  r0 : 0 ≤ r
  r1 : r ≤ 2
  n : (t.length : Int) = s ^ (2 * r + 1).toNat
  all : ∀ x ∈ t, 0 ≤ x ∧ x ≤ s - 1
theorem RuleOk.of {s r : Int} {t : List Int} (h : validRule s r t = true) : RuleOk s r t := by
  unfold validRule at h
  simp only [Bool.and_eq_true, decide_eq_true_eq] at h
  exact ⟨h.1.1.1.1, h.1.1.1.2, h.1.1.2.1, h.1.1.2.2, h.1.2, allIn_iff.1 h.2⟩
/-- A ring of states. -/
structure RingOk (s : Int) (ring : List Int) : Prop where
  pos : 0 < ring.length
  le : ring.length ≤ 1000000
  all : ∀ x ∈ ring, 0 ≤ x ∧ x ≤ s - 1
theorem tl_ok (s : Int) (ring : List Int) (lo : Int) (hs0 : 2 ≤ s) (hs1 : s ≤ 3) (h : RingOk s ring) (j : Nat) : 0 ≤ tl s ring lo j ∧ tl s ring lo j < s ^ j := by
  induction j with
  | zero => simp [tl]
  | succ j ih =>
    have hf := fm_ok (lo + (j : Int)) ring.length (by have := h.pos; omega) (by have := h.le; omega)
    have hx := h.all _ (rd_mem ring _ hf.1 (by omega))
    show 0 ≤ tl s ring lo j * s + rd ring (fm (lo + (j : Int)) ring.length) ∧ tl s ring lo j * s + rd ring (fm (lo + (j : Int)) ring.length) < s ^ (j + 1)
    rw [Int.pow_succ]
    have h1 : 0 ≤ tl s ring lo j * s := Int.mul_nonneg ih.1 (by omega)
    have h2 : tl s ring lo j * s ≤ (s ^ j - 1) * s := Int.mul_le_mul_of_nonneg_right (by omega) (by omega)
    rw [Int.sub_mul, Int.one_mul] at h2
    omega
/-- What a rule tells at a place of a ring. -/
def told (s r : Int) (t ring : List Int) (i : Int) : Int := rd t (tl s ring (i - r) (2 * r + 1).toNat)
theorem told_ok {s r : Int} {t ring : List Int} (hr : RuleOk s r t) (h : RingOk s ring) (i : Int) : 0 ≤ told s r t ring i ∧ told s r t ring i ≤ s - 1 := by
  have := tl_ok s ring (i - r) hr.s0 hr.s1 h (2 * r + 1).toNat
  exact hr.all _ (rd_mem t _ this.1 (by rw [hr.n]; exact this.2))
/-- A step of a ring. -/
def ringStep (s r : Int) (t ring : List Int) : List Int := (List.range ring.length).map fun (i : Nat) => told s r t ring (i : Int)
theorem ringStep_length (s r : Int) (t ring : List Int) : (ringStep s r t ring).length = ring.length := by simp [ringStep]
theorem ringStep_ok {s r : Int} {t ring : List Int} (hr : RuleOk s r t) (h : RingOk s ring) : RingOk s (ringStep s r t ring) := by
  refine ⟨by rw [ringStep_length]; exact h.pos, by rw [ringStep_length]; exact h.le, fun x hx => ?_⟩
  simp only [ringStep, List.mem_map] at hx
  obtain ⟨i, _, rfl⟩ := hx
  exact told_ok hr h _
theorem ringStep_take (s r : Int) (t ring : List Int) (i : Nat) (h : i < ring.length) : (ringStep s r t ring).take (i + 1) = (ringStep s r t ring).take i ++ [told s r t ring (i : Int)] := by
  rw [List.take_succ_eq_append_getElem (by rw [ringStep_length]; exact h)]
  simp [ringStep]
/-- Steps of a ring. -/
def ringSteps (s r : Int) (t ring : List Int) : Nat → List Int
  | 0 => ring
  | n + 1 => ringStep s r t (ringSteps s r t ring n)
theorem ringSteps_ok {s r : Int} {t ring : List Int} (hr : RuleOk s r t) (h : RingOk s ring) (n : Nat) : RingOk s (ringSteps s r t ring n) := by
  induction n with
  | zero => exact h
  | succ n ih => exact ringStep_ok hr ih
theorem ringSteps_length (s r : Int) (t ring : List Int) (n : Nat) : (ringSteps s r t ring n).length = ring.length := by
  induction n with
  | zero => rfl
  | succ n ih => show (ringStep _ _ _ _).length = _; rw [ringStep_length, ih]

/-- A ring that seeds tell, with the seed behind it. -/
def growRing (seed : Int) : Nat → List Int × Int
  | 0 => ([], seed)
  | n + 1 => ((growRing seed n).1 ++ [wrap64 (Int.tdiv (nextS (growRing seed n).2) 2147483648)], nextS (growRing seed n).2)
theorem growRing_length (seed : Int) (n : Nat) : (growRing seed n).1.length = n := by
  induction n with
  | zero => rfl
  | succ n ih => show ((growRing seed n).1 ++ [_]).length = _; rw [List.length_append, ih]; rfl
theorem growRing_seed (seed : Int) (h : seedOk seed) (n : Nat) : seedOk (growRing seed n).2 := by
  induction n with
  | zero => exact h
  | succ n ih => exact nextS_ok _ ih
theorem growRing_bits (seed : Int) (h : seedOk seed) (n : Nat) : ∀ x ∈ (growRing seed n).1, 0 ≤ x ∧ x ≤ 1 := by
  induction n with
  | zero => intro x hx; cases hx
  | succ n ih =>
    intro x hx
    rcases List.mem_append.1 hx with hx | hx
    · exact ih x hx
    · obtain rfl := List.mem_singleton.1 hx
      have hs := nextS_ok _ (growRing_seed seed h n)
      unfold seedOk at hs
      rw [Int.tdiv_eq_ediv_of_nonneg hs.1, wrap_id (by omega) (by omega)]
      omega
/-- What most cells of a ring are. -/
def most (l : List Int) : Int := if 2 * l.sum > l.length then 1 else 0
/-- Whether a try comes to the majority. -/
def tryOk (s r : Int) (t : List Int) (n steps : Nat) (seed : Int) : Bool :=
  (ringSteps s r t (growRing seed n).1 steps).all fun x => x == most (growRing seed n).1
/-- How many tries come to the majority, and the seed behind them. -/
def tries (s r : Int) (t : List Int) (n steps : Nat) (seed : Int) : Nat → Int × Int
  | 0 => (0, seed)
  | i + 1 => ((if tryOk s r t n steps (tries s r t n steps seed i).2 = true then (tries s r t n steps seed i).1 + 1 else (tries s r t n steps seed i).1), (growRing (tries s r t n steps seed i).2 n).2)
theorem tries_seed (s r : Int) (t : List Int) (n steps : Nat) (seed : Int) (h : seedOk seed) (i : Nat) : seedOk (tries s r t n steps seed i).2 := by
  induction i with
  | zero => exact h
  | succ i ih => exact growRing_seed _ ih n
theorem tries_ok (s r : Int) (t : List Int) (n steps : Nat) (seed : Int) (i : Nat) : 0 ≤ (tries s r t n steps seed i).1 ∧ (tries s r t n steps seed i).1 ≤ i := by
  induction i with
  | zero => exact ⟨by show (0 : Int) ≤ 0; omega, by show (0 : Int) ≤ _; omega⟩
  | succ i ih =>
    simp only [tries]
    split <;> omega
theorem growRing_ok (seed : Int) (h : seedOk seed) (n : Nat) (h0 : 0 < n) (hn : n ≤ 64) : RingOk 2 (growRing seed n).1 :=
  ⟨by rw [growRing_length]; exact h0, by rw [growRing_length]; omega, growRing_bits seed h n⟩

theorem sumOf (l : List Int) (B : Int) (hB : B ≤ 1000000000) (hl : l.length ≤ 1000000000) (h : ∀ x ∈ l, -B ≤ x ∧ x ≤ B) : Ev (fun k => impl_sumOf.f k l) l.sum := by
  unfold impl_sumOf.f
  refine Ev.cast (Ev.upto l.length (fun _ => True) (fun i => (l.take i).sum) l.sum (fun k s i => impl_sumOf.l0 k s l l.length i) (fun i hi _ ih => ?_) (fun _ => ?_) trivial) rfl
  · refine Ev.succ ?_
    simp only [impl_sumOf.l0]
    refine Ev.pos (by omega) (Ev.pos (by omega) (Ev.pos (by omega) ?_))
    have hs := sum_bound (l.take (i + 1)) (-B) B (fun x hx => h x (List.mem_of_mem_take hx))
    rw [List.length_take, Nat.min_eq_left (by omega)] at hs
    have hm : B * ((i + 1 : Nat) : Int) ≤ 1000000000 * ((i + 1 : Nat) : Int) := Int.mul_le_mul_of_nonneg_right hB (by omega)
    have hm' : -B * ((i + 1 : Nat) : Int) = -(B * ((i + 1 : Nat) : Int)) := by rw [Int.neg_mul]
    rw [sum_take_succ l i hi] at hs
    rw [rd_lt l i hi, wrap_id (x := (l.take i).sum + l[i]) (by omega) (by omega), wrap_id (x := (i : Int) + 1) (by omega) (by omega), ← sum_take_succ l i hi]
    exact ih trivial
  · refine Ev.succ ?_
    simp only [impl_sumOf.l0]
    exact Ev.neg (by omega) (Ev.val (by rw [List.take_length]))

theorem bit (b : Bool) : impl_bit.f b = some (if b = true then 1 else 0) := by
  unfold impl_bit.f
  split <;> rfl

theorem countOnes (l : List Int) (hl : l.length ≤ 64) (h : ∀ x ∈ l, 0 ≤ x ∧ x ≤ 1) : Ev (fun k => spec_l07Majority.f k l) (if 2 * l.sum > l.length then 1 else 0) := by
  unfold spec_l07Majority.f
  refine Ev.cast (Ev.upto l.length (fun _ => True) (fun i => (l.take i).sum) _ (fun k s i => spec_l07Majority.l0 k l s l.length i) (fun i hi _ ih => ?_) (fun _ => ?_) trivial) rfl
  · refine Ev.succ ?_
    simp only [spec_l07Majority.l0]
    refine Ev.pos (by omega) (Ev.pos (by omega) (Ev.pos (by omega) ?_))
    have hb := sum_bound (l.take i) 0 1 (fun x hx => h x (List.mem_of_mem_take hx))
    rw [List.length_take, Nat.min_eq_left (by omega)] at hb
    have hx := h l[i] (List.getElem_mem hi)
    have := ih trivial
    rw [sum_take_succ l i hi] at this
    rw [rd_lt l i hi, wrap_id (x := (l.take i).sum + 1) (by omega) (by omega), wrap_id (x := (i : Int) + 1) (by omega) (by omega)]
    by_cases e : l[i] = 1
    · rw [e] at this
      exact Ev.pos e this
    · have e0 : l[i] = 0 := by omega
      rw [e0, Int.add_zero] at this
      exact Ev.neg e this
  · refine Ev.succ ?_
    simp only [spec_l07Majority.l0]
    refine Ev.neg (by omega) ?_
    have hb := sum_bound l 0 1 h
    rw [List.take_length, wrap_id (x := 2 * l.sum) (by omega) (by omega)]
    by_cases c : 2 * l.sum > l.length
    · exact Ev.pos c (Ev.val (by rw [if_pos c]))
    · exact Ev.neg c (Ev.val (by rw [if_neg c]))

theorem majority (l : List Int) (hl : l.length ≤ 64) (h : ∀ x ∈ l, 0 ≤ x ∧ x ≤ 1) : Ev (fun k => impl_majority.f k l) (if 2 * l.sum > l.length then 1 else 0) := by
  unfold impl_majority.f
  refine Ev.bind (sumOf l 1 (by omega) (by omega) (fun x hx => by have := h x hx; omega)) ?_
  have hb := sum_bound l 0 1 h
  rw [wrap_id (x := 2 * l.sum) (by omega) (by omega)]
  refine Ev.bnd (bit _) (Ev.val ?_)
  simp

theorem toldSpec {s r : Int} {t ring : List Int} (hr : RuleOk s r t) (h : RingOk s ring) (i : Int) (hi0 : 0 ≤ i) (hi1 : i ≤ 1000000) : Ev (fun k => spec_l02Told.f k s r t ring i) (told s r t ring i) := by
  unfold spec_l02Told.f
  have := hr.r0; have := hr.r1; have := hr.s0; have := hr.s1; have hn := h.pos; have hn1 := h.le
  rw [wrap_id (x := i - r) (by omega) (by omega)]
  refine Ev.congr (fun k => ?_) (Ev.upto (2 * r + 1).toNat (fun _ => True) (fun j => tl s ring (i - r) j) (told s r t ring i) (fun k x j => spec_l02Told.l0 k ring i ring.length x (i - r + j) s r t) (fun j hj _ ih => ?_) (fun _ => ?_) trivial)
  · rw [Int.add_zero]; rfl
  · refine Ev.succ ?_
    simp only [spec_l02Told.l0]
    have hf := fm_ok (i - r + (j : Int)) ring.length (by omega) (by omega)
    have hx := h.all _ (rd_mem ring _ hf.1 (by omega))
    have ht := tl_ok s ring (i - r) hr.s0 hr.s1 h j
    have ht1 := tl_ok s ring (i - r) hr.s0 hr.s1 h (j + 1)
    have hb := pow_bound s (j + 1) (by omega) (by omega) (by omega)
    have hm : 0 ≤ tl s ring (i - r) j * s := Int.mul_nonneg ht.1 (by omega)
    have e : tl s ring (i - r) (j + 1) = tl s ring (i - r) j * s + rd ring (fm (i - r + (j : Int)) ring.length) := rfl
    rw [wrap_id (x := i + r) (by omega) (by omega), wrap_id (x := i - r + (j : Int) + 1) (by omega) (by omega)]
    refine Ev.pos (by omega) (Ev.neg (by omega) (Ev.pos hf.1 (Ev.pos hf.2 ?_)))
    have hw : wrap64 (wrap64 (tl s ring (i - r) j * s) + rd ring (Int.tmod (wrap64 ((Int.tmod (i - r + (j : Int)) ring.length) + (ring.length : Int))) ring.length)) = tl s ring (i - r) (j + 1) := by
      rw [wrap_id (x := tl s ring (i - r) j * s) (by omega) (by omega)]
      exact wrap_id (by show _ ≤ tl s ring (i - r) j * s + rd ring (fm (i - r + (j : Int)) ring.length); omega) (by show tl s ring (i - r) j * s + rd ring (fm (i - r + (j : Int)) ring.length) ≤ _; omega)
    rw [hw]
    have := ih trivial
    rw [show i - r + ((j : Int) + 1) = i - r + (j : Int) + 1 by omega] at this
    exact this
  · refine Ev.succ ?_
    simp only [spec_l02Told.l0]
    have ht := tl_ok s ring (i - r) hr.s0 hr.s1 h (2 * r + 1).toNat
    rw [← hr.n] at ht
    rw [wrap_id (x := i + r) (by omega) (by omega)]
    exact Ev.neg (by omega) (Ev.pos ht.1 (Ev.pos ht.2 (Ev.now _)))
theorem stepSpec {s r : Int} {t ring : List Int} (hr : RuleOk s r t) (h : RingOk s ring) : Ev (fun k => spec_l02Step.f k s r t ring) (ringStep s r t ring) := by
  unfold spec_l02Step.f
  have hn1 := h.le
  refine Ev.upto ring.length (fun _ => True) (fun i => (ringStep s r t ring).take i) _ (fun k x i => spec_l02Step.l0 k ring x i s r t) (fun i hi _ ih => ?_) (fun _ => ?_) trivial
  · refine Ev.succ ?_
    simp only [spec_l02Step.l0]
    refine Ev.pos (by omega) (Ev.bind (toldSpec hr h (i : Int) (by omega) (by omega)) (Ev.pos (by rw [List.length_take]; omega) ?_))
    rw [wrap_id (x := (i : Int) + 1) (by omega) (by omega), ← ringStep_take s r t ring i hi]
    exact ih trivial
  · refine Ev.succ ?_
    simp only [spec_l02Step.l0]
    exact Ev.neg (by omega) (Ev.val (by rw [List.take_of_length_le (by rw [ringStep_length]; omega)]))

theorem floorMod (a b : Int) (h : b ≠ 0) : impl_floorMod.f a b = some (fm a b) := by unfold impl_floorMod.f; rw [if_neg h]; rfl

theorem ruleAt {s r : Int} {t ring : List Int} (hr : RuleOk s r t) (h : RingOk s ring) (i : Int) (hi0 : 0 ≤ i) (hi1 : i ≤ 1000000) : Ev (fun k => impl_Rule_at.f k s r t ring i) (told s r t ring i) := by
  unfold impl_Rule_at.f
  have := hr.r0; have := hr.r1; have := hr.s0; have := hr.s1; have hn := h.pos; have hn1 := h.le
  rw [wrap_id (x := i - r) (by omega) (by omega)]
  refine Ev.congr (fun k => ?_) (Ev.upto (2 * r + 1).toNat (fun _ => True) (fun j => tl s ring (i - r) j) (told s r t ring i) (fun k x j => impl_Rule_at.l0 k ring i ring.length x (i - r + j) s r t) (fun j hj _ ih => ?_) (fun _ => ?_) trivial)
  · rw [Int.add_zero]; rfl
  · refine Ev.succ ?_
    simp only [impl_Rule_at.l0]
    have hf := fm_ok (i - r + (j : Int)) ring.length (by omega) (by omega)
    have hx := h.all _ (rd_mem ring _ hf.1 (by omega))
    have ht := tl_ok s ring (i - r) hr.s0 hr.s1 h j
    have ht1 := tl_ok s ring (i - r) hr.s0 hr.s1 h (j + 1)
    have hb := pow_bound s (j + 1) (by omega) (by omega) (by omega)
    have hm : 0 ≤ tl s ring (i - r) j * s := Int.mul_nonneg ht.1 (by omega)
    have e : tl s ring (i - r) (j + 1) = tl s ring (i - r) j * s + rd ring (fm (i - r + (j : Int)) ring.length) := rfl
    rw [wrap_id (x := i + r) (by omega) (by omega), wrap_id (x := i - r + (j : Int) + 1) (by omega) (by omega)]
    refine Ev.pos (by omega) (Ev.bnd (floorMod _ _ (by omega)) (Ev.pos hf.1 (Ev.pos hf.2 ?_)))
    have hw : wrap64 (wrap64 (tl s ring (i - r) j * s) + rd ring (fm (i - r + (j : Int)) ring.length)) = tl s ring (i - r) (j + 1) := by
      rw [wrap_id (x := tl s ring (i - r) j * s) (by omega) (by omega)]
      exact wrap_id (by omega) (by omega)
    rw [hw]
    have := ih trivial
    rw [show i - r + ((j : Int) + 1) = i - r + (j : Int) + 1 by omega] at this
    exact this
  · refine Ev.succ ?_
    simp only [impl_Rule_at.l0]
    have ht := tl_ok s ring (i - r) hr.s0 hr.s1 h (2 * r + 1).toNat
    rw [← hr.n] at ht
    rw [wrap_id (x := i + r) (by omega) (by omega)]
    exact Ev.neg (by omega) (Ev.pos ht.1 (Ev.pos ht.2 (Ev.now _)))
theorem stepImpl {s r : Int} {t ring : List Int} (hr : RuleOk s r t) (h : RingOk s ring) : Ev (fun k => impl_Rule_step.f k s r t ring) (ringStep s r t ring) := by
  unfold impl_Rule_step.f
  have hn1 := h.le
  refine Ev.pos (by omega) (Ev.pos (by omega) (Ev.bnd rfl ?_))
  refine Ev.congr (fun k => ?_) (Ev.upto ring.length (fun _ => True) (fun i => (ringStep s r t ring).take i ++ List.replicate (ring.length - i) 0) (ringStep s r t ring) (fun k x i => impl_Rule_step.l0 k ring x ring.length i s r t) (fun i hi _ ih => ?_) (fun _ => ?_) trivial)
  · simp
  · refine Ev.succ ?_
    simp only [impl_Rule_step.l0]
    have hlen : ((ringStep s r t ring).take i ++ List.replicate (ring.length - i) 0).length = ring.length := by rw [List.length_append, List.length_take, ringStep_length, List.length_replicate]; omega
    refine Ev.pos (by omega) (Ev.bind (ruleAt hr h (i : Int) (by omega) (by omega)) (Ev.pos (by omega) (Ev.pos (by rw [hlen]; omega) ?_)))
    have hx : told s r t ring (i : Int) = (ringStep s r t ring)[i]'(by rw [ringStep_length]; exact hi) := by simp [ringStep]
    have hs := take_set_rep' (ringStep s r t ring) i ring.length (by rw [ringStep_length]; exact hi) (ringStep_length s r t ring)
    rw [wrap_id (x := (i : Int) + 1) (by omega) (by omega), Int.toNat_natCast, hx, hs]
    exact ih trivial
  · refine Ev.succ ?_
    simp only [impl_Rule_step.l0]
    exact Ev.neg (by omega) (Ev.val (by rw [Nat.sub_self, List.replicate_zero, List.append_nil, List.take_of_length_le (by rw [ringStep_length]; omega)]))

theorem contains (l : List Int) (x : Int) (hl : l.length ≤ 35184372088832) : Ev (fun k => slices_Contains_int64_int64.f k l x) (l.any fun y => x == y) := by
  unfold slices_Contains_int64_int64.f
  have idx : ∃ p, Ev (fun k => slices_Index_int64_int64.f k l x) p ∧ decide (p ≥ 0) = l.any fun y => x == y := by
    have main : ∀ d i : Nat, i + d = l.length → ∃ p, Ev (fun k => slices_Index_int64_int64.l0 k l x l.length i) p ∧ decide (p ≥ 0) = (l.drop i).any fun y => x == y := by
      intro d
      induction d with
      | zero =>
        intro i hi
        refine ⟨-1, Ev.succ ?_, ?_⟩
        · simp only [slices_Index_int64_int64.l0]
          exact Ev.neg (by omega) (Ev.now _)
        · rw [List.drop_of_length_le (by omega)]; rfl
      | succ d ih =>
        intro i hi
        have hil : i < l.length := by omega
        by_cases c : x = l[i]
        · refine ⟨i, Ev.succ ?_, ?_⟩
          · simp only [slices_Index_int64_int64.l0]
            refine Ev.pos (by omega) (Ev.pos (by omega) (Ev.pos (by omega) ?_))
            rw [rd_lt l i hil]
            exact Ev.pos c (Ev.now _)
          · rw [List.drop_eq_getElem_cons hil, List.any_cons, ← c, beq_self_eq_true, Bool.true_or]; exact decide_eq_true (by omega)
        · obtain ⟨p, h1, h2⟩ := ih (i + 1) (by omega)
          refine ⟨p, Ev.succ ?_, ?_⟩
          · simp only [slices_Index_int64_int64.l0]
            refine Ev.pos (by omega) (Ev.pos (by omega) (Ev.pos (by omega) ?_))
            rw [rd_lt l i hil, wrap_id (x := (i : Int) + 1) (by omega) (by omega)]
            exact Ev.neg c h1
          · rw [List.drop_eq_getElem_cons hil, List.any_cons, beq_eq_false_iff_ne.2 c, Bool.false_or]; exact h2
    have := main l.length 0 (by omega)
    rw [List.drop_zero] at this
    exact this
  obtain ⟨p, h1, h2⟩ := idx
  exact Ev.bind h1 (Ev.val (by rw [h2]))

theorem noneOther (l : List Int) (m : Int) (h : ∀ x ∈ l, 0 ≤ x ∧ x ≤ 1) (hm : m = 0 ∨ m = 1) : (!(l.any fun y => (1 - m) == y)) = l.all fun x => x == m := by
  induction l with
  | nil => rfl
  | cons a l ih =>
    have ha := h a List.mem_cons_self
    rw [List.any_cons, List.all_cons, Bool.not_or, ih (fun x hx => h x (List.mem_cons_of_mem _ hx))]
    congr 1
    by_cases c : a = m
    · subst c; rw [beq_self_eq_true, beq_eq_false_iff_ne.2 (by omega)]; rfl
    · rw [beq_eq_false_iff_ne.2 c, beq_iff_eq.2 (by omega)]; rfl
theorem most_ok (l : List Int) : most l = 0 ∨ most l = 1 := by unfold most; split <;> simp

theorem taskSpec {r : Int} {t : List Int} (hr : RuleOk 2 r t) (n tr st : Nat) (seed : Int) (h0 : 0 < n) (hn : n ≤ 64) (htr : tr ≤ 1000000) (hst : st ≤ 1000000) (hs : seedOk seed) :
    Ev (fun k => spec_l07Count.f k 2 r t n tr st seed) (tries 2 r t n st seed tr) := by
  unfold spec_l07Count.f
  refine Ev.down tr (fun _ => True) (fun i => tries 2 r t n st seed i) _ (fun k x i => spec_l07Count.l0 k n i st x.2 x.1 2 r t) (fun i hi _ ih => ?_) (fun _ => ?_) trivial
  · refine Ev.succ ?_
    simp only [spec_l07Count.l0]
    refine Ev.pos (by omega) ?_
    have hsd := tries_seed 2 r t n st seed hs i
    have hc := tries_ok 2 r t n st seed i
    have ih' := ih trivial
    generalize hX : tries 2 r t n st seed i = X at hsd hc ⊢
    have ihe : tries 2 r t n st seed (i + 1) = ((if tryOk 2 r t n st X.2 = true then X.1 + 1 else X.1), (growRing X.2 n).2) := by
      show ((if tryOk 2 r t n st (tries 2 r t n st seed i).2 = true then _ else _), _) = _
      rw [hX]
    rw [ihe] at ih'
    refine Ev.upto n (fun _ => True) (fun j => growRing X.2 j) _ (fun k x j => spec_l07Count.l1 k n (tr - i) st x.2 X.1 x.1 j 2 r t) (fun j hj _ ihj => ?_) (fun _ => ?_) trivial
    · refine Ev.succ ?_
      simp only [spec_l07Count.l1]
      refine Ev.pos (by omega) (Ev.bnd (nextSpec _ (growRing_seed _ hsd j)) (Ev.pos (by rw [growRing_length]; omega) ?_))
      rw [wrap_id (x := (j : Int) + 1) (by omega) (by omega)]
      exact ihj trivial
    · refine Ev.succ ?_
      simp only [spec_l07Count.l1]
      have hg := growRing_ok X.2 hsd n h0 hn
      refine Ev.neg (by omega) (Ev.bind (countOnes _ (by rw [growRing_length]; exact hn) hg.all) ?_)
      refine Ev.upto st (fun _ => True) (fun j => ringSteps 2 r t (growRing X.2 n).1 j) _ (fun k x j => spec_l07Count.l2 k n (tr - i) st (growRing X.2 n).2 X.1 x (if 2 * (growRing X.2 n).1.sum > (growRing X.2 n).1.length then 1 else 0) j 2 r t) (fun j hj _ ihj => ?_) (fun _ => ?_) trivial
      · refine Ev.succ ?_
        simp only [spec_l07Count.l2]
        refine Ev.pos (by omega) (Ev.bind (stepSpec hr (ringSteps_ok hr hg j)) ?_)
        rw [wrap_id (x := (j : Int) + 1) (by omega) (by omega)]
        exact ihj trivial
      · refine Ev.succ ?_
        simp only [spec_l07Count.l2]
        refine Ev.neg (by omega) ?_
        have hlen : (ringSteps 2 r t (growRing X.2 n).1 st).length = n := by rw [ringSteps_length, growRing_length]
        unfold tryOk at ih'
        generalize hL : ringSteps 2 r t (growRing X.2 n).1 st = L at hlen ih' ⊢
        have hm : (if 2 * (growRing X.2 n).1.sum > ((growRing X.2 n).1.length : Int) then (1 : Int) else 0) = most (growRing X.2 n).1 := rfl
        rw [hm]
        refine Ev.upto L.length (fun _ => True) (fun j => (L.take j).all fun x => x == most (growRing X.2 n).1) _ (fun k b j => spec_l07Count.l3 k n (tr - i) st (growRing X.2 n).2 X.1 L (most (growRing X.2 n).1) b L.length j 2 r t) (fun j hj _ ihj => ?_) (fun _ => ?_) trivial
        · refine Ev.succ ?_
          simp only [spec_l07Count.l3]
          refine Ev.pos (by omega) ?_
          have := ihj trivial
          rw [List.take_succ_eq_append_getElem hj, List.all_append] at this
          rw [wrap_id (x := (j : Int) + 1) (by omega) (by omega), rd_lt L j hj]
          by_cases c : ((L.take j).all fun x => x == most (growRing X.2 n).1) = true
          · rw [c, Bool.true_and] at this
            simp only [List.all_cons, List.all_nil, Bool.and_true] at this
            exact Ev.pos c (Ev.pos (by omega) (Ev.pos (by omega) this))
          · rw [Bool.eq_false_iff.mpr c, Bool.false_and] at this
            exact Ev.neg c this
        · refine Ev.succ ?_
          simp only [spec_l07Count.l3]
          rw [List.take_length]
          refine Ev.neg (by omega) ?_
          rw [wrap_id (x := (tr : Int) - i - 1) (by omega) (by omega), wrap_id (x := X.1 + 1) (by omega) (by omega)]
          by_cases c : (L.all fun x => x == most (growRing X.2 n).1) = true
          · rw [if_pos c] at ih'
            exact Ev.pos c ih'
          · rw [if_neg c] at ih'
            exact Ev.neg c ih'
  · refine Ev.succ ?_
    simp only [spec_l07Count.l0]
    exact Ev.neg (by omega) (Ev.now _)

theorem taskImpl {r : Int} {t : List Int} (hr : RuleOk 2 r t) (n tr st : Nat) (seed : Int) (h0 : 0 < n) (hn : n ≤ 64) (htr : tr ≤ 1000000) (hst : st ≤ 1000000) (hs : seedOk seed) :
    Ev (fun k => impl_task.f k 2 r t n tr st seed) (tries 2 r t n st seed tr) := by
  unfold impl_task.f
  refine Ev.upto tr (fun _ => True) (fun i => tries 2 r t n st seed i) _ (fun k x i => impl_task.l0 k n st x.2 x.1 tr i 2 r t) (fun i hi _ ih => ?_) (fun _ => ?_) trivial
  · refine Ev.succ ?_
    simp only [impl_task.l0]
    refine Ev.pos (by omega) ?_
    have hsd := tries_seed 2 r t n st seed hs i
    have hc := tries_ok 2 r t n st seed i
    have ih' := ih trivial
    generalize hX : tries 2 r t n st seed i = X at hsd hc ⊢
    have ihe : tries 2 r t n st seed (i + 1) = ((if tryOk 2 r t n st X.2 = true then X.1 + 1 else X.1), (growRing X.2 n).2) := by
      show ((if tryOk 2 r t n st (tries 2 r t n st seed i).2 = true then _ else _), _) = _
      rw [hX]
    rw [ihe] at ih'
    refine Ev.upto n (fun _ => True) (fun j => growRing X.2 j) _ (fun k x j => impl_task.l1 k n st x.2 X.1 x.1 tr i n j 2 r t) (fun j hj _ ihj => ?_) (fun _ => ?_) trivial
    · refine Ev.succ ?_
      simp only [impl_task.l1]
      refine Ev.pos (by omega) (Ev.bnd (nextImpl _ (growRing_seed _ hsd j)) (Ev.pos (by rw [growRing_length]; omega) ?_))
      rw [wrap_id (x := (j : Int) + 1) (by omega) (by omega)]
      exact ihj trivial
    · refine Ev.succ ?_
      simp only [impl_task.l1]
      have hg := growRing_ok X.2 hsd n h0 hn
      refine Ev.neg (by omega) (Ev.bind (majority _ (by rw [growRing_length]; exact hn) hg.all) ?_)
      refine Ev.upto st (fun _ => True) (fun j => ringSteps 2 r t (growRing X.2 n).1 j) _ (fun k x j => impl_task.l2 k n st (growRing X.2 n).2 X.1 x (if 2 * (growRing X.2 n).1.sum > (growRing X.2 n).1.length then 1 else 0) tr i st j 2 r t) (fun j hj _ ihj => ?_) (fun _ => ?_) trivial
      · refine Ev.succ ?_
        simp only [impl_task.l2]
        refine Ev.pos (by omega) (Ev.bind (stepImpl hr (ringSteps_ok hr hg j)) ?_)
        rw [wrap_id (x := (j : Int) + 1) (by omega) (by omega)]
        exact ihj trivial
      · refine Ev.succ ?_
        simp only [impl_task.l2]
        have hok := ringSteps_ok hr hg st
        have hm : (if 2 * (growRing X.2 n).1.sum > ((growRing X.2 n).1.length : Int) then (1 : Int) else 0) = most (growRing X.2 n).1 := rfl
        unfold tryOk at ih'
        have hmo := most_ok (growRing X.2 n).1
        rw [hm, wrap_id (x := 1 - most (growRing X.2 n).1) (by omega) (by omega), wrap_id (x := (i : Int) + 1) (by omega) (by omega)]
        refine Ev.neg (by omega) (Ev.bind (contains _ _ (by have := hok.le; omega)) (Ev.bnd (bit _) ?_))
        rw [noneOther _ _ hok.all hmo]
        by_cases c : ((ringSteps 2 r t (growRing X.2 n).1 st).all fun x => x == most (growRing X.2 n).1) = true
        · rw [if_pos c] at ih'
          rw [if_pos c, wrap_id (x := X.1 + 1) (by omega) (by omega)]
          exact ih'
        · rw [if_neg c] at ih'
          rw [if_neg c, wrap_id (x := X.1 + 0) (by omega) (by omega), Int.add_zero]
          exact ih'
  · refine Ev.succ ?_
    simp only [impl_task.l0]
    exact Ev.neg (by omega) (Ev.now _)

/-- A rule can be tried so. -/
def taskOk (s r : Int) (t : List Int) (n tr st seed : Int) : Prop := validRule s r t = true ∧ s = 2 ∧ Int.tmod n 2 = 1 ∧ 2 * r + 1 ≤ n ∧ n ≤ 64 ∧ 1 ≤ tr ∧ tr ≤ 32 ∧ 0 ≤ st ∧ st ≤ 64 ∧ seedOk seed
theorem isTaskSpec (s r : Int) (t : List Int) (n tr st seed : Int) (hl : t.length ≤ 35184372088832) : Ev (fun k => spec_l07Task.f k s r t n tr st seed) (cd (taskOk s r t n tr st seed)) := by
  unfold spec_l07Task.f
  refine Ev.bind (l07Two s r t hl) ?_
  by_cases c : (validRule s r t && decide (s = 2)) = true
  · refine Ev.pos c ?_
    rw [Bool.and_eq_true, decide_eq_true_eq] at c
    have hr := RuleOk.of c.1
    have := hr.r0; have := hr.r1
    rw [wrap_id (x := 2 * r) (by omega) (by omega), wrap_id (x := 2 * r + 1) (by omega) (by omega)]
    refine Ev.bnd (l00In _ _ _) ?_
    by_cases c1 : 2 * r + 1 ≤ n ∧ n ≤ 64
    · refine Ev.pos (by simpa using c1) ?_
      by_cases c2 : Int.tmod n 2 = 1
      · refine Ev.pos c2 (Ev.bnd (l00In _ _ _) ?_)
        by_cases c3 : 1 ≤ tr ∧ tr ≤ 32
        · refine Ev.pos (by simpa using c3) (Ev.bnd (l00In _ _ _) ?_)
          by_cases c4 : 0 ≤ st ∧ st ≤ 64
          · refine Ev.pos (by simpa using c4) (Ev.bnd (seedSpec _) (Ev.val ?_))
            by_cases c5 : seedOk seed
            · rw [decide_eq_true c5, cd_true ⟨c.1, c.2, c2, c1.1, c1.2, c3.1, c3.2, c4.1, c4.2, c5⟩]
            · rw [decide_eq_false c5, cd_false (fun h => c5 h.2.2.2.2.2.2.2.2.2)]
          · exact Ev.neg (by simpa using c4) (Ev.val (by rw [cd_false (fun h => c4 ⟨h.2.2.2.2.2.2.2.1, h.2.2.2.2.2.2.2.2.1⟩)]))
        · exact Ev.neg (by simpa using c3) (Ev.val (by rw [cd_false (fun h => c3 ⟨h.2.2.2.2.2.1, h.2.2.2.2.2.2.1⟩)]))
      · exact Ev.neg c2 (Ev.val (by rw [cd_false (fun h => c2 h.2.2.1)]))
    · exact Ev.neg (by simpa using c1) (Ev.val (by rw [cd_false (fun h => c1 ⟨h.2.2.2.1, h.2.2.2.2.1⟩)]))
  · refine Ev.neg c (Ev.val ?_)
    rw [cd_false (fun h => c (by rw [h.1, h.2.1]; rfl))]
theorem isTaskImpl (s r : Int) (t : List Int) (n tr st seed : Int) (hl : t.length ≤ 35184372088832) : Ev (fun k => impl_isTask.f k s r t n tr st seed) (cd (taskOk s r t n tr st seed)) := by
  unfold impl_isTask.f
  refine Ev.bind (ValidRule s r t hl) ?_
  by_cases c : validRule s r t = true
  · refine Ev.pos c ?_
    by_cases h2 : s = 2
    · refine Ev.pos h2 ?_
      have hr := RuleOk.of c
      have := hr.r0; have := hr.r1
      by_cases c2 : Int.tmod n 2 = 1
      · refine Ev.pos c2 (Ev.bnd (ruleCells _ _ _ (by omega) (by omega)) (Ev.bnd (within _ _ _) ?_))
        by_cases c1 : 2 * r + 1 ≤ n ∧ n ≤ 64
        · refine Ev.pos (by simpa using c1) (Ev.bnd (within _ _ _) ?_)
          by_cases c3 : 1 ≤ tr ∧ tr ≤ 32
          · refine Ev.pos (by simpa using c3) (Ev.bnd (within _ _ _) ?_)
            by_cases c4 : 0 ≤ st ∧ st ≤ 64
            · refine Ev.pos (by simpa using c4) (Ev.bnd (seedImpl _) (Ev.val ?_))
              by_cases c5 : seedOk seed
              · rw [decide_eq_true c5, cd_true ⟨c, h2, c2, c1.1, c1.2, c3.1, c3.2, c4.1, c4.2, c5⟩]
              · rw [decide_eq_false c5, cd_false (fun h => c5 h.2.2.2.2.2.2.2.2.2)]
            · exact Ev.neg (by simpa using c4) (Ev.val (by rw [cd_false (fun h => c4 ⟨h.2.2.2.2.2.2.2.1, h.2.2.2.2.2.2.2.2.1⟩)]))
          · exact Ev.neg (by simpa using c3) (Ev.val (by rw [cd_false (fun h => c3 ⟨h.2.2.2.2.2.1, h.2.2.2.2.2.2.1⟩)]))
        · exact Ev.neg (by simpa using c1) (Ev.val (by rw [cd_false (fun h => c1 ⟨h.2.2.2.1, h.2.2.2.2.1⟩)]))
      · exact Ev.neg c2 (Ev.val (by rw [cd_false (fun h => c2 h.2.2.1)]))
    · exact Ev.neg h2 (Ev.val (by rw [cd_false (fun h => h2 h.2.1)]))
  · exact Ev.neg c (Ev.val (by rw [cd_false (fun h => c h.1)]))
/-- What TaskCount answers. -/

theorem eqInt64S (l m : List Int) (hl : l.length ≤ 35184372088832) : Ev (fun k => laws_eqInt64S.f k l m) (decide (l = m)) := by
  unfold laws_eqInt64S.f
  by_cases h : l.length = m.length
  · refine Ev.pos (by omega) ?_
    refine Ev.upto l.length (fun i => ∀ j, j < i → l[j]? = m[j]?) (fun _ => ()) _ (fun k _ i => laws_eqInt64S.l0 k l m i) (fun i hi hp ih => ?_) (fun hp => ?_) (fun j hj => by omega)
    · refine Ev.succ ?_
      simp only [laws_eqInt64S.l0]
      refine Ev.pos (by omega) (Ev.pos (by omega) (Ev.pos (by omega) ?_))
      rw [rd_lt l i (by omega), rd_lt m i (by omega)]
      by_cases e : l[i] = m[i]
      · refine Ev.pos e ?_
        rw [wrap_id (by omega) (by omega)]
        exact ih (fun j hj' => by
          by_cases hji : j < i
          · exact hp j hji
          · obtain rfl : j = i := by omega
            rw [List.getElem?_eq_getElem (by omega), List.getElem?_eq_getElem (by omega), e])
      · refine Ev.neg e (Ev.val ?_)
        rw [eq_comm, Option.some.injEq, decide_eq_false_iff_not]
        rintro rfl
        exact e rfl
    · refine Ev.succ ?_
      simp only [laws_eqInt64S.l0]
      refine Ev.neg (by omega) (Ev.val ?_)
      have : l = m := List.ext_getElem? (fun j => by
        by_cases hjl : j < l.length
        · exact hp j (by omega)
        · rw [List.getElem?_eq_none (by omega), List.getElem?_eq_none (by omega)])
      simp [this]
  · refine Ev.neg (by omega) (Ev.val ?_)
    rw [eq_comm, Option.some.injEq, decide_eq_false_iff_not]
    rintro rfl
    exact h rfl

theorem eqRule (s r : Int) (t : List Int) (s' r' : Int) (t' : List Int) (hl : t.length ≤ 35184372088832) : Ev (fun k => laws_eqRule.f k s r t s' r' t') (decide (s = s' ∧ r = r' ∧ t = t')) := by
  unfold laws_eqRule.f
  by_cases h1 : s = s'
  · refine Ev.pos h1 ?_
    by_cases h2 : r = r'
    · refine Ev.pos h2 (Ev.bind (eqInt64S t t' hl) ?_)
      by_cases h3 : t = t'
      · exact Ev.pos (by simpa using h3) (Ev.val (by simp [h1, h2, h3]))
      · exact Ev.neg (by simpa using h3) (Ev.val (by simp [h3]))
    · exact Ev.neg h2 (Ev.val (by simp [h2]))
  · exact Ev.neg h1 (Ev.val (by simp [h1]))

theorem markInt64S (l : List Int) (a : Int) (hl : l.length ≤ 35184372088832) (h0 : -1 ≤ a) (h1 : a ≤ 1000000000000) : Ev (fun k => laws_markInt64S.f k l a) (a + l.length, marks a l.length) := by
  unfold laws_markInt64S.f
  refine Ev.congr (fun k => ?_) (Ev.upto l.length (fun _ => True) (fun i => (marks a i ++ l.drop i, a + (i : Int))) (a + l.length, marks a l.length) (fun k s i => laws_markInt64S.l0 k s.1 s.2 i) (fun i hi _ ih => ?_) (fun _ => ?_) trivial)
  · simp [marks]
  · refine Ev.succ ?_
    simp only [laws_markInt64S.l0]
    refine Ev.pos (by rw [List.length_append, marks_length, List.length_drop]; omega) (Ev.pos (by omega) ?_)
    rw [wrap_id (x := (i : Int) + 1) (by omega) (by omega), wrap_id (x := a + (i : Int) + 1) (by omega) (by omega), Int.toNat_natCast, marks_step a l i hi]
    have := ih trivial
    rw [show a + ((i + 1 : Nat) : Int) = a + (i : Int) + 1 by omega] at this
    exact this
  · refine Ev.succ ?_
    simp only [laws_markInt64S.l0]
    have e : marks a l.length ++ l.drop l.length = marks a l.length := by rw [List.drop_length, List.append_nil]
    rw [e]
    exact Ev.neg (by rw [marks_length]; omega) (Ev.now _)

theorem heldInt64S (n : Nat) (a : Int) (hl : n ≤ 35184372088832) (h0 : -1 ≤ a) (h1 : a ≤ 1000000000000) : Ev (fun k => laws_heldInt64S.f k (marks a n) a) (a + n) := by
  unfold laws_heldInt64S.f
  refine Ev.congr (fun k => ?_) (Ev.upto n (fun _ => True) (fun i => a + (i : Int)) (a + n) (fun k s i => laws_heldInt64S.l0 k (marks a n) s i) (fun i hi _ ih => ?_) (fun _ => ?_) trivial)
  · simp
  · refine Ev.succ ?_
    simp only [laws_heldInt64S.l0]
    refine Ev.pos (by rw [marks_length]; omega) (Ev.pos (by omega) (Ev.pos ?_ ?_))
    · rw [rd_lt _ i (by rw [marks_length]; exact hi), marks_get a n i hi]
    · rw [wrap_id (x := (i : Int) + 1) (by omega) (by omega), wrap_id (x := a + (i : Int) + 1) (by omega) (by omega)]
      have := ih trivial
      rw [show a + ((i + 1 : Nat) : Int) = a + (i : Int) + 1 by omega] at this
      exact this
  · refine Ev.succ ?_
    simp only [laws_heldInt64S.l0]
    exact Ev.neg (by rw [marks_length]; omega) (Ev.val rfl)

theorem growNil (n : Int) (h0 : 0 ≤ n) (h1 : n ≤ 1000000000000) : slices_Grow_int64_int64_nil.f n = some [] := by
  unfold slices_Grow_int64_int64_nil.f
  rw [if_neg (by omega), wrap_id (x := n) (by omega) (by omega)]
  by_cases c : n > 0
  · rw [if_pos c, if_pos (by omega), if_pos (by rw [List.length_nil]; omega)]
    simp
  · rw [if_neg c]
theorem concatTwo (a b : List Int) (ha : a.length ≤ 100000000000) (hb : b.length ≤ 100000000000) : Ev (fun k => slices_Concat_int64_int64.f k [a, b]) (a ++ b) := by
  unfold slices_Concat_int64_int64.f
  have e0 : rd_L1 [a, b] 0 = a := rfl
  have e1 : rd_L1 [a, b] 1 = b := rfl
  refine Ev.succ ?_
  simp only [slices_Concat_int64_int64.l0]
  rw [e0, wrap_id (x := 0 + (a.length : Int)) (by omega) (by omega), wrap_id (x := (0 : Int) + 1) (by omega) (by omega)]
  refine Ev.pos (by simp) (Ev.pos (by omega) (Ev.pos (by simp) (Ev.neg (by omega) (Ev.succ ?_))))
  simp only [slices_Concat_int64_int64.l0]
  rw [show (0 : Int) + 1 = 1 from rfl, e1, wrap_id (x := 0 + (a.length : Int) + (b.length : Int)) (by omega) (by omega), wrap_id (x := (1 : Int) + 1) (by omega) (by omega)]
  refine Ev.pos (by simp) (Ev.pos (by omega) (Ev.pos (by simp) (Ev.neg (by omega) (Ev.succ ?_))))
  simp only [slices_Concat_int64_int64.l0]
  refine Ev.neg (by simp) (Ev.bnd (growNil _ (by omega) (by omega)) (Ev.succ ?_))
  simp only [slices_Concat_int64_int64.l1]
  rw [e0, wrap_id (x := (0 : Int) + 1) (by omega) (by omega)]
  refine Ev.pos (by simp) (Ev.pos (by omega) (Ev.pos (by simp) (Ev.pos (by simp; omega) (Ev.succ ?_))))
  simp only [slices_Concat_int64_int64.l1]
  rw [show (0 : Int) + 1 = 1 from rfl, e1, wrap_id (x := (1 : Int) + 1) (by omega) (by omega)]
  refine Ev.pos (by simp) (Ev.pos (by omega) (Ev.pos (by simp) (Ev.pos (by simp; omega) (Ev.succ ?_))))
  simp only [slices_Concat_int64_int64.l1]
  exact Ev.neg (by simp) (Ev.val (by simp))

theorem valid_len {s r : Int} {t : List Int} (h : validRule s r t = true) : 0 < t.length ∧ t.length ≤ 1000000 := by
  unfold validRule at h
  simp only [Bool.and_eq_true, decide_eq_true_eq] at h
  obtain ⟨⟨⟨hs, hr⟩, hn⟩, _⟩ := h
  have : r = 0 ∨ r = 1 ∨ r = 2 := by omega
  have : s = 2 ∨ s = 3 := by omega
  rcases ‹r = 0 ∨ r = 1 ∨ r = 2› with rfl | rfl | rfl <;> rcases ‹s = 2 ∨ s = 3› with rfl | rfl <;> simp at hn <;> omega
theorem same_len {r : Int} {t t' : List Int} (h : validRule 2 r t = true) (h' : validRule 2 r t' = true) : t.length = t'.length := by
  unfold validRule at h h'
  simp only [Bool.and_eq_true, decide_eq_true_eq] at h h'
  have := h.1.2
  have := h'.1.2
  omega
theorem crossSpec (r : Int) (t t' : List Int) (p : Int) (ht : t.length = t'.length) (hl : t.length ≤ 1000000) (h0 : 0 ≤ p) (h1 : p ≤ (t.length : Int)) : Ev (fun k => spec_l07Cross.f k 2 r t 2 r t' p) (2, r, t.take p.toNat ++ t'.drop p.toNat) := by
  obtain ⟨n, rfl⟩ := Int.eq_ofNat_of_zero_le h0
  unfold spec_l07Cross.f
  refine Ev.bnd (a := (2, r, t')) (by unfold spec_l02Own.f; simp only [Option.bind_some]; rw [if_pos (by simp; omega)]; simp) ?_
  rw [Int.toNat_natCast]
  refine Ev.congr (fun k => ?_) (Ev.upto n (fun _ => True) (fun i => t.take i ++ t'.drop i) (2, r, t.take n ++ t'.drop n) (fun k s i => spec_l07Cross.l0 k n i 2 r t 2 r s) (fun i hi _ ih => ?_) (fun _ => ?_) trivial)
  · simp
  · refine Ev.succ ?_
    simp only [spec_l07Cross.l0]
    have hit : i < t.length := by omega
    refine Ev.pos (by omega) (Ev.pos (by omega) (Ev.pos (by omega) (Ev.pos (by rw [List.length_append, List.length_take, List.length_drop]; omega) ?_)))
    rw [wrap_id (x := (i : Int) + 1) (by omega) (by omega), Int.toNat_natCast, rd_lt t i hit, take_drop_set t t' i hit ht]
    exact ih trivial
  · refine Ev.succ ?_
    simp only [spec_l07Cross.l0]
    exact Ev.neg (by omega) (Ev.now _)
theorem crossImpl (r : Int) (t t' : List Int) (p : Int) (ht : t.length = t'.length) (hl : t.length ≤ 1000000) (h0 : 0 ≤ p) (h1 : p ≤ (t.length : Int)) : Ev (fun k => impl_crossed.f k 2 r t 2 r t' p) (2, r, t.take p.toNat ++ t'.drop p.toNat) := by
  unfold impl_crossed.f
  refine Ev.pos h0 (Ev.pos h1 (Ev.pos (by omega) (Ev.bind (concatTwo _ _ (by rw [List.length_take]; omega) (by rw [List.length_drop]; omega)) (Ev.now _))))

/-- The place of a table that a seed tells. -/
def placeOf (s : Int) (n : Nat) : Int := wrap64 (Int.tdiv (wrap64 (s * (n : Int))) 4294967296)
theorem placeOf_ok (s : Int) (n : Nat) (h : seedOk s) (h0 : 0 < n) (hn : n ≤ 1000000) : 0 ≤ placeOf s n ∧ placeOf s n < n := by
  unfold placeOf
  unfold seedOk at h
  have h1 : 0 ≤ s * (n : Int) := Int.mul_nonneg h.1 (by omega)
  have h2 : s * (n : Int) ≤ 4294967295 * (n : Int) := Int.mul_le_mul_of_nonneg_right h.2 (by omega)
  rw [wrap_id (x := s * (n : Int)) (by omega) (by omega), Int.tdiv_eq_ediv_of_nonneg h1]
  have h3 : s * (n : Int) / 4294967296 ≤ s * (n : Int) := by omega
  rw [wrap_id (by omega) (by omega)]
  omega
/-- A change of a table, with the seed behind it. -/
def chg1 (x : Int × List Int) : Int × List Int :=
  (nextS x.1, x.2.set (placeOf (nextS x.1) x.2.length).toNat (wrap64 (1 - (rd x.2 (placeOf (nextS x.1) x.2.length)))))
def chgs (s : Int) (t : List Int) : Nat → Int × List Int
  | 0 => (s, t)
  | n + 1 => chg1 (chgs s t n)
theorem chgs_length (s : Int) (t : List Int) (n : Nat) : (chgs s t n).2.length = t.length := by
  induction n with
  | zero => rfl
  | succ n ih => show (List.set _ _ _).length = _; rw [List.length_set, ih]
theorem chgs_seed (s : Int) (t : List Int) (h : seedOk s) (n : Nat) : seedOk (chgs s t n).1 := by
  induction n with
  | zero => exact h
  | succ n ih => exact nextS_ok _ ih

theorem changeSpec (s r : Int) (t : List Int) (n : Int) (seed : Int) (h0 : 0 < t.length) (hl : t.length ≤ 1000000) (hn0 : 0 ≤ n) (hn : n ≤ 1000000) (hs : seedOk seed) :
    Ev (fun k => spec_l07Change.f k s r t n seed) (s, r, (chgs seed t n.toNat).2, (chgs seed t n.toNat).1) := by
  obtain ⟨m, rfl⟩ := Int.eq_ofNat_of_zero_le hn0
  unfold spec_l07Change.f spec_l02Own.f
  refine Ev.bnd (a := (s, r, t)) (by show (if _ then _ else _) = _; rw [if_pos (by simp; omega)]; simp) ?_
  refine Ev.down m (fun _ => True) (fun i => chgs seed t i) _ (fun k x i => spec_l07Change.l0 k i x.1 s r x.2) (fun i hi _ ih => ?_) (fun _ => ?_) trivial
  · refine Ev.succ ?_
    simp only [spec_l07Change.l0]
    have hp := placeOf_ok (nextS (chgs seed t i).1) (chgs seed t i).2.length (nextS_ok _ (chgs_seed seed t hs i)) (by rw [chgs_length]; exact h0) (by rw [chgs_length]; exact hl)
    refine Ev.pos (by omega) (Ev.bnd (nextSpec _ (chgs_seed seed t hs i)) (Ev.pos hp.1 (Ev.pos hp.2 ?_)))
    rw [wrap_id (x := (m : Int) - (i : Int) - 1) (by omega) (by omega)]
    exact ih trivial
  · refine Ev.succ ?_
    simp only [spec_l07Change.l0]
    exact Ev.neg (by omega) (Ev.now _)
theorem changeImpl (s r : Int) (t : List Int) (n : Int) (seed : Int) (h0 : 0 < t.length) (hl : t.length ≤ 1000000) (hn0 : 0 ≤ n) (hn : n ≤ 1000000) (hs : seedOk seed) :
    Ev (fun k => impl_changed.f k s r t n seed) (s, r, (chgs seed t n.toNat).2, (chgs seed t n.toNat).1) := by
  obtain ⟨m, rfl⟩ := Int.eq_ofNat_of_zero_le hn0
  unfold impl_changed.f slices_Clone_int64_int64.f
  refine Ev.bnd (a := t) (by show (if _ then _ else _) = _; rw [if_pos (by simp; omega)]; simp) ?_
  refine Ev.upto m (fun _ => True) (fun i => chgs seed t i) _ (fun k x i => impl_changed.l0 k x.1 m i s r x.2) (fun i hi _ ih => ?_) (fun _ => ?_) trivial
  · refine Ev.succ ?_
    simp only [impl_changed.l0]
    have hp := placeOf_ok (nextS (chgs seed t i).1) (chgs seed t i).2.length (nextS_ok _ (chgs_seed seed t hs i)) (by rw [chgs_length]; exact h0) (by rw [chgs_length]; exact hl)
    refine Ev.pos (by omega) (Ev.bnd (nextImpl _ (chgs_seed seed t hs i)) (Ev.pos hp.1 (Ev.pos hp.2 ?_)))
    rw [wrap_id (x := (i : Int) + 1) (by omega) (by omega)]
    exact ih trivial
  · refine Ev.succ ?_
    simp only [impl_changed.l0]
    exact Ev.neg (by omega) (Ev.now _)

/-- Of two places the one with more, or the first of equals. -/
def Better (c : Nat → Int) (a b : Nat) : Prop := c b < c a ∨ (c a = c b ∧ a < b)
theorem Better.le {c : Nat → Int} {a b : Nat} (h : Better c a b) : c b ≤ c a := by rcases h with h | h <;> omega
theorem Better.asymm {c : Nat → Int} {a b : Nat} (h : Better c a b) (k : Better c b a) : False := by rcases h with h | h <;> rcases k with k | k <;> omega
/-- One that is put into a row that is in order stays in order. -/
theorem ins_sorted {c : Nat → Int} {L : List Nat} (hs : L.Pairwise (Better c)) {e : Nat} (hlt : ∀ x ∈ L, x < e) {j : Nat} (hj0 : j ≤ L.length) (hq : ∀ x ∈ L.drop j, c x < c e) (hp : ∀ x, L[j - 1]? = some x → 0 < j → c e ≤ c x) : (L.take j ++ e :: L.drop j).Pairwise (Better c) := by
  have hs' : (L.take j ++ L.drop j).Pairwise (Better c) := by rw [List.take_append_drop]; exact hs
  rw [List.pairwise_append] at hs' ⊢
  obtain ⟨h1, h2, h3⟩ := hs'
  refine ⟨h1, ?_, ?_⟩
  · rw [List.pairwise_cons]
    exact ⟨fun x hx => .inl (hq x hx), h2⟩
  · intro x hx y hy
    rcases List.mem_cons.1 hy with rfl | hy
    · have hxe := hlt x (List.mem_of_mem_take hx)
      obtain ⟨i, hi, rfl⟩ := List.mem_iff_getElem.1 hx
      rw [List.length_take] at hi
      rw [List.getElem_take] at hxe ⊢
      have hj : j - 1 < L.length := by omega
      have hjl : c y ≤ c L[j - 1] := hp _ (List.getElem?_eq_getElem hj) (by omega)
      have hle : c L[j - 1] ≤ c L[i] := by
        by_cases e : i = j - 1
        · subst e; exact Int.le_refl _
        · exact (List.pairwise_iff_getElem.1 hs i (j - 1) (by omega) hj (by omega)).le
      by_cases e : c L[i] = c y
      · exact .inr ⟨e, hxe⟩
      · exact .inl (by omega)
    · exact h3 x hx y hy
/-- The best that is not taken. -/
def scan (c : Nat → Int) (t : Nat → Bool) : Nat → Option Nat
  | 0 => none
  | i + 1 => match scan c t i with
    | none => if t i then none else some i
    | some b => if t i then some b else if c b < c i then some i else some b
theorem scan_none {c : Nat → Int} {t : Nat → Bool} : ∀ n, scan c t n = none → ∀ x, x < n → t x = true
  | 0, _, x, hx => absurd hx (Nat.not_lt_zero x)
  | n + 1, h, x, hx => by
    unfold scan at h
    cases hs : scan c t n with
    | none =>
      rw [hs] at h
      by_cases ht : t n = true
      · by_cases e : x = n
        · rw [e]; exact ht
        · exact scan_none n hs x (by omega)
      · simp [ht] at h
    | some b =>
      rw [hs] at h
      simp only at h
      split at h
      · cases h
      · split at h <;> cases h
theorem scan_some {c : Nat → Int} {t : Nat → Bool} : ∀ n b, scan c t n = some b → b < n ∧ t b = false ∧ ∀ x, x < n → t x = false → x ≠ b → Better c b x
  | 0, b, h => by simp [scan] at h
  | n + 1, b, h => by
    unfold scan at h
    cases hs : scan c t n with
    | none =>
      rw [hs] at h
      simp only at h
      have hn := scan_none n hs
      by_cases ht : t n = true
      · rw [if_pos ht] at h; cases h
      · rw [if_neg ht] at h
        cases h
        refine ⟨by omega, by simpa using ht, fun x hx hf hne => ?_⟩
        rw [hn x (by omega)] at hf
        cases hf
    | some b' =>
      rw [hs] at h
      simp only at h
      obtain ⟨h1, h2, h3⟩ := scan_some n b' hs
      by_cases ht : t n = true
      · rw [if_pos ht] at h
        cases h
        refine ⟨by omega, h2, fun x hx hf hne => ?_⟩
        by_cases e : x = n
        · rw [e, ht] at hf; cases hf
        · exact h3 x (by omega) hf hne
      · rw [if_neg ht] at h
        by_cases hc : c b' < c n
        · rw [if_pos hc] at h
          cases h
          refine ⟨by omega, by simpa using ht, fun x hx hf hne => .inl ?_⟩
          by_cases e : x = b'
          · rw [e]; exact hc
          · have := (h3 x (by omega) hf e).le; omega
        · rw [if_neg hc] at h
          cases h
          refine ⟨by omega, h2, fun x hx hf hne => ?_⟩
          by_cases e : x = n
          · subst e
            by_cases e2 : c b = c x
            · exact .inr ⟨e2, h1⟩
            · exact .inl (by omega)
          · exact h3 x (by omega) hf hne
/-- The k-th of a row in order is the best of those behind the first k. -/
theorem scan_sorted {c : Nat → Int} {L : List Nat} (hs : L.Pairwise (Better c)) {n : Nat} (hm : ∀ x, x ∈ L ↔ x < n) {t : Nat → Bool} {k : Nat} (hk : k < L.length) (ht : ∀ x, x < n → (t x = true ↔ x ∈ L.take k)) : scan c t n = some L[k] := by
  have hkm : L[k] < n := (hm _).1 (List.getElem_mem hk)
  have hne : ∀ {i j : Nat} (hi : i < L.length) (hj : j < L.length), i < j → L[i] ≠ L[j] := by
    intro i j hi hj hij e
    have := List.pairwise_iff_getElem.1 hs i j hi hj hij
    rw [e] at this
    exact this.asymm this
  have hkt : t L[k] = false := by
    cases h : t L[k] with
    | false => rfl
    | true =>
      obtain ⟨i, hi, he⟩ := List.mem_iff_getElem.1 ((ht _ hkm).1 h)
      rw [List.length_take] at hi
      rw [List.getElem_take] at he
      exact absurd he (hne (by omega) hk (by omega))
  cases h : scan c t n with
  | none =>
    rw [scan_none n h _ hkm] at hkt
    cases hkt
  | some b =>
    obtain ⟨h1, h2, h3⟩ := scan_some n b h
    by_cases e : L[k] = b
    · rw [e]
    · exfalso
      have hb := h3 L[k] hkm hkt e
      obtain ⟨m, hm', hme⟩ := List.mem_iff_getElem.1 ((hm b).2 h1)
      have hnk : ¬ m < k := by
        intro hlt
        have : t b = true := (ht b h1).2 (by rw [← hme]; exact List.mem_iff_getElem.2 ⟨m, by rw [List.length_take]; omega, by rw [List.getElem_take]⟩)
        rw [this] at h2
        cases h2
      have hmk : m ≠ k := by
        intro e2
        subst e2
        exact e hme
      have := List.pairwise_iff_getElem.1 hs k m hk hm' (by omega)
      rw [hme] at this
      exact this.asymm hb

theorem wrapTo {x y : Int} (h : x = y) (h0 : -9223372036854775808 ≤ y) (h1 : y ≤ 9223372036854775807) : wrap64 x = y := by subst h; exact wrap_id h0 h1
theorem rd36 (l : List S36) (i : Nat) (h : i < l.length) : rd_T36 l (i : Int) = l[i] := by
  unfold rd_T36; rw [Int.toNat_natCast, List.getD_eq_getElem?_getD, List.getElem?_eq_getElem h]; rfl
theorem mem36 (l : List S36) (i : Nat) (h : i < l.length) : rd_T36 l (i : Int) ∈ l := by rw [rd36 l i h]; exact List.getElem_mem h
theorem mx1 (n : Nat) (h : 2 ≤ n) (hn : n ≤ 16) : mx 1 (wrap64 ((n : Int) / 2)) = ((n / 2 : Nat) : Int) := by
  rw [wrap_id (x := (n : Int) / 2) (by omega) (by omega)]; unfold mx; split <;> omega
theorem ownSpec (s r : Int) (t : List Int) (hl : t.length ≤ 1000000) : spec_l02Own.f s r t = some (s, r, t) := by
  unfold spec_l02Own.f; show (if _ then _ else _) = _; rw [if_pos (by simp; omega)]; simp
theorem cloneImpl (t : List Int) (hl : t.length ≤ 1000000) : slices_Clone_int64_int64.f t = some t := by
  unfold slices_Clone_int64_int64.f; show (if _ then _ else _) = _; rw [if_pos (by simp; omega)]; simp
/-- One of a pool can be tried, and looks as far as the first. -/
def okI (P : List S36) (n tr st seed : Int) (i : Nat) : Prop := taskOk (rd_T36 P (i : Int)).f0 (rd_T36 P (i : Int)).f1 (rd_T36 P (i : Int)).f2 n tr st seed ∧ (rd_T36 P (i : Int)).f1 = (rd_T36 P 0).f1
def SmallP (P : List S36) : Prop := ∀ x ∈ P, x.f2.length ≤ 35184372088832
/-- How often one of a pool finds the majority, and the seed then. -/
noncomputable def T (P : List S36) (n tr st : Nat) (seed : Int) (i : Nat) : Int × Int := tries 2 (rd_T36 P 0).f1 (rd_T36 P (i : Int)).f2 n st seed tr
theorem okI_facts {P : List S36} {n tr st seed : Int} {i : Nat} (h : okI P n tr st seed i) : (rd_T36 P (i : Int)).f0 = 2 ∧ (rd_T36 P (i : Int)).f1 = (rd_T36 P 0).f1 ∧ RuleOk 2 (rd_T36 P 0).f1 (rd_T36 P (i : Int)).f2 ∧ validRule 2 (rd_T36 P 0).f1 (rd_T36 P (i : Int)).f2 = true ∧ 1 ≤ n ∧ n ≤ 64 ∧ 1 ≤ tr ∧ tr ≤ 32 ∧ 0 ≤ st ∧ st ≤ 64 ∧ seedOk seed := by
  obtain ⟨⟨h1, h2, _, h4, h5, h6, h7, h8, h9, h10⟩, hr⟩ := h
  rw [h2, hr] at h1
  have hk := RuleOk.of h1
  have := hk.r0
  rw [hr] at h4
  exact ⟨h2, hr, hk, h1, by omega, h5, h6, h7, h8, h9, h10⟩
theorem countSpec {P : List S36} {n tr st : Nat} {seed : Int} {i : Nat} (h : okI P n tr st seed i) : Ev (fun k => spec_l07Count.f k (rd_T36 P (i : Int)).f0 (rd_T36 P (i : Int)).f1 (rd_T36 P (i : Int)).f2 n tr st seed) (T P n tr st seed i) := by
  obtain ⟨h0, h1, hk, _, a, b, c, d, e, f, g⟩ := okI_facts h
  rw [h0, h1]
  exact taskSpec hk n tr st seed (by omega) (by omega) (by omega) (by omega) g
theorem countImpl {P : List S36} {n tr st : Nat} {seed : Int} {i : Nat} (h : okI P n tr st seed i) : Ev (fun k => impl_task.f k (rd_T36 P (i : Int)).f0 (rd_T36 P (i : Int)).f1 (rd_T36 P (i : Int)).f2 n tr st seed) (T P n tr st seed i) := by
  obtain ⟨h0, h1, hk, _, a, b, c, d, e, f, g⟩ := okI_facts h
  rw [h0, h1]
  exact taskImpl hk n tr st seed (by omega) (by omega) (by omega) (by omega) g
theorem okI_nat {P : List S36} {n tr st seed : Int} {i : Nat} (h : okI P n tr st seed i) : ∃ n' tr' st' : Nat, n = n' ∧ tr = tr' ∧ st = st' := by
  obtain ⟨_, _, _, _, a, b, c, d, e, f, g⟩ := okI_facts h
  obtain ⟨n', hn⟩ := Int.eq_ofNat_of_zero_le (show 0 ≤ n by omega)
  obtain ⟨t', ht⟩ := Int.eq_ofNat_of_zero_le (show 0 ≤ tr by omega)
  obtain ⟨s', hs⟩ := Int.eq_ofNat_of_zero_le (show 0 ≤ st by omega)
  exact ⟨n', t', s', hn, ht, hs⟩
theorem taskSpecT {P : List S36} (hP : SmallP P) (n tr st seed : Int) (i : Nat) (hi : i < P.length) : Ev (fun k => spec_l07Task.f k (rd_T36 P (i : Int)).f0 (rd_T36 P (i : Int)).f1 (rd_T36 P (i : Int)).f2 n tr st seed) (cd (taskOk (rd_T36 P (i : Int)).f0 (rd_T36 P (i : Int)).f1 (rd_T36 P (i : Int)).f2 n tr st seed)) := isTaskSpec _ _ _ _ _ _ _ (hP _ (mem36 P i hi))
theorem specFail {P : List S36} (hP : SmallP P) (h16 : P.length ≤ 16) {n tr st seed : Int} {j : Nat} (hj : j < P.length) (hn : ¬ okI P n tr st seed j) (h : ∀ i, i < j → okI P n tr st seed i) : ∀ (d i : Nat) (cs : List Int) (nx : Int), i + d = j → cs.length = i → Ev (fun k => spec_BreedOnce.l0 k P n tr st seed cs nx P.length (i : Int)) (([] : List S36), 0, false) := by
  intro d
  induction d with
  | zero =>
    intro i cs nx hi hc
    obtain rfl : i = j := by omega
    refine Ev.succ ?_
    simp only [spec_BreedOnce.l0]
    refine Ev.pos (by omega) (Ev.pos (by omega) (Ev.pos (by omega) (Ev.bind (taskSpecT hP n tr st seed i hj) ?_)))
    by_cases c : taskOk (rd_T36 P (i : Int)).f0 (rd_T36 P (i : Int)).f1 (rd_T36 P (i : Int)).f2 n tr st seed
    · exact Ev.pos (cd_true c) (Ev.pos (by omega) (Ev.neg (fun e => hn ⟨c, e⟩) (Ev.now _)))
    · exact Ev.neg (fun e => c (cd_iff.1 e)) (Ev.now _)
  | succ d ih =>
    intro i cs nx hi hc
    have hok := h i (by omega)
    obtain ⟨n', tr', st', rfl, rfl, rfl⟩ := okI_nat hok
    refine Ev.succ ?_
    simp only [spec_BreedOnce.l0]
    refine Ev.pos (by omega) (Ev.pos (by omega) (Ev.pos (by omega) (Ev.bind (taskSpecT hP _ _ _ seed i (by omega)) (Ev.pos (cd_true hok.1) (Ev.pos (by omega) (Ev.pos hok.2 (Ev.bind (countSpec hok) (Ev.pos (by omega) ?_))))))))
    rw [wrapTo (x := (i : Int) + 1) (y := ((i + 1 : Nat) : Int)) (by omega) (by omega) (by omega)]
    exact ih (i + 1) _ _ (by omega) (by simp; omega)
theorem closEv {P : List S36} (hP : SmallP P) (n tr st seed : Int) (i : Nat) (hi : i < P.length) : Ev (fun k => impl_BreedOnce_1.f k (rd_T36 P (i : Int)).f0 (rd_T36 P (i : Int)).f1 (rd_T36 P (i : Int)).f2 n tr st seed P) (cd (¬ okI P n tr st seed i)) := by
  unfold impl_BreedOnce_1.f
  refine Ev.bind (isTaskImpl _ _ _ _ _ _ _ (hP _ (mem36 P i hi))) ?_
  by_cases c : taskOk (rd_T36 P (i : Int)).f0 (rd_T36 P (i : Int)).f1 (rd_T36 P (i : Int)).f2 n tr st seed
  · refine Ev.pos (cd_true c) (Ev.pos (by omega) (Ev.val ?_))
    by_cases e : (rd_T36 P (i : Int)).f1 = (rd_T36 P 0).f1
    · have : cd (¬ okI P n tr st seed i) = false := by
        cases h : cd (¬ okI P n tr st seed i) with
        | false => rfl
        | true => exact absurd ⟨c, e⟩ (cd_iff.1 h)
      rw [this, e]; simp
    · rw [cd_true (fun h => e h.2)]
      simp [e]
  · exact Ev.neg (fun e => c (cd_iff.1 e)) (Ev.val (by rw [cd_true (fun h => c h.1)]))
theorem cd_no {p : Prop} (h : ¬ p) : cd p = false := by
  cases e : cd p with
  | false => rfl
  | true => exact absurd (cd_iff.1 e) h
theorem containsFail {P : List S36} (hP : SmallP P) (h16 : P.length ≤ 16) {n tr st seed : Int} {j : Nat} (hj : j < P.length) (hn : ¬ okI P n tr st seed j) (h : ∀ i, i < j → okI P n tr st seed i) : Ev (fun k => impl_Rule_impl_BreedOnce_1_105.f k P n tr st seed P) true := by
  unfold impl_Rule_impl_BreedOnce_1_105.f
  refine Ev.bind (a := (j : Int)) ?_ (Ev.val (by simp))
  unfold impl_Rule_impl_BreedOnce_1_106.f
  refine Ev.upto j (fun _ => True) (fun _ => ()) (j : Int) (fun k _ i => impl_Rule_impl_BreedOnce_1_106.l0 k P P.length i n tr st seed P) (fun i hi _ ih => ?_) (fun _ => ?_) trivial
  · refine Ev.succ ?_
    simp only [impl_Rule_impl_BreedOnce_1_106.l0]
    refine Ev.pos (by omega) (Ev.pos (by omega) (Ev.pos (by omega) (Ev.bind (a := false) (Ev.cast (closEv hP n tr st seed i (by omega)) (cd_no (fun e => e (h i hi)))) (Ev.neg (by simp) ?_))))
    rw [wrap_id (x := (i : Int) + 1) (by omega) (by omega)]
    exact ih trivial
  · refine Ev.succ ?_
    simp only [impl_Rule_impl_BreedOnce_1_106.l0]
    exact Ev.pos (by omega) (Ev.pos (by omega) (Ev.pos (by omega) (Ev.bind (a := true) (Ev.cast (closEv hP n tr st seed j hj) (cd_true hn)) (Ev.pos rfl (Ev.now _)))))
theorem containsOk {P : List S36} (hP : SmallP P) (h16 : P.length ≤ 16) {n tr st seed : Int} (h : ∀ i, i < P.length → okI P n tr st seed i) : Ev (fun k => impl_Rule_impl_BreedOnce_1_105.f k P n tr st seed P) false := by
  unfold impl_Rule_impl_BreedOnce_1_105.f
  refine Ev.bind (a := (-1 : Int)) ?_ (Ev.val (by simp))
  unfold impl_Rule_impl_BreedOnce_1_106.f
  refine Ev.upto P.length (fun _ => True) (fun _ => ()) (-1 : Int) (fun k _ i => impl_Rule_impl_BreedOnce_1_106.l0 k P P.length i n tr st seed P) (fun i hi _ ih => ?_) (fun _ => ?_) trivial
  · refine Ev.succ ?_
    simp only [impl_Rule_impl_BreedOnce_1_106.l0]
    refine Ev.pos (by omega) (Ev.pos (by omega) (Ev.pos (by omega) (Ev.bind (a := false) (Ev.cast (closEv hP n tr st seed i (by omega)) (cd_no (fun e => e (h i hi)))) (Ev.neg (by simp) ?_))))
    rw [wrap_id (x := (i : Int) + 1) (by omega) (by omega)]
    exact ih trivial
  · refine Ev.succ ?_
    simp only [impl_Rule_impl_BreedOnce_1_106.l0]
    exact Ev.neg (by omega) (Ev.now _)
def ints (L : List Nat) : List Int := L.map fun (i : Nat) => (i : Int)
theorem countingImpl (n : Nat) (h : n ≤ 16) : Ev (fun k => impl_counting.f k (n : Int)) (ints (List.range n)) := by
  unfold impl_counting.f
  refine Ev.upto n (fun _ => True) (fun i => ints (List.range i)) _ (fun k s i => impl_counting.l0 k s n i) (fun i hi _ ih => ?_) (fun _ => ?_) trivial
  · refine Ev.succ ?_
    simp only [impl_counting.l0]
    refine Ev.pos (by omega) (Ev.pos (by simp [ints]; omega) ?_)
    rw [wrap_id (x := (i : Int) + 1) (by omega) (by omega)]
    have := ih trivial
    unfold ints at this ⊢
    rw [List.range_succ, List.map_append] at this
    exact this
  · refine Ev.succ ?_
    simp only [impl_counting.l0]
    exact Ev.neg (by omega) (Ev.now _)
theorem ints_len (L : List Nat) : (ints L).length = L.length := by simp [ints]
theorem ints_app (L M : List Nat) : ints (L ++ M) = ints L ++ ints M := by simp [ints]
theorem ints_rd (L : List Nat) (i : Nat) (h : i < L.length) : rd (ints L) (i : Int) = ((L[i] : Nat) : Int) := by
  rw [rd_lt _ i (by rw [ints_len]; exact h)]; simp [ints]
theorem cmpEv (n : Nat) (c : Nat → Int) (h0 : ∀ i, 0 ≤ c i ∧ c i ≤ 1000000) (a b : Nat) (ha : a < n) (hb : b < n) : impl_BreedOnce_2.f (a : Int) (b : Int) ((List.range n).map c) = some (c b - c a) := by
  unfold impl_BreedOnce_2.f
  have hl : ((List.range n).map c).length = n := by simp
  have e1 : rd ((List.range n).map c) (b : Int) = c b := by rw [rd_lt _ b (by rw [hl]; exact hb)]; simp
  have e2 : rd ((List.range n).map c) (a : Int) = c a := by rw [rd_lt _ a (by rw [hl]; exact ha)]; simp
  have := h0 a
  have := h0 b
  rw [if_pos (by omega), if_pos (by rw [hl]; omega), if_pos (by omega), if_pos (by rw [hl]; omega), e1, e2, wrap_id (by omega) (by omega)]
theorem swap_at (A B D : List Nat) (x e : Nat) : ((ints (A ++ x :: e :: B)).set (A.length + 1) (x : Int)).set A.length (e : Int) = ints (A ++ e :: x :: B) := by
  rw [ints_app, ints_app]
  rw [List.set_append_right _ _ (by rw [ints_len]; omega), ints_len]
  rw [List.set_append_right _ _ (by rw [ints_len]; omega), ints_len]
  simp [ints]
theorem innerSort {n : Nat} (hn : n ≤ 16) {c : Nat → Int} (h0 : ∀ i, 0 ≤ c i ∧ c i ≤ 1000000) {i : Nat} (hi : i < n) {L : List Nat} (hs : L.Pairwise (Better c)) (hm : ∀ x, x ∈ L ↔ x < i) (hl : L.length = i) (R : List Nat) (hR : i + 1 + R.length = n) : ∀ j, j ≤ i → (∀ x ∈ L.drop j, c x < c i) → ∃ L' : List Nat, L'.Pairwise (Better c) ∧ (∀ x, x ∈ L' ↔ x < i + 1) ∧ L'.length = i + 1 ∧ ∀ r, Ev (fun k => slices_insertionSortCmpFunc_int64_impl_BreedOnce_2.l0 k (ints (L' ++ R)) 0 n ((i + 1 : Nat) : Int) ((List.range n).map c)) r → Ev (fun k => slices_insertionSortCmpFunc_int64_impl_BreedOnce_2.l1 k (ints (L.take j ++ i :: L.drop j ++ R)) 0 n (i : Int) (j : Int) ((List.range n).map c)) r := by
  have fin : ∀ j, j ≤ i → (∀ x ∈ L.drop j, c x < c i) → (∀ x, L[j - 1]? = some x → 0 < j → c i ≤ c x) → (L.take j ++ i :: L.drop j).Pairwise (Better c) ∧ (∀ x, x ∈ L.take j ++ i :: L.drop j ↔ x < i + 1) ∧ (L.take j ++ i :: L.drop j).length = i + 1 := by
    intro j hj hq hp
    refine ⟨ins_sorted hs (fun x hx => (hm x).1 hx) (by omega) hq hp, fun x => ?_, ?_⟩
    · have e : x ∈ L ↔ x ∈ L.take j ∨ x ∈ L.drop j := by rw [← List.mem_append, List.take_append_drop]
      rw [List.mem_append, List.mem_cons]
      have := hm x
      constructor
      · rintro (h | h | h)
        · have := this.1 (e.2 (.inl h)); omega
        · omega
        · have := this.1 (e.2 (.inr h)); omega
      · intro h
        by_cases hx : x = i
        · exact .inr (.inl hx)
        · rcases e.1 (this.2 (by omega)) with h | h
          · exact .inl h
          · exact .inr (.inr h)
    · rw [List.length_append, List.length_cons, List.length_take, List.length_drop]; omega
  intro j
  induction j with
  | zero =>
    intro hj hq
    obtain ⟨f1, f2, f3⟩ := fin 0 hj hq (fun _ _ h => absurd h (Nat.lt_irrefl 0))
    refine ⟨_, f1, f2, f3, fun r hr => Ev.succ ?_⟩
    simp only [slices_insertionSortCmpFunc_int64_impl_BreedOnce_2.l1]
    refine Ev.neg (by omega) ?_
    rw [wrapTo (x := (i : Int) + 1) (y := ((i + 1 : Nat) : Int)) (by omega) (by omega) (by omega)]
    exact hr
  | succ j ih =>
    intro hj hq
    have hjl : j < L.length := by omega
    have hLj : L[j] < n := by have := (hm _).1 (List.getElem_mem hjl); omega
    have ht : L.take (j + 1) = L.take j ++ [L[j]] := List.take_succ_eq_append_getElem hjl
    have hlen : (ints (L.take (j + 1) ++ i :: L.drop (j + 1) ++ R)).length = n := by
      rw [ints_len, List.length_append, List.length_append, List.length_cons, List.length_take, List.length_drop]; omega
    have e1 : rd (ints (L.take (j + 1) ++ i :: L.drop (j + 1) ++ R)) ((j + 1 : Nat) : Int) = (i : Int) := by
      rw [ints_rd _ _ (by rw [ints_len] at hlen; omega)]
      congr 1
      rw [List.getElem_append_left (by rw [List.length_append, List.length_cons, List.length_take, List.length_drop]; omega), List.getElem_append_right (by rw [List.length_take]; omega)]
      simp [List.length_take, Nat.min_eq_left (show j + 1 ≤ L.length by omega)]
    have e2 : rd (ints (L.take (j + 1) ++ i :: L.drop (j + 1) ++ R)) (j : Int) = ((L[j] : Nat) : Int) := by
      rw [ints_rd _ _ (by rw [ints_len] at hlen; omega)]
      congr 1
      rw [List.getElem_append_left (by rw [List.length_append, List.length_cons, List.length_take, List.length_drop]; omega), List.getElem_append_left (by rw [List.length_take]; omega), List.getElem_take]
    have ej : wrap64 (((j + 1 : Nat) : Int) - 1) = (j : Int) := wrapTo (by omega) (by omega) (by omega)
    by_cases hc : c L[j] < c i
    · obtain ⟨L', g1, g2, g3, g4⟩ := ih (by omega) (fun x hx => by
        rw [List.drop_eq_getElem_cons hjl] at hx
        rcases List.mem_cons.1 hx with rfl | hx
        · exact hc
        · exact hq x hx)
      refine ⟨L', g1, g2, g3, fun r hr => Ev.succ ?_⟩
      simp only [slices_insertionSortCmpFunc_int64_impl_BreedOnce_2.l1]
      rw [ej, e1, e2]
      refine Ev.pos (by omega) (Ev.pos (by omega) (Ev.pos (by rw [hlen]; omega) (Ev.pos (by omega) (Ev.pos (by rw [hlen]; omega) (Ev.bnd (cmpEv n c h0 i L[j] hi hLj) (Ev.pos (by omega) ?_))))))
      have := g4 r hr
      have hsw := swap_at (L.take j) (L.drop (j + 1) ++ R) [] L[j] i
      rw [List.length_take, Nat.min_eq_left (by omega)] at hsw
      rw [Int.toNat_natCast, Int.toNat_natCast]
      rw [show L.take (j + 1) ++ i :: L.drop (j + 1) ++ R = L.take j ++ L[j] :: i :: (L.drop (j + 1) ++ R) by rw [ht]; simp only [List.append_assoc, List.cons_append, List.nil_append], hsw]
      rw [List.drop_eq_getElem_cons hjl] at this
      rw [show L.take j ++ i :: L[j] :: (L.drop (j + 1) ++ R) = L.take j ++ i :: (L[j] :: L.drop (j + 1)) ++ R by simp only [List.append_assoc, List.cons_append]]
      exact this
    · obtain ⟨f1, f2, f3⟩ := fin (j + 1) hj hq (fun x hx _ => by
        rw [Nat.add_sub_cancel, List.getElem?_eq_getElem hjl] at hx
        injection hx with hx
        rw [← hx]; omega)
      refine ⟨_, f1, f2, f3, fun r hr => Ev.succ ?_⟩
      simp only [slices_insertionSortCmpFunc_int64_impl_BreedOnce_2.l1]
      rw [ej, e1, e2]
      refine Ev.pos (by omega) (Ev.pos (by omega) (Ev.pos (by rw [hlen]; omega) (Ev.pos (by omega) (Ev.pos (by rw [hlen]; omega) (Ev.bnd (cmpEv n c h0 i L[j] hi hLj) (Ev.neg (by omega) ?_))))))
      rw [wrapTo (x := (i : Int) + 1) (y := ((i + 1 : Nat) : Int)) (by omega) (by omega) (by omega)]
      exact hr
theorem outerSort {n : Nat} (hn : n ≤ 16) {c : Nat → Int} (h0 : ∀ i, 0 ≤ c i ∧ c i ≤ 1000000) : ∀ d i (L : List Nat), i + d = n → L.Pairwise (Better c) → (∀ x, x ∈ L ↔ x < i) → L.length = i → ∃ M : List Nat, M.Pairwise (Better c) ∧ (∀ x, x ∈ M ↔ x < n) ∧ M.length = n ∧ Ev (fun k => slices_insertionSortCmpFunc_int64_impl_BreedOnce_2.l0 k (ints (L ++ (List.range n).drop i)) 0 n (i : Int) ((List.range n).map c)) (ints M) := by
  intro d
  induction d with
  | zero =>
    intro i L hi hs hm hl
    obtain rfl : i = n := by omega
    refine ⟨L, hs, hm, hl, Ev.succ ?_⟩
    simp only [slices_insertionSortCmpFunc_int64_impl_BreedOnce_2.l0]
    rw [List.drop_of_length_le (by simp), List.append_nil]
    exact Ev.neg (by omega) (Ev.now _)
  | succ d ih =>
    intro i L hi hs hm hl
    have hd : (List.range n).drop i = i :: (List.range n).drop (i + 1) := by
      rw [List.drop_eq_getElem_cons (by simp; omega)]; simp
    obtain ⟨L', g1, g2, g3, g4⟩ := innerSort hn h0 (show i < n by omega) hs hm hl ((List.range n).drop (i + 1)) (by rw [List.length_drop, List.length_range]; omega) i (Nat.le_refl _) (fun x hx => by rw [List.drop_of_length_le (by omega)] at hx; cases hx)
    obtain ⟨M, k1, k2, k3, k4⟩ := ih (i + 1) L' (by omega) g1 g2 g3
    refine ⟨M, k1, k2, k3, Ev.succ ?_⟩
    simp only [slices_insertionSortCmpFunc_int64_impl_BreedOnce_2.l0]
    refine Ev.pos (by omega) ?_
    have := g4 _ k4
    rw [List.take_of_length_le (by omega), List.drop_of_length_le (by omega)] at this
    rw [hd]
    rw [show L ++ i :: (List.range n).drop (i + 1) = L ++ [i] ++ (List.range n).drop (i + 1) by simp]
    exact this
theorem sortImpl {n : Nat} (h1 : 1 ≤ n) (hn : n ≤ 16) {c : Nat → Int} (h0 : ∀ i, 0 ≤ c i ∧ c i ≤ 1000000) : ∃ M : List Nat, M.Pairwise (Better c) ∧ (∀ x, x ∈ M ↔ x < n) ∧ M.length = n ∧ Ev (fun k => slices_SortStableFunc_int64_int64_impl_BreedOnce_2.f k (ints (List.range n)) ((List.range n).map c)) (ints M) := by
  obtain ⟨M, k1, k2, k3, k4⟩ := outerSort hn h0 (n - 1) 1 [0] (by omega) (List.pairwise_singleton _ _) (fun x => by rw [List.mem_singleton]; omega) rfl
  refine ⟨M, k1, k2, k3, ?_⟩
  unfold slices_SortStableFunc_int64_int64_impl_BreedOnce_2.f
  refine Ev.bind (a := ints M) ?_ (Ev.now _)
  unfold slices_stableCmpFunc_int64_impl_BreedOnce_2.f
  refine Ev.succ ?_
  simp only [slices_stableCmpFunc_int64_impl_BreedOnce_2.l0]
  rw [ints_len, List.length_range]
  refine Ev.neg (by omega) (Ev.bind (a := ints M) ?_ (Ev.succ ?_))
  · unfold slices_insertionSortCmpFunc_int64_impl_BreedOnce_2.f
    have e : ints ([0] ++ (List.range n).drop 1) = ints (List.range n) := by
      have : (List.range n) = 0 :: (List.range n).drop 1 := by
        have := List.drop_eq_getElem_cons (l := List.range n) (i := 0) (by simp; omega)
        rw [List.drop_zero] at this
        rw [this]; simp
      conv => rhs; rw [this]
      rfl
    rw [e] at k4
    rw [wrapTo (x := (0 : Int) + 1) (y := ((1 : Nat) : Int)) (by omega) (by omega) (by omega)]
    exact k4
  · simp only [slices_stableCmpFunc_int64_impl_BreedOnce_2.l1]
    exact Ev.neg (by omega) (Ev.now _)
/-! ### What is bred -/
structure AllOk (P : List S36) (n tr st : Nat) (seed : Int) : Prop where
  l2 : 2 ≤ P.length
  l16 : P.length ≤ 16
  ok : ∀ i, i < P.length → okI P n tr st seed i
  sm : SmallP P
theorem AllOk.seed {P : List S36} {n tr st : Nat} {seed : Int} (h : AllOk P n tr st seed) : seedOk seed := (okI_facts (h.ok 0 (by have := h.l2; omega))).2.2.2.2.2.2.2.2.2.2
theorem AllOk.len {P : List S36} {n tr st : Nat} {seed : Int} (h : AllOk P n tr st seed) {i : Nat} (hi : i < P.length) : (rd_T36 P (i : Int)).f2.length = (rd_T36 P 0).f2.length ∧ 0 < (rd_T36 P 0).f2.length ∧ (rd_T36 P 0).f2.length ≤ 1000000 := by
  have h1 := (okI_facts (h.ok i hi)).2.2.2.1
  have h0 := (okI_facts (h.ok 0 (by have := h.l2; omega))).2.2.2.1
  exact ⟨same_len h1 h0, (valid_len h0).1, (valid_len h0).2⟩
theorem T_bounds (P : List S36) (n tr st : Nat) (seed : Int) (htr : tr ≤ 32) (i : Nat) : 0 ≤ (T P n tr st seed i).1 ∧ (T P n tr st seed i).1 ≤ 1000000 := by
  have := tries_ok 2 (rd_T36 P 0).f1 (rd_T36 P (i : Int)).f2 n st seed tr
  unfold T
  omega
/-- The numbers and the seed behind the first of a pool. -/
noncomputable def cnts (P : List S36) (n tr st : Nat) (seed : Int) (i : Nat) : List Int := (List.range i).map fun j => (T P n tr st seed j).1
noncomputable def nxts (P : List S36) (n tr st : Nat) (seed z : Int) : Nat → Int
  | 0 => z
  | i + 1 => (T P n tr st seed i).2
theorem cnts_len (P : List S36) (n tr st : Nat) (seed : Int) (i : Nat) : (cnts P n tr st seed i).length = i := by simp [cnts]
theorem cnts_rd (P : List S36) (n tr st : Nat) (seed : Int) (i j : Nat) (h : j < i) : rd (cnts P n tr st seed i) (j : Int) = (T P n tr st seed j).1 := by
  rw [rd_lt _ j (by rw [cnts_len]; exact h)]; simp [cnts]
theorem specCounts {P : List S36} {n tr st : Nat} {seed : Int} (h : AllOk P n tr st seed) {r : List S36 × Int × Bool} (last : Ev (fun k => spec_BreedOnce.l1 k P (cnts P n tr st seed P.length) (nxts P n tr st seed seed P.length) ((P.length / 2 : Nat) : Int) [] (List.replicate P.length false) 0) r) : Ev (fun k => spec_BreedOnce.l0 k P n tr st seed [] seed P.length 0) r := by
  have h2 := h.l2
  have h16 := h.l16
  refine Ev.congr (fun k => ?_) (Ev.upto P.length (fun _ => True) (fun i => (cnts P n tr st seed i, nxts P n tr st seed seed i)) r (fun k s i => spec_BreedOnce.l0 k P n tr st seed s.1 s.2 P.length i) (fun i hi _ ih => ?_) (fun _ => ?_) trivial)
  · simp [cnts, nxts]
  · refine Ev.succ ?_
    simp only [spec_BreedOnce.l0]
    have hok := h.ok i hi
    refine Ev.pos (by omega) (Ev.pos (by omega) (Ev.pos (by omega) (Ev.bind (taskSpecT h.sm _ _ _ seed i (by omega)) (Ev.pos (cd_true hok.1) (Ev.pos (by omega) (Ev.pos hok.2 (Ev.bind (countSpec hok) (Ev.pos (by rw [cnts_len]; omega) ?_))))))))
    rw [wrap_id (x := (i : Int) + 1) (by omega) (by omega)]
    have := ih trivial
    unfold cnts at this ⊢
    rw [List.range_succ, List.map_append] at this
    exact this
  · refine Ev.succ ?_
    simp only [spec_BreedOnce.l0]
    refine Ev.neg (by omega) (Ev.pos (by omega) (Ev.pos (by rw [Int.toNat_natCast]; omega) ?_))
    rw [mx1 _ h2 h16, Int.toNat_natCast]
    exact last
theorem implCounts {P : List S36} {n tr st : Nat} {seed : Int} (h : AllOk P n tr st seed) {M : List Nat} (hM : M.length = P.length) (hsort : Ev (fun k => slices_SortStableFunc_int64_int64_impl_BreedOnce_2.f k (ints (List.range P.length)) (cnts P n tr st seed P.length)) (ints M)) {r : List S36 × Int × Bool} (last : Ev (fun k => impl_BreedOnce.l1 k (nxts P n tr st seed 0 P.length) ((P.length / 2 : Nat) : Int) [] (ints (M.take (P.length / 2))) ((P.length / 2 : Nat) : Int) 0 P) r) : Ev (fun k => impl_BreedOnce.l0 k 0 P P.length 0 P n tr st seed (List.replicate P.length 0)) r := by
  have h2 := h.l2
  have h16 := h.l16
  refine Ev.congr (fun k => ?_) (Ev.upto P.length (fun _ => True) (fun i => (nxts P n tr st seed 0 i, cnts P n tr st seed i ++ (List.replicate P.length 0).drop i)) r (fun k s i => impl_BreedOnce.l0 k s.1 P P.length i P n tr st seed s.2) (fun i hi _ ih => ?_) (fun _ => ?_) trivial)
  · simp [cnts, nxts]
  · refine Ev.succ ?_
    simp only [impl_BreedOnce.l0]
    have hok := h.ok i hi
    refine Ev.pos (by omega) (Ev.pos (by omega) (Ev.pos (by omega) (Ev.bind (countImpl hok) (Ev.pos (by rw [List.length_append, cnts_len, List.length_drop, List.length_replicate]; omega) ?_))))
    rw [wrap_id (x := (i : Int) + 1) (by omega) (by omega), Int.toNat_natCast, List.set_append_right _ _ (by rw [cnts_len]; omega), cnts_len, Nat.sub_self, List.drop_eq_getElem_cons (by simp; omega), List.set_cons_zero]
    have := ih trivial
    unfold cnts at this ⊢
    rw [List.range_succ, List.map_append, List.append_assoc] at this
    exact this
  · refine Ev.succ ?_
    simp only [impl_BreedOnce.l0]
    rw [List.drop_of_length_le (by simp), List.append_nil]
    refine Ev.neg (by omega) (Ev.bind (countingImpl _ h16) (Ev.bind hsort ?_))
    rw [mx1 _ h2 h16]
    refine Ev.pos (by omega) (Ev.pos (by rw [ints_len, List.length_range]; omega) (Ev.bnd rfl ?_))
    rw [Int.toNat_natCast]
    have e : (ints M).take (P.length / 2) = ints (M.take (P.length / 2)) := by unfold ints; rw [List.map_take]
    rw [e, ints_len, List.length_take, Nat.min_eq_left (by omega)]
    exact last
/-- The best of a pool, in order. -/
def tops (P : List S36) (M : List Nat) (k : Nat) : List S36 := (M.take k).map fun (i : Nat) => rd_T36 P (i : Int)
theorem tops_len (P : List S36) (M : List Nat) (k : Nat) (h : k ≤ M.length) : (tops P M k).length = k := by simp [tops]; omega
theorem tops_succ (P : List S36) (M : List Nat) (k : Nat) (h : k < M.length) : tops P M (k + 1) = tops P M k ++ [rd_T36 P ((M[k] : Nat) : Int)] := by
  unfold tops; rw [List.take_succ_eq_append_getElem h, List.map_append]; rfl
theorem implTops {P : List S36} {n tr st : Nat} {seed : Int} (h : AllOk P n tr st seed) {M : List Nat} (hm : ∀ x, x ∈ M ↔ x < P.length) (hM : M.length = P.length) (nx : Int) {r : List S36 × Int × Bool} (last : Ev (fun k => impl_BreedOnce.l2 k nx ((P.length / 2 : Nat) : Int) (tops P M (P.length / 2)) 0 P) r) : Ev (fun k => impl_BreedOnce.l1 k nx ((P.length / 2 : Nat) : Int) [] (ints (M.take (P.length / 2))) ((P.length / 2 : Nat) : Int) 0 P) r := by
  have h2 := h.l2
  have h16 := h.l16
  refine Ev.congr (fun k => ?_) (Ev.upto (P.length / 2) (fun _ => True) (fun i => tops P M i) r (fun k s i => impl_BreedOnce.l1 k nx ((P.length / 2 : Nat) : Int) s (ints (M.take (P.length / 2))) ((P.length / 2 : Nat) : Int) i P) (fun i hi _ ih => ?_) (fun _ => ?_) trivial)
  · simp [tops]
  · refine Ev.succ ?_
    simp only [impl_BreedOnce.l1]
    have hiM : i < M.length := by omega
    have e : rd (ints (M.take (P.length / 2))) (i : Int) = ((M[i] : Nat) : Int) := by
      rw [ints_rd _ _ (by rw [List.length_take]; omega), List.getElem_take]
    have hx : M[i] < P.length := (hm _).1 (List.getElem_mem hiM)
    have hl := h.len hx
    rw [e]
    refine Ev.pos (by omega) (Ev.pos (by omega) (Ev.pos (by rw [ints_len, List.length_take]; omega) (Ev.pos (by omega) (Ev.pos (by omega) (Ev.bnd (cloneImpl _ (by omega)) (Ev.pos (by rw [tops_len _ _ _ (by omega)]; omega) ?_))))))
    rw [wrap_id (x := (i : Int) + 1) (by omega) (by omega)]
    have := ih trivial
    rw [tops_succ P M i hiM] at this
    exact this
  · refine Ev.succ ?_
    simp only [impl_BreedOnce.l1]
    exact Ev.neg (by omega) last
def bestI : Option Nat → Int
  | none => -1
  | some b => (b : Int)
/-- Who is taken. -/
def takes (m : Nat) (M : List Nat) (k : Nat) : List Bool := (List.range m).map fun x => decide (x ∈ M.take k)
theorem takes_len (m : Nat) (M : List Nat) (k : Nat) : (takes m M k).length = m := by simp [takes]
theorem takes_rd (m : Nat) (M : List Nat) (k i : Nat) (h : i < m) : rdOf false (takes m M k) (i : Int) = decide (i ∈ M.take k) := by
  unfold rdOf
  rw [Int.toNat_natCast, List.getD_eq_getElem?_getD, List.getElem?_eq_getElem (by rw [takes_len]; exact h)]
  simp [takes]
theorem takes_get (m : Nat) (M : List Nat) (k i : Nat) (h : i < (takes m M k).length) : (takes m M k)[i] = decide (i ∈ M.take k) := by simp [takes]
theorem takes_set (m : Nat) (M : List Nat) (k : Nat) (hk : k < M.length) : (takes m M k).set M[k] true = takes m M (k + 1) := by
  apply List.ext_getElem
  · simp [takes]
  · intro i h1 h2
    rw [List.getElem_set, takes_get, takes_get, List.take_succ_eq_append_getElem hk]
    by_cases e : M[k] = i
    · rw [if_pos e]; simp [e]
    · rw [if_neg e]
      have : i ≠ M[k] := fun h => e h.symm
      simp only [List.mem_append, List.mem_singleton, this, or_false]
theorem specTops {P : List S36} {n tr st : Nat} {seed : Int} (h : AllOk P n tr st seed) {M : List Nat} (hs : M.Pairwise (Better fun j => (T P n tr st seed j).1)) (hm : ∀ x, x ∈ M ↔ x < P.length) (hM : M.length = P.length) (nx : Int) {r : List S36 × Int × Bool} (last : Ev (fun k => spec_BreedOnce.l3 k P nx ((P.length / 2 : Nat) : Int) (tops P M (P.length / 2)) 0) r) : Ev (fun k => spec_BreedOnce.l1 k P (cnts P n tr st seed P.length) nx ((P.length / 2 : Nat) : Int) [] (List.replicate P.length false) 0) r := by
  have h2 := h.l2
  have h16 := h.l16
  refine Ev.congr (fun k => ?_) (Ev.upto (P.length / 2) (fun _ => True) (fun i => (tops P M i, takes P.length M i)) r (fun k s i => spec_BreedOnce.l1 k P (cnts P n tr st seed P.length) nx ((P.length / 2 : Nat) : Int) s.1 s.2 i) (fun i hi _ ih => ?_) (fun _ => ?_) trivial)
  · have e : takes P.length M 0 = List.replicate P.length false := by
      apply List.ext_getElem
      · simp [takes]
      · intro i h1 h2
        simp [takes]
    rw [e]; simp [tops]
  · refine Ev.succ ?_
    simp only [spec_BreedOnce.l1]
    refine Ev.pos (by omega) ?_
    have hiM : i < M.length := by omega
    have hx : M[i] < P.length := (hm _).1 (List.getElem_mem hiM)
    have hl := h.len hx
    have hscan : scan (fun j => (T P n tr st seed j).1) (fun x => decide (x ∈ M.take i)) P.length = some M[i] := scan_sorted hs hm hiM (fun x _ => by simp)
    refine Ev.congr (fun k => ?_) (Ev.upto P.length (fun _ => True) (fun j => scan (fun j => (T P n tr st seed j).1) (fun x => decide (x ∈ M.take i)) j) r (fun k s j => spec_BreedOnce.l2 k P (cnts P n tr st seed P.length) nx ((P.length / 2 : Nat) : Int) (tops P M i) (takes P.length M i) i (bestI s) P.length j) (fun j hj _ ih2 => ?_) (fun _ => ?_) trivial)
    · rfl
    · refine Ev.succ ?_
      simp only [spec_BreedOnce.l2]
      rw [takes_rd _ _ _ _ hj, wrap_id (x := (j : Int) + 1) (by omega) (by omega)]
      refine Ev.pos (by omega) (Ev.pos (by omega) (Ev.pos (by rw [takes_len]; omega) ?_))
      have ih3 := ih2 trivial
      by_cases ct : decide (j ∈ M.take i) = true
      · refine Ev.pos ct ?_
        have e : scan (fun j => (T P n tr st seed j).1) (fun x => decide (x ∈ M.take i)) (j + 1) = scan (fun j => (T P n tr st seed j).1) (fun x => decide (x ∈ M.take i)) j := by
          conv => lhs; unfold scan
          cases scan (fun j => (T P n tr st seed j).1) (fun x => decide (x ∈ M.take i)) j with
          | none => simp only [ct, if_true]
          | some b => simp only [ct, if_true]
        rw [e] at ih3
        exact ih3
      · refine Ev.neg ct ?_
        cases hsc : scan (fun j => (T P n tr st seed j).1) (fun x => decide (x ∈ M.take i)) j with
        | none =>
          have e : scan (fun j => (T P n tr st seed j).1) (fun x => decide (x ∈ M.take i)) (j + 1) = some j := by
            unfold scan; rw [hsc]; simp only [ct]; rfl
          rw [e] at ih3
          exact Ev.pos (by decide) ih3
        | some b =>
          have hb := (scan_some j b hsc).1
          have e : scan (fun j => (T P n tr st seed j).1) (fun x => decide (x ∈ M.take i)) (j + 1) = if (T P n tr st seed b).1 < (T P n tr st seed j).1 then some j else some b := by
            conv => lhs; unfold scan
            rw [hsc]; simp only [ct]; rfl
          rw [e] at ih3
          show Ev (fun k => if (b : Int) < 0 then _ else _) r
          refine Ev.neg (by omega) (Ev.pos (by rw [cnts_len]; omega) (Ev.pos (by show (0 : Int) ≤ (b : Int); omega) (Ev.pos (by show (b : Int) < _; rw [cnts_len]; omega) ?_)))
          show Ev (fun k => if rd (cnts P n tr st seed P.length) (j : Int) > rd (cnts P n tr st seed P.length) (b : Int) then _ else _) r
          rw [cnts_rd _ _ _ _ _ _ _ hj, cnts_rd _ _ _ _ _ _ _ (by omega)]
          by_cases cc : (T P n tr st seed b).1 < (T P n tr st seed j).1
          · rw [if_pos cc] at ih3
            exact Ev.pos cc ih3
          · rw [if_neg cc] at ih3
            exact Ev.neg cc ih3
    · refine Ev.succ ?_
      rw [hscan]
      simp only [spec_BreedOnce.l2, bestI]
      refine Ev.neg (by omega) (Ev.pos (by omega) (Ev.pos (by rw [takes_len]; omega) (Ev.pos (by omega) (Ev.bnd (ownSpec _ _ _ (by omega)) (Ev.pos (by rw [tops_len _ _ _ (by omega)]; omega) ?_)))))
      rw [wrap_id (x := (i : Int) + 1) (by omega) (by omega), Int.toNat_natCast, takes_set _ _ _ hiM]
      have := ih trivial
      rw [tops_succ P M i hiM] at this
      exact this
  · refine Ev.succ ?_
    simp only [spec_BreedOnce.l1]
    exact Ev.neg (by omega) last
theorem modN (i h : Nat) : Int.tmod (i : Int) (h : Int) = ((i % h : Nat) : Int) := by
  rw [Int.tmod_eq_emod_of_nonneg (by omega)]; exact (Int.natCast_emod i h).symm
/-- What is bred so far. -/
structure Bred (r : Int) (n0 : Nat) (O : List S36) : Prop where
  all : ∀ x ∈ O, x.f0 = 2 ∧ x.f1 = r ∧ x.f2.length = n0
theorem crossBoth {P : List S36} {n tr st : Nat} {seed : Int} (h : AllOk P n tr st seed) (d : Nat) : ∀ (i : Nat) (O : List S36) (nx : Int), P.length / 2 + i + d = P.length → O.length = P.length / 2 + i → Bred (rd_T36 P 0).f1 (rd_T36 P 0).f2.length O → seedOk nx → ∃ (Q : List S36) (ny : Int), Ev (fun k => spec_BreedOnce.l3 k P nx ((P.length / 2 : Nat) : Int) O (i : Int)) (Q, ny, true) ∧ Ev (fun k => impl_BreedOnce.l2 k nx ((P.length / 2 : Nat) : Int) O (i : Int) P) (Q, ny, true) ∧ Q.length = P.length ∧ Bred (rd_T36 P 0).f1 (rd_T36 P 0).f2.length Q := by
  have h2 := h.l2
  have h16 := h.l16
  obtain ⟨_, hz, hz1⟩ := h.len (i := 0) (by omega)
  induction d with
  | zero =>
    intro i O nx hd ho hB hs
    refine ⟨O, nx, Ev.succ ?_, Ev.succ ?_, by omega, hB⟩
    · simp only [spec_BreedOnce.l3]
      exact Ev.neg (by omega) (Ev.now _)
    · simp only [impl_BreedOnce.l2]
      exact Ev.neg (by omega) (Ev.now _)
  | succ d ih =>
    intro i O nx hd ho hB hs
    have hm0 : i % (P.length / 2) < P.length / 2 := Nat.mod_lt _ (by omega)
    have hm1 : (i + 1) % (P.length / 2) < P.length / 2 := Nat.mod_lt _ (by omega)
    have ha := hB.all _ (mem36 O (i % (P.length / 2)) (by omega))
    have hb := hB.all _ (mem36 O ((i + 1) % (P.length / 2)) (by omega))
    have e1 : wrap64 ((i : Int) + 1) = ((i + 1 : Nat) : Int) := wrapTo (by omega) (by omega) (by omega)
    have ep : wrap64 ((((rd_T36 P 0).f2).length : Int) / 2) = (((rd_T36 P 0).f2.length / 2 : Nat) : Int) := wrapTo (by omega) (by omega) (by omega)
    generalize hA : rd_T36 O ((i % (P.length / 2) : Nat) : Int) = A at ha
    generalize hD : rd_T36 O (((i + 1) % (P.length / 2) : Nat) : Int) = D at hb
    obtain ⟨a0, a1, a2⟩ := A
    obtain ⟨b0, b1, b2⟩ := D
    obtain ⟨rfl, rfl, la⟩ := ha
    obtain ⟨rfl, hb1, lb⟩ := hb
    simp only at la lb hb1
    subst hb1
    have hcS := crossSpec (rd_T36 P 0).f1 a2 b2 (((rd_T36 P 0).f2.length / 2 : Nat) : Int) (by omega) (by omega) (by omega) (by omega)
    have hcI := crossImpl (rd_T36 P 0).f1 a2 b2 (((rd_T36 P 0).f2.length / 2 : Nat) : Int) (by omega) (by omega) (by omega) (by omega)
    rw [Int.toNat_natCast] at hcS hcI
    have hl : (a2.take ((rd_T36 P 0).f2.length / 2) ++ b2.drop ((rd_T36 P 0).f2.length / 2)).length = (rd_T36 P 0).f2.length := by
      rw [List.length_append, List.length_take, List.length_drop]; omega
    generalize a2.take ((rd_T36 P 0).f2.length / 2) ++ b2.drop ((rd_T36 P 0).f2.length / 2) = t at hcS hcI hl
    have hgS := changeSpec 2 (rd_T36 P 0).f1 t 1 nx (by omega) (by omega) (by omega) (by omega) hs
    have hgI := changeImpl 2 (rd_T36 P 0).f1 t 1 nx (by omega) (by omega) (by omega) (by omega) hs
    obtain ⟨Q, ny, q1, q2, q3, q4⟩ := ih (i + 1) (O ++ [(⟨2, (rd_T36 P 0).f1, (chgs nx t (1 : Int).toNat).2⟩ : S36)]) (chgs nx t (1 : Int).toNat).1 (by omega) (by simp; omega) ⟨fun x hx => by
      rcases List.mem_append.1 hx with hx | hx
      · exact hB.all x hx
      · rw [List.mem_singleton.1 hx]
        exact ⟨rfl, rfl, by show (chgs nx t _).2.length = _; rw [chgs_length]; exact hl⟩⟩ (chgs_seed nx t hs _)
    refine ⟨Q, ny, Ev.succ ?_, Ev.succ ?_, q3, q4⟩
    · simp only [spec_BreedOnce.l3]
      rw [e1, modN, modN, ep, hA, hD]
      exact Ev.pos (by omega) (Ev.neg (by omega) (Ev.pos (by omega) (Ev.pos (by omega) (Ev.pos (by omega) (Ev.pos (by omega) (Ev.pos (by omega) (Ev.bind hcS (Ev.bind hgS (Ev.pos (by omega) q1)))))))))
    · simp only [impl_BreedOnce.l2]
      rw [e1, modN, modN, ep, hA, hD]
      exact Ev.pos (by omega) (Ev.neg (by omega) (Ev.pos (by omega) (Ev.pos (by omega) (Ev.pos (by omega) (Ev.pos (by omega) (Ev.pos (by omega) (Ev.bind hcI (Ev.bind hgI (Ev.pos (by omega) q2)))))))))
theorem T_seed {P : List S36} {n tr st : Nat} {seed : Int} (h : seedOk seed) (i : Nat) : seedOk (T P n tr st seed i).2 := tries_seed _ _ _ _ _ _ h _
/-- BreedOnce of the program and of the reference answer the same. -/
theorem breedBoth (P : List S36) (n tr st seed w : Int) (hP : SmallP P) : ∃ (Q : List S36) (ny : Int) (b : Bool), Ev (fun k => spec_BreedOnce.f k P n tr st seed w) (Q, ny, b) ∧ Ev (fun k => impl_BreedOnce.f k P n tr st seed w) (Q, ny, b) ∧ Q.length ≤ 16 ∧ (∀ x ∈ Q, x.f2.length ≤ 1000000) := by
  have failS : ∀ x : Bool, x = true → Ev (fun k => spec_BreedOnce.j0 k P n tr st seed x) (([] : List S36), 0, false) := by
    rintro x rfl
    refine Ev.succ ?_
    simp only [spec_BreedOnce.j0]
    exact Ev.pos trivial (Ev.now _)
  have failI : ∀ x : Bool, x = true → Ev (fun k => impl_BreedOnce.j0 k x P n tr st seed) (([] : List S36), 0, false) := by
    rintro x rfl
    refine Ev.succ ?_
    simp only [impl_BreedOnce.j0]
    exact Ev.pos trivial (Ev.now _)
  have w1 : spec_l00In.f w 1 8 = some (decide (1 ≤ w ∧ w ≤ 8)) := l00In w 1 8
  have w2 : impl_areWorkers.f w = some (decide (1 ≤ w ∧ w ≤ 8)) := by
    unfold impl_areWorkers.f; rw [within]; rfl
  by_cases c2 : (P.length : Int) < 2
  · exact ⟨[], 0, false, Ev.pos c2 (failS true rfl), Ev.pos c2 (failI true rfl), by simp, by simp⟩
  by_cases c16 : (P.length : Int) > 16
  · exact ⟨[], 0, false, Ev.neg c2 (Ev.pos c16 (failS true rfl)), Ev.neg c2 (Ev.pos c16 (failI true rfl)), by simp, by simp⟩
  by_cases cw : ¬ (1 ≤ w ∧ w ≤ 8)
  · refine ⟨[], 0, false, Ev.neg c2 (Ev.neg c16 (Ev.bnd w1 (failS _ (by simp [cw])))), Ev.neg c2 (Ev.neg c16 (Ev.bnd w2 (Ev.neg (by simp [cw]) (failI true rfl)))), by simp, by simp⟩
  have cw := Decidable.not_not.1 cw
  by_cases ca : ∀ i, i < P.length → okI P n tr st seed i
  · obtain ⟨n', tr', st', rfl, rfl, rfl⟩ := okI_nat (ca 0 (by omega))
    have hA : AllOk P n' tr' st' seed := ⟨by omega, by omega, ca, hP⟩
    have htr : tr' ≤ 32 := by have := (okI_facts (ca 0 (by omega))).2.2.2.2.2.2.2.1; omega
    obtain ⟨M, m1, m2, m3, m4⟩ := sortImpl (n := P.length) (by omega) (by omega) (c := fun j => (T P n' tr' st' seed j).1) (fun i => T_bounds P n' tr' st' seed htr i)
    have hsd : seedOk (nxts P n' tr' st' seed seed P.length) := by
      cases hh : P.length with
      | zero => omega
      | succ m => exact T_seed hA.seed _
    have hnx : nxts P n' tr' st' seed 0 P.length = nxts P n' tr' st' seed seed P.length := by
      cases hh : P.length with
      | zero => omega
      | succ m => rfl
    obtain ⟨Q, ny, q1, q2, q3, q4⟩ := crossBoth hA (P.length - P.length / 2) 0 (tops P M (P.length / 2)) (nxts P n' tr' st' seed seed P.length) (by omega) (by rw [tops_len _ _ _ (by omega)]; omega) ⟨fun x hx => by
      unfold tops at hx
      obtain ⟨i, hi, rfl⟩ := List.mem_map.1 hx
      have hil := (m2 i).1 (List.mem_of_mem_take hi)
      have hf := okI_facts (ca i hil)
      exact ⟨hf.1, hf.2.1, (hA.len hil).1⟩⟩ hsd
    refine ⟨Q, ny, true, Ev.neg c2 (Ev.neg c16 (Ev.bnd w1 (Ev.succ ?_))), Ev.neg c2 (Ev.neg c16 (Ev.bnd w2 (Ev.pos (by simp [cw]) (Ev.bind (containsOk hP (by omega) ca) (Ev.succ ?_))))), by omega, fun x hx => ?_⟩
    · simp only [spec_BreedOnce.j0]
      exact Ev.neg (by simp [cw]) (specCounts hA (specTops hA m1 m2 m3 _ q1))
    · simp only [impl_BreedOnce.j0]
      refine Ev.neg (by simp) (Ev.pos (by omega) (Ev.pos (by rw [Int.toNat_natCast]; omega) ?_))
      rw [Int.toNat_natCast]
      refine implCounts hA m3 m4 ?_
      rw [hnx]
      exact implTops hA m2 m3 _ q2
    · have hq := q4.all x hx
      have hz := hA.len (i := 0) (by omega)
      omega
  · obtain ⟨j, hj⟩ : ∃ j, (j < P.length ∧ ¬ okI P n tr st seed j) ∧ ∀ i, i < j → okI P n tr st seed i := by
      have main : ∀ m, m ≤ P.length → (∀ i, i < m → okI P n tr st seed i) ∨ ∃ j, (j < P.length ∧ ¬ okI P n tr st seed j) ∧ ∀ i, i < j → okI P n tr st seed i := by
        intro m
        induction m with
        | zero => intro _; exact .inl (fun i hi => absurd hi (Nat.not_lt_zero i))
        | succ m ih =>
          intro hm
          rcases ih (by omega) with h | h
          · by_cases hc : okI P n tr st seed m
            · refine .inl (fun i hi => ?_)
              by_cases e : i = m
              · rw [e]; exact hc
              · exact h i (by omega)
            · exact .inr ⟨m, ⟨by omega, hc⟩, h⟩
          · exact .inr h
      rcases main P.length (Nat.le_refl _) with h | h
      · exact absurd h ca
      · exact h
    refine ⟨[], 0, false, Ev.neg c2 (Ev.neg c16 (Ev.bnd w1 (Ev.succ ?_))), Ev.neg c2 (Ev.neg c16 (Ev.bnd w2 (Ev.pos (by simp [cw]) (Ev.bind (containsFail hP (by omega) hj.1.1 hj.1.2 hj.2) (failI true rfl))))), by simp, by simp⟩
    simp only [spec_BreedOnce.j0]
    refine Ev.neg (by simp [cw]) ?_
    exact specFail hP (by omega) hj.1.1 hj.1.2 hj.2 j 0 [] seed (by omega) rfl

theorem szInt64S (l : List Int) (a : Int) (hl : l.length ≤ 35184372088832) (h0 : -1000000000000 ≤ a) (h1 : a ≤ 1000000000000) : laws_szInt64S.f l a = some (if a - l.length < 0 then -1 else a - l.length) := by
  unfold laws_szInt64S.f
  rw [wrap_id (x := a - l.length) (by omega) (by omega)]
  split <;> rfl

theorem szRule (s r : Int) (t : List Int) (a : Int) (hl : t.length ≤ 35184372088832) (h0 : 0 ≤ a) (h1 : a ≤ 1000000000) : laws_szRule.f s r t a = some (if a - t.length < 0 then -1 else a - t.length) := by
  unfold laws_szRule.f
  rw [szInt64S t a hl (by omega) (by omega)]
  by_cases c : a - (t.length : Int) < 0
  · rw [if_pos c]; rfl
  · rw [if_neg c]
    show (if _ then _ else _) = _
    rw [if_neg c]

theorem toInt64S (l : List Int) (hl : l.length ≤ 35184372088832) : Ev (fun k => laws_toInt64S.f k l) l := by
  unfold laws_toInt64S.f
  refine Ev.pos (by omega) (Ev.pos (by omega) ?_)
  refine Ev.cast (Ev.upto l.length (fun _ => True) (fun i => l.take i ++ List.replicate (l.length - i) 0) l (fun k s i => laws_toInt64S.l0 k l s i) (fun i hi _ ih => ?_) (fun _ => ?_) trivial) rfl
  · refine Ev.succ ?_
    simp only [laws_toInt64S.l0]
    refine Ev.pos (by omega) (Ev.pos (by omega) (Ev.pos (by simp; omega) ?_))
    rw [wrap_id (by omega) (by omega), Int.toNat_natCast, rd_lt l i hi, take_set_rep l i hi]
    exact ih trivial
  · refine Ev.succ ?_
    simp only [laws_toInt64S.l0]
    exact Ev.neg (by omega) (Ev.val (by simp))

theorem toRule (s r : Int) (t : List Int) (hl : t.length ≤ 35184372088832) : Ev (fun k => laws_toRule.f k s r t) (s, r, t) := by
  unfold laws_toRule.f
  exact Ev.bind (toInt64S t hl) (Ev.now _)

def conv49 (x : S49) : S36 := ⟨x.f0, x.f1, x.f2⟩
theorem rd49 (l : List S49) (i : Nat) (h : i < l.length) : rd_T49 l (i : Int) = l[i] := by
  unfold rd_T49; rw [Int.toNat_natCast, List.getD_eq_getElem?_getD, List.getElem?_eq_getElem h]; rfl
def Small49 (l : List S49) : Prop := ∀ x ∈ l, x.f2.length ≤ 17592186044416
theorem toRuleS (l : List S49) (hl : l.length ≤ 7036874417766) (hs : Small49 l) : Ev (fun k => laws_toRuleS.f k l) (l.map conv49) := by
  unfold laws_toRuleS.f
  rw [Int.toNat_natCast]
  refine Ev.pos (by omega) (Ev.pos (by omega) ?_)
  refine Ev.congr (fun k => ?_) (Ev.upto l.length (fun _ => True) (fun i => (l.map conv49).take i ++ (List.replicate l.length z36).drop i) (l.map conv49) (fun k s i => laws_toRuleS.l0 k l s i) (fun i hi _ ih => ?_) (fun _ => ?_) trivial)
  · simp
  · refine Ev.succ ?_
    simp only [laws_toRuleS.l0]
    have hx := hs l[i] (List.getElem_mem hi)
    have h1 := take_drop_set (l.map conv49) (List.replicate l.length z36) i (by simpa using hi) (by simp)
    have ih' := ih trivial
    rw [← h1] at ih'
    rw [rd49 l i hi, wrap_id (x := (i : Int) + 1) (by omega) (by omega), Int.toNat_natCast]
    refine Ev.pos (by omega) (Ev.pos (by omega) (Ev.bind (toRule _ _ _ (by omega)) (Ev.pos (by simp; omega) ?_)))
    rw [List.getElem_map] at ih'
    exact ih'
  · refine Ev.succ ?_
    simp only [laws_toRuleS.l0]
    rw [List.drop_of_length_le (by simp), List.append_nil, List.take_of_length_le (by simp)]
    exact Ev.neg (by omega) (Ev.now _)
theorem eqRuleS (l : List S36) (hl : l.length ≤ 7036874417766) (hs : ∀ x ∈ l, x.f2.length ≤ 35184372088832) : Ev (fun k => laws_eqRuleS.f k l l) true := by
  unfold laws_eqRuleS.f
  refine Ev.pos rfl ?_
  refine Ev.upto l.length (fun _ => True) (fun _ => ()) true (fun k _ i => laws_eqRuleS.l0 k l l i) (fun i hi _ ih => ?_) (fun _ => ?_) trivial
  · refine Ev.succ ?_
    simp only [laws_eqRuleS.l0]
    have hx := hs l[i] (List.getElem_mem hi)
    have ih' := ih trivial
    rw [rd36 l i hi, wrap_id (x := (i : Int) + 1) (by omega) (by omega)]
    exact Ev.pos (by omega) (Ev.pos (by omega) (Ev.pos (by omega) (Ev.bind (a := true) (Ev.cast (eqRule _ _ _ _ _ _ (by omega)) (by simp)) (Ev.pos rfl ih'))))
  · refine Ev.succ ?_
    simp only [laws_eqRuleS.l0]
    exact Ev.neg (by omega) (Ev.now _)
/-- How many numbers a pool has. -/
def tot49 : List S49 → Nat
  | [] => 0
  | x :: l => x.f2.length + tot49 l
theorem szRuleS (l : List S49) (hl : l.length ≤ 7036874417766) (hs : Small49 l) : ∃ n, Ev (fun k => laws_szRuleS.f k l 1048576) n ∧ (¬ n < 0 → l.length ≤ 1048576 ∧ tot49 l ≤ 1048576) := by
  unfold laws_szRuleS.f
  rw [wrap_id (x := (1048576 : Int) - (l.length : Int)) (by omega) (by omega)]
  by_cases c : (1048576 : Int) - (l.length : Int) < 0
  · exact ⟨-1, Ev.pos c (Ev.now _), fun h => absurd (by omega) h⟩
  · have main : ∀ d i : Nat, i + d = l.length → ∀ b : Int, 0 ≤ b → b ≤ 1048576 → ∃ n, Ev (fun k => laws_szRuleS.l0 k l b (i : Int)) n ∧ (¬ n < 0 → ((tot49 (l.drop i) : Nat) : Int) ≤ b) := by
      intro d
      induction d with
      | zero =>
        intro i hi b hb0 hb1
        refine ⟨b, Ev.succ ?_, fun _ => ?_⟩
        · simp only [laws_szRuleS.l0]
          exact Ev.neg (by omega) (Ev.now _)
        · rw [List.drop_of_length_le (by omega)]; simp [tot49]; omega
      | succ d ih =>
        intro i hi b hb0 hb1
        have hil : i < l.length := by omega
        have hx := hs l[i] (List.getElem_mem hil)
        have hn1 := szRule l[i].f0 l[i].f1 l[i].f2 b (by omega) hb0 (by omega)
        by_cases g : b - (l[i].f2.length : Int) < 0
        · rw [if_pos g] at hn1
          refine ⟨-1, Ev.succ ?_, fun h => absurd (by omega) h⟩
          simp only [laws_szRuleS.l0]
          rw [rd49 l i hil]
          exact Ev.pos (by omega) (Ev.pos (by omega) (Ev.bnd hn1 (Ev.pos (by omega) (Ev.now _))))
        · rw [if_neg g] at hn1
          obtain ⟨m, hm1, hm2⟩ := ih (i + 1) (by omega) (b - (l[i].f2.length : Int)) (by omega) (by omega)
          refine ⟨m, Ev.succ ?_, fun hm => ?_⟩
          · simp only [laws_szRuleS.l0]
            rw [rd49 l i hil, wrap_id (x := (i : Int) + 1) (by omega) (by omega)]
            exact Ev.pos (by omega) (Ev.pos (by omega) (Ev.bnd hn1 (Ev.neg g hm1)))
          · have := hm2 hm
            rw [List.drop_eq_getElem_cons hil]
            simp only [tot49]
            omega
    obtain ⟨n, hn1, hn2⟩ := main l.length 0 (by omega) (1048576 - (l.length : Int)) (by omega) (by omega)
    refine ⟨n, Ev.neg c hn1, fun h => ?_⟩
    have := hn2 h
    rw [List.drop_zero] at this
    omega
/-- What a mark makes of a rule, and the number behind it. -/
def mr1 (a : Nat) (x : S36) : S36 := ⟨(a : Int), ((a + 1 : Nat) : Int), marks ((a + 1 + 1 : Nat) : Int) x.f2.length⟩
def nr1 (a : Nat) (x : S36) : Nat := a + 1 + 1 + x.f2.length
def mrS : Nat → List S36 → List S36
  | _, [] => []
  | a, x :: l => mr1 a x :: mrS (nr1 a x) l
def nrS : Nat → List S36 → Nat
  | a, [] => a
  | a, x :: l => nrS (nr1 a x) l
def tot36 : List S36 → Nat
  | [] => 0
  | x :: l => x.f2.length + 2 + tot36 l
theorem wR (n : Nat) (h : n ≤ 1000000000) : wrap64 ((n : Int) + 1) = ((n + 1 : Nat) : Int) := wrapTo (by omega) (by omega) (by omega)
theorem markR (l : List Int) (a : Nat) (hl : l.length ≤ 1000000000) (ha : a ≤ 1000000000) : Ev (fun k => laws_markInt64S.f k l (a : Int)) (((a + l.length : Nat) : Int), marks (a : Int) l.length) := by
  have h := markInt64S l a (by omega) (by omega) (by omega)
  rw [← Int.natCast_add] at h
  exact h
theorem heldR (n a : Nat) (hl : n ≤ 1000000000) (ha : a ≤ 1000000000) : Ev (fun k => laws_heldInt64S.f k (marks (a : Int) n) (a : Int)) ((a + n : Nat) : Int) := by
  have h := heldInt64S n a (by omega) (by omega) (by omega)
  rw [← Int.natCast_add] at h
  exact h
theorem rdMidR (p : List S36) (x : S36) (l : List S36) : rd_T36 (p ++ x :: l) (p.length : Int) = x := by
  rw [rd36 (p ++ x :: l) p.length (by simp), List.getElem_append_right (Nat.le_refl _)]
  simp
theorem lt_midR (p : List S36) (x : S36) (l : List S36) : ((p.length : Nat) : Int) < ((p ++ x :: l).length : Int) := by
  rw [List.length_append, List.length_cons]; omega
theorem markOneR (p : List S36) (x : S36) (l : List S36) (a : Nat) (hp : p.length ≤ 100000000) (ha : a ≤ 100000000) (h3 : x.f2.length ≤ 100000000) {r : Int × List S36} (h : Ev (fun k => laws_markRuleS.l0 k (p ++ mr1 a x :: l) ((nr1 a x : Nat) : Int) ((p.length + 1 : Nat) : Int)) r) : Ev (fun k => laws_markRuleS.l0 k (p ++ x :: l) (a : Int) (p.length : Int)) r := by
  have b0 : a ≤ 1000000000 := by omega
  have b1 : a + 1 ≤ 1000000000 := by omega
  have b2 : a + 1 + 1 ≤ 1000000000 := by omega
  have bp : p.length ≤ 1000000000 := by omega
  have h3' : x.f2.length ≤ 1000000000 := by omega
  have m3 := markR x.f2 (a + 1 + 1) h3' b2
  refine Ev.succ ?_
  simp only [laws_markRuleS.l0]
  rw [rdMidR, wR a b0, wR (a + 1) b1, Int.toNat_natCast, wR p.length bp]
  refine Ev.pos (lt_midR p x l) (Ev.pos (Int.natCast_nonneg _) (Ev.bind m3 ?_))
  rw [List.set_append_right _ _ (Nat.le_refl _), Nat.sub_self, List.set_cons_zero]
  exact h
theorem heldOneR (p : List S36) (x : S36) (l : List S36) (a : Nat) (hp : p.length ≤ 100000000) (ha : a ≤ 100000000) (h3 : x.f2.length ≤ 100000000) {r : Int} (h : Ev (fun k => laws_heldRuleS.l0 k (p ++ mr1 a x :: l) ((nr1 a x : Nat) : Int) ((p.length + 1 : Nat) : Int)) r) : Ev (fun k => laws_heldRuleS.l0 k (p ++ mr1 a x :: l) (a : Int) (p.length : Int)) r := by
  have b0 : a ≤ 1000000000 := by omega
  have b1 : a + 1 ≤ 1000000000 := by omega
  have b2 : a + 1 + 1 ≤ 1000000000 := by omega
  have bp : p.length ≤ 1000000000 := by omega
  have h3' : x.f2.length ≤ 1000000000 := by omega
  have m3 := heldR x.f2.length (a + 1 + 1) h3' b2
  refine Ev.succ ?_
  simp only [laws_heldRuleS.l0]
  rw [rdMidR, wR a b0, wR (a + 1) b1, wR p.length bp]
  exact Ev.pos (lt_midR p _ l) (Ev.pos (Int.natCast_nonneg _) (Ev.pos rfl (Ev.pos rfl (Ev.bind m3 (Ev.neg (by omega) h)))))
theorem markAllR (l : List S36) : ∀ (p : List S36) (a : Nat), p.length + l.length ≤ 2000000 → a + tot36 l ≤ 90000000 → Ev (fun k => laws_markRuleS.l0 k (p ++ l) (a : Int) (p.length : Int)) ((nrS a l : Int), p ++ mrS a l) := by
  induction l with
  | nil =>
    intro p a _ _
    rw [List.append_nil]
    refine Ev.succ ?_
    simp only [laws_markRuleS.l0]
    exact Ev.neg (by omega) (Ev.val (by simp [nrS, mrS]))
  | cons x l ih =>
    intro p a h8 ha
    simp only [List.length_cons] at h8
    simp only [tot36] at ha
    refine markOneR p x l a (by omega) (by omega) (by omega) ?_
    have ih' := ih (p ++ [mr1 a x]) (nr1 a x) (by rw [List.length_append, List.length_singleton]; omega) (by unfold nr1; omega)
    rw [List.length_append, List.length_singleton, List.append_assoc, List.singleton_append, List.append_assoc, List.singleton_append] at ih'
    exact ih'
theorem heldAllR (l : List S36) : ∀ (p : List S36) (a : Nat), p.length + l.length ≤ 2000000 → a + tot36 l ≤ 90000000 → Ev (fun k => laws_heldRuleS.l0 k (p ++ mrS a l) (a : Int) (p.length : Int)) (nrS a l : Int) := by
  induction l with
  | nil =>
    intro p a _ _
    show Ev (fun k => laws_heldRuleS.l0 k (p ++ []) (a : Int) (p.length : Int)) (nrS a [] : Int)
    rw [List.append_nil]
    refine Ev.succ ?_
    simp only [laws_heldRuleS.l0]
    exact Ev.neg (by omega) (Ev.val (by simp [nrS]))
  | cons x l ih =>
    intro p a h8 ha
    simp only [List.length_cons] at h8
    simp only [tot36] at ha
    refine heldOneR p x (mrS (nr1 a x) l) a (by omega) (by omega) (by omega) ?_
    have ih' := ih (p ++ [mr1 a x]) (nr1 a x) (by rw [List.length_append, List.length_singleton]; omega) (by unfold nr1; omega)
    rw [List.length_append, List.length_singleton, List.append_assoc, List.singleton_append] at ih'
    exact ih'
theorem tot_conv (l : List S49) : tot36 (l.map conv49) = tot49 l + 2 * l.length := by
  induction l with
  | nil => rfl
  | cons x l ih => simp only [List.map_cons, tot36, tot49, List.length_cons, ih]; show x.f2.length + 2 + _ = _; omega
theorem tot_small (l : List S36) (hs : ∀ x ∈ l, x.f2.length ≤ 1000000) : tot36 l ≤ 1000002 * l.length := by
  induction l with
  | nil => simp [tot36]
  | cons x l ih =>
    have h1 := hs x (.head _)
    have h2 := ih (fun y hy => hs y (.tail _ hy))
    simp only [tot36, List.length_cons]; omega
theorem FnExactBreedOnce : laws_FnExactBreedOnce.Pure := by
  intro l n tr st seed w hl hn htr hst hseed hw
  obtain ⟨hx, hl1, _⟩ := hl
  have hs : Small49 l := fun x h => by have := (hx x h).2.2.2.1; omega
  have hl2 : l.length ≤ 7036874417766 := by omega
  refine Ev.rounds ?_
  unfold laws_FnExactBreedOnce.f
  obtain ⟨z, hz1, hz2⟩ := szRuleS l hl2 hs
  refine Ev.bind hz1 ?_
  by_cases c : z < 0
  · exact Ev.pos c (Ev.now _)
  · obtain ⟨hz3, hz4⟩ := hz2 c
    have tP := toRuleS l hl2 hs
    have sP : SmallP (l.map conv49) := fun x h => by
      obtain ⟨y, hy, rfl⟩ := List.mem_map.1 h
      have := hs y hy
      show y.f2.length ≤ _
      omega
    obtain ⟨Q, ny, b, hS, hI, q16, qs⟩ := breedBoth (l.map conv49) n tr st seed w sP
    have eP := eqRuleS (l.map conv49) (by rw [List.length_map]; exact hl2) sP
    have eQ := eqRuleS Q (by omega) (fun x h => by have := qs x h; omega)
    have mP : Ev (fun k => laws_markRuleS.f k (l.map conv49) 1) ((nrS 1 (l.map conv49) : Int), mrS 1 (l.map conv49)) := markAllR (l.map conv49) [] 1 (by simp; omega) (by rw [tot_conv]; omega)
    have tQ : tot36 Q ≤ 1000002 * Q.length := tot_small Q (fun x h => by have := qs x h; omega)
    have mQ : Ev (fun k => laws_markRuleS.f k Q 1) ((nrS 1 Q : Int), mrS 1 Q) := markAllR Q [] 1 (by simp; omega) (by omega)
    have hQ : Ev (fun k => laws_heldRuleS.f k (mrS 1 Q) 1) (nrS 1 Q : Int) := heldAllR Q [] 1 (by simp; omega) (by omega)
    refine Ev.neg c (Ev.bind tP (Ev.bind hS (Ev.bind tP (Ev.bind hI (Ev.bind eQ (Ev.pos rfl (Ev.pos rfl (Ev.succ ?_))))))))
    simp only [laws_FnExactBreedOnce.j0]
    refine Ev.neg (by simp) (Ev.bind tP (Ev.bind eP (Ev.pos rfl (Ev.bind mP (Ev.neg (by omega) (Ev.bind eQ (Ev.pos rfl (Ev.pos trivial (Ev.succ ?_)))))))))
    simp only [laws_FnExactBreedOnce.j1]
    refine Ev.neg (by simp) (Ev.bind mQ (Ev.bind hQ (Ev.neg (by omega) (Ev.pos (by trivial) (Ev.bind tP (Ev.bind hI (Ev.bind eQ (Ev.pos rfl (Ev.pos rfl (Ev.succ ?_))))))))))
    simp only [laws_FnExactBreedOnce.j2]
    exact Ev.neg (by simp) (Ev.bind hQ (Ev.neg (by omega) (Ev.pos (by trivial) (Ev.now _))))

end Go.Proofs.Ytmepkamfchfoiaa.Pure

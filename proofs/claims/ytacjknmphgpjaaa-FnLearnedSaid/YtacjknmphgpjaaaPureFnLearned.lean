/- Tables that are learned from steps of a rule are its own, as far as they are told, and fill to rules that make the same steps. -/
import Derived.Test.YtacjknmphgpjaaaPFnLearnedx0
import Derived.Test.YtacjknmphgpjaaaPFnLearnedx1
import Derived.Test.YtacjknmphgpjaaaPFnLearnedx2
import Derived.Test.YtacjknmphgpjaaaPFnLearnedx3
import Derived.Test.YtacjknmphgpjaaaLib
namespace Go.Proofs.Ytacjknmphgpjaaa.Pure
open Go.RowKit Go.Proofs.Ytacjknmphgpjaaa.PFnLearned Go.Proofs.YtacjknmphgpjaaaW.PrintWords Go.Proofs.YtacjknmphgpjaaaW.PrintLast Go.Proofs.Ytacjknmphgpjaaa.L
set_option linter.unusedVariables false
set_option linter.unusedSimpArgs false

/-- No row of rows is too long. -/
def SmallLL (l : List (List Int)) : Prop := ∀ x ∈ l, x.length ≤ 17592186044416
theorem rdLL (l : List (List Int)) (i : Nat) (h : i < l.length) : rd_L1 l (i : Int) = l[i] := by
  unfold rd_L1; rw [Int.toNat_natCast, List.getD_eq_getElem?_getD, List.getElem?_eq_getElem h]; rfl
/-- A loop that asks one thing of each. -/
theorem Ev.all (n : Nat) (p : Nat → Bool) (g : Nat → Int → Option Bool)
    (step : ∀ i : Nat, i < n → ∀ r : Bool, Ev (fun k => g k ((i : Int) + 1)) r → Ev (fun k => g k (i : Int)) (p i && r))
    (last : Ev (fun k => g k (n : Int)) true) : Ev (fun k => g k 0) ((List.range n).all p) := by
  have main : ∀ d i : Nat, i + d = n → Ev (fun k => g k (i : Int)) ((List.range' i d).all p) := by
    intro d
    induction d with
    | zero =>
      intro i hi
      obtain rfl : i = n := by omega
      exact last
    | succ d ih =>
      intro i hi
      have h := step i (by omega) _ (ih (i + 1) (by omega))
      rw [List.range'_succ, List.all_cons]
      exact h
  have := main n 0 (by omega)
  rw [List.range_eq_range']
  exact this

/-- The place on a ring, from 0 on. -/
def fm (x : Int) (n : Int) : Int := Int.tmod (wrap64 ((Int.tmod x n) + n)) n
theorem fm_ok (x n : Int) (h0 : 0 < n) (hn : n ≤ 1000000000000) : 0 ≤ fm x n ∧ fm x n < n := by
  unfold fm
  have h1 := Int.tmod_lt_of_pos x h0
  have h2 : -n < Int.tmod x n := by
    have := Int.tmod_lt_of_pos (-x) h0
    rw [Int.neg_tmod] at this
    omega
  rw [wrap_id (x := Int.tmod x n + n) (by omega) (by omega)]
  exact ⟨Int.tmod_nonneg _ (by omega), Int.tmod_lt_of_pos _ h0⟩

/-- The number that cells of a ring from a place on tell. -/
def tl (s : Int) (ring : List Int) (lo : Int) : Nat → Int
  | 0 => 0
  | j + 1 => tl s ring lo j * s + rd ring (fm (lo + (j : Int)) ring.length)
/-- A rule that is valid, as facts. -/
structure RuleOk (s r : Int) (t : List Int) : Prop where
  s0 : 2 ≤ s
  s1 : s ≤ 3
  r0 : 0 ≤ r
  r1 : r ≤ 2
  n : (t.length : Int) = s ^ (2 * r + 1).toNat
  all : ∀ x ∈ t, 0 ≤ x ∧ x ≤ s - 1
theorem RuleOk.of {s r : Int} {t : List Int} (h : validRule s r t = true) : RuleOk s r t := by
  unfold validRule at h
  simp only [Bool.and_eq_true, decide_eq_true_eq] at h
  exact ⟨h.1.1.1.1, h.1.1.1.2, h.1.1.2.1, h.1.1.2.2, h.1.2, allIn_iff.1 h.2⟩
/-- A ring of states. -/
structure RingOk (s : Int) (ring : List Int) : Prop where
  pos : 0 < ring.length
  le : ring.length ≤ 1000000
  all : ∀ x ∈ ring, 0 ≤ x ∧ x ≤ s - 1
theorem tl_ok (s : Int) (ring : List Int) (lo : Int) (hs0 : 2 ≤ s) (hs1 : s ≤ 3) (h : RingOk s ring) (j : Nat) : 0 ≤ tl s ring lo j ∧ tl s ring lo j < s ^ j := by
  induction j with
  | zero => simp [tl]
  | succ j ih =>
    have hf := fm_ok (lo + (j : Int)) ring.length (by have := h.pos; omega) (by have := h.le; omega)
    have hx := h.all _ (rd_mem ring _ hf.1 (by omega))
    show 0 ≤ tl s ring lo j * s + rd ring (fm (lo + (j : Int)) ring.length) ∧ tl s ring lo j * s + rd ring (fm (lo + (j : Int)) ring.length) < s ^ (j + 1)
    rw [Int.pow_succ]
    have h1 : 0 ≤ tl s ring lo j * s := Int.mul_nonneg ih.1 (by omega)
    have h2 : tl s ring lo j * s ≤ (s ^ j - 1) * s := Int.mul_le_mul_of_nonneg_right (by omega) (by omega)
    rw [Int.sub_mul, Int.one_mul] at h2
    omega
/-- What a rule tells at a place of a ring. -/
def told (s r : Int) (t ring : List Int) (i : Int) : Int := rd t (tl s ring (i - r) (2 * r + 1).toNat)
theorem told_ok {s r : Int} {t ring : List Int} (hr : RuleOk s r t) (h : RingOk s ring) (i : Int) : 0 ≤ told s r t ring i ∧ told s r t ring i ≤ s - 1 := by
  have := tl_ok s ring (i - r) hr.s0 hr.s1 h (2 * r + 1).toNat
  exact hr.all _ (rd_mem t _ this.1 (by rw [hr.n]; exact this.2))
/-- A step of a ring. -/
def ringStep (s r : Int) (t ring : List Int) : List Int := (List.range ring.length).map fun (i : Nat) => told s r t ring (i : Int)
theorem ringStep_length (s r : Int) (t ring : List Int) : (ringStep s r t ring).length = ring.length := by simp [ringStep]
theorem ringStep_ok {s r : Int} {t ring : List Int} (hr : RuleOk s r t) (h : RingOk s ring) : RingOk s (ringStep s r t ring) := by
  refine ⟨by rw [ringStep_length]; exact h.pos, by rw [ringStep_length]; exact h.le, fun x hx => ?_⟩
  simp only [ringStep, List.mem_map] at hx
  obtain ⟨i, _, rfl⟩ := hx
  exact told_ok hr h _
theorem ringStep_take (s r : Int) (t ring : List Int) (i : Nat) (h : i < ring.length) : (ringStep s r t ring).take (i + 1) = (ringStep s r t ring).take i ++ [told s r t ring (i : Int)] := by
  rw [List.take_succ_eq_append_getElem (by rw [ringStep_length]; exact h)]
  simp [ringStep]
/-- Steps of a ring. -/
def ringSteps (s r : Int) (t ring : List Int) : Nat → List Int
  | 0 => ring
  | n + 1 => ringStep s r t (ringSteps s r t ring n)
theorem ringSteps_ok {s r : Int} {t ring : List Int} (hr : RuleOk s r t) (h : RingOk s ring) (n : Nat) : RingOk s (ringSteps s r t ring n) := by
  induction n with
  | zero => exact h
  | succ n ih => exact ringStep_ok hr ih
theorem ringSteps_length (s r : Int) (t ring : List Int) (n : Nat) : (ringSteps s r t ring n).length = ring.length := by
  induction n with
  | zero => rfl
  | succ n ih => show (ringStep _ _ _ _).length = _; rw [ringStep_length, ih]

theorem within (a b c : Int) : impl_within.f a b c = some (decide (b ≤ a ∧ a ≤ c)) := by
  unfold impl_within.f
  by_cases h : a ≥ b
  · rw [if_pos h]; simp; omega
  · rw [if_neg h]; simp; omega

theorem areWithin (l : List Int) (a b : Int) (hl : l.length ≤ 35184372088832) : Ev (fun k => impl_areWithin.f k l a b) (allIn l a b) := by
  unfold impl_areWithin.f
  refine Ev.upto l.length (fun i => ∀ j, (hj : j < l.length) → j < i → a ≤ l[j] ∧ l[j] ≤ b) (fun _ => ()) _ (fun k _ i => impl_areWithin.l0 k a b l l.length i) (fun i hi hp ih => ?_) (fun hp => ?_) (fun j hj h => by omega)
  · refine Ev.succ ?_
    simp only [impl_areWithin.l0]
    refine Ev.pos (by omega) (Ev.pos (by omega) (Ev.pos (by omega) ?_))
    rw [rd_lt l i (by omega), wrap_id (by omega) (by omega), within]
    by_cases c : a ≤ l[i] ∧ l[i] ≤ b
    · exact Ev.bnd rfl (Ev.pos (by simpa using c) (ih (upTo_succ (p := fun x => a ≤ x ∧ x ≤ b) hi hp c)))
    · exact Ev.bnd rfl (Ev.neg (by simpa using c) (Ev.val (by rw [allIn_false i (by omega) c])))
  · refine Ev.succ ?_
    simp only [impl_areWithin.l0]
    exact Ev.neg (by omega) (Ev.val (by rw [allIn_true (fun j hj' => hp j hj' (by omega))]))

theorem areMany (l : List Int) (a b c d : Int) (hl : l.length ≤ 35184372088832) : Ev (fun k => impl_areMany.f k l a b c d) (decide (a ≤ l.length ∧ l.length ≤ b) && allIn l c d) := by
  unfold impl_areMany.f
  refine Ev.bnd (within _ _ _) ?_
  by_cases h : a ≤ l.length ∧ l.length ≤ b
  · refine Ev.pos (by simpa using h) (Ev.cast (Ev.bind (areWithin l c d hl) (Ev.now _)) (by simp [h]))
  · exact Ev.neg (by simpa using h) (Ev.val (by simp [h]))

theorem areStates (s : Int) : impl_areStates.f s = some (decide (s = 2 ∨ s = 3)) := by
  unfold impl_areStates.f
  by_cases h : s = 2
  · rw [if_pos h]; simp [h]
  · rw [if_neg h]
    by_cases h3 : s = 3
    · subst h3; rfl
    · simp [h, h3]

theorem isRing (l : List Int) (s : Int) (hl : l.length ≤ 35184372088832) (hs : s = 2 ∨ s = 3) : Ev (fun k => impl_IsRing.f k l s) (allIn l 0 (s - 1) && decide (1 ≤ l.length ∧ l.length ≤ 64)) := by
  unfold impl_IsRing.f
  have hsw : wrap64 (s - 1) = s - 1 := wrap_id (by omega) (by omega)
  rw [hsw]
  refine Ev.bnd (areStates s) (Ev.pos (by simpa using hs) ?_)
  exact Ev.cast (Ev.bind (areMany l 1 64 0 (s - 1) hl) (Ev.now _)) (by
    rw [Bool.and_comm]
    congr 1
    exact decide_eq_decide.mpr (by omega))

theorem l00In (a b c : Int) : spec_l00In.f a b c = some (decide (b ≤ a ∧ a ≤ c)) := by
  unfold spec_l00In.f
  by_cases h : a ≥ b
  · rw [if_pos h]; simp; omega
  · rw [if_neg h]; simp; omega

theorem l02Ring (l : List Int) (s : Int) (hl : l.length ≤ 35184372088832) (h0 : -4611686018427387904 ≤ s) (h1 : s ≤ 4611686018427387904) : Ev (fun k => spec_l02Ring.f k l s) (allIn l 0 (s - 1) && decide (1 ≤ l.length ∧ l.length ≤ 64)) := by
  unfold spec_l02Ring.f
  refine Ev.upto l.length (fun i => ∀ j, (hj : j < l.length) → j < i → 0 ≤ l[j] ∧ l[j] ≤ s - 1) (fun _ => ()) _ (fun k _ i => spec_l02Ring.l0 k l s i) (fun i hi hp ih => ?_) (fun hp => ?_) (fun j hj h => by omega)
  · refine Ev.succ ?_
    simp only [spec_l02Ring.l0]
    refine Ev.pos (by omega) (Ev.pos (by omega) ?_)
    have hsw : wrap64 (s - 1) = s - 1 := wrap_id (by omega) (by omega)
    rw [rd_lt l i (by omega), hsw, wrap_id (x := (i : Int) + 1) (by omega) (by omega), l00In]
    by_cases c : 0 ≤ l[i] ∧ l[i] ≤ s - 1
    · exact Ev.bnd rfl (Ev.pos (by simpa using c) (ih (upTo_succ (p := fun x => 0 ≤ x ∧ x ≤ s - 1) hi hp c)))
    · refine Ev.bnd rfl (Ev.neg (by simpa using c) (Ev.val ?_))
      rw [allIn_false i (by omega) c]; rfl
  · refine Ev.succ ?_
    simp only [spec_l02Ring.l0]
    refine Ev.neg (by omega) ?_
    rw [allIn_true (fun j hj' => hp j hj' (by omega)), Bool.true_and]
    by_cases c : (l.length : Int) ≥ 1
    · exact Ev.pos c (Ev.val (congrArg some (decide_eq_decide.mpr (by omega))))
    · exact Ev.neg c (Ev.val (by rw [decide_eq_false (by omega)]))

theorem l03Power (x n : Int) (h0 : 0 ≤ x) (h1 : x ≤ 10) (hn0 : 0 ≤ n) (hn : n ≤ 12) : Ev (fun k => spec_l03Power.f k x n) (x ^ n.toNat) := by
  unfold spec_l03Power.f
  obtain ⟨m, rfl⟩ := Int.eq_ofNat_of_zero_le hn0
  have main : ∀ d i : Nat, i + d = m → Ev (fun k => spec_l03Power.l0 k x (d : Int) (x ^ i)) (x ^ m) := by
    intro d
    induction d with
    | zero =>
      intro i hi
      refine Ev.succ ?_
      simp only [spec_l03Power.l0]
      exact Ev.neg (by omega) (Ev.val (by rw [show i = m by omega]))
    | succ d ih =>
      intro i hi
      refine Ev.succ ?_
      simp only [spec_l03Power.l0]
      have hb := pow_bound x (i + 1) h0 h1 (by omega)
      rw [Int.pow_succ] at hb
      refine Ev.pos (by omega) ?_
      rw [wrap_id (x := ((d + 1 : Nat) : Int) - 1) (by omega) (by omega), wrap_id (x := x ^ i * x) (by omega) (by omega), ← Int.pow_succ, show ((d + 1 : Nat) : Int) - 1 = (d : Int) by omega]
      exact ih (i + 1) (by omega)
  have := main m 0 (by omega)
  rw [Int.pow_zero] at this
  exact this

theorem raised (x n : Int) (h0 : 0 ≤ x) (h1 : x ≤ 10) (hn0 : 0 ≤ n) (hn : n ≤ 12) : Ev (fun k => impl_raised.f k x n) (x ^ n.toNat) := by
  unfold impl_raised.f
  obtain ⟨m, rfl⟩ := Int.eq_ofNat_of_zero_le hn0
  rw [Int.toNat_natCast]
  refine Ev.congr (fun k => ?_) (Ev.upto m (fun _ => True) (fun i => x ^ i) (x ^ m) (fun k s i => impl_raised.l0 k x s m i) (fun i hi _ ih => ?_) (fun _ => ?_) trivial)
  · rw [Int.pow_zero]
  · refine Ev.succ ?_
    simp only [impl_raised.l0]
    have hb := pow_bound x (i + 1) h0 h1 (by omega)
    rw [Int.pow_succ] at hb
    refine Ev.pos (by omega) ?_
    rw [wrap_id (x := (i : Int) + 1) (by omega) (by omega), wrap_id (x := x ^ i * x) (by omega) (by omega), ← Int.pow_succ]
    exact ih trivial
  · refine Ev.succ ?_
    simp only [impl_raised.l0]
    exact Ev.neg (by omega) (Ev.now _)

theorem floorMod (a b : Int) (h : b ≠ 0) : impl_floorMod.f a b = some (fm a b) := by unfold impl_floorMod.f; rw [if_neg h]; rfl

theorem isReach (r : Int) : impl_isReach.f r = some (decide (0 ≤ r ∧ r ≤ 2)) := by
  unfold impl_isReach.f
  rw [within]; rfl
theorem ruleCells (s r : Int) (t : List Int) (h0 : 0 ≤ r) (h1 : r ≤ 2) : impl_Rule_cells.f s r t = some (2 * r + 1) := by
  unfold impl_Rule_cells.f
  rw [wrap_id (x := 2 * r) (by omega) (by omega), wrap_id (x := 2 * r + 1) (by omega) (by omega)]

theorem fm_far (x n : Int) (h0 : 0 < n) (h1 : n ≤ 1000000) (g0 : -n ≤ x) (g1 : x ≤ 10000000) : Int.tmod (wrap64 (x + n)) n = fm x n := by
  have ht1 := Int.tmod_lt_of_pos x h0
  have ht2 : -n < Int.tmod x n := by
    have := Int.tmod_lt_of_pos (-x) h0
    rw [Int.neg_tmod] at this
    omega
  unfold fm
  rw [wrap_id (x := x + n) (by omega) (by omega), wrap_id (x := Int.tmod x n + n) (by omega) (by omega), Int.tmod_eq_emod_of_nonneg (by omega), Int.tmod_eq_emod_of_nonneg (show 0 ≤ Int.tmod x n + n by omega), Int.add_emod_right, Int.add_emod_right, Int.tmod_def, Int.sub_mul_emod_self_left]
/-- A ring is one of states. -/
def ringB (s : Int) (l : List Int) : Bool := allIn l 0 (s - 1) && decide (1 ≤ l.length ∧ l.length ≤ 64)
theorem ringB_ok {s : Int} {l : List Int} (h : ringB s l = true) : RingOk s l := by
  unfold ringB at h
  rw [Bool.and_eq_true, decide_eq_true_eq] at h
  exact ⟨by omega, by omega, allIn_iff.1 h.1⟩
/-- A ring and the one behind it can be learned from. -/
def pairB (s r : Int) (a b : List Int) : Bool := ringB s a && (ringB s b && (decide (b.length = a.length) && decide (2 * r + 1 ≤ (a.length : Int))))
/-- The cells of a ring, d from the i-th on, are told. -/
def lcells (s r : Int) (a b : List Int) : Nat → Nat → List Int → Option (List Int)
  | 0, _, T => some T
  | d + 1, i, T => if rd T (tl s a ((i : Int) - r) (2 * r + 1).toNat) ≥ 0 ∧ ¬ rd T (tl s a ((i : Int) - r) (2 * r + 1).toNat) = rd b (i : Int) then none else lcells s r a b d (i + 1) (T.set (tl s a ((i : Int) - r) (2 * r + 1).toNat).toNat (rd b (i : Int)))
theorem lcells_length (s r : Int) (a b : List Int) (d : Nat) : ∀ (i : Nat) (T T' : List Int), lcells s r a b d i T = some T' → T'.length = T.length := by
  induction d with
  | zero => intro i T T' h; simp only [lcells, Option.some.injEq] at h; rw [h]
  | succ d ih =>
    intro i T T' h
    simp only [lcells] at h
    split at h
    · cases h
    · rw [ih _ _ _ h, List.length_set]
/-- All rings are told. -/
def lrings (s r : Int) : List (List Int) → List (List Int) → List Int → Option (List Int)
  | a :: al, b :: bl, T => (lcells s r a b a.length 0 T).bind (lrings s r al bl)
  | _, _, T => some T
/-- The same, each looked at before. -/
def lringsI (s r : Int) : List (List Int) → List (List Int) → List Int → Option (List Int)
  | a :: al, b :: bl, T => if pairB s r a b = true then (lcells s r a b a.length 0 T).bind (lringsI s r al bl) else none
  | _, _, T => some T
/-- All pairs can be learned from. -/
def pairsB (s r : Int) : List (List Int) → List (List Int) → Bool
  | a :: al, b :: bl => pairB s r a b && pairsB s r al bl
  | _, _ => true
theorem lringsI_ok (s r : Int) : ∀ (B C : List (List Int)) (T : List Int), pairsB s r B C = true → lringsI s r B C T = lrings s r B C T
  | [], _, _, _ => rfl
  | _ :: _, [], _, _ => rfl
  | a :: al, b :: bl, T, h => by
    simp only [pairsB, Bool.and_eq_true] at h
    simp only [lringsI, lrings]
    rw [if_pos h.1]
    congr 1
    funext T'
    exact lringsI_ok s r al bl T' h.2
theorem lringsI_no (s r : Int) : ∀ (B C : List (List Int)) (T : List Int), ¬ pairsB s r B C = true → lringsI s r B C T = none
  | [], _, _, h => absurd rfl h
  | _ :: _, [], _, h => absurd rfl h
  | a :: al, b :: bl, T, h => by
    simp only [lringsI]
    by_cases g : pairB s r a b = true
    · rw [if_pos g]
      have h2 : ¬ pairsB s r al bl = true := fun h2 => h (by simp only [pairsB, g, h2, Bool.and_self])
      cases lcells s r a b a.length 0 T with
      | none => rfl
      | some T' => exact lringsI_no s r al bl T' h2
    · rw [if_neg g]
theorem pairsB_mono (s r r' : Int) (hr : r ≤ r') : ∀ (B C : List (List Int)), pairsB s r' B C = true → pairsB s r B C = true
  | [], _, _ => rfl
  | _ :: _, [], _ => rfl
  | a :: al, b :: bl, h => by
    simp only [pairsB, pairB, Bool.and_eq_true, decide_eq_true_eq] at h ⊢
    exact ⟨⟨h.1.1, h.1.2.1, h.1.2.2.1, by omega⟩, pairsB_mono s r r' hr al bl h.2⟩
theorem pairsB_iff (s r : Int) : ∀ (B C : List (List Int)), C.length = B.length → pairsB s r B C = (List.range B.length).all fun i => pairB s r (rd_L1 B (i : Int)) (rd_L1 C (i : Int))
  | [], _, _ => rfl
  | a :: al, [], h => by simp at h
  | a :: al, b :: bl, h => by
    simp only [pairsB]
    rw [pairsB_iff s r al bl (by simpa using h), List.length_cons, List.range_succ_eq_map, List.all_cons, List.all_map]
    rfl
theorem lrings_nil (s r : Int) (C : List (List Int)) (T : List Int) : lrings s r [] C T = some T := by cases C <;> rfl
theorem lringsI_nil (s r : Int) (C : List (List Int)) (T : List Int) : lringsI s r [] C T = some T := by cases C <;> rfl
/-- What is asked ahead of learning. -/
def headB (s r : Int) (B C : List (List Int)) : Bool := (decide (2 ≤ s ∧ s ≤ 3) && decide (0 ≤ r ∧ r ≤ 2)) && (decide (1 ≤ B.length ∧ B.length ≤ 32) && decide (C.length = B.length))
/-- What is learned. -/
def resL : Option (List Int) → List Int × Bool
  | none => ([], false)
  | some T => (T, true)
def zeroT (s r : Int) : List Int := List.replicate (s ^ (2 * r + 1).toNat).toNat (-1)
theorem pow_small {s r : Int} (hs0 : 2 ≤ s) (hs1 : s ≤ 3) (hr0 : 0 ≤ r) (hr1 : r ≤ 2) : 1 ≤ s ^ (2 * r + 1).toNat ∧ s ^ (2 * r + 1).toNat ≤ 243 := by
  have : r = 0 ∨ r = 1 ∨ r = 2 := by omega
  have : s = 2 ∨ s = 3 := by omega
  rcases ‹r = 0 ∨ r = 1 ∨ r = 2› with rfl | rfl | rfl <;> rcases ‹s = 2 ∨ s = 3› with rfl | rfl <;> decide
theorem hood {s r : Int} {a : List Int} (hs0 : 2 ≤ s) (hs1 : s ≤ 3) (hr0 : 0 ≤ r) (hr1 : r ≤ 2) (h : RingOk s a) (h64 : a.length ≤ 64) (hl : 2 * r + 1 ≤ (a.length : Int)) (i : Nat) (hi : i < a.length) : Ev (fun k => spec_l03Hood.f k s r [] a i) (tl s a ((i : Int) - r) (2 * r + 1).toNat) := by
  unfold spec_l03Hood.f
  rw [wrap_id (x := -r) (by omega) (by omega)]
  refine Ev.congr (fun k => ?_) (Ev.upto (2 * r + 1).toNat (fun _ => True) (fun j => tl s a ((i : Int) - r) j) (tl s a ((i : Int) - r) (2 * r + 1).toNat) (fun k x j => spec_l03Hood.l0 k a i a.length x (-r + j) s r []) (fun j hj _ ih => ?_) (fun _ => ?_) trivial)
  · rw [Int.add_zero]; rfl
  · refine Ev.succ ?_
    simp only [spec_l03Hood.l0]
    have hf := fm_ok ((i : Int) - r + (j : Int)) a.length (by omega) (by omega)
    have hx := h.all _ (rd_mem a _ hf.1 (by omega))
    have ht := tl_ok s a ((i : Int) - r) hs0 hs1 h j
    have ht1 := tl_ok s a ((i : Int) - r) hs0 hs1 h (j + 1)
    have hb := pow_bound s (j + 1) (by omega) (by omega) (by omega)
    have hm : 0 ≤ tl s a ((i : Int) - r) j * s := Int.mul_nonneg ht.1 (by omega)
    have e : tl s a ((i : Int) - r) (j + 1) = tl s a ((i : Int) - r) j * s + rd a (fm ((i : Int) - r + (j : Int)) a.length) := rfl
    have ep : Int.tmod (wrap64 ((wrap64 ((i : Int) + (-r + (j : Int)))) + (a.length : Int))) (a.length : Int) = fm ((i : Int) - r + (j : Int)) a.length := by
      rw [wrap_id (x := (i : Int) + (-r + (j : Int))) (by omega) (by omega), show (i : Int) + (-r + (j : Int)) = (i : Int) - r + (j : Int) by omega]
      exact fm_far _ _ (by omega) (by omega) (by omega) (by omega)
    rw [ep, wrap_id (x := -r + (j : Int) + 1) (by omega) (by omega)]
    refine Ev.pos (by omega) (Ev.neg (by omega) (Ev.pos hf.1 (Ev.pos hf.2 ?_)))
    rw [wrap_id (x := tl s a ((i : Int) - r) j * s) (by omega) (by omega), wrap_id (x := tl s a ((i : Int) - r) j * s + rd a (fm ((i : Int) - r + (j : Int)) a.length)) (by omega) (by omega)]
    have := ih trivial
    rw [show -r + ((j : Int) + 1) = -r + (j : Int) + 1 by omega] at this
    exact this
  · refine Ev.succ ?_
    simp only [spec_l03Hood.l0]
    exact Ev.neg (by omega) (Ev.now _)
theorem pairB_ok {s r : Int} {a b : List Int} (h : pairB s r a b = true) : RingOk s a ∧ RingOk s b ∧ b.length = a.length ∧ 2 * r + 1 ≤ (a.length : Int) ∧ a.length ≤ 64 := by
  unfold pairB at h
  simp only [Bool.and_eq_true, decide_eq_true_eq] at h
  refine ⟨ringB_ok h.1, ringB_ok h.2.1, h.2.2.1, h.2.2.2, ?_⟩
  have h1 := h.1
  unfold ringB at h1
  rw [Bool.and_eq_true, decide_eq_true_eq] at h1
  exact h1.2.2
theorem cellsSpec {s r : Int} {B C : List (List Int)} {x : Nat} {x33 : Int} {ρ : List Int × Bool} (hs0 : 2 ≤ s) (hs1 : s ≤ 3) (hr0 : 0 ≤ r) (hr1 : r ≤ 2) (hx : x < B.length) (hC : C.length = B.length) (hp : pairB s r (rd_L1 B (x : Int)) (rd_L1 C (x : Int)) = true) :
    ∀ (d i : Nat) (T : List Int), i + d = (rd_L1 B (x : Int)).length → T.length = (zeroT s r).length → (lcells s r (rd_L1 B (x : Int)) (rd_L1 C (x : Int)) d i T = none → ρ = ([], false)) → (∀ T', lcells s r (rd_L1 B (x : Int)) (rd_L1 C (x : Int)) d i T = some T' → Ev (fun k => spec_l07Learn.l1 k B C T' x33 (wrap64 ((x : Int) + 1)) s r) ρ) →
      Ev (fun k => spec_l07Learn.l2 k B C T x x33 x ((rd_L1 B (x : Int)).length : Int) i s r) ρ := by
  obtain ⟨ha, hb, hlen, hl, h64⟩ := pairB_ok hp
  intro d
  induction d with
  | zero =>
    intro i T hi hT hn hs
    refine Ev.succ ?_
    simp only [spec_l07Learn.l2]
    exact Ev.neg (by omega) (hs T rfl)
  | succ d ih =>
    intro i T hi hT hn hs
    have hil : i < (rd_L1 B (x : Int)).length := by omega
    have ht := tl_ok s (rd_L1 B (x : Int)) ((i : Int) - r) hs0 hs1 ha (2 * r + 1).toNat
    have hps := pow_small hs0 hs1 hr0 hr1
    have hz : (zeroT s r).length = (s ^ (2 * r + 1).toNat).toNat := by simp [zeroT]
    simp only [lcells] at hn hs
    refine Ev.succ ?_
    simp only [spec_l07Learn.l2]
    rw [wrap_id (x := (i : Int) + 1) (by omega) (by omega)]
    refine Ev.pos (by omega) (Ev.pos (by omega) (Ev.pos (by omega) (Ev.bind (hood hs0 hs1 hr0 hr1 ha h64 hl i hil) (Ev.pos ht.1 (Ev.pos (by omega) ?_)))))
    generalize tl s (rd_L1 B (x : Int)) ((i : Int) - r) (2 * r + 1).toNat = h at *
    by_cases c : rd T h ≥ 0
    · refine Ev.pos c (Ev.pos (by omega) (Ev.pos (by omega) (Ev.pos (by omega) ?_)))
      by_cases g : rd T h = rd (rd_L1 C (x : Int)) (i : Int)
      · rw [if_neg (by simp [g])] at hn hs
        exact Ev.pos g (ih (i + 1) _ (by omega) (by rw [List.length_set]; exact hT) hn hs)
      · rw [if_pos ⟨c, g⟩] at hn
        exact Ev.neg g (Ev.val (by rw [hn rfl]))
    · rw [if_neg (fun h_ => c h_.1)] at hn hs
      exact Ev.neg c (Ev.pos (by omega) (Ev.pos (by omega) (Ev.pos (by omega) (ih (i + 1) _ (by omega) (by rw [List.length_set]; exact hT) hn hs))))
theorem drop_LL (l : List (List Int)) (i : Nat) (h : i < l.length) : l.drop i = rd_L1 l (i : Int) :: l.drop (i + 1) := by
  have e : rd_L1 l (i : Int) = l[i] := by
    unfold rd_L1; rw [Int.toNat_natCast, List.getD_eq_getElem?_getD, List.getElem?_eq_getElem h]; rfl
  rw [e, List.drop_eq_getElem_cons h]
theorem ringsSpec {s r : Int} {B C : List (List Int)} (hs0 : 2 ≤ s) (hs1 : s ≤ 3) (hr0 : 0 ≤ r) (hr1 : r ≤ 2) (hB : B.length ≤ 32) (hC : C.length = B.length) (hp : pairsB s r B C = true) :
    ∀ (d i : Nat) (T : List Int), i + d = B.length → T.length = (zeroT s r).length → Ev (fun k => spec_l07Learn.l1 k B C T B.length i s r) (resL (lrings s r (B.drop i) (C.drop i) T)) := by
  intro d
  induction d with
  | zero =>
    intro i T hi hT
    refine Ev.succ ?_
    simp only [spec_l07Learn.l1]
    rw [List.drop_of_length_le (show B.length ≤ i by omega), lrings_nil]
    exact Ev.neg (by omega) (Ev.now _)
  | succ d ih =>
    intro i T hi hT
    have hil : i < B.length := by omega
    have hpi : pairB s r (rd_L1 B (i : Int)) (rd_L1 C (i : Int)) = true := by
      rw [pairsB_iff s r B C hC, List.all_eq_true] at hp
      exact hp i (by simpa using hil)
    rw [drop_LL B i hil, drop_LL C i (by omega)]
    simp only [lrings]
    refine Ev.succ ?_
    simp only [spec_l07Learn.l1]
    refine Ev.pos (by omega) (Ev.pos (by omega) (Ev.pos (by omega) (cellsSpec hs0 hs1 hr0 hr1 hil hC hpi (rd_L1 B (i : Int)).length 0 T (by omega) hT (fun hn => ?_) (fun T' hs => ?_))))
    · rw [hn]; rfl
    · rw [hs, wrap_id (by omega) (by omega)]
      exact ih (i + 1) T' (by omega) (by rw [lcells_length _ _ _ _ _ _ _ _ hs]; exact hT)
theorem learnSpec {s r : Int} {B C : List (List Int)} (hs0 : 2 ≤ s) (hs1 : s ≤ 3) (hr0 : 0 ≤ r) (hr1 : r ≤ 2) (hB : B.length ≤ 32) (hC : C.length = B.length) (hp : pairsB s r B C = true) : Ev (fun k => spec_l07Learn.f k s r B C) (resL (lrings s r B C (zeroT s r))) := by
  have hps := pow_small hs0 hs1 hr0 hr1
  have hpw := l03Power s (2 * r + 1) (by omega) (by omega) (by omega) (by omega)
  unfold spec_l07Learn.f
  refine Ev.congr (fun k => ?_) (Ev.upto (s ^ (2 * r + 1).toNat).toNat (fun _ => True) (fun i => List.replicate i (-1)) (resL (lrings s r B C (zeroT s r))) (fun k T i => spec_l07Learn.l0 k s r B C T i) (fun i hi _ ih => ?_) (fun _ => ?_) trivial)
  · rfl
  · refine Ev.succ ?_
    simp only [spec_l07Learn.l0]
    have ih' := ih trivial
    rw [List.replicate_succ'] at ih'
    rw [wrap_id (x := 2 * r) (by omega) (by omega), wrap_id (x := 2 * r + 1) (by omega) (by omega), wrap_id (x := (i : Int) + 1) (by omega) (by omega)]
    exact Ev.bind hpw (Ev.pos (by omega) (Ev.pos (by rw [List.length_replicate]; omega) ih'))
  · refine Ev.succ ?_
    simp only [spec_l07Learn.l0]
    rw [wrap_id (x := 2 * r) (by omega) (by omega), wrap_id (x := 2 * r + 1) (by omega) (by omega)]
    exact Ev.bind hpw (Ev.neg (by omega) (ringsSpec hs0 hs1 hr0 hr1 hB hC hp B.length 0 _ (by omega) (by simp [zeroT])))
theorem cellsImpl {s r : Int} {B C : List (List Int)} {x : Nat} {ρ : List Int × Bool} (hs0 : 2 ≤ s) (hs1 : s ≤ 3) (hr0 : 0 ≤ r) (hr1 : r ≤ 2) (hp : pairB s r (rd_L1 B (x : Int)) (rd_L1 C (x : Int)) = true) :
    ∀ (d i : Nat) (T : List Int), i + d = (rd_L1 B (x : Int)).length → T.length = (zeroT s r).length → (lcells s r (rd_L1 B (x : Int)) (rd_L1 C (x : Int)) d i T = none → ρ = ([], false)) → (∀ T', lcells s r (rd_L1 B (x : Int)) (rd_L1 C (x : Int)) d i T = some T' → Ev (fun k => impl_learn.l0 k s r C T' B B.length (wrap64 ((x : Int) + 1)) s r) ρ) →
      Ev (fun k => impl_learn.l1 k s r C T (rd_L1 B (x : Int)) B B.length x (rd_L1 C (x : Int)) ((rd_L1 C (x : Int)).length : Int) i s r) ρ := by
  obtain ⟨ha, hb, hlen, hl, h64⟩ := pairB_ok hp
  intro d
  induction d with
  | zero =>
    intro i T hi hT hn hs
    refine Ev.succ ?_
    simp only [impl_learn.l1]
    exact Ev.neg (by omega) (hs T rfl)
  | succ d ih =>
    intro i T hi hT hn hs
    have hil : i < (rd_L1 B (x : Int)).length := by omega
    have ht := tl_ok s (rd_L1 B (x : Int)) ((i : Int) - r) hs0 hs1 ha (2 * r + 1).toNat
    have hps := pow_small hs0 hs1 hr0 hr1
    have hz : (zeroT s r).length = (s ^ (2 * r + 1).toNat).toNat := by simp [zeroT]
    simp only [lcells] at hn hs
    refine Ev.succ ?_
    simp only [impl_learn.l1]
    rw [wrap_id (x := (i : Int) - r) (by omega) (by omega)]
    refine Ev.pos (by omega) (Ev.pos (by omega) (Ev.pos (by omega) ?_))
    refine Ev.congr (fun k => ?_) (Ev.upto (2 * r + 1).toNat (fun _ => True) (fun j => tl s (rd_L1 B (x : Int)) ((i : Int) - r) j) ρ (fun k y j => impl_learn.l2 k s r C T (rd_L1 B (x : Int)) i (rd (rd_L1 C (x : Int)) (i : Int)) y ((i : Int) - r + j) B B.length x (rd_L1 C (x : Int)) ((rd_L1 C (x : Int)).length : Int) i s r) (fun j hj _ ihj => ?_) (fun _ => ?_) trivial)
    · rw [Int.add_zero]; rfl
    · refine Ev.succ ?_
      simp only [impl_learn.l2]
      have hf := fm_ok ((i : Int) - r + (j : Int)) (rd_L1 B (x : Int)).length (by omega) (by omega)
      have hx := ha.all _ (rd_mem (rd_L1 B (x : Int)) _ hf.1 (by omega))
      have htj := tl_ok s (rd_L1 B (x : Int)) ((i : Int) - r) hs0 hs1 ha j
      have ht1 := tl_ok s (rd_L1 B (x : Int)) ((i : Int) - r) hs0 hs1 ha (j + 1)
      have hb2 := pow_bound s (j + 1) (by omega) (by omega) (by omega)
      have hm : 0 ≤ tl s (rd_L1 B (x : Int)) ((i : Int) - r) j * s := Int.mul_nonneg htj.1 (by omega)
      have e : tl s (rd_L1 B (x : Int)) ((i : Int) - r) (j + 1) = tl s (rd_L1 B (x : Int)) ((i : Int) - r) j * s + rd (rd_L1 B (x : Int)) (fm ((i : Int) - r + (j : Int)) (rd_L1 B (x : Int)).length) := rfl
      rw [wrap_id (x := (i : Int) + r) (by omega) (by omega), wrap_id (x := (i : Int) - r + (j : Int) + 1) (by omega) (by omega)]
      refine Ev.pos (by omega) (Ev.bnd (floorMod _ _ (by omega)) (Ev.pos hf.1 (Ev.pos hf.2 ?_)))
      rw [wrap_id (x := tl s (rd_L1 B (x : Int)) ((i : Int) - r) j * s) (by omega) (by omega), wrap_id (x := tl s (rd_L1 B (x : Int)) ((i : Int) - r) j * s + rd (rd_L1 B (x : Int)) (fm ((i : Int) - r + (j : Int)) (rd_L1 B (x : Int)).length)) (by omega) (by omega)]
      have := ihj trivial
      rw [show (i : Int) - r + ((j : Int) + 1) = (i : Int) - r + (j : Int) + 1 by omega] at this
      exact this
    · refine Ev.succ ?_
      simp only [impl_learn.l2]
      rw [wrap_id (x := (i : Int) + r) (by omega) (by omega), wrap_id (x := (i : Int) + 1) (by omega) (by omega)]
      refine Ev.neg (by omega) (Ev.pos ht.1 (Ev.pos (by omega) ?_))
      generalize tl s (rd_L1 B (x : Int)) ((i : Int) - r) (2 * r + 1).toNat = h at *
      by_cases c : rd T h ≥ 0
      · refine Ev.pos c ?_
        by_cases g : rd T h = rd (rd_L1 C (x : Int)) (i : Int)
        · rw [if_neg (by simp [g])] at hn hs
          exact Ev.pos g (ih (i + 1) _ (by omega) (by rw [List.length_set]; exact hT) hn hs)
        · rw [if_pos ⟨c, g⟩] at hn
          exact Ev.neg g (Ev.val (by rw [hn rfl]))
      · rw [if_neg (fun h_ => c h_.1)] at hn hs
        exact Ev.neg c (ih (i + 1) _ (by omega) (by rw [List.length_set]; exact hT) hn hs)
theorem ringsImpl {s r : Int} {B C : List (List Int)} (hs0 : 2 ≤ s) (hs1 : s ≤ 3) (hr0 : 0 ≤ r) (hr1 : r ≤ 2) (hB : B.length ≤ 32) (hC : C.length = B.length) (sB : ∀ x ∈ B, x.length ≤ 17592186044416) (sC : ∀ x ∈ C, x.length ≤ 17592186044416) :
    ∀ (d i : Nat) (T : List Int), i + d = B.length → T.length = (zeroT s r).length → Ev (fun k => impl_learn.l0 k s r C T B B.length i s r) (resL (lringsI s r (B.drop i) (C.drop i) T)) := by
  have no : ∀ (v : Bool) (i : Nat) (T : List Int) (a : List Int), v = true → Ev (fun k => impl_learn.j2 k s r C T i a B B.length i v s r) ([], false) := fun v i T a hv => by
    refine Ev.succ ?_
    simp only [impl_learn.j2]
    exact Ev.pos hv (Ev.now _)
  intro d
  induction d with
  | zero =>
    intro i T hi hT
    refine Ev.succ ?_
    simp only [impl_learn.l0]
    rw [List.drop_of_length_le (show B.length ≤ i by omega), lringsI_nil]
    exact Ev.neg (by omega) (Ev.now _)
  | succ d ih =>
    intro i T hi hT
    have hil : i < B.length := by omega
    have hzB : (rd_L1 B (i : Int)).length ≤ 17592186044416 := sB _ (by unfold rd_L1; rw [Int.toNat_natCast, List.getD_eq_getElem?_getD, List.getElem?_eq_getElem hil]; exact List.getElem_mem hil)
    have hzC : (rd_L1 C (i : Int)).length ≤ 17592186044416 := sC _ (by unfold rd_L1; rw [Int.toNat_natCast, List.getD_eq_getElem?_getD, List.getElem?_eq_getElem (by omega)]; exact List.getElem_mem _)
    have hcells : impl_Rule_cells.f s r [] = some (2 * r + 1) := ruleCells s r [] hr0 hr1
    rw [drop_LL B i hil, drop_LL C i (by omega)]
    simp only [lringsI]
    have yes : pairB s r (rd_L1 B (i : Int)) (rd_L1 C (i : Int)) = true → Ev (fun k => impl_learn.j2 k s r C T i (rd_L1 B (i : Int)) B B.length i (decide (((rd_L1 B (i : Int)).length : Int) < 2 * r + 1)) s r) (resL (Option.bind (lcells s r (rd_L1 B (i : Int)) (rd_L1 C (i : Int)) (rd_L1 B (i : Int)).length 0 T) (lringsI s r (B.drop (i + 1)) (C.drop (i + 1))))) := fun hp => by
      obtain ⟨ha, hb, hlen, hl, h64⟩ := pairB_ok hp
      refine Ev.succ ?_
      simp only [impl_learn.j2]
      refine Ev.neg (by rw [decide_eq_true_eq]; omega) (Ev.pos (by omega) (Ev.pos (by omega) (cellsImpl hs0 hs1 hr0 hr1 hp (rd_L1 B (i : Int)).length 0 T (by omega) hT (fun hn => ?_) (fun T' hs => ?_))))
      · rw [hn]; rfl
      · rw [hs, wrap_id (by omega) (by omega)]
        exact ih (i + 1) T' (by omega) (by rw [lcells_length _ _ _ _ _ _ _ _ hs]; exact hT)
    refine Ev.succ ?_
    simp only [impl_learn.l0]
    refine Ev.pos (by omega) (Ev.pos (by omega) (Ev.pos (by omega) (Ev.bind (isRing _ s (by omega) (by omega)) ?_)))
    by_cases g1 : ringB s (rd_L1 B (i : Int)) = true
    · refine Ev.pos g1 (Ev.pos (by omega) (Ev.bind (isRing _ s (by omega) (by omega)) ?_))
      by_cases g2 : ringB s (rd_L1 C (i : Int)) = true
      · refine Ev.pos g2 ?_
        by_cases g3 : ((rd_L1 B (i : Int)).length : Int) = ((rd_L1 C (i : Int)).length : Int)
        · refine Ev.pos g3 (Ev.bnd hcells ?_)
          by_cases g4 : 2 * r + 1 ≤ ((rd_L1 B (i : Int)).length : Int)
          · have hp : pairB s r (rd_L1 B (i : Int)) (rd_L1 C (i : Int)) = true := by
              unfold pairB
              rw [g1, g2, decide_eq_true (show (rd_L1 C (i : Int)).length = (rd_L1 B (i : Int)).length by omega), decide_eq_true g4]; rfl
            rw [if_pos hp]
            exact yes hp
          · have hp : ¬ pairB s r (rd_L1 B (i : Int)) (rd_L1 C (i : Int)) = true := fun h_ => g4 (pairB_ok h_).2.2.2.1
            rw [if_neg hp]
            exact no _ i T _ (by rw [decide_eq_true_eq]; omega)
        · have hp : ¬ pairB s r (rd_L1 B (i : Int)) (rd_L1 C (i : Int)) = true := fun h_ => g3 (by have := (pairB_ok h_).2.2.1; omega)
          rw [if_neg hp]
          exact Ev.neg g3 (no _ i T _ rfl)
      · have hp : ¬ pairB s r (rd_L1 B (i : Int)) (rd_L1 C (i : Int)) = true := fun h_ => g2 (by unfold pairB at h_; simp only [Bool.and_eq_true] at h_; exact h_.2.1)
        rw [if_neg hp]
        exact Ev.neg g2 (no _ i T _ rfl)
    · have hp : ¬ pairB s r (rd_L1 B (i : Int)) (rd_L1 C (i : Int)) = true := fun h_ => g1 (by unfold pairB at h_; simp only [Bool.and_eq_true] at h_; exact h_.1)
      rw [if_neg hp]
      exact Ev.neg g1 (no _ i T _ rfl)
/-- What is learned, if it can be. -/
def learnV (s r : Int) (B C : List (List Int)) : Option (List Int) := if headB s r B C = true ∧ pairsB s r B C = true then lrings s r B C (zeroT s r) else none
theorem learnImpl (s r : Int) (B C : List (List Int)) (sB : ∀ x ∈ B, x.length ≤ 17592186044416) (sC : ∀ x ∈ C, x.length ≤ 17592186044416) : Ev (fun k => impl_learn.f k s r B C) (resL (learnV s r B C)) := by
  have no : ∀ (v : Bool), v = true → ¬ headB s r B C = true → Ev (fun k => impl_learn.j0 k s r B C v) (resL (learnV s r B C)) := fun v hv hh => by
    unfold learnV
    rw [if_neg (fun h_ => hh h_.1)]
    refine Ev.succ ?_
    simp only [impl_learn.j0]
    exact Ev.pos hv (Ev.now _)
  unfold impl_learn.f
  refine Ev.bnd (areStates s) ?_
  by_cases gs : s = 2 ∨ s = 3
  · refine Ev.pos (by simpa using gs) (Ev.bnd (isReach r) ?_)
    by_cases gr : 0 ≤ r ∧ r ≤ 2
    · refine Ev.pos (by simpa using gr) ?_
      by_cases g1 : (B.length : Int) < 1
      · exact Ev.pos g1 (no _ rfl (fun h_ => by unfold headB at h_; simp only [Bool.and_eq_true, decide_eq_true_eq] at h_; omega))
      · refine Ev.neg g1 ?_
        by_cases g2 : (B.length : Int) > 32
        · exact Ev.pos g2 (no _ rfl (fun h_ => by unfold headB at h_; simp only [Bool.and_eq_true, decide_eq_true_eq] at h_; omega))
        · refine Ev.neg g2 ?_
          by_cases g3 : C.length = B.length
          · have hh : headB s r B C = true := by
              unfold headB
              rw [decide_eq_true (show 2 ≤ s ∧ s ≤ 3 by omega), decide_eq_true gr, decide_eq_true (show 1 ≤ B.length ∧ B.length ≤ 32 by omega), decide_eq_true g3]; rfl
            have hps := pow_small (s := s) (r := r) (by omega) (by omega) gr.1 gr.2
            have e : learnV s r B C = lringsI s r B C (zeroT s r) := by
              unfold learnV
              by_cases hp : pairsB s r B C = true
              · rw [if_pos ⟨hh, hp⟩, lringsI_ok s r B C _ hp]
              · rw [if_neg (fun h_ => hp h_.2), lringsI_no s r B C _ hp]
            rw [e]
            refine Ev.succ ?_
            simp only [impl_learn.j0]
            refine Ev.neg (by simp [g3]) (Ev.bnd (ruleCells s r [] gr.1 gr.2) (Ev.bind (raised s (2 * r + 1) (by omega) (by omega) (by omega) (by omega)) (Ev.bnd (a := zeroT s r) ?_ (ringsImpl (by omega) (by omega) gr.1 gr.2 (by omega) g3 sB sC B.length 0 _ (by omega) rfl))))
            unfold slices_Repeat_int64_int64.f zeroT
            rw [if_pos (show ([(-1)] : List Int).length = 1 from rfl), if_pos (by omega), if_pos (by omega)]
            rfl
          · refine no _ (by simp; omega) (fun h_ => by unfold headB at h_; simp only [Bool.and_eq_true, decide_eq_true_eq] at h_; omega)
    · exact Ev.neg (by simpa using gr) (no _ rfl (fun h_ => by unfold headB at h_; simp only [Bool.and_eq_true, decide_eq_true_eq] at h_; omega))
  · exact Ev.neg (by simpa using gs) (no _ rfl (fun h_ => by unfold headB at h_; simp only [Bool.and_eq_true, decide_eq_true_eq] at h_; omega))
theorem ringsB (s r : Int) (B C : List (List Int)) (sB : ∀ x ∈ B, x.length ≤ 17592186044416) (sC : ∀ x ∈ C, x.length ≤ 17592186044416) : Ev (fun k => spec_l07Rings.f k s r B C) (headB s r B C && pairsB s r B C) := by
  have no : ∀ (v : Bool), v = true → ¬ headB s r B C = true → Ev (fun k => spec_l07Rings.j0 k s r B C v) (headB s r B C && pairsB s r B C) := fun v hv hh => by
    rw [Bool.eq_false_iff.mpr hh, Bool.false_and]
    refine Ev.succ ?_
    simp only [spec_l07Rings.j0]
    exact Ev.pos hv (Ev.now _)
  unfold spec_l07Rings.f
  refine Ev.bnd (l00In _ _ _) ?_
  by_cases gs : 2 ≤ s ∧ s ≤ 3
  · refine Ev.pos (by simpa using gs) (Ev.bnd (l00In _ _ _) ?_)
    by_cases gr : 0 ≤ r ∧ r ≤ 2
    · refine Ev.pos (by simpa using gr) ?_
      by_cases g1 : (B.length : Int) < 1
      · exact Ev.pos g1 (no _ rfl (fun h_ => by unfold headB at h_; simp only [Bool.and_eq_true, decide_eq_true_eq] at h_; omega))
      · refine Ev.neg g1 ?_
        by_cases g2 : (B.length : Int) > 32
        · exact Ev.pos g2 (no _ rfl (fun h_ => by unfold headB at h_; simp only [Bool.and_eq_true, decide_eq_true_eq] at h_; omega))
        · refine Ev.neg g2 ?_
          by_cases g3 : C.length = B.length
          · have hh : headB s r B C = true := by
              unfold headB
              rw [decide_eq_true gs, decide_eq_true gr, decide_eq_true (show 1 ≤ B.length ∧ B.length ≤ 32 by omega), decide_eq_true g3]; rfl
            rw [hh, Bool.true_and, pairsB_iff s r B C g3]
            refine Ev.succ ?_
            simp only [spec_l07Rings.j0]
            refine Ev.neg (by simp [g3]) (Ev.all B.length _ (fun k i => spec_l07Rings.l0 k s r B C B.length i) (fun i hil q ih => ?_) ?_)
            · have hzB : (rd_L1 B (i : Int)).length ≤ 17592186044416 := sB _ (by unfold rd_L1; rw [Int.toNat_natCast, List.getD_eq_getElem?_getD, List.getElem?_eq_getElem hil]; exact List.getElem_mem hil)
              have hzC : (rd_L1 C (i : Int)).length ≤ 17592186044416 := sC _ (by unfold rd_L1; rw [Int.toNat_natCast, List.getD_eq_getElem?_getD, List.getElem?_eq_getElem (by omega)]; exact List.getElem_mem _)
              unfold pairB
              refine Ev.succ ?_
              simp only [spec_l07Rings.l0]
              rw [wrap_id (x := 2 * r) (by omega) (by omega), wrap_id (x := 2 * r + 1) (by omega) (by omega), wrap_id (x := (i : Int) + 1) (by omega) (by omega), Bool.and_assoc, Bool.and_assoc, Bool.and_assoc]
              refine Ev.pos (by omega) (Ev.pos (by omega) (Ev.pos (by omega) (Ev.and (l02Ring _ s (by omega) (by omega) (by omega)) (fun _ => Ev.pos (by omega) (Ev.and (l02Ring _ s (by omega) (by omega) (by omega)) (fun _ => ?_))))))
              by_cases g4 : (rd_L1 C (i : Int)).length = (rd_L1 B (i : Int)).length
              · rw [decide_eq_true g4, Bool.true_and]
                refine Ev.pos (by omega) ?_
                by_cases g5 : 2 * r + 1 ≤ ((rd_L1 B (i : Int)).length : Int)
                · rw [decide_eq_true g5, Bool.true_and]
                  exact Ev.neg (by omega) ih
                · rw [decide_eq_false g5, Bool.false_and]
                  exact Ev.pos (by omega) (Ev.now _)
              · rw [decide_eq_false g4, Bool.false_and]
                exact Ev.neg (by omega) (Ev.now _)
            · refine Ev.succ ?_
              simp only [spec_l07Rings.l0]
              exact Ev.neg (by omega) (Ev.now _)
          · refine no _ (by simp; omega) (fun h_ => by unfold headB at h_; simp only [Bool.and_eq_true, decide_eq_true_eq] at h_; omega)
    · exact Ev.neg (by simpa using gr) (no _ rfl (fun h_ => by unfold headB at h_; simp only [Bool.and_eq_true, decide_eq_true_eq] at h_; omega))
  · exact Ev.neg (by simpa using gs) (no _ rfl (fun h_ => by unfold headB at h_; simp only [Bool.and_eq_true, decide_eq_true_eq] at h_; omega))

theorem learnTableImpl (s r : Int) (B C : List (List Int)) (sB : SmallLL B) (sC : SmallLL C) : Ev (fun k => impl_LearnTable.f k s r B C) (resL (learnV s r B C)) := by
  unfold impl_LearnTable.f
  exact Ev.bind (learnImpl s r B C sB sC) (Ev.val rfl)
theorem lrings_length (s r : Int) : ∀ (B C : List (List Int)) (T T' : List Int), lrings s r B C T = some T' → T'.length = T.length
  | [], C, T, T', h => by rw [lrings_nil, Option.some.injEq] at h; rw [h]
  | _ :: _, [], T, T', h => by simp only [lrings, Option.some.injEq] at h; rw [h]
  | a :: al, b :: bl, T, T', h => by
    simp only [lrings] at h
    obtain ⟨U, h1, h2⟩ := Option.bind_eq_some_iff.1 h
    rw [lrings_length s r al bl U T' h2, lcells_length s r a b _ _ _ _ h1]

/-- What LeastReach answers, from a reach on. -/
def leastFrom (s : Int) (B C : List (List Int)) : Nat → Int → Int × Bool
  | 0, _ => (0, false)
  | d + 1, r => if (learnV s r B C).isSome = true then (r, true) else leastFrom s B C d (r + 1)
theorem leastFrom_none (s : Int) (B C : List (List Int)) : ∀ (d : Nat) (r : Int), (∀ r', r ≤ r' → r' < r + d → learnV s r' B C = none) → leastFrom s B C d r = (0, false)
  | 0, _, _ => rfl
  | d + 1, r, h => by
    simp only [leastFrom]
    rw [h r (by omega) (by omega)]
    rw [if_neg (by simp)]
    exact leastFrom_none s B C d (r + 1) (fun r' h1 h2 => h r' (by omega) (by omega))
theorem resL_snd (o : Option (List Int)) : (resL o).2 = o.isSome := by cases o <;> rfl
theorem leastImpl (s : Int) (B C : List (List Int)) (sB : SmallLL B) (sC : SmallLL C) : Ev (fun k => impl_LeastReach.f k s B C) (leastFrom s B C 3 0) := by
  unfold impl_LeastReach.f
  have main : ∀ d r : Nat, r + d = 3 → Ev (fun k => impl_LeastReach.l0 k s B C (r : Int)) (leastFrom s B C d (r : Int)) := by
    intro d
    induction d with
    | zero =>
      intro r hr
      refine Ev.succ ?_
      simp only [impl_LeastReach.l0]
      exact Ev.neg (by omega) (Ev.now _)
    | succ d ih =>
      intro r hr
      refine Ev.succ ?_
      simp only [impl_LeastReach.l0, leastFrom]
      rw [wrap_id (x := (r : Int) + 1) (by omega) (by omega)]
      refine Ev.pos (by omega) (Ev.bind (learnImpl s r B C sB sC) ?_)
      rw [resL_snd]
      by_cases g : (learnV s r B C).isSome = true
      · rw [if_pos g]; exact Ev.pos g (Ev.now _)
      · rw [if_neg g]; exact Ev.neg g (ih (r + 1) (by omega))
  exact main 3 0 rfl
theorem leastSpec (s : Int) (B C : List (List Int)) (sB : SmallLL B) (sC : SmallLL C) : Ev (fun k => spec_LeastReach.f k s B C) (leastFrom s B C 3 0) := by
  unfold spec_LeastReach.f
  have main : ∀ d r : Nat, r + d = 3 → Ev (fun k => spec_LeastReach.l0 k s B C (r : Int)) (leastFrom s B C d (r : Int)) := by
    intro d
    induction d with
    | zero =>
      intro r hr
      refine Ev.succ ?_
      simp only [spec_LeastReach.l0]
      exact Ev.neg (by omega) (Ev.now _)
    | succ d ih =>
      intro r hr
      refine Ev.succ ?_
      simp only [spec_LeastReach.l0]
      rw [wrap_id (x := (r : Int) + 1) (by omega) (by omega)]
      refine Ev.pos (by omega) (Ev.bind (ringsB s r B C sB sC) ?_)
      by_cases g : (headB s r B C && pairsB s r B C) = true
      · have g' := g
        rw [Bool.and_eq_true] at g'
        have hh := g'.1
        unfold headB at hh
        simp only [Bool.and_eq_true, decide_eq_true_eq] at hh
        have e : learnV s r B C = lrings s r B C (zeroT s r) := by unfold learnV; rw [if_pos g']
        have hl := learnSpec hh.1.1.1 hh.1.1.2 hh.1.2.1 hh.1.2.2 hh.2.1.2 hh.2.2 g'.2
        rw [← e] at hl
        refine Ev.pos g (Ev.bind hl ?_)
        simp only [leastFrom]
        rw [resL_snd]
        by_cases g2 : (learnV s r B C).isSome = true
        · rw [if_pos g2]; exact Ev.pos g2 (Ev.now _)
        · rw [if_neg g2]; exact Ev.neg g2 (ih (r + 1) (by omega))
      · refine Ev.neg g (Ev.val ?_)
        rw [leastFrom_none s B C (d + 1) r (fun r' h1 h2 => ?_)]
        unfold learnV
        rw [if_neg]
        rintro ⟨h3, h4⟩
        refine g ?_
        rw [Bool.and_eq_true]
        refine ⟨?_, pairsB_mono s r r' h1 B C h4⟩
        unfold headB at h3 ⊢
        simp only [Bool.and_eq_true, decide_eq_true_eq] at h3 ⊢
        omega
  exact main 3 0 rfl

theorem l02Powers (x n : Int) (h0 : 0 ≤ x) (h1 : x ≤ 10) (hn0 : 0 ≤ n) (hn : n ≤ 12) : Ev (fun k => spec_l02Powers.f k x n) (x ^ n.toNat) := by
  unfold spec_l02Powers.f
  obtain ⟨m, rfl⟩ := Int.eq_ofNat_of_zero_le hn0
  have main : ∀ d i : Nat, i + d = m → Ev (fun k => spec_l02Powers.l0 k x (d : Int) (x ^ i)) (x ^ m) := by
    intro d
    induction d with
    | zero =>
      intro i hi
      refine Ev.succ ?_
      simp only [spec_l02Powers.l0]
      exact Ev.neg (by omega) (Ev.val (by rw [show i = m by omega]))
    | succ d ih =>
      intro i hi
      refine Ev.succ ?_
      simp only [spec_l02Powers.l0]
      have hb := pow_bound x (i + 1) h0 h1 (by omega)
      rw [Int.pow_succ] at hb
      refine Ev.pos (by omega) ?_
      rw [wrap_id (x := ((d + 1 : Nat) : Int) - 1) (by omega) (by omega), wrap_id (x := x ^ i * x) (by omega) (by omega), ← Int.pow_succ, show ((d + 1 : Nat) : Int) - 1 = (d : Int) by omega]
      exact ih (i + 1) (by omega)
  have := main m 0 (by omega)
  rw [Int.pow_zero] at this
  exact this

theorem l02Is (s r : Int) (t : List Int) (hl : t.length ≤ 35184372088832) : Ev (fun k => spec_l02Is.f k s r t) (validRule s r t) := by
  unfold spec_l02Is.f validRule
  refine Ev.bnd (l00In s 2 3) ?_
  by_cases hs : 2 ≤ s ∧ s ≤ 3
  · refine Ev.pos (by simpa using hs) (Ev.bnd (l00In r 0 2) ?_)
    by_cases hr : 0 ≤ r ∧ r ≤ 2
    · refine Ev.pos (by simpa using hr) ?_
      rw [wrap_id (x := 2 * r) (by omega) (by omega), wrap_id (x := 2 * r + 1) (by omega) (by omega)]
      refine Ev.bind (l02Powers s (2 * r + 1) (by omega) (by omega) (by omega) (by omega)) (Ev.succ ?_)
      simp only [spec_l02Is.j0]
      by_cases hn : (t.length : Int) = s ^ (2 * r + 1).toNat
      · refine Ev.neg (by simp [hn]) ?_
        rw [decide_eq_true hs, decide_eq_true hr, decide_eq_true hn, Bool.true_and, Bool.true_and, Bool.true_and]
        refine Ev.upto t.length (fun i => ∀ j, (hj : j < t.length) → j < i → 0 ≤ t[j] ∧ t[j] ≤ s - 1) (fun _ => ()) _ (fun k _ i => spec_l02Is.l0 k i s r t) (fun i hi hp ih => ?_) (fun hp => ?_) (fun j hj h => by omega)
        · refine Ev.succ ?_
          simp only [spec_l02Is.l0]
          refine Ev.pos (by omega) (Ev.pos (by omega) ?_)
          rw [rd_lt t i (by omega), wrap_id (x := s - 1) (by omega) (by omega), wrap_id (x := (i : Int) + 1) (by omega) (by omega)]
          refine Ev.bnd (l00In _ _ _) ?_
          by_cases c : 0 ≤ t[i] ∧ t[i] ≤ s - 1
          · exact Ev.pos (by simpa using c) (ih (upTo_succ (p := fun x => 0 ≤ x ∧ x ≤ s - 1) hi hp c))
          · exact Ev.neg (by simpa using c) (Ev.val (by rw [allIn_false i (by omega) c]))
        · refine Ev.succ ?_
          simp only [spec_l02Is.l0]
          exact Ev.neg (by omega) (Ev.val (by rw [allIn_true (fun j hj' => hp j hj' (by omega))]))
      · exact Ev.pos (by simp [hn]) (Ev.val (by simp [hn]))
    · refine Ev.neg (by simpa using hr) (Ev.succ ?_)
      simp only [spec_l02Is.j0]
      exact Ev.pos (by trivial) (Ev.val (by simp [hr]))
  · refine Ev.neg (by simpa using hs) (Ev.succ ?_)
    simp only [spec_l02Is.j0]
    exact Ev.pos (by trivial) (Ev.val (by simp [hs]))

theorem ValidRule (s r : Int) (t : List Int) (hl : t.length ≤ 35184372088832) : Ev (fun k => impl_ValidRule.f k s r t) (validRule s r t) := by
  unfold impl_ValidRule.f validRule
  refine Ev.bnd (areStates s) ?_
  by_cases hs : 2 ≤ s ∧ s ≤ 3
  · refine Ev.pos (by simp; omega) (Ev.bnd (isReach r) (Ev.succ ?_))
    simp only [impl_ValidRule.j0]
    by_cases hr : 0 ≤ r ∧ r ≤ 2
    · refine Ev.neg (by simpa using hr) (Ev.bnd (ruleCells s r t hr.1 hr.2) (Ev.bind (raised s (2 * r + 1) (by omega) (by omega) (by omega) (by omega)) ?_))
      rw [wrap_id (x := s - 1) (by omega) (by omega)]
      refine Ev.cast (Ev.bind (areMany t _ _ 0 (s - 1) hl) (Ev.now _)) ?_
      rw [decide_eq_true hs, decide_eq_true hr, Bool.true_and, Bool.true_and]
      congr 1
      exact decide_eq_decide.mpr (by omega)
    · exact Ev.pos (by simp; omega) (Ev.val (by simp [hr]))
  · refine Ev.neg (by simp; omega) (Ev.succ ?_)
    simp only [impl_ValidRule.j0]
    exact Ev.pos (by trivial) (Ev.val (by simp [hs]))

/-- What FillTable answers. -/
def filled (t : List Int) (st : Int) : List Int := t.map fun x => if x = -1 then st else x
def fillTable (s r : Int) (t : List Int) (st : Int) : Int × Int × List Int × Bool :=
  if (decide (2 ≤ s ∧ s ≤ 3) && decide (0 ≤ r ∧ r ≤ 2) && decide (0 ≤ st ∧ st ≤ s - 1) && validRule s r (filled t st)) = true then (s, r, filled t st, true) else (0, 0, [], false)
theorem filled_length (t : List Int) (st : Int) : (filled t st).length = t.length := by simp [filled]
theorem filled_step (t : List Int) (st : Int) (i : Nat) (h : i < t.length) : (filled t st).take (i + 1) = (filled t st).take i ++ [if t[i] = -1 then st else t[i]] := by
  rw [List.take_succ_eq_append_getElem (by rw [filled_length]; exact h)]
  simp [filled]

theorem fillImpl (s r : Int) (t : List Int) (st : Int) (hl : t.length ≤ 17592186044415) : Ev (fun k => impl_FillTable.f k s r t st) (fillTable s r t st) := by
  unfold impl_FillTable.f fillTable
  refine Ev.bnd (areStates s) ?_
  by_cases hs : 2 ≤ s ∧ s ≤ 3
  · refine Ev.pos (by simp; omega) (Ev.bnd (isReach r) ?_)
    by_cases hr : 0 ≤ r ∧ r ≤ 2
    · refine Ev.pos (by simpa using hr) ?_
      rw [wrap_id (x := s - 1) (by omega) (by omega)]
      refine Ev.bnd (within st 0 (s - 1)) (Ev.succ ?_)
      simp only [impl_FillTable.j0]
      by_cases ht : 0 ≤ st ∧ st ≤ s - 1
      · refine Ev.neg (by simpa using ht) ?_
        rw [decide_eq_true hs, decide_eq_true hr, decide_eq_true ht, Bool.true_and, Bool.true_and, Bool.true_and]
        refine Ev.upto t.length (fun _ => True) (fun i => (filled t st).take i) _ (fun k x i => impl_FillTable.l0 k st t t.length i s r x) (fun i hi _ ih => ?_) (fun _ => ?_) trivial
        · refine Ev.succ ?_
          simp only [impl_FillTable.l0]
          refine Ev.pos (by omega) (Ev.pos (by omega) (Ev.pos (by omega) ?_))
          have := ih trivial
          rw [filled_step t st i hi] at this
          rw [rd_lt t i hi, wrap_id (x := (i : Int) + 1) (by omega) (by omega)]
          by_cases c : t[i] = -1
          · rw [if_pos c] at this
            exact Ev.pos c (Ev.pos (by rw [List.length_take, filled_length]; omega) this)
          · rw [if_neg c] at this
            exact Ev.neg c (Ev.pos (by rw [List.length_take, filled_length]; omega) this)
        · refine Ev.succ ?_
          simp only [impl_FillTable.l0]
          rw [List.take_of_length_le (by rw [filled_length]; omega)]
          refine Ev.neg (by omega) (Ev.bind (ValidRule s r (filled t st) (by rw [filled_length]; omega)) ?_)
          by_cases c : validRule s r (filled t st) = true
          · exact Ev.pos c (Ev.val (by rw [if_pos c]))
          · exact Ev.neg c (Ev.val (by rw [if_neg c]))
      · exact Ev.pos (by simp; omega) (Ev.val (by simp [ht]))
    · refine Ev.neg (by simpa using hr) (Ev.succ ?_)
      simp only [impl_FillTable.j0]
      exact Ev.pos (by trivial) (Ev.val (by simp [hr]))
  · refine Ev.neg (by simp; omega) (Ev.succ ?_)
    simp only [impl_FillTable.j0]
    exact Ev.pos (by trivial) (Ev.val (by simp [hs]))

/-- Bytes. -/
def Bytes (l : List Int) : Prop := ∀ x ∈ l, 0 ≤ x ∧ x ≤ 255
theorem Bytes.of {l : List Int} (h : ∀ x ∈ l, (Lit.int .u8 x).wf = true) : Bytes l := by
  intro x hx
  have := h x hx
  simp only [Lit.wf, Bool.and_eq_true, decide_eq_true_eq] at this
  have h1 : x ≤ 255 := this.2
  have h0 : 0 ≤ x := this.1
  exact ⟨h0, h1⟩
theorem u64_wrap (n : Int) : IntKind.u64.wrap n = n % 18446744073709551616 := by simp [IntKind.wrap, IntKind.bits, IntKind.signed]
theorem src_high (z : Int) : 0 ≤ Go.bits .and .u64 (IntKind.u64.wrap z / 1099511627776) 255 ∧ Go.bits .and .u64 (IntKind.u64.wrap z / 1099511627776) 255 ≤ 255 := by
  have h0 : 0 ≤ IntKind.u64.wrap z := by rw [u64_wrap]; omega
  have h1 : IntKind.u64.wrap z < 18446744073709551616 := by rw [u64_wrap]; omega
  have e := bits_mask .u64 24 (by decide) (fun n h0 h1 => by rw [u64_wrap]; omega) 8 (by decide) (IntKind.u64.wrap z / 1099511627776) (by omega) (by omega)
  rw [show (255 : Int) = 2 ^ 8 - 1 from by decide]
  rw [e]
  omega
/-- The next byte. -/
theorem srcNext (l : List Int) (hb : Bytes l) (hl : l.length ≤ 140737488351232) (at_ seed : Int) (h0 : 0 ≤ at_) (h1 : at_ ≤ 1000000000000000) : ∃ x s, spec_l00Src_next.f l at_ seed = some (x, at_ + 1, s) ∧ 0 ≤ x ∧ x ≤ 255 := by
  unfold spec_l00Src_next.f
  rw [wrap_id (x := at_ + 1) (by omega) (by omega)]
  by_cases c : at_ < (l.length : Int)
  · have hx := hb _ (rd_mem l at_ h0 c)
    rw [if_pos c, if_pos h0, if_pos (by omega), wrap_id (x := rd l at_) (by omega) (by omega)]
    exact ⟨_, _, rfl, hx.1, hx.2⟩
  · rw [if_neg c, if_neg (by omega)]
    have h := src_high (IntKind.u64.wrap ((IntKind.u64.wrap (seed * 6364136223846793005))) + 1442695040888963407)
    rw [wrap_id (by omega) (by omega)]
    exact ⟨_, _, rfl, h.1, h.2⟩
/-- A number below n. -/
theorem srcPick (l : List Int) (hb : Bytes l) (hl : l.length ≤ 140737488351232) (at_ seed : Int) (h0 : 0 ≤ at_) (h1 : at_ ≤ 100000000000000) (n : Int) (hn : 1 ≤ n) (hm : n ≤ 200) : ∃ x a s, spec_l00Src_pick.f l at_ seed n = some (x, a, s) ∧ 0 ≤ x ∧ x < n ∧ 0 ≤ a ∧ a ≤ at_ + 1 := by
  unfold spec_l00Src_pick.f
  by_cases c : n ≤ 1
  · rw [if_pos c]
    exact ⟨_, _, _, rfl, by omega, by omega, h0, by omega⟩
  · obtain ⟨x, s, e, hx0, hx1⟩ := srcNext l hb hl at_ seed h0 (by omega)
    rw [if_neg c, e]
    simp only [Option.bind_some]
    rw [if_neg (by omega), if_neg (by omega), Int.tmod_eq_emod_of_nonneg hx0]
    exact ⟨_, _, _, rfl, Int.emod_nonneg _ (by omega), Int.emod_lt_of_pos _ (by omega), by omega, by omega⟩

/-- A rule of two states that is drawn: its table. -/
theorem drawTwo (l : List Int) (hb : Bytes l) (hl : l.length ≤ 140737488351232) (p q : Int) : ∀ (d : Nat) (at_ s : Int) (acc : List Int), 0 ≤ at_ → at_ + d ≤ 1000000 → acc.length + d ≤ 1000000 →
    ∃ xs a t, Ev (fun k => spec_l07DrawTwo.l0 k d l at_ s p q acc) (p, q, acc ++ xs, a, t) ∧ xs.length = d ∧ ∀ x ∈ xs, 0 ≤ x ∧ x < 2 := by
  intro d
  induction d with
  | zero =>
    intro at_ s acc h0 h1 h2
    refine ⟨[], at_, s, Ev.succ ?_, rfl, by simp⟩
    simp only [spec_l07DrawTwo.l0]
    exact Ev.neg (by simp) (Ev.val (by simp))
  | succ d ih =>
    intro at_ s acc h0 h1 h2
    obtain ⟨x, a, t, e, hx0, hx1, ha0, ha1⟩ := srcPick l hb hl at_ s h0 (by omega) 2 (by omega) (by omega)
    obtain ⟨xs, a2, t2, h, hlen, hxs⟩ := ih a t (acc ++ [x]) ha0 (by push_cast at h1; omega) (by rw [List.length_append, List.length_singleton]; omega)
    refine ⟨x :: xs, a2, t2, Ev.succ ?_, by simp [hlen], ?_⟩
    · simp only [spec_l07DrawTwo.l0]
      have ed : ((d + 1 : Nat) : Int) - 1 = (d : Int) := by omega
      rw [wrap_id (x := ((d + 1 : Nat) : Int) - 1) (by omega) (by omega), ed]
      refine Ev.pos (by omega) (Ev.bnd e (Ev.pos (by omega) ?_))
      rw [List.append_assoc, List.singleton_append] at h
      exact h
    · intro y hy
      rcases List.mem_cons.1 hy with rfl | hy
      · exact ⟨hx0, hx1⟩
      · exact hxs y hy
/-- A ring that is drawn. -/
theorem drawRing (l : List Int) (hb : Bytes l) (hl : l.length ≤ 140737488351232) (q : Int) (hq : 1 ≤ q) (hq2 : q ≤ 200) : ∀ (d : Nat) (at_ s : Int) (acc : List Int), 0 ≤ at_ → at_ + d ≤ 1000000 → acc.length + d ≤ 1000000 →
    ∃ xs, Ev (fun k => spec_B10Ring.l0 k q d acc l at_ s) (acc ++ xs) ∧ xs.length = d ∧ ∀ x ∈ xs, 0 ≤ x ∧ x < q := by
  intro d
  induction d with
  | zero =>
    intro at_ s acc h0 h1 h2
    refine ⟨[], Ev.succ ?_, rfl, by simp⟩
    simp only [spec_B10Ring.l0]
    exact Ev.neg (by simp) (Ev.val (by simp))
  | succ d ih =>
    intro at_ s acc h0 h1 h2
    obtain ⟨x, a, t, e, hx0, hx1, ha0, ha1⟩ := srcPick l hb hl at_ s h0 (by omega) q hq hq2
    obtain ⟨xs, h, hlen, hxs⟩ := ih a t (acc ++ [x]) ha0 (by push_cast at h1; omega) (by rw [List.length_append, List.length_singleton]; omega)
    refine ⟨x :: xs, Ev.succ ?_, by simp [hlen], ?_⟩
    · simp only [spec_B10Ring.l0]
      have ed : ((d + 1 : Nat) : Int) - 1 = (d : Int) := by omega
      rw [wrap_id (x := ((d + 1 : Nat) : Int) - 1) (by omega) (by omega), ed]
      refine Ev.pos (by omega) (Ev.bnd e (Ev.pos (by omega) ?_))
      rw [List.append_assoc, List.singleton_append] at h
      exact h
    · intro y hy
      rcases List.mem_cons.1 hy with rfl | hy
      · exact ⟨hx0, hx1⟩
      · exact hxs y hy
theorem B10Ring (l : List Int) (hb : Bytes l) (hl : l.length ≤ 140737488351232) (q : Int) (hq : 1 ≤ q) (hq2 : q ≤ 200) (n : Nat) (hn : n ≤ 1000) : ∃ xs, Ev (fun k => spec_B10Ring.f k l q n) xs ∧ xs.length = n ∧ ∀ x ∈ xs, 0 ≤ x ∧ x < q := by
  obtain ⟨xs, h, h1, h2⟩ := drawRing l hb hl q hq hq2 n 0 0 [] (by omega) (by omega) (by simp; omega)
  refine ⟨xs, ?_, h1, h2⟩
  unfold spec_B10Ring.f spec_l00From.f
  exact Ev.bnd rfl h

theorem toldSpec {s r : Int} {t ring : List Int} (hr : RuleOk s r t) (h : RingOk s ring) (i : Int) (hi0 : 0 ≤ i) (hi1 : i ≤ 1000000) : Ev (fun k => spec_l02Told.f k s r t ring i) (told s r t ring i) := by
  unfold spec_l02Told.f
  have := hr.r0; have := hr.r1; have := hr.s0; have := hr.s1; have hn := h.pos; have hn1 := h.le
  rw [wrap_id (x := i - r) (by omega) (by omega)]
  refine Ev.congr (fun k => ?_) (Ev.upto (2 * r + 1).toNat (fun _ => True) (fun j => tl s ring (i - r) j) (told s r t ring i) (fun k x j => spec_l02Told.l0 k ring i ring.length x (i - r + j) s r t) (fun j hj _ ih => ?_) (fun _ => ?_) trivial)
  · rw [Int.add_zero]; rfl
  · refine Ev.succ ?_
    simp only [spec_l02Told.l0]
    have hf := fm_ok (i - r + (j : Int)) ring.length (by omega) (by omega)
    have hx := h.all _ (rd_mem ring _ hf.1 (by omega))
    have ht := tl_ok s ring (i - r) hr.s0 hr.s1 h j
    have ht1 := tl_ok s ring (i - r) hr.s0 hr.s1 h (j + 1)
    have hb := pow_bound s (j + 1) (by omega) (by omega) (by omega)
    have hm : 0 ≤ tl s ring (i - r) j * s := Int.mul_nonneg ht.1 (by omega)
    have e : tl s ring (i - r) (j + 1) = tl s ring (i - r) j * s + rd ring (fm (i - r + (j : Int)) ring.length) := rfl
    rw [wrap_id (x := i + r) (by omega) (by omega), wrap_id (x := i - r + (j : Int) + 1) (by omega) (by omega)]
    refine Ev.pos (by omega) (Ev.neg (by omega) (Ev.pos hf.1 (Ev.pos hf.2 ?_)))
    have hw : wrap64 (wrap64 (tl s ring (i - r) j * s) + rd ring (Int.tmod (wrap64 ((Int.tmod (i - r + (j : Int)) ring.length) + (ring.length : Int))) ring.length)) = tl s ring (i - r) (j + 1) := by
      rw [wrap_id (x := tl s ring (i - r) j * s) (by omega) (by omega)]
      exact wrap_id (by show _ ≤ tl s ring (i - r) j * s + rd ring (fm (i - r + (j : Int)) ring.length); omega) (by show tl s ring (i - r) j * s + rd ring (fm (i - r + (j : Int)) ring.length) ≤ _; omega)
    rw [hw]
    have := ih trivial
    rw [show i - r + ((j : Int) + 1) = i - r + (j : Int) + 1 by omega] at this
    exact this
  · refine Ev.succ ?_
    simp only [spec_l02Told.l0]
    have ht := tl_ok s ring (i - r) hr.s0 hr.s1 h (2 * r + 1).toNat
    rw [← hr.n] at ht
    rw [wrap_id (x := i + r) (by omega) (by omega)]
    exact Ev.neg (by omega) (Ev.pos ht.1 (Ev.pos ht.2 (Ev.now _)))
theorem stepSpec {s r : Int} {t ring : List Int} (hr : RuleOk s r t) (h : RingOk s ring) : Ev (fun k => spec_l02Step.f k s r t ring) (ringStep s r t ring) := by
  unfold spec_l02Step.f
  have hn1 := h.le
  refine Ev.upto ring.length (fun _ => True) (fun i => (ringStep s r t ring).take i) _ (fun k x i => spec_l02Step.l0 k ring x i s r t) (fun i hi _ ih => ?_) (fun _ => ?_) trivial
  · refine Ev.succ ?_
    simp only [spec_l02Step.l0]
    refine Ev.pos (by omega) (Ev.bind (toldSpec hr h (i : Int) (by omega) (by omega)) (Ev.pos (by rw [List.length_take]; omega) ?_))
    rw [wrap_id (x := (i : Int) + 1) (by omega) (by omega), ← ringStep_take s r t ring i hi]
    exact ih trivial
  · refine Ev.succ ?_
    simp only [spec_l02Step.l0]
    exact Ev.neg (by omega) (Ev.val (by rw [List.take_of_length_le (by rw [ringStep_length]; omega)]))

theorem b10At (l : List Int) (hb : Bytes l) (i n : Int) (hi : 0 ≤ i) (hi2 : i ≤ 1000) (hn : 1 ≤ n) (hn2 : n ≤ 1000) : ∃ x, laws_b10At.f l i n = some x ∧ 0 ≤ x ∧ x < n := by
  unfold laws_b10At.f
  by_cases c : n ≤ 1
  · rw [if_pos c]; exact ⟨_, rfl, by omega, by omega⟩
  · rw [if_neg c]
    by_cases h : i < (l.length : Int)
    · have hx := hb _ (rd_mem l i hi h)
      rw [if_pos h, if_pos hi, if_neg (by omega), wrap_id (x := rd l i) (by omega) (by omega), Int.tmod_eq_emod_of_nonneg (by omega)]
      exact ⟨_, rfl, Int.emod_nonneg _ (by omega), Int.emod_lt_of_pos _ (by omega)⟩
    · rw [if_neg h, if_neg (by omega), wrap_id (x := i * 37) (by omega) (by omega), wrap_id (x := i * 37 + 11) (by omega) (by omega), Int.tmod_eq_emod_of_nonneg (by omega)]
      exact ⟨_, rfl, Int.emod_nonneg _ (by omega), Int.emod_lt_of_pos _ (by omega)⟩
theorem b10Long (l m : List Int) : laws_b10Long.f l m = some (decide ((1048576 : Int) < l.length) || decide ((1048576 : Int) < m.length)) := by
  unfold laws_b10Long.f
  by_cases c : (l.length : Int) > 1048576
  · rw [if_pos c, decide_eq_true (show (1048576 : Int) < l.length from c), Bool.true_or]
  · rw [if_neg c, decide_eq_false (show ¬ (1048576 : Int) < l.length from c), Bool.false_or]

theorem b10Ints (l m : List Int) (hl : l.length ≤ 35184372088832) : Ev (fun k => laws_b10Ints.f k l m) (decide (l = m)) := by
  unfold laws_b10Ints.f
  by_cases h : l.length = m.length
  · refine Ev.pos (by omega) ?_
    refine Ev.upto l.length (fun i => ∀ j, j < i → l[j]? = m[j]?) (fun _ => ()) _ (fun k _ i => laws_b10Ints.l0 k l m l.length i) (fun i hi hp ih => ?_) (fun hp => ?_) (fun j hj => by omega)
    · refine Ev.succ ?_
      simp only [laws_b10Ints.l0]
      refine Ev.pos (by omega) (Ev.pos (by omega) (Ev.pos (by omega) (Ev.pos (by omega) ?_)))
      rw [rd_lt l i (by omega), rd_lt m i (by omega)]
      by_cases e : l[i] = m[i]
      · refine Ev.pos e ?_
        rw [wrap_id (by omega) (by omega)]
        exact ih (fun j hj' => by
          by_cases hji : j < i
          · exact hp j hji
          · obtain rfl : j = i := by omega
            rw [List.getElem?_eq_getElem (by omega), List.getElem?_eq_getElem (by omega), e])
      · refine Ev.neg e (Ev.val ?_)
        rw [eq_comm, Option.some.injEq, decide_eq_false_iff_not]
        rintro rfl
        exact e rfl
    · refine Ev.succ ?_
      simp only [laws_b10Ints.l0]
      refine Ev.neg (by omega) (Ev.val ?_)
      have : l = m := List.ext_getElem? (fun j => by
        by_cases hjl : j < l.length
        · exact hp j (by omega)
        · rw [List.getElem?_eq_none (by omega), List.getElem?_eq_none (by omega)])
      simp [this]
  · refine Ev.neg (by omega) (Ev.val ?_)
    rw [eq_comm, Option.some.injEq, decide_eq_false_iff_not]
    rintro rfl
    exact h rfl

theorem rule2 {R : Nat} {xs : List Int} (hR : R ≤ 2) (hl : xs.length = 2 ^ (2 * R + 1)) (hx : ∀ x ∈ xs, 0 ≤ x ∧ x < 2) : RuleOk 2 R xs :=
  ⟨by omega, by omega, by omega, by omega, by rw [hl, show (2 * (R : Int) + 1).toNat = 2 * R + 1 by omega, Int.natCast_pow]; rfl, fun x h => by have := hx x h; omega⟩
theorem B10Rule (l : List Int) (hb : Bytes l) (hl : l.length ≤ 140737488351232) (R : Nat) (hR : R ≤ 2) : ∃ xs, Ev (fun k => spec_B10Rule.f k l R) (2, (R : Int), xs) ∧ RuleOk 2 R xs := by
  have hN : 2 ^ (2 * R + 1) ≤ 32 := by
    have : R = 0 ∨ R = 1 ∨ R = 2 := by omega
    rcases this with rfl | rfl | rfl <;> decide
  obtain ⟨xs, a, t, h, h1, h2⟩ := drawTwo l hb hl 2 R (2 ^ (2 * R + 1)) 0 0 [] (by omega) (by omega) (by simp; omega)
  refine ⟨xs, ?_, rule2 hR h1 h2⟩
  unfold spec_B10Rule.f spec_l00From.f spec_l07DrawTwo.f
  have hp := l03Power 2 (2 * (R : Int) + 1) (by omega) (by omega) (by omega) (by omega)
  rw [show (2 * (R : Int) + 1).toNat = 2 * R + 1 by omega, show (2 : Int) ^ (2 * R + 1) = ((2 ^ (2 * R + 1) : Nat) : Int) by rw [Int.natCast_pow]; rfl] at hp
  refine Ev.bnd rfl ?_
  rw [wrap_id (x := 2 * (R : Int)) (by omega) (by omega), wrap_id (x := 2 * (R : Int) + 1) (by omega) (by omega)]
  exact Ev.bind (Ev.bind hp h) (Ev.now _)
/-- A table that tells nothing but what a rule's own tells. -/
def Own (t T : List Int) : Prop := T.length = t.length ∧ ∀ j : Int, 0 ≤ j → j < t.length → rd T j = -1 ∨ rd T j = rd t j
theorem rd_set (T : List Int) (i : Nat) (v : Int) (j : Int) (h0 : 0 ≤ j) (h1 : j < T.length) : rd (T.set i v) j = if j = i then v else rd T j := by
  obtain ⟨m, rfl⟩ := Int.eq_ofNat_of_zero_le h0
  have hm : m < T.length := by omega
  rw [rd_lt (T.set i v) m (by rw [List.length_set]; exact hm), rd_lt T m hm, List.getElem_set]
  by_cases c : i = m
  · rw [if_pos c, if_pos (by omega)]
  · rw [if_neg c, if_neg (by omega)]
theorem lcells_own {r : Int} {t a : List Int} (hr : RuleOk 2 r t) (ha : RingOk 2 a) : ∀ (d i : Nat) (T : List Int), i + d = a.length → Own t T →
    ∃ T', lcells 2 r a (ringStep 2 r t a) d i T = some T' ∧ Own t T' ∧ (∀ j : Int, 0 ≤ j → j < t.length → rd T j = rd t j → rd T' j = rd t j) ∧ ∀ i' : Nat, i ≤ i' → i' < a.length → rd T' (tl 2 a ((i' : Int) - r) (2 * r + 1).toNat) = rd t (tl 2 a ((i' : Int) - r) (2 * r + 1).toNat) := by
  intro d
  induction d with
  | zero => intro i T hi hT; exact ⟨T, rfl, hT, fun _ _ _ h => h, fun i' h1 h2 => by omega⟩
  | succ d ih =>
    intro i T hi hT
    have hil : i < a.length := by omega
    have htl := tl_ok 2 a ((i : Int) - r) hr.s0 hr.s1 ha (2 * r + 1).toNat
    have hb : rd (ringStep 2 r t a) (i : Int) = rd t (tl 2 a ((i : Int) - r) (2 * r + 1).toNat) := by
      rw [rd_lt _ i (by rw [ringStep_length]; exact hil)]
      simp [ringStep, told]
    generalize hx : tl 2 a ((i : Int) - r) (2 * r + 1).toNat = x at htl hb
    have hx1 : x < t.length := by rw [hr.n]; exact htl.2
    have ht0 := hr.all _ (rd_mem t x htl.1 hx1)
    have hxT : x < T.length := by rw [hT.1]; exact hx1
    simp only [lcells]
    rw [hx, hb]
    rw [if_neg (by
      rintro ⟨h1, h2⟩
      rcases hT.2 x htl.1 hx1 with h | h
      · omega
      · exact h2 h)]
    obtain ⟨T', h1, h2, h3, h4⟩ := ih (i + 1) (T.set x.toNat (rd t x)) (by omega) ⟨by rw [List.length_set]; exact hT.1, fun j hj0 hj1 => by
      rw [rd_set T _ _ j hj0 (by rw [hT.1]; exact hj1)]
      by_cases c : j = (x.toNat : Int)
      · rw [if_pos c]; right; rw [c, Int.toNat_of_nonneg htl.1]
      · rw [if_neg c]; exact hT.2 j hj0 hj1⟩
    refine ⟨T', h1, h2, fun j hj0 hj1 hj => h3 j hj0 hj1 ?_, fun i' hi1 hi2 => ?_⟩
    · rw [rd_set T _ _ j hj0 (by rw [hT.1]; exact hj1)]
      by_cases c : j = (x.toNat : Int)
      · rw [if_pos c, c, Int.toNat_of_nonneg htl.1]
      · rw [if_neg c]; exact hj
    · by_cases c : i' = i
      · subst c
        rw [hx]
        refine h3 x htl.1 hx1 ?_
        rw [rd_set T _ _ x htl.1 hxT, if_pos (Int.toNat_of_nonneg htl.1).symm]
      · exact h4 i' (by omega) hi2
theorem lrings_own {r : Int} {t : List Int} (hr : RuleOk 2 r t) : ∀ (B : List (List Int)) (T : List Int), (∀ a ∈ B, RingOk 2 a) → Own t T →
    ∃ T', lrings 2 r B (B.map (ringStep 2 r t)) T = some T' ∧ Own t T' ∧ (∀ j : Int, 0 ≤ j → j < t.length → rd T j = rd t j → rd T' j = rd t j) ∧ ∀ a ∈ B, ∀ i' : Nat, i' < a.length → rd T' (tl 2 a ((i' : Int) - r) (2 * r + 1).toNat) = rd t (tl 2 a ((i' : Int) - r) (2 * r + 1).toNat)
  | [], T, _, hT => ⟨T, rfl, hT, fun _ _ _ h => h, fun a h => by cases h⟩
  | a :: B, T, hB, hT => by
    have ha := hB a List.mem_cons_self
    obtain ⟨T1, h1, h2, h3, h4⟩ := lcells_own hr ha a.length 0 T (by omega) hT
    obtain ⟨T2, g1, g2, g3, g4⟩ := lrings_own hr B T1 (fun x hx => hB x (List.mem_cons_of_mem _ hx)) h2
    refine ⟨T2, ?_, g2, fun j hj0 hj1 hj => g3 j hj0 hj1 (h3 j hj0 hj1 hj), fun x hx i' hi' => ?_⟩
    · simp only [List.map_cons, lrings]
      rw [h1]
      exact g1
    · rcases List.mem_cons.1 hx with rfl | hx
      · have htl := tl_ok 2 x ((i' : Int) - r) hr.s0 hr.s1 ha (2 * r + 1).toNat
        exact g3 _ htl.1 (by rw [hr.n]; exact htl.2) (h4 i' (by omega) hi')
      · exact g4 x hx i' hi'
theorem RuleOk.valid {s r : Int} {t : List Int} (h : RuleOk s r t) : validRule s r t = true := by
  unfold validRule
  simp only [Bool.and_eq_true, decide_eq_true_eq]
  exact ⟨⟨⟨⟨h.s0, h.s1⟩, h.r0, h.r1⟩, h.n⟩, allIn_iff.2 h.all⟩
theorem stepRingSpec {s r : Int} {t a : List Int} (hr : RuleOk s r t) (ha : RingOk s a) (h64 : a.length ≤ 64) : Ev (fun k => spec_StepRing.f k s r t a) (ringStep s r t a, true) := by
  have h0 := hr.s0; have h1 := hr.s1; have hp := ha.pos
  have hpw := pow_small h0 h1 hr.r0 hr.r1
  have hn := hr.n
  unfold spec_StepRing.f
  refine Ev.bind (a := true) ?_ (Ev.pos rfl (Ev.bind (stepSpec hr ha) (Ev.now _)))
  unfold spec_l02Can.f
  refine Ev.bind (l02Is s r t (by omega)) (Ev.pos hr.valid (Ev.cast (Ev.ret (l02Ring a s (by omega) (by omega) (by omega))) ?_))
  rw [Bool.and_eq_true, decide_eq_true_eq]
  exact ⟨allIn_iff.2 ha.all, by omega⟩
theorem rd_filled (T : List Int) (st : Int) (j : Int) (h0 : 0 ≤ j) (h1 : j < T.length) : rd (filled T st) j = if rd T j = -1 then st else rd T j := by
  obtain ⟨m, rfl⟩ := Int.eq_ofNat_of_zero_le h0
  have hm : m < T.length := by omega
  rw [rd_lt _ m (by rw [filled_length]; exact hm), rd_lt T m hm]
  simp [filled]
/-- The rings from a ring on. -/
def ringRows (r : Int) (t a : List Int) (m : Nat) : List (List Int) := (List.range m).map (ringSteps 2 r t a)
theorem ringRows_succ (r : Int) (t a : List Int) (m : Nat) : ringRows r t a (m + 1) = ringRows r t a m ++ [ringSteps 2 r t a m] := by simp [ringRows, List.range_succ]
theorem ringRows_length (r : Int) (t a : List Int) (m : Nat) : (ringRows r t a m).length = m := by simp [ringRows]
theorem ringRows_mem {r : Int} {t a : List Int} (hr : RuleOk 2 r t) (ha : RingOk 2 a) (m : Nat) : ∀ x ∈ ringRows r t a m, RingOk 2 x ∧ x.length = a.length := by
  intro x hx
  simp only [ringRows, List.mem_map] at hx
  obtain ⟨j, _, rfl⟩ := hx
  exact ⟨ringSteps_ok hr ha j, ringSteps_length 2 r t a j⟩
theorem pairs_ok {r : Int} {t : List Int} (hr : RuleOk 2 r t) : ∀ (B : List (List Int)), (∀ x ∈ B, RingOk 2 x ∧ 5 ≤ x.length ∧ x.length ≤ 64) → pairsB 2 r B (B.map (ringStep 2 r t)) = true
  | [], _ => rfl
  | a :: B, h => by
    have ha := h a List.mem_cons_self
    have hb := ringStep_ok hr ha.1
    have hl := ringStep_length 2 r t a
    have h1 := hr.r1
    simp only [List.map_cons, pairsB, pairB, ringB, Bool.and_eq_true, decide_eq_true_eq]
    exact ⟨⟨⟨allIn_iff.2 ha.1.all, by omega⟩, ⟨allIn_iff.2 hb.all, by omega⟩, hl, by omega⟩, pairs_ok hr B (fun x hx => h x (List.mem_cons_of_mem _ hx))⟩
theorem leastFrom_some (s : Int) (B C : List (List Int)) (r : Int) (h : (learnV s r B C).isSome = true) : ∀ (d : Nat) (q : Int), q ≤ r → r < q + d → ∃ p, leastFrom s B C d q = (p, true) ∧ p ≤ r
  | 0, q, h0, h1 => by omega
  | d + 1, q, h0, h1 => by
    simp only [leastFrom]
    by_cases c : (learnV s q B C).isSome = true
    · rw [if_pos c]; exact ⟨q, rfl, h0⟩
    · rw [if_neg c]
      by_cases e : q = r
      · subst e; exact absurd h c
      · exact leastFrom_some s B C r h d (q + 1) (by omega) (by omega)
theorem FnLearned : laws_FnLearned.Pure := by
  intro la lb _ ha hwa _ hb hwb
  have hA := Bytes.of hwa
  have hB := Bytes.of hwb
  refine Ev.rounds ?_
  unfold laws_FnLearned.f
  refine Ev.bnd (b10Long la lb) ?_
  by_cases g : (decide ((1048576 : Int) < la.length) || decide ((1048576 : Int) < lb.length)) = true
  · exact Ev.pos g (Ev.now _)
  · refine Ev.neg g ?_
    obtain ⟨r, er, hr0, hr1⟩ := b10At lb hB 0 3 (by omega) (by omega) (by omega) (by omega)
    obtain ⟨x, ex, hx0, hx1⟩ := b10At lb hB 1 8 (by omega) (by omega) (by omega) (by omega)
    obtain ⟨y, ey, hy0, hy1⟩ := b10At lb hB 2 4 (by omega) (by omega) (by omega) (by omega)
    obtain ⟨z, ez, hz0, hz1⟩ := b10At lb hB 3 2 (by omega) (by omega) (by omega) (by omega)
    obtain ⟨R, rfl⟩ := Int.eq_ofNat_of_zero_le hr0
    obtain ⟨X, rfl⟩ := Int.eq_ofNat_of_zero_le hx0
    obtain ⟨Y, rfl⟩ := Int.eq_ofNat_of_zero_le hy0
    obtain ⟨t, ht, hr⟩ := B10Rule la hA (by omega) R (by omega)
    obtain ⟨a, hra, hal, hax⟩ := B10Ring lb hB (by omega) 2 (by omega) (by omega) (5 + X) (by omega)
    have haR : RingOk 2 a := ⟨by omega, by omega, fun v hv => by have := hax v hv; omega⟩
    have hpw := pow_small hr.s0 hr.s1 hr.r0 hr.r1
    have htl := hr.n
    refine Ev.bnd er (Ev.bind ht (Ev.bnd ex ?_))
    rw [wrap_id (x := 5 + (X : Int)) (by omega) (by omega), show 5 + (X : Int) = ((5 + X : Nat) : Int) by omega]
    refine Ev.bind hra ?_
    refine Ev.upto (Y + 1) (fun _ => True) (fun i => (ringRows R t a i, (ringRows R t a i).map (ringStep 2 R t), ringSteps 2 R t a i)) true (fun k s i => laws_FnLearned.l0 k lb R s.1 s.2.1 s.2.2 i 2 R t) (fun i hi _ ih => ?_) (fun _ => ?_) trivial
    · refine Ev.succ ?_
      simp only [laws_FnLearned.l0]
      rw [ey]
      have hi_ := ringSteps_ok hr haR i
      have hil := ringSteps_length 2 R t a i
      refine Ev.bnd rfl ?_
      rw [wrap_id (x := 1 + (Y : Int)) (by omega) (by omega), wrap_id (x := (i : Int) + 1) (by omega) (by omega)]
      refine Ev.pos (by omega) (Ev.bind (stepRingSpec hr hi_ (by omega)) (Ev.pos rfl (Ev.pos (by rw [ringRows_length]; omega) (Ev.pos (by rw [List.length_map, ringRows_length]; omega) ?_))))
      have := ih trivial
      rw [ringRows_succ, List.map_append] at this
      exact this
    · refine Ev.succ ?_
      simp only [laws_FnLearned.l0]
      rw [ey]
      refine Ev.bnd rfl ?_
      rw [wrap_id (x := 1 + (Y : Int)) (by omega) (by omega)]
      have hm := ringRows_mem hr haR (Y + 1)
      have hlen := ringRows_length R t a (Y + 1)
      generalize hBe : ringRows R t a (Y + 1) = B at hm hlen
      generalize hCe : B.map (ringStep 2 R t) = C
      have hCl : C.length = B.length := by rw [← hCe, List.length_map]
      have hCm : ∀ v ∈ C, v.length = a.length := fun v hv => by
        rw [← hCe] at hv
        obtain ⟨w, hw, rfl⟩ := List.mem_map.1 hv
        rw [ringStep_length]; exact (hm w hw).2
      have sB : SmallLL B := fun v hv => by have := (hm v hv).2; omega
      have sC : SmallLL C := fun v hv => by have := hCm v hv; omega
      obtain ⟨T, hT1, hT2, _, hT4⟩ := lrings_own hr B (zeroT 2 R) (fun v hv => (hm v hv).1) ⟨by unfold zeroT; rw [List.length_replicate]; omega, fun j hj0 hj1 => by
        obtain ⟨m, rfl⟩ := Int.eq_ofNat_of_zero_le hj0
        left
        rw [rd_lt _ m (by unfold zeroT; rw [List.length_replicate]; omega)]
        simp [zeroT]⟩
      rw [hCe] at hT1
      have hh : headB 2 R B C = true ∧ pairsB 2 R B C = true := by
        refine ⟨?_, ?_⟩
        · unfold headB
          simp only [Bool.and_eq_true, decide_eq_true_eq]
          omega
        · rw [← hCe]; exact pairs_ok hr B (fun v hv => ⟨(hm v hv).1, by have := (hm v hv).2; omega, by have := (hm v hv).2; omega⟩)
      have hL : learnV 2 R B C = some T := by unfold learnV; rw [if_pos hh]; exact hT1
      have hli := learnTableImpl 2 R B C sB sC
      rw [hL] at hli
      obtain ⟨p, hp1, hp2⟩ := leastFrom_some 2 B C R (by rw [hL]; rfl) 3 0 (by omega) (by omega)
      have hlr := leastImpl 2 B C sB sC
      have hls := leastSpec 2 B C sB sC
      rw [hp1] at hlr hls
      have hTl : T.length = t.length := hT2.1
      refine Ev.neg (by omega) (Ev.bind hli (Ev.bind hlr (Ev.bind hls (Ev.pos rfl (Ev.pos rfl (Ev.pos rfl (Ev.pos rfl (Ev.neg (by show ¬ p > (R : Int); omega) (Ev.succ ?_)))))))))
      simp only [laws_FnLearned.j1, resL]
      refine Ev.neg (by simp [hTl]) ?_
      refine Ev.upto T.length (fun _ => True) (fun _ => ()) true (fun k _ i => laws_FnLearned.l1 k lb R B C T T.length i 2 R t) (fun i hi _ ih => ?_) (fun _ => ?_) trivial
      · refine Ev.succ ?_
        simp only [laws_FnLearned.l1]
        rw [wrap_id (x := (i : Int) + 1) (by omega) (by omega)]
        refine Ev.pos (by omega) (Ev.pos (by omega) (Ev.pos (by omega) ?_))
        by_cases c : rd T (i : Int) = -1
        · exact Ev.pos c (ih trivial)
        · refine Ev.neg c (Ev.pos (by omega) (Ev.pos ?_ (ih trivial)))
          rcases hT2.2 (i : Int) (by omega) (by omega) with h | h
          · exact absurd h c
          · exact h
      · refine Ev.succ ?_
        simp only [laws_FnLearned.l1]
        have hF : RuleOk 2 R (filled T z) := ⟨hr.s0, hr.s1, hr.r0, hr.r1, by rw [filled_length, hTl]; exact hr.n, fun v hv => by
          obtain ⟨j, hj, rfl⟩ := List.getElem_of_mem hv
          have e := rd_filled T z (j : Int) (by omega) (by rw [filled_length] at hj; omega)
          rw [rd_lt _ j hj] at e
          rw [e]
          split
          · omega
          · rename_i c
            rcases hT2.2 (j : Int) (by omega) (by rw [filled_length] at hj; omega) with h | h
            · exact absurd h c
            · rw [h]; exact hr.all _ (rd_mem t (j : Int) (by omega) (by rw [filled_length] at hj; omega))⟩
        have hf := fillImpl 2 R T z (by omega)
        have hfe : fillTable 2 R T z = (2, (R : Int), filled T z, true) := by
          unfold fillTable
          rw [if_pos]
          simp only [Bool.and_eq_true, decide_eq_true_eq]
          exact ⟨⟨⟨by omega, by omega⟩, by omega⟩, hF.valid⟩
        rw [hfe] at hf
        refine Ev.neg (by omega) (Ev.bnd ez (Ev.bind hf (Ev.pos rfl (Ev.pos rfl (Ev.succ ?_)))))
        simp only [laws_FnLearned.j3]
        refine Ev.neg (by simp [filled_length]) ?_
        refine Ev.upto B.length (fun _ => True) (fun _ => ()) true (fun k _ i => laws_FnLearned.l2 k B C B.length i 2 R (filled T z)) (fun i hi _ ih => ?_) (fun _ => ?_) trivial
        · refine Ev.succ ?_
          simp only [laws_FnLearned.l2]
          have hb := hm B[i] (List.getElem_mem hi)
          have hst : ringStep 2 R (filled T z) B[i] = ringStep 2 R t B[i] := by
            unfold ringStep
            refine List.map_congr_left fun j hj => ?_
            unfold told
            have hj' : j < B[i].length := List.mem_range.1 hj
            have htl' := tl_ok 2 B[i] ((j : Int) - R) hr.s0 hr.s1 hb.1 (2 * (R : Int) + 1).toNat
            have h4 := hT4 B[i] (List.getElem_mem hi) j hj'
            have h5 := hr.all _ (rd_mem t _ htl'.1 (by rw [hr.n]; exact htl'.2))
            have hn := hr.n
            rw [rd_filled T z _ htl'.1 (by omega), if_neg (by omega), h4]
          have hci : rd_L1 C (i : Int) = ringStep 2 R t B[i] := by
            rw [rdLL C i (by omega)]
            simp only [← hCe, List.getElem_map]
          rw [wrap_id (x := (i : Int) + 1) (by omega) (by omega), rdLL B i hi, hci]
          have hs := stepRingSpec hF hb.1 (by omega)
          rw [hst] at hs
          exact Ev.pos (by omega) (Ev.pos (by omega) (Ev.pos (by omega) (Ev.bind hs (Ev.pos rfl (Ev.pos (by omega) (Ev.bind (b10Ints _ _ (by rw [ringStep_length]; omega)) (Ev.pos (by simp) (ih trivial))))))))
        · refine Ev.succ ?_
          simp only [laws_FnLearned.l2]
          exact Ev.neg (by omega) (Ev.now _)

end Go.Proofs.Ytacjknmphgpjaaa.Pure

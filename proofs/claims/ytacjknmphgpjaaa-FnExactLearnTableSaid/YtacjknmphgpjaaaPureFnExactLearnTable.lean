/- LearnTable of the program and of the reference answer the same for all arguments. -/
import Derived.Test.YtacjknmphgpjaaaPFnExactLearnTablex0
import Derived.Test.YtacjknmphgpjaaaPFnExactLearnTablex1
import Derived.Test.YtacjknmphgpjaaaPFnExactLearnTablex2
import Derived.Test.YtacjknmphgpjaaaPFnExactLearnTablex3
import Derived.Test.YtacjknmphgpjaaaLib
namespace Go.Proofs.Ytacjknmphgpjaaa.Pure
open Go.RowKit Go.Proofs.Ytacjknmphgpjaaa.PFnExactLearnTable Go.Proofs.YtacjknmphgpjaaaW.PrintWords Go.Proofs.YtacjknmphgpjaaaW.PrintLast Go.Proofs.Ytacjknmphgpjaaa.L
set_option linter.unusedVariables false
set_option linter.unusedSimpArgs false

theorem toInt64S (l : List Int) (hl : l.length ≤ 35184372088832) : Ev (fun k => laws_toInt64S.f k l) l := by
  unfold laws_toInt64S.f
  refine Ev.pos (by omega) (Ev.pos (by omega) ?_)
  refine Ev.cast (Ev.upto l.length (fun _ => True) (fun i => l.take i ++ List.replicate (l.length - i) 0) l (fun k s i => laws_toInt64S.l0 k l s i) (fun i hi _ ih => ?_) (fun _ => ?_) trivial) rfl
  · refine Ev.succ ?_
    simp only [laws_toInt64S.l0]
    refine Ev.pos (by omega) (Ev.pos (by omega) (Ev.pos (by simp; omega) ?_))
    rw [wrap_id (by omega) (by omega), Int.toNat_natCast, rd_lt l i hi, take_set_rep l i hi]
    exact ih trivial
  · refine Ev.succ ?_
    simp only [laws_toInt64S.l0]
    exact Ev.neg (by omega) (Ev.val (by simp))

theorem eqInt64S (l m : List Int) (hl : l.length ≤ 35184372088832) : Ev (fun k => laws_eqInt64S.f k l m) (decide (l = m)) := by
  unfold laws_eqInt64S.f
  by_cases h : l.length = m.length
  · refine Ev.pos (by omega) ?_
    refine Ev.upto l.length (fun i => ∀ j, j < i → l[j]? = m[j]?) (fun _ => ()) _ (fun k _ i => laws_eqInt64S.l0 k l m i) (fun i hi hp ih => ?_) (fun hp => ?_) (fun j hj => by omega)
    · refine Ev.succ ?_
      simp only [laws_eqInt64S.l0]
      refine Ev.pos (by omega) (Ev.pos (by omega) (Ev.pos (by omega) ?_))
      rw [rd_lt l i (by omega), rd_lt m i (by omega)]
      by_cases e : l[i] = m[i]
      · refine Ev.pos e ?_
        rw [wrap_id (by omega) (by omega)]
        exact ih (fun j hj' => by
          by_cases hji : j < i
          · exact hp j hji
          · obtain rfl : j = i := by omega
            rw [List.getElem?_eq_getElem (by omega), List.getElem?_eq_getElem (by omega), e])
      · refine Ev.neg e (Ev.val ?_)
        rw [eq_comm, Option.some.injEq, decide_eq_false_iff_not]
        rintro rfl
        exact e rfl
    · refine Ev.succ ?_
      simp only [laws_eqInt64S.l0]
      refine Ev.neg (by omega) (Ev.val ?_)
      have : l = m := List.ext_getElem? (fun j => by
        by_cases hjl : j < l.length
        · exact hp j (by omega)
        · rw [List.getElem?_eq_none (by omega), List.getElem?_eq_none (by omega)])
      simp [this]
  · refine Ev.neg (by omega) (Ev.val ?_)
    rw [eq_comm, Option.some.injEq, decide_eq_false_iff_not]
    rintro rfl
    exact h rfl

theorem szInt64S (l : List Int) (a : Int) (hl : l.length ≤ 35184372088832) (h0 : -1000000000000 ≤ a) (h1 : a ≤ 1000000000000) : laws_szInt64S.f l a = some (if a - l.length < 0 then -1 else a - l.length) := by
  unfold laws_szInt64S.f
  rw [wrap_id (x := a - l.length) (by omega) (by omega)]
  split <;> rfl

/-- No row of rows is too long. -/
def SmallLL (l : List (List Int)) : Prop := ∀ x ∈ l, x.length ≤ 17592186044416
theorem rdLL (l : List (List Int)) (i : Nat) (h : i < l.length) : rd_L1 l (i : Int) = l[i] := by
  unfold rd_L1; rw [Int.toNat_natCast, List.getD_eq_getElem?_getD, List.getElem?_eq_getElem h]; rfl
theorem toInt64SS (l : List (List Int)) (hl : l.length ≤ 11728124029610) (hs : SmallLL l) : Ev (fun k => laws_toInt64SS.f k l) l := by
  unfold laws_toInt64SS.f
  rw [Int.toNat_natCast]
  refine Ev.pos (by omega) (Ev.pos (by omega) ?_)
  refine Ev.congr (fun k => ?_) (Ev.upto l.length (fun _ => True) (fun i => l.take i ++ (List.replicate l.length ([] : List Int)).drop i) l (fun k s i => laws_toInt64SS.l0 k l s i) (fun i hi _ ih => ?_) (fun _ => ?_) trivial)
  · simp
  · refine Ev.succ ?_
    simp only [laws_toInt64SS.l0]
    have hx := hs l[i] (List.getElem_mem hi)
    have h1 := take_drop_set l (List.replicate l.length ([] : List Int)) i hi (by simp)
    have ih' := ih trivial
    rw [← h1] at ih'
    rw [rdLL l i hi, wrap_id (x := (i : Int) + 1) (by omega) (by omega), Int.toNat_natCast]
    exact Ev.pos (by omega) (Ev.pos (by omega) (Ev.bind (toInt64S _ (by omega)) (Ev.pos (by simp; omega) ih')))
  · refine Ev.succ ?_
    simp only [laws_toInt64SS.l0]
    rw [List.drop_of_length_le (by simp), List.append_nil, List.take_of_length_le (by simp)]
    exact Ev.neg (by omega) (Ev.now _)
theorem eqInt64SS (l : List (List Int)) (hl : l.length ≤ 11728124029610) (hs : SmallLL l) : Ev (fun k => laws_eqInt64SS.f k l l) true := by
  unfold laws_eqInt64SS.f
  refine Ev.pos rfl ?_
  refine Ev.upto l.length (fun _ => True) (fun _ => ()) true (fun k _ i => laws_eqInt64SS.l0 k l l i) (fun i hi _ ih => ?_) (fun _ => ?_) trivial
  · refine Ev.succ ?_
    simp only [laws_eqInt64SS.l0]
    have hx := hs l[i] (List.getElem_mem hi)
    have ih' := ih trivial
    rw [rdLL l i hi, wrap_id (x := (i : Int) + 1) (by omega) (by omega)]
    exact Ev.pos (by omega) (Ev.pos (by omega) (Ev.pos (by omega) (Ev.bind (eqInt64S _ _ (by omega)) (Ev.pos (by simp) ih'))))
  · refine Ev.succ ?_
    simp only [laws_eqInt64SS.l0]
    exact Ev.neg (by omega) (Ev.now _)
theorem szInt64SS (l : List (List Int)) (a : Int) (h0 : 0 ≤ a) (h1 : a ≤ 1048576) (hl : l.length ≤ 11728124029610) (hs : SmallLL l) : ∃ n, Ev (fun k => laws_szInt64SS.f k l a) n ∧ (¬ n < 0 → n ≤ 1048576) := by
  unfold laws_szInt64SS.f
  rw [wrap_id (x := a - (l.length : Int)) (by omega) (by omega)]
  by_cases c : a - (l.length : Int) < 0
  · exact ⟨-1, Ev.pos c (Ev.now _), fun h => absurd (by omega) h⟩
  · have main : ∀ d i : Nat, i + d = l.length → ∀ b : Int, 0 ≤ b → b ≤ 1048576 → ∃ n, Ev (fun k => laws_szInt64SS.l0 k l b (i : Int)) n ∧ (¬ n < 0 → n ≤ 1048576) := by
      intro d
      induction d with
      | zero =>
        intro i hi b hb0 hb1
        refine ⟨b, Ev.succ ?_, fun _ => hb1⟩
        simp only [laws_szInt64SS.l0]
        exact Ev.neg (by omega) (Ev.now _)
      | succ d ih =>
        intro i hi b hb0 hb1
        have hil : i < l.length := by omega
        have hx := hs l[i] (List.getElem_mem hil)
        have hz := szInt64S l[i] b (by omega) (by omega) (by omega)
        by_cases g : b - (l[i].length : Int) < 0
        · rw [if_pos g] at hz
          refine ⟨-1, Ev.succ ?_, fun h => absurd (by omega) h⟩
          simp only [laws_szInt64SS.l0]
          rw [rdLL l i hil]
          exact Ev.pos (by omega) (Ev.pos (by omega) (Ev.bnd hz (Ev.pos (by omega) (Ev.now _))))
        · rw [if_neg g] at hz
          obtain ⟨m, hm1, hm2⟩ := ih (i + 1) (by omega) _ (show 0 ≤ b - (l[i].length : Int) by omega) (by omega)
          refine ⟨m, Ev.succ ?_, hm2⟩
          simp only [laws_szInt64SS.l0]
          rw [rdLL l i hil, wrap_id (x := (i : Int) + 1) (by omega) (by omega)]
          exact Ev.pos (by omega) (Ev.pos (by omega) (Ev.bnd hz (Ev.neg (by omega) hm1)))
    obtain ⟨n, hn1, hn2⟩ := main l.length 0 (by omega) (a - l.length) (by omega) (by omega)
    exact ⟨n, Ev.neg c hn1, hn2⟩

theorem markInt64S (l : List Int) (a : Int) (hl : l.length ≤ 35184372088832) (h0 : -1 ≤ a) (h1 : a ≤ 1000000000000) : Ev (fun k => laws_markInt64S.f k l a) (a + l.length, marks a l.length) := by
  unfold laws_markInt64S.f
  refine Ev.congr (fun k => ?_) (Ev.upto l.length (fun _ => True) (fun i => (marks a i ++ l.drop i, a + (i : Int))) (a + l.length, marks a l.length) (fun k s i => laws_markInt64S.l0 k s.1 s.2 i) (fun i hi _ ih => ?_) (fun _ => ?_) trivial)
  · simp [marks]
  · refine Ev.succ ?_
    simp only [laws_markInt64S.l0]
    refine Ev.pos (by rw [List.length_append, marks_length, List.length_drop]; omega) (Ev.pos (by omega) ?_)
    rw [wrap_id (x := (i : Int) + 1) (by omega) (by omega), wrap_id (x := a + (i : Int) + 1) (by omega) (by omega), Int.toNat_natCast, marks_step a l i hi]
    have := ih trivial
    rw [show a + ((i + 1 : Nat) : Int) = a + (i : Int) + 1 by omega] at this
    exact this
  · refine Ev.succ ?_
    simp only [laws_markInt64S.l0]
    have e : marks a l.length ++ l.drop l.length = marks a l.length := by rw [List.drop_length, List.append_nil]
    rw [e]
    exact Ev.neg (by rw [marks_length]; omega) (Ev.now _)

/-- How many numbers the rows have. -/
def totalLL (l : List (List Int)) : Int := (l.map fun x => (x.length : Int)).sum
theorem totalLL_nonneg (l : List (List Int)) : 0 ≤ totalLL l := by
  induction l with
  | nil => simp [totalLL]
  | cons a l ih => simp only [totalLL, List.map_cons, List.sum_cons] at ih ⊢; omega
theorem totalLL_cons (a : List Int) (l : List (List Int)) : totalLL (a :: l) = a.length + totalLL l := by simp [totalLL]
theorem szTotal (l : List (List Int)) (a : Int) (h0 : 0 ≤ a) (h1 : a ≤ 1048576) (hl : l.length ≤ 11728124029610) (hs : SmallLL l) : ∃ n, Ev (fun k => laws_szInt64SS.f k l a) n ∧ (¬ n < 0 → n ≤ 1048576 ∧ totalLL l ≤ a - n) := by
  unfold laws_szInt64SS.f
  rw [wrap_id (x := a - (l.length : Int)) (by omega) (by omega)]
  by_cases c : a - (l.length : Int) < 0
  · exact ⟨-1, Ev.pos c (Ev.now _), fun h => absurd (by omega) h⟩
  · have main : ∀ d i : Nat, i + d = l.length → ∀ b : Int, 0 ≤ b → b ≤ 1048576 → ∃ n, Ev (fun k => laws_szInt64SS.l0 k l b (i : Int)) n ∧ (¬ n < 0 → n ≤ 1048576 ∧ totalLL (l.drop i) ≤ b - n) := by
      intro d
      induction d with
      | zero =>
        intro i hi b hb0 hb1
        refine ⟨b, Ev.succ ?_, fun _ => ⟨hb1, ?_⟩⟩
        · simp only [laws_szInt64SS.l0]
          exact Ev.neg (by omega) (Ev.now _)
        · rw [List.drop_of_length_le (by omega)]; simp [totalLL]
      | succ d ih =>
        intro i hi b hb0 hb1
        have hil : i < l.length := by omega
        have hx := hs l[i] (List.getElem_mem hil)
        have hz := szInt64S l[i] b (by omega) (by omega) (by omega)
        by_cases g : b - (l[i].length : Int) < 0
        · rw [if_pos g] at hz
          refine ⟨-1, Ev.succ ?_, fun h => absurd (by omega) h⟩
          simp only [laws_szInt64SS.l0]
          rw [rdLL l i hil]
          exact Ev.pos (by omega) (Ev.pos (by omega) (Ev.bnd hz (Ev.pos (by omega) (Ev.now _))))
        · rw [if_neg g] at hz
          obtain ⟨m, hm1, hm2⟩ := ih (i + 1) (by omega) _ (show 0 ≤ b - (l[i].length : Int) by omega) (by omega)
          refine ⟨m, Ev.succ ?_, fun hn => ⟨(hm2 hn).1, ?_⟩⟩
          · simp only [laws_szInt64SS.l0]
            rw [rdLL l i hil, wrap_id (x := (i : Int) + 1) (by omega) (by omega)]
            exact Ev.pos (by omega) (Ev.pos (by omega) (Ev.bnd hz (Ev.neg (by omega) hm1)))
          · have := (hm2 hn).2
            rw [List.drop_eq_getElem_cons hil, totalLL_cons]
            omega
    obtain ⟨n, hn1, hn2⟩ := main l.length 0 (by omega) (a - l.length) (by omega) (by omega)
    refine ⟨n, Ev.neg c hn1, fun hn => ⟨(hn2 hn).1, ?_⟩⟩
    have := (hn2 hn).2
    rw [List.drop_zero] at this
    omega
theorem markInt64SS (l : List (List Int)) (a : Int) (h0 : -1 ≤ a) (h1 : a + totalLL l ≤ 1000000000000) (hl : l.length ≤ 11728124029610) : ∃ l', Ev (fun k => laws_markInt64SS.f k l a) (a + totalLL l, l') := by
  unfold laws_markInt64SS.f
  have main : ∀ d i : Nat, ∀ (x : List (List Int)) (b : Int), x.length = l.length → i + d = x.length → -1 ≤ b → b + totalLL (x.drop i) ≤ 1000000000000 → ∃ l', Ev (fun k => laws_markInt64SS.l0 k x b (i : Int)) (b + totalLL (x.drop i), l') := by
    intro d
    induction d with
    | zero =>
      intro i x b hx hi hb hb1
      refine ⟨x, Ev.succ ?_⟩
      simp only [laws_markInt64SS.l0]
      rw [List.drop_of_length_le (by omega)]
      refine Ev.neg (by omega) (Ev.val ?_)
      simp [totalLL]
    | succ d ih =>
      intro i x b hx hi hb hb1
      have hil : i < x.length := by omega
      have e : x.drop i = x[i] :: x.drop (i + 1) := List.drop_eq_getElem_cons hil
      rw [e, totalLL_cons] at hb1
      have ht := totalLL_nonneg (x.drop (i + 1))
      obtain ⟨l', hl'⟩ := ih (i + 1) (x.set i (marks b x[i].length)) (b + x[i].length) (by rw [List.length_set]; exact hx) (by rw [List.length_set]; omega) (by omega) (by rw [List.drop_set_of_lt (by omega)]; omega)
      rw [List.drop_set_of_lt (by omega)] at hl'
      refine ⟨l', Ev.succ ?_⟩
      simp only [laws_markInt64SS.l0]
      rw [rdLL x i hil, wrap_id (x := (i : Int) + 1) (by omega) (by omega), e, totalLL_cons, Int.toNat_natCast]
      refine Ev.pos (by omega) (Ev.pos (by omega) (Ev.bind (markInt64S x[i] b (by omega) (by omega) (by omega)) ?_))
      rw [show b + ((x[i].length : Int) + totalLL (x.drop (i + 1))) = b + x[i].length + totalLL (x.drop (i + 1)) by omega]
      exact hl'
  obtain ⟨l', h⟩ := main l.length 0 l a rfl (by omega) h0 (by rw [List.drop_zero]; exact h1)
  rw [List.drop_zero] at h
  exact ⟨l', h⟩

theorem heldInt64S (n : Nat) (a : Int) (hl : n ≤ 35184372088832) (h0 : -1 ≤ a) (h1 : a ≤ 1000000000000) : Ev (fun k => laws_heldInt64S.f k (marks a n) a) (a + n) := by
  unfold laws_heldInt64S.f
  refine Ev.congr (fun k => ?_) (Ev.upto n (fun _ => True) (fun i => a + (i : Int)) (a + n) (fun k s i => laws_heldInt64S.l0 k (marks a n) s i) (fun i hi _ ih => ?_) (fun _ => ?_) trivial)
  · simp
  · refine Ev.succ ?_
    simp only [laws_heldInt64S.l0]
    refine Ev.pos (by rw [marks_length]; omega) (Ev.pos (by omega) (Ev.pos ?_ ?_))
    · rw [rd_lt _ i (by rw [marks_length]; exact hi), marks_get a n i hi]
    · rw [wrap_id (x := (i : Int) + 1) (by omega) (by omega), wrap_id (x := a + (i : Int) + 1) (by omega) (by omega)]
      have := ih trivial
      rw [show a + ((i + 1 : Nat) : Int) = a + (i : Int) + 1 by omega] at this
      exact this
  · refine Ev.succ ?_
    simp only [laws_heldInt64S.l0]
    exact Ev.neg (by rw [marks_length]; omega) (Ev.val rfl)

/-- A loop that asks one thing of each. -/
theorem Ev.all (n : Nat) (p : Nat → Bool) (g : Nat → Int → Option Bool)
    (step : ∀ i : Nat, i < n → ∀ r : Bool, Ev (fun k => g k ((i : Int) + 1)) r → Ev (fun k => g k (i : Int)) (p i && r))
    (last : Ev (fun k => g k (n : Int)) true) : Ev (fun k => g k 0) ((List.range n).all p) := by
  have main : ∀ d i : Nat, i + d = n → Ev (fun k => g k (i : Int)) ((List.range' i d).all p) := by
    intro d
    induction d with
    | zero =>
      intro i hi
      obtain rfl : i = n := by omega
      exact last
    | succ d ih =>
      intro i hi
      have h := step i (by omega) _ (ih (i + 1) (by omega))
      rw [List.range'_succ, List.all_cons]
      exact h
  have := main n 0 (by omega)
  rw [List.range_eq_range']
  exact this

/-- The place on a ring, from 0 on. -/
def fm (x : Int) (n : Int) : Int := Int.tmod (wrap64 ((Int.tmod x n) + n)) n
theorem fm_ok (x n : Int) (h0 : 0 < n) (hn : n ≤ 1000000000000) : 0 ≤ fm x n ∧ fm x n < n := by
  unfold fm
  have h1 := Int.tmod_lt_of_pos x h0
  have h2 : -n < Int.tmod x n := by
    have := Int.tmod_lt_of_pos (-x) h0
    rw [Int.neg_tmod] at this
    omega
  rw [wrap_id (x := Int.tmod x n + n) (by omega) (by omega)]
  exact ⟨Int.tmod_nonneg _ (by omega), Int.tmod_lt_of_pos _ h0⟩

/-- The number that cells of a ring from a place on tell. -/
def tl (s : Int) (ring : List Int) (lo : Int) : Nat → Int
  | 0 => 0
  | j + 1 => tl s ring lo j * s + rd ring (fm (lo + (j : Int)) ring.length)
/-- A rule that is valid, as facts. -/
structure RuleOk (s r : Int) (t : List Int) : Prop where
  s0 : 2 ≤ s
  s1 : s ≤ 3
  r0 : 0 ≤ r
  r1 : r ≤ 2
  n : (t.length : Int) = s ^ (2 * r + 1).toNat
  all : ∀ x ∈ t, 0 ≤ x ∧ x ≤ s - 1
theorem RuleOk.of {s r : Int} {t : List Int} (h : validRule s r t = true) : RuleOk s r t := by
  unfold validRule at h
  simp only [Bool.and_eq_true, decide_eq_true_eq] at h
  exact ⟨h.1.1.1.1, h.1.1.1.2, h.1.1.2.1, h.1.1.2.2, h.1.2, allIn_iff.1 h.2⟩
/-- A ring of states. -/
structure RingOk (s : Int) (ring : List Int) : Prop where
  pos : 0 < ring.length
  le : ring.length ≤ 1000000
  all : ∀ x ∈ ring, 0 ≤ x ∧ x ≤ s - 1
theorem tl_ok (s : Int) (ring : List Int) (lo : Int) (hs0 : 2 ≤ s) (hs1 : s ≤ 3) (h : RingOk s ring) (j : Nat) : 0 ≤ tl s ring lo j ∧ tl s ring lo j < s ^ j := by
  induction j with
  | zero => simp [tl]
  | succ j ih =>
    have hf := fm_ok (lo + (j : Int)) ring.length (by have := h.pos; omega) (by have := h.le; omega)
    have hx := h.all _ (rd_mem ring _ hf.1 (by omega))
    show 0 ≤ tl s ring lo j * s + rd ring (fm (lo + (j : Int)) ring.length) ∧ tl s ring lo j * s + rd ring (fm (lo + (j : Int)) ring.length) < s ^ (j + 1)
    rw [Int.pow_succ]
    have h1 : 0 ≤ tl s ring lo j * s := Int.mul_nonneg ih.1 (by omega)
    have h2 : tl s ring lo j * s ≤ (s ^ j - 1) * s := Int.mul_le_mul_of_nonneg_right (by omega) (by omega)
    rw [Int.sub_mul, Int.one_mul] at h2
    omega
/-- What a rule tells at a place of a ring. -/
def told (s r : Int) (t ring : List Int) (i : Int) : Int := rd t (tl s ring (i - r) (2 * r + 1).toNat)
theorem told_ok {s r : Int} {t ring : List Int} (hr : RuleOk s r t) (h : RingOk s ring) (i : Int) : 0 ≤ told s r t ring i ∧ told s r t ring i ≤ s - 1 := by
  have := tl_ok s ring (i - r) hr.s0 hr.s1 h (2 * r + 1).toNat
  exact hr.all _ (rd_mem t _ this.1 (by rw [hr.n]; exact this.2))
/-- A step of a ring. -/
def ringStep (s r : Int) (t ring : List Int) : List Int := (List.range ring.length).map fun (i : Nat) => told s r t ring (i : Int)
theorem ringStep_length (s r : Int) (t ring : List Int) : (ringStep s r t ring).length = ring.length := by simp [ringStep]
theorem ringStep_ok {s r : Int} {t ring : List Int} (hr : RuleOk s r t) (h : RingOk s ring) : RingOk s (ringStep s r t ring) := by
  refine ⟨by rw [ringStep_length]; exact h.pos, by rw [ringStep_length]; exact h.le, fun x hx => ?_⟩
  simp only [ringStep, List.mem_map] at hx
  obtain ⟨i, _, rfl⟩ := hx
  exact told_ok hr h _
theorem ringStep_take (s r : Int) (t ring : List Int) (i : Nat) (h : i < ring.length) : (ringStep s r t ring).take (i + 1) = (ringStep s r t ring).take i ++ [told s r t ring (i : Int)] := by
  rw [List.take_succ_eq_append_getElem (by rw [ringStep_length]; exact h)]
  simp [ringStep]
/-- Steps of a ring. -/
def ringSteps (s r : Int) (t ring : List Int) : Nat → List Int
  | 0 => ring
  | n + 1 => ringStep s r t (ringSteps s r t ring n)
theorem ringSteps_ok {s r : Int} {t ring : List Int} (hr : RuleOk s r t) (h : RingOk s ring) (n : Nat) : RingOk s (ringSteps s r t ring n) := by
  induction n with
  | zero => exact h
  | succ n ih => exact ringStep_ok hr ih
theorem ringSteps_length (s r : Int) (t ring : List Int) (n : Nat) : (ringSteps s r t ring n).length = ring.length := by
  induction n with
  | zero => rfl
  | succ n ih => show (ringStep _ _ _ _).length = _; rw [ringStep_length, ih]

theorem within (a b c : Int) : impl_within.f a b c = some (decide (b ≤ a ∧ a ≤ c)) := by
  unfold impl_within.f
  by_cases h : a ≥ b
  · rw [if_pos h]; simp; omega
  · rw [if_neg h]; simp; omega

theorem areWithin (l : List Int) (a b : Int) (hl : l.length ≤ 35184372088832) : Ev (fun k => impl_areWithin.f k l a b) (allIn l a b) := by
  unfold impl_areWithin.f
  refine Ev.upto l.length (fun i => ∀ j, (hj : j < l.length) → j < i → a ≤ l[j] ∧ l[j] ≤ b) (fun _ => ()) _ (fun k _ i => impl_areWithin.l0 k a b l l.length i) (fun i hi hp ih => ?_) (fun hp => ?_) (fun j hj h => by omega)
  · refine Ev.succ ?_
    simp only [impl_areWithin.l0]
    refine Ev.pos (by omega) (Ev.pos (by omega) (Ev.pos (by omega) ?_))
    rw [rd_lt l i (by omega), wrap_id (by omega) (by omega), within]
    by_cases c : a ≤ l[i] ∧ l[i] ≤ b
    · exact Ev.bnd rfl (Ev.pos (by simpa using c) (ih (upTo_succ (p := fun x => a ≤ x ∧ x ≤ b) hi hp c)))
    · exact Ev.bnd rfl (Ev.neg (by simpa using c) (Ev.val (by rw [allIn_false i (by omega) c])))
  · refine Ev.succ ?_
    simp only [impl_areWithin.l0]
    exact Ev.neg (by omega) (Ev.val (by rw [allIn_true (fun j hj' => hp j hj' (by omega))]))

theorem areMany (l : List Int) (a b c d : Int) (hl : l.length ≤ 35184372088832) : Ev (fun k => impl_areMany.f k l a b c d) (decide (a ≤ l.length ∧ l.length ≤ b) && allIn l c d) := by
  unfold impl_areMany.f
  refine Ev.bnd (within _ _ _) ?_
  by_cases h : a ≤ l.length ∧ l.length ≤ b
  · refine Ev.pos (by simpa using h) (Ev.cast (Ev.bind (areWithin l c d hl) (Ev.now _)) (by simp [h]))
  · exact Ev.neg (by simpa using h) (Ev.val (by simp [h]))

theorem areStates (s : Int) : impl_areStates.f s = some (decide (s = 2 ∨ s = 3)) := by
  unfold impl_areStates.f
  by_cases h : s = 2
  · rw [if_pos h]; simp [h]
  · rw [if_neg h]
    by_cases h3 : s = 3
    · subst h3; rfl
    · simp [h, h3]

theorem isRing (l : List Int) (s : Int) (hl : l.length ≤ 35184372088832) (hs : s = 2 ∨ s = 3) : Ev (fun k => impl_IsRing.f k l s) (allIn l 0 (s - 1) && decide (1 ≤ l.length ∧ l.length ≤ 64)) := by
  unfold impl_IsRing.f
  have hsw : wrap64 (s - 1) = s - 1 := wrap_id (by omega) (by omega)
  rw [hsw]
  refine Ev.bnd (areStates s) (Ev.pos (by simpa using hs) ?_)
  exact Ev.cast (Ev.bind (areMany l 1 64 0 (s - 1) hl) (Ev.now _)) (by
    rw [Bool.and_comm]
    congr 1
    exact decide_eq_decide.mpr (by omega))

theorem l00In (a b c : Int) : spec_l00In.f a b c = some (decide (b ≤ a ∧ a ≤ c)) := by
  unfold spec_l00In.f
  by_cases h : a ≥ b
  · rw [if_pos h]; simp; omega
  · rw [if_neg h]; simp; omega

theorem l02Ring (l : List Int) (s : Int) (hl : l.length ≤ 35184372088832) (h0 : -4611686018427387904 ≤ s) (h1 : s ≤ 4611686018427387904) : Ev (fun k => spec_l02Ring.f k l s) (allIn l 0 (s - 1) && decide (1 ≤ l.length ∧ l.length ≤ 64)) := by
  unfold spec_l02Ring.f
  refine Ev.upto l.length (fun i => ∀ j, (hj : j < l.length) → j < i → 0 ≤ l[j] ∧ l[j] ≤ s - 1) (fun _ => ()) _ (fun k _ i => spec_l02Ring.l0 k l s i) (fun i hi hp ih => ?_) (fun hp => ?_) (fun j hj h => by omega)
  · refine Ev.succ ?_
    simp only [spec_l02Ring.l0]
    refine Ev.pos (by omega) (Ev.pos (by omega) ?_)
    have hsw : wrap64 (s - 1) = s - 1 := wrap_id (by omega) (by omega)
    rw [rd_lt l i (by omega), hsw, wrap_id (x := (i : Int) + 1) (by omega) (by omega), l00In]
    by_cases c : 0 ≤ l[i] ∧ l[i] ≤ s - 1
    · exact Ev.bnd rfl (Ev.pos (by simpa using c) (ih (upTo_succ (p := fun x => 0 ≤ x ∧ x ≤ s - 1) hi hp c)))
    · refine Ev.bnd rfl (Ev.neg (by simpa using c) (Ev.val ?_))
      rw [allIn_false i (by omega) c]; rfl
  · refine Ev.succ ?_
    simp only [spec_l02Ring.l0]
    refine Ev.neg (by omega) ?_
    rw [allIn_true (fun j hj' => hp j hj' (by omega)), Bool.true_and]
    by_cases c : (l.length : Int) ≥ 1
    · exact Ev.pos c (Ev.val (congrArg some (decide_eq_decide.mpr (by omega))))
    · exact Ev.neg c (Ev.val (by rw [decide_eq_false (by omega)]))

theorem l03Power (x n : Int) (h0 : 0 ≤ x) (h1 : x ≤ 10) (hn0 : 0 ≤ n) (hn : n ≤ 12) : Ev (fun k => spec_l03Power.f k x n) (x ^ n.toNat) := by
  unfold spec_l03Power.f
  obtain ⟨m, rfl⟩ := Int.eq_ofNat_of_zero_le hn0
  have main : ∀ d i : Nat, i + d = m → Ev (fun k => spec_l03Power.l0 k x (d : Int) (x ^ i)) (x ^ m) := by
    intro d
    induction d with
    | zero =>
      intro i hi
      refine Ev.succ ?_
      simp only [spec_l03Power.l0]
      exact Ev.neg (by omega) (Ev.val (by rw [show i = m by omega]))
    | succ d ih =>
      intro i hi
      refine Ev.succ ?_
      simp only [spec_l03Power.l0]
      have hb := pow_bound x (i + 1) h0 h1 (by omega)
      rw [Int.pow_succ] at hb
      refine Ev.pos (by omega) ?_
      rw [wrap_id (x := ((d + 1 : Nat) : Int) - 1) (by omega) (by omega), wrap_id (x := x ^ i * x) (by omega) (by omega), ← Int.pow_succ, show ((d + 1 : Nat) : Int) - 1 = (d : Int) by omega]
      exact ih (i + 1) (by omega)
  have := main m 0 (by omega)
  rw [Int.pow_zero] at this
  exact this

theorem raised (x n : Int) (h0 : 0 ≤ x) (h1 : x ≤ 10) (hn0 : 0 ≤ n) (hn : n ≤ 12) : Ev (fun k => impl_raised.f k x n) (x ^ n.toNat) := by
  unfold impl_raised.f
  obtain ⟨m, rfl⟩ := Int.eq_ofNat_of_zero_le hn0
  rw [Int.toNat_natCast]
  refine Ev.congr (fun k => ?_) (Ev.upto m (fun _ => True) (fun i => x ^ i) (x ^ m) (fun k s i => impl_raised.l0 k x s m i) (fun i hi _ ih => ?_) (fun _ => ?_) trivial)
  · rw [Int.pow_zero]
  · refine Ev.succ ?_
    simp only [impl_raised.l0]
    have hb := pow_bound x (i + 1) h0 h1 (by omega)
    rw [Int.pow_succ] at hb
    refine Ev.pos (by omega) ?_
    rw [wrap_id (x := (i : Int) + 1) (by omega) (by omega), wrap_id (x := x ^ i * x) (by omega) (by omega), ← Int.pow_succ]
    exact ih trivial
  · refine Ev.succ ?_
    simp only [impl_raised.l0]
    exact Ev.neg (by omega) (Ev.now _)

theorem floorMod (a b : Int) (h : b ≠ 0) : impl_floorMod.f a b = some (fm a b) := by unfold impl_floorMod.f; rw [if_neg h]; rfl

theorem isReach (r : Int) : impl_isReach.f r = some (decide (0 ≤ r ∧ r ≤ 2)) := by
  unfold impl_isReach.f
  rw [within]; rfl
theorem ruleCells (s r : Int) (t : List Int) (h0 : 0 ≤ r) (h1 : r ≤ 2) : impl_Rule_cells.f s r t = some (2 * r + 1) := by
  unfold impl_Rule_cells.f
  rw [wrap_id (x := 2 * r) (by omega) (by omega), wrap_id (x := 2 * r + 1) (by omega) (by omega)]

theorem fm_far (x n : Int) (h0 : 0 < n) (h1 : n ≤ 1000000) (g0 : -n ≤ x) (g1 : x ≤ 10000000) : Int.tmod (wrap64 (x + n)) n = fm x n := by
  have ht1 := Int.tmod_lt_of_pos x h0
  have ht2 : -n < Int.tmod x n := by
    have := Int.tmod_lt_of_pos (-x) h0
    rw [Int.neg_tmod] at this
    omega
  unfold fm
  rw [wrap_id (x := x + n) (by omega) (by omega), wrap_id (x := Int.tmod x n + n) (by omega) (by omega), Int.tmod_eq_emod_of_nonneg (by omega), Int.tmod_eq_emod_of_nonneg (show 0 ≤ Int.tmod x n + n by omega), Int.add_emod_right, Int.add_emod_right, Int.tmod_def, Int.sub_mul_emod_self_left]
/-- A ring is one of states. -/
def ringB (s : Int) (l : List Int) : Bool := allIn l 0 (s - 1) && decide (1 ≤ l.length ∧ l.length ≤ 64)
theorem ringB_ok {s : Int} {l : List Int} (h : ringB s l = true) : RingOk s l := by
  unfold ringB at h
  rw [Bool.and_eq_true, decide_eq_true_eq] at h
  exact ⟨by omega, by omega, allIn_iff.1 h.1⟩
/-- A ring and the one behind it can be learned from. -/
def pairB (s r : Int) (a b : List Int) : Bool := ringB s a && (ringB s b && (decide (b.length = a.length) && decide (2 * r + 1 ≤ (a.length : Int))))
/-- The cells of a ring, d from the i-th on, are told. -/
def lcells (s r : Int) (a b : List Int) : Nat → Nat → List Int → Option (List Int)
  | 0, _, T => some T
  | d + 1, i, T => if rd T (tl s a ((i : Int) - r) (2 * r + 1).toNat) ≥ 0 ∧ ¬ rd T (tl s a ((i : Int) - r) (2 * r + 1).toNat) = rd b (i : Int) then none else lcells s r a b d (i + 1) (T.set (tl s a ((i : Int) - r) (2 * r + 1).toNat).toNat (rd b (i : Int)))
theorem lcells_length (s r : Int) (a b : List Int) (d : Nat) : ∀ (i : Nat) (T T' : List Int), lcells s r a b d i T = some T' → T'.length = T.length := by
  induction d with
  | zero => intro i T T' h; simp only [lcells, Option.some.injEq] at h; rw [h]
  | succ d ih =>
    intro i T T' h
    simp only [lcells] at h
    split at h
    · cases h
    · rw [ih _ _ _ h, List.length_set]
/-- All rings are told. -/
def lrings (s r : Int) : List (List Int) → List (List Int) → List Int → Option (List Int)
  | a :: al, b :: bl, T => (lcells s r a b a.length 0 T).bind (lrings s r al bl)
  | _, _, T => some T
/-- The same, each looked at before. -/
def lringsI (s r : Int) : List (List Int) → List (List Int) → List Int → Option (List Int)
  | a :: al, b :: bl, T => if pairB s r a b = true then (lcells s r a b a.length 0 T).bind (lringsI s r al bl) else none
  | _, _, T => some T
/-- All pairs can be learned from. -/
def pairsB (s r : Int) : List (List Int) → List (List Int) → Bool
  | a :: al, b :: bl => pairB s r a b && pairsB s r al bl
  | _, _ => true
theorem lringsI_ok (s r : Int) : ∀ (B C : List (List Int)) (T : List Int), pairsB s r B C = true → lringsI s r B C T = lrings s r B C T
  | [], _, _, _ => rfl
  | _ :: _, [], _, _ => rfl
  | a :: al, b :: bl, T, h => by
    simp only [pairsB, Bool.and_eq_true] at h
    simp only [lringsI, lrings]
    rw [if_pos h.1]
    congr 1
    funext T'
    exact lringsI_ok s r al bl T' h.2
theorem lringsI_no (s r : Int) : ∀ (B C : List (List Int)) (T : List Int), ¬ pairsB s r B C = true → lringsI s r B C T = none
  | [], _, _, h => absurd rfl h
  | _ :: _, [], _, h => absurd rfl h
  | a :: al, b :: bl, T, h => by
    simp only [lringsI]
    by_cases g : pairB s r a b = true
    · rw [if_pos g]
      have h2 : ¬ pairsB s r al bl = true := fun h2 => h (by simp only [pairsB, g, h2, Bool.and_self])
      cases lcells s r a b a.length 0 T with
      | none => rfl
      | some T' => exact lringsI_no s r al bl T' h2
    · rw [if_neg g]
theorem pairsB_mono (s r r' : Int) (hr : r ≤ r') : ∀ (B C : List (List Int)), pairsB s r' B C = true → pairsB s r B C = true
  | [], _, _ => rfl
  | _ :: _, [], _ => rfl
  | a :: al, b :: bl, h => by
    simp only [pairsB, pairB, Bool.and_eq_true, decide_eq_true_eq] at h ⊢
    exact ⟨⟨h.1.1, h.1.2.1, h.1.2.2.1, by omega⟩, pairsB_mono s r r' hr al bl h.2⟩
theorem pairsB_iff (s r : Int) : ∀ (B C : List (List Int)), C.length = B.length → pairsB s r B C = (List.range B.length).all fun i => pairB s r (rd_L1 B (i : Int)) (rd_L1 C (i : Int))
  | [], _, _ => rfl
  | a :: al, [], h => by simp at h
  | a :: al, b :: bl, h => by
    simp only [pairsB]
    rw [pairsB_iff s r al bl (by simpa using h), List.length_cons, List.range_succ_eq_map, List.all_cons, List.all_map]
    rfl
theorem lrings_nil (s r : Int) (C : List (List Int)) (T : List Int) : lrings s r [] C T = some T := by cases C <;> rfl
theorem lringsI_nil (s r : Int) (C : List (List Int)) (T : List Int) : lringsI s r [] C T = some T := by cases C <;> rfl
/-- What is asked ahead of learning. -/
def headB (s r : Int) (B C : List (List Int)) : Bool := (decide (2 ≤ s ∧ s ≤ 3) && decide (0 ≤ r ∧ r ≤ 2)) && (decide (1 ≤ B.length ∧ B.length ≤ 32) && decide (C.length = B.length))
/-- What is learned. -/
def resL : Option (List Int) → List Int × Bool
  | none => ([], false)
  | some T => (T, true)
def zeroT (s r : Int) : List Int := List.replicate (s ^ (2 * r + 1).toNat).toNat (-1)
theorem pow_small {s r : Int} (hs0 : 2 ≤ s) (hs1 : s ≤ 3) (hr0 : 0 ≤ r) (hr1 : r ≤ 2) : 1 ≤ s ^ (2 * r + 1).toNat ∧ s ^ (2 * r + 1).toNat ≤ 243 := by
  have : r = 0 ∨ r = 1 ∨ r = 2 := by omega
  have : s = 2 ∨ s = 3 := by omega
  rcases ‹r = 0 ∨ r = 1 ∨ r = 2› with rfl | rfl | rfl <;> rcases ‹s = 2 ∨ s = 3› with rfl | rfl <;> decide
theorem hood {s r : Int} {a : List Int} (hs0 : 2 ≤ s) (hs1 : s ≤ 3) (hr0 : 0 ≤ r) (hr1 : r ≤ 2) (h : RingOk s a) (h64 : a.length ≤ 64) (hl : 2 * r + 1 ≤ (a.length : Int)) (i : Nat) (hi : i < a.length) : Ev (fun k => spec_l03Hood.f k s r [] a i) (tl s a ((i : Int) - r) (2 * r + 1).toNat) := by
  unfold spec_l03Hood.f
  rw [wrap_id (x := -r) (by omega) (by omega)]
  refine Ev.congr (fun k => ?_) (Ev.upto (2 * r + 1).toNat (fun _ => True) (fun j => tl s a ((i : Int) - r) j) (tl s a ((i : Int) - r) (2 * r + 1).toNat) (fun k x j => spec_l03Hood.l0 k a i a.length x (-r + j) s r []) (fun j hj _ ih => ?_) (fun _ => ?_) trivial)
  · rw [Int.add_zero]; rfl
  · refine Ev.succ ?_
    simp only [spec_l03Hood.l0]
    have hf := fm_ok ((i : Int) - r + (j : Int)) a.length (by omega) (by omega)
    have hx := h.all _ (rd_mem a _ hf.1 (by omega))
    have ht := tl_ok s a ((i : Int) - r) hs0 hs1 h j
    have ht1 := tl_ok s a ((i : Int) - r) hs0 hs1 h (j + 1)
    have hb := pow_bound s (j + 1) (by omega) (by omega) (by omega)
    have hm : 0 ≤ tl s a ((i : Int) - r) j * s := Int.mul_nonneg ht.1 (by omega)
    have e : tl s a ((i : Int) - r) (j + 1) = tl s a ((i : Int) - r) j * s + rd a (fm ((i : Int) - r + (j : Int)) a.length) := rfl
    have ep : Int.tmod (wrap64 ((wrap64 ((i : Int) + (-r + (j : Int)))) + (a.length : Int))) (a.length : Int) = fm ((i : Int) - r + (j : Int)) a.length := by
      rw [wrap_id (x := (i : Int) + (-r + (j : Int))) (by omega) (by omega), show (i : Int) + (-r + (j : Int)) = (i : Int) - r + (j : Int) by omega]
      exact fm_far _ _ (by omega) (by omega) (by omega) (by omega)
    rw [ep, wrap_id (x := -r + (j : Int) + 1) (by omega) (by omega)]
    refine Ev.pos (by omega) (Ev.neg (by omega) (Ev.pos hf.1 (Ev.pos hf.2 ?_)))
    rw [wrap_id (x := tl s a ((i : Int) - r) j * s) (by omega) (by omega), wrap_id (x := tl s a ((i : Int) - r) j * s + rd a (fm ((i : Int) - r + (j : Int)) a.length)) (by omega) (by omega)]
    have := ih trivial
    rw [show -r + ((j : Int) + 1) = -r + (j : Int) + 1 by omega] at this
    exact this
  · refine Ev.succ ?_
    simp only [spec_l03Hood.l0]
    exact Ev.neg (by omega) (Ev.now _)
theorem pairB_ok {s r : Int} {a b : List Int} (h : pairB s r a b = true) : RingOk s a ∧ RingOk s b ∧ b.length = a.length ∧ 2 * r + 1 ≤ (a.length : Int) ∧ a.length ≤ 64 := by
  unfold pairB at h
  simp only [Bool.and_eq_true, decide_eq_true_eq] at h
  refine ⟨ringB_ok h.1, ringB_ok h.2.1, h.2.2.1, h.2.2.2, ?_⟩
  have h1 := h.1
  unfold ringB at h1
  rw [Bool.and_eq_true, decide_eq_true_eq] at h1
  exact h1.2.2
theorem cellsSpec {s r : Int} {B C : List (List Int)} {x : Nat} {x33 : Int} {ρ : List Int × Bool} (hs0 : 2 ≤ s) (hs1 : s ≤ 3) (hr0 : 0 ≤ r) (hr1 : r ≤ 2) (hx : x < B.length) (hC : C.length = B.length) (hp : pairB s r (rd_L1 B (x : Int)) (rd_L1 C (x : Int)) = true) :
    ∀ (d i : Nat) (T : List Int), i + d = (rd_L1 B (x : Int)).length → T.length = (zeroT s r).length → (lcells s r (rd_L1 B (x : Int)) (rd_L1 C (x : Int)) d i T = none → ρ = ([], false)) → (∀ T', lcells s r (rd_L1 B (x : Int)) (rd_L1 C (x : Int)) d i T = some T' → Ev (fun k => spec_l07Learn.l1 k B C T' x33 (wrap64 ((x : Int) + 1)) s r) ρ) →
      Ev (fun k => spec_l07Learn.l2 k B C T x x33 x ((rd_L1 B (x : Int)).length : Int) i s r) ρ := by
  obtain ⟨ha, hb, hlen, hl, h64⟩ := pairB_ok hp
  intro d
  induction d with
  | zero =>
    intro i T hi hT hn hs
    refine Ev.succ ?_
    simp only [spec_l07Learn.l2]
    exact Ev.neg (by omega) (hs T rfl)
  | succ d ih =>
    intro i T hi hT hn hs
    have hil : i < (rd_L1 B (x : Int)).length := by omega
    have ht := tl_ok s (rd_L1 B (x : Int)) ((i : Int) - r) hs0 hs1 ha (2 * r + 1).toNat
    have hps := pow_small hs0 hs1 hr0 hr1
    have hz : (zeroT s r).length = (s ^ (2 * r + 1).toNat).toNat := by simp [zeroT]
    simp only [lcells] at hn hs
    refine Ev.succ ?_
    simp only [spec_l07Learn.l2]
    rw [wrap_id (x := (i : Int) + 1) (by omega) (by omega)]
    refine Ev.pos (by omega) (Ev.pos (by omega) (Ev.pos (by omega) (Ev.bind (hood hs0 hs1 hr0 hr1 ha h64 hl i hil) (Ev.pos ht.1 (Ev.pos (by omega) ?_)))))
    generalize tl s (rd_L1 B (x : Int)) ((i : Int) - r) (2 * r + 1).toNat = h at *
    by_cases c : rd T h ≥ 0
    · refine Ev.pos c (Ev.pos (by omega) (Ev.pos (by omega) (Ev.pos (by omega) ?_)))
      by_cases g : rd T h = rd (rd_L1 C (x : Int)) (i : Int)
      · rw [if_neg (by simp [g])] at hn hs
        exact Ev.pos g (ih (i + 1) _ (by omega) (by rw [List.length_set]; exact hT) hn hs)
      · rw [if_pos ⟨c, g⟩] at hn
        exact Ev.neg g (Ev.val (by rw [hn rfl]))
    · rw [if_neg (fun h_ => c h_.1)] at hn hs
      exact Ev.neg c (Ev.pos (by omega) (Ev.pos (by omega) (Ev.pos (by omega) (ih (i + 1) _ (by omega) (by rw [List.length_set]; exact hT) hn hs))))
theorem drop_LL (l : List (List Int)) (i : Nat) (h : i < l.length) : l.drop i = rd_L1 l (i : Int) :: l.drop (i + 1) := by
  have e : rd_L1 l (i : Int) = l[i] := by
    unfold rd_L1; rw [Int.toNat_natCast, List.getD_eq_getElem?_getD, List.getElem?_eq_getElem h]; rfl
  rw [e, List.drop_eq_getElem_cons h]
theorem ringsSpec {s r : Int} {B C : List (List Int)} (hs0 : 2 ≤ s) (hs1 : s ≤ 3) (hr0 : 0 ≤ r) (hr1 : r ≤ 2) (hB : B.length ≤ 32) (hC : C.length = B.length) (hp : pairsB s r B C = true) :
    ∀ (d i : Nat) (T : List Int), i + d = B.length → T.length = (zeroT s r).length → Ev (fun k => spec_l07Learn.l1 k B C T B.length i s r) (resL (lrings s r (B.drop i) (C.drop i) T)) := by
  intro d
  induction d with
  | zero =>
    intro i T hi hT
    refine Ev.succ ?_
    simp only [spec_l07Learn.l1]
    rw [List.drop_of_length_le (show B.length ≤ i by omega), lrings_nil]
    exact Ev.neg (by omega) (Ev.now _)
  | succ d ih =>
    intro i T hi hT
    have hil : i < B.length := by omega
    have hpi : pairB s r (rd_L1 B (i : Int)) (rd_L1 C (i : Int)) = true := by
      rw [pairsB_iff s r B C hC, List.all_eq_true] at hp
      exact hp i (by simpa using hil)
    rw [drop_LL B i hil, drop_LL C i (by omega)]
    simp only [lrings]
    refine Ev.succ ?_
    simp only [spec_l07Learn.l1]
    refine Ev.pos (by omega) (Ev.pos (by omega) (Ev.pos (by omega) (cellsSpec hs0 hs1 hr0 hr1 hil hC hpi (rd_L1 B (i : Int)).length 0 T (by omega) hT (fun hn => ?_) (fun T' hs => ?_))))
    · rw [hn]; rfl
    · rw [hs, wrap_id (by omega) (by omega)]
      exact ih (i + 1) T' (by omega) (by rw [lcells_length _ _ _ _ _ _ _ _ hs]; exact hT)
theorem learnSpec {s r : Int} {B C : List (List Int)} (hs0 : 2 ≤ s) (hs1 : s ≤ 3) (hr0 : 0 ≤ r) (hr1 : r ≤ 2) (hB : B.length ≤ 32) (hC : C.length = B.length) (hp : pairsB s r B C = true) : Ev (fun k => spec_l07Learn.f k s r B C) (resL (lrings s r B C (zeroT s r))) := by
  have hps := pow_small hs0 hs1 hr0 hr1
  have hpw := l03Power s (2 * r + 1) (by omega) (by omega) (by omega) (by omega)
  unfold spec_l07Learn.f
  refine Ev.congr (fun k => ?_) (Ev.upto (s ^ (2 * r + 1).toNat).toNat (fun _ => True) (fun i => List.replicate i (-1)) (resL (lrings s r B C (zeroT s r))) (fun k T i => spec_l07Learn.l0 k s r B C T i) (fun i hi _ ih => ?_) (fun _ => ?_) trivial)
  · rfl
  · refine Ev.succ ?_
    simp only [spec_l07Learn.l0]
    have ih' := ih trivial
    rw [List.replicate_succ'] at ih'
    rw [wrap_id (x := 2 * r) (by omega) (by omega), wrap_id (x := 2 * r + 1) (by omega) (by omega), wrap_id (x := (i : Int) + 1) (by omega) (by omega)]
    exact Ev.bind hpw (Ev.pos (by omega) (Ev.pos (by rw [List.length_replicate]; omega) ih'))
  · refine Ev.succ ?_
    simp only [spec_l07Learn.l0]
    rw [wrap_id (x := 2 * r) (by omega) (by omega), wrap_id (x := 2 * r + 1) (by omega) (by omega)]
    exact Ev.bind hpw (Ev.neg (by omega) (ringsSpec hs0 hs1 hr0 hr1 hB hC hp B.length 0 _ (by omega) (by simp [zeroT])))
theorem cellsImpl {s r : Int} {B C : List (List Int)} {x : Nat} {ρ : List Int × Bool} (hs0 : 2 ≤ s) (hs1 : s ≤ 3) (hr0 : 0 ≤ r) (hr1 : r ≤ 2) (hp : pairB s r (rd_L1 B (x : Int)) (rd_L1 C (x : Int)) = true) :
    ∀ (d i : Nat) (T : List Int), i + d = (rd_L1 B (x : Int)).length → T.length = (zeroT s r).length → (lcells s r (rd_L1 B (x : Int)) (rd_L1 C (x : Int)) d i T = none → ρ = ([], false)) → (∀ T', lcells s r (rd_L1 B (x : Int)) (rd_L1 C (x : Int)) d i T = some T' → Ev (fun k => impl_learn.l0 k s r C T' B B.length (wrap64 ((x : Int) + 1)) s r) ρ) →
      Ev (fun k => impl_learn.l1 k s r C T (rd_L1 B (x : Int)) B B.length x (rd_L1 C (x : Int)) ((rd_L1 C (x : Int)).length : Int) i s r) ρ := by
  obtain ⟨ha, hb, hlen, hl, h64⟩ := pairB_ok hp
  intro d
  induction d with
  | zero =>
    intro i T hi hT hn hs
    refine Ev.succ ?_
    simp only [impl_learn.l1]
    exact Ev.neg (by omega) (hs T rfl)
  | succ d ih =>
    intro i T hi hT hn hs
    have hil : i < (rd_L1 B (x : Int)).length := by omega
    have ht := tl_ok s (rd_L1 B (x : Int)) ((i : Int) - r) hs0 hs1 ha (2 * r + 1).toNat
    have hps := pow_small hs0 hs1 hr0 hr1
    have hz : (zeroT s r).length = (s ^ (2 * r + 1).toNat).toNat := by simp [zeroT]
    simp only [lcells] at hn hs
    refine Ev.succ ?_
    simp only [impl_learn.l1]
    rw [wrap_id (x := (i : Int) - r) (by omega) (by omega)]
    refine Ev.pos (by omega) (Ev.pos (by omega) (Ev.pos (by omega) ?_))
    refine Ev.congr (fun k => ?_) (Ev.upto (2 * r + 1).toNat (fun _ => True) (fun j => tl s (rd_L1 B (x : Int)) ((i : Int) - r) j) ρ (fun k y j => impl_learn.l2 k s r C T (rd_L1 B (x : Int)) i (rd (rd_L1 C (x : Int)) (i : Int)) y ((i : Int) - r + j) B B.length x (rd_L1 C (x : Int)) ((rd_L1 C (x : Int)).length : Int) i s r) (fun j hj _ ihj => ?_) (fun _ => ?_) trivial)
    · rw [Int.add_zero]; rfl
    · refine Ev.succ ?_
      simp only [impl_learn.l2]
      have hf := fm_ok ((i : Int) - r + (j : Int)) (rd_L1 B (x : Int)).length (by omega) (by omega)
      have hx := ha.all _ (rd_mem (rd_L1 B (x : Int)) _ hf.1 (by omega))
      have htj := tl_ok s (rd_L1 B (x : Int)) ((i : Int) - r) hs0 hs1 ha j
      have ht1 := tl_ok s (rd_L1 B (x : Int)) ((i : Int) - r) hs0 hs1 ha (j + 1)
      have hb2 := pow_bound s (j + 1) (by omega) (by omega) (by omega)
      have hm : 0 ≤ tl s (rd_L1 B (x : Int)) ((i : Int) - r) j * s := Int.mul_nonneg htj.1 (by omega)
      have e : tl s (rd_L1 B (x : Int)) ((i : Int) - r) (j + 1) = tl s (rd_L1 B (x : Int)) ((i : Int) - r) j * s + rd (rd_L1 B (x : Int)) (fm ((i : Int) - r + (j : Int)) (rd_L1 B (x : Int)).length) := rfl
      rw [wrap_id (x := (i : Int) + r) (by omega) (by omega), wrap_id (x := (i : Int) - r + (j : Int) + 1) (by omega) (by omega)]
      refine Ev.pos (by omega) (Ev.bnd (floorMod _ _ (by omega)) (Ev.pos hf.1 (Ev.pos hf.2 ?_)))
      rw [wrap_id (x := tl s (rd_L1 B (x : Int)) ((i : Int) - r) j * s) (by omega) (by omega), wrap_id (x := tl s (rd_L1 B (x : Int)) ((i : Int) - r) j * s + rd (rd_L1 B (x : Int)) (fm ((i : Int) - r + (j : Int)) (rd_L1 B (x : Int)).length)) (by omega) (by omega)]
      have := ihj trivial
      rw [show (i : Int) - r + ((j : Int) + 1) = (i : Int) - r + (j : Int) + 1 by omega] at this
      exact this
    · refine Ev.succ ?_
      simp only [impl_learn.l2]
      rw [wrap_id (x := (i : Int) + r) (by omega) (by omega), wrap_id (x := (i : Int) + 1) (by omega) (by omega)]
      refine Ev.neg (by omega) (Ev.pos ht.1 (Ev.pos (by omega) ?_))
      generalize tl s (rd_L1 B (x : Int)) ((i : Int) - r) (2 * r + 1).toNat = h at *
      by_cases c : rd T h ≥ 0
      · refine Ev.pos c ?_
        by_cases g : rd T h = rd (rd_L1 C (x : Int)) (i : Int)
        · rw [if_neg (by simp [g])] at hn hs
          exact Ev.pos g (ih (i + 1) _ (by omega) (by rw [List.length_set]; exact hT) hn hs)
        · rw [if_pos ⟨c, g⟩] at hn
          exact Ev.neg g (Ev.val (by rw [hn rfl]))
      · rw [if_neg (fun h_ => c h_.1)] at hn hs
        exact Ev.neg c (ih (i + 1) _ (by omega) (by rw [List.length_set]; exact hT) hn hs)
theorem ringsImpl {s r : Int} {B C : List (List Int)} (hs0 : 2 ≤ s) (hs1 : s ≤ 3) (hr0 : 0 ≤ r) (hr1 : r ≤ 2) (hB : B.length ≤ 32) (hC : C.length = B.length) (sB : ∀ x ∈ B, x.length ≤ 17592186044416) (sC : ∀ x ∈ C, x.length ≤ 17592186044416) :
    ∀ (d i : Nat) (T : List Int), i + d = B.length → T.length = (zeroT s r).length → Ev (fun k => impl_learn.l0 k s r C T B B.length i s r) (resL (lringsI s r (B.drop i) (C.drop i) T)) := by
  have no : ∀ (v : Bool) (i : Nat) (T : List Int) (a : List Int), v = true → Ev (fun k => impl_learn.j2 k s r C T i a B B.length i v s r) ([], false) := fun v i T a hv => by
    refine Ev.succ ?_
    simp only [impl_learn.j2]
    exact Ev.pos hv (Ev.now _)
  intro d
  induction d with
  | zero =>
    intro i T hi hT
    refine Ev.succ ?_
    simp only [impl_learn.l0]
    rw [List.drop_of_length_le (show B.length ≤ i by omega), lringsI_nil]
    exact Ev.neg (by omega) (Ev.now _)
  | succ d ih =>
    intro i T hi hT
    have hil : i < B.length := by omega
    have hzB : (rd_L1 B (i : Int)).length ≤ 17592186044416 := sB _ (by unfold rd_L1; rw [Int.toNat_natCast, List.getD_eq_getElem?_getD, List.getElem?_eq_getElem hil]; exact List.getElem_mem hil)
    have hzC : (rd_L1 C (i : Int)).length ≤ 17592186044416 := sC _ (by unfold rd_L1; rw [Int.toNat_natCast, List.getD_eq_getElem?_getD, List.getElem?_eq_getElem (by omega)]; exact List.getElem_mem _)
    have hcells : impl_Rule_cells.f s r [] = some (2 * r + 1) := ruleCells s r [] hr0 hr1
    rw [drop_LL B i hil, drop_LL C i (by omega)]
    simp only [lringsI]
    have yes : pairB s r (rd_L1 B (i : Int)) (rd_L1 C (i : Int)) = true → Ev (fun k => impl_learn.j2 k s r C T i (rd_L1 B (i : Int)) B B.length i (decide (((rd_L1 B (i : Int)).length : Int) < 2 * r + 1)) s r) (resL (Option.bind (lcells s r (rd_L1 B (i : Int)) (rd_L1 C (i : Int)) (rd_L1 B (i : Int)).length 0 T) (lringsI s r (B.drop (i + 1)) (C.drop (i + 1))))) := fun hp => by
      obtain ⟨ha, hb, hlen, hl, h64⟩ := pairB_ok hp
      refine Ev.succ ?_
      simp only [impl_learn.j2]
      refine Ev.neg (by rw [decide_eq_true_eq]; omega) (Ev.pos (by omega) (Ev.pos (by omega) (cellsImpl hs0 hs1 hr0 hr1 hp (rd_L1 B (i : Int)).length 0 T (by omega) hT (fun hn => ?_) (fun T' hs => ?_))))
      · rw [hn]; rfl
      · rw [hs, wrap_id (by omega) (by omega)]
        exact ih (i + 1) T' (by omega) (by rw [lcells_length _ _ _ _ _ _ _ _ hs]; exact hT)
    refine Ev.succ ?_
    simp only [impl_learn.l0]
    refine Ev.pos (by omega) (Ev.pos (by omega) (Ev.pos (by omega) (Ev.bind (isRing _ s (by omega) (by omega)) ?_)))
    by_cases g1 : ringB s (rd_L1 B (i : Int)) = true
    · refine Ev.pos g1 (Ev.pos (by omega) (Ev.bind (isRing _ s (by omega) (by omega)) ?_))
      by_cases g2 : ringB s (rd_L1 C (i : Int)) = true
      · refine Ev.pos g2 ?_
        by_cases g3 : ((rd_L1 B (i : Int)).length : Int) = ((rd_L1 C (i : Int)).length : Int)
        · refine Ev.pos g3 (Ev.bnd hcells ?_)
          by_cases g4 : 2 * r + 1 ≤ ((rd_L1 B (i : Int)).length : Int)
          · have hp : pairB s r (rd_L1 B (i : Int)) (rd_L1 C (i : Int)) = true := by
              unfold pairB
              rw [g1, g2, decide_eq_true (show (rd_L1 C (i : Int)).length = (rd_L1 B (i : Int)).length by omega), decide_eq_true g4]; rfl
            rw [if_pos hp]
            exact yes hp
          · have hp : ¬ pairB s r (rd_L1 B (i : Int)) (rd_L1 C (i : Int)) = true := fun h_ => g4 (pairB_ok h_).2.2.2.1
            rw [if_neg hp]
            exact no _ i T _ (by rw [decide_eq_true_eq]; omega)
        · have hp : ¬ pairB s r (rd_L1 B (i : Int)) (rd_L1 C (i : Int)) = true := fun h_ => g3 (by have := (pairB_ok h_).2.2.1; omega)
          rw [if_neg hp]
          exact Ev.neg g3 (no _ i T _ rfl)
      · have hp : ¬ pairB s r (rd_L1 B (i : Int)) (rd_L1 C (i : Int)) = true := fun h_ => g2 (by unfold pairB at h_; simp only [Bool.and_eq_true] at h_; exact h_.2.1)
        rw [if_neg hp]
        exact Ev.neg g2 (no _ i T _ rfl)
    · have hp : ¬ pairB s r (rd_L1 B (i : Int)) (rd_L1 C (i : Int)) = true := fun h_ => g1 (by unfold pairB at h_; simp only [Bool.and_eq_true] at h_; exact h_.1)
      rw [if_neg hp]
      exact Ev.neg g1 (no _ i T _ rfl)
/-- What is learned, if it can be. -/
def learnV (s r : Int) (B C : List (List Int)) : Option (List Int) := if headB s r B C = true ∧ pairsB s r B C = true then lrings s r B C (zeroT s r) else none
theorem learnImpl (s r : Int) (B C : List (List Int)) (sB : ∀ x ∈ B, x.length ≤ 17592186044416) (sC : ∀ x ∈ C, x.length ≤ 17592186044416) : Ev (fun k => impl_learn.f k s r B C) (resL (learnV s r B C)) := by
  have no : ∀ (v : Bool), v = true → ¬ headB s r B C = true → Ev (fun k => impl_learn.j0 k s r B C v) (resL (learnV s r B C)) := fun v hv hh => by
    unfold learnV
    rw [if_neg (fun h_ => hh h_.1)]
    refine Ev.succ ?_
    simp only [impl_learn.j0]
    exact Ev.pos hv (Ev.now _)
  unfold impl_learn.f
  refine Ev.bnd (areStates s) ?_
  by_cases gs : s = 2 ∨ s = 3
  · refine Ev.pos (by simpa using gs) (Ev.bnd (isReach r) ?_)
    by_cases gr : 0 ≤ r ∧ r ≤ 2
    · refine Ev.pos (by simpa using gr) ?_
      by_cases g1 : (B.length : Int) < 1
      · exact Ev.pos g1 (no _ rfl (fun h_ => by unfold headB at h_; simp only [Bool.and_eq_true, decide_eq_true_eq] at h_; omega))
      · refine Ev.neg g1 ?_
        by_cases g2 : (B.length : Int) > 32
        · exact Ev.pos g2 (no _ rfl (fun h_ => by unfold headB at h_; simp only [Bool.and_eq_true, decide_eq_true_eq] at h_; omega))
        · refine Ev.neg g2 ?_
          by_cases g3 : C.length = B.length
          · have hh : headB s r B C = true := by
              unfold headB
              rw [decide_eq_true (show 2 ≤ s ∧ s ≤ 3 by omega), decide_eq_true gr, decide_eq_true (show 1 ≤ B.length ∧ B.length ≤ 32 by omega), decide_eq_true g3]; rfl
            have hps := pow_small (s := s) (r := r) (by omega) (by omega) gr.1 gr.2
            have e : learnV s r B C = lringsI s r B C (zeroT s r) := by
              unfold learnV
              by_cases hp : pairsB s r B C = true
              · rw [if_pos ⟨hh, hp⟩, lringsI_ok s r B C _ hp]
              · rw [if_neg (fun h_ => hp h_.2), lringsI_no s r B C _ hp]
            rw [e]
            refine Ev.succ ?_
            simp only [impl_learn.j0]
            refine Ev.neg (by simp [g3]) (Ev.bnd (ruleCells s r [] gr.1 gr.2) (Ev.bind (raised s (2 * r + 1) (by omega) (by omega) (by omega) (by omega)) (Ev.bnd (a := zeroT s r) ?_ (ringsImpl (by omega) (by omega) gr.1 gr.2 (by omega) g3 sB sC B.length 0 _ (by omega) rfl))))
            unfold slices_Repeat_int64_int64.f zeroT
            rw [if_pos (show ([(-1)] : List Int).length = 1 from rfl), if_pos (by omega), if_pos (by omega)]
            rfl
          · refine no _ (by simp; omega) (fun h_ => by unfold headB at h_; simp only [Bool.and_eq_true, decide_eq_true_eq] at h_; omega)
    · exact Ev.neg (by simpa using gr) (no _ rfl (fun h_ => by unfold headB at h_; simp only [Bool.and_eq_true, decide_eq_true_eq] at h_; omega))
  · exact Ev.neg (by simpa using gs) (no _ rfl (fun h_ => by unfold headB at h_; simp only [Bool.and_eq_true, decide_eq_true_eq] at h_; omega))
theorem ringsB (s r : Int) (B C : List (List Int)) (sB : ∀ x ∈ B, x.length ≤ 17592186044416) (sC : ∀ x ∈ C, x.length ≤ 17592186044416) : Ev (fun k => spec_l07Rings.f k s r B C) (headB s r B C && pairsB s r B C) := by
  have no : ∀ (v : Bool), v = true → ¬ headB s r B C = true → Ev (fun k => spec_l07Rings.j0 k s r B C v) (headB s r B C && pairsB s r B C) := fun v hv hh => by
    rw [Bool.eq_false_iff.mpr hh, Bool.false_and]
    refine Ev.succ ?_
    simp only [spec_l07Rings.j0]
    exact Ev.pos hv (Ev.now _)
  unfold spec_l07Rings.f
  refine Ev.bnd (l00In _ _ _) ?_
  by_cases gs : 2 ≤ s ∧ s ≤ 3
  · refine Ev.pos (by simpa using gs) (Ev.bnd (l00In _ _ _) ?_)
    by_cases gr : 0 ≤ r ∧ r ≤ 2
    · refine Ev.pos (by simpa using gr) ?_
      by_cases g1 : (B.length : Int) < 1
      · exact Ev.pos g1 (no _ rfl (fun h_ => by unfold headB at h_; simp only [Bool.and_eq_true, decide_eq_true_eq] at h_; omega))
      · refine Ev.neg g1 ?_
        by_cases g2 : (B.length : Int) > 32
        · exact Ev.pos g2 (no _ rfl (fun h_ => by unfold headB at h_; simp only [Bool.and_eq_true, decide_eq_true_eq] at h_; omega))
        · refine Ev.neg g2 ?_
          by_cases g3 : C.length = B.length
          · have hh : headB s r B C = true := by
              unfold headB
              rw [decide_eq_true gs, decide_eq_true gr, decide_eq_true (show 1 ≤ B.length ∧ B.length ≤ 32 by omega), decide_eq_true g3]; rfl
            rw [hh, Bool.true_and, pairsB_iff s r B C g3]
            refine Ev.succ ?_
            simp only [spec_l07Rings.j0]
            refine Ev.neg (by simp [g3]) (Ev.all B.length _ (fun k i => spec_l07Rings.l0 k s r B C B.length i) (fun i hil q ih => ?_) ?_)
            · have hzB : (rd_L1 B (i : Int)).length ≤ 17592186044416 := sB _ (by unfold rd_L1; rw [Int.toNat_natCast, List.getD_eq_getElem?_getD, List.getElem?_eq_getElem hil]; exact List.getElem_mem hil)
              have hzC : (rd_L1 C (i : Int)).length ≤ 17592186044416 := sC _ (by unfold rd_L1; rw [Int.toNat_natCast, List.getD_eq_getElem?_getD, List.getElem?_eq_getElem (by omega)]; exact List.getElem_mem _)
              unfold pairB
              refine Ev.succ ?_
              simp only [spec_l07Rings.l0]
              rw [wrap_id (x := 2 * r) (by omega) (by omega), wrap_id (x := 2 * r + 1) (by omega) (by omega), wrap_id (x := (i : Int) + 1) (by omega) (by omega), Bool.and_assoc, Bool.and_assoc, Bool.and_assoc]
              refine Ev.pos (by omega) (Ev.pos (by omega) (Ev.pos (by omega) (Ev.and (l02Ring _ s (by omega) (by omega) (by omega)) (fun _ => Ev.pos (by omega) (Ev.and (l02Ring _ s (by omega) (by omega) (by omega)) (fun _ => ?_))))))
              by_cases g4 : (rd_L1 C (i : Int)).length = (rd_L1 B (i : Int)).length
              · rw [decide_eq_true g4, Bool.true_and]
                refine Ev.pos (by omega) ?_
                by_cases g5 : 2 * r + 1 ≤ ((rd_L1 B (i : Int)).length : Int)
                · rw [decide_eq_true g5, Bool.true_and]
                  exact Ev.neg (by omega) ih
                · rw [decide_eq_false g5, Bool.false_and]
                  exact Ev.pos (by omega) (Ev.now _)
              · rw [decide_eq_false g4, Bool.false_and]
                exact Ev.neg (by omega) (Ev.now _)
            · refine Ev.succ ?_
              simp only [spec_l07Rings.l0]
              exact Ev.neg (by omega) (Ev.now _)
          · refine no _ (by simp; omega) (fun h_ => by unfold headB at h_; simp only [Bool.and_eq_true, decide_eq_true_eq] at h_; omega)
    · exact Ev.neg (by simpa using gr) (no _ rfl (fun h_ => by unfold headB at h_; simp only [Bool.and_eq_true, decide_eq_true_eq] at h_; omega))
  · exact Ev.neg (by simpa using gs) (no _ rfl (fun h_ => by unfold headB at h_; simp only [Bool.and_eq_true, decide_eq_true_eq] at h_; omega))

theorem learnTableImpl (s r : Int) (B C : List (List Int)) (sB : SmallLL B) (sC : SmallLL C) : Ev (fun k => impl_LearnTable.f k s r B C) (resL (learnV s r B C)) := by
  unfold impl_LearnTable.f
  exact Ev.bind (learnImpl s r B C sB sC) (Ev.val rfl)
theorem learnTableSpec (s r : Int) (B C : List (List Int)) (sB : SmallLL B) (sC : SmallLL C) : Ev (fun k => spec_LearnTable.f k s r B C) (resL (learnV s r B C)) := by
  unfold spec_LearnTable.f
  refine Ev.bind (ringsB s r B C sB sC) ?_
  by_cases g : (headB s r B C && pairsB s r B C) = true
  · have g' := g
    rw [Bool.and_eq_true] at g'
    have hh := g'.1
    unfold headB at hh
    simp only [Bool.and_eq_true, decide_eq_true_eq] at hh
    have e : learnV s r B C = lrings s r B C (zeroT s r) := by unfold learnV; rw [if_pos g']
    have hl := learnSpec hh.1.1.1 hh.1.1.2 hh.1.2.1 hh.1.2.2 hh.2.1.2 hh.2.2 g'.2
    rw [← e] at hl
    exact Ev.pos g (Ev.bind hl (Ev.val rfl))
  · refine Ev.neg g (Ev.val ?_)
    unfold learnV
    rw [if_neg (fun h => g (by rw [Bool.and_eq_true]; exact h))]
    rfl
theorem lrings_length (s r : Int) : ∀ (B C : List (List Int)) (T T' : List Int), lrings s r B C T = some T' → T'.length = T.length
  | [], C, T, T', h => by rw [lrings_nil, Option.some.injEq] at h; rw [h]
  | _ :: _, [], T, T', h => by simp only [lrings, Option.some.injEq] at h; rw [h]
  | a :: al, b :: bl, T, T', h => by
    simp only [lrings] at h
    obtain ⟨U, h1, h2⟩ := Option.bind_eq_some_iff.1 h
    rw [lrings_length s r al bl U T' h2, lcells_length s r a b _ _ _ _ h1]
theorem learned_small (s r : Int) (B C : List (List Int)) : (resL (learnV s r B C)).1.length ≤ 243 := by
  unfold learnV
  by_cases g : headB s r B C = true ∧ pairsB s r B C = true
  · rw [if_pos g]
    have hh := g.1
    unfold headB at hh
    simp only [Bool.and_eq_true, decide_eq_true_eq] at hh
    cases h : lrings s r B C (zeroT s r) with
    | none => simp [resL]
    | some T =>
      have := pow_small hh.1.1.1 hh.1.1.2 hh.1.2.1 hh.1.2.2
      have e := lrings_length s r B C _ _ h
      simp only [resL]
      rw [e]; unfold zeroT; rw [List.length_replicate]; omega
  · rw [if_neg g]; simp [resL]
theorem FnExactLearnTable : laws_FnExactLearnTable.Pure := by
  intro s r B C hs hr hB hC
  have sB : SmallLL B := fun x hx => by have := (hB.1 x hx).2; omega
  have sC : SmallLL C := fun x hx => by have := (hC.1 x hx).2; omega
  have lB : B.length ≤ 11728124029610 := by omega
  have lC : C.length ≤ 11728124029610 := by omega
  refine Ev.rounds ?_
  unfold laws_FnExactLearnTable.f
  obtain ⟨n, hn1, hn2⟩ := szTotal B 1048576 (by omega) (by omega) lB sB
  refine Ev.bind hn1 ?_
  by_cases c : n < 0
  · exact Ev.pos c (Ev.now _)
  · obtain ⟨o, ho1, ho2⟩ := szTotal C n (by omega) (hn2 c).1 lC sC
    refine Ev.neg c (Ev.bind ho1 ?_)
    by_cases c' : o < 0
    · exact Ev.pos c' (Ev.now _)
    · have tB := toInt64SS B lB sB
      have tC := toInt64SS C lC sC
      have b1 := (hn2 c).2
      have b2 := (ho2 c').2
      have n1 := totalLL_nonneg B
      have n2 := totalLL_nonneg C
      have hm := learned_small s r B C
      obtain ⟨B', mB⟩ := markInt64SS B 1 (by omega) (by omega) lB
      obtain ⟨C', mC⟩ := markInt64SS C (1 + totalLL B) (by omega) (by omega) lC
      refine Ev.neg c' (Ev.bind tB (Ev.bind tC (Ev.bind (learnTableSpec s r B C sB sC) (Ev.bind tB (Ev.bind tC (Ev.bind (learnTableImpl s r B C sB sC) (Ev.bind (eqInt64S _ _ (by omega)) (Ev.pos (by simp) (Ev.succ ?_)))))))))
      simp only [laws_FnExactLearnTable.j0]
      refine Ev.neg (by simp) (Ev.bind tB (Ev.bind (eqInt64SS B lB sB) (Ev.pos rfl (Ev.bind tC (Ev.bind (eqInt64SS C lC sC) (Ev.pos rfl (Ev.bind mB (Ev.bind mC (Ev.neg (by show ¬ (1 + totalLL B + totalLL C) < 0; omega) (Ev.bind (eqInt64S _ _ (by omega)) (Ev.pos (by simp) (Ev.succ ?_))))))))))))
      simp only [laws_FnExactLearnTable.j1]
      refine Ev.neg (by simp) (Ev.bind (markInt64S _ 1 (by omega) (by omega) (by omega)) (Ev.bind (heldInt64S _ 1 (by omega) (by omega) (by omega)) (Ev.neg (by omega) (Ev.pos (by trivial) (Ev.bind tB (Ev.bind tC (Ev.bind (learnTableImpl s r B C sB sC) (Ev.bind (eqInt64S _ _ (by omega)) (Ev.pos (by simp) (Ev.succ ?_))))))))))
      simp only [laws_FnExactLearnTable.j2]
      exact Ev.neg (by simp) (Ev.bind (heldInt64S _ 1 (by omega) (by omega) (by omega)) (Ev.neg (by omega) (Ev.pos (by trivial) (Ev.now _))))

end Go.Proofs.Ytacjknmphgpjaaa.Pure

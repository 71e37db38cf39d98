/- RunGas of the program and of the reference answer the same for all arguments. -/
import Derived.Test.YtjhodohmifemiaaPFnExactRunGasx0
import Derived.Test.YtjhodohmifemiaaPFnExactRunGasx1
import Derived.Test.YtjhodohmifemiaaPFnExactRunGasx2
import Derived.Test.YtjhodohmifemiaaPFnExactRunGasx3
import Derived.Test.YtjhodohmifemiaaPFnExactRunGasx4
import Derived.Test.YtjhodohmifemiaaPFnExactRunGasx5
import Derived.Test.YtjhodohmifemiaaVFnExactRunGasLib
namespace Go.Proofs.Ytjhodohmifemiaa.Pure
open Go.RowKit Go.Proofs.Ytjhodohmifemiaa.PFnExactRunGas Go.Proofs.YtjhodohmifemiaaW.PrintWords Go.Proofs.YtjhodohmifemiaaW.PrintLast Go.Proofs.Ytjhodohmifemiaa.L
set_option linter.unusedVariables false
set_option linter.unusedSimpArgs false

theorem toInt64S (l : List Int) (hl : l.length ≤ 35184372088832) : Ev (fun k => laws_toInt64S.f k l) l := by
  unfold laws_toInt64S.f
  refine Ev.pos (by omega) (Ev.pos (by omega) ?_)
  refine Ev.cast (Ev.upto l.length (fun _ => True) (fun i => l.take i ++ List.replicate (l.length - i) 0) l (fun k s i => laws_toInt64S.l0 k l s i) (fun i hi _ ih => ?_) (fun _ => ?_) trivial) rfl
  · refine Ev.succ ?_
    simp only [laws_toInt64S.l0]
    refine Ev.pos (by omega) (Ev.pos (by omega) (Ev.pos (by simp; omega) ?_))
    rw [wrap_id (by omega) (by omega), Int.toNat_natCast, rd_lt l i hi, take_set_rep l i hi]
    exact ih trivial
  · refine Ev.succ ?_
    simp only [laws_toInt64S.l0]
    exact Ev.neg (by omega) (Ev.val (by simp))

theorem eqInt64S (l m : List Int) (hl : l.length ≤ 35184372088832) : Ev (fun k => laws_eqInt64S.f k l m) (decide (l = m)) := by
  unfold laws_eqInt64S.f
  by_cases h : l.length = m.length
  · refine Ev.pos (by omega) ?_
    refine Ev.upto l.length (fun i => ∀ j, j < i → l[j]? = m[j]?) (fun _ => ()) _ (fun k _ i => laws_eqInt64S.l0 k l m i) (fun i hi hp ih => ?_) (fun hp => ?_) (fun j hj => by omega)
    · refine Ev.succ ?_
      simp only [laws_eqInt64S.l0]
      refine Ev.pos (by omega) (Ev.pos (by omega) (Ev.pos (by omega) ?_))
      rw [rd_lt l i (by omega), rd_lt m i (by omega)]
      by_cases e : l[i] = m[i]
      · refine Ev.pos e ?_
        rw [wrap_id (by omega) (by omega)]
        exact ih (fun j hj' => by
          by_cases hji : j < i
          · exact hp j hji
          · obtain rfl : j = i := by omega
            rw [List.getElem?_eq_getElem (by omega), List.getElem?_eq_getElem (by omega), e])
      · refine Ev.neg e (Ev.val ?_)
        rw [eq_comm, Option.some.injEq, decide_eq_false_iff_not]
        rintro rfl
        exact e rfl
    · refine Ev.succ ?_
      simp only [laws_eqInt64S.l0]
      refine Ev.neg (by omega) (Ev.val ?_)
      have : l = m := List.ext_getElem? (fun j => by
        by_cases hjl : j < l.length
        · exact hp j (by omega)
        · rw [List.getElem?_eq_none (by omega), List.getElem?_eq_none (by omega)])
      simp [this]
  · refine Ev.neg (by omega) (Ev.val ?_)
    rw [eq_comm, Option.some.injEq, decide_eq_false_iff_not]
    rintro rfl
    exact h rfl

theorem szInt64S (l : List Int) (a : Int) (hl : l.length ≤ 35184372088832) (h0 : -1000000000000 ≤ a) (h1 : a ≤ 1000000000000) : laws_szInt64S.f l a = some (if a - l.length < 0 then -1 else a - l.length) := by
  unfold laws_szInt64S.f
  rw [wrap_id (x := a - l.length) (by omega) (by omega)]
  split <;> rfl

theorem rdOf_lt {α : Type} (d : α) (l : List α) (i : Nat) (h : i < l.length) : rdOf d l (i : Int) = l[i] := by
  unfold rdOf; rw [Int.toNat_natCast, List.getD_eq_getElem?_getD, List.getElem?_eq_getElem h]; rfl
theorem take_set_repB (l : List Bool) (i n : Nat) (h : i < l.length) (hn : l.length = n) : (l.take i ++ List.replicate (n - i) false).set i l[i] = l.take (i + 1) ++ List.replicate (n - (i + 1)) false := by
  subst hn
  have hl : (l.take i).length = i := by rw [List.length_take]; omega
  rw [List.set_append_right _ _ (by omega), hl, Nat.sub_self, show l.length - i = (l.length - (i + 1)) + 1 by omega, List.replicate_succ, List.set_cons_zero, List.take_succ_eq_append_getElem h, List.append_assoc]; rfl
theorem toBoolS (l : List Bool) (hl : l.length ≤ 281474976710656) : Ev (fun k => laws_toBoolS.f k l) l := by
  unfold laws_toBoolS.f
  refine Ev.pos (by omega) (Ev.pos (by omega) ?_)
  refine Ev.cast (Ev.upto l.length (fun _ => True) (fun i => l.take i ++ List.replicate (l.length - i) false) l (fun k s i => laws_toBoolS.l0 k l s i) (fun i hi _ ih => ?_) (fun _ => ?_) trivial) rfl
  · refine Ev.succ ?_
    simp only [laws_toBoolS.l0]
    refine Ev.pos (by omega) (Ev.pos (by omega) (Ev.pos (by rw [List.length_append, List.length_take, List.length_replicate]; omega) ?_))
    rw [wrap_id (by omega) (by omega), Int.toNat_natCast, rdOf_lt false l i hi, take_set_repB l i l.length hi rfl]
    exact ih trivial
  · refine Ev.succ ?_
    simp only [laws_toBoolS.l0]
    exact Ev.neg (by omega) (Ev.val (by rw [List.take_length, Nat.sub_self, List.replicate_zero, List.append_nil]))
theorem eqBoolS (l m : List Bool) (hl : l.length ≤ 281474976710656) : Ev (fun k => laws_eqBoolS.f k l m) (decide (l = m)) := by
  unfold laws_eqBoolS.f
  by_cases h : l.length = m.length
  · refine Ev.pos (by omega) ?_
    refine Ev.upto l.length (fun i => ∀ j, j < i → l[j]? = m[j]?) (fun _ => ()) _ (fun k _ i => laws_eqBoolS.l0 k l m i) (fun i hi hp ih => ?_) (fun hp => ?_) (fun j hj => by omega)
    · refine Ev.succ ?_
      simp only [laws_eqBoolS.l0]
      refine Ev.pos (by omega) (Ev.pos (by omega) (Ev.pos (by omega) ?_))
      rw [rdOf_lt false l i (by omega), rdOf_lt false m i (by omega)]
      by_cases e : l[i] = m[i]
      · refine Ev.neg (by simp [e]) ?_
        rw [wrap_id (by omega) (by omega)]
        exact ih (fun j hj' => by
          by_cases hji : j < i
          · exact hp j hji
          · obtain rfl : j = i := by omega
            rw [List.getElem?_eq_getElem (by omega), List.getElem?_eq_getElem (by omega), e])
      · refine Ev.pos (by simpa using e) (Ev.val ?_)
        rw [eq_comm, Option.some.injEq, decide_eq_false_iff_not]
        rintro rfl
        exact e rfl
    · refine Ev.succ ?_
      simp only [laws_eqBoolS.l0]
      refine Ev.neg (by omega) (Ev.val ?_)
      have : l = m := List.ext_getElem? (fun j => by
        by_cases hjl : j < l.length
        · exact hp j (by omega)
        · rw [List.getElem?_eq_none (by omega), List.getElem?_eq_none (by omega)])
      simp [this]
  · refine Ev.neg (by omega) (Ev.val ?_)
    rw [eq_comm, Option.some.injEq, decide_eq_false_iff_not]
    rintro rfl
    exact h rfl
theorem szBoolS (l : List Bool) (a : Int) (hl : l.length ≤ 281474976710656) (h0 : -1000000000000 ≤ a) (h1 : a ≤ 1000000000000) : laws_szBoolS.f l a = some (if a - l.length < 0 then -1 else a - l.length) := by
  unfold laws_szBoolS.f
  rw [wrap_id (x := a - l.length) (by omega) (by omega)]
  split <;> rfl
/-- The marks of a row of bools. -/
def bmarks (a : Int) (n : Nat) : List Bool := (List.range n).map fun (i : Nat) => Int.tmod (a + (i : Int)) 3 == 0
theorem bmarks_length (a : Int) (n : Nat) : (bmarks a n).length = n := by simp [bmarks]
theorem bmarks_succ (a : Int) (n : Nat) : bmarks a (n + 1) = bmarks a n ++ [Int.tmod (a + n) 3 == 0] := by simp [bmarks, List.range_succ]
theorem bmarks_get (a : Int) (n i : Nat) (h : i < n) : (bmarks a n)[i]'(by rw [bmarks_length]; exact h) = (Int.tmod (a + i) 3 == 0) := by simp [bmarks]
theorem bmarks_step (a : Int) (l : List Bool) (i : Nat) (h : i < l.length) : (bmarks a i ++ l.drop i).set i (Int.tmod (a + i) 3 == 0) = bmarks a (i + 1) ++ l.drop (i + 1) := by
  rw [List.set_append_right _ _ (by rw [bmarks_length]; exact Nat.le_refl _), bmarks_length, Nat.sub_self, List.drop_eq_getElem_cons h, List.set_cons_zero, bmarks_succ, List.append_assoc]; rfl
theorem markBoolS (l : List Bool) (a : Int) (hl : l.length ≤ 281474976710656) (h0 : -1 ≤ a) (h1 : a ≤ 1000000000000) : Ev (fun k => laws_markBoolS.f k l a) (a + l.length, bmarks a l.length) := by
  unfold laws_markBoolS.f
  refine Ev.congr (fun k => ?_) (Ev.upto l.length (fun _ => True) (fun i => (bmarks a i ++ l.drop i, a + (i : Int))) (a + l.length, bmarks a l.length) (fun k s i => laws_markBoolS.l0 k s.1 s.2 i) (fun i hi _ ih => ?_) (fun _ => ?_) trivial)
  · simp [bmarks]
  · refine Ev.succ ?_
    simp only [laws_markBoolS.l0]
    refine Ev.pos (by rw [List.length_append, bmarks_length, List.length_drop]; omega) (Ev.pos (by omega) ?_)
    rw [wrap_id (x := (i : Int) + 1) (by omega) (by omega), wrap_id (x := a + (i : Int) + 1) (by omega) (by omega), Int.toNat_natCast, bmarks_step a l i hi]
    have := ih trivial
    rw [show a + ((i + 1 : Nat) : Int) = a + (i : Int) + 1 by omega] at this
    exact this
  · refine Ev.succ ?_
    simp only [laws_markBoolS.l0]
    have e : bmarks a l.length ++ l.drop l.length = bmarks a l.length := by rw [List.drop_length, List.append_nil]
    rw [e]
    exact Ev.neg (by rw [bmarks_length]; omega) (Ev.now _)
theorem heldBoolS (n : Nat) (a : Int) (hl : n ≤ 281474976710656) (h0 : -1 ≤ a) (h1 : a ≤ 1000000000000) : Ev (fun k => laws_heldBoolS.f k (bmarks a n) a) (a + n) := by
  unfold laws_heldBoolS.f
  refine Ev.congr (fun k => ?_) (Ev.upto n (fun _ => True) (fun i => a + (i : Int)) (a + n) (fun k s i => laws_heldBoolS.l0 k (bmarks a n) s i) (fun i hi _ ih => ?_) (fun _ => ?_) trivial)
  · simp
  · refine Ev.succ ?_
    simp only [laws_heldBoolS.l0]
    refine Ev.pos (by rw [bmarks_length]; omega) (Ev.pos (by omega) (Ev.neg ?_ ?_))
    · rw [rdOf_lt _ _ i (by rw [bmarks_length]; exact hi), bmarks_get a n i hi]; simp
    · rw [wrap_id (x := (i : Int) + 1) (by omega) (by omega), wrap_id (x := a + (i : Int) + 1) (by omega) (by omega)]
      have := ih trivial
      rw [show a + ((i + 1 : Nat) : Int) = a + (i : Int) + 1 by omega] at this
      exact this
  · refine Ev.succ ?_
    simp only [laws_heldBoolS.l0]
    exact Ev.neg (by rw [bmarks_length]; omega) (Ev.val rfl)

theorem toGas (w r c : Int) (l : List Int) (b : List Bool) (hl : l.length ≤ 35184372088832) (hb : b.length ≤ 281474976710656) : Ev (fun k => laws_toGas.f k w r c l b) (w, r, c, l, b) := by
  unfold laws_toGas.f
  exact Ev.bind (toInt64S l hl) (Ev.bind (toBoolS b hb) (Ev.now _))
theorem eqGas (w r c : Int) (l : List Int) (b : List Bool) (w' r' c' : Int) (l' : List Int) (b' : List Bool) (hl : l.length ≤ 35184372088832) (hb : b.length ≤ 281474976710656) : Ev (fun k => laws_eqGas.f k w r c l b w' r' c' l' b') (decide (w = w' ∧ r = r' ∧ c = c' ∧ l = l' ∧ b = b')) := by
  unfold laws_eqGas.f
  exact Ev.cast (Ev.andP (fun _ => Ev.andP (fun _ => Ev.andP (fun _ => Ev.and (eqInt64S l l' hl) (fun _ => Ev.eqs (eqBoolS b b' hb)))))) (by simp only [Bool.decide_and])
theorem szGas (w r c : Int) (l : List Int) (b : List Bool) (hl : l.length ≤ 35184372088832) (hb : b.length ≤ 281474976710656) : ∃ n, laws_szGas.f w r c l b 1048576 = some n ∧ (¬ n < 0 → (l.length : Int) + b.length ≤ 1048576) := by
  unfold laws_szGas.f
  rw [szInt64S l _ hl (by omega) (by omega)]
  simp only [Option.bind_some]
  by_cases c1 : (1048576 : Int) - l.length < 0
  · rw [if_pos c1, if_pos (by omega)]; exact ⟨-1, rfl, fun h => absurd (by omega) h⟩
  · rw [if_neg c1, if_neg c1, szBoolS b _ hb (by omega) (by omega)]
    simp only [Option.bind_some]
    by_cases c2 : (1048576 : Int) - l.length - b.length < 0
    · rw [if_pos c2, if_pos (by omega)]; exact ⟨-1, rfl, fun h => absurd (by omega) h⟩
    · rw [if_neg c2, if_neg c2]; exact ⟨_, rfl, fun _ => by omega⟩

theorem markInt64S (l : List Int) (a : Int) (hl : l.length ≤ 35184372088832) (h0 : -1 ≤ a) (h1 : a ≤ 1000000000000) : Ev (fun k => laws_markInt64S.f k l a) (a + l.length, marks a l.length) := by
  unfold laws_markInt64S.f
  refine Ev.congr (fun k => ?_) (Ev.upto l.length (fun _ => True) (fun i => (marks a i ++ l.drop i, a + (i : Int))) (a + l.length, marks a l.length) (fun k s i => laws_markInt64S.l0 k s.1 s.2 i) (fun i hi _ ih => ?_) (fun _ => ?_) trivial)
  · simp [marks]
  · refine Ev.succ ?_
    simp only [laws_markInt64S.l0]
    refine Ev.pos (by rw [List.length_append, marks_length, List.length_drop]; omega) (Ev.pos (by omega) ?_)
    rw [wrap_id (x := (i : Int) + 1) (by omega) (by omega), wrap_id (x := a + (i : Int) + 1) (by omega) (by omega), Int.toNat_natCast, marks_step a l i hi]
    have := ih trivial
    rw [show a + ((i + 1 : Nat) : Int) = a + (i : Int) + 1 by omega] at this
    exact this
  · refine Ev.succ ?_
    simp only [laws_markInt64S.l0]
    have e : marks a l.length ++ l.drop l.length = marks a l.length := by rw [List.drop_length, List.append_nil]
    rw [e]
    exact Ev.neg (by rw [marks_length]; omega) (Ev.now _)

theorem heldInt64S (n : Nat) (a : Int) (hl : n ≤ 35184372088832) (h0 : -1 ≤ a) (h1 : a ≤ 1000000000000) : Ev (fun k => laws_heldInt64S.f k (marks a n) a) (a + n) := by
  unfold laws_heldInt64S.f
  refine Ev.congr (fun k => ?_) (Ev.upto n (fun _ => True) (fun i => a + (i : Int)) (a + n) (fun k s i => laws_heldInt64S.l0 k (marks a n) s i) (fun i hi _ ih => ?_) (fun _ => ?_) trivial)
  · simp
  · refine Ev.succ ?_
    simp only [laws_heldInt64S.l0]
    refine Ev.pos (by rw [marks_length]; omega) (Ev.pos (by omega) (Ev.pos ?_ ?_))
    · rw [rd_lt _ i (by rw [marks_length]; exact hi), marks_get a n i hi]
    · rw [wrap_id (x := (i : Int) + 1) (by omega) (by omega), wrap_id (x := a + (i : Int) + 1) (by omega) (by omega)]
      have := ih trivial
      rw [show a + ((i + 1 : Nat) : Int) = a + (i : Int) + 1 by omega] at this
      exact this
  · refine Ev.succ ?_
    simp only [laws_heldInt64S.l0]
    exact Ev.neg (by rw [marks_length]; omega) (Ev.val rfl)

theorem markGas (w r c : Int) (l : List Int) (b : List Bool) (a : Int) (hl : l.length ≤ 1000000000) (hb : b.length ≤ 1000000000) (h0 : 0 ≤ a) (h1 : a ≤ 1000000000) : Ev (fun k => laws_markGas.f k w r c l b a) (a + l.length + b.length, marks a l.length, bmarks (a + l.length) b.length) := by
  unfold laws_markGas.f
  exact Ev.bind (markInt64S l a (by omega) (by omega) (by omega)) (Ev.bind (markBoolS b (a + l.length) (by omega) (by omega) (by omega)) (Ev.now _))
theorem heldGas (w r c : Int) (n m : Nat) (a : Int) (hl : n ≤ 1000000000) (hb : m ≤ 1000000000) (h0 : 0 ≤ a) (h1 : a ≤ 1000000000) : Ev (fun k => laws_heldGas.f k w r c (marks a n) (bmarks (a + n) m) a) (a + n + m) := by
  unfold laws_heldGas.f
  exact Ev.bind (heldInt64S n a (by omega) (by omega) (by omega)) (Ev.neg (by omega) (Ev.bind (heldBoolS m (a + n) (by omega) (by omega) (by omega)) (Ev.neg (by omega) (Ev.now _))))

theorem within (a b c : Int) : impl_within.f a b c = some (decide (b ≤ a ∧ a ≤ c)) := by
  unfold impl_within.f
  by_cases h : a ≥ b
  · rw [if_pos h]; simp; omega
  · rw [if_neg h]; simp; omega

theorem areWithin (l : List Int) (a b : Int) (hl : l.length ≤ 35184372088832) : Ev (fun k => impl_areWithin.f k l a b) (allIn l a b) := by
  unfold impl_areWithin.f
  refine Ev.upto l.length (fun i => ∀ j, (hj : j < l.length) → j < i → a ≤ l[j] ∧ l[j] ≤ b) (fun _ => ()) _ (fun k _ i => impl_areWithin.l0 k a b l l.length i) (fun i hi hp ih => ?_) (fun hp => ?_) (fun j hj h => by omega)
  · refine Ev.succ ?_
    simp only [impl_areWithin.l0]
    refine Ev.pos (by omega) (Ev.pos (by omega) (Ev.pos (by omega) ?_))
    rw [rd_lt l i (by omega), wrap_id (by omega) (by omega), within]
    by_cases c : a ≤ l[i] ∧ l[i] ≤ b
    · exact Ev.bnd rfl (Ev.pos (by simpa using c) (ih (upTo_succ (p := fun x => a ≤ x ∧ x ≤ b) hi hp c)))
    · exact Ev.bnd rfl (Ev.neg (by simpa using c) (Ev.val (by rw [allIn_false i (by omega) c])))
  · refine Ev.succ ?_
    simp only [impl_areWithin.l0]
    exact Ev.neg (by omega) (Ev.val (by rw [allIn_true (fun j hj' => hp j hj' (by omega))]))

theorem areMany (l : List Int) (a b c d : Int) (hl : l.length ≤ 35184372088832) : Ev (fun k => impl_areMany.f k l a b c d) (decide (a ≤ l.length ∧ l.length ≤ b) && allIn l c d) := by
  unfold impl_areMany.f
  refine Ev.bnd (within _ _ _) ?_
  by_cases h : a ≤ l.length ∧ l.length ≤ b
  · refine Ev.pos (by simpa using h) (Ev.cast (Ev.bind (areWithin l c d hl) (Ev.now _)) (by simp [h]))
  · exact Ev.neg (by simpa using h) (Ev.val (by simp [h]))

theorem l00In (a b c : Int) : spec_l00In.f a b c = some (decide (b ≤ a ∧ a ≤ c)) := by
  unfold spec_l00In.f
  by_cases h : a ≥ b
  · rw [if_pos h]; simp; omega
  · rw [if_neg h]; simp; omega

/-- The greatest cell of a gas. -/
def topOf (w : Int) : Int := if w = 4 then 15 else 63
theorem top_spec {w : Int} (h : w = 4 ∨ w = 6) : wrap64 ((shl .i64 1 (IntKind.u64.wrap w)) - 1) = topOf w := by rcases h with rfl | rfl <;> decide +kernel
theorem top_impl {w : Int} (h : w = 4 ∨ w = 6) : wrap64 ((shl .i64 1 w) - 1) = topOf w := by rcases h with rfl | rfl <;> decide +kernel
/-- A gas is valid. -/
def validGas (w r c : Int) (l : List Int) (b : List Bool) : Bool := decide (w = 4 ∨ w = 6) && ((decide (1 ≤ r ∧ r ≤ 16) && decide (1 ≤ c ∧ c ≤ 16)) && (decide ((l.length : Int) = r * c) && (decide ((b.length : Int) = l.length) && allIn l 0 (topOf w))))
/-- The same, as facts. -/
structure GasOk (w r c : Int) (l : List Int) (b : List Bool) : Prop where
  w0 : w = 4 ∨ w = 6
  r0 : 1 ≤ r
  r1 : r ≤ 16
  c0 : 1 ≤ c
  c1 : c ≤ 16
  n : (l.length : Int) = r * c
  nb : b.length = l.length
  all : ∀ x ∈ l, 0 ≤ x ∧ x ≤ topOf w
theorem GasOk.of {w r c : Int} {l : List Int} {b : List Bool} (h : validGas w r c l b = true) : GasOk w r c l b := by
  unfold validGas at h
  simp only [Bool.and_eq_true, decide_eq_true_eq] at h
  exact ⟨h.1, h.2.1.1.1, h.2.1.1.2, h.2.1.2.1, h.2.1.2.2, h.2.2.1, by have := h.2.2.2.1; omega, allIn_iff.1 h.2.2.2.2⟩
theorem GasOk.len {w r c : Int} {l : List Int} {b : List Bool} (h : GasOk w r c l b) : l.length ≤ 256 := by
  have h1 : r * c ≤ 16 * 16 := Int.mul_le_mul h.r1 h.c1 (by have := h.c0; omega) (by omega)
  have := h.n
  omega
theorem gasSpec (w r c : Int) (l : List Int) (b : List Bool) (hl : l.length ≤ 35184372088832) (hb : b.length ≤ 281474976710656) : Ev (fun k => spec_l06Is.f k w r c l b) (validGas w r c l b) := by
  have no : ∀ x : Bool, x = true → Ev (fun k => spec_l06Is.j0 k x w r c l b) false := fun x hx => by
    refine Ev.succ ?_
    simp only [spec_l06Is.j0]
    exact Ev.pos hx (Ev.now _)
  have body : (w = 4 ∨ w = 6) → Ev (fun k => (spec_l06Sides.f r c).bind fun t => (if t = true then (if (l.length : Int) = (wrap64 (r * c)) then (spec_l06Is.j0 k ((b.length : Int) != (l.length : Int)) w r c l b) else (spec_l06Is.j0 k true w r c l b)) else (spec_l06Is.j0 k true w r c l b))) (validGas w r c l b) := fun hw => by
    unfold validGas
    rw [decide_eq_true hw, Bool.true_and]
    refine Ev.bnd (a := (decide (1 ≤ r ∧ r ≤ 16) && decide (1 ≤ c ∧ c ≤ 16))) ?_ ?_
    · unfold spec_l06Sides.f
      rw [l00In, l00In]
      simp only [Option.bind_some]
      by_cases h : 1 ≤ r ∧ r ≤ 16
      · rw [decide_eq_true h, if_pos rfl, Bool.true_and]
      · rw [decide_eq_false h, if_neg (by simp), Bool.false_and]
    · by_cases hs : (decide (1 ≤ r ∧ r ≤ 16) && decide (1 ≤ c ∧ c ≤ 16)) = true
      · rw [hs, Bool.true_and]
        rw [Bool.and_eq_true, decide_eq_true_eq, decide_eq_true_eq] at hs
        have h1 : r * c ≤ 16 * 16 := Int.mul_le_mul hs.1.2 hs.2.2 (by omega) (by omega)
        have h2 : 0 ≤ r * c := Int.mul_nonneg (by omega) (by omega)
        rw [wrap_id (x := r * c) (by omega) (by omega)]
        refine Ev.pos rfl ?_
        by_cases hn : (l.length : Int) = r * c
        · rw [decide_eq_true hn, Bool.true_and]
          refine Ev.pos hn ?_
          by_cases hm : (b.length : Int) = l.length
          · rw [decide_eq_true hm, Bool.true_and]
            refine Ev.succ ?_
            simp only [spec_l06Is.j0]
            refine Ev.neg (by simp [hm]) ?_
            refine Ev.upto l.length (fun i => ∀ j, (hj : j < l.length) → j < i → 0 ≤ l[j] ∧ l[j] ≤ topOf w) (fun _ => ()) _ (fun k _ i => spec_l06Is.l0 k i w r c l b) (fun i hi hp ih => ?_) (fun hp => ?_) (fun j hj h => by omega)
            · refine Ev.succ ?_
              simp only [spec_l06Is.l0]
              rw [top_spec hw, rd_lt l i hi, wrap_id (x := (i : Int) + 1) (by omega) (by omega)]
              refine Ev.pos (by omega) (Ev.pos (by omega) (Ev.pos (by rcases hw with rfl | rfl <;> decide +kernel) (Ev.bnd (l00In _ _ _) ?_)))
              by_cases g : 0 ≤ l[i] ∧ l[i] ≤ topOf w
              · exact Ev.pos (by simpa using g) (ih (upTo_succ (p := fun x => 0 ≤ x ∧ x ≤ topOf w) hi hp g))
              · exact Ev.neg (by simpa using g) (Ev.val (by rw [allIn_false i (by omega) g]))
            · refine Ev.succ ?_
              simp only [spec_l06Is.l0]
              exact Ev.neg (by omega) (Ev.val (by rw [allIn_true (fun j hj' => hp j hj' (by omega))]))
          · rw [decide_eq_false hm, Bool.false_and]
            exact no _ (by simpa using hm)
        · rw [decide_eq_false hn, Bool.false_and]
          exact Ev.neg hn (no _ rfl)
      · rw [Bool.eq_false_iff.mpr hs, Bool.false_and]
        exact Ev.neg (by simp) (no _ rfl)
  unfold spec_l06Is.f
  by_cases h4 : w = 4
  · exact Ev.pos h4 (body (.inl h4))
  · refine Ev.neg h4 ?_
    by_cases h6 : w = 6
    · exact Ev.pos h6 (body (.inr h6))
    · refine Ev.neg h6 ?_
      unfold validGas
      rw [decide_eq_false (by omega), Bool.false_and]
      exact no _ rfl
theorem gasImpl (w r c : Int) (l : List Int) (b : List Bool) (hl : l.length ≤ 35184372088832) (hb : b.length ≤ 281474976710656) : Ev (fun k => impl_ValidGas.f k w r c l b) (validGas w r c l b) := by
  have body : (w = 4 ∨ w = 6) → Ev (fun k => (impl_areSides.f r c).bind fun t => (if t = true then (if 0 ≤ w then ((impl_areMany.f k l (wrap64 (r * c)) (wrap64 (r * c)) 0 (wrap64 ((shl .i64 1 w) - 1))).bind fun t203 => (if t203 = true then (some ((b.length : Int) == (wrap64 (r * c)))) else (some false))) else (none)) else (some false))) (validGas w r c l b) := fun hw => by
    unfold validGas
    rw [decide_eq_true hw, Bool.true_and]
    refine Ev.andB (a := (decide (1 ≤ r ∧ r ≤ 16) && decide (1 ≤ c ∧ c ≤ 16))) ?_ (fun hs => ?_)
    · unfold impl_areSides.f
      rw [within, within]
      simp only [Option.bind_some]
      by_cases h : 1 ≤ r ∧ r ≤ 16
      · rw [decide_eq_true h, if_pos rfl, Bool.true_and]
      · rw [decide_eq_false h, if_neg (by simp), Bool.false_and]
    · rw [Bool.and_eq_true, decide_eq_true_eq, decide_eq_true_eq] at hs
      have h1 : r * c ≤ 16 * 16 := Int.mul_le_mul hs.1.2 hs.2.2 (by omega) (by omega)
      have h2 : 0 ≤ r * c := Int.mul_nonneg (by omega) (by omega)
      rw [wrap_id (x := r * c) (by omega) (by omega), top_impl hw]
      refine Ev.pos (by omega) ?_
      refine Ev.cast (Ev.and (areMany l _ _ 0 (topOf w) hl) (fun _ => Ev.now _)) ?_
      by_cases hn : (l.length : Int) = r * c
      · rw [decide_eq_true hn, decide_eq_true (show r * c ≤ (l.length : Int) ∧ (l.length : Int) ≤ r * c by omega), Bool.true_and, Bool.true_and, Bool.and_comm]
        congr 1
        rw [hn]; rfl
      · rw [decide_eq_false hn, decide_eq_false (show ¬ (r * c ≤ (l.length : Int) ∧ (l.length : Int) ≤ r * c) by omega), Bool.false_and, Bool.false_and, Bool.false_and]
  unfold impl_ValidGas.f
  by_cases h4 : w = 4
  · exact Ev.pos h4 (body (.inl h4))
  · refine Ev.neg h4 ?_
    by_cases h6 : w = 6
    · exact Ev.pos h6 (body (.inr h6))
    · refine Ev.neg h6 (Ev.val ?_)
      unfold validGas
      rw [decide_eq_false (by omega), Bool.false_and]

/-- The place on a ring, from 0 on. -/
def fm (x : Int) (n : Int) : Int := Int.tmod (wrap64 ((Int.tmod x n) + n)) n
theorem fm_ok (x n : Int) (h0 : 0 < n) (hn : n ≤ 1000000000000) : 0 ≤ fm x n ∧ fm x n < n := by
  unfold fm
  have h1 := Int.tmod_lt_of_pos x h0
  have h2 : -n < Int.tmod x n := by
    have := Int.tmod_lt_of_pos (-x) h0
    rw [Int.neg_tmod] at this
    omega
  rw [wrap_id (x := Int.tmod x n + n) (by omega) (by omega)]
  exact ⟨Int.tmod_nonneg _ (by omega), Int.tmod_lt_of_pos _ h0⟩

theorem floorMod (a b : Int) (h : b ≠ 0) : impl_floorMod.f a b = some (fm a b) := by unfold impl_floorMod.f; rw [if_neg h]; rfl

/-- The way of a bit, as the reference tells it. -/
def wayS (w k : Int) : Int × Int := (spec_l06Way.f w k).getD (0, 0)
theorem way4 : ∀ k : Fin 4, spec_l06Way.f 4 (k.val : Int) = some (wayS 4 (k.val : Int)) ∧ impl_Gas_goes.f 4 1 1 [] [] (k.val : Int) = some (wayS 4 (k.val : Int)) ∧ -1 ≤ (wayS 4 (k.val : Int)).1 ∧ (wayS 4 (k.val : Int)).1 ≤ 1 ∧ -1 ≤ (wayS 4 (k.val : Int)).2 ∧ (wayS 4 (k.val : Int)).2 ≤ 1 := by decide +kernel
theorem way6 : ∀ k : Fin 6, spec_l06Way.f 6 (k.val : Int) = some (wayS 6 (k.val : Int)) ∧ impl_Gas_goes.f 6 1 1 [] [] (k.val : Int) = some (wayS 6 (k.val : Int)) ∧ -1 ≤ (wayS 6 (k.val : Int)).1 ∧ (wayS 6 (k.val : Int)).1 ≤ 1 ∧ -1 ≤ (wayS 6 (k.val : Int)).2 ∧ (wayS 6 (k.val : Int)).2 ≤ 1 := by decide +kernel
theorem wayW {w : Int} (hw : w = 4 ∨ w = 6) (k : Nat) (hk : (k : Int) < w) (r c : Int) (l : List Int) (b : List Bool) : spec_l06Way.f w (k : Int) = some (wayS w (k : Int)) ∧ impl_Gas_goes.f w r c l b (k : Int) = some (wayS w (k : Int)) ∧ -1 ≤ (wayS w (k : Int)).1 ∧ (wayS w (k : Int)).1 ≤ 1 ∧ -1 ≤ (wayS w (k : Int)).2 ∧ (wayS w (k : Int)).2 ≤ 1 := by
  rcases hw with rfl | rfl
  · exact way4 ⟨k, by omega⟩
  · exact way6 ⟨k, by omega⟩
theorem u64_small (k : Nat) (hk : k < 6) : IntKind.u64.wrap (k : Int) = (k : Int) := by
  have : ∀ k : Fin 6, IntKind.u64.wrap (k.val : Int) = (k.val : Int) := by decide +kernel
  exact this ⟨k, hk⟩
theorem fm_near : ∀ n : Fin 17, ∀ a : Fin 19, (n.val : Int) ≠ 0 → (a.val : Int) ≤ n.val + 1 → Int.tmod (wrap64 (((a.val : Int) - 1) + n.val)) n.val = fm ((a.val : Int) - 1) n.val := by decide +kernel
theorem fm_small {x n : Int} (h0 : 1 ≤ n) (h1 : n ≤ 16) (g0 : -1 ≤ x) (g1 : x ≤ n) : Int.tmod (wrap64 (x + n)) n = fm x n := by
  obtain ⟨m, rfl⟩ := Int.eq_ofNat_of_zero_le (show 0 ≤ n by omega)
  obtain ⟨a, ha⟩ := Int.eq_ofNat_of_zero_le (show 0 ≤ x + 1 by omega)
  have := fm_near ⟨m, by omega⟩ ⟨a, by omega⟩ (by show (m : Int) ≠ 0; omega) (by show (a : Int) ≤ m + 1; omega)
  have e : x = (a : Int) - 1 := by omega
  rw [e]
  exact this
/-- Where a bit of a cell goes. -/
def tgt (w r c : Int) (i j : Nat) (k : Nat) : Int := fm ((i : Int) + (wayS w k).1) r * c + fm ((j : Int) + (wayS w k).2) c
theorem tgt_in (w : Int) {r c : Int} (i j k : Nat) (r0 : 1 ≤ r) (r1 : r ≤ 16) (c0 : 1 ≤ c) (c1 : c ≤ 16) : 0 ≤ tgt w r c i j k ∧ tgt w r c i j k < r * c ∧ fm ((i : Int) + (wayS w k).1) r * c ≤ 256 ∧ 0 ≤ fm ((i : Int) + (wayS w k).1) r * c := by
  have h1 := fm_ok ((i : Int) + (wayS w k).1) r (by omega) (by omega)
  have h2 := fm_ok ((j : Int) + (wayS w k).2) c (by omega) (by omega)
  have h3 : 0 ≤ fm ((i : Int) + (wayS w k).1) r * c := Int.mul_nonneg h1.1 (by omega)
  have h4 : (fm ((i : Int) + (wayS w k).1) r + 1) * c ≤ r * c := Int.mul_le_mul_of_nonneg_right (by omega) (by omega)
  have h5 : r * c ≤ 16 * 16 := Int.mul_le_mul r1 c1 (by omega) (by omega)
  rw [Int.add_mul] at h4
  unfold tgt
  omega
/-- One bit of a cell is sent. -/
def sput (w r c : Int) (i j : Nat) (x : Int) (k : Nat) (L : List Int) : List Int := if Go.bits .and .i64 (shr .i64 x (k : Int)) 1 = 1 then L.set (tgt w r c i j k).toNat (Go.bits .or .i64 (rd L (tgt w r c i j k)) (shl .i64 1 (k : Int))) else L
/-- The first k bits of a cell are sent. -/
def scell (w r c : Int) (i j : Nat) (x : Int) : Nat → List Int → List Int
  | 0, L => L
  | k + 1, L => sput w r c i j x k (scell w r c i j x k L)
/-- The first n cells are sent. -/
def sgrid (w r c : Int) (l : List Int) : Nat → List Int
  | 0 => List.replicate l.length 0
  | n + 1 => scell w r c (n / c.toNat) (n % c.toNat) (rd l (n : Int)) w.toNat (sgrid w r c l n)
theorem sput_length (w r c : Int) (i j : Nat) (x : Int) (k : Nat) (L : List Int) : (sput w r c i j x k L).length = L.length := by unfold sput; split <;> simp
theorem scell_length (w r c : Int) (i j : Nat) (x : Int) (k : Nat) (L : List Int) : (scell w r c i j x k L).length = L.length := by
  induction k with
  | zero => rfl
  | succ k ih => simp only [scell]; rw [sput_length, ih]
theorem sgrid_length (w r c : Int) (l : List Int) (n : Nat) : (sgrid w r c l n).length = l.length := by
  induction n with
  | zero => simp [sgrid]
  | succ n ih => simp only [sgrid]; rw [scell_length, ih]
/-- The cells behind streaming. -/
def streamL (w r c : Int) (l : List Int) : List Int := sgrid w r c l l.length
theorem streamL_length (w r c : Int) (l : List Int) : (streamL w r c l).length = l.length := sgrid_length _ _ _ _ _
theorem or4 : ∀ x : Fin 16, ∀ k : Fin 4, 0 ≤ Go.bits .or .i64 (x.val : Int) (shl .i64 1 (k.val : Int)) ∧ Go.bits .or .i64 (x.val : Int) (shl .i64 1 (k.val : Int)) ≤ 15 := by decide +kernel
theorem or6 : ∀ x : Fin 64, ∀ k : Fin 6, 0 ≤ Go.bits .or .i64 (x.val : Int) (shl .i64 1 (k.val : Int)) ∧ Go.bits .or .i64 (x.val : Int) (shl .i64 1 (k.val : Int)) ≤ 63 := by decide +kernel
theorem orW {w : Int} (hw : w = 4 ∨ w = 6) {x : Int} (h0 : 0 ≤ x) (h1 : x ≤ topOf w) (k : Nat) (hk : (k : Int) < w) : 0 ≤ Go.bits .or .i64 x (shl .i64 1 (k : Int)) ∧ Go.bits .or .i64 x (shl .i64 1 (k : Int)) ≤ topOf w := by
  obtain ⟨n, rfl⟩ := Int.eq_ofNat_of_zero_le h0
  rcases hw with rfl | rfl
  · exact or4 ⟨n, by have : topOf 4 = 15 := rfl; omega⟩ ⟨k, by omega⟩
  · exact or6 ⟨n, by have : topOf 6 = 63 := rfl; omega⟩ ⟨k, by omega⟩
theorem scell_in {w r c : Int} (hw : w = 4 ∨ w = 6) (r0 : 1 ≤ r) (r1 : r ≤ 16) (c0 : 1 ≤ c) (c1 : c ≤ 16) (i j : Nat) (x : Int) (L : List Int) (hL : (L.length : Int) = r * c) (h : ∀ y ∈ L, 0 ≤ y ∧ y ≤ topOf w) (k : Nat) (hk : (k : Int) ≤ w) : ∀ y ∈ scell w r c i j x k L, 0 ≤ y ∧ y ≤ topOf w := by
  induction k with
  | zero => exact h
  | succ k ih =>
    have ih' := ih (by omega)
    simp only [scell]
    unfold sput
    split
    · intro y hy
      have hl := scell_length w r c i j x k L
      have ht := tgt_in w i j k r0 r1 c0 c1
      rcases List.mem_or_eq_of_mem_set hy with h' | rfl
      · exact ih' y h'
      · have hm := ih' _ (rd_mem (scell w r c i j x k L) (tgt w r c i j k) ht.1 (by rw [hl]; omega))
        exact orW hw hm.1 hm.2 k (by omega)
    · exact ih'
theorem streamL_ok {w r c : Int} {l : List Int} {b : List Bool} (h : GasOk w r c l b) : GasOk w r c (streamL w r c l) b := by
  have hl := streamL_length w r c l
  refine ⟨h.w0, h.r0, h.r1, h.c0, h.c1, by rw [hl]; exact h.n, by rw [hl]; exact h.nb, ?_⟩
  unfold streamL
  generalize l.length = m
  induction m with
  | zero => intro x hx; simp only [sgrid, List.mem_replicate] at hx; rw [hx.2]; have : topOf w = 15 ∨ topOf w = 63 := by unfold topOf; split <;> simp
            omega
  | succ m ih => simp only [sgrid]; exact scell_in h.w0 h.r0 h.r1 h.c0 h.c1 _ _ _ _ (by rw [sgrid_length]; exact h.n) ih _ (by rcases h.w0 with rfl | rfl <;> decide)
theorem streamCellSpec {w r c : Int} {l : List Int} {b : List Bool} (h : GasOk w r c l b) {i j : Nat} (hi : (i : Int) < r) (hj : (j : Int) < c) (L : List Int) (hL : (L.length : Int) = r * c) {ρ : Int × Int × Int × List Int × List Bool}
    (ih : Ev (fun k => spec_l06Stream.l2 k i (wrap64 ((j : Int) + 1)) w r c l b w r c (scell w r c i j (rd l ((i : Int) * c + j)) w.toNat L) b) ρ) : Ev (fun k => spec_l06Stream.l3 k i j 0 w r c l b w r c L b) ρ := by
  have hw := h.w0
  have r0 := h.r0; have r1 := h.r1; have c0 := h.c0; have c1 := h.c1
  have p1 : (i : Int) * c ≤ 16 * 16 := Int.mul_le_mul (by omega) c1 (by omega) (by omega)
  have p2 : 0 ≤ (i : Int) * c := Int.mul_nonneg (by omega) (by omega)
  have p3 : ((i : Int) + 1) * c ≤ r * c := Int.mul_le_mul_of_nonneg_right (by omega) (by omega)
  rw [Int.add_mul] at p3
  have hn := h.n
  have w4 : 0 ≤ w ∧ w ≤ 6 := by omega
  have ew : ((w.toNat : Nat) : Int) = w := by omega
  refine Ev.upto w.toNat (fun _ => True) (fun k => scell w r c i j (rd l ((i : Int) * c + j)) k L) ρ (fun k s x => spec_l06Stream.l3 k i j x w r c l b w r c s b) (fun m hm _ ihm => ?_) (fun _ => ?_) trivial
  · refine Ev.succ ?_
    simp only [spec_l06Stream.l3]
    have ihm' := ihm trivial
    have ww := wayW hw m (by omega) r c l b
    have hs := scell_length w r c i j (rd l ((i : Int) * c + j)) m L
    have ht := tgt_in w i j m r0 r1 c0 c1
    rw [wrap_id (x := (i : Int) * c) (by omega) (by omega), wrap_id (x := (i : Int) * c + j) (by omega) (by omega), wrap_id (x := (m : Int) + 1) (by omega) (by omega), u64_small m (by omega)]
    refine Ev.pos (by omega) (Ev.pos (by omega) (Ev.pos (by omega) (Ev.pos (by omega) ?_)))
    simp only [scell, sput] at ihm'
    by_cases g : Go.bits .and .i64 (shr .i64 (rd l ((i : Int) * c + j)) (m : Int)) 1 = 1
    · rw [if_pos g] at ihm'
      refine Ev.pos g (Ev.bnd ww.1 (Ev.bnd (a := tgt w r c i j m) ?_ (Ev.pos ht.1 (Ev.pos (by rw [hs]; omega) ihm'))))
      unfold spec_l06At.f
      rw [wrap_id (x := (i : Int) + (wayS w m).1) (by omega) (by omega), wrap_id (x := (j : Int) + (wayS w m).2) (by omega) (by omega), fm_small r0 r1 (by omega) (by omega), fm_small c0 c1 (by omega) (by omega), if_neg (by omega), if_neg (by omega), wrap_id (x := fm ((i : Int) + (wayS w m).1) r * c) (by omega) (by omega)]
      show some (wrap64 (tgt w r c i j m)) = _
      have h5 : r * c ≤ 16 * 16 := Int.mul_le_mul r1 c1 (by omega) (by omega)
      rw [wrap_id (by omega) (by omega)]
    · rw [if_neg g] at ihm'
      exact Ev.neg g ihm'
  · refine Ev.succ ?_
    simp only [spec_l06Stream.l3]
    exact Ev.neg (by omega) ih
theorem streamSpec {w r c : Int} {l : List Int} {b : List Bool} (h : GasOk w r c l b) : Ev (fun k => spec_l06Stream.f k w r c l b) (w, r, c, streamL w r c l, b) := by
  have hlen := h.len
  have hnb := h.nb
  have hn := h.n
  have r0 := h.r0; have r1 := h.r1; have c0 := h.c0; have c1 := h.c1
  obtain ⟨R, rfl⟩ := Int.eq_ofNat_of_zero_le (show 0 ≤ r by omega)
  obtain ⟨C, rfl⟩ := Int.eq_ofNat_of_zero_le (show 0 ≤ c by omega)
  have hRC : l.length = R * C := by exact_mod_cast hn
  unfold spec_l06Stream.f
  refine Ev.bnd (a := (w, (R : Int), (C : Int), l, b)) ?_ ?_
  · unfold spec_l06Own.f
    simp only [Option.bind_some]
    rw [if_pos (by simp; omega), if_pos (by simp; omega)]
    simp
  · refine Ev.congr (fun k => ?_) (Ev.upto l.length (fun _ => True) (fun i => List.replicate i 0 ++ l.drop i) (w, (R : Int), (C : Int), streamL w R C l, b) (fun k s i => spec_l06Stream.l0 k i w R C l b w R C s b) (fun i hi _ ih => ?_) (fun _ => ?_) trivial)
    · simp
    · refine Ev.succ ?_
      simp only [spec_l06Stream.l0]
      have ih' := ih trivial
      have e : (List.replicate i (0 : Int) ++ l.drop i).set i 0 = List.replicate (i + 1) 0 ++ l.drop (i + 1) := by
        rw [List.set_append_right _ _ (by simp), List.length_replicate, Nat.sub_self, List.drop_eq_getElem_cons hi, List.set_cons_zero, List.replicate_succ', List.append_assoc]; rfl
      rw [← e] at ih'
      rw [wrap_id (x := (i : Int) + 1) (by omega) (by omega), Int.toNat_natCast]
      exact Ev.pos (by rw [List.length_append, List.length_replicate, List.length_drop]; omega) (Ev.pos (by omega) ih')
    · refine Ev.succ ?_
      simp only [spec_l06Stream.l0]
      rw [List.drop_length, List.append_nil]
      refine Ev.neg (by rw [List.length_replicate]; omega) ?_
      refine Ev.grid R C (fun n => sgrid w R C l n) (w, (R : Int), (C : Int), streamL w R C l, b) (fun k s i => spec_l06Stream.l1 k i w R C l b w R C s b) (fun k s i j => spec_l06Stream.l2 k i j w R C l b w R C s b) (fun i hi ih => ?_) (fun i j hi hj ih => ?_) (fun i hi ih => ?_) ?_
      · refine Ev.succ ?_
        simp only [spec_l06Stream.l1]
        exact Ev.pos (by omega) ih
      · refine Ev.succ ?_
        simp only [spec_l06Stream.l2]
        refine Ev.pos (by omega) (streamCellSpec h (by omega) (by omega) _ (by rw [sgrid_length]; exact hn) ?_)
        have h1 : (i * C + j) / C = i := by rw [Nat.mul_comm, Nat.mul_add_div (by omega), Nat.div_eq_of_lt hj, Nat.add_zero]
        have h2 : (i * C + j) % C = j := by rw [Nat.mul_comm, Nat.mul_add_mod, Nat.mod_eq_of_lt hj]
        simp only [sgrid, Int.toNat_natCast, h1, h2] at ih
        rw [wrap_id (by omega) (by omega)]
        push_cast at ih
        exact ih
      · refine Ev.succ ?_
        simp only [spec_l06Stream.l2]
        rw [wrap_id (by omega) (by omega)]
        exact Ev.neg (by omega) ih
      · refine Ev.succ ?_
        simp only [spec_l06Stream.l1]
        refine Ev.neg (by omega) ?_
        unfold streamL
        rw [hRC]
        exact Ev.now _
theorem streamCellImpl {w r c : Int} {l : List Int} {b : List Bool} (h : GasOk w r c l b) {n : Nat} (hn : n < l.length) (L : List Int) (hL : (L.length : Int) = r * c) {ρ : Int × Int × Int × List Int × List Bool}
    (ih : Ev (fun k => impl_Gas_stream.l0 k l l.length (wrap64 ((n : Int) + 1)) w r c l b w r c (scell w r c (n / c.toNat) (n % c.toNat) (rd l (n : Int)) w.toNat L) b) ρ) : Ev (fun k => impl_Gas_stream.l1 k n (rd l (n : Int)) l l.length n w 0 w r c l b w r c L b) ρ := by
  have hw := h.w0
  have r0 := h.r0; have r1 := h.r1; have c0 := h.c0; have c1 := h.c1
  have w4 : 0 ≤ w ∧ w ≤ 6 := by omega
  have hlen := h.len
  obtain ⟨C, rfl⟩ := Int.eq_ofNat_of_zero_le (show 0 ≤ c by omega)
  have ih' := ih
  rw [Int.toNat_natCast] at ih'
  obtain ⟨i, hi⟩ : ∃ i, i = n / C := ⟨_, rfl⟩
  obtain ⟨j, hj⟩ : ∃ j, j = n % C := ⟨_, rfl⟩
  have d1 : Int.tdiv (n : Int) (C : Int) = (i : Int) := by rw [hi]; rfl
  have d2 : Int.tmod (n : Int) (C : Int) = (j : Int) := by rw [hj]; rfl
  have d3 : i ≤ n := by rw [hi]; exact Nat.div_le_self _ _
  have d4 : j ≤ n := by rw [hj]; exact Nat.mod_le _ _
  rw [← hi, ← hj] at ih'
  refine Ev.upto w.toNat (fun _ => True) (fun k => scell w r C i j (rd l (n : Int)) k L) ρ (fun k s x => impl_Gas_stream.l1 k n (rd l (n : Int)) l l.length n w x w r C l b w r C s b) (fun m hm _ ihm => ?_) (fun _ => ?_) trivial
  · refine Ev.succ ?_
    simp only [impl_Gas_stream.l1]
    have ihm' := ihm trivial
    have ww := wayW hw m (by omega) r C l b
    have hs := scell_length w r C i j (rd l (n : Int)) m L
    have ht := tgt_in w i j m r0 r1 c0 c1
    have h5 : r * (C : Int) ≤ 16 * 16 := Int.mul_le_mul r1 c1 (by omega) (by omega)
    rw [wrap_id (x := (m : Int) + 1) (by omega) (by omega), d1, d2]
    refine Ev.pos (by omega) (Ev.pos (by omega) ?_)
    simp only [scell, sput] at ihm'
    by_cases g : Go.bits .and .i64 (shr .i64 (rd l (n : Int)) (m : Int)) 1 = 1
    · rw [if_pos g] at ihm'
      refine Ev.pos g (Ev.bnd ww.2.1 (Ev.neg (by omega) ?_))
      rw [wrap_id (x := (i : Int)) (by omega) (by omega), wrap_id (x := (i : Int) + (wayS w m).1) (by omega) (by omega), wrap_id (x := (j : Int) + (wayS w m).2) (by omega) (by omega)]
      refine Ev.bnd (floorMod _ _ (by omega)) (Ev.bnd (floorMod _ _ (by omega)) ?_)
      have e : wrap64 (wrap64 (fm ((i : Int) + (wayS w m).1) r * C) + fm ((j : Int) + (wayS w m).2) C) = tgt w r C i j m := by
        rw [wrap_id (x := fm ((i : Int) + (wayS w m).1) r * C) (by omega) (by omega)]
        show wrap64 (tgt w r C i j m) = _
        rw [wrap_id (by omega) (by omega)]
      rw [e]
      exact Ev.pos ht.1 (Ev.pos (by rw [hs]; omega) ihm')
    · rw [if_neg g] at ihm'
      exact Ev.neg g ihm'
  · refine Ev.succ ?_
    simp only [impl_Gas_stream.l1]
    exact Ev.neg (by omega) ih'
theorem streamImpl {w r c : Int} {l : List Int} {b : List Bool} (h : GasOk w r c l b) : Ev (fun k => impl_Gas_stream.f k w r c l b) (w, r, c, streamL w r c l, b) := by
  have hlen := h.len
  have hnb := h.nb
  have hn := h.n
  unfold impl_Gas_stream.f
  refine Ev.bind (a := (w, r, c, List.replicate l.length 0, b)) ?_ ?_
  · unfold impl_Gas_of_impl_Gas_stream_1.f
    refine Ev.bnd (a := b) ?_ ?_
    · unfold slices_Clone_bool_bool.f
      simp only [Option.bind_some]
      rw [if_pos (by simp; omega)]
      simp
    · refine Ev.congr (fun k => ?_) (Ev.upto l.length (fun _ => True) (fun i => List.replicate i 0) (w, r, c, List.replicate l.length 0, b) (fun k s i => impl_Gas_of_impl_Gas_stream_1.l0 k l l.length i w r c s b) (fun i hi _ ih => ?_) (fun _ => ?_) trivial)
      · simp
      · refine Ev.succ ?_
        simp only [impl_Gas_of_impl_Gas_stream_1.l0]
        have ih' := ih trivial
        rw [List.replicate_succ'] at ih'
        refine Ev.pos (by omega) (Ev.pos (by omega) (Ev.pos (by omega) (Ev.bnd (a := 0) rfl (Ev.pos (by rw [List.length_replicate]; omega) ?_))))
        rw [wrap_id (x := (i : Int) + 1) (by omega) (by omega)]
        exact ih'
      · refine Ev.succ ?_
        simp only [impl_Gas_of_impl_Gas_stream_1.l0]
        exact Ev.neg (by omega) (Ev.now _)
  · refine Ev.upto l.length (fun _ => True) (fun n => sgrid w r c l n) (w, r, c, streamL w r c l, b) (fun k s i => impl_Gas_stream.l0 k l l.length i w r c l b w r c s b) (fun i hi _ ih => ?_) (fun _ => ?_) trivial
    · refine Ev.succ ?_
      simp only [impl_Gas_stream.l0]
      have ih' := ih trivial
      refine Ev.pos (by omega) (Ev.pos (by omega) (Ev.pos (by omega) (streamCellImpl h hi _ (by rw [sgrid_length]; exact hn) ?_)))
      rw [wrap_id (x := (i : Int) + 1) (by omega) (by omega)]
      simp only [sgrid] at ih'
      exact ih'
    · refine Ev.succ ?_
      simp only [impl_Gas_stream.l0]
      exact Ev.neg (by omega) (Ev.now _)

theorem turned_l (x1 x2 x10 w r c : Int) (l : List Int) (b : List Bool) : ∀ (k : Nat) (x7 x11 : Int), impl_Gas_turned.l0 k x1 x2 x7 x10 x11 w r c l b = impl_Gas_turned.l0 k x1 x2 x7 x10 x11 w 1 1 [] [] := by
  intro k
  induction k with
  | zero => intro x7 x11; rfl
  | succ k ih => intro x7 x11; simp only [impl_Gas_turned.l0, ih]
theorem turned_f (k : Nat) (w r c : Int) (l : List Int) (b : List Bool) (x y : Int) : impl_Gas_turned.f k w r c l b x y = impl_Gas_turned.f k w 1 1 [] [] x y := by
  unfold impl_Gas_turned.f
  exact turned_l _ _ _ _ _ _ _ _ _ _ _

theorem collided_f (k : Nat) (w r c : Int) (l : List Int) (b : List Bool) (x : Int) (f : Bool) : impl_Gas_collided.f k w r c l b x f = impl_Gas_collided.f k w 1 1 [] [] x f := by
  have j1 : ∀ k x f, impl_Gas_collided.j1 k x f w r c l b = impl_Gas_collided.j1 k x f w 1 1 [] [] := fun k x f => by
    cases k with
    | zero => rfl
    | succ k => simp only [impl_Gas_collided.j1, turned_f k w r c l b]
  have j0 : ∀ k x f y g, impl_Gas_collided.j0 k x f y g w r c l b = impl_Gas_collided.j0 k x f y g w 1 1 [] [] := fun k x f y g => by
    cases k with
    | zero => rfl
    | succ k => simp only [impl_Gas_collided.j0, j1, turned_f k w r c l b]
  unfold impl_Gas_collided.f
  simp only [j0, turned_f k w r c l b]
/-- What a cell becomes. -/
def collideC (w : Int) (f wall : Bool) (x : Int) : Int := if wall = true then (spec_l06Turned.f 20 x w (wrap64 (Int.tdiv w 2))).getD 0 else (spec_l06Collided.f 20 x w f).getD 0
theorem tab4 : ∀ x : Fin 16, ∀ f : Bool, spec_l06Turned.f 20 (x.val : Int) 4 (wrap64 (Int.tdiv 4 2)) = some (collideC 4 f true (x.val : Int)) ∧ impl_Gas_turned.f 20 4 1 1 [] [] (x.val : Int) (wrap64 (Int.tdiv 4 2)) = some (collideC 4 f true (x.val : Int)) ∧ spec_l06Collided.f 20 (x.val : Int) 4 f = some (collideC 4 f false (x.val : Int)) ∧ impl_Gas_collided.f 20 4 1 1 [] [] (x.val : Int) f = some (collideC 4 f false (x.val : Int)) ∧ 0 ≤ collideC 4 f true (x.val : Int) ∧ collideC 4 f true (x.val : Int) ≤ 15 ∧ 0 ≤ collideC 4 f false (x.val : Int) ∧ collideC 4 f false (x.val : Int) ≤ 15 := by decide +kernel
theorem tab6 : ∀ x : Fin 64, ∀ f : Bool, spec_l06Turned.f 20 (x.val : Int) 6 (wrap64 (Int.tdiv 6 2)) = some (collideC 6 f true (x.val : Int)) ∧ impl_Gas_turned.f 20 6 1 1 [] [] (x.val : Int) (wrap64 (Int.tdiv 6 2)) = some (collideC 6 f true (x.val : Int)) ∧ spec_l06Collided.f 20 (x.val : Int) 6 f = some (collideC 6 f false (x.val : Int)) ∧ impl_Gas_collided.f 20 6 1 1 [] [] (x.val : Int) f = some (collideC 6 f false (x.val : Int)) ∧ 0 ≤ collideC 6 f true (x.val : Int) ∧ collideC 6 f true (x.val : Int) ≤ 63 ∧ 0 ≤ collideC 6 f false (x.val : Int) ∧ collideC 6 f false (x.val : Int) ≤ 63 := by decide +kernel
theorem tabW {w x : Int} (hw : w = 4 ∨ w = 6) (h0 : 0 ≤ x) (h1 : x ≤ topOf w) (f : Bool) : spec_l06Turned.f 20 x w (wrap64 (Int.tdiv w 2)) = some (collideC w f true x) ∧ impl_Gas_turned.f 20 w 1 1 [] [] x (wrap64 (Int.tdiv w 2)) = some (collideC w f true x) ∧ spec_l06Collided.f 20 x w f = some (collideC w f false x) ∧ impl_Gas_collided.f 20 w 1 1 [] [] x f = some (collideC w f false x) ∧ 0 ≤ collideC w f true x ∧ collideC w f true x ≤ topOf w ∧ 0 ≤ collideC w f false x ∧ collideC w f false x ≤ topOf w := by
  obtain ⟨n, rfl⟩ := Int.eq_ofNat_of_zero_le h0
  rcases hw with rfl | rfl
  · exact tab4 ⟨n, by have : topOf 4 = 15 := rfl; omega⟩ f
  · exact tab6 ⟨n, by have : topOf 6 = 63 := rfl; omega⟩ f
theorem collideC_in {w x : Int} (hw : w = 4 ∨ w = 6) (h0 : 0 ≤ x) (h1 : x ≤ topOf w) (f wall : Bool) : 0 ≤ collideC w f wall x ∧ collideC w f wall x ≤ topOf w := by
  have h := tabW hw h0 h1 f
  cases wall with
  | true => exact ⟨h.2.2.2.2.1, h.2.2.2.2.2.1⟩
  | false => exact ⟨h.2.2.2.2.2.2.1, h.2.2.2.2.2.2.2⟩
theorem turnedSpec {w x : Int} (hw : w = 4 ∨ w = 6) (h0 : 0 ≤ x) (h1 : x ≤ topOf w) (f : Bool) : Ev (fun k => spec_l06Turned.f k x w (wrap64 (Int.tdiv w 2))) (collideC w f true x) := Ev.of_mono (fun k => spec_l06Turned.mono _ _ _ k) 20 (tabW hw h0 h1 f).1
theorem turnedImpl {w x : Int} (hw : w = 4 ∨ w = 6) (h0 : 0 ≤ x) (h1 : x ≤ topOf w) (f : Bool) (r c : Int) (l : List Int) (b : List Bool) : Ev (fun k => impl_Gas_turned.f k w r c l b x (wrap64 (Int.tdiv w 2))) (collideC w f true x) := Ev.of_mono (fun k => impl_Gas_turned.mono _ _ _ _ _ _ _ k) 20 (by rw [turned_f]; exact (tabW hw h0 h1 f).2.1)
theorem collidedSpec {w x : Int} (hw : w = 4 ∨ w = 6) (h0 : 0 ≤ x) (h1 : x ≤ topOf w) (f : Bool) : Ev (fun k => spec_l06Collided.f k x w f) (collideC w f false x) := Ev.of_mono (fun k => spec_l06Collided.mono _ _ _ k) 20 (tabW hw h0 h1 f).2.2.1
theorem collidedImpl {w x : Int} (hw : w = 4 ∨ w = 6) (h0 : 0 ≤ x) (h1 : x ≤ topOf w) (f : Bool) (r c : Int) (l : List Int) (b : List Bool) : Ev (fun k => impl_Gas_collided.f k w r c l b x f) (collideC w f false x) := Ev.of_mono (fun k => impl_Gas_collided.mono _ _ _ _ _ _ _ k) 20 (by rw [collided_f]; exact (tabW hw h0 h1 f).2.2.2.1)

/-- The cells behind collisions. -/
def collideL (w : Int) (f : Bool) (l : List Int) (b : List Bool) : List Int := List.zipWith (fun x wall => collideC w f wall x) l b
theorem collideL_length (w : Int) (f : Bool) (l : List Int) (b : List Bool) (h : b.length = l.length) : (collideL w f l b).length = l.length := by simp [collideL, h]
theorem collideL_get (w : Int) (f : Bool) (l : List Int) (b : List Bool) (h : b.length = l.length) (i : Nat) (hi : i < l.length) : (collideL w f l b)[i]'(by rw [collideL_length w f l b h]; exact hi) = collideC w f (b[i]'(by omega)) l[i] := by simp [collideL]
theorem collideL_ok {w r c : Int} {l : List Int} {b : List Bool} (h : GasOk w r c l b) (f : Bool) : GasOk w r c (collideL w f l b) b := by
  have hl := collideL_length w f l b h.nb
  refine ⟨h.w0, h.r0, h.r1, h.c0, h.c1, by rw [hl]; exact h.n, by rw [hl]; exact h.nb, fun x hx => ?_⟩
  obtain ⟨i, hi, rfl⟩ := List.getElem_of_mem hx
  rw [collideL_get w f l b h.nb i (by omega)]
  have := h.all l[i] (List.getElem_mem (by omega))
  exact collideC_in h.w0 this.1 this.2 f _
theorem collideSpec {w r c : Int} {l : List Int} {b : List Bool} (h : GasOk w r c l b) (f : Bool) : Ev (fun k => spec_l06Collide.f k w r c l b f) (w, r, c, collideL w f l b, b) := by
  have hlen := h.len
  have hnb := h.nb
  have hL := collideL_length w f l b h.nb
  unfold spec_l06Collide.f
  refine Ev.bnd (a := (w, r, c, l, b)) ?_ ?_
  · unfold spec_l06Own.f
    simp only [Option.bind_some]
    rw [if_pos (by simp; omega), if_pos (by simp; omega)]
    simp
  · refine Ev.congr (fun k => ?_) (Ev.upto l.length (fun _ => True) (fun i => (collideL w f l b).take i ++ l.drop i) (w, r, c, collideL w f l b, b) (fun k s i => spec_l06Collide.l0 k f i w r c l b w r c s b) (fun i hi _ ih => ?_) (fun _ => ?_) trivial)
    · simp
    · refine Ev.succ ?_
      simp only [spec_l06Collide.l0]
      have hx := h.all l[i] (List.getElem_mem hi)
      have hs := take_drop_set (collideL w f l b) l i (by omega) hL
      rw [collideL_get w f l b h.nb i hi] at hs
      have ih' := ih trivial
      rw [← hs] at ih'
      rw [rd_lt l i hi, rdOf_lt false b i (by omega), wrap_id (x := (i : Int) + 1) (by omega) (by omega), Int.toNat_natCast]
      refine Ev.pos (by rw [List.length_append, List.length_take, List.length_drop]; omega) (Ev.pos (by omega) (Ev.pos (by omega) ?_))
      by_cases g : b[i] = true
      · rw [g] at ih'
        exact Ev.pos g (Ev.pos (by omega) (Ev.bind (turnedSpec h.w0 hx.1 hx.2 f) ih'))
      · have g' : b[i] = false := by simpa using g
        rw [g'] at ih'
        exact Ev.neg g (Ev.pos (by omega) (Ev.bind (collidedSpec h.w0 hx.1 hx.2 f) ih'))
    · refine Ev.succ ?_
      simp only [spec_l06Collide.l0]
      rw [List.drop_length, List.append_nil, List.take_of_length_le (by omega)]
      exact Ev.neg (by omega) (Ev.now _)
theorem collideImpl {w r c : Int} {l : List Int} {b : List Bool} (h : GasOk w r c l b) (f : Bool) : Ev (fun k => impl_Gas_collide.f k w r c l b f) (w, r, c, collideL w f l b, b) := by
  have hlen := h.len
  have hnb := h.nb
  have hL := collideL_length w f l b h.nb
  unfold impl_Gas_collide.f impl_Gas_of_impl_Gas_collide_1.f
  refine Ev.bind (a := (w, r, c, collideL w f l b, b)) ?_ (Ev.now _)
  refine Ev.bnd (a := b) ?_ ?_
  · unfold slices_Clone_bool_bool.f
    simp only [Option.bind_some]
    rw [if_pos (by simp; omega)]
    simp
  · refine Ev.congr (fun k => ?_) (Ev.upto l.length (fun _ => True) (fun i => (collideL w f l b).take i) (w, r, c, collideL w f l b, b) (fun k s i => impl_Gas_of_impl_Gas_collide_1.l0 k l l.length i w r c l b f w r c s b) (fun i hi _ ih => ?_) (fun _ => ?_) trivial)
    · simp
    · refine Ev.succ ?_
      simp only [impl_Gas_of_impl_Gas_collide_1.l0]
      have hx := h.all l[i] (List.getElem_mem hi)
      have ih' := ih trivial
      rw [List.take_succ_eq_append_getElem (by omega), collideL_get w f l b h.nb i hi] at ih'
      refine Ev.pos (by omega) (Ev.pos (by omega) (Ev.pos (by omega) (Ev.bind (a := collideC w f (b[i]'(by omega)) l[i]) ?_ (Ev.pos (by rw [List.length_take]; omega) ?_))))
      · unfold impl_Gas_collide_1.f
        rw [rd_lt l i hi, rdOf_lt false b i (by omega)]
        refine Ev.pos (by omega) (Ev.pos (by omega) ?_)
        by_cases g : b[i] = true
        · rw [g]
          exact Ev.pos rfl (Ev.ret (turnedImpl h.w0 hx.1 hx.2 f r c l b))
        · have g' : b[i] = false := by simpa using g
          rw [g']
          exact Ev.neg (by simp) (Ev.ret (collidedImpl h.w0 hx.1 hx.2 f r c l b))
      · rw [wrap_id (x := (i : Int) + 1) (by omega) (by omega)]
        exact ih'
    · refine Ev.succ ?_
      simp only [impl_Gas_of_impl_Gas_collide_1.l0]
      rw [List.take_of_length_le (by omega)]
      exact Ev.neg (by omega) (Ev.now _)

/-- The cells behind n steps. -/
def runL (w r c : Int) (l : List Int) (b : List Bool) : Nat → List Int
  | 0 => l
  | n + 1 => streamL w r c (collideL w (((n : Int).tmod 2) == 0) (runL w r c l b n) b)
theorem runL_ok {w r c : Int} {l : List Int} {b : List Bool} (h : GasOk w r c l b) (n : Nat) : GasOk w r c (runL w r c l b n) b := by
  induction n with
  | zero => exact h
  | succ n ih => exact streamL_ok (collideL_ok ih _)
/-- What RunGas answers. -/
def runGas (w r c : Int) (l : List Int) (b : List Bool) (n : Int) : Int × Int × Int × List Int × List Bool × Bool := if validGas w r c l b = true ∧ (0 ≤ n ∧ n ≤ 512) then (w, r, c, runL w r c l b n.toNat, b, true) else (0, 0, 0, [], [], false)
theorem runGas_yes {w r c : Int} {l : List Int} {b : List Bool} {n : Int} (h : validGas w r c l b = true ∧ (0 ≤ n ∧ n ≤ 512)) : runGas w r c l b n = (w, r, c, runL w r c l b n.toNat, b, true) := if_pos h
theorem runGas_no {w r c : Int} {l : List Int} {b : List Bool} {n : Int} (h : ¬ (validGas w r c l b = true ∧ (0 ≤ n ∧ n ≤ 512))) : runGas w r c l b n = (0, 0, 0, [], [], false) := if_neg h
theorem runGasSpec (w r c : Int) (l : List Int) (b : List Bool) (n : Int) (hl : l.length ≤ 35184372088832) (hb : b.length ≤ 281474976710656) : Ev (fun k => spec_RunGas.f k w r c l b n) (runGas w r c l b n) := by
  have no : ∀ x : Bool, x = true → ¬ (validGas w r c l b = true ∧ (0 ≤ n ∧ n ≤ 512)) → Ev (fun k => spec_RunGas.j0 k n x w r c l b) (runGas w r c l b n) := fun x hx hn => by
    rw [runGas_no hn]
    refine Ev.succ ?_
    simp only [spec_RunGas.j0]
    exact Ev.pos hx (Ev.now _)
  unfold spec_RunGas.f
  refine Ev.bind (gasSpec w r c l b hl hb) ?_
  by_cases g : validGas w r c l b = true
  · refine Ev.pos g (Ev.bnd (l00In _ _ _) ?_)
    by_cases gn : 0 ≤ n ∧ n ≤ 512
    · have h := GasOk.of g
      have hlen := h.len
      have hnb := h.nb
      rw [runGas_yes ⟨g, gn⟩]
      obtain ⟨m, rfl⟩ := Int.eq_ofNat_of_zero_le gn.1
      refine Ev.succ ?_
      simp only [spec_RunGas.j0]
      refine Ev.neg (by simpa using gn) (Ev.bnd (a := (w, r, c, l, b)) ?_ ?_)
      · unfold spec_l06Own.f
        simp only [Option.bind_some]
        rw [if_pos (by simp; omega), if_pos (by simp; omega)]
        simp
      · rw [Int.toNat_natCast]
        refine Ev.upto m (fun _ => True) (fun i => runL w r c l b i) _ (fun k s i => spec_RunGas.l0 k m i w r c s b) (fun i hi _ ih => ?_) (fun _ => ?_) trivial
        · refine Ev.succ ?_
          simp only [spec_RunGas.l0]
          rw [wrap_id (x := (i : Int) + 1) (by omega) (by omega)]
          exact Ev.pos (by omega) (Ev.bind (collideSpec (runL_ok h i) _) (Ev.bind (streamSpec (collideL_ok (runL_ok h i) _)) (ih trivial)))
        · refine Ev.succ ?_
          simp only [spec_RunGas.l0]
          exact Ev.neg (by omega) (Ev.now _)
    · exact no _ (by rw [decide_eq_false gn]; rfl) (fun h => gn h.2)
  · exact Ev.neg g (no _ rfl (fun h => g h.1))
theorem runGasImpl (w r c : Int) (l : List Int) (b : List Bool) (n : Int) (hl : l.length ≤ 35184372088832) (hb : b.length ≤ 281474976710656) : Ev (fun k => impl_RunGas.f k w r c l b n) (runGas w r c l b n) := by
  have no : ∀ x : Bool, x = true → ¬ (validGas w r c l b = true ∧ (0 ≤ n ∧ n ≤ 512)) → Ev (fun k => impl_RunGas.j0 k n x w r c l b) (runGas w r c l b n) := fun x hx hn => by
    rw [runGas_no hn]
    refine Ev.succ ?_
    simp only [impl_RunGas.j0]
    exact Ev.pos hx (Ev.now _)
  unfold impl_RunGas.f
  refine Ev.bind (gasImpl w r c l b hl hb) ?_
  by_cases g : validGas w r c l b = true
  · refine Ev.pos g (Ev.bnd (within _ _ _) ?_)
    by_cases gn : 0 ≤ n ∧ n ≤ 512
    · have h := GasOk.of g
      have hlen := h.len
      have hnb := h.nb
      rw [runGas_yes ⟨g, gn⟩]
      obtain ⟨m, rfl⟩ := Int.eq_ofNat_of_zero_le gn.1
      refine Ev.succ ?_
      simp only [impl_RunGas.j0]
      refine Ev.neg (by simpa using gn) (Ev.bind (a := (w, r, c, l, b)) ?_ ?_)
      · unfold impl_Gas_of_impl_RunGas_1.f
        refine Ev.bnd (a := b) ?_ ?_
        · unfold slices_Clone_bool_bool.f
          simp only [Option.bind_some]
          rw [if_pos (by simp; omega)]
          simp
        · refine Ev.congr (fun k => ?_) (Ev.upto l.length (fun _ => True) (fun i => l.take i) (w, r, c, l, b) (fun k s i => impl_Gas_of_impl_RunGas_1.l0 k l l.length i w r c s b) (fun i hi _ ih => ?_) (fun _ => ?_) trivial)
          · simp
          · refine Ev.succ ?_
            simp only [impl_Gas_of_impl_RunGas_1.l0]
            have ih' := ih trivial
            rw [List.take_succ_eq_append_getElem hi] at ih'
            refine Ev.pos (by omega) (Ev.pos (by omega) (Ev.pos (by omega) (Ev.bnd (a := l[i]) (by rw [rd_lt l i hi]; rfl) (Ev.pos (by rw [List.length_take]; omega) ?_))))
            rw [wrap_id (x := (i : Int) + 1) (by omega) (by omega)]
            exact ih'
          · refine Ev.succ ?_
            simp only [impl_Gas_of_impl_RunGas_1.l0]
            rw [List.take_of_length_le (by omega)]
            exact Ev.neg (by omega) (Ev.now _)
      · rw [Int.toNat_natCast]
        refine Ev.upto m (fun _ => True) (fun i => runL w r c l b i) _ (fun k s i => impl_RunGas.l0 k m i w r c s b) (fun i hi _ ih => ?_) (fun _ => ?_) trivial
        · refine Ev.succ ?_
          simp only [impl_RunGas.l0]
          rw [wrap_id (x := (i : Int) + 1) (by omega) (by omega)]
          exact Ev.pos (by omega) (Ev.bind (collideImpl (runL_ok h i) _) (Ev.bind (streamImpl (collideL_ok (runL_ok h i) _)) (ih trivial)))
        · refine Ev.succ ?_
          simp only [impl_RunGas.l0]
          exact Ev.neg (by omega) (Ev.now _)
    · exact no _ (by rw [decide_eq_false gn]; rfl) (fun h => gn h.2)
  · exact Ev.neg g (no _ rfl (fun h => g h.1))
theorem runGas_len (w r c : Int) (l : List Int) (b : List Bool) (n : Int) : (runGas w r c l b n).2.2.2.1.length ≤ 256 ∧ (runGas w r c l b n).2.2.2.2.1.length ≤ 256 := by
  unfold runGas
  split
  · rename_i g
    have h := runL_ok (GasOk.of g.1) n.toNat
    have h1 := h.len
    have h2 := h.nb
    constructor
    · show (runL w r c l b n.toNat).length ≤ 256; omega
    · show b.length ≤ 256; omega
  · simp
theorem FnExactRunGas : laws_FnExactRunGas.Pure := by
  intro w r c l b m _ _ _ hz hy _
  have hl : l.length ≤ 17592186044415 := by omega
  have hb : b.length ≤ 281474976710656 := by omega
  have hm := runGas_len w r c l b m
  refine Ev.rounds ?_
  unfold laws_FnExactRunGas.f
  obtain ⟨n, hn1, hn2⟩ := szGas w r c l b (by omega) hb
  refine Ev.bnd hn1 ?_
  by_cases g : n < 0
  · exact Ev.pos g (Ev.now _)
  · have hn3 := hn2 g
    refine Ev.neg g (Ev.bind (toGas w r c l b (by omega) hb) (Ev.bind (runGasSpec w r c l b m (by omega) hb) (Ev.bind (toGas w r c l b (by omega) hb) (Ev.bind (runGasImpl w r c l b m (by omega) hb) (Ev.bind (eqGas _ _ _ _ _ _ _ _ _ _ (by omega) (by omega)) (Ev.pos (by simp) (Ev.succ ?_)))))))
    simp only [laws_FnExactRunGas.j0]
    refine Ev.neg (by simp) (Ev.bind (toGas w r c l b (by omega) hb) (Ev.bind (eqGas _ _ _ _ _ _ _ _ _ _ (by omega) (by omega)) (Ev.pos (by simp) (Ev.bind (markGas _ _ _ _ _ 1 (by omega) (by omega) (by omega) (by omega)) (Ev.neg (by show ¬ (1 + (l.length : Int) + b.length) < 0; omega) (Ev.bind (eqGas _ _ _ _ _ _ _ _ _ _ (by omega) (by omega)) (Ev.pos (by simp) (Ev.succ ?_))))))))
    simp only [laws_FnExactRunGas.j1]
    refine Ev.neg (by simp) (Ev.bind (markGas _ _ _ _ _ 1 (by omega) (by omega) (by omega) (by omega)) (Ev.bind (heldGas _ _ _ _ _ 1 (by omega) (by omega) (by omega) (by omega)) (Ev.neg (by omega) (Ev.pos (by trivial) (Ev.bind (toGas w r c l b (by omega) hb) (Ev.bind (runGasImpl w r c l b m (by omega) hb) (Ev.bind (eqGas _ _ _ _ _ _ _ _ _ _ (by omega) (by omega)) (Ev.pos (by simp) (Ev.succ ?_)))))))))
    simp only [laws_FnExactRunGas.j2]
    exact Ev.neg (by simp) (Ev.bind (heldGas _ _ _ _ _ 1 (by omega) (by omega) (by omega) (by omega)) (Ev.neg (by omega) (Ev.pos (by trivial) (Ev.now _))))

end Go.Proofs.Ytjhodohmifemiaa.Pure

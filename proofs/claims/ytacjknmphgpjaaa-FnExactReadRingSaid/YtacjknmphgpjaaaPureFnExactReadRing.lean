/- ReadRing of the program and of the reference answer the same for every text. -/
import Derived.Test.YtacjknmphgpjaaaPFnExactReadRingx0
import Derived.Test.YtacjknmphgpjaaaPFnExactReadRingx1
import Derived.Test.YtacjknmphgpjaaaPFnExactReadRingx2
import Derived.Test.YtacjknmphgpjaaaLib
namespace Go.Proofs.Ytacjknmphgpjaaa.Pure
open Go.RowKit Go.Proofs.Ytacjknmphgpjaaa.PFnExactReadRing Go.Proofs.YtacjknmphgpjaaaW.PrintWords Go.Proofs.YtacjknmphgpjaaaW.PrintLast Go.Proofs.Ytacjknmphgpjaaa.L
set_option linter.unusedVariables false
set_option linter.unusedSimpArgs false

/-- The bytes of a text. -/
theorem bytesOf_len (s : ByteArray) : (bytesOf s).length = s.size := by
  unfold bytesOf
  rw [List.length_map, Array.length_toList]
  rfl
theorem bytesOf_get (s : ByteArray) (i : Nat) (h : i < (bytesOf s).length) : (bytesOf s)[i] = bt s (i : Int) := by
  have hs : i < s.size := by rwa [bytesOf_len] at h
  have hl : i < s.data.size := hs
  unfold bt
  rw [dif_pos (by rw [Int.toNat_natCast]; exact hs)]
  simp only [bytesOf, List.getElem_map, Array.getElem_toList]
  rfl
theorem bytesOf_range (s : ByteArray) : ∀ x ∈ bytesOf s, 0 ≤ x ∧ x ≤ 255 := by
  intro x hx
  unfold bytesOf at hx
  rw [List.mem_map] at hx
  obtain ⟨b, _, rfl⟩ := hx
  have : b.toNat < 256 := b.toNat_lt
  omega
/-- What digits tell. -/
def digitsTold (l : List Int) : List Int × Bool := if allIn l 48 57 = true then (l.map fun x => x - 48, true) else ([], false)
theorem digitsTold_in (l : List Int) : ∀ x ∈ (digitsTold l).1, 0 ≤ x ∧ x ≤ 9 := by
  intro x hx
  unfold digitsTold at hx
  split at hx
  · rename_i c
    simp only [List.mem_map] at hx
    obtain ⟨y, hy, rfl⟩ := hx
    have := allIn_iff.1 c y hy
    omega
  · simp at hx
theorem digitsTold_len (l : List Int) : (digitsTold l).1.length ≤ l.length := by
  unfold digitsTold
  split <;> simp
theorem digits_succ (l : List Int) (i : Nat) (h : i < l.length) : (l.take i).map (fun x => x - 48) ++ [l[i] - 48] = (l.take (i + 1)).map fun x => x - 48 := by
  rw [List.take_succ_eq_append_getElem h, List.map_append, List.map_singleton]
theorem readSpec (s : ByteArray) (hl : s.size ≤ 17592186044415) : Ev (fun k => spec_l08Read.f k s) (digitsTold (bytesOf s)) := by
  unfold spec_l08Read.f
  have hn := bytesOf_len s
  refine Ev.congr (fun k => ?_) (Ev.upto (bytesOf s).length (fun i => ∀ j, (hj : j < (bytesOf s).length) → j < i → 48 ≤ (bytesOf s)[j] ∧ (bytesOf s)[j] ≤ 57) (fun i => ((bytesOf s).take i).map fun x => x - 48) (digitsTold (bytesOf s)) (fun k l i => spec_l08Read.l0 k s l i) (fun i hi hp ih => ?_) (fun hp => ?_) (fun j hj h => by omega))
  · simp
  · refine Ev.succ ?_
    simp only [spec_l08Read.l0]
    have e := bytesOf_get s i hi
    have hx := bytesOf_range s _ (List.getElem_mem hi)
    rw [← e]
    refine Ev.pos (by omega) (Ev.pos (by omega) ?_)
    by_cases c : (bytesOf s)[i] < 48
    · exact Ev.pos c (Ev.val (by unfold digitsTold; rw [allIn_false i hi (by omega), if_neg (by simp)]))
    · refine Ev.neg c ?_
      by_cases c2 : (bytesOf s)[i] > 57
      · exact Ev.pos c2 (Ev.val (by unfold digitsTold; rw [allIn_false i hi (by omega), if_neg (by simp)]))
      · refine Ev.neg c2 (Ev.pos (by rw [List.length_map, List.length_take]; omega) ?_)
        rw [wrap_id (x := (i : Int) + 1) (by omega) (by omega), Int.emod_eq_of_lt (a := (bytesOf s)[i] - 48) (b := 256) (by omega) (by omega), digits_succ _ i hi]
        exact ih (upTo_succ (p := fun x => 48 ≤ x ∧ x ≤ 57) hi hp (by omega))
  · refine Ev.succ ?_
    simp only [spec_l08Read.l0]
    refine Ev.neg (by omega) (Ev.val ?_)
    unfold digitsTold
    rw [allIn_true (fun j hj => hp j hj hj), if_pos rfl, List.take_length]
theorem readImpl (s : ByteArray) (hl : s.size ≤ 17592186044415) : Ev (fun k => impl_readDigits.f k s) (digitsTold (bytesOf s)) := by
  unfold impl_readDigits.f
  have hn := bytesOf_len s
  refine Ev.pos (by omega) (Ev.bnd rfl ?_)
  refine Ev.congr (fun k => ?_) (Ev.upto (bytesOf s).length (fun i => ∀ j, (hj : j < (bytesOf s).length) → j < i → 48 ≤ (bytesOf s)[j] ∧ (bytesOf s)[j] ≤ 57) (fun i => ((bytesOf s).take i).map fun x => x - 48) (digitsTold (bytesOf s)) (fun k l i => impl_readDigits.l0 k l (bytesOf s) (bytesOf s).length i) (fun i hi hp ih => ?_) (fun hp => ?_) (fun j hj h => by omega))
  · simp
  · refine Ev.succ ?_
    simp only [impl_readDigits.l0]
    have hx := bytesOf_range s _ (List.getElem_mem hi)
    rw [rd_lt (bytesOf s) i hi]
    refine Ev.pos (by omega) (Ev.pos (by omega) (Ev.pos (by omega) ?_))
    by_cases c : (bytesOf s)[i] < 48
    · exact Ev.pos c (Ev.val (by unfold digitsTold; rw [allIn_false i hi (by omega), if_neg (by simp)]))
    · refine Ev.neg c ?_
      by_cases c2 : (bytesOf s)[i] > 57
      · exact Ev.pos c2 (Ev.val (by unfold digitsTold; rw [allIn_false i hi (by omega), if_neg (by simp)]))
      · refine Ev.neg c2 (Ev.pos (by rw [List.length_map, List.length_take]; omega) ?_)
        rw [wrap_id (x := (i : Int) + 1) (by omega) (by omega), Int.emod_eq_of_lt (a := (bytesOf s)[i] - 48) (b := 256) (by omega) (by omega), digits_succ _ i hi]
        exact ih (upTo_succ (p := fun x => 48 ≤ x ∧ x ≤ 57) hi hp (by omega))
  · refine Ev.succ ?_
    simp only [impl_readDigits.l0]
    refine Ev.neg (by omega) (Ev.val ?_)
    unfold digitsTold
    rw [allIn_true (fun j hj => hp j hj hj), if_pos rfl, List.take_length]

theorem within (a b c : Int) : impl_within.f a b c = some (decide (b ≤ a ∧ a ≤ c)) := by
  unfold impl_within.f
  by_cases h : a ≥ b
  · rw [if_pos h]; simp; omega
  · rw [if_neg h]; simp; omega

theorem areWithin (l : List Int) (a b : Int) (hl : l.length ≤ 35184372088832) : Ev (fun k => impl_areWithin.f k l a b) (allIn l a b) := by
  unfold impl_areWithin.f
  refine Ev.upto l.length (fun i => ∀ j, (hj : j < l.length) → j < i → a ≤ l[j] ∧ l[j] ≤ b) (fun _ => ()) _ (fun k _ i => impl_areWithin.l0 k a b l l.length i) (fun i hi hp ih => ?_) (fun hp => ?_) (fun j hj h => by omega)
  · refine Ev.succ ?_
    simp only [impl_areWithin.l0]
    refine Ev.pos (by omega) (Ev.pos (by omega) (Ev.pos (by omega) ?_))
    rw [rd_lt l i (by omega), wrap_id (by omega) (by omega), within]
    by_cases c : a ≤ l[i] ∧ l[i] ≤ b
    · exact Ev.bnd rfl (Ev.pos (by simpa using c) (ih (upTo_succ (p := fun x => a ≤ x ∧ x ≤ b) hi hp c)))
    · exact Ev.bnd rfl (Ev.neg (by simpa using c) (Ev.val (by rw [allIn_false i (by omega) c])))
  · refine Ev.succ ?_
    simp only [impl_areWithin.l0]
    exact Ev.neg (by omega) (Ev.val (by rw [allIn_true (fun j hj' => hp j hj' (by omega))]))

theorem areMany (l : List Int) (a b c d : Int) (hl : l.length ≤ 35184372088832) : Ev (fun k => impl_areMany.f k l a b c d) (decide (a ≤ l.length ∧ l.length ≤ b) && allIn l c d) := by
  unfold impl_areMany.f
  refine Ev.bnd (within _ _ _) ?_
  by_cases h : a ≤ l.length ∧ l.length ≤ b
  · refine Ev.pos (by simpa using h) (Ev.cast (Ev.bind (areWithin l c d hl) (Ev.now _)) (by simp [h]))
  · exact Ev.neg (by simpa using h) (Ev.val (by simp [h]))

theorem areStates (s : Int) : impl_areStates.f s = some (decide (s = 2 ∨ s = 3)) := by
  unfold impl_areStates.f
  by_cases h : s = 2
  · rw [if_pos h]; simp [h]
  · rw [if_neg h]
    by_cases h3 : s = 3
    · subst h3; rfl
    · simp [h, h3]

theorem isRing (l : List Int) (s : Int) (hl : l.length ≤ 35184372088832) (hs : s = 2 ∨ s = 3) : Ev (fun k => impl_IsRing.f k l s) (allIn l 0 (s - 1) && decide (1 ≤ l.length ∧ l.length ≤ 64)) := by
  unfold impl_IsRing.f
  have hsw : wrap64 (s - 1) = s - 1 := wrap_id (by omega) (by omega)
  rw [hsw]
  refine Ev.bnd (areStates s) (Ev.pos (by simpa using hs) ?_)
  exact Ev.cast (Ev.bind (areMany l 1 64 0 (s - 1) hl) (Ev.now _)) (by
    rw [Bool.and_comm]
    congr 1
    exact decide_eq_decide.mpr (by omega))

theorem l00In (a b c : Int) : spec_l00In.f a b c = some (decide (b ≤ a ∧ a ≤ c)) := by
  unfold spec_l00In.f
  by_cases h : a ≥ b
  · rw [if_pos h]; simp; omega
  · rw [if_neg h]; simp; omega

theorem l02Ring (l : List Int) (s : Int) (hl : l.length ≤ 35184372088832) (h0 : -4611686018427387904 ≤ s) (h1 : s ≤ 4611686018427387904) : Ev (fun k => spec_l02Ring.f k l s) (allIn l 0 (s - 1) && decide (1 ≤ l.length ∧ l.length ≤ 64)) := by
  unfold spec_l02Ring.f
  refine Ev.upto l.length (fun i => ∀ j, (hj : j < l.length) → j < i → 0 ≤ l[j] ∧ l[j] ≤ s - 1) (fun _ => ()) _ (fun k _ i => spec_l02Ring.l0 k l s i) (fun i hi hp ih => ?_) (fun hp => ?_) (fun j hj h => by omega)
  · refine Ev.succ ?_
    simp only [spec_l02Ring.l0]
    refine Ev.pos (by omega) (Ev.pos (by omega) ?_)
    have hsw : wrap64 (s - 1) = s - 1 := wrap_id (by omega) (by omega)
    rw [rd_lt l i (by omega), hsw, wrap_id (x := (i : Int) + 1) (by omega) (by omega), l00In]
    by_cases c : 0 ≤ l[i] ∧ l[i] ≤ s - 1
    · exact Ev.bnd rfl (Ev.pos (by simpa using c) (ih (upTo_succ (p := fun x => 0 ≤ x ∧ x ≤ s - 1) hi hp c)))
    · refine Ev.bnd rfl (Ev.neg (by simpa using c) (Ev.val ?_))
      rw [allIn_false i (by omega) c]; rfl
  · refine Ev.succ ?_
    simp only [spec_l02Ring.l0]
    refine Ev.neg (by omega) ?_
    rw [allIn_true (fun j hj' => hp j hj' (by omega)), Bool.true_and]
    by_cases c : (l.length : Int) ≥ 1
    · exact Ev.pos c (Ev.val (congrArg some (decide_eq_decide.mpr (by omega))))
    · exact Ev.neg c (Ev.val (by rw [decide_eq_false (by omega)]))

theorem eqInt64S (l m : List Int) (hl : l.length ≤ 35184372088832) : Ev (fun k => laws_eqInt64S.f k l m) (decide (l = m)) := by
  unfold laws_eqInt64S.f
  by_cases h : l.length = m.length
  · refine Ev.pos (by omega) ?_
    refine Ev.upto l.length (fun i => ∀ j, j < i → l[j]? = m[j]?) (fun _ => ()) _ (fun k _ i => laws_eqInt64S.l0 k l m i) (fun i hi hp ih => ?_) (fun hp => ?_) (fun j hj => by omega)
    · refine Ev.succ ?_
      simp only [laws_eqInt64S.l0]
      refine Ev.pos (by omega) (Ev.pos (by omega) (Ev.pos (by omega) ?_))
      rw [rd_lt l i (by omega), rd_lt m i (by omega)]
      by_cases e : l[i] = m[i]
      · refine Ev.pos e ?_
        rw [wrap_id (by omega) (by omega)]
        exact ih (fun j hj' => by
          by_cases hji : j < i
          · exact hp j hji
          · obtain rfl : j = i := by omega
            rw [List.getElem?_eq_getElem (by omega), List.getElem?_eq_getElem (by omega), e])
      · refine Ev.neg e (Ev.val ?_)
        rw [eq_comm, Option.some.injEq, decide_eq_false_iff_not]
        rintro rfl
        exact e rfl
    · refine Ev.succ ?_
      simp only [laws_eqInt64S.l0]
      refine Ev.neg (by omega) (Ev.val ?_)
      have : l = m := List.ext_getElem? (fun j => by
        by_cases hjl : j < l.length
        · exact hp j (by omega)
        · rw [List.getElem?_eq_none (by omega), List.getElem?_eq_none (by omega)])
      simp [this]
  · refine Ev.neg (by omega) (Ev.val ?_)
    rw [eq_comm, Option.some.injEq, decide_eq_false_iff_not]
    rintro rfl
    exact h rfl

theorem markInt64S (l : List Int) (a : Int) (hl : l.length ≤ 35184372088832) (h0 : -1 ≤ a) (h1 : a ≤ 1000000000000) : Ev (fun k => laws_markInt64S.f k l a) (a + l.length, marks a l.length) := by
  unfold laws_markInt64S.f
  refine Ev.congr (fun k => ?_) (Ev.upto l.length (fun _ => True) (fun i => (marks a i ++ l.drop i, a + (i : Int))) (a + l.length, marks a l.length) (fun k s i => laws_markInt64S.l0 k s.1 s.2 i) (fun i hi _ ih => ?_) (fun _ => ?_) trivial)
  · simp [marks]
  · refine Ev.succ ?_
    simp only [laws_markInt64S.l0]
    refine Ev.pos (by rw [List.length_append, marks_length, List.length_drop]; omega) (Ev.pos (by omega) ?_)
    rw [wrap_id (x := (i : Int) + 1) (by omega) (by omega), wrap_id (x := a + (i : Int) + 1) (by omega) (by omega), Int.toNat_natCast, marks_step a l i hi]
    have := ih trivial
    rw [show a + ((i + 1 : Nat) : Int) = a + (i : Int) + 1 by omega] at this
    exact this
  · refine Ev.succ ?_
    simp only [laws_markInt64S.l0]
    have e : marks a l.length ++ l.drop l.length = marks a l.length := by rw [List.drop_length, List.append_nil]
    rw [e]
    exact Ev.neg (by rw [marks_length]; omega) (Ev.now _)

theorem heldInt64S (n : Nat) (a : Int) (hl : n ≤ 35184372088832) (h0 : -1 ≤ a) (h1 : a ≤ 1000000000000) : Ev (fun k => laws_heldInt64S.f k (marks a n) a) (a + n) := by
  unfold laws_heldInt64S.f
  refine Ev.congr (fun k => ?_) (Ev.upto n (fun _ => True) (fun i => a + (i : Int)) (a + n) (fun k s i => laws_heldInt64S.l0 k (marks a n) s i) (fun i hi _ ih => ?_) (fun _ => ?_) trivial)
  · simp
  · refine Ev.succ ?_
    simp only [laws_heldInt64S.l0]
    refine Ev.pos (by rw [marks_length]; omega) (Ev.pos (by omega) (Ev.pos ?_ ?_))
    · rw [rd_lt _ i (by rw [marks_length]; exact hi), marks_get a n i hi]
    · rw [wrap_id (x := (i : Int) + 1) (by omega) (by omega), wrap_id (x := a + (i : Int) + 1) (by omega) (by omega)]
      have := ih trivial
      rw [show a + ((i + 1 : Nat) : Int) = a + (i : Int) + 1 by omega] at this
      exact this
  · refine Ev.succ ?_
    simp only [laws_heldInt64S.l0]
    exact Ev.neg (by rw [marks_length]; omega) (Ev.val rfl)

/-- What ReadRing answers. -/
def readRing (s : ByteArray) : List Int × Bool :=
  if (digitsTold (bytesOf s)).2 = true then (if (allIn (digitsTold (bytesOf s)).1 0 2 && decide (1 ≤ (digitsTold (bytesOf s)).1.length ∧ (digitsTold (bytesOf s)).1.length ≤ 64)) = true then ((digitsTold (bytesOf s)).1, true) else ([], false)) else ([], false)
theorem readRing_len (s : ByteArray) : (readRing s).1.length ≤ 64 := by
  unfold readRing
  split
  · split
    · rename_i c
      rw [Bool.and_eq_true, decide_eq_true_eq] at c
      exact c.2.2
    · simp
  · simp
theorem readRingSpec (s : ByteArray) (hl : s.size ≤ 17592186044415) : Ev (fun k => spec_ReadRing.f k s) (readRing s) := by
  unfold spec_ReadRing.f spec_l08ReadRing.f
  have hd := digitsTold_len (bytesOf s)
  rw [bytesOf_len] at hd
  refine Ev.bind (a := readRing s) (Ev.bind (readSpec s hl) ?_) (Ev.now _)
  unfold readRing
  by_cases c : (digitsTold (bytesOf s)).2 = true
  · rw [if_pos c]
    refine Ev.pos c (Ev.bind (l02Ring _ 3 (by omega) (by omega) (by omega)) ?_)
    by_cases g : (allIn (digitsTold (bytesOf s)).1 0 2 && decide (1 ≤ (digitsTold (bytesOf s)).1.length ∧ (digitsTold (bytesOf s)).1.length ≤ 64)) = true
    · rw [if_pos g]; exact Ev.pos g (Ev.now _)
    · rw [if_neg g]; exact Ev.neg g (Ev.now _)
  · rw [if_neg c]; exact Ev.neg c (Ev.now _)
theorem readRingImpl (s : ByteArray) (hl : s.size ≤ 17592186044415) : Ev (fun k => impl_ReadRing.f k s) (readRing s) := by
  unfold impl_ReadRing.f
  have hd := digitsTold_len (bytesOf s)
  rw [bytesOf_len] at hd
  refine Ev.bind (readImpl s hl) ?_
  unfold readRing
  by_cases c : (digitsTold (bytesOf s)).2 = true
  · rw [if_pos c]
    refine Ev.pos c (Ev.bind (isRing _ 3 (by omega) (by omega)) ?_)
    by_cases g : (allIn (digitsTold (bytesOf s)).1 0 2 && decide (1 ≤ (digitsTold (bytesOf s)).1.length ∧ (digitsTold (bytesOf s)).1.length ≤ 64)) = true
    · rw [if_pos g]; exact Ev.pos g (Ev.now _)
    · rw [if_neg g]; exact Ev.neg g (Ev.now _)
  · rw [if_neg c]; exact Ev.neg c (Ev.now _)
theorem FnExactReadRing : laws_FnExactReadRing.Pure := by
  intro s hs
  have hm := readRing_len s
  refine Ev.rounds ?_
  unfold laws_FnExactReadRing.f
  by_cases c : (s.size : Int) > 1048576
  · exact Ev.pos c (Ev.now _)
  · refine Ev.neg c (Ev.bind (readRingSpec s (by omega)) (Ev.bind (readRingImpl s (by omega)) (Ev.bind (eqInt64S _ _ (by omega)) (Ev.pos (by simp) (Ev.succ ?_)))))
    simp only [laws_FnExactReadRing.j0]
    refine Ev.neg (by simp) (Ev.bind (markInt64S _ 1 (by omega) (by omega) (by omega)) (Ev.bind (heldInt64S _ 1 (by omega) (by omega) (by omega)) (Ev.neg (by omega) (Ev.pos (by trivial) (Ev.bind (readRingImpl s (by omega)) (Ev.bind (eqInt64S _ _ (by omega)) (Ev.pos (by simp) (Ev.succ ?_))))))))
    simp only [laws_FnExactReadRing.j1]
    exact Ev.neg (by simp) (Ev.bind (heldInt64S _ 1 (by omega) (by omega) (by omega)) (Ev.val (by simp; omega)))

end Go.Proofs.Ytacjknmphgpjaaa.Pure

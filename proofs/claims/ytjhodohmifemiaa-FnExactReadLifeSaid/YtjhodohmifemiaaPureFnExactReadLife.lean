/- ReadLife of the program and of the reference answer the same for every text. -/
import Derived.Test.YtjhodohmifemiaaPFnExactReadLifex0
import Derived.Test.YtjhodohmifemiaaPFnExactReadLifex1
import Derived.Test.YtjhodohmifemiaaPFnExactReadLifex2
import Derived.Test.YtjhodohmifemiaaLib
namespace Go.Proofs.Ytjhodohmifemiaa.Pure
open Go.RowKit Go.Proofs.Ytjhodohmifemiaa.PFnExactReadLife Go.Proofs.YtjhodohmifemiaaW.PrintWords Go.Proofs.YtjhodohmifemiaaW.PrintLast Go.Proofs.Ytjhodohmifemiaa.L
set_option linter.unusedVariables false
set_option linter.unusedSimpArgs false

/-- The bytes of a text. -/
theorem bytesOf_len (s : ByteArray) : (bytesOf s).length = s.size := by
  unfold bytesOf
  rw [List.length_map, Array.length_toList]
  rfl
theorem bytesOf_get (s : ByteArray) (i : Nat) (h : i < (bytesOf s).length) : (bytesOf s)[i] = bt s (i : Int) := by
  have hs : i < s.size := by rwa [bytesOf_len] at h
  have hl : i < s.data.size := hs
  unfold bt
  rw [dif_pos (by rw [Int.toNat_natCast]; exact hs)]
  simp only [bytesOf, List.getElem_map, Array.getElem_toList]
  rfl
theorem bytesOf_range (s : ByteArray) : ∀ x ∈ bytesOf s, 0 ≤ x ∧ x ≤ 255 := by
  intro x hx
  unfold bytesOf at hx
  rw [List.mem_map] at hx
  obtain ⟨b, _, rfl⟩ := hx
  have : b.toNat < 256 := b.toNat_lt
  omega
/-- What digits tell. -/
def digitsTold (l : List Int) : List Int × Bool := if allIn l 48 57 = true then (l.map fun x => x - 48, true) else ([], false)
theorem digitsTold_in (l : List Int) : ∀ x ∈ (digitsTold l).1, 0 ≤ x ∧ x ≤ 9 := by
  intro x hx
  unfold digitsTold at hx
  split at hx
  · rename_i c
    simp only [List.mem_map] at hx
    obtain ⟨y, hy, rfl⟩ := hx
    have := allIn_iff.1 c y hy
    omega
  · simp at hx
theorem digitsTold_len (l : List Int) : (digitsTold l).1.length ≤ l.length := by
  unfold digitsTold
  split <;> simp
theorem digits_succ (l : List Int) (i : Nat) (h : i < l.length) : (l.take i).map (fun x => x - 48) ++ [l[i] - 48] = (l.take (i + 1)).map fun x => x - 48 := by
  rw [List.take_succ_eq_append_getElem h, List.map_append, List.map_singleton]
theorem readSpec (s : ByteArray) (hl : s.size ≤ 17592186044415) : Ev (fun k => spec_l08Read.f k s) (digitsTold (bytesOf s)) := by
  unfold spec_l08Read.f
  have hn := bytesOf_len s
  refine Ev.congr (fun k => ?_) (Ev.upto (bytesOf s).length (fun i => ∀ j, (hj : j < (bytesOf s).length) → j < i → 48 ≤ (bytesOf s)[j] ∧ (bytesOf s)[j] ≤ 57) (fun i => ((bytesOf s).take i).map fun x => x - 48) (digitsTold (bytesOf s)) (fun k l i => spec_l08Read.l0 k s l i) (fun i hi hp ih => ?_) (fun hp => ?_) (fun j hj h => by omega))
  · simp
  · refine Ev.succ ?_
    simp only [spec_l08Read.l0]
    have e := bytesOf_get s i hi
    have hx := bytesOf_range s _ (List.getElem_mem hi)
    rw [← e]
    refine Ev.pos (by omega) (Ev.pos (by omega) ?_)
    by_cases c : (bytesOf s)[i] < 48
    · exact Ev.pos c (Ev.val (by unfold digitsTold; rw [allIn_false i hi (by omega), if_neg (by simp)]))
    · refine Ev.neg c ?_
      by_cases c2 : (bytesOf s)[i] > 57
      · exact Ev.pos c2 (Ev.val (by unfold digitsTold; rw [allIn_false i hi (by omega), if_neg (by simp)]))
      · refine Ev.neg c2 (Ev.pos (by rw [List.length_map, List.length_take]; omega) ?_)
        rw [wrap_id (x := (i : Int) + 1) (by omega) (by omega), Int.emod_eq_of_lt (a := (bytesOf s)[i] - 48) (b := 256) (by omega) (by omega), digits_succ _ i hi]
        exact ih (upTo_succ (p := fun x => 48 ≤ x ∧ x ≤ 57) hi hp (by omega))
  · refine Ev.succ ?_
    simp only [spec_l08Read.l0]
    refine Ev.neg (by omega) (Ev.val ?_)
    unfold digitsTold
    rw [allIn_true (fun j hj => hp j hj hj), if_pos rfl, List.take_length]
theorem readImpl (s : ByteArray) (hl : s.size ≤ 17592186044415) : Ev (fun k => impl_readDigits.f k s) (digitsTold (bytesOf s)) := by
  unfold impl_readDigits.f
  have hn := bytesOf_len s
  refine Ev.pos (by omega) (Ev.bnd rfl ?_)
  refine Ev.congr (fun k => ?_) (Ev.upto (bytesOf s).length (fun i => ∀ j, (hj : j < (bytesOf s).length) → j < i → 48 ≤ (bytesOf s)[j] ∧ (bytesOf s)[j] ≤ 57) (fun i => ((bytesOf s).take i).map fun x => x - 48) (digitsTold (bytesOf s)) (fun k l i => impl_readDigits.l0 k l (bytesOf s) (bytesOf s).length i) (fun i hi hp ih => ?_) (fun hp => ?_) (fun j hj h => by omega))
  · simp
  · refine Ev.succ ?_
    simp only [impl_readDigits.l0]
    have hx := bytesOf_range s _ (List.getElem_mem hi)
    rw [rd_lt (bytesOf s) i hi]
    refine Ev.pos (by omega) (Ev.pos (by omega) (Ev.pos (by omega) ?_))
    by_cases c : (bytesOf s)[i] < 48
    · exact Ev.pos c (Ev.val (by unfold digitsTold; rw [allIn_false i hi (by omega), if_neg (by simp)]))
    · refine Ev.neg c ?_
      by_cases c2 : (bytesOf s)[i] > 57
      · exact Ev.pos c2 (Ev.val (by unfold digitsTold; rw [allIn_false i hi (by omega), if_neg (by simp)]))
      · refine Ev.neg c2 (Ev.pos (by rw [List.length_map, List.length_take]; omega) ?_)
        rw [wrap_id (x := (i : Int) + 1) (by omega) (by omega), Int.emod_eq_of_lt (a := (bytesOf s)[i] - 48) (b := 256) (by omega) (by omega), digits_succ _ i hi]
        exact ih (upTo_succ (p := fun x => 48 ≤ x ∧ x ≤ 57) hi hp (by omega))
  · refine Ev.succ ?_
    simp only [impl_readDigits.l0]
    refine Ev.neg (by omega) (Ev.val ?_)
    unfold digitsTold
    rw [allIn_true (fun j hj => hp j hj hj), if_pos rfl, List.take_length]

theorem l00In (a b c : Int) : spec_l00In.f a b c = some (decide (b ≤ a ∧ a ≤ c)) := by
  unfold spec_l00In.f
  by_cases h : a ≥ b
  · rw [if_pos h]; simp; omega
  · rw [if_neg h]; simp; omega

theorem within (a b c : Int) : impl_within.f a b c = some (decide (b ≤ a ∧ a ≤ c)) := by
  unfold impl_within.f
  by_cases h : a ≥ b
  · rw [if_pos h]; simp; omega
  · rw [if_neg h]; simp; omega

theorem areWithin (l : List Int) (a b : Int) (hl : l.length ≤ 35184372088832) : Ev (fun k => impl_areWithin.f k l a b) (allIn l a b) := by
  unfold impl_areWithin.f
  refine Ev.upto l.length (fun i => ∀ j, (hj : j < l.length) → j < i → a ≤ l[j] ∧ l[j] ≤ b) (fun _ => ()) _ (fun k _ i => impl_areWithin.l0 k a b l l.length i) (fun i hi hp ih => ?_) (fun hp => ?_) (fun j hj h => by omega)
  · refine Ev.succ ?_
    simp only [impl_areWithin.l0]
    refine Ev.pos (by omega) (Ev.pos (by omega) (Ev.pos (by omega) ?_))
    rw [rd_lt l i (by omega), wrap_id (by omega) (by omega), within]
    by_cases c : a ≤ l[i] ∧ l[i] ≤ b
    · exact Ev.bnd rfl (Ev.pos (by simpa using c) (ih (upTo_succ (p := fun x => a ≤ x ∧ x ≤ b) hi hp c)))
    · exact Ev.bnd rfl (Ev.neg (by simpa using c) (Ev.val (by rw [allIn_false i (by omega) c])))
  · refine Ev.succ ?_
    simp only [impl_areWithin.l0]
    exact Ev.neg (by omega) (Ev.val (by rw [allIn_true (fun j hj' => hp j hj' (by omega))]))

theorem countsSpec (l : List Int) (hl : l.length ≤ 35184372088832) : Ev (fun k => spec_l04Counts.f k l) (cd (countsOk l)) := by
  unfold spec_l04Counts.f
  refine Ev.upto l.length (fun i => ∀ j, (hj : j < l.length) → j < i → (0 ≤ l[j] ∧ l[j] ≤ 8) ∧ ((h0 : 0 < j) → l[j - 1] < l[j])) (fun _ => ()) _ (fun k _ i => spec_l04Counts.l0 k l i) (fun i hi hp ih => ?_) (fun hp => ?_) (fun j hj h => by omega)
  · refine Ev.succ ?_
    simp only [spec_l04Counts.l0]
    have ih' : ((0 ≤ l[i] ∧ l[i] ≤ 8) ∧ ((h0 : 0 < i) → l[i - 1] < l[i])) → Ev (fun k => spec_l04Counts.l0 k l ((i : Int) + 1)) (cd (countsOk l)) := fun h => ih (fun j hj hji => by
      by_cases e : j < i
      · exact hp j hj e
      · obtain rfl : j = i := by omega
        exact h)
    refine Ev.pos (by omega) (Ev.pos (by omega) ?_)
    rw [rd_lt l i hi, wrap_id (x := (i : Int) + 1) (by omega) (by omega), wrap_id (x := (i : Int) - 1) (by omega) (by omega)]
    refine Ev.bnd (l00In _ _ _) ?_
    by_cases c : 0 ≤ l[i] ∧ l[i] ≤ 8
    · refine Ev.pos (by simpa using c) ?_
      by_cases e : (i : Int) > 0
      · refine Ev.pos e (Ev.pos (by omega) (Ev.pos (by omega) ?_))
        have hi1 : i - 1 < l.length := by omega
        have e1 : rd l ((i : Int) - 1) = l[i - 1] := by rw [show (i : Int) - 1 = ((i - 1 : Nat) : Int) by omega]; exact rd_lt l (i - 1) hi1
        rw [e1]
        by_cases g : l[i] ≤ l[i - 1]
        · refine Ev.pos g (Ev.val ?_)
          rw [cd_false]
          intro h
          have := h.1 (i - 1) (by omega)
          have e2 : l[i - 1 + 1] = l[i] := by congr 1; omega
          omega
        · exact Ev.neg g (ih' ⟨c, fun _ => by omega⟩)
      · exact Ev.neg e (ih' ⟨c, fun h => by omega⟩)
    · refine Ev.neg (by simpa using c) (Ev.val ?_)
      rw [cd_false]
      intro h
      exact c (h.2 _ (List.getElem_mem hi))
  · refine Ev.succ ?_
    simp only [spec_l04Counts.l0]
    refine Ev.neg (by omega) (Ev.val ?_)
    rw [cd_true]
    refine ⟨fun i h => ?_, fun x hx => ?_⟩
    · have := (hp (i + 1) h h).2 (by omega)
      simpa using this
    · obtain ⟨i, hi, rfl⟩ := List.getElem_of_mem hx
      exact (hp i hi hi).1
theorem countsImpl (l : List Int) (hl : l.length ≤ 35184372088832) : Ev (fun k => impl_areCounts.f k l) (cd (countsOk l)) := by
  unfold impl_areCounts.f
  have fin : (∀ i, (h : i + 1 < l.length) → l[i] < l[i + 1]) → Ev (fun k => (impl_areWithin.f k l 0 8).bind fun t => some t) (cd (countsOk l)) := by
    intro h
    refine Ev.bind (areWithin l 0 8 hl) (Ev.val ?_)
    by_cases c : allIn l 0 8 = true
    · rw [c, cd_true ⟨h, allIn_iff.1 c⟩]
    · rw [Bool.not_eq_true] at c
      rw [c, cd_false]
      intro h'
      rw [allIn_iff.2 h'.2] at c
      exact absurd c (by simp)
  by_cases h0 : l.length = 0
  · refine Ev.succ ?_
    simp only [impl_areCounts.l0]
    exact Ev.neg (by omega) (fin (fun i h => by omega))
  · have main : ∀ d i : Nat, 1 ≤ i → i + d = l.length → (∀ j, (h : j + 1 < l.length) → j + 1 < i → l[j] < l[j + 1]) → Ev (fun k => impl_areCounts.l0 k l i) (cd (countsOk l)) := by
      intro d
      induction d with
      | zero =>
        intro i h1 hi hp
        refine Ev.succ ?_
        simp only [impl_areCounts.l0]
        exact Ev.neg (by omega) (fin (fun j h => hp j h (by omega)))
      | succ d ih =>
        intro i h1 hi hp
        have hil : i < l.length := by omega
        have hi1 : i - 1 < l.length := by omega
        refine Ev.succ ?_
        simp only [impl_areCounts.l0]
        rw [rd_lt l i hil, wrap_id (x := (i : Int) + 1) (by omega) (by omega), wrap_id (x := (i : Int) - 1) (by omega) (by omega)]
        have e1 : rd l ((i : Int) - 1) = l[i - 1] := by rw [show (i : Int) - 1 = ((i - 1 : Nat) : Int) by omega]; exact rd_lt l (i - 1) hi1
        rw [e1]
        refine Ev.pos (by omega) (Ev.pos (by omega) (Ev.pos (by omega) (Ev.pos (by omega) ?_)))
        by_cases g : l[i] ≤ l[i - 1]
        · refine Ev.pos g (Ev.val ?_)
          rw [cd_false]
          intro h
          have := h.1 (i - 1) (by omega)
          have e2 : l[i - 1 + 1] = l[i] := by congr 1; omega
          omega
        · refine Ev.neg g ?_
          refine ih (i + 1) (by omega) (by omega) (fun j h hj => ?_)
          by_cases e : j + 1 < i
          · exact hp j h e
          · obtain rfl : i = j + 1 := by omega
            have e3 : l[j + 1 - 1] = l[j] := by congr 1
            omega
    exact main (l.length - 1) 1 (by omega) (by omega) (fun j h hj => by omega)

theorem lifeSpec (a b : List Int) (ha : a.length ≤ 35184372088832) (hb : b.length ≤ 35184372088832) : Ev (fun k => spec_l04Life.f k a b) (cd (countsOk a) && cd (countsOk b)) := by
  unfold spec_l04Life.f
  exact Ev.and (countsSpec a ha) (fun _ => Ev.ret (countsSpec b hb))
theorem lifeImpl (a b : List Int) (ha : a.length ≤ 35184372088832) (hb : b.length ≤ 35184372088832) : Ev (fun k => impl_ValidLife.f k a b) (cd (countsOk a) && cd (countsOk b)) := by
  unfold impl_ValidLife.f
  exact Ev.and (countsImpl a ha) (fun _ => Ev.ret (countsImpl b hb))

theorem eqInt64S (l m : List Int) (hl : l.length ≤ 35184372088832) : Ev (fun k => laws_eqInt64S.f k l m) (decide (l = m)) := by
  unfold laws_eqInt64S.f
  by_cases h : l.length = m.length
  · refine Ev.pos (by omega) ?_
    refine Ev.upto l.length (fun i => ∀ j, j < i → l[j]? = m[j]?) (fun _ => ()) _ (fun k _ i => laws_eqInt64S.l0 k l m i) (fun i hi hp ih => ?_) (fun hp => ?_) (fun j hj => by omega)
    · refine Ev.succ ?_
      simp only [laws_eqInt64S.l0]
      refine Ev.pos (by omega) (Ev.pos (by omega) (Ev.pos (by omega) ?_))
      rw [rd_lt l i (by omega), rd_lt m i (by omega)]
      by_cases e : l[i] = m[i]
      · refine Ev.pos e ?_
        rw [wrap_id (by omega) (by omega)]
        exact ih (fun j hj' => by
          by_cases hji : j < i
          · exact hp j hji
          · obtain rfl : j = i := by omega
            rw [List.getElem?_eq_getElem (by omega), List.getElem?_eq_getElem (by omega), e])
      · refine Ev.neg e (Ev.val ?_)
        rw [eq_comm, Option.some.injEq, decide_eq_false_iff_not]
        rintro rfl
        exact e rfl
    · refine Ev.succ ?_
      simp only [laws_eqInt64S.l0]
      refine Ev.neg (by omega) (Ev.val ?_)
      have : l = m := List.ext_getElem? (fun j => by
        by_cases hjl : j < l.length
        · exact hp j (by omega)
        · rw [List.getElem?_eq_none (by omega), List.getElem?_eq_none (by omega)])
      simp [this]
  · refine Ev.neg (by omega) (Ev.val ?_)
    rw [eq_comm, Option.some.injEq, decide_eq_false_iff_not]
    rintro rfl
    exact h rfl

theorem markInt64S (l : List Int) (a : Int) (hl : l.length ≤ 35184372088832) (h0 : -1 ≤ a) (h1 : a ≤ 1000000000000) : Ev (fun k => laws_markInt64S.f k l a) (a + l.length, marks a l.length) := by
  unfold laws_markInt64S.f
  refine Ev.congr (fun k => ?_) (Ev.upto l.length (fun _ => True) (fun i => (marks a i ++ l.drop i, a + (i : Int))) (a + l.length, marks a l.length) (fun k s i => laws_markInt64S.l0 k s.1 s.2 i) (fun i hi _ ih => ?_) (fun _ => ?_) trivial)
  · simp [marks]
  · refine Ev.succ ?_
    simp only [laws_markInt64S.l0]
    refine Ev.pos (by rw [List.length_append, marks_length, List.length_drop]; omega) (Ev.pos (by omega) ?_)
    rw [wrap_id (x := (i : Int) + 1) (by omega) (by omega), wrap_id (x := a + (i : Int) + 1) (by omega) (by omega), Int.toNat_natCast, marks_step a l i hi]
    have := ih trivial
    rw [show a + ((i + 1 : Nat) : Int) = a + (i : Int) + 1 by omega] at this
    exact this
  · refine Ev.succ ?_
    simp only [laws_markInt64S.l0]
    have e : marks a l.length ++ l.drop l.length = marks a l.length := by rw [List.drop_length, List.append_nil]
    rw [e]
    exact Ev.neg (by rw [marks_length]; omega) (Ev.now _)

theorem heldInt64S (n : Nat) (a : Int) (hl : n ≤ 35184372088832) (h0 : -1 ≤ a) (h1 : a ≤ 1000000000000) : Ev (fun k => laws_heldInt64S.f k (marks a n) a) (a + n) := by
  unfold laws_heldInt64S.f
  refine Ev.congr (fun k => ?_) (Ev.upto n (fun _ => True) (fun i => a + (i : Int)) (a + n) (fun k s i => laws_heldInt64S.l0 k (marks a n) s i) (fun i hi _ ih => ?_) (fun _ => ?_) trivial)
  · simp
  · refine Ev.succ ?_
    simp only [laws_heldInt64S.l0]
    refine Ev.pos (by rw [marks_length]; omega) (Ev.pos (by omega) (Ev.pos ?_ ?_))
    · rw [rd_lt _ i (by rw [marks_length]; exact hi), marks_get a n i hi]
    · rw [wrap_id (x := (i : Int) + 1) (by omega) (by omega), wrap_id (x := a + (i : Int) + 1) (by omega) (by omega)]
      have := ih trivial
      rw [show a + ((i + 1 : Nat) : Int) = a + (i : Int) + 1 by omega] at this
      exact this
  · refine Ev.succ ?_
    simp only [laws_heldInt64S.l0]
    exact Ev.neg (by rw [marks_length]; omega) (Ev.val rfl)

/-- What digits tell, of bytes. -/
def dg (l : List UInt8) : List Int × Bool := digitsTold (l.map fun b => (b.toNat : Int))
theorem dg_len (l : List UInt8) : (dg l).1.length ≤ l.length := by
  have := digitsTold_len (l.map fun b => (b.toNat : Int))
  rwa [List.length_map] at this
theorem dg_slash {l : List UInt8} (h : 47 ∈ l) : ¬ (dg l).2 = true := by
  intro e
  unfold dg digitsTold at e
  split at e
  · rename_i c
    have := allIn_iff.1 c 47 (List.mem_map.2 ⟨47, h, rfl⟩)
    omega
  · simp at e
theorem told_of (s : ByteArray) : digitsTold (bytesOf s) = dg s.data.toList := rfl
theorem size_of (s : ByteArray) : s.size = s.data.toList.length := by rw [Array.length_toList]; rfl
/-- The life of two rows of digits. -/
noncomputable def lifeOf (x y : List UInt8) : List Int × List Int × Bool :=
  if (dg x).2 = true then (if (dg y).2 = true then (if (cd (countsOk (dg x).1) && cd (countsOk (dg y).1)) = true then ((dg x).1, (dg y).1, true) else ([], [], false)) else ([], [], false)) else ([], [], false)
theorem lifeOf_no {x y : List UInt8} (h : 47 ∈ x ∨ 47 ∈ y) : lifeOf x y = ([], [], false) := by
  unfold lifeOf
  rcases h with h | h
  · rw [if_neg (dg_slash h)]
  · split
    · rw [if_neg (dg_slash h)]
    · rfl
/-- What the program's ReadLife answers. -/
noncomputable def lifeV (l : List UInt8) : List Int × List Int × Bool :=
  if (Go.Lib.cut l [47, 83]).2.2 = true then (if [66].isPrefixOf (Go.Lib.cut l [47, 83]).1 = true then lifeOf ((Go.Lib.cut l [47, 83]).1.drop 1) (Go.Lib.cut l [47, 83]).2.1 else ([], [], false)) else ([], [], false)
/-- The pieces at '/'. -/
def pcs (s : ByteArray) : Nat → List ByteArray → Nat → Nat → List ByteArray
  | 0, acc, b, i => acc ++ [s.extract b i]
  | d + 1, acc, b, i => if bt s i = 47 then pcs s d (acc ++ [s.extract b i]) (i + 1) (i + 1) else pcs s d acc b (i + 1)
theorem cutSpec (s : ByteArray) (hl : s.size ≤ 1048576) : Ev (fun k => spec_l01Cut.f k s 47) (pcs s s.size [] 0 0) := by
  have main : ∀ d i b : Nat, ∀ acc : List ByteArray, i + d = s.size → b ≤ i → acc.length ≤ i → Ev (fun k => spec_l01Cut.l0 k s 47 acc b i) (pcs s d acc b i) := by
    intro d
    induction d with
    | zero =>
      intro i b acc hi hb ha
      refine Ev.succ ?_
      simp only [spec_l01Cut.l0]
      refine Ev.pos (by omega) (Ev.pos (by omega) (Ev.pos (by omega) (Ev.pos (by omega) (Ev.pos (by omega) (Ev.succ ?_)))))
      simp only [spec_l01Cut.l0]
      rw [wrap_id (x := (i : Int) + 1) (by omega) (by omega)]
      refine Ev.neg (by omega) (Ev.val ?_)
      simp only [pcs, Int.toNat_natCast]
    | succ d ih =>
      intro i b acc hi hb ha
      refine Ev.succ ?_
      simp only [spec_l01Cut.l0]
      rw [wrap_id (x := (i : Int) + 1) (by omega) (by omega), show (i : Int) + 1 = ((i + 1 : Nat) : Int) by omega]
      refine Ev.pos (by omega) (Ev.neg (by omega) (Ev.pos (by omega) (Ev.pos (by omega) ?_)))
      by_cases c : bt s i = 47
      · refine Ev.pos c (Ev.pos (by omega) (Ev.pos (by omega) (Ev.pos (by omega) ?_)))
        simp only [pcs, if_pos c, Int.toNat_natCast]
        exact ih (i + 1) (i + 1) _ (by omega) (by omega) (by rw [List.length_append]; simp; omega)
      · refine Ev.neg c ?_
        simp only [pcs, if_neg c]
        exact ih (i + 1) b acc (by omega) (by omega) (by omega)
  exact main s.size 0 0 [] (by omega) (by omega) (by simp)
theorem pcs_len (s : ByteArray) : ∀ d acc b i, acc.length + 1 ≤ (pcs s d acc b i).length := by
  intro d
  induction d with
  | zero => intro acc b i; simp [pcs]
  | succ d ih =>
    intro acc b i
    simp only [pcs]
    split
    · have := ih (acc ++ [s.extract b i]) (i + 1) (i + 1); simp at this; omega
    · exact ih _ _ _
theorem pcs_none (s : ByteArray) : ∀ d acc b i, (∀ j, i ≤ j → j < i + d → bt s (j : Nat) ≠ 47) → pcs s d acc b i = acc ++ [s.extract b (i + d)] := by
  intro d
  induction d with
  | zero => intro acc b i h; rfl
  | succ d ih =>
    intro acc b i h
    simp only [pcs]
    rw [if_neg (h i (by omega) (by omega)), ih acc b (i + 1) (fun j h1 h2 => h j (by omega) (by omega))]
    congr 3; omega
theorem pcs_first (s : ByteArray) (p : Nat) (hp : bt s p = 47) : ∀ d acc b i, i ≤ p → p < i + d → (∀ j, i ≤ j → j < p → bt s (j : Nat) ≠ 47) → pcs s d acc b i = pcs s (i + d - (p + 1)) (acc ++ [s.extract b p]) (p + 1) (p + 1) := by
  intro d
  induction d with
  | zero => intro acc b i h1 h2; omega
  | succ d ih =>
    intro acc b i h1 h2 h3
    simp only [pcs]
    by_cases e : i = p
    · subst e
      rw [if_pos hp]
      congr 1; omega
    · rw [if_neg (h3 i (by omega) (by omega)), ih acc b (i + 1) (by omega) (by omega) (fun j a b => h3 j (by omega) b)]
      congr 1; omega
/-- What the reference's ReadLife answers, of pieces. -/
noncomputable def partsV (t : List ByteArray) : List Int × List Int × Bool :=
  if t.length = 2 then (if (rdOf ByteArray.empty t 0).data.toList.head? = some 66 ∧ (rdOf ByteArray.empty t 1).data.toList.head? = some 83 then lifeOf ((rdOf ByteArray.empty t 0).data.toList.drop 1) ((rdOf ByteArray.empty t 1).data.toList.drop 1) else ([], [], false)) else ([], [], false)
theorem bt_zero (s : ByteArray) (c : UInt8) (h : 0 < s.size) : bt s 0 = (c.toNat : Int) ↔ s.data.toList.head? = some c := by
  unfold bt
  rw [dif_pos (by simpa using h)]
  have e : s.data.toList.head? = some s[0] := by
    rw [List.head?_eq_getElem?, List.getElem?_eq_getElem (by rw [← size_of]; exact h)]
    rfl
  rw [e]
  constructor
  · intro q
    congr 1
    exact UInt8.toNat_inj.1 (by exact_mod_cast q)
  · intro q
    injection q with q
    rw [← q]; rfl
theorem head_none (s : ByteArray) (c : UInt8) (h : ¬ 0 < s.size) : ¬ s.data.toList.head? = some c := by
  intro e
  cases q : s.data.toList with
  | nil => rw [q] at e; cases e
  | cons a l =>
    have := size_of s
    rw [q] at this
    simp at this
    omega
theorem tailOf (s : ByteArray) (h : 0 < s.size) : (s.extract 1 s.size).data.toList = s.data.toList.drop 1 := by
  rw [Go.Lib.extract_data, List.take_of_length_le (Nat.le_of_eq (by rw [List.length_drop, ← size_of]))]
theorem ext_size (s : ByteArray) (a b : Nat) : (s.extract a b).size ≤ s.size := by
  rw [size_of, Go.Lib.extract_data, List.length_take, List.length_drop, ← size_of]; omega
theorem joinSpec (t : List ByteArray) (hl : ∀ x ∈ t, x.size ≤ 1048576) : ∀ b : Bool, (b = false → t.length = 2 ∧ 0 < (rdOf ByteArray.empty t 0).size ∧ 0 < (rdOf ByteArray.empty t 1).size) →
    Ev (fun k => spec_l08ReadLife.j0 k t b) (if b = true then ([], [], false) else lifeOf ((rdOf ByteArray.empty t 0).data.toList.drop 1) ((rdOf ByteArray.empty t 1).data.toList.drop 1)) := by
  intro b hb
  refine Ev.succ ?_
  simp only [spec_l08ReadLife.j0]
  by_cases c : b = true
  · rw [if_pos c]; exact Ev.pos c (Ev.now _)
  · rw [if_neg c]
    rw [Bool.not_eq_true] at c
    obtain ⟨h2, h0, h1⟩ := hb c
    have hm0 : (rdOf ByteArray.empty t 0).size ≤ 1048576 := hl _ (by
      match t, h2 with
      | [x, y], _ => exact .head _)
    have hm1 : (rdOf ByteArray.empty t 1).size ≤ 1048576 := hl _ (by
      match t, h2 with
      | [x, y], _ => exact .tail _ (.head _))
    have e0 := readSpec ((rdOf ByteArray.empty t 0).extract 1 (rdOf ByteArray.empty t 0).size) (Nat.le_trans (ext_size _ _ _) (by omega))
    have e1 := readSpec ((rdOf ByteArray.empty t 1).extract 1 (rdOf ByteArray.empty t 1).size) (Nat.le_trans (ext_size _ _ _) (by omega))
    rw [told_of, tailOf _ h0] at e0
    rw [told_of, tailOf _ h1] at e1
    refine Ev.neg (by simp [c]) (Ev.pos (by omega) (Ev.pos (by omega) (Ev.bind e0 (Ev.pos (by omega) (Ev.pos (by omega) (Ev.bind e1 ?_))))))
    have l0 := dg_len ((rdOf ByteArray.empty t 0).data.toList.drop 1)
    have l1 := dg_len ((rdOf ByteArray.empty t 1).data.toList.drop 1)
    rw [List.length_drop, ← size_of] at l0 l1
    unfold lifeOf
    by_cases c1 : (dg ((rdOf ByteArray.empty t 0).data.toList.drop 1)).2 = true
    · rw [if_pos c1]
      refine Ev.pos c1 ?_
      by_cases c2 : (dg ((rdOf ByteArray.empty t 1).data.toList.drop 1)).2 = true
      · rw [if_pos c2]
        refine Ev.pos c2 (Ev.bind (lifeSpec _ _ (by omega) (by omega)) ?_)
        by_cases c3 : (cd (countsOk (dg ((rdOf ByteArray.empty t 0).data.toList.drop 1)).1) && cd (countsOk (dg ((rdOf ByteArray.empty t 1).data.toList.drop 1)).1)) = true
        · exact Ev.pos c3 (Ev.val (by rw [if_pos c3]))
        · exact Ev.neg c3 (Ev.val (by rw [if_neg c3]))
      · rw [if_neg c2]; exact Ev.neg c2 (Ev.now _)
    · rw [if_neg c1]; exact Ev.neg c1 (Ev.now _)
theorem specVal (s : ByteArray) (hl : s.size ≤ 1048576) (t : List ByteArray) (ht : pcs s s.size [] 0 0 = t) (hx : ∀ x ∈ t, x.size ≤ 1048576) : Ev (fun k => spec_l08ReadLife.f k s) (partsV t) := by
  unfold spec_l08ReadLife.f
  refine Ev.bind (ht ▸ cutSpec s hl) ?_
  unfold partsV
  by_cases c : t.length = 2
  · rw [if_pos c]
    refine Ev.pos (by omega) (Ev.pos (by omega) ?_)
    by_cases c0 : 0 < (rdOf ByteArray.empty t 0).size
    · refine Ev.neg (by omega) (Ev.pos (by omega) ?_)
      by_cases c1 : 0 < (rdOf ByteArray.empty t 1).size
      · refine Ev.neg (by omega) (Ev.pos (by omega) ?_)
        by_cases d0 : (rdOf ByteArray.empty t 0).data.toList.head? = some 66
        · refine Ev.pos ((bt_zero _ 66 c0).2 d0) (Ev.pos (by omega) ?_)
          by_cases d1 : (rdOf ByteArray.empty t 1).data.toList.head? = some 83
          · rw [if_pos ⟨d0, d1⟩]
            have e : (bt (rdOf ByteArray.empty t 1) 0 != 83) = false := bne_eq_false_iff_eq.2 ((bt_zero _ 83 c1).2 d1)
            refine Ev.cast (joinSpec t hx _ (fun _ => ⟨c, c0, c1⟩)) ?_
            rw [e]; rfl
          · rw [if_neg (fun h => d1 h.2)]
            have e : (bt (rdOf ByteArray.empty t 1) 0 != 83) = true := bne_iff_ne.2 (fun h => d1 ((bt_zero _ 83 c1).1 h))
            refine Ev.cast (joinSpec t hx _ (fun h => by rw [e] at h; cases h)) ?_
            rw [e]; rfl
        · rw [if_neg (fun h => d0 h.1)]
          exact Ev.neg (fun h => d0 ((bt_zero _ 66 c0).1 h)) (joinSpec t hx true (fun h => by cases h))
      · rw [if_neg (fun h => head_none _ _ c1 h.2)]
        exact Ev.pos (by omega) (joinSpec t hx true (fun h => by cases h))
    · rw [if_neg (fun h => head_none _ _ c0 h.1)]
      exact Ev.pos (by omega) (joinSpec t hx true (fun h => by cases h))
  · rw [if_neg c]
    exact Ev.neg (by omega) (joinSpec t hx true (fun h => by cases h))
theorem bt_list (s : ByteArray) (i : Nat) (h : i < s.size) : bt s i = 47 ↔ s.data.toList[i]? = some 47 := by
  unfold bt
  rw [dif_pos (by rw [Int.toNat_natCast]; exact h), List.getElem?_eq_getElem (by rw [← size_of]; exact h)]
  have e : s.data.toList[i]'(by rw [← size_of]; exact h) = s[(i : Int).toNat]'(by rw [Int.toNat_natCast]; exact h) := rfl
  rw [e]
  constructor
  · intro q
    congr 1
    exact UInt8.toNat_inj.1 (by rw [show (47 : UInt8).toNat = 47 from rfl]; exact_mod_cast q)
  · intro q
    injection q with q
    rw [q]; rfl
theorem occ_iff (l : List UInt8) (i : Nat) : Go.Lib.occAt l [47, 83] i = true ↔ l[i]? = some 47 ∧ l[i + 1]? = some 83 := by
  unfold Go.Lib.occAt
  have e0 : l[i]? = (l.drop i)[0]? := by rw [List.getElem?_drop]; rfl
  have e1 : l[i + 1]? = (l.drop i)[1]? := by rw [List.getElem?_drop]
  rw [e0, e1]
  match l.drop i with
  | [] => simp [List.isPrefixOf]
  | [a] => simp [List.isPrefixOf]
  | a :: b :: r =>
    simp only [List.isPrefixOf, Bool.and_eq_true, beq_iff_eq, List.getElem?_cons_zero, List.getElem?_cons_succ, Option.some.injEq, and_true]
    exact ⟨fun h => ⟨h.1.symm, h.2.symm⟩, fun h => ⟨h.1.symm, h.2.symm⟩⟩
theorem lifeV_miss {l : List UInt8} (h : ∀ j, j ≤ l.length → Go.Lib.occAt l [47, 83] j = false) : lifeV l = ([], [], false) := by
  have e : Go.Lib.cut l [47, 83] = (l, [], false) := by
    unfold Go.Lib.cut
    rw [Go.Lib.index_none h]; rfl
  unfold lifeV
  rw [e]; rfl
theorem lifeV_hit {l : List UInt8} {i : Nat} (h : Go.Lib.index l [47, 83] = i) : lifeV l = if (l.take i).head? = some 66 then lifeOf ((l.take i).drop 1) (l.drop (i + 2)) else ([], [], false) := by
  have e : Go.Lib.cut l [47, 83] = (l.take i, l.drop (i + 2), true) := by
    unfold Go.Lib.cut
    rw [h, if_pos (Int.natCast_nonneg i), Int.toNat_natCast]; rfl
  unfold lifeV
  rw [e]
  show (if true = true then (if [66].isPrefixOf (l.take i) = true then lifeOf ((l.take i).drop 1) (l.drop (i + 2)) else ([], [], false)) else ([], [], false)) = _
  rw [if_pos rfl]
  clear e
  have e : [66].isPrefixOf (l.take i) = true ↔ (l.take i).head? = some 66 := by
    cases l.take i with
    | nil => simp [List.isPrefixOf]
    | cons a r =>
      simp only [List.isPrefixOf, Bool.and_true, beq_iff_eq, List.head?_cons, Option.some.injEq]
      exact ⟨fun h => h.symm, fun h => h.symm⟩
  by_cases c : (l.take i).head? = some 66
  · rw [if_pos c, if_pos (e.2 c)]
  · rw [if_neg c, if_neg (fun q => c (e.1 q))]
theorem parts_two (a b : ByteArray) : partsV [a, b] = if a.data.toList.head? = some 66 ∧ b.data.toList.head? = some 83 then lifeOf (a.data.toList.drop 1) (b.data.toList.drop 1) else ([], [], false) := rfl
theorem parts_no {t : List ByteArray} (h : t.length ≠ 2) : partsV t = ([], [], false) := if_neg h
theorem agree (s : ByteArray) : ∃ t, pcs s s.size [] 0 0 = t ∧ partsV t = lifeV s.data.toList := by
  refine ⟨_, rfl, ?_⟩
  have hn := size_of s
  by_cases h0 : ∀ j, j < s.size → bt s (j : Nat) ≠ 47
  · rw [pcs_none s s.size [] 0 0 (fun j _ h => h0 j (by omega)), parts_no (by simp)]
    refine (lifeV_miss fun j hj => ?_).symm
    rw [Bool.eq_false_iff]
    intro q
    obtain ⟨q1, _⟩ := (occ_iff _ _).1 q
    have hj2 : j < s.size := by rw [hn]; exact (List.getElem?_eq_some_iff.1 q1).1
    exact h0 j hj2 ((bt_list s j hj2).2 q1)
  · have hex : ∃ j, j < s.size ∧ bt s (j : Nat) = 47 := Classical.byContradiction fun q => h0 fun j hj e => q ⟨j, hj, e⟩
    obtain ⟨p, ⟨hp, ep⟩, hmin⟩ : ∃ p, (p < s.size ∧ bt s (p : Nat) = 47) ∧ ∀ j, j < p → ¬ (j < s.size ∧ bt s (j : Nat) = 47) := by
      obtain ⟨j, hj⟩ := hex
      induction j using Nat.strongRecOn with
      | _ j ih =>
        by_cases g : ∃ i, i < j ∧ (i < s.size ∧ bt s (i : Nat) = 47)
        · obtain ⟨i, hi, hi2⟩ := g
          exact ih i hi hi2
        · exact ⟨j, hj, fun i hi h => g ⟨i, hi, h⟩⟩
    have sl := (bt_list s p hp).1 ep
    rw [pcs_first s p ep s.size [] 0 0 (by omega) (by omega) (fun j _ h e => hmin j h ⟨by omega, e⟩)]
    by_cases h1 : ∀ j, p < j → j < s.size → bt s (j : Nat) ≠ 47
    · rw [pcs_none s _ _ _ _ (fun j a b => h1 j (by omega) (by omega))]
      have e2 : p + 1 + (0 + s.size - (p + 1)) = s.size := by omega
      rw [e2]
      show partsV [s.extract 0 p, s.extract (p + 1) s.size] = _
      have only : ∀ j, j ≠ p → Go.Lib.occAt s.data.toList [47, 83] j = false := by
        intro j hj
        rw [Bool.eq_false_iff]
        intro q
        obtain ⟨q1, _⟩ := (occ_iff _ _).1 q
        have hj2 : j < s.size := by rw [hn]; exact (List.getElem?_eq_some_iff.1 q1).1
        have hb := (bt_list s j hj2).2 q1
        by_cases g : j < p
        · exact hmin j g ⟨hj2, hb⟩
        · exact h1 j (by omega) hj2 hb
      have x0 : (s.extract 0 p).data.toList = s.data.toList.take p := by rw [Go.Lib.extract_data]; rfl
      have x1 : (s.extract (p + 1) s.size).data.toList = s.data.toList.drop (p + 1) := by
        rw [Go.Lib.extract_data, List.take_of_length_le (Nat.le_of_eq (by rw [List.length_drop, ← size_of]))]
      rw [parts_two, x0, x1]
      have hd : (s.data.toList.drop (p + 1)).head? = s.data.toList[p + 1]? := by rw [List.head?_drop]
      by_cases g : s.data.toList[p + 1]? = some 83
      · have hi : Go.Lib.index s.data.toList [47, 83] = p := Go.Lib.index_first (by omega) ((occ_iff _ _).2 ⟨sl, g⟩) (fun j hj => only j (by omega))
        rw [lifeV_hit hi]
        by_cases g2 : (s.data.toList.take p).head? = some 66
        · rw [if_pos ⟨g2, hd.trans g⟩, if_pos g2, List.drop_drop]
        · rw [if_neg (fun q => g2 q.1), if_neg g2]
      · rw [if_neg (fun q => g (hd.symm.trans q.2))]
        refine (lifeV_miss fun j hj => ?_).symm
        by_cases e : j = p
        · subst e
          rw [Bool.eq_false_iff]
          intro q
          exact g ((occ_iff _ _).1 q).2
        · exact only j e
    · obtain ⟨q, hq0, hq1, eq⟩ : ∃ q, p < q ∧ q < s.size ∧ bt s (q : Nat) = 47 := Classical.byContradiction fun z => h1 fun j a b e => z ⟨j, a, b, e⟩
      have slq := (bt_list s q hq1).1 eq
      have lng : 3 ≤ (pcs s (0 + s.size - (p + 1)) ([] ++ [s.extract 0 p]) (p + 1) (p + 1)).length := by
        obtain ⟨q', ⟨hq0', hq1', eq'⟩, hmin'⟩ : ∃ q', (p < q' ∧ q' < s.size ∧ bt s (q' : Nat) = 47) ∧ ∀ j, j < q' → ¬ (p < j ∧ j < s.size ∧ bt s (j : Nat) = 47) := by
          have hj := And.intro hq0 (And.intro hq1 eq)
          clear slq eq hq0 hq1
          induction q using Nat.strongRecOn with
          | _ j ih =>
            by_cases g : ∃ i, i < j ∧ (p < i ∧ i < s.size ∧ bt s (i : Nat) = 47)
            · obtain ⟨i, hi, hi2⟩ := g
              exact ih i hi hi2
            · exact ⟨j, hj, fun i hi h => g ⟨i, hi, h⟩⟩
        rw [pcs_first s q' eq' _ _ _ _ (by omega) (by omega) (fun j a b e => hmin' j b ⟨by omega, by omega, e⟩)]
        refine Nat.le_trans ?_ (pcs_len s _ _ _ _)
        simp
      rw [parts_no (by omega)]
      rcases Go.Lib.index_spec s.data.toList [47, 83] with ⟨_, hno⟩ | ⟨i, hi, hil, ho, _⟩
      · exact (lifeV_miss hno).symm
      · obtain ⟨o1, o2⟩ := (occ_iff _ _).1 ho
        have hi2 : i < s.size := by rw [hn]; exact (List.getElem?_eq_some_iff.1 o1).1
        have hip : p ≤ i := by
          rcases Nat.lt_or_ge i p with z | z
          · exact absurd ⟨hi2, (bt_list s i hi2).2 o1⟩ (hmin i z)
          · exact z
        rw [lifeV_hit hi]
        split
        · rename_i g
          refine (lifeOf_no ?_).symm
          by_cases e : i = p
          · subst e
            right
            have hne : q ≠ i + 1 := by
              intro z
              rw [z, o2] at slq
              exact absurd (Option.some.inj slq) (by decide)
            refine List.mem_of_getElem? (i := q - (i + 2)) ?_
            rw [List.getElem?_drop, show i + 2 + (q - (i + 2)) = q by omega]
            exact slq
          · left
            have hp0 : p ≠ 0 := by
              intro z
              rw [z] at sl
              have : (s.data.toList.take i).head? = s.data.toList.head? := by
                rw [List.head?_take, if_neg (by omega)]
              rw [this, List.head?_eq_getElem?, sl] at g
              exact absurd (Option.some.inj g) (by decide)
            refine List.mem_of_getElem? (i := p - 1) ?_
            rw [List.getElem?_drop, show 1 + (p - 1) = p by omega, List.getElem?_take, if_pos (by omega)]
            exact sl
        · rfl
theorem parts_size (s : ByteArray) : ∀ d acc b i, (∀ x ∈ acc, x.size ≤ s.size) → ∀ x ∈ pcs s d acc b i, x.size ≤ s.size := by
  intro d
  induction d with
  | zero =>
    intro acc b i h x hx
    simp only [pcs, List.mem_append, List.mem_singleton] at hx
    rcases hx with hx | rfl
    · exact h x hx
    · exact ext_size _ _ _
  | succ d ih =>
    intro acc b i h x hx
    simp only [pcs] at hx
    split at hx
    · refine ih _ _ _ (fun y hy => ?_) x hx
      simp only [List.mem_append, List.mem_singleton] at hy
      rcases hy with hy | rfl
      · exact h y hy
      · exact ext_size _ _ _
    · exact ih _ _ _ h x hx
theorem readLifeSpec (s : ByteArray) (hl : s.size ≤ 1048576) : Ev (fun k => spec_ReadLife.f k s) (lifeV s.data.toList) := by
  obtain ⟨t, ht, e⟩ := agree s
  unfold spec_ReadLife.f
  have := specVal s hl t ht (fun x hx => Nat.le_trans (parts_size s _ _ _ _ (fun y hy => by cases hy) x (ht ▸ hx)) hl)
  rw [e] at this
  exact Ev.bind this (Ev.now _)
theorem prefB (x : ByteArray) : ∃ y, strings_CutPrefix.f x (⟨#[66]⟩ : ByteArray) = some (y, [66].isPrefixOf x.data.toList) ∧ y.size ≤ x.size ∧ ([66].isPrefixOf x.data.toList = true → y.data.toList = x.data.toList.drop 1) := by
  have hs : (⟨#[66]⟩ : ByteArray).size = 1 := rfl
  unfold strings_CutPrefix.f stringslite_CutPrefix.f stringslite_HasPrefix.f
  rw [hs]
  by_cases c : (x.size : Int) ≥ ((1 : Nat) : Int)
  · rw [if_pos c, if_pos (by omega), if_pos (by omega)]
    simp only [Option.bind_some]
    have e : ((x.extract 0 (((1 : Nat) : Int)).toNat).toList == (⟨#[66]⟩ : ByteArray).toList) = [66].isPrefixOf x.data.toList := by
      have h := Go.Lib.hasPrefix_raw x (⟨#[66]⟩ : ByteArray)
      rw [hs, decide_eq_true (show 1 ≤ x.size by omega), Bool.true_and] at h
      exact h
    rw [e]
    by_cases g : [66].isPrefixOf x.data.toList = true
    · rw [if_pos g, if_pos (by omega), if_pos (by omega), g]
      exact ⟨_, rfl, ext_size _ _ _, fun _ => tailOf x (by omega)⟩
    · rw [if_neg g]
      rw [Bool.not_eq_true] at g
      rw [g]
      exact ⟨x, rfl, Nat.le_refl _, fun h => by cases h⟩
  · rw [if_neg c]
    have e : x.data.toList = [] := List.length_eq_zero_iff.1 (by rw [← size_of]; omega)
    rw [e]
    exact ⟨x, rfl, Nat.le_refl _, fun h => by cases h⟩
theorem cut_len (l : List UInt8) : (Go.Lib.cut l [47, 83]).1.length ≤ l.length ∧ (Go.Lib.cut l [47, 83]).2.1.length ≤ l.length := by
  unfold Go.Lib.cut
  split
  · exact ⟨by rw [List.length_take]; omega, by rw [List.length_drop]; omega⟩
  · exact ⟨Nat.le_refl _, Nat.zero_le _⟩
theorem readLifeImpl (s : ByteArray) (hl : s.size ≤ 1048576) : Ev (fun k => impl_ReadLife.f k s) (lifeV s.data.toList) := by
  unfold impl_ReadLife.f lifeV
  have hc : strings_Cut.f s (⟨#[47, 83]⟩ : ByteArray) = some ((⟨(Go.Lib.cut s.data.toList [47, 83]).1.toArray⟩ : ByteArray), (⟨(Go.Lib.cut s.data.toList [47, 83]).2.1.toArray⟩ : ByteArray), (Go.Lib.cut s.data.toList [47, 83]).2.2) := by
    unfold strings_Cut.f
    exact if_pos (by omega)
  obtain ⟨n1, n2⟩ := cut_len s.data.toList
  rw [← size_of] at n1 n2
  generalize Go.Lib.cut s.data.toList [47, 83] = c at hc n1 n2 ⊢
  refine Ev.bnd hc ?_
  obtain ⟨y, h1, h2, h3⟩ := prefB (⟨c.1.toArray⟩ : ByteArray)
  have z1 : (⟨c.1.toArray⟩ : ByteArray).size = c.1.length := rfl
  have z2 : (⟨c.2.1.toArray⟩ : ByteArray).size = c.2.1.length := rfl
  refine Ev.bnd h1 (Ev.bind (readImpl y (by omega)) (Ev.bind (readImpl _ (by show c.2.1.length ≤ _; omega)) ?_))
  rw [told_of, told_of]
  show Ev (fun k => if c.2.2 = true then (if [66].isPrefixOf c.1 = true then (if (dg y.data.toList).2 = true then (if (dg c.2.1).2 = true then ((impl_ValidLife.f k (dg y.data.toList).1 (dg c.2.1).1).bind fun t => if t = true then some ((dg y.data.toList).1, (dg c.2.1).1, true) else some ([], [], false)) else some ([], [], false)) else some ([], [], false)) else some ([], [], false)) else some ([], [], false)) _
  by_cases g1 : c.2.2 = true
  · rw [if_pos g1]
    refine Ev.pos g1 ?_
    by_cases g2 : [66].isPrefixOf c.1 = true
    · rw [if_pos g2, h3 g2]
      show Ev _ (lifeOf (c.1.drop 1) c.2.1)
      refine Ev.pos g2 ?_
      show Ev (fun k => if (dg (c.1.drop 1)).2 = true then (if (dg c.2.1).2 = true then ((impl_ValidLife.f k (dg (c.1.drop 1)).1 (dg c.2.1).1).bind fun t => if t = true then some ((dg (c.1.drop 1)).1, (dg c.2.1).1, true) else some ([], [], false)) else some ([], [], false)) else some ([], [], false)) _
      have l0 := dg_len (c.1.drop 1)
      have l1 := dg_len c.2.1
      rw [List.length_drop] at l0
      unfold lifeOf
      by_cases c1 : (dg (c.1.drop 1)).2 = true
      · rw [if_pos c1]
        refine Ev.pos c1 ?_
        by_cases c2 : (dg c.2.1).2 = true
        · rw [if_pos c2]
          refine Ev.pos c2 (Ev.bind (lifeImpl _ _ (by omega) (by omega)) ?_)
          by_cases c3 : (cd (countsOk (dg (c.1.drop 1)).1) && cd (countsOk (dg c.2.1).1)) = true
          · exact Ev.pos c3 (Ev.val (by rw [if_pos c3]))
          · exact Ev.neg c3 (Ev.val (by rw [if_neg c3]))
        · rw [if_neg c2]; exact Ev.neg c2 (Ev.now _)
      · rw [if_neg c1]; exact Ev.neg c1 (Ev.now _)
    · rw [if_neg g2]; exact Ev.neg g2 (Ev.now _)
  · rw [if_neg g1]; exact Ev.neg g1 (Ev.now _)
theorem lifeV_len (l : List UInt8) : (lifeV l).1.length ≤ l.length ∧ (lifeV l).2.1.length ≤ l.length := by
  have hno : ([] : List Int).length ≤ l.length ∧ ([] : List Int).length ≤ l.length := ⟨Nat.zero_le _, Nat.zero_le _⟩
  obtain ⟨n1, n2⟩ := cut_len l
  have l0 := dg_len ((Go.Lib.cut l [47, 83]).1.drop 1)
  have l1 := dg_len (Go.Lib.cut l [47, 83]).2.1
  rw [List.length_drop] at l0
  unfold lifeV
  split
  · split
    · unfold lifeOf
      split
      · split
        · split
          · exact ⟨Nat.le_trans l0 (by omega), Nat.le_trans l1 (by omega)⟩
          · exact hno
        · exact hno
      · exact hno
    · exact hno
  · exact hno
theorem eqLife2 (a b : List Int) (ha : a.length ≤ 35184372088832) (hb : b.length ≤ 35184372088832) : Ev (fun k => laws_eqLife.f k a b a b) true := by
  unfold laws_eqLife.f
  exact Ev.bind (eqInt64S a a ha) (Ev.pos (by simp) (Ev.bind (eqInt64S b b hb) (Ev.pos (by simp) (Ev.now _))))
theorem markLife (a b : List Int) (ha : a.length ≤ 1048576) (hb : b.length ≤ 1048576) : Ev (fun k => laws_markLife.f k a b 1) ((1 : Int) + a.length + b.length, marks 1 a.length, marks (1 + a.length) b.length) := by
  unfold laws_markLife.f
  exact Ev.bind (markInt64S a 1 (by omega) (by omega) (by omega)) (Ev.bind (markInt64S b _ (by omega) (by omega) (by omega)) (Ev.now _))
theorem heldLife (n m : Nat) (ha : n ≤ 1048576) (hb : m ≤ 1048576) : Ev (fun k => laws_heldLife.f k (marks 1 n) (marks (1 + n) m) 1) ((1 : Int) + n + m) := by
  unfold laws_heldLife.f
  exact Ev.bind (heldInt64S n 1 (by omega) (by omega) (by omega)) (Ev.neg (by omega) (Ev.bind (heldInt64S m _ (by omega) (by omega) (by omega)) (Ev.neg (by omega) (Ev.now _))))
theorem FnExactReadLife : laws_FnExactReadLife.Pure := by
  intro s hs
  refine Ev.rounds ?_
  unfold laws_FnExactReadLife.f
  by_cases c : (s.size : Int) > 1048576
  · exact Ev.pos c (Ev.now _)
  · have hl : s.size ≤ 1048576 := by omega
    obtain ⟨n1, n2⟩ := lifeV_len s.data.toList
    rw [← size_of] at n1 n2
    have hI := readLifeImpl s hl
    have hS := readLifeSpec s hl
    generalize lifeV s.data.toList = v at n1 n2 hI hS
    refine Ev.neg c (Ev.bind hS (Ev.bind hI (Ev.bind (eqLife2 _ _ (by omega) (by omega)) (Ev.pos rfl (Ev.succ ?_)))))
    simp only [laws_FnExactReadLife.j0]
    refine Ev.neg (by simp) (Ev.bind (markLife _ _ (by omega) (by omega)) (Ev.bind (heldLife _ _ (by omega) (by omega)) (Ev.neg (by omega) (Ev.pos (by trivial) (Ev.bind hI (Ev.bind (eqLife2 _ _ (by omega) (by omega)) (Ev.pos rfl (Ev.succ ?_))))))))
    simp only [laws_FnExactReadLife.j1]
    exact Ev.neg (by simp) (Ev.bind (heldLife _ _ (by omega) (by omega)) (Ev.neg (by omega) (Ev.pos (by trivial) (Ev.now _))))

end Go.Proofs.Ytjhodohmifemiaa.Pure

/- LifeText of the program and of the reference answer the same for every life. -/
import Derived.Test.YtacjknmphgpjaaaPFnExactLifeTextx0
import Derived.Test.YtacjknmphgpjaaaPFnExactLifeTextx1
import Derived.Test.YtacjknmphgpjaaaPFnExactLifeTextx2
import Derived.Test.YtacjknmphgpjaaaPFnExactLifeTextx3
import Derived.Test.YtacjknmphgpjaaaLib
namespace Go.Proofs.Ytacjknmphgpjaaa.Pure
open Go.RowKit Go.Proofs.Ytacjknmphgpjaaa.PFnExactLifeText Go.Proofs.YtacjknmphgpjaaaW.PrintWords Go.Proofs.YtacjknmphgpjaaaW.PrintLast Go.Proofs.Ytacjknmphgpjaaa.L
set_option linter.unusedVariables false
set_option linter.unusedSimpArgs false

theorem toInt64S (l : List Int) (hl : l.length ≤ 35184372088832) : Ev (fun k => laws_toInt64S.f k l) l := by
  unfold laws_toInt64S.f
  refine Ev.pos (by omega) (Ev.pos (by omega) ?_)
  refine Ev.cast (Ev.upto l.length (fun _ => True) (fun i => l.take i ++ List.replicate (l.length - i) 0) l (fun k s i => laws_toInt64S.l0 k l s i) (fun i hi _ ih => ?_) (fun _ => ?_) trivial) rfl
  · refine Ev.succ ?_
    simp only [laws_toInt64S.l0]
    refine Ev.pos (by omega) (Ev.pos (by omega) (Ev.pos (by simp; omega) ?_))
    rw [wrap_id (by omega) (by omega), Int.toNat_natCast, rd_lt l i hi, take_set_rep l i hi]
    exact ih trivial
  · refine Ev.succ ?_
    simp only [laws_toInt64S.l0]
    exact Ev.neg (by omega) (Ev.val (by simp))

theorem eqInt64S (l m : List Int) (hl : l.length ≤ 35184372088832) : Ev (fun k => laws_eqInt64S.f k l m) (decide (l = m)) := by
  unfold laws_eqInt64S.f
  by_cases h : l.length = m.length
  · refine Ev.pos (by omega) ?_
    refine Ev.upto l.length (fun i => ∀ j, j < i → l[j]? = m[j]?) (fun _ => ()) _ (fun k _ i => laws_eqInt64S.l0 k l m i) (fun i hi hp ih => ?_) (fun hp => ?_) (fun j hj => by omega)
    · refine Ev.succ ?_
      simp only [laws_eqInt64S.l0]
      refine Ev.pos (by omega) (Ev.pos (by omega) (Ev.pos (by omega) ?_))
      rw [rd_lt l i (by omega), rd_lt m i (by omega)]
      by_cases e : l[i] = m[i]
      · refine Ev.pos e ?_
        rw [wrap_id (by omega) (by omega)]
        exact ih (fun j hj' => by
          by_cases hji : j < i
          · exact hp j hji
          · obtain rfl : j = i := by omega
            rw [List.getElem?_eq_getElem (by omega), List.getElem?_eq_getElem (by omega), e])
      · refine Ev.neg e (Ev.val ?_)
        rw [eq_comm, Option.some.injEq, decide_eq_false_iff_not]
        rintro rfl
        exact e rfl
    · refine Ev.succ ?_
      simp only [laws_eqInt64S.l0]
      refine Ev.neg (by omega) (Ev.val ?_)
      have : l = m := List.ext_getElem? (fun j => by
        by_cases hjl : j < l.length
        · exact hp j (by omega)
        · rw [List.getElem?_eq_none (by omega), List.getElem?_eq_none (by omega)])
      simp [this]
  · refine Ev.neg (by omega) (Ev.val ?_)
    rw [eq_comm, Option.some.injEq, decide_eq_false_iff_not]
    rintro rfl
    exact h rfl

theorem szInt64S (l : List Int) (a : Int) (hl : l.length ≤ 35184372088832) (h0 : -1000000000000 ≤ a) (h1 : a ≤ 1000000000000) : laws_szInt64S.f l a = some (if a - l.length < 0 then -1 else a - l.length) := by
  unfold laws_szInt64S.f
  rw [wrap_id (x := a - l.length) (by omega) (by omega)]
  split <;> rfl

theorem digitsSpec (l : List Int) (hl : l.length ≤ 35184372088832) : Ev (fun k => spec_l08Digits.f k l) (strOfNums (l.map fun x => wrap64 (48 + x) % 256)) := by
  unfold spec_l08Digits.f
  refine Ev.upto l.length (fun _ => True) (fun i => (l.take i).map fun x => wrap64 (48 + x) % 256) _ (fun k s i => spec_l08Digits.l0 k l s i) (fun i hi _ ih => ?_) (fun _ => ?_) trivial
  · refine Ev.succ ?_
    simp only [spec_l08Digits.l0]
    have := ih trivial
    rw [List.take_succ_eq_append_getElem hi, List.map_append] at this
    rw [rd_lt l i hi, wrap_id (x := (i : Int) + 1) (by omega) (by omega)]
    exact Ev.pos (by omega) (Ev.pos (by omega) (Ev.pos (by rw [List.length_map, List.length_take]; omega) this))
  · refine Ev.succ ?_
    simp only [spec_l08Digits.l0]
    exact Ev.neg (by omega) (Ev.val (by rw [List.take_length]))
theorem digitsImpl (l : List Int) (hl : l.length ≤ 35184372088832) : Ev (fun k => impl_digitText.f k l) (strOfNums (l.map fun x => wrap64 (48 + x) % 256)) := by
  unfold impl_digitText.f
  refine Ev.upto l.length (fun _ => True) (fun i => (l.take i).map fun x => wrap64 (48 + x) % 256) _ (fun k s i => impl_digitText.l0 k s l l.length i) (fun i hi _ ih => ?_) (fun _ => ?_) trivial
  · refine Ev.succ ?_
    simp only [impl_digitText.l0]
    have := ih trivial
    rw [List.take_succ_eq_append_getElem hi, List.map_append] at this
    rw [rd_lt l i hi, wrap_id (x := (i : Int) + 1) (by omega) (by omega)]
    exact Ev.pos (by omega) (Ev.pos (by omega) (Ev.pos (by omega) (Ev.pos (by rw [List.length_map, List.length_take]; omega) this)))
  · refine Ev.succ ?_
    simp only [impl_digitText.l0]
    exact Ev.neg (by omega) (Ev.val (by rw [List.take_length]))

theorem l00In (a b c : Int) : spec_l00In.f a b c = some (decide (b ≤ a ∧ a ≤ c)) := by
  unfold spec_l00In.f
  by_cases h : a ≥ b
  · rw [if_pos h]; simp; omega
  · rw [if_neg h]; simp; omega

theorem within (a b c : Int) : impl_within.f a b c = some (decide (b ≤ a ∧ a ≤ c)) := by
  unfold impl_within.f
  by_cases h : a ≥ b
  · rw [if_pos h]; simp; omega
  · rw [if_neg h]; simp; omega

theorem areWithin (l : List Int) (a b : Int) (hl : l.length ≤ 35184372088832) : Ev (fun k => impl_areWithin.f k l a b) (allIn l a b) := by
  unfold impl_areWithin.f
  refine Ev.upto l.length (fun i => ∀ j, (hj : j < l.length) → j < i → a ≤ l[j] ∧ l[j] ≤ b) (fun _ => ()) _ (fun k _ i => impl_areWithin.l0 k a b l l.length i) (fun i hi hp ih => ?_) (fun hp => ?_) (fun j hj h => by omega)
  · refine Ev.succ ?_
    simp only [impl_areWithin.l0]
    refine Ev.pos (by omega) (Ev.pos (by omega) (Ev.pos (by omega) ?_))
    rw [rd_lt l i (by omega), wrap_id (by omega) (by omega), within]
    by_cases c : a ≤ l[i] ∧ l[i] ≤ b
    · exact Ev.bnd rfl (Ev.pos (by simpa using c) (ih (upTo_succ (p := fun x => a ≤ x ∧ x ≤ b) hi hp c)))
    · exact Ev.bnd rfl (Ev.neg (by simpa using c) (Ev.val (by rw [allIn_false i (by omega) c])))
  · refine Ev.succ ?_
    simp only [impl_areWithin.l0]
    exact Ev.neg (by omega) (Ev.val (by rw [allIn_true (fun j hj' => hp j hj' (by omega))]))

theorem countsSpec (l : List Int) (hl : l.length ≤ 35184372088832) : Ev (fun k => spec_l04Counts.f k l) (cd (countsOk l)) := by
  unfold spec_l04Counts.f
  refine Ev.upto l.length (fun i => ∀ j, (hj : j < l.length) → j < i → (0 ≤ l[j] ∧ l[j] ≤ 8) ∧ ((h0 : 0 < j) → l[j - 1] < l[j])) (fun _ => ()) _ (fun k _ i => spec_l04Counts.l0 k l i) (fun i hi hp ih => ?_) (fun hp => ?_) (fun j hj h => by omega)
  · refine Ev.succ ?_
    simp only [spec_l04Counts.l0]
    have ih' : ((0 ≤ l[i] ∧ l[i] ≤ 8) ∧ ((h0 : 0 < i) → l[i - 1] < l[i])) → Ev (fun k => spec_l04Counts.l0 k l ((i : Int) + 1)) (cd (countsOk l)) := fun h => ih (fun j hj hji => by
      by_cases e : j < i
      · exact hp j hj e
      · obtain rfl : j = i := by omega
        exact h)
    refine Ev.pos (by omega) (Ev.pos (by omega) ?_)
    rw [rd_lt l i hi, wrap_id (x := (i : Int) + 1) (by omega) (by omega), wrap_id (x := (i : Int) - 1) (by omega) (by omega)]
    refine Ev.bnd (l00In _ _ _) ?_
    by_cases c : 0 ≤ l[i] ∧ l[i] ≤ 8
    · refine Ev.pos (by simpa using c) ?_
      by_cases e : (i : Int) > 0
      · refine Ev.pos e (Ev.pos (by omega) (Ev.pos (by omega) ?_))
        have hi1 : i - 1 < l.length := by omega
        have e1 : rd l ((i : Int) - 1) = l[i - 1] := by rw [show (i : Int) - 1 = ((i - 1 : Nat) : Int) by omega]; exact rd_lt l (i - 1) hi1
        rw [e1]
        by_cases g : l[i] ≤ l[i - 1]
        · refine Ev.pos g (Ev.val ?_)
          rw [cd_false]
          intro h
          have := h.1 (i - 1) (by omega)
          have e2 : l[i - 1 + 1] = l[i] := by congr 1; omega
          omega
        · exact Ev.neg g (ih' ⟨c, fun _ => by omega⟩)
      · exact Ev.neg e (ih' ⟨c, fun h => by omega⟩)
    · refine Ev.neg (by simpa using c) (Ev.val ?_)
      rw [cd_false]
      intro h
      exact c (h.2 _ (List.getElem_mem hi))
  · refine Ev.succ ?_
    simp only [spec_l04Counts.l0]
    refine Ev.neg (by omega) (Ev.val ?_)
    rw [cd_true]
    refine ⟨fun i h => ?_, fun x hx => ?_⟩
    · have := (hp (i + 1) h h).2 (by omega)
      simpa using this
    · obtain ⟨i, hi, rfl⟩ := List.getElem_of_mem hx
      exact (hp i hi hi).1
theorem countsImpl (l : List Int) (hl : l.length ≤ 35184372088832) : Ev (fun k => impl_areCounts.f k l) (cd (countsOk l)) := by
  unfold impl_areCounts.f
  have fin : (∀ i, (h : i + 1 < l.length) → l[i] < l[i + 1]) → Ev (fun k => (impl_areWithin.f k l 0 8).bind fun t => some t) (cd (countsOk l)) := by
    intro h
    refine Ev.bind (areWithin l 0 8 hl) (Ev.val ?_)
    by_cases c : allIn l 0 8 = true
    · rw [c, cd_true ⟨h, allIn_iff.1 c⟩]
    · rw [Bool.not_eq_true] at c
      rw [c, cd_false]
      intro h'
      rw [allIn_iff.2 h'.2] at c
      exact absurd c (by simp)
  by_cases h0 : l.length = 0
  · refine Ev.succ ?_
    simp only [impl_areCounts.l0]
    exact Ev.neg (by omega) (fin (fun i h => by omega))
  · have main : ∀ d i : Nat, 1 ≤ i → i + d = l.length → (∀ j, (h : j + 1 < l.length) → j + 1 < i → l[j] < l[j + 1]) → Ev (fun k => impl_areCounts.l0 k l i) (cd (countsOk l)) := by
      intro d
      induction d with
      | zero =>
        intro i h1 hi hp
        refine Ev.succ ?_
        simp only [impl_areCounts.l0]
        exact Ev.neg (by omega) (fin (fun j h => hp j h (by omega)))
      | succ d ih =>
        intro i h1 hi hp
        have hil : i < l.length := by omega
        have hi1 : i - 1 < l.length := by omega
        refine Ev.succ ?_
        simp only [impl_areCounts.l0]
        rw [rd_lt l i hil, wrap_id (x := (i : Int) + 1) (by omega) (by omega), wrap_id (x := (i : Int) - 1) (by omega) (by omega)]
        have e1 : rd l ((i : Int) - 1) = l[i - 1] := by rw [show (i : Int) - 1 = ((i - 1 : Nat) : Int) by omega]; exact rd_lt l (i - 1) hi1
        rw [e1]
        refine Ev.pos (by omega) (Ev.pos (by omega) (Ev.pos (by omega) (Ev.pos (by omega) ?_)))
        by_cases g : l[i] ≤ l[i - 1]
        · refine Ev.pos g (Ev.val ?_)
          rw [cd_false]
          intro h
          have := h.1 (i - 1) (by omega)
          have e2 : l[i - 1 + 1] = l[i] := by congr 1; omega
          omega
        · refine Ev.neg g ?_
          refine ih (i + 1) (by omega) (by omega) (fun j h hj => ?_)
          by_cases e : j + 1 < i
          · exact hp j h e
          · obtain rfl : i = j + 1 := by omega
            have e3 : l[j + 1 - 1] = l[j] := by congr 1
            omega
    exact main (l.length - 1) 1 (by omega) (by omega) (fun j h hj => by omega)

theorem toLife (a b : List Int) (ha : a.length ≤ 35184372088832) (hb : b.length ≤ 35184372088832) : Ev (fun k => laws_toLife.f k a b) (a, b) := by
  unfold laws_toLife.f
  exact Ev.bind (toInt64S a ha) (Ev.bind (toInt64S b hb) (Ev.now _))
theorem eqLife (a b : List Int) (ha : a.length ≤ 35184372088832) (hb : b.length ≤ 35184372088832) : Ev (fun k => laws_eqLife.f k a b a b) true := by
  unfold laws_eqLife.f
  exact Ev.bind (eqInt64S a a ha) (Ev.pos (by simp) (Ev.bind (eqInt64S b b hb) (Ev.pos (by simp) (Ev.now _))))
theorem lifeSpec (a b : List Int) (ha : a.length ≤ 35184372088832) (hb : b.length ≤ 35184372088832) : Ev (fun k => spec_l04Life.f k a b) (cd (countsOk a) && cd (countsOk b)) := by
  unfold spec_l04Life.f
  refine Ev.bind (countsSpec a ha) ?_
  by_cases c : cd (countsOk a) = true
  · exact Ev.pos c (Ev.bind (countsSpec b hb) (Ev.val (by rw [c, Bool.true_and])))
  · exact Ev.neg c (Ev.val (by rw [Bool.not_eq_true] at c; rw [c, Bool.false_and]))
theorem lifeImpl (a b : List Int) (ha : a.length ≤ 35184372088832) (hb : b.length ≤ 35184372088832) : Ev (fun k => impl_ValidLife.f k a b) (cd (countsOk a) && cd (countsOk b)) := by
  unfold impl_ValidLife.f
  refine Ev.bind (countsImpl a ha) ?_
  by_cases c : cd (countsOk a) = true
  · exact Ev.pos c (Ev.bind (countsImpl b hb) (Ev.val (by rw [c, Bool.true_and])))
  · exact Ev.neg c (Ev.val (by rw [Bool.not_eq_true] at c; rw [c, Bool.false_and]))
/-- The text of a life. -/
def lifeBytes (a b : List Int) : ByteArray := (((⟨#[66]⟩ : ByteArray) ++ strOfNums (a.map fun x => wrap64 (48 + x) % 256)) ++ (⟨#[47, 83]⟩ : ByteArray)) ++ strOfNums (b.map fun x => wrap64 (48 + x) % 256)
noncomputable def lifeText (a b : List Int) : ByteArray × Bool := if (cd (countsOk a) && cd (countsOk b)) = true then (lifeBytes a b, true) else (⟨#[]⟩, false)
theorem bytesSpec (a b : List Int) (ha : a.length ≤ 35184372088832) (hb : b.length ≤ 35184372088832) : Ev (fun k => spec_l08Life.f k a b) (lifeBytes a b) := by
  unfold spec_l08Life.f lifeBytes
  refine Ev.bind (digitsSpec a ha) (Ev.pos ?_ (Ev.pos ?_ (Ev.bind (digitsSpec b hb) (Ev.pos ?_ (Ev.now _)))))
  · rw [str_size, List.length_map]; omega
  · rw [str_size, List.length_map]; omega
  · rw [str_size, List.length_map, str_size, List.length_map]; omega
theorem textSpec (a b : List Int) (ha : a.length ≤ 35184372088832) (hb : b.length ≤ 35184372088832) : Ev (fun k => spec_LifeText.f k a b) (lifeText a b) := by
  unfold spec_LifeText.f lifeText
  refine Ev.bind (lifeSpec a b ha hb) ?_
  by_cases c : (cd (countsOk a) && cd (countsOk b)) = true
  · exact Ev.pos c (Ev.bind (bytesSpec a b ha hb) (Ev.val (by rw [if_pos c])))
  · exact Ev.neg c (Ev.val (by rw [if_neg c]))
theorem textImpl (a b : List Int) (ha : a.length ≤ 35184372088832) (hb : b.length ≤ 35184372088832) : Ev (fun k => impl_LifeText.f k a b) (lifeText a b) := by
  unfold impl_LifeText.f lifeText
  refine Ev.bind (lifeImpl a b ha hb) ?_
  by_cases c : (cd (countsOk a) && cd (countsOk b)) = true
  · refine Ev.pos c (Ev.bind (digitsImpl a ha) (Ev.pos ?_ (Ev.pos ?_ (Ev.bind (digitsImpl b hb) (Ev.pos ?_ (Ev.val (by rw [if_pos c]; rfl)))))))
    · rw [str_size, List.length_map]; omega
    · rw [str_size, List.length_map]; omega
    · rw [str_size, List.length_map, str_size, List.length_map]; omega
  · exact Ev.neg c (Ev.val (by rw [if_neg c]))
theorem szLife (a b : List Int) (ha : a.length ≤ 35184372088832) (hb : b.length ≤ 35184372088832) : ∃ n, laws_szLife.f a b 1048576 = some n := by
  unfold laws_szLife.f
  rw [szInt64S a _ ha (by omega) (by omega)]
  simp only [Option.bind_some]
  split
  · exact ⟨_, rfl⟩
  · rename_i h
    rw [szInt64S b _ hb (by omega) (by omega)]
    simp only [Option.bind_some]
    split <;> exact ⟨_, rfl⟩
theorem FnExactLifeText : laws_FnExactLifeText.Pure := by
  intro a b ga gb
  have ha : a.length ≤ 35184372088832 := by omega
  have hb : b.length ≤ 35184372088832 := by omega
  refine Ev.rounds ?_
  unfold laws_FnExactLifeText.f
  obtain ⟨n, hn⟩ := szLife a b ha hb
  refine Ev.bnd hn ?_
  by_cases c : n < 0
  · exact Ev.pos c (Ev.now _)
  · refine Ev.neg c (Ev.bind (toLife a b ha hb) (Ev.bind (textSpec a b ha hb) (Ev.bind (toLife a b ha hb) (Ev.bind (textImpl a b ha hb) (Ev.pos (by trivial) (Ev.succ ?_))))))
    simp only [laws_FnExactLifeText.j0]
    exact Ev.neg (by simp) (Ev.bind (toLife a b ha hb) (Ev.bind (eqLife a b ha hb) (Ev.pos (by trivial) (Ev.now _))))

end Go.Proofs.Ytacjknmphgpjaaa.Pure

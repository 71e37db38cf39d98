/- ValidDesk of the program and of the reference answer the same for all arguments. -/
import Derived.Test.YtbeinhdoggfgkaaPFnExactValidDeskx0
import Derived.Test.YtbeinhdoggfgkaaPFnExactValidDeskx1
import Derived.Test.YtbeinhdoggfgkaaPFnExactValidDeskx2
import Derived.Test.YtbeinhdoggfgkaaPFnExactValidDeskx3
import Derived.Test.YtbeinhdoggfgkaaPFnExactValidDeskx4
import Derived.Test.YtbeinhdoggfgkaaPFnExactValidDeskx5
import Derived.Test.YtbeinhdoggfgkaaPFnExactValidDeskx6
import Derived.Test.YtbeinhdoggfgkaaPFnExactValidDeskx7
import Derived.Test.YtbeinhdoggfgkaaPFnExactValidDeskx8
import Derived.Test.YtbeinhdoggfgkaaVFnExactValidDeskLib
namespace Go.Proofs.Ytbeinhdoggfgkaa.Pure
open Go.RowKit Go.Proofs.Ytbeinhdoggfgkaa.PFnExactValidDesk Go.Proofs.YtbeinhdoggfgkaaW.PrintWords Go.Proofs.YtbeinhdoggfgkaaW.PrintLast Go.Proofs.Ytbeinhdoggfgkaa.L
set_option linter.unusedVariables false
set_option linter.unusedSimpArgs false

theorem toInt64S (l : List Int) (hl : l.length ≤ 35184372088832) : Ev (fun k => laws_toInt64S.f k l) l := by
  unfold laws_toInt64S.f
  refine Ev.pos (by omega) (Ev.pos (by omega) ?_)
  refine Ev.cast (Ev.upto l.length (fun _ => True) (fun i => l.take i ++ List.replicate (l.length - i) 0) l (fun k s i => laws_toInt64S.l0 k l s i) (fun i hi _ ih => ?_) (fun _ => ?_) trivial) rfl
  · refine Ev.succ ?_
    simp only [laws_toInt64S.l0]
    refine Ev.pos (by omega) (Ev.pos (by omega) (Ev.pos (by simp; omega) ?_))
    rw [wrap_id (by omega) (by omega), Int.toNat_natCast, rd_lt l i hi, take_set_rep l i hi]
    exact ih trivial
  · refine Ev.succ ?_
    simp only [laws_toInt64S.l0]
    exact Ev.neg (by omega) (Ev.val (by simp))

theorem toRule (s r : Int) (t : List Int) (hl : t.length ≤ 35184372088832) : Ev (fun k => laws_toRule.f k s r t) (s, r, t) := by
  unfold laws_toRule.f
  exact Ev.bind (toInt64S t hl) (Ev.now _)

theorem toField (s r : Int) (t : List Int) (hl : t.length ≤ 35184372088832) : Ev (fun k => laws_toField.f k s r t) (s, r, t) := by
  unfold laws_toField.f
  exact Ev.bind (toInt64S t hl) (Ev.now _)

theorem eqInt64S (l m : List Int) (hl : l.length ≤ 35184372088832) : Ev (fun k => laws_eqInt64S.f k l m) (decide (l = m)) := by
  unfold laws_eqInt64S.f
  by_cases h : l.length = m.length
  · refine Ev.pos (by omega) ?_
    refine Ev.upto l.length (fun i => ∀ j, j < i → l[j]? = m[j]?) (fun _ => ()) _ (fun k _ i => laws_eqInt64S.l0 k l m i) (fun i hi hp ih => ?_) (fun hp => ?_) (fun j hj => by omega)
    · refine Ev.succ ?_
      simp only [laws_eqInt64S.l0]
      refine Ev.pos (by omega) (Ev.pos (by omega) (Ev.pos (by omega) ?_))
      rw [rd_lt l i (by omega), rd_lt m i (by omega)]
      by_cases e : l[i] = m[i]
      · refine Ev.pos e ?_
        rw [wrap_id (by omega) (by omega)]
        exact ih (fun j hj' => by
          by_cases hji : j < i
          · exact hp j hji
          · obtain rfl : j = i := by omega
            rw [List.getElem?_eq_getElem (by omega), List.getElem?_eq_getElem (by omega), e])
      · refine Ev.neg e (Ev.val ?_)
        rw [eq_comm, Option.some.injEq, decide_eq_false_iff_not]
        rintro rfl
        exact e rfl
    · refine Ev.succ ?_
      simp only [laws_eqInt64S.l0]
      refine Ev.neg (by omega) (Ev.val ?_)
      have : l = m := List.ext_getElem? (fun j => by
        by_cases hjl : j < l.length
        · exact hp j (by omega)
        · rw [List.getElem?_eq_none (by omega), List.getElem?_eq_none (by omega)])
      simp [this]
  · refine Ev.neg (by omega) (Ev.val ?_)
    rw [eq_comm, Option.some.injEq, decide_eq_false_iff_not]
    rintro rfl
    exact h rfl

theorem szInt64S (l : List Int) (a : Int) (hl : l.length ≤ 35184372088832) (h0 : -1000000000000 ≤ a) (h1 : a ≤ 1000000000000) : laws_szInt64S.f l a = some (if a - l.length < 0 then -1 else a - l.length) := by
  unfold laws_szInt64S.f
  rw [wrap_id (x := a - l.length) (by omega) (by omega)]
  split <;> rfl

theorem l00In (a b c : Int) : spec_l00In.f a b c = some (decide (b ≤ a ∧ a ≤ c)) := by
  unfold spec_l00In.f
  by_cases h : a ≥ b
  · rw [if_pos h]; simp; omega
  · rw [if_neg h]; simp; omega

theorem within (a b c : Int) : impl_within.f a b c = some (decide (b ≤ a ∧ a ≤ c)) := by
  unfold impl_within.f
  by_cases h : a ≥ b
  · rw [if_pos h]; simp; omega
  · rw [if_neg h]; simp; omega

theorem areWithin (l : List Int) (a b : Int) (hl : l.length ≤ 35184372088832) : Ev (fun k => impl_areWithin.f k l a b) (allIn l a b) := by
  unfold impl_areWithin.f
  refine Ev.upto l.length (fun i => ∀ j, (hj : j < l.length) → j < i → a ≤ l[j] ∧ l[j] ≤ b) (fun _ => ()) _ (fun k _ i => impl_areWithin.l0 k a b l l.length i) (fun i hi hp ih => ?_) (fun hp => ?_) (fun j hj h => by omega)
  · refine Ev.succ ?_
    simp only [impl_areWithin.l0]
    refine Ev.pos (by omega) (Ev.pos (by omega) (Ev.pos (by omega) ?_))
    rw [rd_lt l i (by omega), wrap_id (by omega) (by omega), within]
    by_cases c : a ≤ l[i] ∧ l[i] ≤ b
    · exact Ev.bnd rfl (Ev.pos (by simpa using c) (ih (upTo_succ (p := fun x => a ≤ x ∧ x ≤ b) hi hp c)))
    · exact Ev.bnd rfl (Ev.neg (by simpa using c) (Ev.val (by rw [allIn_false i (by omega) c])))
  · refine Ev.succ ?_
    simp only [impl_areWithin.l0]
    exact Ev.neg (by omega) (Ev.val (by rw [allIn_true (fun j hj' => hp j hj' (by omega))]))

theorem countsSpec (l : List Int) (hl : l.length ≤ 35184372088832) : Ev (fun k => spec_l04Counts.f k l) (cd (countsOk l)) := by
  unfold spec_l04Counts.f
  refine Ev.upto l.length (fun i => ∀ j, (hj : j < l.length) → j < i → (0 ≤ l[j] ∧ l[j] ≤ 8) ∧ ((h0 : 0 < j) → l[j - 1] < l[j])) (fun _ => ()) _ (fun k _ i => spec_l04Counts.l0 k l i) (fun i hi hp ih => ?_) (fun hp => ?_) (fun j hj h => by omega)
  · refine Ev.succ ?_
    simp only [spec_l04Counts.l0]
    have ih' : ((0 ≤ l[i] ∧ l[i] ≤ 8) ∧ ((h0 : 0 < i) → l[i - 1] < l[i])) → Ev (fun k => spec_l04Counts.l0 k l ((i : Int) + 1)) (cd (countsOk l)) := fun h => ih (fun j hj hji => by
      by_cases e : j < i
      · exact hp j hj e
      · obtain rfl : j = i := by omega
        exact h)
    refine Ev.pos (by omega) (Ev.pos (by omega) ?_)
    rw [rd_lt l i hi, wrap_id (x := (i : Int) + 1) (by omega) (by omega), wrap_id (x := (i : Int) - 1) (by omega) (by omega)]
    refine Ev.bnd (l00In _ _ _) ?_
    by_cases c : 0 ≤ l[i] ∧ l[i] ≤ 8
    · refine Ev.pos (by simpa using c) ?_
      by_cases e : (i : Int) > 0
      · refine Ev.pos e (Ev.pos (by omega) (Ev.pos (by omega) ?_))
        have hi1 : i - 1 < l.length := by omega
        have e1 : rd l ((i : Int) - 1) = l[i - 1] := by rw [show (i : Int) - 1 = ((i - 1 : Nat) : Int) by omega]; exact rd_lt l (i - 1) hi1
        rw [e1]
        by_cases g : l[i] ≤ l[i - 1]
        · refine Ev.pos g (Ev.val ?_)
          rw [cd_false]
          intro h
          have := h.1 (i - 1) (by omega)
          have e2 : l[i - 1 + 1] = l[i] := by congr 1; omega
          omega
        · exact Ev.neg g (ih' ⟨c, fun _ => by omega⟩)
      · exact Ev.neg e (ih' ⟨c, fun h => by omega⟩)
    · refine Ev.neg (by simpa using c) (Ev.val ?_)
      rw [cd_false]
      intro h
      exact c (h.2 _ (List.getElem_mem hi))
  · refine Ev.succ ?_
    simp only [spec_l04Counts.l0]
    refine Ev.neg (by omega) (Ev.val ?_)
    rw [cd_true]
    refine ⟨fun i h => ?_, fun x hx => ?_⟩
    · have := (hp (i + 1) h h).2 (by omega)
      simpa using this
    · obtain ⟨i, hi, rfl⟩ := List.getElem_of_mem hx
      exact (hp i hi hi).1
theorem countsImpl (l : List Int) (hl : l.length ≤ 35184372088832) : Ev (fun k => impl_areCounts.f k l) (cd (countsOk l)) := by
  unfold impl_areCounts.f
  have fin : (∀ i, (h : i + 1 < l.length) → l[i] < l[i + 1]) → Ev (fun k => (impl_areWithin.f k l 0 8).bind fun t => some t) (cd (countsOk l)) := by
    intro h
    refine Ev.bind (areWithin l 0 8 hl) (Ev.val ?_)
    by_cases c : allIn l 0 8 = true
    · rw [c, cd_true ⟨h, allIn_iff.1 c⟩]
    · rw [Bool.not_eq_true] at c
      rw [c, cd_false]
      intro h'
      rw [allIn_iff.2 h'.2] at c
      exact absurd c (by simp)
  by_cases h0 : l.length = 0
  · refine Ev.succ ?_
    simp only [impl_areCounts.l0]
    exact Ev.neg (by omega) (fin (fun i h => by omega))
  · have main : ∀ d i : Nat, 1 ≤ i → i + d = l.length → (∀ j, (h : j + 1 < l.length) → j + 1 < i → l[j] < l[j + 1]) → Ev (fun k => impl_areCounts.l0 k l i) (cd (countsOk l)) := by
      intro d
      induction d with
      | zero =>
        intro i h1 hi hp
        refine Ev.succ ?_
        simp only [impl_areCounts.l0]
        exact Ev.neg (by omega) (fin (fun j h => hp j h (by omega)))
      | succ d ih =>
        intro i h1 hi hp
        have hil : i < l.length := by omega
        have hi1 : i - 1 < l.length := by omega
        refine Ev.succ ?_
        simp only [impl_areCounts.l0]
        rw [rd_lt l i hil, wrap_id (x := (i : Int) + 1) (by omega) (by omega), wrap_id (x := (i : Int) - 1) (by omega) (by omega)]
        have e1 : rd l ((i : Int) - 1) = l[i - 1] := by rw [show (i : Int) - 1 = ((i - 1 : Nat) : Int) by omega]; exact rd_lt l (i - 1) hi1
        rw [e1]
        refine Ev.pos (by omega) (Ev.pos (by omega) (Ev.pos (by omega) (Ev.pos (by omega) ?_)))
        by_cases g : l[i] ≤ l[i - 1]
        · refine Ev.pos g (Ev.val ?_)
          rw [cd_false]
          intro h
          have := h.1 (i - 1) (by omega)
          have e2 : l[i - 1 + 1] = l[i] := by congr 1; omega
          omega
        · refine Ev.neg g ?_
          refine ih (i + 1) (by omega) (by omega) (fun j h hj => ?_)
          by_cases e : j + 1 < i
          · exact hp j h e
          · obtain rfl : i = j + 1 := by omega
            have e3 : l[j + 1 - 1] = l[j] := by congr 1
            omega
    exact main (l.length - 1) 1 (by omega) (by omega) (fun j h hj => by omega)

theorem toLife (a b : List Int) (ha : a.length ≤ 35184372088832) (hb : b.length ≤ 35184372088832) : Ev (fun k => laws_toLife.f k a b) (a, b) := by
  unfold laws_toLife.f
  exact Ev.bind (toInt64S a ha) (Ev.bind (toInt64S b hb) (Ev.now _))
theorem eqLife (a b a' b' : List Int) (ha : a.length ≤ 35184372088832) (hb : b.length ≤ 35184372088832) : Ev (fun k => laws_eqLife.f k a b a' b') (decide (a = a' ∧ b = b')) := by
  unfold laws_eqLife.f
  exact Ev.cast (Ev.and (eqInt64S a a' ha) (fun _ => Ev.eqs (eqInt64S b b' hb))) (by rw [Bool.decide_and])
theorem lifeSpec (a b : List Int) (ha : a.length ≤ 35184372088832) (hb : b.length ≤ 35184372088832) : Ev (fun k => spec_l04Life.f k a b) (cd (countsOk a) && cd (countsOk b)) := by
  unfold spec_l04Life.f
  exact Ev.and (countsSpec a ha) (fun _ => Ev.ret (countsSpec b hb))
theorem lifeImpl (a b : List Int) (ha : a.length ≤ 35184372088832) (hb : b.length ≤ 35184372088832) : Ev (fun k => impl_ValidLife.f k a b) (cd (countsOk a) && cd (countsOk b)) := by
  unfold impl_ValidLife.f
  exact Ev.and (countsImpl a ha) (fun _ => Ev.ret (countsImpl b hb))
theorem szLife (a b : List Int) (c : Int) (ha : a.length ≤ 35184372088832) (hb : b.length ≤ 35184372088832) (h0 : 0 ≤ c) (h1 : c ≤ 1000000000) : ∃ n, laws_szLife.f a b c = some n ∧ (¬ n < 0 → n = c - a.length - b.length) := by
  unfold laws_szLife.f
  rw [szInt64S a _ ha (by omega) (by omega)]
  simp only [Option.bind_some]
  by_cases c1 : c - (a.length : Int) < 0
  · rw [if_pos c1, if_pos (by omega)]; exact ⟨-1, rfl, fun h => absurd (by omega) h⟩
  · rw [if_neg c1, if_neg c1, szInt64S b _ hb (by omega) (by omega)]
    simp only [Option.bind_some]
    by_cases c2 : c - (a.length : Int) - b.length < 0
    · rw [if_pos c2, if_pos (by omega)]; exact ⟨-1, rfl, fun h => absurd (by omega) h⟩
    · rw [if_neg c2, if_neg c2]; exact ⟨_, rfl, fun _ => rfl⟩

theorem eqRule (s r : Int) (t : List Int) (s' r' : Int) (t' : List Int) (hl : t.length ≤ 35184372088832) : Ev (fun k => laws_eqRule.f k s r t s' r' t') (decide (s = s' ∧ r = r' ∧ t = t')) := by
  unfold laws_eqRule.f
  by_cases h1 : s = s'
  · refine Ev.pos h1 ?_
    by_cases h2 : r = r'
    · refine Ev.pos h2 (Ev.bind (eqInt64S t t' hl) ?_)
      by_cases h3 : t = t'
      · exact Ev.pos (by simpa using h3) (Ev.val (by simp [h1, h2, h3]))
      · exact Ev.neg (by simpa using h3) (Ev.val (by simp [h3]))
    · exact Ev.neg h2 (Ev.val (by simp [h2]))
  · exact Ev.neg h1 (Ev.val (by simp [h1]))

theorem eqField (s r : Int) (t : List Int) (s' r' : Int) (t' : List Int) (hl : t.length ≤ 35184372088832) : Ev (fun k => laws_eqField.f k s r t s' r' t') (decide (s = s' ∧ r = r' ∧ t = t')) := by
  unfold laws_eqField.f
  exact Ev.cast (Ev.andP (fun _ => Ev.andP (fun _ => Ev.eqs (eqInt64S t t' hl)))) (by simp only [Bool.decide_and])

theorem szRule (s r : Int) (t : List Int) (a : Int) (hl : t.length ≤ 35184372088832) (h0 : 0 ≤ a) (h1 : a ≤ 1000000000) : laws_szRule.f s r t a = some (if a - t.length < 0 then -1 else a - t.length) := by
  unfold laws_szRule.f
  rw [szInt64S t a hl (by omega) (by omega)]
  by_cases c : a - (t.length : Int) < 0
  · rw [if_pos c]; rfl
  · rw [if_neg c]
    show (if _ then _ else _) = _
    rw [if_neg c]

theorem szField (s r : Int) (t : List Int) (a : Int) (hl : t.length ≤ 35184372088832) (h0 : 0 ≤ a) (h1 : a ≤ 1000000000) : laws_szField.f s r t a = some (if a - t.length < 0 then -1 else a - t.length) := by
  unfold laws_szField.f
  rw [szInt64S t a hl (by omega) (by omega)]
  by_cases c : a - (t.length : Int) < 0
  · rw [if_pos c]; rfl
  · rw [if_neg c]
    show (if _ then _ else _) = _
    rw [if_neg c]

theorem toDesk (s r : Int) (t ring : List Int) (p q : Int) (l a b : List Int) (ht : t.length ≤ 35184372088832) (hr : ring.length ≤ 35184372088832) (hl : l.length ≤ 35184372088832) (ha : a.length ≤ 35184372088832) (hb : b.length ≤ 35184372088832) : Ev (fun k => laws_toDesk.f k s r t ring p q l a b) (s, r, t, ring, p, q, l, a, b) := by
  unfold laws_toDesk.f
  exact Ev.bind (toRule s r t ht) (Ev.bind (toInt64S ring hr) (Ev.bind (toField p q l hl) (Ev.bind (toLife a b ha hb) (Ev.now _))))
theorem eqDesk (s r : Int) (t ring : List Int) (p q : Int) (l a b : List Int) (s' r' : Int) (t' ring' : List Int) (p' q' : Int) (l' a' b' : List Int) (ht : t.length ≤ 35184372088832) (hr : ring.length ≤ 35184372088832) (hl : l.length ≤ 35184372088832) (ha : a.length ≤ 35184372088832) (hb : b.length ≤ 35184372088832) :
    Ev (fun k => laws_eqDesk.f k s r t ring p q l a b s' r' t' ring' p' q' l' a' b') (decide ((s = s' ∧ r = r' ∧ t = t') ∧ ring = ring' ∧ (p = p' ∧ q = q' ∧ l = l') ∧ a = a' ∧ b = b')) := by
  unfold laws_eqDesk.f
  exact Ev.cast (Ev.and (eqRule _ _ _ _ _ _ ht) (fun _ => Ev.and (eqInt64S _ _ hr) (fun _ => Ev.and (eqField _ _ _ _ _ _ hl) (fun _ => Ev.eqs (eqLife _ _ _ _ ha hb))))) (by simp only [Bool.decide_and])
theorem szDesk (s r : Int) (t ring : List Int) (p q : Int) (l a b : List Int) (ht : t.length ≤ 35184372088832) (hr : ring.length ≤ 35184372088832) (hl : l.length ≤ 35184372088832) (ha : a.length ≤ 35184372088832) (hb : b.length ≤ 35184372088832) :
    ∃ n, laws_szDesk.f s r t ring p q l a b 1048576 = some n ∧ (¬ n < 0 → (t.length : Int) + ring.length + l.length + a.length + b.length ≤ 1048576) := by
  unfold laws_szDesk.f
  rw [szRule s r t _ ht (by omega) (by omega)]
  simp only [Option.bind_some]
  by_cases c1 : (1048576 : Int) - t.length < 0
  · rw [if_pos c1, if_pos (by omega)]; exact ⟨-1, rfl, fun h => absurd (by omega) h⟩
  · rw [if_neg c1, if_neg c1, szInt64S ring _ hr (by omega) (by omega)]
    simp only [Option.bind_some]
    by_cases c2 : (1048576 : Int) - t.length - ring.length < 0
    · rw [if_pos c2, if_pos (by omega)]; exact ⟨-1, rfl, fun h => absurd (by omega) h⟩
    · rw [if_neg c2, if_neg c2, szField p q l _ hl (by omega) (by omega)]
      simp only [Option.bind_some]
      by_cases c3 : (1048576 : Int) - t.length - ring.length - l.length < 0
      · rw [if_pos c3, if_pos (by omega)]; exact ⟨-1, rfl, fun h => absurd (by omega) h⟩
      · rw [if_neg c3, if_neg c3]
        obtain ⟨n, hn, hn2⟩ := szLife a b ((1048576 : Int) - t.length - ring.length - l.length) ha hb (by omega) (by omega)
        rw [hn]
        simp only [Option.bind_some]
        by_cases c4 : n < 0
        · rw [if_pos c4]; exact ⟨-1, rfl, fun h => absurd (by omega) h⟩
        · rw [if_neg c4]
          have := hn2 c4
          exact ⟨_, rfl, fun _ => by omega⟩

theorem l02Powers (x n : Int) (h0 : 0 ≤ x) (h1 : x ≤ 10) (hn0 : 0 ≤ n) (hn : n ≤ 12) : Ev (fun k => spec_l02Powers.f k x n) (x ^ n.toNat) := by
  unfold spec_l02Powers.f
  obtain ⟨m, rfl⟩ := Int.eq_ofNat_of_zero_le hn0
  have main : ∀ d i : Nat, i + d = m → Ev (fun k => spec_l02Powers.l0 k x (d : Int) (x ^ i)) (x ^ m) := by
    intro d
    induction d with
    | zero =>
      intro i hi
      refine Ev.succ ?_
      simp only [spec_l02Powers.l0]
      exact Ev.neg (by omega) (Ev.val (by rw [show i = m by omega]))
    | succ d ih =>
      intro i hi
      refine Ev.succ ?_
      simp only [spec_l02Powers.l0]
      have hb := pow_bound x (i + 1) h0 h1 (by omega)
      rw [Int.pow_succ] at hb
      refine Ev.pos (by omega) ?_
      rw [wrap_id (x := ((d + 1 : Nat) : Int) - 1) (by omega) (by omega), wrap_id (x := x ^ i * x) (by omega) (by omega), ← Int.pow_succ, show ((d + 1 : Nat) : Int) - 1 = (d : Int) by omega]
      exact ih (i + 1) (by omega)
  have := main m 0 (by omega)
  rw [Int.pow_zero] at this
  exact this

theorem l02Is (s r : Int) (t : List Int) (hl : t.length ≤ 35184372088832) : Ev (fun k => spec_l02Is.f k s r t) (validRule s r t) := by
  unfold spec_l02Is.f validRule
  refine Ev.bnd (l00In s 2 3) ?_
  by_cases hs : 2 ≤ s ∧ s ≤ 3
  · refine Ev.pos (by simpa using hs) (Ev.bnd (l00In r 0 2) ?_)
    by_cases hr : 0 ≤ r ∧ r ≤ 2
    · refine Ev.pos (by simpa using hr) ?_
      rw [wrap_id (x := 2 * r) (by omega) (by omega), wrap_id (x := 2 * r + 1) (by omega) (by omega)]
      refine Ev.bind (l02Powers s (2 * r + 1) (by omega) (by omega) (by omega) (by omega)) (Ev.succ ?_)
      simp only [spec_l02Is.j0]
      by_cases hn : (t.length : Int) = s ^ (2 * r + 1).toNat
      · refine Ev.neg (by simp [hn]) ?_
        rw [decide_eq_true hs, decide_eq_true hr, decide_eq_true hn, Bool.true_and, Bool.true_and, Bool.true_and]
        refine Ev.upto t.length (fun i => ∀ j, (hj : j < t.length) → j < i → 0 ≤ t[j] ∧ t[j] ≤ s - 1) (fun _ => ()) _ (fun k _ i => spec_l02Is.l0 k i s r t) (fun i hi hp ih => ?_) (fun hp => ?_) (fun j hj h => by omega)
        · refine Ev.succ ?_
          simp only [spec_l02Is.l0]
          refine Ev.pos (by omega) (Ev.pos (by omega) ?_)
          rw [rd_lt t i (by omega), wrap_id (x := s - 1) (by omega) (by omega), wrap_id (x := (i : Int) + 1) (by omega) (by omega)]
          refine Ev.bnd (l00In _ _ _) ?_
          by_cases c : 0 ≤ t[i] ∧ t[i] ≤ s - 1
          · exact Ev.pos (by simpa using c) (ih (upTo_succ (p := fun x => 0 ≤ x ∧ x ≤ s - 1) hi hp c))
          · exact Ev.neg (by simpa using c) (Ev.val (by rw [allIn_false i (by omega) c]))
        · refine Ev.succ ?_
          simp only [spec_l02Is.l0]
          exact Ev.neg (by omega) (Ev.val (by rw [allIn_true (fun j hj' => hp j hj' (by omega))]))
      · exact Ev.pos (by simp [hn]) (Ev.val (by simp [hn]))
    · refine Ev.neg (by simpa using hr) (Ev.succ ?_)
      simp only [spec_l02Is.j0]
      exact Ev.pos (by trivial) (Ev.val (by simp [hr]))
  · refine Ev.neg (by simpa using hs) (Ev.succ ?_)
    simp only [spec_l02Is.j0]
    exact Ev.pos (by trivial) (Ev.val (by simp [hs]))

theorem areMany (l : List Int) (a b c d : Int) (hl : l.length ≤ 35184372088832) : Ev (fun k => impl_areMany.f k l a b c d) (decide (a ≤ l.length ∧ l.length ≤ b) && allIn l c d) := by
  unfold impl_areMany.f
  refine Ev.bnd (within _ _ _) ?_
  by_cases h : a ≤ l.length ∧ l.length ≤ b
  · refine Ev.pos (by simpa using h) (Ev.cast (Ev.bind (areWithin l c d hl) (Ev.now _)) (by simp [h]))
  · exact Ev.neg (by simpa using h) (Ev.val (by simp [h]))

theorem areStates (s : Int) : impl_areStates.f s = some (decide (s = 2 ∨ s = 3)) := by
  unfold impl_areStates.f
  by_cases h : s = 2
  · rw [if_pos h]; simp [h]
  · rw [if_neg h]
    by_cases h3 : s = 3
    · subst h3; rfl
    · simp [h, h3]

theorem raised (x n : Int) (h0 : 0 ≤ x) (h1 : x ≤ 10) (hn0 : 0 ≤ n) (hn : n ≤ 12) : Ev (fun k => impl_raised.f k x n) (x ^ n.toNat) := by
  unfold impl_raised.f
  obtain ⟨m, rfl⟩ := Int.eq_ofNat_of_zero_le hn0
  rw [Int.toNat_natCast]
  refine Ev.congr (fun k => ?_) (Ev.upto m (fun _ => True) (fun i => x ^ i) (x ^ m) (fun k s i => impl_raised.l0 k x s m i) (fun i hi _ ih => ?_) (fun _ => ?_) trivial)
  · rw [Int.pow_zero]
  · refine Ev.succ ?_
    simp only [impl_raised.l0]
    have hb := pow_bound x (i + 1) h0 h1 (by omega)
    rw [Int.pow_succ] at hb
    refine Ev.pos (by omega) ?_
    rw [wrap_id (x := (i : Int) + 1) (by omega) (by omega), wrap_id (x := x ^ i * x) (by omega) (by omega), ← Int.pow_succ]
    exact ih trivial
  · refine Ev.succ ?_
    simp only [impl_raised.l0]
    exact Ev.neg (by omega) (Ev.now _)

theorem isReach (r : Int) : impl_isReach.f r = some (decide (0 ≤ r ∧ r ≤ 2)) := by
  unfold impl_isReach.f
  rw [within]; rfl
theorem ruleCells (s r : Int) (t : List Int) (h0 : 0 ≤ r) (h1 : r ≤ 2) : impl_Rule_cells.f s r t = some (2 * r + 1) := by
  unfold impl_Rule_cells.f
  rw [wrap_id (x := 2 * r) (by omega) (by omega), wrap_id (x := 2 * r + 1) (by omega) (by omega)]
theorem ValidRule (s r : Int) (t : List Int) (hl : t.length ≤ 35184372088832) : Ev (fun k => impl_ValidRule.f k s r t) (validRule s r t) := by
  unfold impl_ValidRule.f validRule
  refine Ev.bnd (areStates s) ?_
  by_cases hs : 2 ≤ s ∧ s ≤ 3
  · refine Ev.pos (by simp; omega) (Ev.bnd (isReach r) (Ev.succ ?_))
    simp only [impl_ValidRule.j0]
    by_cases hr : 0 ≤ r ∧ r ≤ 2
    · refine Ev.neg (by simpa using hr) (Ev.bnd (ruleCells s r t hr.1 hr.2) (Ev.bind (raised s (2 * r + 1) (by omega) (by omega) (by omega) (by omega)) ?_))
      rw [wrap_id (x := s - 1) (by omega) (by omega)]
      refine Ev.cast (Ev.bind (areMany t _ _ 0 (s - 1) hl) (Ev.now _)) ?_
      rw [decide_eq_true hs, decide_eq_true hr, Bool.true_and, Bool.true_and]
      congr 1
      exact decide_eq_decide.mpr (by omega)
    · exact Ev.pos (by simp; omega) (Ev.val (by simp [hr]))
  · refine Ev.neg (by simp; omega) (Ev.succ ?_)
    simp only [impl_ValidRule.j0]
    exact Ev.pos (by trivial) (Ev.val (by simp [hs]))

theorem l02Ring (l : List Int) (s : Int) (hl : l.length ≤ 35184372088832) (h0 : -4611686018427387904 ≤ s) (h1 : s ≤ 4611686018427387904) : Ev (fun k => spec_l02Ring.f k l s) (allIn l 0 (s - 1) && decide (1 ≤ l.length ∧ l.length ≤ 64)) := by
  unfold spec_l02Ring.f
  refine Ev.upto l.length (fun i => ∀ j, (hj : j < l.length) → j < i → 0 ≤ l[j] ∧ l[j] ≤ s - 1) (fun _ => ()) _ (fun k _ i => spec_l02Ring.l0 k l s i) (fun i hi hp ih => ?_) (fun hp => ?_) (fun j hj h => by omega)
  · refine Ev.succ ?_
    simp only [spec_l02Ring.l0]
    refine Ev.pos (by omega) (Ev.pos (by omega) ?_)
    have hsw : wrap64 (s - 1) = s - 1 := wrap_id (by omega) (by omega)
    rw [rd_lt l i (by omega), hsw, wrap_id (x := (i : Int) + 1) (by omega) (by omega), l00In]
    by_cases c : 0 ≤ l[i] ∧ l[i] ≤ s - 1
    · exact Ev.bnd rfl (Ev.pos (by simpa using c) (ih (upTo_succ (p := fun x => 0 ≤ x ∧ x ≤ s - 1) hi hp c)))
    · refine Ev.bnd rfl (Ev.neg (by simpa using c) (Ev.val ?_))
      rw [allIn_false i (by omega) c]; rfl
  · refine Ev.succ ?_
    simp only [spec_l02Ring.l0]
    refine Ev.neg (by omega) ?_
    rw [allIn_true (fun j hj' => hp j hj' (by omega)), Bool.true_and]
    by_cases c : (l.length : Int) ≥ 1
    · exact Ev.pos c (Ev.val (congrArg some (decide_eq_decide.mpr (by omega))))
    · exact Ev.neg c (Ev.val (by rw [decide_eq_false (by omega)]))

theorem isRing (l : List Int) (s : Int) (hl : l.length ≤ 35184372088832) (hs : s = 2 ∨ s = 3) : Ev (fun k => impl_IsRing.f k l s) (allIn l 0 (s - 1) && decide (1 ≤ l.length ∧ l.length ≤ 64)) := by
  unfold impl_IsRing.f
  have hsw : wrap64 (s - 1) = s - 1 := wrap_id (by omega) (by omega)
  rw [hsw]
  refine Ev.bnd (areStates s) (Ev.pos (by simpa using hs) ?_)
  exact Ev.cast (Ev.bind (areMany l 1 64 0 (s - 1) hl) (Ev.now _)) (by
    rw [Bool.and_comm]
    congr 1
    exact decide_eq_decide.mpr (by omega))

theorem l04Is (r c : Int) (l : List Int) (hl : l.length ≤ 35184372088832) : Ev (fun k => spec_l04Is.f k r c l) (validField r c l) := by
  unfold spec_l04Is.f validField
  refine Ev.bnd (l00In r 1 24) ?_
  by_cases hr : 1 ≤ r ∧ r ≤ 24
  · refine Ev.pos (by simpa using hr) (Ev.bnd (l00In c 1 24) ?_)
    by_cases hc : 1 ≤ c ∧ c ≤ 24
    · have hm1 : 0 ≤ r * c := Int.mul_nonneg (by omega) (by omega)
      have hm2 : r * c ≤ 24 * c := Int.mul_le_mul_of_nonneg_right hr.2 (by omega)
      rw [wrap_id (x := r * c) (by omega) (by omega)]
      refine Ev.pos (by simpa using hc) (Ev.succ ?_)
      simp only [spec_l04Is.j0]
      by_cases hn : (l.length : Int) = r * c
      · refine Ev.neg (by simp [hn]) ?_
        rw [decide_eq_true hr, decide_eq_true hc, decide_eq_true hn, Bool.true_and, Bool.true_and, Bool.true_and]
        refine Ev.upto l.length (fun i => ∀ j, (hj : j < l.length) → j < i → 0 ≤ l[j] ∧ l[j] ≤ 9) (fun _ => ()) _ (fun k _ i => spec_l04Is.l0 k i r c l) (fun i hi hp ih => ?_) (fun hp => ?_) (fun j hj h => by omega)
        · refine Ev.succ ?_
          simp only [spec_l04Is.l0]
          refine Ev.pos (by omega) (Ev.pos (by omega) ?_)
          rw [rd_lt l i (by omega), wrap_id (x := (i : Int) + 1) (by omega) (by omega)]
          refine Ev.bnd (l00In _ _ _) ?_
          by_cases c : 0 ≤ l[i] ∧ l[i] ≤ 9
          · exact Ev.pos (by simpa using c) (ih (upTo_succ (p := fun x => 0 ≤ x ∧ x ≤ 9) hi hp c))
          · exact Ev.neg (by simpa using c) (Ev.val (by rw [allIn_false i (by omega) c]))
        · refine Ev.succ ?_
          simp only [spec_l04Is.l0]
          exact Ev.neg (by omega) (Ev.val (by rw [allIn_true (fun j hj' => hp j hj' (by omega))]))
      · exact Ev.pos (by simp [hn]) (Ev.val (by simp [hn]))
    · refine Ev.neg (by simpa using hc) (Ev.succ ?_)
      simp only [spec_l04Is.j0]
      exact Ev.pos (by trivial) (Ev.val (by simp [hc]))
  · refine Ev.neg (by simpa using hr) (Ev.succ ?_)
    simp only [spec_l04Is.j0]
    exact Ev.pos (by trivial) (Ev.val (by simp [hr]))

theorem isSide (r : Int) : impl_isSide.f r = some (decide (1 ≤ r ∧ r ≤ 24)) := by
  unfold impl_isSide.f
  rw [within]; rfl
theorem ValidField (r c : Int) (l : List Int) (hl : l.length ≤ 35184372088832) : Ev (fun k => impl_ValidField.f k r c l) (validField r c l) := by
  unfold impl_ValidField.f validField
  refine Ev.cast (Ev.andB (isSide r) (fun hr => Ev.andB (isSide c) (fun hc => ?_))) (by rw [← Bool.and_assoc, ← Bool.and_assoc])
  rw [decide_eq_true_eq] at hr hc
  have hm1 : 0 ≤ r * c := Int.mul_nonneg (by omega) (by omega)
  have hm2 : r * c ≤ 24 * c := Int.mul_le_mul_of_nonneg_right hr.2 (by omega)
  rw [wrap_id (x := r * c) (by omega) (by omega)]
  refine Ev.cast (Ev.ret (areMany l _ _ 0 9 hl)) ?_
  congr 1
  exact decide_eq_decide.mpr (by omega)

/-- A desk is valid. -/
noncomputable def deskOk (s r : Int) (t ring : List Int) (p q : Int) (l a b : List Int) : Bool := validRule s r t && ((allIn ring 0 (3 - 1) && decide (1 ≤ ring.length ∧ ring.length ≤ 64)) && (validField p q l && (cd (countsOk a) && cd (countsOk b))))
theorem FnExactValidDesk : laws_FnExactValidDesk.Pure := by
  intro s r t ring p q l a b _ _ ht hr _ _ hl ha hb
  have ht' : t.length ≤ 35184372088832 := by omega
  have hl' : l.length ≤ 35184372088832 := by omega
  have hr' : ring.length ≤ 35184372088832 := by omega
  have ha' : a.length ≤ 35184372088832 := by omega
  have hb' : b.length ≤ 35184372088832 := by omega
  refine Ev.rounds ?_
  unfold laws_FnExactValidDesk.f
  obtain ⟨n, hn1, _⟩ := szDesk s r t ring p q l a b ht' hr' hl' ha' hb'
  refine Ev.bnd hn1 ?_
  by_cases c : n < 0
  · exact Ev.pos c (Ev.now _)
  · refine Ev.neg c (Ev.bind (toDesk s r t ring p q l a b ht' hr' hl' ha' hb') ?_)
    unfold spec_ValidDesk.f
    have h1 : Ev (fun k => spec_l08Is.f k s r t ring p q l a b) (deskOk s r t ring p q l a b) := by
      unfold spec_l08Is.f deskOk
      exact Ev.and (l02Is s r t ht') (fun _ => Ev.and (l02Ring ring 3 hr' (by omega) (by omega)) (fun _ => Ev.and (l04Is p q l hl') (fun _ => Ev.ret (lifeSpec a b ha' hb'))))
    have h2 : Ev (fun k => impl_ValidDesk.f k s r t ring p q l a b) (deskOk s r t ring p q l a b) := by
      unfold impl_ValidDesk.f deskOk
      exact Ev.and (ValidRule s r t ht') (fun _ => Ev.and (isRing ring 3 hr' (by omega)) (fun _ => Ev.and (ValidField p q l hl') (fun _ => Ev.ret (lifeImpl a b ha' hb'))))
    exact Ev.bind (Ev.ret h1) (Ev.bind (toDesk s r t ring p q l a b ht' hr' hl' ha' hb') (Ev.bind h2 (Ev.neg (by simp) (Ev.bind (toDesk s r t ring p q l a b ht' hr' hl' ha' hb') (Ev.bind (eqDesk s r t ring p q l a b s r t ring p q l a b ht' hr' hl' ha' hb') (Ev.pos (by simp) (Ev.now _)))))))

end Go.Proofs.Ytbeinhdoggfgkaa.Pure

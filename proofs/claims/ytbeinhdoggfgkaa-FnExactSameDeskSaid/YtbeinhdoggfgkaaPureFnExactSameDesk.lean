/- SameDesk of the program and of the reference answer the same for all arguments. -/
import Derived.Test.YtbeinhdoggfgkaaPFnExactSameDeskx0
import Derived.Test.YtbeinhdoggfgkaaPFnExactSameDeskx1
import Derived.Test.YtbeinhdoggfgkaaPFnExactSameDeskx2
import Derived.Test.YtbeinhdoggfgkaaPFnExactSameDeskx3
import Derived.Test.YtbeinhdoggfgkaaPFnExactSameDeskx4
import Derived.Test.YtbeinhdoggfgkaaPFnExactSameDeskx5
import Derived.Test.YtbeinhdoggfgkaaPFnExactSameDeskx6
import Derived.Test.YtbeinhdoggfgkaaLib
namespace Go.Proofs.Ytbeinhdoggfgkaa.Pure
open Go.RowKit Go.Proofs.Ytbeinhdoggfgkaa.PFnExactSameDesk Go.Proofs.YtbeinhdoggfgkaaW.PrintWords Go.Proofs.YtbeinhdoggfgkaaW.PrintLast Go.Proofs.Ytbeinhdoggfgkaa.L
set_option linter.unusedVariables false
set_option linter.unusedSimpArgs false

theorem toInt64S (l : List Int) (hl : l.length ≤ 35184372088832) : Ev (fun k => laws_toInt64S.f k l) l := by
  unfold laws_toInt64S.f
  refine Ev.pos (by omega) (Ev.pos (by omega) ?_)
  refine Ev.cast (Ev.upto l.length (fun _ => True) (fun i => l.take i ++ List.replicate (l.length - i) 0) l (fun k s i => laws_toInt64S.l0 k l s i) (fun i hi _ ih => ?_) (fun _ => ?_) trivial) rfl
  · refine Ev.succ ?_
    simp only [laws_toInt64S.l0]
    refine Ev.pos (by omega) (Ev.pos (by omega) (Ev.pos (by simp; omega) ?_))
    rw [wrap_id (by omega) (by omega), Int.toNat_natCast, rd_lt l i hi, take_set_rep l i hi]
    exact ih trivial
  · refine Ev.succ ?_
    simp only [laws_toInt64S.l0]
    exact Ev.neg (by omega) (Ev.val (by simp))

theorem toRule (s r : Int) (t : List Int) (hl : t.length ≤ 35184372088832) : Ev (fun k => laws_toRule.f k s r t) (s, r, t) := by
  unfold laws_toRule.f
  exact Ev.bind (toInt64S t hl) (Ev.now _)

theorem toField (s r : Int) (t : List Int) (hl : t.length ≤ 35184372088832) : Ev (fun k => laws_toField.f k s r t) (s, r, t) := by
  unfold laws_toField.f
  exact Ev.bind (toInt64S t hl) (Ev.now _)

theorem eqInt64S (l m : List Int) (hl : l.length ≤ 35184372088832) : Ev (fun k => laws_eqInt64S.f k l m) (decide (l = m)) := by
  unfold laws_eqInt64S.f
  by_cases h : l.length = m.length
  · refine Ev.pos (by omega) ?_
    refine Ev.upto l.length (fun i => ∀ j, j < i → l[j]? = m[j]?) (fun _ => ()) _ (fun k _ i => laws_eqInt64S.l0 k l m i) (fun i hi hp ih => ?_) (fun hp => ?_) (fun j hj => by omega)
    · refine Ev.succ ?_
      simp only [laws_eqInt64S.l0]
      refine Ev.pos (by omega) (Ev.pos (by omega) (Ev.pos (by omega) ?_))
      rw [rd_lt l i (by omega), rd_lt m i (by omega)]
      by_cases e : l[i] = m[i]
      · refine Ev.pos e ?_
        rw [wrap_id (by omega) (by omega)]
        exact ih (fun j hj' => by
          by_cases hji : j < i
          · exact hp j hji
          · obtain rfl : j = i := by omega
            rw [List.getElem?_eq_getElem (by omega), List.getElem?_eq_getElem (by omega), e])
      · refine Ev.neg e (Ev.val ?_)
        rw [eq_comm, Option.some.injEq, decide_eq_false_iff_not]
        rintro rfl
        exact e rfl
    · refine Ev.succ ?_
      simp only [laws_eqInt64S.l0]
      refine Ev.neg (by omega) (Ev.val ?_)
      have : l = m := List.ext_getElem? (fun j => by
        by_cases hjl : j < l.length
        · exact hp j (by omega)
        · rw [List.getElem?_eq_none (by omega), List.getElem?_eq_none (by omega)])
      simp [this]
  · refine Ev.neg (by omega) (Ev.val ?_)
    rw [eq_comm, Option.some.injEq, decide_eq_false_iff_not]
    rintro rfl
    exact h rfl

theorem szInt64S (l : List Int) (a : Int) (hl : l.length ≤ 35184372088832) (h0 : -1000000000000 ≤ a) (h1 : a ≤ 1000000000000) : laws_szInt64S.f l a = some (if a - l.length < 0 then -1 else a - l.length) := by
  unfold laws_szInt64S.f
  rw [wrap_id (x := a - l.length) (by omega) (by omega)]
  split <;> rfl

theorem toLife (a b : List Int) (ha : a.length ≤ 35184372088832) (hb : b.length ≤ 35184372088832) : Ev (fun k => laws_toLife.f k a b) (a, b) := by
  unfold laws_toLife.f
  exact Ev.bind (toInt64S a ha) (Ev.bind (toInt64S b hb) (Ev.now _))
theorem eqLife (a b a' b' : List Int) (ha : a.length ≤ 35184372088832) (hb : b.length ≤ 35184372088832) : Ev (fun k => laws_eqLife.f k a b a' b') (decide (a = a' ∧ b = b')) := by
  unfold laws_eqLife.f
  exact Ev.cast (Ev.and (eqInt64S a a' ha) (fun _ => Ev.eqs (eqInt64S b b' hb))) (by rw [Bool.decide_and])
theorem szLife (a b : List Int) (c : Int) (ha : a.length ≤ 35184372088832) (hb : b.length ≤ 35184372088832) (h0 : 0 ≤ c) (h1 : c ≤ 1000000000) : ∃ n, laws_szLife.f a b c = some n ∧ (¬ n < 0 → n = c - a.length - b.length) := by
  unfold laws_szLife.f
  rw [szInt64S a _ ha (by omega) (by omega)]
  simp only [Option.bind_some]
  by_cases c1 : c - (a.length : Int) < 0
  · rw [if_pos c1, if_pos (by omega)]; exact ⟨-1, rfl, fun h => absurd (by omega) h⟩
  · rw [if_neg c1, if_neg c1, szInt64S b _ hb (by omega) (by omega)]
    simp only [Option.bind_some]
    by_cases c2 : c - (a.length : Int) - b.length < 0
    · rw [if_pos c2, if_pos (by omega)]; exact ⟨-1, rfl, fun h => absurd (by omega) h⟩
    · rw [if_neg c2, if_neg c2]; exact ⟨_, rfl, fun _ => rfl⟩

theorem eqRule (s r : Int) (t : List Int) (s' r' : Int) (t' : List Int) (hl : t.length ≤ 35184372088832) : Ev (fun k => laws_eqRule.f k s r t s' r' t') (decide (s = s' ∧ r = r' ∧ t = t')) := by
  unfold laws_eqRule.f
  by_cases h1 : s = s'
  · refine Ev.pos h1 ?_
    by_cases h2 : r = r'
    · refine Ev.pos h2 (Ev.bind (eqInt64S t t' hl) ?_)
      by_cases h3 : t = t'
      · exact Ev.pos (by simpa using h3) (Ev.val (by simp [h1, h2, h3]))
      · exact Ev.neg (by simpa using h3) (Ev.val (by simp [h3]))
    · exact Ev.neg h2 (Ev.val (by simp [h2]))
  · exact Ev.neg h1 (Ev.val (by simp [h1]))

theorem eqField (s r : Int) (t : List Int) (s' r' : Int) (t' : List Int) (hl : t.length ≤ 35184372088832) : Ev (fun k => laws_eqField.f k s r t s' r' t') (decide (s = s' ∧ r = r' ∧ t = t')) := by
  unfold laws_eqField.f
  exact Ev.cast (Ev.andP (fun _ => Ev.andP (fun _ => Ev.eqs (eqInt64S t t' hl)))) (by simp only [Bool.decide_and])

theorem szRule (s r : Int) (t : List Int) (a : Int) (hl : t.length ≤ 35184372088832) (h0 : 0 ≤ a) (h1 : a ≤ 1000000000) : laws_szRule.f s r t a = some (if a - t.length < 0 then -1 else a - t.length) := by
  unfold laws_szRule.f
  rw [szInt64S t a hl (by omega) (by omega)]
  by_cases c : a - (t.length : Int) < 0
  · rw [if_pos c]; rfl
  · rw [if_neg c]
    show (if _ then _ else _) = _
    rw [if_neg c]

theorem szField (s r : Int) (t : List Int) (a : Int) (hl : t.length ≤ 35184372088832) (h0 : 0 ≤ a) (h1 : a ≤ 1000000000) : laws_szField.f s r t a = some (if a - t.length < 0 then -1 else a - t.length) := by
  unfold laws_szField.f
  rw [szInt64S t a hl (by omega) (by omega)]
  by_cases c : a - (t.length : Int) < 0
  · rw [if_pos c]; rfl
  · rw [if_neg c]
    show (if _ then _ else _) = _
    rw [if_neg c]

theorem toDesk (s r : Int) (t ring : List Int) (p q : Int) (l a b : List Int) (ht : t.length ≤ 35184372088832) (hr : ring.length ≤ 35184372088832) (hl : l.length ≤ 35184372088832) (ha : a.length ≤ 35184372088832) (hb : b.length ≤ 35184372088832) : Ev (fun k => laws_toDesk.f k s r t ring p q l a b) (s, r, t, ring, p, q, l, a, b) := by
  unfold laws_toDesk.f
  exact Ev.bind (toRule s r t ht) (Ev.bind (toInt64S ring hr) (Ev.bind (toField p q l hl) (Ev.bind (toLife a b ha hb) (Ev.now _))))
theorem eqDesk (s r : Int) (t ring : List Int) (p q : Int) (l a b : List Int) (s' r' : Int) (t' ring' : List Int) (p' q' : Int) (l' a' b' : List Int) (ht : t.length ≤ 35184372088832) (hr : ring.length ≤ 35184372088832) (hl : l.length ≤ 35184372088832) (ha : a.length ≤ 35184372088832) (hb : b.length ≤ 35184372088832) :
    Ev (fun k => laws_eqDesk.f k s r t ring p q l a b s' r' t' ring' p' q' l' a' b') (decide ((s = s' ∧ r = r' ∧ t = t') ∧ ring = ring' ∧ (p = p' ∧ q = q' ∧ l = l') ∧ a = a' ∧ b = b')) := by
  unfold laws_eqDesk.f
  exact Ev.cast (Ev.and (eqRule _ _ _ _ _ _ ht) (fun _ => Ev.and (eqInt64S _ _ hr) (fun _ => Ev.and (eqField _ _ _ _ _ _ hl) (fun _ => Ev.eqs (eqLife _ _ _ _ ha hb))))) (by simp only [Bool.decide_and])
theorem szDesk (s r : Int) (t ring : List Int) (p q : Int) (l a b : List Int) (c : Int) (hc0 : 0 ≤ c) (hc1 : c ≤ 1000000000) (ht : t.length ≤ 35184372088832) (hr : ring.length ≤ 35184372088832) (hl : l.length ≤ 35184372088832) (ha : a.length ≤ 35184372088832) (hb : b.length ≤ 35184372088832) :
    ∃ n, laws_szDesk.f s r t ring p q l a b c = some n ∧ (¬ n < 0 → n ≤ c ∧ (t.length : Int) + ring.length + l.length + a.length + b.length ≤ c) := by
  unfold laws_szDesk.f
  rw [szRule s r t _ ht (by omega) (by omega)]
  simp only [Option.bind_some]
  by_cases c1 : c - (t.length : Int) < 0
  · rw [if_pos c1, if_pos (by omega)]; exact ⟨-1, rfl, fun h => absurd (by omega) h⟩
  · rw [if_neg c1, if_neg c1, szInt64S ring _ hr (by omega) (by omega)]
    simp only [Option.bind_some]
    by_cases c2 : c - (t.length : Int) - ring.length < 0
    · rw [if_pos c2, if_pos (by omega)]; exact ⟨-1, rfl, fun h => absurd (by omega) h⟩
    · rw [if_neg c2, if_neg c2, szField p q l _ hl (by omega) (by omega)]
      simp only [Option.bind_some]
      by_cases c3 : c - (t.length : Int) - ring.length - l.length < 0
      · rw [if_pos c3, if_pos (by omega)]; exact ⟨-1, rfl, fun h => absurd (by omega) h⟩
      · rw [if_neg c3, if_neg c3]
        obtain ⟨n, hn, hn2⟩ := szLife a b (c - (t.length : Int) - ring.length - l.length) ha hb (by omega) (by omega)
        rw [hn]
        simp only [Option.bind_some]
        by_cases c4 : n < 0
        · rw [if_pos c4]; exact ⟨-1, rfl, fun h => absurd (by omega) h⟩
        · rw [if_neg c4]
          have := hn2 c4
          exact ⟨_, rfl, fun _ => by omega⟩

theorem l02Equal (l m : List Int) (hl : l.length ≤ 35184372088832) : Ev (fun k => spec_l02Equal.f k l m) (decide (l = m)) := by
  unfold spec_l02Equal.f
  by_cases h : l.length = m.length
  · refine Ev.pos (by omega) ?_
    refine Ev.upto l.length (fun i => ∀ j, j < i → l[j]? = m[j]?) (fun _ => ()) _ (fun k _ i => spec_l02Equal.l0 k l m i) (fun i hi hp ih => ?_) (fun hp => ?_) (fun j hj => by omega)
    · refine Ev.succ ?_
      simp only [spec_l02Equal.l0]
      refine Ev.pos (by omega) (Ev.pos (by omega) (Ev.pos (by omega) ?_))
      rw [rd_lt l i (by omega), rd_lt m i (by omega)]
      by_cases e : l[i] = m[i]
      · refine Ev.pos e ?_
        rw [wrap_id (by omega) (by omega)]
        exact ih (fun j hj' => by
          by_cases hji : j < i
          · exact hp j hji
          · obtain rfl : j = i := by omega
            rw [List.getElem?_eq_getElem (by omega), List.getElem?_eq_getElem (by omega), e])
      · refine Ev.neg e (Ev.val ?_)
        rw [eq_comm, Option.some.injEq, decide_eq_false_iff_not]
        rintro rfl
        exact e rfl
    · refine Ev.succ ?_
      simp only [spec_l02Equal.l0]
      refine Ev.neg (by omega) (Ev.val ?_)
      have : l = m := List.ext_getElem? (fun j => by
        by_cases hjl : j < l.length
        · exact hp j (by omega)
        · rw [List.getElem?_eq_none (by omega), List.getElem?_eq_none (by omega)])
      simp [this]
  · refine Ev.neg (by omega) (Ev.val ?_)
    rw [eq_comm, Option.some.injEq, decide_eq_false_iff_not]
    rintro rfl
    exact h rfl
theorem slicesEqual (l m : List Int) (hl : l.length ≤ 35184372088832) : Ev (fun k => slices_Equal_int64_int64.f k l m) (decide (l = m)) := by
  unfold slices_Equal_int64_int64.f
  by_cases h : l.length = m.length
  · refine Ev.pos (by omega) ?_
    refine Ev.upto l.length (fun i => ∀ j, j < i → l[j]? = m[j]?) (fun _ => ()) _ (fun k _ i => slices_Equal_int64_int64.l0 k l m l.length i) (fun i hi hp ih => ?_) (fun hp => ?_) (fun j hj => by omega)
    · refine Ev.succ ?_
      simp only [slices_Equal_int64_int64.l0]
      refine Ev.pos (by omega) (Ev.pos (by omega) (Ev.pos (by omega) (Ev.pos (by omega) ?_)))
      rw [rd_lt l i (by omega), rd_lt m i (by omega)]
      by_cases e : l[i] = m[i]
      · refine Ev.pos e ?_
        rw [wrap_id (by omega) (by omega)]
        exact ih (fun j hj' => by
          by_cases hji : j < i
          · exact hp j hji
          · obtain rfl : j = i := by omega
            rw [List.getElem?_eq_getElem (by omega), List.getElem?_eq_getElem (by omega), e])
      · refine Ev.neg e (Ev.val ?_)
        rw [eq_comm, Option.some.injEq, decide_eq_false_iff_not]
        rintro rfl
        exact e rfl
    · refine Ev.succ ?_
      simp only [slices_Equal_int64_int64.l0]
      refine Ev.neg (by omega) (Ev.val ?_)
      have : l = m := List.ext_getElem? (fun j => by
        by_cases hjl : j < l.length
        · exact hp j (by omega)
        · rw [List.getElem?_eq_none (by omega), List.getElem?_eq_none (by omega)])
      simp [this]
  · refine Ev.neg (by omega) (Ev.val ?_)
    rw [eq_comm, Option.some.injEq, decide_eq_false_iff_not]
    rintro rfl
    exact h rfl

theorem l04Same (s r : Int) (t : List Int) (s' r' : Int) (t' : List Int) (hl : t.length ≤ 35184372088832) : Ev (fun k => spec_l04Same.f k s r t s' r' t') (decide (s = s' ∧ r = r' ∧ t = t')) := by
  unfold spec_l04Same.f
  exact Ev.cast (Ev.andP (fun _ => Ev.andP (fun _ => Ev.ret (l02Equal t t' hl)))) (by simp only [Bool.decide_and])
theorem sameField (s r : Int) (t : List Int) (s' r' : Int) (t' : List Int) (hl : t.length ≤ 35184372088832) : Ev (fun k => impl_SameField.f k s r t s' r' t') (decide (s = s' ∧ r = r' ∧ t = t')) := by
  unfold impl_SameField.f
  exact Ev.cast (Ev.andP (fun _ => Ev.andP (fun _ => Ev.ret (slicesEqual t t' hl)))) (by simp only [Bool.decide_and])

theorem FnExactSameDesk : laws_FnExactSameDesk.Pure := by
  intro s r t ring p q l a b s' r' t' ring' p' q' l' a' b' _ _ ht hr _ _ hl ha hb _ _ ht' hr' _ _ hl' ha' hb'
  have h1 : t.length ≤ 35184372088832 := by omega
  have h2 : ring.length ≤ 35184372088832 := by omega
  have h3 : l.length ≤ 35184372088832 := by omega
  have h4 : a.length ≤ 35184372088832 := by omega
  have h5 : b.length ≤ 35184372088832 := by omega
  have g1 : t'.length ≤ 35184372088832 := by omega
  have g2 : ring'.length ≤ 35184372088832 := by omega
  have g3 : l'.length ≤ 35184372088832 := by omega
  have g4 : a'.length ≤ 35184372088832 := by omega
  have g5 : b'.length ≤ 35184372088832 := by omega
  refine Ev.rounds ?_
  unfold laws_FnExactSameDesk.f
  obtain ⟨n, hn1, hn2⟩ := szDesk s r t ring p q l a b 1048576 (by omega) (by omega) h1 h2 h3 h4 h5
  refine Ev.bnd hn1 ?_
  by_cases c : n < 0
  · exact Ev.pos c (Ev.now _)
  · have hn3 := hn2 c
    obtain ⟨m, hm1, hm2⟩ := szDesk s' r' t' ring' p' q' l' a' b' n (by omega) (by omega) g1 g2 g3 g4 g5
    refine Ev.neg c (Ev.bnd hm1 ?_)
    by_cases c' : m < 0
    · exact Ev.pos c' (Ev.now _)
    · refine Ev.neg c' (Ev.bind (toDesk s r t ring p q l a b h1 h2 h3 h4 h5) (Ev.bind (toDesk s' r' t' ring' p' q' l' a' b' g1 g2 g3 g4 g5) ?_))
      have e1 : Ev (fun k => spec_SameDesk.f k s r t ring p q l a b s' r' t' ring' p' q' l' a' b') (decide ((s = s' ∧ r = r' ∧ t = t') ∧ ring = ring' ∧ (p = p' ∧ q = q' ∧ l = l') ∧ a = a' ∧ b = b')) := by
        unfold spec_SameDesk.f
        refine Ev.cast (Ev.and (a := decide (s = s' ∧ r = r' ∧ t = t')) ?_ (fun _ => Ev.and (l02Equal _ _ h2) (fun _ => Ev.and (l04Same _ _ _ _ _ _ h3) (fun _ => Ev.ret (a := decide (a = a' ∧ b = b')) ?_)))) (by simp only [Bool.decide_and])
        · unfold spec_l02Same.f
          exact Ev.cast (Ev.andP (fun _ => Ev.andP (fun _ => Ev.ret (l02Equal t t' h1)))) (by simp only [Bool.decide_and])
        · unfold spec_l04SameLife.f
          exact Ev.cast (Ev.and (l02Equal a a' h4) (fun _ => Ev.ret (l02Equal b b' h5))) (by rw [Bool.decide_and])
      have e2 : Ev (fun k => impl_SameDesk.f k s r t ring p q l a b s' r' t' ring' p' q' l' a' b') (decide ((s = s' ∧ r = r' ∧ t = t') ∧ ring = ring' ∧ (p = p' ∧ q = q' ∧ l = l') ∧ a = a' ∧ b = b')) := by
        unfold impl_SameDesk.f
        refine Ev.cast (Ev.and (a := decide (s = s' ∧ r = r' ∧ t = t')) ?_ (fun _ => Ev.and (slicesEqual _ _ h2) (fun _ => Ev.and (sameField _ _ _ _ _ _ h3) (fun _ => Ev.ret (a := decide (a = a' ∧ b = b')) ?_)))) (by simp only [Bool.decide_and])
        · unfold impl_SameRule.f
          exact Ev.cast (Ev.andP (fun _ => Ev.andP (fun _ => Ev.ret (slicesEqual t t' h1)))) (by simp only [Bool.decide_and])
        · unfold impl_SameLife.f
          exact Ev.cast (Ev.and (slicesEqual a a' h4) (fun _ => Ev.ret (slicesEqual b b' h5))) (by rw [Bool.decide_and])
      refine Ev.bind e1 (Ev.bind (toDesk s r t ring p q l a b h1 h2 h3 h4 h5) (Ev.bind (toDesk s' r' t' ring' p' q' l' a' b' g1 g2 g3 g4 g5) (Ev.bind e2 (Ev.neg (by simp) ?_))))
      exact Ev.bind (toDesk s r t ring p q l a b h1 h2 h3 h4 h5) (Ev.bind (eqDesk s r t ring p q l a b s r t ring p q l a b h1 h2 h3 h4 h5) (Ev.pos (by simp) (Ev.bind (toDesk s' r' t' ring' p' q' l' a' b' g1 g2 g3 g4 g5) (Ev.bind (eqDesk s' r' t' ring' p' q' l' a' b' s' r' t' ring' p' q' l' a' b' g1 g2 g3 g4 g5) (Ev.pos (by simp) (Ev.now _))))))

end Go.Proofs.Ytbeinhdoggfgkaa.Pure

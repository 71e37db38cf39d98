/- SameSaved of the program and of the reference answer the same for all arguments. -/
import Derived.Test.YtbeinhdoggfgkaaPFnExactSameSavedx0
import Derived.Test.YtbeinhdoggfgkaaPFnExactSameSavedx1
import Derived.Test.YtbeinhdoggfgkaaPFnExactSameSavedx2
import Derived.Test.YtbeinhdoggfgkaaLib
namespace Go.Proofs.Ytbeinhdoggfgkaa.Pure
open Go.RowKit Go.Proofs.Ytbeinhdoggfgkaa.PFnExactSameSaved Go.Proofs.YtbeinhdoggfgkaaW.PrintWords Go.Proofs.YtbeinhdoggfgkaaW.PrintLast Go.Proofs.Ytbeinhdoggfgkaa.L
set_option linter.unusedVariables false
set_option linter.unusedSimpArgs false

/-- A loop that asks one thing of each. -/
theorem Ev.all (n : Nat) (p : Nat → Bool) (g : Nat → Int → Option Bool)
    (step : ∀ i : Nat, i < n → ∀ r : Bool, Ev (fun k => g k ((i : Int) + 1)) r → Ev (fun k => g k (i : Int)) (p i && r))
    (last : Ev (fun k => g k (n : Int)) true) : Ev (fun k => g k 0) ((List.range n).all p) := by
  have main : ∀ d i : Nat, i + d = n → Ev (fun k => g k (i : Int)) ((List.range' i d).all p) := by
    intro d
    induction d with
    | zero =>
      intro i hi
      obtain rfl : i = n := by omega
      exact last
    | succ d ih =>
      intro i hi
      have h := step i (by omega) _ (ih (i + 1) (by omega))
      rw [List.range'_succ, List.all_cons]
      exact h
  have := main n 0 (by omega)
  rw [List.range_eq_range']
  exact this

theorem toInt64S (l : List Int) (hl : l.length ≤ 35184372088832) : Ev (fun k => laws_toInt64S.f k l) l := by
  unfold laws_toInt64S.f
  refine Ev.pos (by omega) (Ev.pos (by omega) ?_)
  refine Ev.cast (Ev.upto l.length (fun _ => True) (fun i => l.take i ++ List.replicate (l.length - i) 0) l (fun k s i => laws_toInt64S.l0 k l s i) (fun i hi _ ih => ?_) (fun _ => ?_) trivial) rfl
  · refine Ev.succ ?_
    simp only [laws_toInt64S.l0]
    refine Ev.pos (by omega) (Ev.pos (by omega) (Ev.pos (by simp; omega) ?_))
    rw [wrap_id (by omega) (by omega), Int.toNat_natCast, rd_lt l i hi, take_set_rep l i hi]
    exact ih trivial
  · refine Ev.succ ?_
    simp only [laws_toInt64S.l0]
    exact Ev.neg (by omega) (Ev.val (by simp))

theorem toRule (s r : Int) (t : List Int) (hl : t.length ≤ 35184372088832) : Ev (fun k => laws_toRule.f k s r t) (s, r, t) := by
  unfold laws_toRule.f
  exact Ev.bind (toInt64S t hl) (Ev.now _)

theorem toField (s r : Int) (t : List Int) (hl : t.length ≤ 35184372088832) : Ev (fun k => laws_toField.f k s r t) (s, r, t) := by
  unfold laws_toField.f
  exact Ev.bind (toInt64S t hl) (Ev.now _)

theorem toSaved (nm : ByteArray) (s r : Int) (t : List Int) (p q : Int) (l : List Int) (ht : t.length ≤ 35184372088832) (hl : l.length ≤ 35184372088832) : Ev (fun k => laws_toSaved.f k nm s r t p q l) (nm, s, r, t, p, q, l) := by
  unfold laws_toSaved.f
  exact Ev.bind (toRule s r t ht) (Ev.bind (toField p q l hl) (Ev.now _))

theorem eqInt64S (l m : List Int) (hl : l.length ≤ 35184372088832) : Ev (fun k => laws_eqInt64S.f k l m) (decide (l = m)) := by
  unfold laws_eqInt64S.f
  by_cases h : l.length = m.length
  · refine Ev.pos (by omega) ?_
    refine Ev.upto l.length (fun i => ∀ j, j < i → l[j]? = m[j]?) (fun _ => ()) _ (fun k _ i => laws_eqInt64S.l0 k l m i) (fun i hi hp ih => ?_) (fun hp => ?_) (fun j hj => by omega)
    · refine Ev.succ ?_
      simp only [laws_eqInt64S.l0]
      refine Ev.pos (by omega) (Ev.pos (by omega) (Ev.pos (by omega) ?_))
      rw [rd_lt l i (by omega), rd_lt m i (by omega)]
      by_cases e : l[i] = m[i]
      · refine Ev.pos e ?_
        rw [wrap_id (by omega) (by omega)]
        exact ih (fun j hj' => by
          by_cases hji : j < i
          · exact hp j hji
          · obtain rfl : j = i := by omega
            rw [List.getElem?_eq_getElem (by omega), List.getElem?_eq_getElem (by omega), e])
      · refine Ev.neg e (Ev.val ?_)
        rw [eq_comm, Option.some.injEq, decide_eq_false_iff_not]
        rintro rfl
        exact e rfl
    · refine Ev.succ ?_
      simp only [laws_eqInt64S.l0]
      refine Ev.neg (by omega) (Ev.val ?_)
      have : l = m := List.ext_getElem? (fun j => by
        by_cases hjl : j < l.length
        · exact hp j (by omega)
        · rw [List.getElem?_eq_none (by omega), List.getElem?_eq_none (by omega)])
      simp [this]
  · refine Ev.neg (by omega) (Ev.val ?_)
    rw [eq_comm, Option.some.injEq, decide_eq_false_iff_not]
    rintro rfl
    exact h rfl

theorem eqRule (s r : Int) (t : List Int) (s' r' : Int) (t' : List Int) (hl : t.length ≤ 35184372088832) : Ev (fun k => laws_eqRule.f k s r t s' r' t') (decide (s = s' ∧ r = r' ∧ t = t')) := by
  unfold laws_eqRule.f
  by_cases h1 : s = s'
  · refine Ev.pos h1 ?_
    by_cases h2 : r = r'
    · refine Ev.pos h2 (Ev.bind (eqInt64S t t' hl) ?_)
      by_cases h3 : t = t'
      · exact Ev.pos (by simpa using h3) (Ev.val (by simp [h1, h2, h3]))
      · exact Ev.neg (by simpa using h3) (Ev.val (by simp [h3]))
    · exact Ev.neg h2 (Ev.val (by simp [h2]))
  · exact Ev.neg h1 (Ev.val (by simp [h1]))

theorem eqField (s r : Int) (t : List Int) (s' r' : Int) (t' : List Int) (hl : t.length ≤ 35184372088832) : Ev (fun k => laws_eqField.f k s r t s' r' t') (decide (s = s' ∧ r = r' ∧ t = t')) := by
  unfold laws_eqField.f
  exact Ev.cast (Ev.andP (fun _ => Ev.andP (fun _ => Ev.eqs (eqInt64S t t' hl)))) (by simp only [Bool.decide_and])

theorem eqSaved (nm : ByteArray) (s r : Int) (t : List Int) (p q : Int) (l : List Int) (ht : t.length ≤ 35184372088832) (hl : l.length ≤ 35184372088832) : Ev (fun k => laws_eqSaved.f k nm s r t p q l nm s r t p q l) true := by
  unfold laws_eqSaved.f
  exact Ev.pos rfl (Ev.bind (eqRule _ _ _ _ _ _ ht) (Ev.pos (by simp) (Ev.bind (eqField _ _ _ _ _ _ hl) (Ev.pos (by simp) (Ev.now _)))))

theorem szInt64S (l : List Int) (a : Int) (hl : l.length ≤ 35184372088832) (h0 : -1000000000000 ≤ a) (h1 : a ≤ 1000000000000) : laws_szInt64S.f l a = some (if a - l.length < 0 then -1 else a - l.length) := by
  unfold laws_szInt64S.f
  rw [wrap_id (x := a - l.length) (by omega) (by omega)]
  split <;> rfl

theorem szRule (s r : Int) (t : List Int) (a : Int) (hl : t.length ≤ 35184372088832) (h0 : 0 ≤ a) (h1 : a ≤ 1000000000) : laws_szRule.f s r t a = some (if a - t.length < 0 then -1 else a - t.length) := by
  unfold laws_szRule.f
  rw [szInt64S t a hl (by omega) (by omega)]
  by_cases c : a - (t.length : Int) < 0
  · rw [if_pos c]; rfl
  · rw [if_neg c]
    show (if _ then _ else _) = _
    rw [if_neg c]

theorem szField (s r : Int) (t : List Int) (a : Int) (hl : t.length ≤ 35184372088832) (h0 : 0 ≤ a) (h1 : a ≤ 1000000000) : laws_szField.f s r t a = some (if a - t.length < 0 then -1 else a - t.length) := by
  unfold laws_szField.f
  rw [szInt64S t a hl (by omega) (by omega)]
  by_cases c : a - (t.length : Int) < 0
  · rw [if_pos c]; rfl
  · rw [if_neg c]
    show (if _ then _ else _) = _
    rw [if_neg c]

/-- What came in, as the program's own. -/
def convS (x : S57) : S61 := ⟨x.f0, ⟨x.f1.f0, x.f1.f1, x.f1.f2⟩, ⟨x.f2.f0, x.f2.f1, x.f2.f2⟩⟩
theorem rdL (l : List S57) (i : Nat) (h : i < l.length) : rd_T57 l (i : Int) = l[i] := by
  unfold rd_T57; rw [Int.toNat_natCast, List.getD_eq_getElem?_getD, List.getElem?_eq_getElem h]; rfl
theorem rdI (l : List S61) (i : Nat) (h : i < l.length) : rd_T61 l (i : Int) = l[i] := by
  unfold rd_T61; rw [Int.toNat_natCast, List.getD_eq_getElem?_getD, List.getElem?_eq_getElem h]; rfl
/-- The rows of all are not too long. -/
def SmallL (l : List S57) : Prop := ∀ x ∈ l, x.f0.size ≤ 140737488351232 ∧ x.f1.f2.length ≤ 17592186044416 ∧ x.f2.f2.length ≤ 17592186044416
def SmallI (l : List S61) : Prop := ∀ x ∈ l, x.f0.size ≤ 140737488351232 ∧ x.f1.f2.length ≤ 17592186044416 ∧ x.f2.f2.length ≤ 17592186044416
theorem SmallL.conv {l : List S57} (h : SmallL l) : SmallI (l.map convS) := by
  intro x hx
  obtain ⟨y, hy, rfl⟩ := List.mem_map.1 hx
  exact h y hy
theorem toSavedS (l : List S57) (hl : l.length ≤ 2932031007402) (hs : SmallL l) : Ev (fun k => laws_toSavedS.f k l) (l.map convS) := by
  unfold laws_toSavedS.f
  rw [Int.toNat_natCast]
  refine Ev.pos (by omega) (Ev.pos (by omega) ?_)
  refine Ev.congr (fun k => ?_) (Ev.upto l.length (fun _ => True) (fun i => (l.map convS).take i ++ (List.replicate l.length z61).drop i) (l.map convS) (fun k s i => laws_toSavedS.l0 k l s i) (fun i hi _ ih => ?_) (fun _ => ?_) trivial)
  · simp
  · refine Ev.succ ?_
    simp only [laws_toSavedS.l0]
    have hx := hs l[i] (List.getElem_mem hi)
    have h1 := take_drop_set (l.map convS) (List.replicate l.length z61) i (by simpa using hi) (by simp)
    have ih' := ih trivial
    rw [← h1] at ih'
    rw [rdL l i hi, wrap_id (x := (i : Int) + 1) (by omega) (by omega), Int.toNat_natCast]
    refine Ev.pos (by omega) (Ev.pos (by omega) (Ev.bind (toSaved _ _ _ _ _ _ _ (by omega) (by omega)) (Ev.pos (by simp; omega) ?_)))
    rw [List.getElem_map] at ih'
    exact ih'
  · refine Ev.succ ?_
    simp only [laws_toSavedS.l0]
    rw [List.drop_of_length_le (by simp), List.append_nil, List.take_of_length_le (by simp)]
    exact Ev.neg (by omega) (Ev.now _)
theorem eqSavedS (l : List S61) (hl : l.length ≤ 2932031007402) (hs : SmallI l) : Ev (fun k => laws_eqSavedS.f k l l) true := by
  unfold laws_eqSavedS.f
  refine Ev.pos rfl ?_
  refine Ev.upto l.length (fun _ => True) (fun _ => ()) true (fun k _ i => laws_eqSavedS.l0 k l l i) (fun i hi _ ih => ?_) (fun _ => ?_) trivial
  · refine Ev.succ ?_
    simp only [laws_eqSavedS.l0]
    have hx := hs l[i] (List.getElem_mem hi)
    have ih' := ih trivial
    rw [rdI l i hi, wrap_id (x := (i : Int) + 1) (by omega) (by omega)]
    exact Ev.pos (by omega) (Ev.pos (by omega) (Ev.pos (by omega) (Ev.bind (eqSaved _ _ _ _ _ _ _ (by omega) (by omega)) (Ev.pos rfl ih'))))
  · refine Ev.succ ?_
    simp only [laws_eqSavedS.l0]
    exact Ev.neg (by omega) (Ev.now _)
theorem szSavedA (nm : ByteArray) (s r : Int) (t : List Int) (p q : Int) (l : List Int) (a : Int) (h0 : 0 ≤ a) (h1 : a ≤ 1048576) (hn : nm.size ≤ 140737488351232) (ht : t.length ≤ 17592186044416) (hl : l.length ≤ 17592186044416) : ∃ n, laws_szSaved.f nm s r t p q l a = some n ∧ (¬ n < 0 → n ≤ a) := by
  unfold laws_szSaved.f
  rw [wrap_id (x := a - (nm.size : Int)) (by omega) (by omega)]
  by_cases c : a - (nm.size : Int) < 0
  · rw [if_pos c]; exact ⟨-1, rfl, fun h => absurd (by omega) h⟩
  · rw [if_neg c, szRule s r t _ (by omega) (by omega) (by omega)]
    simp only [Option.bind_some]
    by_cases c1 : a - (nm.size : Int) - t.length < 0
    · rw [if_pos c1, if_pos (by omega)]; exact ⟨-1, rfl, fun h => absurd (by omega) h⟩
    · rw [if_neg c1, if_neg c1, szField p q l _ (by omega) (by omega) (by omega)]
      simp only [Option.bind_some]
      by_cases c2 : a - (nm.size : Int) - t.length - l.length < 0
      · rw [if_pos c2, if_pos (by omega)]; exact ⟨-1, rfl, fun h => absurd (by omega) h⟩
      · rw [if_neg c2, if_neg c2]; exact ⟨_, rfl, fun _ => by omega⟩
theorem szSavedS (l : List S57) (a : Int) (h0 : 0 ≤ a) (h1 : a ≤ 1048576) (hl : l.length ≤ 2932031007402) (hs : SmallL l) : ∃ n, Ev (fun k => laws_szSavedS.f k l a) n ∧ (¬ n < 0 → n ≤ 1048576) := by
  unfold laws_szSavedS.f
  rw [wrap_id (x := a - (l.length : Int)) (by omega) (by omega)]
  by_cases c : a - (l.length : Int) < 0
  · exact ⟨-1, Ev.pos c (Ev.now _), fun h => absurd (by omega) h⟩
  · have main : ∀ d i : Nat, i + d = l.length → ∀ b : Int, 0 ≤ b → b ≤ 1048576 → ∃ n, Ev (fun k => laws_szSavedS.l0 k l b (i : Int)) n ∧ (¬ n < 0 → n ≤ 1048576) := by
      intro d
      induction d with
      | zero =>
        intro i hi b hb0 hb1
        refine ⟨b, Ev.succ ?_, fun _ => hb1⟩
        simp only [laws_szSavedS.l0]
        exact Ev.neg (by omega) (Ev.now _)
      | succ d ih =>
        intro i hi b hb0 hb1
        have hil : i < l.length := by omega
        have hx := hs l[i] (List.getElem_mem hil)
        obtain ⟨n, hn1, hn2⟩ := szSavedA l[i].f0 l[i].f1.f0 l[i].f1.f1 l[i].f1.f2 l[i].f2.f0 l[i].f2.f1 l[i].f2.f2 b hb0 hb1 hx.1 hx.2.1 hx.2.2
        by_cases g : n < 0
        · refine ⟨-1, Ev.succ ?_, fun h => absurd (by omega) h⟩
          simp only [laws_szSavedS.l0]
          rw [rdL l i hil]
          exact Ev.pos (by omega) (Ev.pos (by omega) (Ev.bnd hn1 (Ev.pos g (Ev.now _))))
        · obtain ⟨m, hm1, hm2⟩ := ih (i + 1) (by omega) n (by omega) (by have := hn2 g; omega)
          refine ⟨m, Ev.succ ?_, hm2⟩
          simp only [laws_szSavedS.l0]
          rw [rdL l i hil, wrap_id (x := (i : Int) + 1) (by omega) (by omega)]
          exact Ev.pos (by omega) (Ev.pos (by omega) (Ev.bnd hn1 (Ev.neg g hm1)))
    obtain ⟨n, hn1, hn2⟩ := main l.length 0 (by omega) (a - l.length) (by omega) (by omega)
    exact ⟨n, Ev.neg c hn1, hn2⟩

theorem l02Equal (l m : List Int) (hl : l.length ≤ 35184372088832) : Ev (fun k => spec_l02Equal.f k l m) (decide (l = m)) := by
  unfold spec_l02Equal.f
  by_cases h : l.length = m.length
  · refine Ev.pos (by omega) ?_
    refine Ev.upto l.length (fun i => ∀ j, j < i → l[j]? = m[j]?) (fun _ => ()) _ (fun k _ i => spec_l02Equal.l0 k l m i) (fun i hi hp ih => ?_) (fun hp => ?_) (fun j hj => by omega)
    · refine Ev.succ ?_
      simp only [spec_l02Equal.l0]
      refine Ev.pos (by omega) (Ev.pos (by omega) (Ev.pos (by omega) ?_))
      rw [rd_lt l i (by omega), rd_lt m i (by omega)]
      by_cases e : l[i] = m[i]
      · refine Ev.pos e ?_
        rw [wrap_id (by omega) (by omega)]
        exact ih (fun j hj' => by
          by_cases hji : j < i
          · exact hp j hji
          · obtain rfl : j = i := by omega
            rw [List.getElem?_eq_getElem (by omega), List.getElem?_eq_getElem (by omega), e])
      · refine Ev.neg e (Ev.val ?_)
        rw [eq_comm, Option.some.injEq, decide_eq_false_iff_not]
        rintro rfl
        exact e rfl
    · refine Ev.succ ?_
      simp only [spec_l02Equal.l0]
      refine Ev.neg (by omega) (Ev.val ?_)
      have : l = m := List.ext_getElem? (fun j => by
        by_cases hjl : j < l.length
        · exact hp j (by omega)
        · rw [List.getElem?_eq_none (by omega), List.getElem?_eq_none (by omega)])
      simp [this]
  · refine Ev.neg (by omega) (Ev.val ?_)
    rw [eq_comm, Option.some.injEq, decide_eq_false_iff_not]
    rintro rfl
    exact h rfl
theorem slicesEqual (l m : List Int) (hl : l.length ≤ 35184372088832) : Ev (fun k => slices_Equal_int64_int64.f k l m) (decide (l = m)) := by
  unfold slices_Equal_int64_int64.f
  by_cases h : l.length = m.length
  · refine Ev.pos (by omega) ?_
    refine Ev.upto l.length (fun i => ∀ j, j < i → l[j]? = m[j]?) (fun _ => ()) _ (fun k _ i => slices_Equal_int64_int64.l0 k l m l.length i) (fun i hi hp ih => ?_) (fun hp => ?_) (fun j hj => by omega)
    · refine Ev.succ ?_
      simp only [slices_Equal_int64_int64.l0]
      refine Ev.pos (by omega) (Ev.pos (by omega) (Ev.pos (by omega) (Ev.pos (by omega) ?_)))
      rw [rd_lt l i (by omega), rd_lt m i (by omega)]
      by_cases e : l[i] = m[i]
      · refine Ev.pos e ?_
        rw [wrap_id (by omega) (by omega)]
        exact ih (fun j hj' => by
          by_cases hji : j < i
          · exact hp j hji
          · obtain rfl : j = i := by omega
            rw [List.getElem?_eq_getElem (by omega), List.getElem?_eq_getElem (by omega), e])
      · refine Ev.neg e (Ev.val ?_)
        rw [eq_comm, Option.some.injEq, decide_eq_false_iff_not]
        rintro rfl
        exact e rfl
    · refine Ev.succ ?_
      simp only [slices_Equal_int64_int64.l0]
      refine Ev.neg (by omega) (Ev.val ?_)
      have : l = m := List.ext_getElem? (fun j => by
        by_cases hjl : j < l.length
        · exact hp j (by omega)
        · rw [List.getElem?_eq_none (by omega), List.getElem?_eq_none (by omega)])
      simp [this]
  · refine Ev.neg (by omega) (Ev.val ?_)
    rw [eq_comm, Option.some.injEq, decide_eq_false_iff_not]
    rintro rfl
    exact h rfl

theorem l04Same (s r : Int) (t : List Int) (s' r' : Int) (t' : List Int) (hl : t.length ≤ 35184372088832) : Ev (fun k => spec_l04Same.f k s r t s' r' t') (decide (s = s' ∧ r = r' ∧ t = t')) := by
  unfold spec_l04Same.f
  exact Ev.cast (Ev.andP (fun _ => Ev.andP (fun _ => Ev.ret (l02Equal t t' hl)))) (by simp only [Bool.decide_and])
theorem sameField (s r : Int) (t : List Int) (s' r' : Int) (t' : List Int) (hl : t.length ≤ 35184372088832) : Ev (fun k => impl_SameField.f k s r t s' r' t') (decide (s = s' ∧ r = r' ∧ t = t')) := by
  unfold impl_SameField.f
  exact Ev.cast (Ev.andP (fun _ => Ev.andP (fun _ => Ev.ret (slicesEqual t t' hl)))) (by simp only [Bool.decide_and])

/-- Two that are saved are the same. -/
def eqvS (a b : S61) : Bool := decide (a.f0.toList = b.f0.toList) && (decide (a.f1.f0 = b.f1.f0 ∧ a.f1.f1 = b.f1.f1 ∧ a.f1.f2 = b.f1.f2) && decide (a.f2.f0 = b.f2.f0 ∧ a.f2.f1 = b.f2.f1 ∧ a.f2.f2 = b.f2.f2))
/-- What SameSaved answers. -/
def sameS (l m : List S61) : Bool := decide (l.length = m.length) && (List.range l.length).all fun i => eqvS (rd_T61 l (i : Int)) (rd_T61 m (i : Int))
theorem sameSavedSpec (l m : List S61) (hl : l.length ≤ 2932031007402) (hs : SmallI l) : Ev (fun k => spec_SameSaved.f k l m) (sameS l m) := by
  unfold spec_SameSaved.f sameS
  by_cases h : l.length = m.length
  · rw [decide_eq_true h, Bool.true_and]
    refine Ev.pos (by omega) (Ev.all l.length _ (fun k i => spec_SameSaved.l0 k l m l.length i) (fun i hi r ih => ?_) ?_)
    · refine Ev.succ ?_
      simp only [spec_SameSaved.l0]
      have hx := hs l[i] (List.getElem_mem hi)
      rw [wrap_id (x := (i : Int) + 1) (by omega) (by omega), rdI l i hi]
      refine Ev.pos (by omega) (Ev.pos (by omega) (Ev.pos (by omega) (Ev.pos (by omega) ?_)))
      unfold eqvS
      by_cases g : l[i].f0.toList = (rd_T61 m (i : Int)).f0.toList
      · rw [decide_eq_true g, Bool.true_and, Bool.and_assoc]
        refine Ev.pos g (Ev.and ?_ (fun _ => Ev.and (l04Same _ _ _ _ _ _ (by omega)) (fun _ => ih)))
        unfold spec_SameRule.f spec_l02Same.f
        exact Ev.ret (Ev.cast (Ev.andP (fun _ => Ev.andP (fun _ => Ev.ret (l02Equal _ _ (by omega))))) (by simp only [Bool.decide_and]))
      · rw [decide_eq_false g, Bool.false_and, Bool.false_and]
        exact Ev.neg g (Ev.now _)
    · refine Ev.succ ?_
      simp only [spec_SameSaved.l0]
      exact Ev.neg (by omega) (Ev.now _)
  · rw [decide_eq_false h, Bool.false_and]
    exact Ev.neg (by omega) (Ev.now _)
theorem sameSavedImpl (l m : List S61) (hl : l.length ≤ 2932031007402) (hs : SmallI l) : Ev (fun k => impl_SameSaved.f k l m) (sameS l m) := by
  unfold impl_SameSaved.f impl_Saved_impl_SameSaved_1.f sameS
  refine Ev.ret ?_
  by_cases h : l.length = m.length
  · rw [decide_eq_true h, Bool.true_and]
    refine Ev.pos (by omega) (Ev.all l.length _ (fun k i => impl_Saved_impl_SameSaved_1.l0 k m l l.length i) (fun i hi r ih => ?_) ?_)
    · refine Ev.succ ?_
      simp only [impl_Saved_impl_SameSaved_1.l0]
      have hx := hs l[i] (List.getElem_mem hi)
      rw [wrap_id (x := (i : Int) + 1) (by omega) (by omega), rdI l i hi]
      refine Ev.pos (by omega) (Ev.pos (by omega) (Ev.pos (by omega) (Ev.pos (by omega) (Ev.and ?_ (fun _ => ih)))))
      unfold impl_SameSaved_1.f eqvS
      by_cases g : l[i].f0.toList = (rd_T61 m (i : Int)).f0.toList
      · rw [decide_eq_true g, Bool.true_and]
        refine Ev.pos g (Ev.and ?_ (fun _ => Ev.ret (sameField _ _ _ _ _ _ (by omega))))
        unfold impl_SameRule.f
        exact Ev.cast (Ev.andP (fun _ => Ev.andP (fun _ => Ev.ret (slicesEqual _ _ (by omega))))) (by simp only [Bool.decide_and])
      · rw [decide_eq_false g, Bool.false_and]
        exact Ev.neg g (Ev.now _)
    · refine Ev.succ ?_
      simp only [impl_Saved_impl_SameSaved_1.l0]
      exact Ev.neg (by omega) (Ev.now _)
  · rw [decide_eq_false h, Bool.false_and]
    exact Ev.neg (by omega) (Ev.now _)
theorem FnExactSameSaved : laws_FnExactSameSaved.Pure := by
  intro l m hl hm
  have sl : SmallL l := fun x hx => by have := hl.1 x hx; omega
  have sm : SmallL m := fun x hx => by have := hm.1 x hx; omega
  have ll : l.length ≤ 2932031007402 := by omega
  have lm : m.length ≤ 2932031007402 := by omega
  refine Ev.rounds ?_
  unfold laws_FnExactSameSaved.f
  obtain ⟨n, hn1, hn2⟩ := szSavedS l 1048576 (by omega) (by omega) ll sl
  refine Ev.bind hn1 ?_
  by_cases c : n < 0
  · exact Ev.pos c (Ev.now _)
  · obtain ⟨o, ho1, ho2⟩ := szSavedS m n (by omega) (hn2 c) lm sm
    refine Ev.neg c (Ev.bind ho1 ?_)
    by_cases c' : o < 0
    · exact Ev.pos c' (Ev.now _)
    · have tl := toSavedS l ll sl
      have tm := toSavedS m lm sm
      have l1 : (l.map convS).length ≤ 2932031007402 := by simpa using ll
      have m1 : (m.map convS).length ≤ 2932031007402 := by simpa using lm
      exact Ev.neg c' (Ev.bind tl (Ev.bind tm (Ev.bind (sameSavedSpec _ _ l1 sl.conv) (Ev.bind tl (Ev.bind tm (Ev.bind (sameSavedImpl _ _ l1 sl.conv) (Ev.neg (by simp) (Ev.bind tl (Ev.bind (eqSavedS _ l1 sl.conv) (Ev.pos rfl (Ev.bind tm (Ev.bind (eqSavedS _ m1 sm.conv) (Ev.pos rfl (Ev.now _))))))))))))))

end Go.Proofs.Ytbeinhdoggfgkaa.Pure
